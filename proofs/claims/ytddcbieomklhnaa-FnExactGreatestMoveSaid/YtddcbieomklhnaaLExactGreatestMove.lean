/- FnExactGreatestMove returns true at every input: the walk. No condition beyond those that every argument meets. -/
import Derived.Test.YtddcbieomklhnaaGreatest
import Derived.Test.YtddcbieomklhnaaSMesh
import Derived.Deep.RegionHeld3
import Derived.Deep.DeepCutAuto
namespace Go.Proofs.Ytddcbieomklhnaa
open Go.RowKit Go.Lib Go.Ks
set_option linter.unusedVariables false
set_option maxRecDepth 100000 in
set_option maxHeartbeats 4000000 in
theorem lawGreatestMove (C0 R0 : Int) (A0 : Option Addr) (n0 c0 : Nat) (l0 : Nat → SpotD) (C1 R1 : Int) (A1 : Option Addr) (n1 c1 : Nat) (l1 : Nat → SpotD) (w : World) (yc0 : -9223372036854775808 ≤ C0 ∧ C0 ≤ 9223372036854775807) (yr0 : -9223372036854775808 ≤ R0 ∧ R0 ≤ 9223372036854775807) (b0 : n0 ≤ 9223372036854775807) (s0 : Sl w A0 (n0 * 2) (SpotC l0)) (g0 : ∀ k, k < n0 → SpotOk (l0 k)) (yc1 : -9223372036854775808 ≤ C1 ∧ C1 ≤ 9223372036854775807) (yr1 : -9223372036854775808 ≤ R1 ∧ R1 ≤ 9223372036854775807) (b1 : n1 ≤ 9223372036854775807) (s1 : Sl w A1 (n1 * 2) (SpotC l1)) (g1 : ∀ k, k < n1 → SpotOk (l1 k)) :
    Calls Try.prog 12 #[.agg #[.int .i64 C0, .int .i64 R0, .slice A0 n0 c0], .agg #[.int .i64 C1, .int .i64 R1, .slice A1 n1 c1]] w fun e w' => e = .returned (.bool true) ∧ Below w.heap.size w w' := by
  have D0 := Below.refl w.heap.size w
  go_enter Try.func12, Try.ntmps12
  go_wp2_with fail
  generalize hW1 : ((w.alloc (.cells #[.int .i64 C0, .int .i64 R0, .slice A0 n0 c0] 24)).alloc (.cells #[.int .i64 C1, .int .i64 R1, .slice A1 n1 c1] 24)) = w1
  have H1 : Below w.heap.size w w1 := by rw [← hW1]; repeat (first | with_reducible exact Below.refl _ _ | with_reducible assumption | with_reducible refine Below.setCell ?_ (by simp <;> omega) _ | with_reducible refine Below.alloc ?_ (by simp <;> omega) _ | with_reducible refine Below.drew ?_)
  have a0x1 : Blk w1 (w.heap.size) 24 #[.int .i64 C0, .int .i64 R0, .slice A0 n0 c0] := by rw [← hW1]; exact (Blk.new w 24 #[.int .i64 C0, .int .i64 R0, .slice A0 n0 c0]).alloc _
  have a1x1 : Blk w1 (w.heap.size + 1) 24 #[.int .i64 C1, .int .i64 R1, .slice A1 n1 c1] := by
    have h := Blk.new (w.alloc (.cells #[.int .i64 C0, .int .i64 R0, .slice A0 n0 c0] 24)) 24 #[.int .i64 C1, .int .i64 R1, .slice A1 n1 c1]
    rw [hW1] at h
    simpa using h
  clear hW1
  have D1 := D0.trans (H1.mono D0.size)
  have z1 := H1.size
  have a0f1_0 : w1.cell? ⟨w.heap.size, 0, none⟩ = some (.int .i64 C0) := a0x1.cell 0
  have a0f1_1 : w1.cell? ⟨w.heap.size, 1, none⟩ = some (.int .i64 R0) := a0x1.cell 1
  have a0f1_2 : w1.cell? ⟨w.heap.size, 2, none⟩ = some (.slice A0 n0 c0) := a0x1.cell 2
  have a0l1 := a0x1.lt
  have a1f1_0 : w1.cell? ⟨w.heap.size + 1, 0, none⟩ = some (.int .i64 C1) := a1x1.cell 0
  have a1f1_1 : w1.cell? ⟨w.heap.size + 1, 1, none⟩ = some (.int .i64 R1) := a1x1.cell 1
  have a1f1_2 : w1.cell? ⟨w.heap.size + 1, 2, none⟩ = some (.slice A1 n1 c1) := a1x1.cell 2
  have a1l1 := a1x1.lt
  refine (szMesh_any C0 R0 _ _ _ _ b0 (by omega) (by omega) _).mono ?_
  rintro e w2 ⟨⟨r2, rfl, hr2⟩, H2⟩
  have D2 := D1.trans (H2.mono D1.size)
  have z2 := H2.size
  have a0x2 := blk_step a0x1 H2
  have a1x2 := blk_step a1x1 H2
  clear a0f1_0 a0f1_1 a0f1_2
  have a0f2_0 : w2.cell? ⟨w.heap.size, 0, none⟩ = some (.int .i64 C0) := a0x2.cell 0
  have a0f2_1 : w2.cell? ⟨w.heap.size, 1, none⟩ = some (.int .i64 R0) := a0x2.cell 1
  have a0f2_2 : w2.cell? ⟨w.heap.size, 2, none⟩ = some (.slice A0 n0 c0) := a0x2.cell 2
  clear a0l1
  have a0l2 := a0x2.lt
  clear a1f1_0 a1f1_1 a1f1_2
  have a1f2_0 : w2.cell? ⟨w.heap.size + 1, 0, none⟩ = some (.int .i64 C1) := a1x2.cell 0
  have a1f2_1 : w2.cell? ⟨w.heap.size + 1, 1, none⟩ = some (.int .i64 R1) := a1x2.cell 1
  have a1f2_2 : w2.cell? ⟨w.heap.size + 1, 2, none⟩ = some (.slice A1 n1 c1) := a1x2.cell 2
  clear a1l1
  have a1l2 := a1x2.lt
  rcases hr2 with rfl | ⟨d2a, d2b, d2c⟩
  · go_wp2_with fail
    go_ret
    exact ⟨rfl, D2⟩
  have m0 : n0 ≤ 1048576 := by omega
  go_wp2_with fail
  refine (szMesh_any C1 R1 _ _ _ _ b1 (by omega) (by omega) _).mono ?_
  rintro e w3 ⟨⟨r3, rfl, hr3⟩, H3⟩
  have D3 := D2.trans (H3.mono D2.size)
  have z3 := H3.size
  have a0x3 := blk_step a0x2 H3
  have a1x3 := blk_step a1x2 H3
  clear a0f2_0 a0f2_1 a0f2_2
  have a0f3_0 : w3.cell? ⟨w.heap.size, 0, none⟩ = some (.int .i64 C0) := a0x3.cell 0
  have a0f3_1 : w3.cell? ⟨w.heap.size, 1, none⟩ = some (.int .i64 R0) := a0x3.cell 1
  have a0f3_2 : w3.cell? ⟨w.heap.size, 2, none⟩ = some (.slice A0 n0 c0) := a0x3.cell 2
  clear a0l2
  have a0l3 := a0x3.lt
  clear a1f2_0 a1f2_1 a1f2_2
  have a1f3_0 : w3.cell? ⟨w.heap.size + 1, 0, none⟩ = some (.int .i64 C1) := a1x3.cell 0
  have a1f3_1 : w3.cell? ⟨w.heap.size + 1, 1, none⟩ = some (.int .i64 R1) := a1x3.cell 1
  have a1f3_2 : w3.cell? ⟨w.heap.size + 1, 2, none⟩ = some (.slice A1 n1 c1) := a1x3.cell 2
  clear a1l2
  have a1l3 := a1x3.lt
  rcases hr3 with rfl | ⟨d3a, d3b, d3c⟩
  · go_wp2_with fail
    go_ret
    exact ⟨rfl, D3⟩
  have m1 : n1 ≤ 1048576 := by omega
  go_wp2_with fail
  go_cut [6, 7] (fun s6 s7 wr => s6 = .int .i64 (mGreatestV C0 R0 n0 l0 C1 R1 n1 l1) ∧ s7 = .int .i64 (mGreatestC C0 R0 n0 l0 C1 R1 n1 l1) ∧ Below w3.heap.size w3 wr)
  case first =>
    go_region_held3 (fun w' => w'.cell? ⟨w.heap.size, 0, none⟩ = some (.int .i64 C0) ∧ w'.cell? ⟨w.heap.size, 1, none⟩ = some (.int .i64 R0) ∧ w'.cell? ⟨w.heap.size, 2, none⟩ = some (.slice A0 n0 c0) ∧ w'.cell? ⟨w.heap.size + 1, 0, none⟩ = some (.int .i64 C1) ∧ w'.cell? ⟨w.heap.size + 1, 1, none⟩ = some (.int .i64 R1) ∧ w'.cell? ⟨w.heap.size + 1, 2, none⟩ = some (.slice A1 n1 c1))
      (first | exact ⟨a0y0_0, a0y0_1, a0y0_2, a1y0_0, a1y0_1, a1y0_2⟩ | exact ⟨a0y1_0, a0y1_1, a0y1_2, a1y1_0, a1y1_1, a1y1_2⟩ | exact ⟨a0y2_0, a0y2_1, a0y2_2, a1y2_0, a1y2_1, a1y2_2⟩ | go_keep)
      (first
      | (go_at_call_of 17 C0; refine (toMesh_any C0 R0 A0 n0 c0 l0 _ m0 (s0.below (by repeat (first | with_reducible exact Below.refl _ _ | with_reducible assumption | with_reducible refine Below.setCell ?_ (by simp <;> omega) _ | with_reducible refine Below.alloc ?_ (by simp <;> omega) _ | with_reducible refine Below.drew ?_)))).mono ?_; rintro e v0_0 ⟨⟨Bu0_0, rfl, hu0_0, tu0_0⟩, F0_0⟩; have E0_0 : Below w3.heap.size w3 v0_0 := below_then (by repeat (first | with_reducible exact Below.refl _ _ | with_reducible assumption | with_reducible refine Below.setCell ?_ (by simp <;> omega) _ | with_reducible refine Below.alloc ?_ (by simp <;> omega) _ | with_reducible refine Below.drew ?_)) F0_0; have DD0_0 := D3.trans (E0_0.mono D3.size); (try replace Ou0_1 := (Ou0_1.below (by repeat (first | with_reducible exact Below.refl _ _ | with_reducible assumption | with_reducible refine Below.setCell ?_ (by simp <;> omega) _ | with_reducible refine Below.alloc ?_ (by simp <;> omega) _ | with_reducible refine Below.drew ?_))).below F0_0); have Ou0_0 := Own.blk (size := 2) tu0_0 (Nat.zero_le _) (Nat.le_refl (n0 * 2)) (fun _ _ => rfl); have a0y0 := blk_then a0x3 (by repeat (first | with_reducible exact Below.refl _ _ | with_reducible assumption | with_reducible refine Below.setCell ?_ (by simp <;> omega) _ | with_reducible refine Below.alloc ?_ (by simp <;> omega) _ | with_reducible refine Below.drew ?_)) F0_0; have a0y0_0 : v0_0.cell? ⟨w.heap.size, 0, none⟩ = some (.int .i64 C0) := a0y0.cell 0; have a0y0_1 : v0_0.cell? ⟨w.heap.size, 1, none⟩ = some (.int .i64 R0) := a0y0.cell 1; have a0y0_2 : v0_0.cell? ⟨w.heap.size, 2, none⟩ = some (.slice A0 n0 c0) := a0y0.cell 2; have a0y0_l := a0y0.lt; have a1y0 := blk_then a1x3 (by repeat (first | with_reducible exact Below.refl _ _ | with_reducible assumption | with_reducible refine Below.setCell ?_ (by simp <;> omega) _ | with_reducible refine Below.alloc ?_ (by simp <;> omega) _ | with_reducible refine Below.drew ?_)) F0_0; have a1y0_0 : v0_0.cell? ⟨w.heap.size + 1, 0, none⟩ = some (.int .i64 C1) := a1y0.cell 0; have a1y0_1 : v0_0.cell? ⟨w.heap.size + 1, 1, none⟩ = some (.int .i64 R1) := a1y0.cell 1; have a1y0_2 : v0_0.cell? ⟨w.heap.size + 1, 2, none⟩ = some (.slice A1 n1 c1) := a1y0.cell 2; have a1y0_l := a1y0.lt)
      | (go_at_call_of 17 C1; refine (toMesh_any C1 R1 A1 n1 c1 l1 _ m1 (s1.below (by repeat (first | with_reducible exact Below.refl _ _ | with_reducible assumption | with_reducible refine Below.setCell ?_ (by simp <;> omega) _ | with_reducible refine Below.alloc ?_ (by simp <;> omega) _ | with_reducible refine Below.drew ?_)))).mono ?_; rintro e v0_1 ⟨⟨Bu0_1, rfl, hu0_1, tu0_1⟩, F0_1⟩; have E0_1 : Below w3.heap.size w3 v0_1 := below_then (by repeat (first | with_reducible exact Below.refl _ _ | with_reducible assumption | with_reducible refine Below.setCell ?_ (by simp <;> omega) _ | with_reducible refine Below.alloc ?_ (by simp <;> omega) _ | with_reducible refine Below.drew ?_)) F0_1; have DD0_1 := D3.trans (E0_1.mono D3.size); (try replace Ou0_0 := (Ou0_0.below (by repeat (first | with_reducible exact Below.refl _ _ | with_reducible assumption | with_reducible refine Below.setCell ?_ (by simp <;> omega) _ | with_reducible refine Below.alloc ?_ (by simp <;> omega) _ | with_reducible refine Below.drew ?_))).below F0_1); have Ou0_1 := Own.blk (size := 2) tu0_1 (Nat.zero_le _) (Nat.le_refl (n1 * 2)) (fun _ _ => rfl); have a0y1 := blk_then a0x3 (by repeat (first | with_reducible exact Below.refl _ _ | with_reducible assumption | with_reducible refine Below.setCell ?_ (by simp <;> omega) _ | with_reducible refine Below.alloc ?_ (by simp <;> omega) _ | with_reducible refine Below.drew ?_)) F0_1; have a0y1_0 : v0_1.cell? ⟨w.heap.size, 0, none⟩ = some (.int .i64 C0) := a0y1.cell 0; have a0y1_1 : v0_1.cell? ⟨w.heap.size, 1, none⟩ = some (.int .i64 R0) := a0y1.cell 1; have a0y1_2 : v0_1.cell? ⟨w.heap.size, 2, none⟩ = some (.slice A0 n0 c0) := a0y1.cell 2; have a0y1_l := a0y1.lt; have a1y1 := blk_then a1x3 (by repeat (first | with_reducible exact Below.refl _ _ | with_reducible assumption | with_reducible refine Below.setCell ?_ (by simp <;> omega) _ | with_reducible refine Below.alloc ?_ (by simp <;> omega) _ | with_reducible refine Below.drew ?_)) F0_1; have a1y1_0 : v0_1.cell? ⟨w.heap.size + 1, 0, none⟩ = some (.int .i64 C1) := a1y1.cell 0; have a1y1_1 : v0_1.cell? ⟨w.heap.size + 1, 1, none⟩ = some (.int .i64 R1) := a1y1.cell 1; have a1y1_2 : v0_1.cell? ⟨w.heap.size + 1, 2, none⟩ = some (.slice A1 n1 c1) := a1y1.cell 2; have a1y1_l := a1y1.lt)
      | (go_at_call 43; refine (specGreatestMove_any C0 R0 _ n0 _ l0 C1 R1 _ n1 _ l1 _ m0 (Ou0_0.below (by repeat (first | with_reducible exact Below.refl _ _ | with_reducible assumption | with_reducible refine Below.setCell ?_ (by simp <;> omega) _ | with_reducible refine Below.alloc ?_ (by simp <;> omega) _ | with_reducible refine Below.drew ?_))).sl g0 m1 (Ou0_1.below (by repeat (first | with_reducible exact Below.refl _ _ | with_reducible assumption | with_reducible refine Below.setCell ?_ (by simp <;> omega) _ | with_reducible refine Below.alloc ?_ (by simp <;> omega) _ | with_reducible refine Below.drew ?_))).sl g1).mono ?_; rintro e v0_2 ⟨rfl, F0_2⟩; have E0_2 : Below w3.heap.size w3 v0_2 := below_then (by repeat (first | with_reducible exact Below.refl _ _ | with_reducible assumption | with_reducible refine Below.setCell ?_ (by simp <;> omega) _ | with_reducible refine Below.alloc ?_ (by simp <;> omega) _ | with_reducible refine Below.drew ?_)) F0_2; have DD0_2 := D3.trans (E0_2.mono D3.size); (try replace Ou0_0 := (Ou0_0.below (by repeat (first | with_reducible exact Below.refl _ _ | with_reducible assumption | with_reducible refine Below.setCell ?_ (by simp <;> omega) _ | with_reducible refine Below.alloc ?_ (by simp <;> omega) _ | with_reducible refine Below.drew ?_))).below F0_2); (try replace Ou0_1 := (Ou0_1.below (by repeat (first | with_reducible exact Below.refl _ _ | with_reducible assumption | with_reducible refine Below.setCell ?_ (by simp <;> omega) _ | with_reducible refine Below.alloc ?_ (by simp <;> omega) _ | with_reducible refine Below.drew ?_))).below F0_2); have a0y2 := blk_then a0x3 (by repeat (first | with_reducible exact Below.refl _ _ | with_reducible assumption | with_reducible refine Below.setCell ?_ (by simp <;> omega) _ | with_reducible refine Below.alloc ?_ (by simp <;> omega) _ | with_reducible refine Below.drew ?_)) F0_2; have a0y2_0 : v0_2.cell? ⟨w.heap.size, 0, none⟩ = some (.int .i64 C0) := a0y2.cell 0; have a0y2_1 : v0_2.cell? ⟨w.heap.size, 1, none⟩ = some (.int .i64 R0) := a0y2.cell 1; have a0y2_2 : v0_2.cell? ⟨w.heap.size, 2, none⟩ = some (.slice A0 n0 c0) := a0y2.cell 2; have a0y2_l := a0y2.lt; have a1y2 := blk_then a1x3 (by repeat (first | with_reducible exact Below.refl _ _ | with_reducible assumption | with_reducible refine Below.setCell ?_ (by simp <;> omega) _ | with_reducible refine Below.alloc ?_ (by simp <;> omega) _ | with_reducible refine Below.drew ?_)) F0_2; have a1y2_0 : v0_2.cell? ⟨w.heap.size + 1, 0, none⟩ = some (.int .i64 C1) := a1y2.cell 0; have a1y2_1 : v0_2.cell? ⟨w.heap.size + 1, 1, none⟩ = some (.int .i64 R1) := a1y2.cell 1; have a1y2_2 : v0_2.cell? ⟨w.heap.size + 1, 2, none⟩ = some (.slice A1 n1 c1) := a1y2.cell 2; have a1y2_l := a1y2.lt))
    all_goals (try go_wp2_with fail)
    all_goals (go_meet; exact ⟨rfl, rfl, E0_2⟩)
  obtain ⟨rfl, rfl, H4⟩ := hcut
  obtain ⟨w4, rfl⟩ : ∃ q : World, q = wc := ⟨_, rfl⟩
  have D4 := D3.trans (H4.mono D3.size)
  have z4 := H4.size
  have a0x4 := blk_step a0x3 H4
  have a1x4 := blk_step a1x3 H4
  clear a0f3_0 a0f3_1 a0f3_2
  have a0f4_0 : w4.cell? ⟨w.heap.size, 0, none⟩ = some (.int .i64 C0) := a0x4.cell 0
  have a0f4_1 : w4.cell? ⟨w.heap.size, 1, none⟩ = some (.int .i64 R0) := a0x4.cell 1
  have a0f4_2 : w4.cell? ⟨w.heap.size, 2, none⟩ = some (.slice A0 n0 c0) := a0x4.cell 2
  clear a0l3
  have a0l4 := a0x4.lt
  clear a1f3_0 a1f3_1 a1f3_2
  have a1f4_0 : w4.cell? ⟨w.heap.size + 1, 0, none⟩ = some (.int .i64 C1) := a1x4.cell 0
  have a1f4_1 : w4.cell? ⟨w.heap.size + 1, 1, none⟩ = some (.int .i64 R1) := a1x4.cell 1
  have a1f4_2 : w4.cell? ⟨w.heap.size + 1, 2, none⟩ = some (.slice A1 n1 c1) := a1x4.cell 2
  clear a1l3
  have a1l4 := a1x4.lt
  go_wp2_with fail
  refine (toMesh_any C0 R0 A0 n0 c0 l0 _ m0 (s0.below D4)).mono ?_
  rintro e w5 ⟨⟨Bx0, rfl, hB5, t5⟩, H5⟩
  have D5 := D4.trans (H5.mono D4.size)
  have z5 := H5.size
  have a0x5 := blk_step a0x4 H5
  have a1x5 := blk_step a1x4 H5
  clear a0f4_0 a0f4_1 a0f4_2
  have a0f5_0 : w5.cell? ⟨w.heap.size, 0, none⟩ = some (.int .i64 C0) := a0x5.cell 0
  have a0f5_1 : w5.cell? ⟨w.heap.size, 1, none⟩ = some (.int .i64 R0) := a0x5.cell 1
  have a0f5_2 : w5.cell? ⟨w.heap.size, 2, none⟩ = some (.slice A0 n0 c0) := a0x5.cell 2
  clear a0l4
  have a0l5 := a0x5.lt
  clear a1f4_0 a1f4_1 a1f4_2
  have a1f5_0 : w5.cell? ⟨w.heap.size + 1, 0, none⟩ = some (.int .i64 C1) := a1x5.cell 0
  have a1f5_1 : w5.cell? ⟨w.heap.size + 1, 1, none⟩ = some (.int .i64 R1) := a1x5.cell 1
  have a1f5_2 : w5.cell? ⟨w.heap.size + 1, 2, none⟩ = some (.slice A1 n1 c1) := a1x5.cell 2
  clear a1l4
  have a1l5 := a1x5.lt
  have x0o5 := Own.blk (base := w4.heap.size) (size := 2) t5 hB5 (Nat.le_refl (n0 * 2)) (fun _ _ => rfl)
  have x0U := x0o5.und
  have x0O := x0o5.over
  go_wp2_with fail
  generalize hW6 : (w5.alloc (.cells #[.int .i64 C0, .int .i64 R0, .slice (some ⟨Bx0, 0, none⟩) n0 n0] 29)) = w6
  have H6 : Below w5.heap.size w5 w6 := by rw [← hW6]; repeat (first | with_reducible exact Below.refl _ _ | with_reducible assumption | with_reducible refine Below.setCell ?_ (by simp <;> omega) _ | with_reducible refine Below.alloc ?_ (by simp <;> omega) _ | with_reducible refine Below.drew ?_)
  have x0x6 : Blk w6 (w5.heap.size) 29 #[.int .i64 C0, .int .i64 R0, .slice (some ⟨Bx0, 0, none⟩) n0 n0] := by rw [← hW6]; exact Blk.new w5 29 #[.int .i64 C0, .int .i64 R0, .slice (some ⟨Bx0, 0, none⟩) n0 n0]
  clear hW6
  have D6 := D5.trans (H6.mono D5.size)
  have z6 := H6.size
  have x0o6 := x0o5.below H6
  have a0x6 := blk_step a0x5 H6
  have a1x6 := blk_step a1x5 H6
  clear a0f5_0 a0f5_1 a0f5_2
  have a0f6_0 : w6.cell? ⟨w.heap.size, 0, none⟩ = some (.int .i64 C0) := a0x6.cell 0
  have a0f6_1 : w6.cell? ⟨w.heap.size, 1, none⟩ = some (.int .i64 R0) := a0x6.cell 1
  have a0f6_2 : w6.cell? ⟨w.heap.size, 2, none⟩ = some (.slice A0 n0 c0) := a0x6.cell 2
  clear a0l5
  have a0l6 := a0x6.lt
  clear a1f5_0 a1f5_1 a1f5_2
  have a1f6_0 : w6.cell? ⟨w.heap.size + 1, 0, none⟩ = some (.int .i64 C1) := a1x6.cell 0
  have a1f6_1 : w6.cell? ⟨w.heap.size + 1, 1, none⟩ = some (.int .i64 R1) := a1x6.cell 1
  have a1f6_2 : w6.cell? ⟨w.heap.size + 1, 2, none⟩ = some (.slice A1 n1 c1) := a1x6.cell 2
  clear a1l5
  have a1l6 := a1x6.lt
  have x0f6_0 : w6.cell? ⟨w5.heap.size, 0, none⟩ = some (.int .i64 C0) := x0x6.cell 0
  have x0f6_1 : w6.cell? ⟨w5.heap.size, 1, none⟩ = some (.int .i64 R0) := x0x6.cell 1
  have x0f6_2 : w6.cell? ⟨w5.heap.size, 2, none⟩ = some (.slice (some ⟨Bx0, 0, none⟩) n0 n0) := x0x6.cell 2
  have x0l6 := x0x6.lt
  refine (toMesh_any C1 R1 A1 n1 c1 l1 _ m1 (s1.below D6)).mono ?_
  rintro e w7 ⟨⟨Bx1, rfl, hB7, t7⟩, H7⟩
  have D7 := D6.trans (H7.mono D6.size)
  have z7 := H7.size
  have x0o7 := x0o6.below H7
  have a0x7 := blk_step a0x6 H7
  have a1x7 := blk_step a1x6 H7
  have x0x7 := blk_step x0x6 H7
  clear a0f6_0 a0f6_1 a0f6_2
  have a0f7_0 : w7.cell? ⟨w.heap.size, 0, none⟩ = some (.int .i64 C0) := a0x7.cell 0
  have a0f7_1 : w7.cell? ⟨w.heap.size, 1, none⟩ = some (.int .i64 R0) := a0x7.cell 1
  have a0f7_2 : w7.cell? ⟨w.heap.size, 2, none⟩ = some (.slice A0 n0 c0) := a0x7.cell 2
  clear a0l6
  have a0l7 := a0x7.lt
  clear a1f6_0 a1f6_1 a1f6_2
  have a1f7_0 : w7.cell? ⟨w.heap.size + 1, 0, none⟩ = some (.int .i64 C1) := a1x7.cell 0
  have a1f7_1 : w7.cell? ⟨w.heap.size + 1, 1, none⟩ = some (.int .i64 R1) := a1x7.cell 1
  have a1f7_2 : w7.cell? ⟨w.heap.size + 1, 2, none⟩ = some (.slice A1 n1 c1) := a1x7.cell 2
  clear a1l6
  have a1l7 := a1x7.lt
  clear x0f6_0 x0f6_1 x0f6_2
  have x0f7_0 : w7.cell? ⟨w5.heap.size, 0, none⟩ = some (.int .i64 C0) := x0x7.cell 0
  have x0f7_1 : w7.cell? ⟨w5.heap.size, 1, none⟩ = some (.int .i64 R0) := x0x7.cell 1
  have x0f7_2 : w7.cell? ⟨w5.heap.size, 2, none⟩ = some (.slice (some ⟨Bx0, 0, none⟩) n0 n0) := x0x7.cell 2
  clear x0l6
  have x0l7 := x0x7.lt
  have x1o7 := Own.blk (base := w6.heap.size) (size := 2) t7 hB7 (Nat.le_refl (n1 * 2)) (fun _ _ => rfl)
  have x1U := x1o7.und
  have x1O := x1o7.over
  go_wp2_with fail
  generalize hW8 : (w7.alloc (.cells #[.int .i64 C1, .int .i64 R1, .slice (some ⟨Bx1, 0, none⟩) n1 n1] 29)) = w8
  have H8 : Below w7.heap.size w7 w8 := by rw [← hW8]; repeat (first | with_reducible exact Below.refl _ _ | with_reducible assumption | with_reducible refine Below.setCell ?_ (by simp <;> omega) _ | with_reducible refine Below.alloc ?_ (by simp <;> omega) _ | with_reducible refine Below.drew ?_)
  have x1x8 : Blk w8 (w7.heap.size) 29 #[.int .i64 C1, .int .i64 R1, .slice (some ⟨Bx1, 0, none⟩) n1 n1] := by rw [← hW8]; exact Blk.new w7 29 #[.int .i64 C1, .int .i64 R1, .slice (some ⟨Bx1, 0, none⟩) n1 n1]
  clear hW8
  have D8 := D7.trans (H8.mono D7.size)
  have z8 := H8.size
  have x0o8 := x0o7.below H8
  have x1o8 := x1o7.below H8
  have a0x8 := blk_step a0x7 H8
  have a1x8 := blk_step a1x7 H8
  have x0x8 := blk_step x0x7 H8
  clear a0f7_0 a0f7_1 a0f7_2
  have a0f8_0 : w8.cell? ⟨w.heap.size, 0, none⟩ = some (.int .i64 C0) := a0x8.cell 0
  have a0f8_1 : w8.cell? ⟨w.heap.size, 1, none⟩ = some (.int .i64 R0) := a0x8.cell 1
  have a0f8_2 : w8.cell? ⟨w.heap.size, 2, none⟩ = some (.slice A0 n0 c0) := a0x8.cell 2
  clear a0l7
  have a0l8 := a0x8.lt
  clear a1f7_0 a1f7_1 a1f7_2
  have a1f8_0 : w8.cell? ⟨w.heap.size + 1, 0, none⟩ = some (.int .i64 C1) := a1x8.cell 0
  have a1f8_1 : w8.cell? ⟨w.heap.size + 1, 1, none⟩ = some (.int .i64 R1) := a1x8.cell 1
  have a1f8_2 : w8.cell? ⟨w.heap.size + 1, 2, none⟩ = some (.slice A1 n1 c1) := a1x8.cell 2
  clear a1l7
  have a1l8 := a1x8.lt
  clear x0f7_0 x0f7_1 x0f7_2
  have x0f8_0 : w8.cell? ⟨w5.heap.size, 0, none⟩ = some (.int .i64 C0) := x0x8.cell 0
  have x0f8_1 : w8.cell? ⟨w5.heap.size, 1, none⟩ = some (.int .i64 R0) := x0x8.cell 1
  have x0f8_2 : w8.cell? ⟨w5.heap.size, 2, none⟩ = some (.slice (some ⟨Bx0, 0, none⟩) n0 n0) := x0x8.cell 2
  clear x0l7
  have x0l8 := x0x8.lt
  have x1f8_0 : w8.cell? ⟨w7.heap.size, 0, none⟩ = some (.int .i64 C1) := x1x8.cell 0
  have x1f8_1 : w8.cell? ⟨w7.heap.size, 1, none⟩ = some (.int .i64 R1) := x1x8.cell 1
  have x1f8_2 : w8.cell? ⟨w7.heap.size, 2, none⟩ = some (.slice (some ⟨Bx1, 0, none⟩) n1 n1) := x1x8.cell 2
  have x1l8 := x1x8.lt
  refine (implGreatestMove_any C0 R0 _ n0 _ l0 C1 R1 _ n1 _ l1 _ m0 x0o8.sl g0 m1 x1o8.sl g1).mono ?_
  rintro e w9 ⟨rfl, H9⟩
  have D9 := D8.trans (H9.mono D8.size)
  have z9 := H9.size
  have x0o9 := x0o8.below H9
  have x1o9 := x1o8.below H9
  have a0x9 := blk_step a0x8 H9
  have a1x9 := blk_step a1x8 H9
  have x0x9 := blk_step x0x8 H9
  have x1x9 := blk_step x1x8 H9
  clear a0f8_0 a0f8_1 a0f8_2
  have a0f9_0 : w9.cell? ⟨w.heap.size, 0, none⟩ = some (.int .i64 C0) := a0x9.cell 0
  have a0f9_1 : w9.cell? ⟨w.heap.size, 1, none⟩ = some (.int .i64 R0) := a0x9.cell 1
  have a0f9_2 : w9.cell? ⟨w.heap.size, 2, none⟩ = some (.slice A0 n0 c0) := a0x9.cell 2
  clear a0l8
  have a0l9 := a0x9.lt
  clear a1f8_0 a1f8_1 a1f8_2
  have a1f9_0 : w9.cell? ⟨w.heap.size + 1, 0, none⟩ = some (.int .i64 C1) := a1x9.cell 0
  have a1f9_1 : w9.cell? ⟨w.heap.size + 1, 1, none⟩ = some (.int .i64 R1) := a1x9.cell 1
  have a1f9_2 : w9.cell? ⟨w.heap.size + 1, 2, none⟩ = some (.slice A1 n1 c1) := a1x9.cell 2
  clear a1l8
  have a1l9 := a1x9.lt
  clear x0f8_0 x0f8_1 x0f8_2
  have x0f9_0 : w9.cell? ⟨w5.heap.size, 0, none⟩ = some (.int .i64 C0) := x0x9.cell 0
  have x0f9_1 : w9.cell? ⟨w5.heap.size, 1, none⟩ = some (.int .i64 R0) := x0x9.cell 1
  have x0f9_2 : w9.cell? ⟨w5.heap.size, 2, none⟩ = some (.slice (some ⟨Bx0, 0, none⟩) n0 n0) := x0x9.cell 2
  clear x0l8
  have x0l9 := x0x9.lt
  clear x1f8_0 x1f8_1 x1f8_2
  have x1f9_0 : w9.cell? ⟨w7.heap.size, 0, none⟩ = some (.int .i64 C1) := x1x9.cell 0
  have x1f9_1 : w9.cell? ⟨w7.heap.size, 1, none⟩ = some (.int .i64 R1) := x1x9.cell 1
  have x1f9_2 : w9.cell? ⟨w7.heap.size, 2, none⟩ = some (.slice (some ⟨Bx1, 0, none⟩) n1 n1) := x1x9.cell 2
  clear x1l8
  have x1l9 := x1x9.lt
  go_wp2_with fail
  go_cut [52] (fun s52 wr => s52 = .bool false ∧ Below w9.heap.size w9 wr)
  case first =>
    go_region_held3 (fun w' => w'.cell? ⟨w.heap.size, 0, none⟩ = some (.int .i64 C0) ∧ w'.cell? ⟨w.heap.size, 1, none⟩ = some (.int .i64 R0) ∧ w'.cell? ⟨w.heap.size, 2, none⟩ = some (.slice A0 n0 c0) ∧ w'.cell? ⟨w.heap.size + 1, 0, none⟩ = some (.int .i64 C1) ∧ w'.cell? ⟨w.heap.size + 1, 1, none⟩ = some (.int .i64 R1) ∧ w'.cell? ⟨w.heap.size + 1, 2, none⟩ = some (.slice A1 n1 c1) ∧ w'.cell? ⟨w5.heap.size, 0, none⟩ = some (.int .i64 C0) ∧ w'.cell? ⟨w5.heap.size, 1, none⟩ = some (.int .i64 R0) ∧ w'.cell? ⟨w5.heap.size, 2, none⟩ = some (.slice (some ⟨Bx0, 0, none⟩) n0 n0) ∧ w'.cell? ⟨w7.heap.size, 0, none⟩ = some (.int .i64 C1) ∧ w'.cell? ⟨w7.heap.size, 1, none⟩ = some (.int .i64 R1) ∧ w'.cell? ⟨w7.heap.size, 2, none⟩ = some (.slice (some ⟨Bx1, 0, none⟩) n1 n1))
      (first | exact ⟨a0y0_0, a0y0_1, a0y0_2, a1y0_0, a1y0_1, a1y0_2, x0y0_0, x0y0_1, x0y0_2, x1y0_0, x1y0_1, x1y0_2⟩ | exact ⟨a0y1_0, a0y1_1, a0y1_2, a1y1_0, a1y1_1, a1y1_2, x0y1_0, x0y1_1, x0y1_2, x1y1_0, x1y1_1, x1y1_2⟩ | go_keep)
      (first
      | (go_at_call 17; refine (toMesh_any C0 R0 A0 n0 c0 l0 _ m0 (s0.below (by repeat (first | with_reducible exact Below.refl _ _ | with_reducible assumption | with_reducible refine Below.setCell ?_ (by simp <;> omega) _ | with_reducible refine Below.alloc ?_ (by simp <;> omega) _ | with_reducible refine Below.drew ?_)))).mono ?_; rintro e v1_0 ⟨⟨Be1, rfl, he1, te1⟩, F1_0⟩; have E1_0 : Below w9.heap.size w9 v1_0 := below_then (by repeat (first | with_reducible exact Below.refl _ _ | with_reducible assumption | with_reducible refine Below.setCell ?_ (by simp <;> omega) _ | with_reducible refine Below.alloc ?_ (by simp <;> omega) _ | with_reducible refine Below.drew ?_)) F1_0; have DD1_0 := D9.trans (E1_0.mono D9.size); have Oe1 := Own.blk (size := 2) te1 (Nat.zero_le _) (Nat.le_refl (n0 * 2)) (fun _ _ => rfl); have a0y0 := blk_then a0x9 (by repeat (first | with_reducible exact Below.refl _ _ | with_reducible assumption | with_reducible refine Below.setCell ?_ (by simp <;> omega) _ | with_reducible refine Below.alloc ?_ (by simp <;> omega) _ | with_reducible refine Below.drew ?_)) F1_0; have a0y0_0 : v1_0.cell? ⟨w.heap.size, 0, none⟩ = some (.int .i64 C0) := a0y0.cell 0; have a0y0_1 : v1_0.cell? ⟨w.heap.size, 1, none⟩ = some (.int .i64 R0) := a0y0.cell 1; have a0y0_2 : v1_0.cell? ⟨w.heap.size, 2, none⟩ = some (.slice A0 n0 c0) := a0y0.cell 2; have a0y0_l := a0y0.lt; have a1y0 := blk_then a1x9 (by repeat (first | with_reducible exact Below.refl _ _ | with_reducible assumption | with_reducible refine Below.setCell ?_ (by simp <;> omega) _ | with_reducible refine Below.alloc ?_ (by simp <;> omega) _ | with_reducible refine Below.drew ?_)) F1_0; have a1y0_0 : v1_0.cell? ⟨w.heap.size + 1, 0, none⟩ = some (.int .i64 C1) := a1y0.cell 0; have a1y0_1 : v1_0.cell? ⟨w.heap.size + 1, 1, none⟩ = some (.int .i64 R1) := a1y0.cell 1; have a1y0_2 : v1_0.cell? ⟨w.heap.size + 1, 2, none⟩ = some (.slice A1 n1 c1) := a1y0.cell 2; have a1y0_l := a1y0.lt; have x0y0 := blk_then x0x9 (by repeat (first | with_reducible exact Below.refl _ _ | with_reducible assumption | with_reducible refine Below.setCell ?_ (by simp <;> omega) _ | with_reducible refine Below.alloc ?_ (by simp <;> omega) _ | with_reducible refine Below.drew ?_)) F1_0; have x0y0_0 : v1_0.cell? ⟨w5.heap.size, 0, none⟩ = some (.int .i64 C0) := x0y0.cell 0; have x0y0_1 : v1_0.cell? ⟨w5.heap.size, 1, none⟩ = some (.int .i64 R0) := x0y0.cell 1; have x0y0_2 : v1_0.cell? ⟨w5.heap.size, 2, none⟩ = some (.slice (some ⟨Bx0, 0, none⟩) n0 n0) := x0y0.cell 2; have x0y0_l := x0y0.lt; have x1y0 := blk_then x1x9 (by repeat (first | with_reducible exact Below.refl _ _ | with_reducible assumption | with_reducible refine Below.setCell ?_ (by simp <;> omega) _ | with_reducible refine Below.alloc ?_ (by simp <;> omega) _ | with_reducible refine Below.drew ?_)) F1_0; have x1y0_0 : v1_0.cell? ⟨w7.heap.size, 0, none⟩ = some (.int .i64 C1) := x1y0.cell 0; have x1y0_1 : v1_0.cell? ⟨w7.heap.size, 1, none⟩ = some (.int .i64 R1) := x1y0.cell 1; have x1y0_2 : v1_0.cell? ⟨w7.heap.size, 2, none⟩ = some (.slice (some ⟨Bx1, 0, none⟩) n1 n1) := x1y0.cell 2; have x1y0_l := x1y0.lt)
      | (go_at_call 19; refine (eqMesh_yes C0 R0 _ _ n0 _ _ l0 _ (by omega) (x0o9.below (by repeat (first | with_reducible exact Below.refl _ _ | with_reducible assumption | with_reducible refine Below.setCell ?_ (by simp <;> omega) _ | with_reducible refine Below.alloc ?_ (by simp <;> omega) _ | with_reducible refine Below.drew ?_))).sl (Oe1.below (by repeat (first | with_reducible exact Below.refl _ _ | with_reducible assumption | with_reducible refine Below.setCell ?_ (by simp <;> omega) _ | with_reducible refine Below.alloc ?_ (by simp <;> omega) _ | with_reducible refine Below.drew ?_))).sl).mono ?_; rintro e v1_1 ⟨rfl, F1_1⟩; have E1_1 : Below w9.heap.size w9 v1_1 := below_then (by repeat (first | with_reducible exact Below.refl _ _ | with_reducible assumption | with_reducible refine Below.setCell ?_ (by simp <;> omega) _ | with_reducible refine Below.alloc ?_ (by simp <;> omega) _ | with_reducible refine Below.drew ?_)) F1_1; have DD1_1 := D9.trans (E1_1.mono D9.size); (try replace Oe1 := (Oe1.below (by repeat (first | with_reducible exact Below.refl _ _ | with_reducible assumption | with_reducible refine Below.setCell ?_ (by simp <;> omega) _ | with_reducible refine Below.alloc ?_ (by simp <;> omega) _ | with_reducible refine Below.drew ?_))).below F1_1); have a0y1 := blk_then a0x9 (by repeat (first | with_reducible exact Below.refl _ _ | with_reducible assumption | with_reducible refine Below.setCell ?_ (by simp <;> omega) _ | with_reducible refine Below.alloc ?_ (by simp <;> omega) _ | with_reducible refine Below.drew ?_)) F1_1; have a0y1_0 : v1_1.cell? ⟨w.heap.size, 0, none⟩ = some (.int .i64 C0) := a0y1.cell 0; have a0y1_1 : v1_1.cell? ⟨w.heap.size, 1, none⟩ = some (.int .i64 R0) := a0y1.cell 1; have a0y1_2 : v1_1.cell? ⟨w.heap.size, 2, none⟩ = some (.slice A0 n0 c0) := a0y1.cell 2; have a0y1_l := a0y1.lt; have a1y1 := blk_then a1x9 (by repeat (first | with_reducible exact Below.refl _ _ | with_reducible assumption | with_reducible refine Below.setCell ?_ (by simp <;> omega) _ | with_reducible refine Below.alloc ?_ (by simp <;> omega) _ | with_reducible refine Below.drew ?_)) F1_1; have a1y1_0 : v1_1.cell? ⟨w.heap.size + 1, 0, none⟩ = some (.int .i64 C1) := a1y1.cell 0; have a1y1_1 : v1_1.cell? ⟨w.heap.size + 1, 1, none⟩ = some (.int .i64 R1) := a1y1.cell 1; have a1y1_2 : v1_1.cell? ⟨w.heap.size + 1, 2, none⟩ = some (.slice A1 n1 c1) := a1y1.cell 2; have a1y1_l := a1y1.lt; have x0y1 := blk_then x0x9 (by repeat (first | with_reducible exact Below.refl _ _ | with_reducible assumption | with_reducible refine Below.setCell ?_ (by simp <;> omega) _ | with_reducible refine Below.alloc ?_ (by simp <;> omega) _ | with_reducible refine Below.drew ?_)) F1_1; have x0y1_0 : v1_1.cell? ⟨w5.heap.size, 0, none⟩ = some (.int .i64 C0) := x0y1.cell 0; have x0y1_1 : v1_1.cell? ⟨w5.heap.size, 1, none⟩ = some (.int .i64 R0) := x0y1.cell 1; have x0y1_2 : v1_1.cell? ⟨w5.heap.size, 2, none⟩ = some (.slice (some ⟨Bx0, 0, none⟩) n0 n0) := x0y1.cell 2; have x0y1_l := x0y1.lt; have x1y1 := blk_then x1x9 (by repeat (first | with_reducible exact Below.refl _ _ | with_reducible assumption | with_reducible refine Below.setCell ?_ (by simp <;> omega) _ | with_reducible refine Below.alloc ?_ (by simp <;> omega) _ | with_reducible refine Below.drew ?_)) F1_1; have x1y1_0 : v1_1.cell? ⟨w7.heap.size, 0, none⟩ = some (.int .i64 C1) := x1y1.cell 0; have x1y1_1 : v1_1.cell? ⟨w7.heap.size, 1, none⟩ = some (.int .i64 R1) := x1y1.cell 1; have x1y1_2 : v1_1.cell? ⟨w7.heap.size, 2, none⟩ = some (.slice (some ⟨Bx1, 0, none⟩) n1 n1) := x1y1.cell 2; have x1y1_l := x1y1.lt))
    all_goals (try go_wp2_with fail)
    all_goals (go_meet; exact ⟨rfl, E1_1⟩)
  obtain ⟨rfl, H10⟩ := hcut
  obtain ⟨w10, rfl⟩ : ∃ q : World, q = wc := ⟨_, rfl⟩
  have D10 := D9.trans (H10.mono D9.size)
  have z10 := H10.size
  have x0o10 := x0o9.below H10
  have x1o10 := x1o9.below H10
  have a0x10 := blk_step a0x9 H10
  have a1x10 := blk_step a1x9 H10
  have x0x10 := blk_step x0x9 H10
  have x1x10 := blk_step x1x9 H10
  clear a0f9_0 a0f9_1 a0f9_2
  have a0f10_0 : w10.cell? ⟨w.heap.size, 0, none⟩ = some (.int .i64 C0) := a0x10.cell 0
  have a0f10_1 : w10.cell? ⟨w.heap.size, 1, none⟩ = some (.int .i64 R0) := a0x10.cell 1
  have a0f10_2 : w10.cell? ⟨w.heap.size, 2, none⟩ = some (.slice A0 n0 c0) := a0x10.cell 2
  clear a0l9
  have a0l10 := a0x10.lt
  clear a1f9_0 a1f9_1 a1f9_2
  have a1f10_0 : w10.cell? ⟨w.heap.size + 1, 0, none⟩ = some (.int .i64 C1) := a1x10.cell 0
  have a1f10_1 : w10.cell? ⟨w.heap.size + 1, 1, none⟩ = some (.int .i64 R1) := a1x10.cell 1
  have a1f10_2 : w10.cell? ⟨w.heap.size + 1, 2, none⟩ = some (.slice A1 n1 c1) := a1x10.cell 2
  clear a1l9
  have a1l10 := a1x10.lt
  clear x0f9_0 x0f9_1 x0f9_2
  have x0f10_0 : w10.cell? ⟨w5.heap.size, 0, none⟩ = some (.int .i64 C0) := x0x10.cell 0
  have x0f10_1 : w10.cell? ⟨w5.heap.size, 1, none⟩ = some (.int .i64 R0) := x0x10.cell 1
  have x0f10_2 : w10.cell? ⟨w5.heap.size, 2, none⟩ = some (.slice (some ⟨Bx0, 0, none⟩) n0 n0) := x0x10.cell 2
  clear x0l9
  have x0l10 := x0x10.lt
  clear x1f9_0 x1f9_1 x1f9_2
  have x1f10_0 : w10.cell? ⟨w7.heap.size, 0, none⟩ = some (.int .i64 C1) := x1x10.cell 0
  have x1f10_1 : w10.cell? ⟨w7.heap.size, 1, none⟩ = some (.int .i64 R1) := x1x10.cell 1
  have x1f10_2 : w10.cell? ⟨w7.heap.size, 2, none⟩ = some (.slice (some ⟨Bx1, 0, none⟩) n1 n1) := x1x10.cell 2
  clear x1l9
  have x1l10 := x1x10.lt
  go_wp2_with fail
  go_cut [57] (fun s57 wr => s57 = .bool false ∧ Below w10.heap.size w10 wr)
  case first =>
    go_region_held3 (fun w' => w'.cell? ⟨w.heap.size, 0, none⟩ = some (.int .i64 C0) ∧ w'.cell? ⟨w.heap.size, 1, none⟩ = some (.int .i64 R0) ∧ w'.cell? ⟨w.heap.size, 2, none⟩ = some (.slice A0 n0 c0) ∧ w'.cell? ⟨w.heap.size + 1, 0, none⟩ = some (.int .i64 C1) ∧ w'.cell? ⟨w.heap.size + 1, 1, none⟩ = some (.int .i64 R1) ∧ w'.cell? ⟨w.heap.size + 1, 2, none⟩ = some (.slice A1 n1 c1) ∧ w'.cell? ⟨w5.heap.size, 0, none⟩ = some (.int .i64 C0) ∧ w'.cell? ⟨w5.heap.size, 1, none⟩ = some (.int .i64 R0) ∧ w'.cell? ⟨w5.heap.size, 2, none⟩ = some (.slice (some ⟨Bx0, 0, none⟩) n0 n0) ∧ w'.cell? ⟨w7.heap.size, 0, none⟩ = some (.int .i64 C1) ∧ w'.cell? ⟨w7.heap.size, 1, none⟩ = some (.int .i64 R1) ∧ w'.cell? ⟨w7.heap.size, 2, none⟩ = some (.slice (some ⟨Bx1, 0, none⟩) n1 n1))
      (first | exact ⟨a0y0_0, a0y0_1, a0y0_2, a1y0_0, a1y0_1, a1y0_2, x0y0_0, x0y0_1, x0y0_2, x1y0_0, x1y0_1, x1y0_2⟩ | exact ⟨a0y1_0, a0y1_1, a0y1_2, a1y1_0, a1y1_1, a1y1_2, x0y1_0, x0y1_1, x0y1_2, x1y1_0, x1y1_1, x1y1_2⟩ | go_keep)
      (first
      | (go_at_call 17; refine (toMesh_any C1 R1 A1 n1 c1 l1 _ m1 (s1.below (by repeat (first | with_reducible exact Below.refl _ _ | with_reducible assumption | with_reducible refine Below.setCell ?_ (by simp <;> omega) _ | with_reducible refine Below.alloc ?_ (by simp <;> omega) _ | with_reducible refine Below.drew ?_)))).mono ?_; rintro e v2_0 ⟨⟨Be2, rfl, he2, te2⟩, F2_0⟩; have E2_0 : Below w10.heap.size w10 v2_0 := below_then (by repeat (first | with_reducible exact Below.refl _ _ | with_reducible assumption | with_reducible refine Below.setCell ?_ (by simp <;> omega) _ | with_reducible refine Below.alloc ?_ (by simp <;> omega) _ | with_reducible refine Below.drew ?_)) F2_0; have DD2_0 := D10.trans (E2_0.mono D10.size); have Oe2 := Own.blk (size := 2) te2 (Nat.zero_le _) (Nat.le_refl (n1 * 2)) (fun _ _ => rfl); have a0y0 := blk_then a0x10 (by repeat (first | with_reducible exact Below.refl _ _ | with_reducible assumption | with_reducible refine Below.setCell ?_ (by simp <;> omega) _ | with_reducible refine Below.alloc ?_ (by simp <;> omega) _ | with_reducible refine Below.drew ?_)) F2_0; have a0y0_0 : v2_0.cell? ⟨w.heap.size, 0, none⟩ = some (.int .i64 C0) := a0y0.cell 0; have a0y0_1 : v2_0.cell? ⟨w.heap.size, 1, none⟩ = some (.int .i64 R0) := a0y0.cell 1; have a0y0_2 : v2_0.cell? ⟨w.heap.size, 2, none⟩ = some (.slice A0 n0 c0) := a0y0.cell 2; have a0y0_l := a0y0.lt; have a1y0 := blk_then a1x10 (by repeat (first | with_reducible exact Below.refl _ _ | with_reducible assumption | with_reducible refine Below.setCell ?_ (by simp <;> omega) _ | with_reducible refine Below.alloc ?_ (by simp <;> omega) _ | with_reducible refine Below.drew ?_)) F2_0; have a1y0_0 : v2_0.cell? ⟨w.heap.size + 1, 0, none⟩ = some (.int .i64 C1) := a1y0.cell 0; have a1y0_1 : v2_0.cell? ⟨w.heap.size + 1, 1, none⟩ = some (.int .i64 R1) := a1y0.cell 1; have a1y0_2 : v2_0.cell? ⟨w.heap.size + 1, 2, none⟩ = some (.slice A1 n1 c1) := a1y0.cell 2; have a1y0_l := a1y0.lt; have x0y0 := blk_then x0x10 (by repeat (first | with_reducible exact Below.refl _ _ | with_reducible assumption | with_reducible refine Below.setCell ?_ (by simp <;> omega) _ | with_reducible refine Below.alloc ?_ (by simp <;> omega) _ | with_reducible refine Below.drew ?_)) F2_0; have x0y0_0 : v2_0.cell? ⟨w5.heap.size, 0, none⟩ = some (.int .i64 C0) := x0y0.cell 0; have x0y0_1 : v2_0.cell? ⟨w5.heap.size, 1, none⟩ = some (.int .i64 R0) := x0y0.cell 1; have x0y0_2 : v2_0.cell? ⟨w5.heap.size, 2, none⟩ = some (.slice (some ⟨Bx0, 0, none⟩) n0 n0) := x0y0.cell 2; have x0y0_l := x0y0.lt; have x1y0 := blk_then x1x10 (by repeat (first | with_reducible exact Below.refl _ _ | with_reducible assumption | with_reducible refine Below.setCell ?_ (by simp <;> omega) _ | with_reducible refine Below.alloc ?_ (by simp <;> omega) _ | with_reducible refine Below.drew ?_)) F2_0; have x1y0_0 : v2_0.cell? ⟨w7.heap.size, 0, none⟩ = some (.int .i64 C1) := x1y0.cell 0; have x1y0_1 : v2_0.cell? ⟨w7.heap.size, 1, none⟩ = some (.int .i64 R1) := x1y0.cell 1; have x1y0_2 : v2_0.cell? ⟨w7.heap.size, 2, none⟩ = some (.slice (some ⟨Bx1, 0, none⟩) n1 n1) := x1y0.cell 2; have x1y0_l := x1y0.lt)
      | (go_at_call 19; refine (eqMesh_yes C1 R1 _ _ n1 _ _ l1 _ (by omega) (x1o10.below (by repeat (first | with_reducible exact Below.refl _ _ | with_reducible assumption | with_reducible refine Below.setCell ?_ (by simp <;> omega) _ | with_reducible refine Below.alloc ?_ (by simp <;> omega) _ | with_reducible refine Below.drew ?_))).sl (Oe2.below (by repeat (first | with_reducible exact Below.refl _ _ | with_reducible assumption | with_reducible refine Below.setCell ?_ (by simp <;> omega) _ | with_reducible refine Below.alloc ?_ (by simp <;> omega) _ | with_reducible refine Below.drew ?_))).sl).mono ?_; rintro e v2_1 ⟨rfl, F2_1⟩; have E2_1 : Below w10.heap.size w10 v2_1 := below_then (by repeat (first | with_reducible exact Below.refl _ _ | with_reducible assumption | with_reducible refine Below.setCell ?_ (by simp <;> omega) _ | with_reducible refine Below.alloc ?_ (by simp <;> omega) _ | with_reducible refine Below.drew ?_)) F2_1; have DD2_1 := D10.trans (E2_1.mono D10.size); (try replace Oe2 := (Oe2.below (by repeat (first | with_reducible exact Below.refl _ _ | with_reducible assumption | with_reducible refine Below.setCell ?_ (by simp <;> omega) _ | with_reducible refine Below.alloc ?_ (by simp <;> omega) _ | with_reducible refine Below.drew ?_))).below F2_1); have a0y1 := blk_then a0x10 (by repeat (first | with_reducible exact Below.refl _ _ | with_reducible assumption | with_reducible refine Below.setCell ?_ (by simp <;> omega) _ | with_reducible refine Below.alloc ?_ (by simp <;> omega) _ | with_reducible refine Below.drew ?_)) F2_1; have a0y1_0 : v2_1.cell? ⟨w.heap.size, 0, none⟩ = some (.int .i64 C0) := a0y1.cell 0; have a0y1_1 : v2_1.cell? ⟨w.heap.size, 1, none⟩ = some (.int .i64 R0) := a0y1.cell 1; have a0y1_2 : v2_1.cell? ⟨w.heap.size, 2, none⟩ = some (.slice A0 n0 c0) := a0y1.cell 2; have a0y1_l := a0y1.lt; have a1y1 := blk_then a1x10 (by repeat (first | with_reducible exact Below.refl _ _ | with_reducible assumption | with_reducible refine Below.setCell ?_ (by simp <;> omega) _ | with_reducible refine Below.alloc ?_ (by simp <;> omega) _ | with_reducible refine Below.drew ?_)) F2_1; have a1y1_0 : v2_1.cell? ⟨w.heap.size + 1, 0, none⟩ = some (.int .i64 C1) := a1y1.cell 0; have a1y1_1 : v2_1.cell? ⟨w.heap.size + 1, 1, none⟩ = some (.int .i64 R1) := a1y1.cell 1; have a1y1_2 : v2_1.cell? ⟨w.heap.size + 1, 2, none⟩ = some (.slice A1 n1 c1) := a1y1.cell 2; have a1y1_l := a1y1.lt; have x0y1 := blk_then x0x10 (by repeat (first | with_reducible exact Below.refl _ _ | with_reducible assumption | with_reducible refine Below.setCell ?_ (by simp <;> omega) _ | with_reducible refine Below.alloc ?_ (by simp <;> omega) _ | with_reducible refine Below.drew ?_)) F2_1; have x0y1_0 : v2_1.cell? ⟨w5.heap.size, 0, none⟩ = some (.int .i64 C0) := x0y1.cell 0; have x0y1_1 : v2_1.cell? ⟨w5.heap.size, 1, none⟩ = some (.int .i64 R0) := x0y1.cell 1; have x0y1_2 : v2_1.cell? ⟨w5.heap.size, 2, none⟩ = some (.slice (some ⟨Bx0, 0, none⟩) n0 n0) := x0y1.cell 2; have x0y1_l := x0y1.lt; have x1y1 := blk_then x1x10 (by repeat (first | with_reducible exact Below.refl _ _ | with_reducible assumption | with_reducible refine Below.setCell ?_ (by simp <;> omega) _ | with_reducible refine Below.alloc ?_ (by simp <;> omega) _ | with_reducible refine Below.drew ?_)) F2_1; have x1y1_0 : v2_1.cell? ⟨w7.heap.size, 0, none⟩ = some (.int .i64 C1) := x1y1.cell 0; have x1y1_1 : v2_1.cell? ⟨w7.heap.size, 1, none⟩ = some (.int .i64 R1) := x1y1.cell 1; have x1y1_2 : v2_1.cell? ⟨w7.heap.size, 2, none⟩ = some (.slice (some ⟨Bx1, 0, none⟩) n1 n1) := x1y1.cell 2; have x1y1_l := x1y1.lt))
    all_goals (try go_wp2_with fail)
    all_goals (go_meet; exact ⟨rfl, E2_1⟩)
  obtain ⟨rfl, H11⟩ := hcut
  obtain ⟨w11, rfl⟩ : ∃ q : World, q = wc := ⟨_, rfl⟩
  have D11 := D10.trans (H11.mono D10.size)
  have z11 := H11.size
  have x0o11 := x0o10.below H11
  have x1o11 := x1o10.below H11
  have a0x11 := blk_step a0x10 H11
  have a1x11 := blk_step a1x10 H11
  have x0x11 := blk_step x0x10 H11
  have x1x11 := blk_step x1x10 H11
  clear a0f10_0 a0f10_1 a0f10_2
  have a0f11_0 : w11.cell? ⟨w.heap.size, 0, none⟩ = some (.int .i64 C0) := a0x11.cell 0
  have a0f11_1 : w11.cell? ⟨w.heap.size, 1, none⟩ = some (.int .i64 R0) := a0x11.cell 1
  have a0f11_2 : w11.cell? ⟨w.heap.size, 2, none⟩ = some (.slice A0 n0 c0) := a0x11.cell 2
  clear a0l10
  have a0l11 := a0x11.lt
  clear a1f10_0 a1f10_1 a1f10_2
  have a1f11_0 : w11.cell? ⟨w.heap.size + 1, 0, none⟩ = some (.int .i64 C1) := a1x11.cell 0
  have a1f11_1 : w11.cell? ⟨w.heap.size + 1, 1, none⟩ = some (.int .i64 R1) := a1x11.cell 1
  have a1f11_2 : w11.cell? ⟨w.heap.size + 1, 2, none⟩ = some (.slice A1 n1 c1) := a1x11.cell 2
  clear a1l10
  have a1l11 := a1x11.lt
  clear x0f10_0 x0f10_1 x0f10_2
  have x0f11_0 : w11.cell? ⟨w5.heap.size, 0, none⟩ = some (.int .i64 C0) := x0x11.cell 0
  have x0f11_1 : w11.cell? ⟨w5.heap.size, 1, none⟩ = some (.int .i64 R0) := x0x11.cell 1
  have x0f11_2 : w11.cell? ⟨w5.heap.size, 2, none⟩ = some (.slice (some ⟨Bx0, 0, none⟩) n0 n0) := x0x11.cell 2
  clear x0l10
  have x0l11 := x0x11.lt
  clear x1f10_0 x1f10_1 x1f10_2
  have x1f11_0 : w11.cell? ⟨w7.heap.size, 0, none⟩ = some (.int .i64 C1) := x1x11.cell 0
  have x1f11_1 : w11.cell? ⟨w7.heap.size, 1, none⟩ = some (.int .i64 R1) := x1x11.cell 1
  have x1f11_2 : w11.cell? ⟨w7.heap.size, 2, none⟩ = some (.slice (some ⟨Bx1, 0, none⟩) n1 n1) := x1x11.cell 2
  clear x1l10
  have x1l11 := x1x11.lt
  go_wp2_with fail
  go_ret
  exact ⟨rfl, D11⟩

end Go.Proofs.Ytddcbieomklhnaa

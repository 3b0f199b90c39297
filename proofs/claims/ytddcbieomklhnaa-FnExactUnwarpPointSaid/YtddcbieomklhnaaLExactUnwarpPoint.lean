/- FnExactUnwarpPoint returns true at every input: the walk. No condition beyond those that every argument meets. -/
import Derived.Test.YtddcbieomklhnaaUnwarp
import Derived.Test.YtddcbieomklhnaaSMesh
import Derived.Test.YtddcbieomklhnaaSSpot
import Derived.Deep.RegionHeld3
import Derived.Deep.DeepCutAuto
namespace Go.Proofs.Ytddcbieomklhnaa
open Go.RowKit Go.Lib Go.Ks
set_option linter.unusedVariables false
set_option maxRecDepth 100000 in
set_option maxHeartbeats 4000000 in
theorem lawUnwarpPoint (C0 R0 : Int) (A0 : Option Addr) (n0 c0 : Nat) (l0 : Nat → SpotD) (x1_0 : Int) (x1_1 : Int) (w : World) (yc0 : -9223372036854775808 ≤ C0 ∧ C0 ≤ 9223372036854775807) (yr0 : -9223372036854775808 ≤ R0 ∧ R0 ≤ 9223372036854775807) (b0 : n0 ≤ 9223372036854775807) (s0 : Sl w A0 (n0 * 2) (SpotC l0)) (g0 : ∀ k, k < n0 → SpotOk (l0 k)) (y1_0 : -9223372036854775808 ≤ x1_0 ∧ x1_0 ≤ 9223372036854775807) (y1_1 : -9223372036854775808 ≤ x1_1 ∧ x1_1 ≤ 9223372036854775807) :
    Calls Try.prog 13 #[.agg #[.int .i64 C0, .int .i64 R0, .slice A0 n0 c0], .agg #[.int .i64 x1_0, .int .i64 x1_1]] w fun e w' => e = .returned (.bool true) ∧ Below w.heap.size w w' := by
  have D0 := Below.refl w.heap.size w
  go_enter Try.func13, Try.ntmps13
  go_wp2_with fail
  generalize hW1 : ((w.alloc (.cells #[.int .i64 C0, .int .i64 R0, .slice A0 n0 c0] 24)).alloc (.cells #[.int .i64 x1_0, .int .i64 x1_1] 52)) = w1
  have H1 : Below w.heap.size w w1 := by rw [← hW1]; repeat (first | with_reducible exact Below.refl _ _ | with_reducible assumption | with_reducible refine Below.setCell ?_ (by simp <;> omega) _ | with_reducible refine Below.alloc ?_ (by simp <;> omega) _ | with_reducible refine Below.drew ?_)
  have a0x1 : Blk w1 (w.heap.size) 24 #[.int .i64 C0, .int .i64 R0, .slice A0 n0 c0] := by rw [← hW1]; exact (Blk.new w 24 #[.int .i64 C0, .int .i64 R0, .slice A0 n0 c0]).alloc _
  have a1x1 : Blk w1 (w.heap.size + 1) 52 #[.int .i64 x1_0, .int .i64 x1_1] := by
    have h := Blk.new (w.alloc (.cells #[.int .i64 C0, .int .i64 R0, .slice A0 n0 c0] 24)) 52 #[.int .i64 x1_0, .int .i64 x1_1]
    rw [hW1] at h
    simpa using h
  clear hW1
  have D1 := D0.trans (H1.mono D0.size)
  have z1 := H1.size
  have a0f1_0 : w1.cell? ⟨w.heap.size, 0, none⟩ = some (.int .i64 C0) := a0x1.cell 0
  have a0f1_1 : w1.cell? ⟨w.heap.size, 1, none⟩ = some (.int .i64 R0) := a0x1.cell 1
  have a0f1_2 : w1.cell? ⟨w.heap.size, 2, none⟩ = some (.slice A0 n0 c0) := a0x1.cell 2
  have a0l1 := a0x1.lt
  have a1f1_0 : w1.cell? ⟨w.heap.size + 1, 0, none⟩ = some (.int .i64 x1_0) := a1x1.cell 0
  have a1f1_1 : w1.cell? ⟨w.heap.size + 1, 1, none⟩ = some (.int .i64 x1_1) := a1x1.cell 1
  have a1l1 := a1x1.lt
  refine (szMesh_any C0 R0 _ _ _ _ b0 (by omega) (by omega) _).mono ?_
  rintro e w2 ⟨⟨r2, rfl, hr2⟩, H2⟩
  have D2 := D1.trans (H2.mono D1.size)
  have z2 := H2.size
  have a0x2 := blk_step a0x1 H2
  have a1x2 := blk_step a1x1 H2
  clear a0f1_0 a0f1_1 a0f1_2
  have a0f2_0 : w2.cell? ⟨w.heap.size, 0, none⟩ = some (.int .i64 C0) := a0x2.cell 0
  have a0f2_1 : w2.cell? ⟨w.heap.size, 1, none⟩ = some (.int .i64 R0) := a0x2.cell 1
  have a0f2_2 : w2.cell? ⟨w.heap.size, 2, none⟩ = some (.slice A0 n0 c0) := a0x2.cell 2
  clear a0l1
  have a0l2 := a0x2.lt
  clear a1f1_0 a1f1_1
  have a1f2_0 : w2.cell? ⟨w.heap.size + 1, 0, none⟩ = some (.int .i64 x1_0) := a1x2.cell 0
  have a1f2_1 : w2.cell? ⟨w.heap.size + 1, 1, none⟩ = some (.int .i64 x1_1) := a1x2.cell 1
  clear a1l1
  have a1l2 := a1x2.lt
  rcases hr2 with rfl | ⟨d2a, d2b, d2c⟩
  · go_wp2_with fail
    go_ret
    exact ⟨rfl, D2⟩
  have m0 : n0 ≤ 1048576 := by omega
  go_wp2_with fail
  go_cut [6, 7, 8, 9] (fun s6 s7 s8 s9 wr => s6 = .int .i64 (mUwU C0 R0 n0 l0 x1_0 x1_1) ∧ s7 = .int .i64 (mUwV C0 R0 n0 l0 x1_0 x1_1) ∧ s8 = .int .i64 (mUwD C0 R0 n0 l0 x1_0 x1_1) ∧ s9 = .int .i64 (mUwC C0 R0 n0 l0 x1_0 x1_1) ∧ Below w2.heap.size w2 wr)
  case first =>
    have ks : ∀ w' : World, Below w2.heap.size w2 w' → w'.cell? ⟨w.heap.size, 0, none⟩ = some (.int .i64 C0) ∧ w'.cell? ⟨w.heap.size, 1, none⟩ = some (.int .i64 R0) ∧ w'.cell? ⟨w.heap.size, 2, none⟩ = some (.slice A0 n0 c0) ∧ w'.cell? ⟨w.heap.size + 1, 0, none⟩ = some (.int .i64 x1_0) ∧ w'.cell? ⟨w.heap.size + 1, 1, none⟩ = some (.int .i64 x1_1) := fun w' h => ⟨(Blk.below a0x2 h a0x2.lt).cell 0, (Blk.below a0x2 h a0x2.lt).cell 1, (Blk.below a0x2 h a0x2.lt).cell 2, (Blk.below a1x2 h a1x2.lt).cell 0, (Blk.below a1x2 h a1x2.lt).cell 1⟩
    have KS := Lib.hid ks
    clear ks
    go_region_held3 (fun w' => w'.cell? ⟨w.heap.size, 0, none⟩ = some (.int .i64 C0) ∧ w'.cell? ⟨w.heap.size, 1, none⟩ = some (.int .i64 R0) ∧ w'.cell? ⟨w.heap.size, 2, none⟩ = some (.slice A0 n0 c0) ∧ w'.cell? ⟨w.heap.size + 1, 0, none⟩ = some (.int .i64 x1_0) ∧ w'.cell? ⟨w.heap.size + 1, 1, none⟩ = some (.int .i64 x1_1))
      (exact KS.out _ (by repeat (first | with_reducible exact Below.refl _ _ | with_reducible assumption | with_reducible refine Below.setCell ?_ (by first | omega | (simp <;> omega)) _ | with_reducible refine Below.alloc ?_ (by first | omega | (simp <;> omega)) _ | with_reducible refine Below.drew ?_)))
      (first
      | (go_at_call_of 17 C0; refine (toMesh_any C0 R0 A0 n0 c0 l0 _ m0 (s0.below (by repeat (first | with_reducible exact Below.refl _ _ | with_reducible assumption | with_reducible refine Below.setCell ?_ (by first | omega | (simp <;> omega)) _ | with_reducible refine Below.alloc ?_ (by first | omega | (simp <;> omega)) _ | with_reducible refine Below.drew ?_)))).mono ?_; rintro e v0_0 ⟨⟨Bu0_0, rfl, hu0_0, tu0_0⟩, F0_0⟩; have E0_0 : Below w2.heap.size w2 v0_0 := below_then (by repeat (first | with_reducible exact Below.refl _ _ | with_reducible assumption | with_reducible refine Below.setCell ?_ (by first | omega | (simp <;> omega)) _ | with_reducible refine Below.alloc ?_ (by first | omega | (simp <;> omega)) _ | with_reducible refine Below.drew ?_)) F0_0; have DD0_0 := D2.trans (E0_0.mono D2.size); have ES0_0 := E0_0.size; have Ou0_0 := Own.blk (size := 2) tu0_0 (Nat.zero_le _) (Nat.le_refl (n0 * 2)) (fun _ _ => rfl); have a0y0 := blk_then a0x2 (by repeat (first | with_reducible exact Below.refl _ _ | with_reducible assumption | with_reducible refine Below.setCell ?_ (by first | omega | (simp <;> omega)) _ | with_reducible refine Below.alloc ?_ (by first | omega | (simp <;> omega)) _ | with_reducible refine Below.drew ?_)) F0_0; have a0y0_0 : v0_0.cell? ⟨w.heap.size, 0, none⟩ = some (.int .i64 C0) := a0y0.cell 0; have a0y0_1 : v0_0.cell? ⟨w.heap.size, 1, none⟩ = some (.int .i64 R0) := a0y0.cell 1; have a0y0_2 : v0_0.cell? ⟨w.heap.size, 2, none⟩ = some (.slice A0 n0 c0) := a0y0.cell 2; have a0y0_l := a0y0.lt; have a1y0 := blk_then a1x2 (by repeat (first | with_reducible exact Below.refl _ _ | with_reducible assumption | with_reducible refine Below.setCell ?_ (by first | omega | (simp <;> omega)) _ | with_reducible refine Below.alloc ?_ (by first | omega | (simp <;> omega)) _ | with_reducible refine Below.drew ?_)) F0_0; have a1y0_0 : v0_0.cell? ⟨w.heap.size + 1, 0, none⟩ = some (.int .i64 x1_0) := a1y0.cell 0; have a1y0_1 : v0_0.cell? ⟨w.heap.size + 1, 1, none⟩ = some (.int .i64 x1_1) := a1y0.cell 1; have a1y0_l := a1y0.lt)
      | (go_at_call_of 39 x1_0; refine (toSpot_any x1_0 x1_1 _).mono ?_; rintro e v0_1 ⟨rfl, F0_1⟩; have E0_1 : Below w2.heap.size w2 v0_1 := below_then (by repeat (first | with_reducible exact Below.refl _ _ | with_reducible assumption | with_reducible refine Below.setCell ?_ (by first | omega | (simp <;> omega)) _ | with_reducible refine Below.alloc ?_ (by first | omega | (simp <;> omega)) _ | with_reducible refine Below.drew ?_)) F0_1; have DD0_1 := D2.trans (E0_1.mono D2.size); have ES0_1 := E0_1.size; (try replace Ou0_0 := (Ou0_0.below (by repeat (first | with_reducible exact Below.refl _ _ | with_reducible assumption | with_reducible refine Below.setCell ?_ (by first | omega | (simp <;> omega)) _ | with_reducible refine Below.alloc ?_ (by first | omega | (simp <;> omega)) _ | with_reducible refine Below.drew ?_))).below F0_1); have a0y1 := blk_then a0x2 (by repeat (first | with_reducible exact Below.refl _ _ | with_reducible assumption | with_reducible refine Below.setCell ?_ (by first | omega | (simp <;> omega)) _ | with_reducible refine Below.alloc ?_ (by first | omega | (simp <;> omega)) _ | with_reducible refine Below.drew ?_)) F0_1; have a0y1_0 : v0_1.cell? ⟨w.heap.size, 0, none⟩ = some (.int .i64 C0) := a0y1.cell 0; have a0y1_1 : v0_1.cell? ⟨w.heap.size, 1, none⟩ = some (.int .i64 R0) := a0y1.cell 1; have a0y1_2 : v0_1.cell? ⟨w.heap.size, 2, none⟩ = some (.slice A0 n0 c0) := a0y1.cell 2; have a0y1_l := a0y1.lt; have a1y1 := blk_then a1x2 (by repeat (first | with_reducible exact Below.refl _ _ | with_reducible assumption | with_reducible refine Below.setCell ?_ (by first | omega | (simp <;> omega)) _ | with_reducible refine Below.alloc ?_ (by first | omega | (simp <;> omega)) _ | with_reducible refine Below.drew ?_)) F0_1; have a1y1_0 : v0_1.cell? ⟨w.heap.size + 1, 0, none⟩ = some (.int .i64 x1_0) := a1y1.cell 0; have a1y1_1 : v0_1.cell? ⟨w.heap.size + 1, 1, none⟩ = some (.int .i64 x1_1) := a1y1.cell 1; have a1y1_l := a1y1.lt)
      | (go_at_call 45; refine (specUnwarpPoint_any C0 R0 _ n0 _ l0 x1_0 x1_1 _ m0 (Ou0_0.below (by repeat (first | with_reducible exact Below.refl _ _ | with_reducible assumption | with_reducible refine Below.setCell ?_ (by first | omega | (simp <;> omega)) _ | with_reducible refine Below.alloc ?_ (by first | omega | (simp <;> omega)) _ | with_reducible refine Below.drew ?_))).sl g0 y1_0 y1_1).mono ?_; rintro e v0_2 ⟨rfl, F0_2⟩; have E0_2 : Below w2.heap.size w2 v0_2 := below_then (by repeat (first | with_reducible exact Below.refl _ _ | with_reducible assumption | with_reducible refine Below.setCell ?_ (by first | omega | (simp <;> omega)) _ | with_reducible refine Below.alloc ?_ (by first | omega | (simp <;> omega)) _ | with_reducible refine Below.drew ?_)) F0_2; have DD0_2 := D2.trans (E0_2.mono D2.size); have ES0_2 := E0_2.size; (try replace Ou0_0 := (Ou0_0.below (by repeat (first | with_reducible exact Below.refl _ _ | with_reducible assumption | with_reducible refine Below.setCell ?_ (by first | omega | (simp <;> omega)) _ | with_reducible refine Below.alloc ?_ (by first | omega | (simp <;> omega)) _ | with_reducible refine Below.drew ?_))).below F0_2); have a0y2 := blk_then a0x2 (by repeat (first | with_reducible exact Below.refl _ _ | with_reducible assumption | with_reducible refine Below.setCell ?_ (by first | omega | (simp <;> omega)) _ | with_reducible refine Below.alloc ?_ (by first | omega | (simp <;> omega)) _ | with_reducible refine Below.drew ?_)) F0_2; have a0y2_0 : v0_2.cell? ⟨w.heap.size, 0, none⟩ = some (.int .i64 C0) := a0y2.cell 0; have a0y2_1 : v0_2.cell? ⟨w.heap.size, 1, none⟩ = some (.int .i64 R0) := a0y2.cell 1; have a0y2_2 : v0_2.cell? ⟨w.heap.size, 2, none⟩ = some (.slice A0 n0 c0) := a0y2.cell 2; have a0y2_l := a0y2.lt; have a1y2 := blk_then a1x2 (by repeat (first | with_reducible exact Below.refl _ _ | with_reducible assumption | with_reducible refine Below.setCell ?_ (by first | omega | (simp <;> omega)) _ | with_reducible refine Below.alloc ?_ (by first | omega | (simp <;> omega)) _ | with_reducible refine Below.drew ?_)) F0_2; have a1y2_0 : v0_2.cell? ⟨w.heap.size + 1, 0, none⟩ = some (.int .i64 x1_0) := a1y2.cell 0; have a1y2_1 : v0_2.cell? ⟨w.heap.size + 1, 1, none⟩ = some (.int .i64 x1_1) := a1y2.cell 1; have a1y2_l := a1y2.lt))
    all_goals (try go_wp2_with fail)
    all_goals (go_meet; exact ⟨rfl, rfl, rfl, rfl, E0_2⟩)
  obtain ⟨rfl, rfl, rfl, rfl, H3⟩ := hcut
  obtain ⟨w3, rfl⟩ : ∃ q : World, q = wc := ⟨_, rfl⟩
  have D3 := D2.trans (H3.mono D2.size)
  have z3 := H3.size
  have a0x3 := blk_step a0x2 H3
  have a1x3 := blk_step a1x2 H3
  clear a0f2_0 a0f2_1 a0f2_2
  have a0f3_0 : w3.cell? ⟨w.heap.size, 0, none⟩ = some (.int .i64 C0) := a0x3.cell 0
  have a0f3_1 : w3.cell? ⟨w.heap.size, 1, none⟩ = some (.int .i64 R0) := a0x3.cell 1
  have a0f3_2 : w3.cell? ⟨w.heap.size, 2, none⟩ = some (.slice A0 n0 c0) := a0x3.cell 2
  clear a0l2
  have a0l3 := a0x3.lt
  clear a1f2_0 a1f2_1
  have a1f3_0 : w3.cell? ⟨w.heap.size + 1, 0, none⟩ = some (.int .i64 x1_0) := a1x3.cell 0
  have a1f3_1 : w3.cell? ⟨w.heap.size + 1, 1, none⟩ = some (.int .i64 x1_1) := a1x3.cell 1
  clear a1l2
  have a1l3 := a1x3.lt
  go_wp2_with fail
  refine (toMesh_any C0 R0 A0 n0 c0 l0 _ m0 (s0.below D3)).mono ?_
  rintro e w4 ⟨⟨Bx0, rfl, hB4, t4⟩, H4⟩
  have D4 := D3.trans (H4.mono D3.size)
  have z4 := H4.size
  have a0x4 := blk_step a0x3 H4
  have a1x4 := blk_step a1x3 H4
  clear a0f3_0 a0f3_1 a0f3_2
  have a0f4_0 : w4.cell? ⟨w.heap.size, 0, none⟩ = some (.int .i64 C0) := a0x4.cell 0
  have a0f4_1 : w4.cell? ⟨w.heap.size, 1, none⟩ = some (.int .i64 R0) := a0x4.cell 1
  have a0f4_2 : w4.cell? ⟨w.heap.size, 2, none⟩ = some (.slice A0 n0 c0) := a0x4.cell 2
  clear a0l3
  have a0l4 := a0x4.lt
  clear a1f3_0 a1f3_1
  have a1f4_0 : w4.cell? ⟨w.heap.size + 1, 0, none⟩ = some (.int .i64 x1_0) := a1x4.cell 0
  have a1f4_1 : w4.cell? ⟨w.heap.size + 1, 1, none⟩ = some (.int .i64 x1_1) := a1x4.cell 1
  clear a1l3
  have a1l4 := a1x4.lt
  have x0o4 := Own.blk (base := w3.heap.size) (size := 2) t4 hB4 (Nat.le_refl (n0 * 2)) (fun _ _ => rfl)
  have x0U := x0o4.und
  have x0O := x0o4.over
  go_wp2_with fail
  generalize hW5 : (w4.alloc (.cells #[.int .i64 C0, .int .i64 R0, .slice (some ⟨Bx0, 0, none⟩) n0 n0] 29)) = w5
  have H5 : Below w4.heap.size w4 w5 := by rw [← hW5]; repeat (first | with_reducible exact Below.refl _ _ | with_reducible assumption | with_reducible refine Below.setCell ?_ (by simp <;> omega) _ | with_reducible refine Below.alloc ?_ (by simp <;> omega) _ | with_reducible refine Below.drew ?_)
  have x0x5 : Blk w5 (w4.heap.size) 29 #[.int .i64 C0, .int .i64 R0, .slice (some ⟨Bx0, 0, none⟩) n0 n0] := by rw [← hW5]; exact Blk.new w4 29 #[.int .i64 C0, .int .i64 R0, .slice (some ⟨Bx0, 0, none⟩) n0 n0]
  clear hW5
  have D5 := D4.trans (H5.mono D4.size)
  have z5 := H5.size
  have x0o5 := x0o4.below H5
  have a0x5 := blk_step a0x4 H5
  have a1x5 := blk_step a1x4 H5
  clear a0f4_0 a0f4_1 a0f4_2
  have a0f5_0 : w5.cell? ⟨w.heap.size, 0, none⟩ = some (.int .i64 C0) := a0x5.cell 0
  have a0f5_1 : w5.cell? ⟨w.heap.size, 1, none⟩ = some (.int .i64 R0) := a0x5.cell 1
  have a0f5_2 : w5.cell? ⟨w.heap.size, 2, none⟩ = some (.slice A0 n0 c0) := a0x5.cell 2
  clear a0l4
  have a0l5 := a0x5.lt
  clear a1f4_0 a1f4_1
  have a1f5_0 : w5.cell? ⟨w.heap.size + 1, 0, none⟩ = some (.int .i64 x1_0) := a1x5.cell 0
  have a1f5_1 : w5.cell? ⟨w.heap.size + 1, 1, none⟩ = some (.int .i64 x1_1) := a1x5.cell 1
  clear a1l4
  have a1l5 := a1x5.lt
  have x0f5_0 : w5.cell? ⟨w4.heap.size, 0, none⟩ = some (.int .i64 C0) := x0x5.cell 0
  have x0f5_1 : w5.cell? ⟨w4.heap.size, 1, none⟩ = some (.int .i64 R0) := x0x5.cell 1
  have x0f5_2 : w5.cell? ⟨w4.heap.size, 2, none⟩ = some (.slice (some ⟨Bx0, 0, none⟩) n0 n0) := x0x5.cell 2
  have x0l5 := x0x5.lt
  go_cut [11, 12, 13, 14] (fun s11 s12 s13 s14 wr => s11 = .int .i64 (mUwU C0 R0 n0 l0 x1_0 x1_1) ∧ s12 = .int .i64 (mUwV C0 R0 n0 l0 x1_0 x1_1) ∧ s13 = .int .i64 (mUwD C0 R0 n0 l0 x1_0 x1_1) ∧ s14 = .int .i64 (mUwC C0 R0 n0 l0 x1_0 x1_1) ∧ Below w5.heap.size w5 wr)
  case first =>
    have ks : ∀ w' : World, Below w5.heap.size w5 w' → w'.cell? ⟨w.heap.size + 1, 0, none⟩ = some (.int .i64 x1_0) ∧ w'.cell? ⟨w.heap.size + 1, 1, none⟩ = some (.int .i64 x1_1) ∧ w'.cell? ⟨w4.heap.size, 0, none⟩ = some (.int .i64 C0) ∧ w'.cell? ⟨w4.heap.size, 1, none⟩ = some (.int .i64 R0) ∧ w'.cell? ⟨w4.heap.size, 2, none⟩ = some (.slice (some ⟨Bx0, 0, none⟩) n0 n0) := fun w' h => ⟨(Blk.below a1x5 h a1x5.lt).cell 0, (Blk.below a1x5 h a1x5.lt).cell 1, (Blk.below x0x5 h x0x5.lt).cell 0, (Blk.below x0x5 h x0x5.lt).cell 1, (Blk.below x0x5 h x0x5.lt).cell 2⟩
    have KS := Lib.hid ks
    clear ks
    go_region_held3 (fun w' => w'.cell? ⟨w.heap.size + 1, 0, none⟩ = some (.int .i64 x1_0) ∧ w'.cell? ⟨w.heap.size + 1, 1, none⟩ = some (.int .i64 x1_1) ∧ w'.cell? ⟨w4.heap.size, 0, none⟩ = some (.int .i64 C0) ∧ w'.cell? ⟨w4.heap.size, 1, none⟩ = some (.int .i64 R0) ∧ w'.cell? ⟨w4.heap.size, 2, none⟩ = some (.slice (some ⟨Bx0, 0, none⟩) n0 n0))
      (exact KS.out _ (by repeat (first | with_reducible exact Below.refl _ _ | with_reducible assumption | with_reducible refine Below.setCell ?_ (by first | omega | (simp <;> omega)) _ | with_reducible refine Below.alloc ?_ (by first | omega | (simp <;> omega)) _ | with_reducible refine Below.drew ?_)))
      (first
      | (go_at_call_of 39 x1_0; refine (toSpot_any x1_0 x1_1 _).mono ?_; rintro e v1_0 ⟨rfl, F1_0⟩; have E1_0 : Below w5.heap.size w5 v1_0 := below_then (by repeat (first | with_reducible exact Below.refl _ _ | with_reducible assumption | with_reducible refine Below.setCell ?_ (by first | omega | (simp <;> omega)) _ | with_reducible refine Below.alloc ?_ (by first | omega | (simp <;> omega)) _ | with_reducible refine Below.drew ?_)) F1_0; have DD1_0 := D5.trans (E1_0.mono D5.size); have ES1_0 := E1_0.size; have a0y0 := blk_then a0x5 (by repeat (first | with_reducible exact Below.refl _ _ | with_reducible assumption | with_reducible refine Below.setCell ?_ (by first | omega | (simp <;> omega)) _ | with_reducible refine Below.alloc ?_ (by first | omega | (simp <;> omega)) _ | with_reducible refine Below.drew ?_)) F1_0; have a0y0_0 : v1_0.cell? ⟨w.heap.size, 0, none⟩ = some (.int .i64 C0) := a0y0.cell 0; have a0y0_1 : v1_0.cell? ⟨w.heap.size, 1, none⟩ = some (.int .i64 R0) := a0y0.cell 1; have a0y0_2 : v1_0.cell? ⟨w.heap.size, 2, none⟩ = some (.slice A0 n0 c0) := a0y0.cell 2; have a0y0_l := a0y0.lt; have a1y0 := blk_then a1x5 (by repeat (first | with_reducible exact Below.refl _ _ | with_reducible assumption | with_reducible refine Below.setCell ?_ (by first | omega | (simp <;> omega)) _ | with_reducible refine Below.alloc ?_ (by first | omega | (simp <;> omega)) _ | with_reducible refine Below.drew ?_)) F1_0; have a1y0_0 : v1_0.cell? ⟨w.heap.size + 1, 0, none⟩ = some (.int .i64 x1_0) := a1y0.cell 0; have a1y0_1 : v1_0.cell? ⟨w.heap.size + 1, 1, none⟩ = some (.int .i64 x1_1) := a1y0.cell 1; have a1y0_l := a1y0.lt; have x0y0 := blk_then x0x5 (by repeat (first | with_reducible exact Below.refl _ _ | with_reducible assumption | with_reducible refine Below.setCell ?_ (by first | omega | (simp <;> omega)) _ | with_reducible refine Below.alloc ?_ (by first | omega | (simp <;> omega)) _ | with_reducible refine Below.drew ?_)) F1_0; have x0y0_0 : v1_0.cell? ⟨w4.heap.size, 0, none⟩ = some (.int .i64 C0) := x0y0.cell 0; have x0y0_1 : v1_0.cell? ⟨w4.heap.size, 1, none⟩ = some (.int .i64 R0) := x0y0.cell 1; have x0y0_2 : v1_0.cell? ⟨w4.heap.size, 2, none⟩ = some (.slice (some ⟨Bx0, 0, none⟩) n0 n0) := x0y0.cell 2; have x0y0_l := x0y0.lt)
      | (go_at_call 46; refine (implUnwarpPoint_any C0 R0 _ n0 _ l0 x1_0 x1_1 _ m0 (x0o5.below (by repeat (first | with_reducible exact Below.refl _ _ | with_reducible assumption | with_reducible refine Below.setCell ?_ (by first | omega | (simp <;> omega)) _ | with_reducible refine Below.alloc ?_ (by first | omega | (simp <;> omega)) _ | with_reducible refine Below.drew ?_))).sl g0 y1_0 y1_1).mono ?_; rintro e v1_1 ⟨rfl, F1_1⟩; have E1_1 : Below w5.heap.size w5 v1_1 := below_then (by repeat (first | with_reducible exact Below.refl _ _ | with_reducible assumption | with_reducible refine Below.setCell ?_ (by first | omega | (simp <;> omega)) _ | with_reducible refine Below.alloc ?_ (by first | omega | (simp <;> omega)) _ | with_reducible refine Below.drew ?_)) F1_1; have DD1_1 := D5.trans (E1_1.mono D5.size); have ES1_1 := E1_1.size; have a0y1 := blk_then a0x5 (by repeat (first | with_reducible exact Below.refl _ _ | with_reducible assumption | with_reducible refine Below.setCell ?_ (by first | omega | (simp <;> omega)) _ | with_reducible refine Below.alloc ?_ (by first | omega | (simp <;> omega)) _ | with_reducible refine Below.drew ?_)) F1_1; have a0y1_0 : v1_1.cell? ⟨w.heap.size, 0, none⟩ = some (.int .i64 C0) := a0y1.cell 0; have a0y1_1 : v1_1.cell? ⟨w.heap.size, 1, none⟩ = some (.int .i64 R0) := a0y1.cell 1; have a0y1_2 : v1_1.cell? ⟨w.heap.size, 2, none⟩ = some (.slice A0 n0 c0) := a0y1.cell 2; have a0y1_l := a0y1.lt; have a1y1 := blk_then a1x5 (by repeat (first | with_reducible exact Below.refl _ _ | with_reducible assumption | with_reducible refine Below.setCell ?_ (by first | omega | (simp <;> omega)) _ | with_reducible refine Below.alloc ?_ (by first | omega | (simp <;> omega)) _ | with_reducible refine Below.drew ?_)) F1_1; have a1y1_0 : v1_1.cell? ⟨w.heap.size + 1, 0, none⟩ = some (.int .i64 x1_0) := a1y1.cell 0; have a1y1_1 : v1_1.cell? ⟨w.heap.size + 1, 1, none⟩ = some (.int .i64 x1_1) := a1y1.cell 1; have a1y1_l := a1y1.lt; have x0y1 := blk_then x0x5 (by repeat (first | with_reducible exact Below.refl _ _ | with_reducible assumption | with_reducible refine Below.setCell ?_ (by first | omega | (simp <;> omega)) _ | with_reducible refine Below.alloc ?_ (by first | omega | (simp <;> omega)) _ | with_reducible refine Below.drew ?_)) F1_1; have x0y1_0 : v1_1.cell? ⟨w4.heap.size, 0, none⟩ = some (.int .i64 C0) := x0y1.cell 0; have x0y1_1 : v1_1.cell? ⟨w4.heap.size, 1, none⟩ = some (.int .i64 R0) := x0y1.cell 1; have x0y1_2 : v1_1.cell? ⟨w4.heap.size, 2, none⟩ = some (.slice (some ⟨Bx0, 0, none⟩) n0 n0) := x0y1.cell 2; have x0y1_l := x0y1.lt))
    all_goals (try go_wp2_with fail)
    all_goals (go_meet; exact ⟨rfl, rfl, rfl, rfl, E1_1⟩)
  obtain ⟨rfl, rfl, rfl, rfl, H6⟩ := hcut
  obtain ⟨w6, rfl⟩ : ∃ q : World, q = wc := ⟨_, rfl⟩
  have D6 := D5.trans (H6.mono D5.size)
  have z6 := H6.size
  have x0o6 := x0o5.below H6
  have a0x6 := blk_step a0x5 H6
  have a1x6 := blk_step a1x5 H6
  have x0x6 := blk_step x0x5 H6
  clear a0f5_0 a0f5_1 a0f5_2
  have a0f6_0 : w6.cell? ⟨w.heap.size, 0, none⟩ = some (.int .i64 C0) := a0x6.cell 0
  have a0f6_1 : w6.cell? ⟨w.heap.size, 1, none⟩ = some (.int .i64 R0) := a0x6.cell 1
  have a0f6_2 : w6.cell? ⟨w.heap.size, 2, none⟩ = some (.slice A0 n0 c0) := a0x6.cell 2
  clear a0l5
  have a0l6 := a0x6.lt
  clear a1f5_0 a1f5_1
  have a1f6_0 : w6.cell? ⟨w.heap.size + 1, 0, none⟩ = some (.int .i64 x1_0) := a1x6.cell 0
  have a1f6_1 : w6.cell? ⟨w.heap.size + 1, 1, none⟩ = some (.int .i64 x1_1) := a1x6.cell 1
  clear a1l5
  have a1l6 := a1x6.lt
  clear x0f5_0 x0f5_1 x0f5_2
  have x0f6_0 : w6.cell? ⟨w4.heap.size, 0, none⟩ = some (.int .i64 C0) := x0x6.cell 0
  have x0f6_1 : w6.cell? ⟨w4.heap.size, 1, none⟩ = some (.int .i64 R0) := x0x6.cell 1
  have x0f6_2 : w6.cell? ⟨w4.heap.size, 2, none⟩ = some (.slice (some ⟨Bx0, 0, none⟩) n0 n0) := x0x6.cell 2
  clear x0l5
  have x0l6 := x0x6.lt
  go_wp2_with fail
  go_cut [63] (fun s63 wr => s63 = .bool false ∧ Below w6.heap.size w6 wr)
  case first =>
    have ks : ∀ w' : World, Below w6.heap.size w6 w' → w'.cell? ⟨w.heap.size, 0, none⟩ = some (.int .i64 C0) ∧ w'.cell? ⟨w.heap.size, 1, none⟩ = some (.int .i64 R0) ∧ w'.cell? ⟨w.heap.size, 2, none⟩ = some (.slice A0 n0 c0) ∧ w'.cell? ⟨w4.heap.size, 0, none⟩ = some (.int .i64 C0) ∧ w'.cell? ⟨w4.heap.size, 1, none⟩ = some (.int .i64 R0) ∧ w'.cell? ⟨w4.heap.size, 2, none⟩ = some (.slice (some ⟨Bx0, 0, none⟩) n0 n0) := fun w' h => ⟨(Blk.below a0x6 h a0x6.lt).cell 0, (Blk.below a0x6 h a0x6.lt).cell 1, (Blk.below a0x6 h a0x6.lt).cell 2, (Blk.below x0x6 h x0x6.lt).cell 0, (Blk.below x0x6 h x0x6.lt).cell 1, (Blk.below x0x6 h x0x6.lt).cell 2⟩
    have KS := Lib.hid ks
    clear ks
    go_region_held3 (fun w' => w'.cell? ⟨w.heap.size, 0, none⟩ = some (.int .i64 C0) ∧ w'.cell? ⟨w.heap.size, 1, none⟩ = some (.int .i64 R0) ∧ w'.cell? ⟨w.heap.size, 2, none⟩ = some (.slice A0 n0 c0) ∧ w'.cell? ⟨w4.heap.size, 0, none⟩ = some (.int .i64 C0) ∧ w'.cell? ⟨w4.heap.size, 1, none⟩ = some (.int .i64 R0) ∧ w'.cell? ⟨w4.heap.size, 2, none⟩ = some (.slice (some ⟨Bx0, 0, none⟩) n0 n0))
      (exact KS.out _ (by repeat (first | with_reducible exact Below.refl _ _ | with_reducible assumption | with_reducible refine Below.setCell ?_ (by first | omega | (simp <;> omega)) _ | with_reducible refine Below.alloc ?_ (by first | omega | (simp <;> omega)) _ | with_reducible refine Below.drew ?_)))
      (first
      | (go_at_call 17; refine (toMesh_any C0 R0 A0 n0 c0 l0 _ m0 (s0.below (by repeat (first | with_reducible exact Below.refl _ _ | with_reducible assumption | with_reducible refine Below.setCell ?_ (by first | omega | (simp <;> omega)) _ | with_reducible refine Below.alloc ?_ (by first | omega | (simp <;> omega)) _ | with_reducible refine Below.drew ?_)))).mono ?_; rintro e v2_0 ⟨⟨Be2, rfl, he2, te2⟩, F2_0⟩; have E2_0 : Below w6.heap.size w6 v2_0 := below_then (by repeat (first | with_reducible exact Below.refl _ _ | with_reducible assumption | with_reducible refine Below.setCell ?_ (by first | omega | (simp <;> omega)) _ | with_reducible refine Below.alloc ?_ (by first | omega | (simp <;> omega)) _ | with_reducible refine Below.drew ?_)) F2_0; have DD2_0 := D6.trans (E2_0.mono D6.size); have ES2_0 := E2_0.size; have Oe2 := Own.blk (size := 2) te2 (Nat.zero_le _) (Nat.le_refl (n0 * 2)) (fun _ _ => rfl); have a0y0 := blk_then a0x6 (by repeat (first | with_reducible exact Below.refl _ _ | with_reducible assumption | with_reducible refine Below.setCell ?_ (by first | omega | (simp <;> omega)) _ | with_reducible refine Below.alloc ?_ (by first | omega | (simp <;> omega)) _ | with_reducible refine Below.drew ?_)) F2_0; have a0y0_0 : v2_0.cell? ⟨w.heap.size, 0, none⟩ = some (.int .i64 C0) := a0y0.cell 0; have a0y0_1 : v2_0.cell? ⟨w.heap.size, 1, none⟩ = some (.int .i64 R0) := a0y0.cell 1; have a0y0_2 : v2_0.cell? ⟨w.heap.size, 2, none⟩ = some (.slice A0 n0 c0) := a0y0.cell 2; have a0y0_l := a0y0.lt; have a1y0 := blk_then a1x6 (by repeat (first | with_reducible exact Below.refl _ _ | with_reducible assumption | with_reducible refine Below.setCell ?_ (by first | omega | (simp <;> omega)) _ | with_reducible refine Below.alloc ?_ (by first | omega | (simp <;> omega)) _ | with_reducible refine Below.drew ?_)) F2_0; have a1y0_0 : v2_0.cell? ⟨w.heap.size + 1, 0, none⟩ = some (.int .i64 x1_0) := a1y0.cell 0; have a1y0_1 : v2_0.cell? ⟨w.heap.size + 1, 1, none⟩ = some (.int .i64 x1_1) := a1y0.cell 1; have a1y0_l := a1y0.lt; have x0y0 := blk_then x0x6 (by repeat (first | with_reducible exact Below.refl _ _ | with_reducible assumption | with_reducible refine Below.setCell ?_ (by first | omega | (simp <;> omega)) _ | with_reducible refine Below.alloc ?_ (by first | omega | (simp <;> omega)) _ | with_reducible refine Below.drew ?_)) F2_0; have x0y0_0 : v2_0.cell? ⟨w4.heap.size, 0, none⟩ = some (.int .i64 C0) := x0y0.cell 0; have x0y0_1 : v2_0.cell? ⟨w4.heap.size, 1, none⟩ = some (.int .i64 R0) := x0y0.cell 1; have x0y0_2 : v2_0.cell? ⟨w4.heap.size, 2, none⟩ = some (.slice (some ⟨Bx0, 0, none⟩) n0 n0) := x0y0.cell 2; have x0y0_l := x0y0.lt)
      | (go_at_call 19; refine (eqMesh_yes C0 R0 _ _ n0 _ _ l0 _ (by omega) (x0o6.below (by repeat (first | with_reducible exact Below.refl _ _ | with_reducible assumption | with_reducible refine Below.setCell ?_ (by first | omega | (simp <;> omega)) _ | with_reducible refine Below.alloc ?_ (by first | omega | (simp <;> omega)) _ | with_reducible refine Below.drew ?_))).sl (Oe2.below (by repeat (first | with_reducible exact Below.refl _ _ | with_reducible assumption | with_reducible refine Below.setCell ?_ (by first | omega | (simp <;> omega)) _ | with_reducible refine Below.alloc ?_ (by first | omega | (simp <;> omega)) _ | with_reducible refine Below.drew ?_))).sl).mono ?_; rintro e v2_1 ⟨rfl, F2_1⟩; have E2_1 : Below w6.heap.size w6 v2_1 := below_then (by repeat (first | with_reducible exact Below.refl _ _ | with_reducible assumption | with_reducible refine Below.setCell ?_ (by first | omega | (simp <;> omega)) _ | with_reducible refine Below.alloc ?_ (by first | omega | (simp <;> omega)) _ | with_reducible refine Below.drew ?_)) F2_1; have DD2_1 := D6.trans (E2_1.mono D6.size); have ES2_1 := E2_1.size; (try replace Oe2 := (Oe2.below (by repeat (first | with_reducible exact Below.refl _ _ | with_reducible assumption | with_reducible refine Below.setCell ?_ (by first | omega | (simp <;> omega)) _ | with_reducible refine Below.alloc ?_ (by first | omega | (simp <;> omega)) _ | with_reducible refine Below.drew ?_))).below F2_1); have a0y1 := blk_then a0x6 (by repeat (first | with_reducible exact Below.refl _ _ | with_reducible assumption | with_reducible refine Below.setCell ?_ (by first | omega | (simp <;> omega)) _ | with_reducible refine Below.alloc ?_ (by first | omega | (simp <;> omega)) _ | with_reducible refine Below.drew ?_)) F2_1; have a0y1_0 : v2_1.cell? ⟨w.heap.size, 0, none⟩ = some (.int .i64 C0) := a0y1.cell 0; have a0y1_1 : v2_1.cell? ⟨w.heap.size, 1, none⟩ = some (.int .i64 R0) := a0y1.cell 1; have a0y1_2 : v2_1.cell? ⟨w.heap.size, 2, none⟩ = some (.slice A0 n0 c0) := a0y1.cell 2; have a0y1_l := a0y1.lt; have a1y1 := blk_then a1x6 (by repeat (first | with_reducible exact Below.refl _ _ | with_reducible assumption | with_reducible refine Below.setCell ?_ (by first | omega | (simp <;> omega)) _ | with_reducible refine Below.alloc ?_ (by first | omega | (simp <;> omega)) _ | with_reducible refine Below.drew ?_)) F2_1; have a1y1_0 : v2_1.cell? ⟨w.heap.size + 1, 0, none⟩ = some (.int .i64 x1_0) := a1y1.cell 0; have a1y1_1 : v2_1.cell? ⟨w.heap.size + 1, 1, none⟩ = some (.int .i64 x1_1) := a1y1.cell 1; have a1y1_l := a1y1.lt; have x0y1 := blk_then x0x6 (by repeat (first | with_reducible exact Below.refl _ _ | with_reducible assumption | with_reducible refine Below.setCell ?_ (by first | omega | (simp <;> omega)) _ | with_reducible refine Below.alloc ?_ (by first | omega | (simp <;> omega)) _ | with_reducible refine Below.drew ?_)) F2_1; have x0y1_0 : v2_1.cell? ⟨w4.heap.size, 0, none⟩ = some (.int .i64 C0) := x0y1.cell 0; have x0y1_1 : v2_1.cell? ⟨w4.heap.size, 1, none⟩ = some (.int .i64 R0) := x0y1.cell 1; have x0y1_2 : v2_1.cell? ⟨w4.heap.size, 2, none⟩ = some (.slice (some ⟨Bx0, 0, none⟩) n0 n0) := x0y1.cell 2; have x0y1_l := x0y1.lt))
    all_goals (try go_wp2_with fail)
    all_goals (go_meet; exact ⟨rfl, E2_1⟩)
  obtain ⟨rfl, H7⟩ := hcut
  obtain ⟨w7, rfl⟩ : ∃ q : World, q = wc := ⟨_, rfl⟩
  have D7 := D6.trans (H7.mono D6.size)
  have z7 := H7.size
  have x0o7 := x0o6.below H7
  have a0x7 := blk_step a0x6 H7
  have a1x7 := blk_step a1x6 H7
  have x0x7 := blk_step x0x6 H7
  clear a0f6_0 a0f6_1 a0f6_2
  have a0f7_0 : w7.cell? ⟨w.heap.size, 0, none⟩ = some (.int .i64 C0) := a0x7.cell 0
  have a0f7_1 : w7.cell? ⟨w.heap.size, 1, none⟩ = some (.int .i64 R0) := a0x7.cell 1
  have a0f7_2 : w7.cell? ⟨w.heap.size, 2, none⟩ = some (.slice A0 n0 c0) := a0x7.cell 2
  clear a0l6
  have a0l7 := a0x7.lt
  clear a1f6_0 a1f6_1
  have a1f7_0 : w7.cell? ⟨w.heap.size + 1, 0, none⟩ = some (.int .i64 x1_0) := a1x7.cell 0
  have a1f7_1 : w7.cell? ⟨w.heap.size + 1, 1, none⟩ = some (.int .i64 x1_1) := a1x7.cell 1
  clear a1l6
  have a1l7 := a1x7.lt
  clear x0f6_0 x0f6_1 x0f6_2
  have x0f7_0 : w7.cell? ⟨w4.heap.size, 0, none⟩ = some (.int .i64 C0) := x0x7.cell 0
  have x0f7_1 : w7.cell? ⟨w4.heap.size, 1, none⟩ = some (.int .i64 R0) := x0x7.cell 1
  have x0f7_2 : w7.cell? ⟨w4.heap.size, 2, none⟩ = some (.slice (some ⟨Bx0, 0, none⟩) n0 n0) := x0x7.cell 2
  clear x0l6
  have x0l7 := x0x7.lt
  go_wp2_with fail
  go_ret
  exact ⟨rfl, D7⟩

end Go.Proofs.Ytddcbieomklhnaa

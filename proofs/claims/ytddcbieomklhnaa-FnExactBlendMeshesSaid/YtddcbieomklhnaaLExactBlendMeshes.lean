/- FnExactBlendMeshes returns true at every input: the walk. No condition beyond those that every argument meets. -/
import Derived.Test.YtddcbieomklhnaaBlend
import Derived.Test.YtddcbieomklhnaaSMesh
import Derived.Deep.RegionHeld3
import Derived.Deep.DeepCutAuto
namespace Go.Proofs.Ytddcbieomklhnaa
open Go.RowKit Go.Lib Go.Ks
set_option linter.unusedVariables false
set_option maxRecDepth 100000 in
set_option maxHeartbeats 4000000 in
theorem lawBlendMeshes (C0 R0 : Int) (A0 : Option Addr) (n0 c0 : Nat) (l0 : Nat → SpotD) (C1 R1 : Int) (A1 : Option Addr) (n1 c1 : Nat) (l1 : Nat → SpotD) (x2 : Int) (w : World) (yc0 : -9223372036854775808 ≤ C0 ∧ C0 ≤ 9223372036854775807) (yr0 : -9223372036854775808 ≤ R0 ∧ R0 ≤ 9223372036854775807) (b0 : n0 ≤ 9223372036854775807) (s0 : Sl w A0 (n0 * 2) (SpotC l0)) (g0 : ∀ k, k < n0 → SpotOk (l0 k)) (yc1 : -9223372036854775808 ≤ C1 ∧ C1 ≤ 9223372036854775807) (yr1 : -9223372036854775808 ≤ R1 ∧ R1 ≤ 9223372036854775807) (b1 : n1 ≤ 9223372036854775807) (s1 : Sl w A1 (n1 * 2) (SpotC l1)) (g1 : ∀ k, k < n1 → SpotOk (l1 k)) (y2 : -9223372036854775808 ≤ x2 ∧ x2 ≤ 9223372036854775807) :
    Calls Try.prog 9 #[.agg #[.int .i64 C0, .int .i64 R0, .slice A0 n0 c0], .agg #[.int .i64 C1, .int .i64 R1, .slice A1 n1 c1], .int .i64 x2] w fun e w' => e = .returned (.bool true) ∧ Below w.heap.size w w' := by
  have D0 := Below.refl w.heap.size w
  go_enter Try.func9, Try.ntmps9
  go_wp2_with fail
  generalize hW1 : ((w.alloc (.cells #[.int .i64 C0, .int .i64 R0, .slice A0 n0 c0] 24)).alloc (.cells #[.int .i64 C1, .int .i64 R1, .slice A1 n1 c1] 24)) = w1
  have H1 : Below w.heap.size w w1 := by rw [← hW1]; repeat (first | with_reducible exact Below.refl _ _ | with_reducible assumption | with_reducible refine Below.setCell ?_ (by simp <;> omega) _ | with_reducible refine Below.alloc ?_ (by simp <;> omega) _ | with_reducible refine Below.drew ?_)
  have a0x1 : Blk w1 (w.heap.size) 24 #[.int .i64 C0, .int .i64 R0, .slice A0 n0 c0] := by rw [← hW1]; exact (Blk.new w 24 #[.int .i64 C0, .int .i64 R0, .slice A0 n0 c0]).alloc _
  have a1x1 : Blk w1 (w.heap.size + 1) 24 #[.int .i64 C1, .int .i64 R1, .slice A1 n1 c1] := by
    have h := Blk.new (w.alloc (.cells #[.int .i64 C0, .int .i64 R0, .slice A0 n0 c0] 24)) 24 #[.int .i64 C1, .int .i64 R1, .slice A1 n1 c1]
    rw [hW1] at h
    simpa using h
  clear hW1
  have D1 := D0.trans (H1.mono D0.size)
  have z1 := H1.size
  have a0f1_0 : w1.cell? ⟨w.heap.size, 0, none⟩ = some (.int .i64 C0) := a0x1.cell 0
  have a0f1_1 : w1.cell? ⟨w.heap.size, 1, none⟩ = some (.int .i64 R0) := a0x1.cell 1
  have a0f1_2 : w1.cell? ⟨w.heap.size, 2, none⟩ = some (.slice A0 n0 c0) := a0x1.cell 2
  have a0l1 := a0x1.lt
  have a1f1_0 : w1.cell? ⟨w.heap.size + 1, 0, none⟩ = some (.int .i64 C1) := a1x1.cell 0
  have a1f1_1 : w1.cell? ⟨w.heap.size + 1, 1, none⟩ = some (.int .i64 R1) := a1x1.cell 1
  have a1f1_2 : w1.cell? ⟨w.heap.size + 1, 2, none⟩ = some (.slice A1 n1 c1) := a1x1.cell 2
  have a1l1 := a1x1.lt
  refine (szMesh_any C0 R0 _ _ _ _ b0 (by omega) (by omega) _).mono ?_
  rintro e w2 ⟨⟨r2, rfl, hr2⟩, H2⟩
  have D2 := D1.trans (H2.mono D1.size)
  have z2 := H2.size
  have a0x2 := blk_step a0x1 H2
  have a1x2 := blk_step a1x1 H2
  clear a0f1_0 a0f1_1 a0f1_2
  have a0f2_0 : w2.cell? ⟨w.heap.size, 0, none⟩ = some (.int .i64 C0) := a0x2.cell 0
  have a0f2_1 : w2.cell? ⟨w.heap.size, 1, none⟩ = some (.int .i64 R0) := a0x2.cell 1
  have a0f2_2 : w2.cell? ⟨w.heap.size, 2, none⟩ = some (.slice A0 n0 c0) := a0x2.cell 2
  clear a0l1
  have a0l2 := a0x2.lt
  clear a1f1_0 a1f1_1 a1f1_2
  have a1f2_0 : w2.cell? ⟨w.heap.size + 1, 0, none⟩ = some (.int .i64 C1) := a1x2.cell 0
  have a1f2_1 : w2.cell? ⟨w.heap.size + 1, 1, none⟩ = some (.int .i64 R1) := a1x2.cell 1
  have a1f2_2 : w2.cell? ⟨w.heap.size + 1, 2, none⟩ = some (.slice A1 n1 c1) := a1x2.cell 2
  clear a1l1
  have a1l2 := a1x2.lt
  rcases hr2 with rfl | ⟨d2a, d2b, d2c⟩
  · go_wp2_with fail
    go_ret
    exact ⟨rfl, D2⟩
  have m0 : n0 ≤ 1048576 := by omega
  go_wp2_with fail
  refine (szMesh_any C1 R1 _ _ _ _ b1 (by omega) (by omega) _).mono ?_
  rintro e w3 ⟨⟨r3, rfl, hr3⟩, H3⟩
  have D3 := D2.trans (H3.mono D2.size)
  have z3 := H3.size
  have a0x3 := blk_step a0x2 H3
  have a1x3 := blk_step a1x2 H3
  clear a0f2_0 a0f2_1 a0f2_2
  have a0f3_0 : w3.cell? ⟨w.heap.size, 0, none⟩ = some (.int .i64 C0) := a0x3.cell 0
  have a0f3_1 : w3.cell? ⟨w.heap.size, 1, none⟩ = some (.int .i64 R0) := a0x3.cell 1
  have a0f3_2 : w3.cell? ⟨w.heap.size, 2, none⟩ = some (.slice A0 n0 c0) := a0x3.cell 2
  clear a0l2
  have a0l3 := a0x3.lt
  clear a1f2_0 a1f2_1 a1f2_2
  have a1f3_0 : w3.cell? ⟨w.heap.size + 1, 0, none⟩ = some (.int .i64 C1) := a1x3.cell 0
  have a1f3_1 : w3.cell? ⟨w.heap.size + 1, 1, none⟩ = some (.int .i64 R1) := a1x3.cell 1
  have a1f3_2 : w3.cell? ⟨w.heap.size + 1, 2, none⟩ = some (.slice A1 n1 c1) := a1x3.cell 2
  clear a1l2
  have a1l3 := a1x3.lt
  rcases hr3 with rfl | ⟨d3a, d3b, d3c⟩
  · go_wp2_with fail
    go_ret
    exact ⟨rfl, D3⟩
  have m1 : n1 ≤ 1048576 := by omega
  have mm := mBlendMeshes_len C0 R0 n0 l0 C1 R1 n1 l1 x2
  go_wp2_with fail
  go_cut [8, 9] (fun s8 s9 wr => (∃ (BW0 : Nat), ∃ (AW : Option Addr) (cW : Nat), s8 = .pointer (some ⟨BW0, 0, none⟩) ∧ s9 = .int .i64 (mBlendMeshesC C0 R0 n0 l0 C1 R1 n1 l1 x2) ∧ Blk wr BW0 29 #[.int .i64 (mBlendMeshesA C0 R0 n0 l0 C1 R1 n1 l1 x2), .int .i64 (mBlendMeshesB C0 R0 n0 l0 C1 R1 n1 l1 x2), .slice AW (mBlendMeshesN C0 R0 n0 l0 C1 R1 n1 l1 x2) cW] ∧ Own wr w3.heap.size 39 2 AW (mBlendMeshesN C0 R0 n0 l0 C1 R1 n1 l1 x2) (SpotC (mBlendMeshesL C0 R0 n0 l0 C1 R1 n1 l1 x2)) ∧ (AW = none → cW = 0)) ∧ Below w3.heap.size w3 wr)
  case first =>
    have ks : ∀ w' : World, Below w3.heap.size w3 w' → w'.cell? ⟨w.heap.size, 0, none⟩ = some (.int .i64 C0) ∧ w'.cell? ⟨w.heap.size, 1, none⟩ = some (.int .i64 R0) ∧ w'.cell? ⟨w.heap.size, 2, none⟩ = some (.slice A0 n0 c0) ∧ w'.cell? ⟨w.heap.size + 1, 0, none⟩ = some (.int .i64 C1) ∧ w'.cell? ⟨w.heap.size + 1, 1, none⟩ = some (.int .i64 R1) ∧ w'.cell? ⟨w.heap.size + 1, 2, none⟩ = some (.slice A1 n1 c1) := fun w' h => ⟨(Blk.below a0x3 h a0x3.lt).cell 0, (Blk.below a0x3 h a0x3.lt).cell 1, (Blk.below a0x3 h a0x3.lt).cell 2, (Blk.below a1x3 h a1x3.lt).cell 0, (Blk.below a1x3 h a1x3.lt).cell 1, (Blk.below a1x3 h a1x3.lt).cell 2⟩
    have KS := Lib.hid ks
    clear ks
    go_region_held3 (fun w' => w'.cell? ⟨w.heap.size, 0, none⟩ = some (.int .i64 C0) ∧ w'.cell? ⟨w.heap.size, 1, none⟩ = some (.int .i64 R0) ∧ w'.cell? ⟨w.heap.size, 2, none⟩ = some (.slice A0 n0 c0) ∧ w'.cell? ⟨w.heap.size + 1, 0, none⟩ = some (.int .i64 C1) ∧ w'.cell? ⟨w.heap.size + 1, 1, none⟩ = some (.int .i64 R1) ∧ w'.cell? ⟨w.heap.size + 1, 2, none⟩ = some (.slice A1 n1 c1))
      (exact KS.out _ (by repeat (first | with_reducible exact Below.refl _ _ | with_reducible assumption | with_reducible refine Below.setCell ?_ (by first | omega | (simp <;> omega)) _ | with_reducible refine Below.alloc ?_ (by first | omega | (simp <;> omega)) _ | with_reducible refine Below.drew ?_)))
      (first
      | (go_at_call_of 17 C0; refine (toMesh_any C0 R0 A0 n0 c0 l0 _ m0 (s0.below (by repeat (first | with_reducible exact Below.refl _ _ | with_reducible assumption | with_reducible refine Below.setCell ?_ (by first | omega | (simp <;> omega)) _ | with_reducible refine Below.alloc ?_ (by first | omega | (simp <;> omega)) _ | with_reducible refine Below.drew ?_)))).mono ?_; rintro e v0_0 ⟨⟨Bu0_0, rfl, hu0_0, tu0_0⟩, F0_0⟩; have E0_0 : Below w3.heap.size w3 v0_0 := below_then (by repeat (first | with_reducible exact Below.refl _ _ | with_reducible assumption | with_reducible refine Below.setCell ?_ (by first | omega | (simp <;> omega)) _ | with_reducible refine Below.alloc ?_ (by first | omega | (simp <;> omega)) _ | with_reducible refine Below.drew ?_)) F0_0; have DD0_0 := D3.trans (E0_0.mono D3.size); have ES0_0 := E0_0.size; (try replace Ou0_1 := (Ou0_1.below (by repeat (first | with_reducible exact Below.refl _ _ | with_reducible assumption | with_reducible refine Below.setCell ?_ (by first | omega | (simp <;> omega)) _ | with_reducible refine Below.alloc ?_ (by first | omega | (simp <;> omega)) _ | with_reducible refine Below.drew ?_))).below F0_0); (try replace oy0 := (oy0.below (by repeat (first | with_reducible exact Below.refl _ _ | with_reducible assumption | with_reducible refine Below.setCell ?_ (by first | omega | (simp <;> omega)) _ | with_reducible refine Below.alloc ?_ (by first | omega | (simp <;> omega)) _ | with_reducible refine Below.drew ?_))).below F0_0); have Ou0_0 := Own.blk (size := 2) tu0_0 (Nat.zero_le _) (Nat.le_refl (n0 * 2)) (fun _ _ => rfl); have a0y0 := blk_then a0x3 (by repeat (first | with_reducible exact Below.refl _ _ | with_reducible assumption | with_reducible refine Below.setCell ?_ (by first | omega | (simp <;> omega)) _ | with_reducible refine Below.alloc ?_ (by first | omega | (simp <;> omega)) _ | with_reducible refine Below.drew ?_)) F0_0; have a0y0_0 : v0_0.cell? ⟨w.heap.size, 0, none⟩ = some (.int .i64 C0) := a0y0.cell 0; have a0y0_1 : v0_0.cell? ⟨w.heap.size, 1, none⟩ = some (.int .i64 R0) := a0y0.cell 1; have a0y0_2 : v0_0.cell? ⟨w.heap.size, 2, none⟩ = some (.slice A0 n0 c0) := a0y0.cell 2; have a0y0_l := a0y0.lt; have a1y0 := blk_then a1x3 (by repeat (first | with_reducible exact Below.refl _ _ | with_reducible assumption | with_reducible refine Below.setCell ?_ (by first | omega | (simp <;> omega)) _ | with_reducible refine Below.alloc ?_ (by first | omega | (simp <;> omega)) _ | with_reducible refine Below.drew ?_)) F0_0; have a1y0_0 : v0_0.cell? ⟨w.heap.size + 1, 0, none⟩ = some (.int .i64 C1) := a1y0.cell 0; have a1y0_1 : v0_0.cell? ⟨w.heap.size + 1, 1, none⟩ = some (.int .i64 R1) := a1y0.cell 1; have a1y0_2 : v0_0.cell? ⟨w.heap.size + 1, 2, none⟩ = some (.slice A1 n1 c1) := a1y0.cell 2; have a1y0_l := a1y0.lt; (first | (with_reducible have zx0_0 := made_step F0_0) | (with_reducible have zx0_0 := made_step' F0_0) | (replace zx0_0 := blk_then zx0_0 (by repeat (first | with_reducible exact Below.refl _ _ | with_reducible assumption | with_reducible refine Below.setCell ?_ (by first | omega | (simp <;> omega)) _ | with_reducible refine Below.alloc ?_ (by first | omega | (simp <;> omega)) _ | with_reducible refine Below.drew ?_)) F0_0) | skip); (try have zf0_0_0 := zx0_0.cell 0); (try have zf0_0_1 := zx0_0.cell 1); (try have zf0_0_2 := zx0_0.cell 2); (try have zg0_0_0 := zx0_0.frozen 0); (try have zg0_0_1 := zx0_0.frozen 1); (try have zg0_0_2 := zx0_0.frozen 2); (try have zl0_0 := zx0_0.lt))
      | (go_at_call_of 17 C1; refine (toMesh_any C1 R1 A1 n1 c1 l1 _ m1 (s1.below (by repeat (first | with_reducible exact Below.refl _ _ | with_reducible assumption | with_reducible refine Below.setCell ?_ (by first | omega | (simp <;> omega)) _ | with_reducible refine Below.alloc ?_ (by first | omega | (simp <;> omega)) _ | with_reducible refine Below.drew ?_)))).mono ?_; rintro e v0_1 ⟨⟨Bu0_1, rfl, hu0_1, tu0_1⟩, F0_1⟩; have E0_1 : Below w3.heap.size w3 v0_1 := below_then (by repeat (first | with_reducible exact Below.refl _ _ | with_reducible assumption | with_reducible refine Below.setCell ?_ (by first | omega | (simp <;> omega)) _ | with_reducible refine Below.alloc ?_ (by first | omega | (simp <;> omega)) _ | with_reducible refine Below.drew ?_)) F0_1; have DD0_1 := D3.trans (E0_1.mono D3.size); have ES0_1 := E0_1.size; (try replace Ou0_0 := (Ou0_0.below (by repeat (first | with_reducible exact Below.refl _ _ | with_reducible assumption | with_reducible refine Below.setCell ?_ (by first | omega | (simp <;> omega)) _ | with_reducible refine Below.alloc ?_ (by first | omega | (simp <;> omega)) _ | with_reducible refine Below.drew ?_))).below F0_1); (try replace oy0 := (oy0.below (by repeat (first | with_reducible exact Below.refl _ _ | with_reducible assumption | with_reducible refine Below.setCell ?_ (by first | omega | (simp <;> omega)) _ | with_reducible refine Below.alloc ?_ (by first | omega | (simp <;> omega)) _ | with_reducible refine Below.drew ?_))).below F0_1); have Ou0_1 := Own.blk (size := 2) tu0_1 (Nat.zero_le _) (Nat.le_refl (n1 * 2)) (fun _ _ => rfl); have a0y1 := blk_then a0x3 (by repeat (first | with_reducible exact Below.refl _ _ | with_reducible assumption | with_reducible refine Below.setCell ?_ (by first | omega | (simp <;> omega)) _ | with_reducible refine Below.alloc ?_ (by first | omega | (simp <;> omega)) _ | with_reducible refine Below.drew ?_)) F0_1; have a0y1_0 : v0_1.cell? ⟨w.heap.size, 0, none⟩ = some (.int .i64 C0) := a0y1.cell 0; have a0y1_1 : v0_1.cell? ⟨w.heap.size, 1, none⟩ = some (.int .i64 R0) := a0y1.cell 1; have a0y1_2 : v0_1.cell? ⟨w.heap.size, 2, none⟩ = some (.slice A0 n0 c0) := a0y1.cell 2; have a0y1_l := a0y1.lt; have a1y1 := blk_then a1x3 (by repeat (first | with_reducible exact Below.refl _ _ | with_reducible assumption | with_reducible refine Below.setCell ?_ (by first | omega | (simp <;> omega)) _ | with_reducible refine Below.alloc ?_ (by first | omega | (simp <;> omega)) _ | with_reducible refine Below.drew ?_)) F0_1; have a1y1_0 : v0_1.cell? ⟨w.heap.size + 1, 0, none⟩ = some (.int .i64 C1) := a1y1.cell 0; have a1y1_1 : v0_1.cell? ⟨w.heap.size + 1, 1, none⟩ = some (.int .i64 R1) := a1y1.cell 1; have a1y1_2 : v0_1.cell? ⟨w.heap.size + 1, 2, none⟩ = some (.slice A1 n1 c1) := a1y1.cell 2; have a1y1_l := a1y1.lt; (first | (with_reducible have zx0_0 := made_step F0_1) | (with_reducible have zx0_0 := made_step' F0_1) | (replace zx0_0 := blk_then zx0_0 (by repeat (first | with_reducible exact Below.refl _ _ | with_reducible assumption | with_reducible refine Below.setCell ?_ (by first | omega | (simp <;> omega)) _ | with_reducible refine Below.alloc ?_ (by first | omega | (simp <;> omega)) _ | with_reducible refine Below.drew ?_)) F0_1) | skip); (try have zf0_0_0 := zx0_0.cell 0); (try have zf0_0_1 := zx0_0.cell 1); (try have zf0_0_2 := zx0_0.cell 2); (try have zg0_0_0 := zx0_0.frozen 0); (try have zg0_0_1 := zx0_0.frozen 1); (try have zg0_0_2 := zx0_0.frozen 2); (try have zl0_0 := zx0_0.lt))
      | (go_at_call 36; refine (specBlendMeshes_any C0 R0 _ n0 _ l0 C1 R1 _ n1 _ l1 x2 _ m0 (Ou0_0.below (by repeat (first | with_reducible exact Below.refl _ _ | with_reducible assumption | with_reducible refine Below.setCell ?_ (by first | omega | (simp <;> omega)) _ | with_reducible refine Below.alloc ?_ (by first | omega | (simp <;> omega)) _ | with_reducible refine Below.drew ?_))).sl g0 m1 (Ou0_1.below (by repeat (first | with_reducible exact Below.refl _ _ | with_reducible assumption | with_reducible refine Below.setCell ?_ (by first | omega | (simp <;> omega)) _ | with_reducible refine Below.alloc ?_ (by first | omega | (simp <;> omega)) _ | with_reducible refine Below.drew ?_))).sl g1 y2).mono ?_; rintro e v0_2 ⟨⟨AW, cW, rfl, oW, iW⟩, F0_2⟩; have E0_2 : Below w3.heap.size w3 v0_2 := below_then (by repeat (first | with_reducible exact Below.refl _ _ | with_reducible assumption | with_reducible refine Below.setCell ?_ (by first | omega | (simp <;> omega)) _ | with_reducible refine Below.alloc ?_ (by first | omega | (simp <;> omega)) _ | with_reducible refine Below.drew ?_)) F0_2; have DD0_2 := D3.trans (E0_2.mono D3.size); have ES0_2 := E0_2.size; (try replace Ou0_0 := (Ou0_0.below (by repeat (first | with_reducible exact Below.refl _ _ | with_reducible assumption | with_reducible refine Below.setCell ?_ (by first | omega | (simp <;> omega)) _ | with_reducible refine Below.alloc ?_ (by first | omega | (simp <;> omega)) _ | with_reducible refine Below.drew ?_))).below F0_2); (try replace Ou0_1 := (Ou0_1.below (by repeat (first | with_reducible exact Below.refl _ _ | with_reducible assumption | with_reducible refine Below.setCell ?_ (by first | omega | (simp <;> omega)) _ | with_reducible refine Below.alloc ?_ (by first | omega | (simp <;> omega)) _ | with_reducible refine Below.drew ?_))).below F0_2); have oy0 := oW.mono (base' := w3.heap.size) (by first | omega | (simp <;> omega)); have a0y2 := blk_then a0x3 (by repeat (first | with_reducible exact Below.refl _ _ | with_reducible assumption | with_reducible refine Below.setCell ?_ (by first | omega | (simp <;> omega)) _ | with_reducible refine Below.alloc ?_ (by first | omega | (simp <;> omega)) _ | with_reducible refine Below.drew ?_)) F0_2; have a0y2_0 : v0_2.cell? ⟨w.heap.size, 0, none⟩ = some (.int .i64 C0) := a0y2.cell 0; have a0y2_1 : v0_2.cell? ⟨w.heap.size, 1, none⟩ = some (.int .i64 R0) := a0y2.cell 1; have a0y2_2 : v0_2.cell? ⟨w.heap.size, 2, none⟩ = some (.slice A0 n0 c0) := a0y2.cell 2; have a0y2_l := a0y2.lt; have a1y2 := blk_then a1x3 (by repeat (first | with_reducible exact Below.refl _ _ | with_reducible assumption | with_reducible refine Below.setCell ?_ (by first | omega | (simp <;> omega)) _ | with_reducible refine Below.alloc ?_ (by first | omega | (simp <;> omega)) _ | with_reducible refine Below.drew ?_)) F0_2; have a1y2_0 : v0_2.cell? ⟨w.heap.size + 1, 0, none⟩ = some (.int .i64 C1) := a1y2.cell 0; have a1y2_1 : v0_2.cell? ⟨w.heap.size + 1, 1, none⟩ = some (.int .i64 R1) := a1y2.cell 1; have a1y2_2 : v0_2.cell? ⟨w.heap.size + 1, 2, none⟩ = some (.slice A1 n1 c1) := a1y2.cell 2; have a1y2_l := a1y2.lt; (first | (with_reducible have zx0_0 := made_step F0_2) | (with_reducible have zx0_0 := made_step' F0_2) | (replace zx0_0 := blk_then zx0_0 (by repeat (first | with_reducible exact Below.refl _ _ | with_reducible assumption | with_reducible refine Below.setCell ?_ (by first | omega | (simp <;> omega)) _ | with_reducible refine Below.alloc ?_ (by first | omega | (simp <;> omega)) _ | with_reducible refine Below.drew ?_)) F0_2) | skip); (try have zf0_0_0 := zx0_0.cell 0); (try have zf0_0_1 := zx0_0.cell 1); (try have zf0_0_2 := zx0_0.cell 2); (try have zg0_0_0 := zx0_0.frozen 0); (try have zg0_0_1 := zx0_0.frozen 1); (try have zg0_0_2 := zx0_0.frozen 2); (try have zl0_0 := zx0_0.lt)))
    all_goals (try go_wp2_with fail)
    all_goals (go_meet; refine ⟨⟨_, AW, cW, rfl, rfl, ?b0, ?o, iW⟩, ?e⟩; (case b0 => (first | with_reducible exact Blk.new _ _ _ | exact (((zx0_0.set_ 0 _).set_ 1 _).set_ 2 _))); (case o => (first | with_reducible exact (((oy0.set zx0_0 (by decide) 0 _).set (zx0_0.set_ 0 _) (by decide) 1 _).set ((zx0_0.set_ 0 _).set_ 1 _) (by decide) 2 _) | exact oy0.below (by repeat (first | with_reducible exact Below.refl _ _ | with_reducible assumption | with_reducible refine Below.setCell ?_ (by first | omega | (simp <;> omega)) _ | with_reducible refine Below.alloc ?_ (by first | omega | (simp <;> omega)) _ | with_reducible refine Below.drew ?_)))); (case e => (repeat (first | with_reducible exact Below.refl _ _ | with_reducible assumption | with_reducible refine Below.setCell ?_ (by first | omega | (simp <;> omega)) _ | with_reducible refine Below.alloc ?_ (by first | omega | (simp <;> omega)) _ | with_reducible refine Below.drew ?_))))
  obtain ⟨⟨BW0, AW, cW, rfl, rfl, W0x4, oW, iW⟩, H4⟩ := hcut
  obtain ⟨w4, rfl⟩ : ∃ q : World, q = wc := ⟨_, rfl⟩
  have D4 := D3.trans (H4.mono D3.size)
  have z4 := H4.size
  have a0x4 := blk_step a0x3 H4
  have a1x4 := blk_step a1x3 H4
  clear a0f3_0 a0f3_1 a0f3_2
  have a0f4_0 : w4.cell? ⟨w.heap.size, 0, none⟩ = some (.int .i64 C0) := a0x4.cell 0
  have a0f4_1 : w4.cell? ⟨w.heap.size, 1, none⟩ = some (.int .i64 R0) := a0x4.cell 1
  have a0f4_2 : w4.cell? ⟨w.heap.size, 2, none⟩ = some (.slice A0 n0 c0) := a0x4.cell 2
  clear a0l3
  have a0l4 := a0x4.lt
  clear a1f3_0 a1f3_1 a1f3_2
  have a1f4_0 : w4.cell? ⟨w.heap.size + 1, 0, none⟩ = some (.int .i64 C1) := a1x4.cell 0
  have a1f4_1 : w4.cell? ⟨w.heap.size + 1, 1, none⟩ = some (.int .i64 R1) := a1x4.cell 1
  have a1f4_2 : w4.cell? ⟨w.heap.size + 1, 2, none⟩ = some (.slice A1 n1 c1) := a1x4.cell 2
  clear a1l3
  have a1l4 := a1x4.lt
  have WU := oW.und
  have WO := oW.over
  clear a0f4_0 a0f4_1 a0f4_2
  have a0f4_0 : w4.cell? ⟨w.heap.size, 0, none⟩ = some (.int .i64 C0) := a0x4.cell 0
  have a0f4_1 : w4.cell? ⟨w.heap.size, 1, none⟩ = some (.int .i64 R0) := a0x4.cell 1
  have a0f4_2 : w4.cell? ⟨w.heap.size, 2, none⟩ = some (.slice A0 n0 c0) := a0x4.cell 2
  clear a0l4
  have a0l4 := a0x4.lt
  clear a1f4_0 a1f4_1 a1f4_2
  have a1f4_0 : w4.cell? ⟨w.heap.size + 1, 0, none⟩ = some (.int .i64 C1) := a1x4.cell 0
  have a1f4_1 : w4.cell? ⟨w.heap.size + 1, 1, none⟩ = some (.int .i64 R1) := a1x4.cell 1
  have a1f4_2 : w4.cell? ⟨w.heap.size + 1, 2, none⟩ = some (.slice A1 n1 c1) := a1x4.cell 2
  clear a1l4
  have a1l4 := a1x4.lt
  have W0f4_0 : w4.cell? ⟨BW0, 0, none⟩ = some (.int .i64 (mBlendMeshesA C0 R0 n0 l0 C1 R1 n1 l1 x2)) := W0x4.cell 0
  have W0f4_1 : w4.cell? ⟨BW0, 1, none⟩ = some (.int .i64 (mBlendMeshesB C0 R0 n0 l0 C1 R1 n1 l1 x2)) := W0x4.cell 1
  have W0f4_2 : w4.cell? ⟨BW0, 2, none⟩ = some (.slice AW (mBlendMeshesN C0 R0 n0 l0 C1 R1 n1 l1 x2) cW) := W0x4.cell 2
  have W0l4 := W0x4.lt
  go_wp2_with fail
  refine (toMesh_any C0 R0 A0 n0 c0 l0 _ m0 (s0.below D4)).mono ?_
  rintro e w5 ⟨⟨Bx0, rfl, hB5, t5⟩, H5⟩
  have D5 := D4.trans (H5.mono D4.size)
  have z5 := H5.size
  have Wo5 := oW.below H5
  have a0x5 := blk_step a0x4 H5
  have a1x5 := blk_step a1x4 H5
  have W0x5 := blk_step W0x4 H5
  clear a0f4_0 a0f4_1 a0f4_2
  have a0f5_0 : w5.cell? ⟨w.heap.size, 0, none⟩ = some (.int .i64 C0) := a0x5.cell 0
  have a0f5_1 : w5.cell? ⟨w.heap.size, 1, none⟩ = some (.int .i64 R0) := a0x5.cell 1
  have a0f5_2 : w5.cell? ⟨w.heap.size, 2, none⟩ = some (.slice A0 n0 c0) := a0x5.cell 2
  clear a0l4
  have a0l5 := a0x5.lt
  clear a1f4_0 a1f4_1 a1f4_2
  have a1f5_0 : w5.cell? ⟨w.heap.size + 1, 0, none⟩ = some (.int .i64 C1) := a1x5.cell 0
  have a1f5_1 : w5.cell? ⟨w.heap.size + 1, 1, none⟩ = some (.int .i64 R1) := a1x5.cell 1
  have a1f5_2 : w5.cell? ⟨w.heap.size + 1, 2, none⟩ = some (.slice A1 n1 c1) := a1x5.cell 2
  clear a1l4
  have a1l5 := a1x5.lt
  clear W0f4_0 W0f4_1 W0f4_2
  have W0f5_0 : w5.cell? ⟨BW0, 0, none⟩ = some (.int .i64 (mBlendMeshesA C0 R0 n0 l0 C1 R1 n1 l1 x2)) := W0x5.cell 0
  have W0f5_1 : w5.cell? ⟨BW0, 1, none⟩ = some (.int .i64 (mBlendMeshesB C0 R0 n0 l0 C1 R1 n1 l1 x2)) := W0x5.cell 1
  have W0f5_2 : w5.cell? ⟨BW0, 2, none⟩ = some (.slice AW (mBlendMeshesN C0 R0 n0 l0 C1 R1 n1 l1 x2) cW) := W0x5.cell 2
  clear W0l4
  have W0l5 := W0x5.lt
  have x0o5 := Own.blk (base := w4.heap.size) (size := 2) t5 hB5 (Nat.le_refl (n0 * 2)) (fun _ _ => rfl)
  have x0U := x0o5.und
  have x0O := x0o5.over
  go_wp2_with fail
  generalize hW6 : (w5.alloc (.cells #[.int .i64 C0, .int .i64 R0, .slice (some ⟨Bx0, 0, none⟩) n0 n0] 29)) = w6
  have H6 : Below w5.heap.size w5 w6 := by rw [← hW6]; repeat (first | with_reducible exact Below.refl _ _ | with_reducible assumption | with_reducible refine Below.setCell ?_ (by simp <;> omega) _ | with_reducible refine Below.alloc ?_ (by simp <;> omega) _ | with_reducible refine Below.drew ?_)
  have x0x6 : Blk w6 (w5.heap.size) 29 #[.int .i64 C0, .int .i64 R0, .slice (some ⟨Bx0, 0, none⟩) n0 n0] := by rw [← hW6]; exact Blk.new w5 29 #[.int .i64 C0, .int .i64 R0, .slice (some ⟨Bx0, 0, none⟩) n0 n0]
  clear hW6
  have D6 := D5.trans (H6.mono D5.size)
  have z6 := H6.size
  have Wo6 := Wo5.below H6
  have x0o6 := x0o5.below H6
  have a0x6 := blk_step a0x5 H6
  have a1x6 := blk_step a1x5 H6
  have W0x6 := blk_step W0x5 H6
  clear a0f5_0 a0f5_1 a0f5_2
  have a0f6_0 : w6.cell? ⟨w.heap.size, 0, none⟩ = some (.int .i64 C0) := a0x6.cell 0
  have a0f6_1 : w6.cell? ⟨w.heap.size, 1, none⟩ = some (.int .i64 R0) := a0x6.cell 1
  have a0f6_2 : w6.cell? ⟨w.heap.size, 2, none⟩ = some (.slice A0 n0 c0) := a0x6.cell 2
  clear a0l5
  have a0l6 := a0x6.lt
  clear a1f5_0 a1f5_1 a1f5_2
  have a1f6_0 : w6.cell? ⟨w.heap.size + 1, 0, none⟩ = some (.int .i64 C1) := a1x6.cell 0
  have a1f6_1 : w6.cell? ⟨w.heap.size + 1, 1, none⟩ = some (.int .i64 R1) := a1x6.cell 1
  have a1f6_2 : w6.cell? ⟨w.heap.size + 1, 2, none⟩ = some (.slice A1 n1 c1) := a1x6.cell 2
  clear a1l5
  have a1l6 := a1x6.lt
  clear W0f5_0 W0f5_1 W0f5_2
  have W0f6_0 : w6.cell? ⟨BW0, 0, none⟩ = some (.int .i64 (mBlendMeshesA C0 R0 n0 l0 C1 R1 n1 l1 x2)) := W0x6.cell 0
  have W0f6_1 : w6.cell? ⟨BW0, 1, none⟩ = some (.int .i64 (mBlendMeshesB C0 R0 n0 l0 C1 R1 n1 l1 x2)) := W0x6.cell 1
  have W0f6_2 : w6.cell? ⟨BW0, 2, none⟩ = some (.slice AW (mBlendMeshesN C0 R0 n0 l0 C1 R1 n1 l1 x2) cW) := W0x6.cell 2
  clear W0l5
  have W0l6 := W0x6.lt
  have x0f6_0 : w6.cell? ⟨w5.heap.size, 0, none⟩ = some (.int .i64 C0) := x0x6.cell 0
  have x0f6_1 : w6.cell? ⟨w5.heap.size, 1, none⟩ = some (.int .i64 R0) := x0x6.cell 1
  have x0f6_2 : w6.cell? ⟨w5.heap.size, 2, none⟩ = some (.slice (some ⟨Bx0, 0, none⟩) n0 n0) := x0x6.cell 2
  have x0l6 := x0x6.lt
  refine (toMesh_any C1 R1 A1 n1 c1 l1 _ m1 (s1.below D6)).mono ?_
  rintro e w7 ⟨⟨Bx1, rfl, hB7, t7⟩, H7⟩
  have D7 := D6.trans (H7.mono D6.size)
  have z7 := H7.size
  have Wo7 := Wo6.below H7
  have x0o7 := x0o6.below H7
  have a0x7 := blk_step a0x6 H7
  have a1x7 := blk_step a1x6 H7
  have W0x7 := blk_step W0x6 H7
  have x0x7 := blk_step x0x6 H7
  clear a0f6_0 a0f6_1 a0f6_2
  have a0f7_0 : w7.cell? ⟨w.heap.size, 0, none⟩ = some (.int .i64 C0) := a0x7.cell 0
  have a0f7_1 : w7.cell? ⟨w.heap.size, 1, none⟩ = some (.int .i64 R0) := a0x7.cell 1
  have a0f7_2 : w7.cell? ⟨w.heap.size, 2, none⟩ = some (.slice A0 n0 c0) := a0x7.cell 2
  clear a0l6
  have a0l7 := a0x7.lt
  clear a1f6_0 a1f6_1 a1f6_2
  have a1f7_0 : w7.cell? ⟨w.heap.size + 1, 0, none⟩ = some (.int .i64 C1) := a1x7.cell 0
  have a1f7_1 : w7.cell? ⟨w.heap.size + 1, 1, none⟩ = some (.int .i64 R1) := a1x7.cell 1
  have a1f7_2 : w7.cell? ⟨w.heap.size + 1, 2, none⟩ = some (.slice A1 n1 c1) := a1x7.cell 2
  clear a1l6
  have a1l7 := a1x7.lt
  clear W0f6_0 W0f6_1 W0f6_2
  have W0f7_0 : w7.cell? ⟨BW0, 0, none⟩ = some (.int .i64 (mBlendMeshesA C0 R0 n0 l0 C1 R1 n1 l1 x2)) := W0x7.cell 0
  have W0f7_1 : w7.cell? ⟨BW0, 1, none⟩ = some (.int .i64 (mBlendMeshesB C0 R0 n0 l0 C1 R1 n1 l1 x2)) := W0x7.cell 1
  have W0f7_2 : w7.cell? ⟨BW0, 2, none⟩ = some (.slice AW (mBlendMeshesN C0 R0 n0 l0 C1 R1 n1 l1 x2) cW) := W0x7.cell 2
  clear W0l6
  have W0l7 := W0x7.lt
  clear x0f6_0 x0f6_1 x0f6_2
  have x0f7_0 : w7.cell? ⟨w5.heap.size, 0, none⟩ = some (.int .i64 C0) := x0x7.cell 0
  have x0f7_1 : w7.cell? ⟨w5.heap.size, 1, none⟩ = some (.int .i64 R0) := x0x7.cell 1
  have x0f7_2 : w7.cell? ⟨w5.heap.size, 2, none⟩ = some (.slice (some ⟨Bx0, 0, none⟩) n0 n0) := x0x7.cell 2
  clear x0l6
  have x0l7 := x0x7.lt
  have x1o7 := Own.blk (base := w6.heap.size) (size := 2) t7 hB7 (Nat.le_refl (n1 * 2)) (fun _ _ => rfl)
  have x1U := x1o7.und
  have x1O := x1o7.over
  go_wp2_with fail
  generalize hW8 : (w7.alloc (.cells #[.int .i64 C1, .int .i64 R1, .slice (some ⟨Bx1, 0, none⟩) n1 n1] 29)) = w8
  have H8 : Below w7.heap.size w7 w8 := by rw [← hW8]; repeat (first | with_reducible exact Below.refl _ _ | with_reducible assumption | with_reducible refine Below.setCell ?_ (by simp <;> omega) _ | with_reducible refine Below.alloc ?_ (by simp <;> omega) _ | with_reducible refine Below.drew ?_)
  have x1x8 : Blk w8 (w7.heap.size) 29 #[.int .i64 C1, .int .i64 R1, .slice (some ⟨Bx1, 0, none⟩) n1 n1] := by rw [← hW8]; exact Blk.new w7 29 #[.int .i64 C1, .int .i64 R1, .slice (some ⟨Bx1, 0, none⟩) n1 n1]
  clear hW8
  have D8 := D7.trans (H8.mono D7.size)
  have z8 := H8.size
  have Wo8 := Wo7.below H8
  have x0o8 := x0o7.below H8
  have x1o8 := x1o7.below H8
  have a0x8 := blk_step a0x7 H8
  have a1x8 := blk_step a1x7 H8
  have W0x8 := blk_step W0x7 H8
  have x0x8 := blk_step x0x7 H8
  clear a0f7_0 a0f7_1 a0f7_2
  have a0f8_0 : w8.cell? ⟨w.heap.size, 0, none⟩ = some (.int .i64 C0) := a0x8.cell 0
  have a0f8_1 : w8.cell? ⟨w.heap.size, 1, none⟩ = some (.int .i64 R0) := a0x8.cell 1
  have a0f8_2 : w8.cell? ⟨w.heap.size, 2, none⟩ = some (.slice A0 n0 c0) := a0x8.cell 2
  clear a0l7
  have a0l8 := a0x8.lt
  clear a1f7_0 a1f7_1 a1f7_2
  have a1f8_0 : w8.cell? ⟨w.heap.size + 1, 0, none⟩ = some (.int .i64 C1) := a1x8.cell 0
  have a1f8_1 : w8.cell? ⟨w.heap.size + 1, 1, none⟩ = some (.int .i64 R1) := a1x8.cell 1
  have a1f8_2 : w8.cell? ⟨w.heap.size + 1, 2, none⟩ = some (.slice A1 n1 c1) := a1x8.cell 2
  clear a1l7
  have a1l8 := a1x8.lt
  clear W0f7_0 W0f7_1 W0f7_2
  have W0f8_0 : w8.cell? ⟨BW0, 0, none⟩ = some (.int .i64 (mBlendMeshesA C0 R0 n0 l0 C1 R1 n1 l1 x2)) := W0x8.cell 0
  have W0f8_1 : w8.cell? ⟨BW0, 1, none⟩ = some (.int .i64 (mBlendMeshesB C0 R0 n0 l0 C1 R1 n1 l1 x2)) := W0x8.cell 1
  have W0f8_2 : w8.cell? ⟨BW0, 2, none⟩ = some (.slice AW (mBlendMeshesN C0 R0 n0 l0 C1 R1 n1 l1 x2) cW) := W0x8.cell 2
  clear W0l7
  have W0l8 := W0x8.lt
  clear x0f7_0 x0f7_1 x0f7_2
  have x0f8_0 : w8.cell? ⟨w5.heap.size, 0, none⟩ = some (.int .i64 C0) := x0x8.cell 0
  have x0f8_1 : w8.cell? ⟨w5.heap.size, 1, none⟩ = some (.int .i64 R0) := x0x8.cell 1
  have x0f8_2 : w8.cell? ⟨w5.heap.size, 2, none⟩ = some (.slice (some ⟨Bx0, 0, none⟩) n0 n0) := x0x8.cell 2
  clear x0l7
  have x0l8 := x0x8.lt
  have x1f8_0 : w8.cell? ⟨w7.heap.size, 0, none⟩ = some (.int .i64 C1) := x1x8.cell 0
  have x1f8_1 : w8.cell? ⟨w7.heap.size, 1, none⟩ = some (.int .i64 R1) := x1x8.cell 1
  have x1f8_2 : w8.cell? ⟨w7.heap.size, 2, none⟩ = some (.slice (some ⟨Bx1, 0, none⟩) n1 n1) := x1x8.cell 2
  have x1l8 := x1x8.lt
  refine (implBlendMeshes_any C0 R0 _ n0 _ l0 C1 R1 _ n1 _ l1 x2 _ m0 x0o8.sl g0 m1 x1o8.sl g1 y2).mono ?_
  rintro e w9 ⟨⟨AG, cG, rfl, oG, iG⟩, H9⟩
  have D9 := D8.trans (H9.mono D8.size)
  have z9 := H9.size
  have Wo9 := Wo8.below H9
  have x0o9 := x0o8.below H9
  have x1o9 := x1o8.below H9
  have a0x9 := blk_step a0x8 H9
  have a1x9 := blk_step a1x8 H9
  have W0x9 := blk_step W0x8 H9
  have x0x9 := blk_step x0x8 H9
  have x1x9 := blk_step x1x8 H9
  clear a0f8_0 a0f8_1 a0f8_2
  have a0f9_0 : w9.cell? ⟨w.heap.size, 0, none⟩ = some (.int .i64 C0) := a0x9.cell 0
  have a0f9_1 : w9.cell? ⟨w.heap.size, 1, none⟩ = some (.int .i64 R0) := a0x9.cell 1
  have a0f9_2 : w9.cell? ⟨w.heap.size, 2, none⟩ = some (.slice A0 n0 c0) := a0x9.cell 2
  clear a0l8
  have a0l9 := a0x9.lt
  clear a1f8_0 a1f8_1 a1f8_2
  have a1f9_0 : w9.cell? ⟨w.heap.size + 1, 0, none⟩ = some (.int .i64 C1) := a1x9.cell 0
  have a1f9_1 : w9.cell? ⟨w.heap.size + 1, 1, none⟩ = some (.int .i64 R1) := a1x9.cell 1
  have a1f9_2 : w9.cell? ⟨w.heap.size + 1, 2, none⟩ = some (.slice A1 n1 c1) := a1x9.cell 2
  clear a1l8
  have a1l9 := a1x9.lt
  clear W0f8_0 W0f8_1 W0f8_2
  have W0f9_0 : w9.cell? ⟨BW0, 0, none⟩ = some (.int .i64 (mBlendMeshesA C0 R0 n0 l0 C1 R1 n1 l1 x2)) := W0x9.cell 0
  have W0f9_1 : w9.cell? ⟨BW0, 1, none⟩ = some (.int .i64 (mBlendMeshesB C0 R0 n0 l0 C1 R1 n1 l1 x2)) := W0x9.cell 1
  have W0f9_2 : w9.cell? ⟨BW0, 2, none⟩ = some (.slice AW (mBlendMeshesN C0 R0 n0 l0 C1 R1 n1 l1 x2) cW) := W0x9.cell 2
  clear W0l8
  have W0l9 := W0x9.lt
  clear x0f8_0 x0f8_1 x0f8_2
  have x0f9_0 : w9.cell? ⟨w5.heap.size, 0, none⟩ = some (.int .i64 C0) := x0x9.cell 0
  have x0f9_1 : w9.cell? ⟨w5.heap.size, 1, none⟩ = some (.int .i64 R0) := x0x9.cell 1
  have x0f9_2 : w9.cell? ⟨w5.heap.size, 2, none⟩ = some (.slice (some ⟨Bx0, 0, none⟩) n0 n0) := x0x9.cell 2
  clear x0l8
  have x0l9 := x0x9.lt
  clear x1f8_0 x1f8_1 x1f8_2
  have x1f9_0 : w9.cell? ⟨w7.heap.size, 0, none⟩ = some (.int .i64 C1) := x1x9.cell 0
  have x1f9_1 : w9.cell? ⟨w7.heap.size, 1, none⟩ = some (.int .i64 R1) := x1x9.cell 1
  have x1f9_2 : w9.cell? ⟨w7.heap.size, 2, none⟩ = some (.slice (some ⟨Bx1, 0, none⟩) n1 n1) := x1x9.cell 2
  clear x1l8
  have x1l9 := x1x9.lt
  have GU := oG.und
  have GO := oG.over
  go_wp2_with fail
  generalize hW10 : (w9.alloc (.cells #[.int .i64 (mBlendMeshesA C0 R0 n0 l0 C1 R1 n1 l1 x2), .int .i64 (mBlendMeshesB C0 R0 n0 l0 C1 R1 n1 l1 x2), .slice AG (mBlendMeshesN C0 R0 n0 l0 C1 R1 n1 l1 x2) cG] 29)) = w10
  have H10 : Below w9.heap.size w9 w10 := by rw [← hW10]; repeat (first | with_reducible exact Below.refl _ _ | with_reducible assumption | with_reducible refine Below.setCell ?_ (by simp <;> omega) _ | with_reducible refine Below.alloc ?_ (by simp <;> omega) _ | with_reducible refine Below.drew ?_)
  have G0x10 : Blk w10 (w9.heap.size) 29 #[.int .i64 (mBlendMeshesA C0 R0 n0 l0 C1 R1 n1 l1 x2), .int .i64 (mBlendMeshesB C0 R0 n0 l0 C1 R1 n1 l1 x2), .slice AG (mBlendMeshesN C0 R0 n0 l0 C1 R1 n1 l1 x2) cG] := by rw [← hW10]; exact Blk.new w9 29 #[.int .i64 (mBlendMeshesA C0 R0 n0 l0 C1 R1 n1 l1 x2), .int .i64 (mBlendMeshesB C0 R0 n0 l0 C1 R1 n1 l1 x2), .slice AG (mBlendMeshesN C0 R0 n0 l0 C1 R1 n1 l1 x2) cG]
  clear hW10
  have D10 := D9.trans (H10.mono D9.size)
  have z10 := H10.size
  have Wo10 := Wo9.below H10
  have x0o10 := x0o9.below H10
  have x1o10 := x1o9.below H10
  have Go10 := oG.below H10
  have a0x10 := blk_step a0x9 H10
  have a1x10 := blk_step a1x9 H10
  have W0x10 := blk_step W0x9 H10
  have x0x10 := blk_step x0x9 H10
  have x1x10 := blk_step x1x9 H10
  clear a0f9_0 a0f9_1 a0f9_2
  have a0f10_0 : w10.cell? ⟨w.heap.size, 0, none⟩ = some (.int .i64 C0) := a0x10.cell 0
  have a0f10_1 : w10.cell? ⟨w.heap.size, 1, none⟩ = some (.int .i64 R0) := a0x10.cell 1
  have a0f10_2 : w10.cell? ⟨w.heap.size, 2, none⟩ = some (.slice A0 n0 c0) := a0x10.cell 2
  clear a0l9
  have a0l10 := a0x10.lt
  clear a1f9_0 a1f9_1 a1f9_2
  have a1f10_0 : w10.cell? ⟨w.heap.size + 1, 0, none⟩ = some (.int .i64 C1) := a1x10.cell 0
  have a1f10_1 : w10.cell? ⟨w.heap.size + 1, 1, none⟩ = some (.int .i64 R1) := a1x10.cell 1
  have a1f10_2 : w10.cell? ⟨w.heap.size + 1, 2, none⟩ = some (.slice A1 n1 c1) := a1x10.cell 2
  clear a1l9
  have a1l10 := a1x10.lt
  clear W0f9_0 W0f9_1 W0f9_2
  have W0f10_0 : w10.cell? ⟨BW0, 0, none⟩ = some (.int .i64 (mBlendMeshesA C0 R0 n0 l0 C1 R1 n1 l1 x2)) := W0x10.cell 0
  have W0f10_1 : w10.cell? ⟨BW0, 1, none⟩ = some (.int .i64 (mBlendMeshesB C0 R0 n0 l0 C1 R1 n1 l1 x2)) := W0x10.cell 1
  have W0f10_2 : w10.cell? ⟨BW0, 2, none⟩ = some (.slice AW (mBlendMeshesN C0 R0 n0 l0 C1 R1 n1 l1 x2) cW) := W0x10.cell 2
  clear W0l9
  have W0l10 := W0x10.lt
  clear x0f9_0 x0f9_1 x0f9_2
  have x0f10_0 : w10.cell? ⟨w5.heap.size, 0, none⟩ = some (.int .i64 C0) := x0x10.cell 0
  have x0f10_1 : w10.cell? ⟨w5.heap.size, 1, none⟩ = some (.int .i64 R0) := x0x10.cell 1
  have x0f10_2 : w10.cell? ⟨w5.heap.size, 2, none⟩ = some (.slice (some ⟨Bx0, 0, none⟩) n0 n0) := x0x10.cell 2
  clear x0l9
  have x0l10 := x0x10.lt
  clear x1f9_0 x1f9_1 x1f9_2
  have x1f10_0 : w10.cell? ⟨w7.heap.size, 0, none⟩ = some (.int .i64 C1) := x1x10.cell 0
  have x1f10_1 : w10.cell? ⟨w7.heap.size, 1, none⟩ = some (.int .i64 R1) := x1x10.cell 1
  have x1f10_2 : w10.cell? ⟨w7.heap.size, 2, none⟩ = some (.slice (some ⟨Bx1, 0, none⟩) n1 n1) := x1x10.cell 2
  clear x1l9
  have x1l10 := x1x10.lt
  have G0f10_0 : w10.cell? ⟨w9.heap.size, 0, none⟩ = some (.int .i64 (mBlendMeshesA C0 R0 n0 l0 C1 R1 n1 l1 x2)) := G0x10.cell 0
  have G0f10_1 : w10.cell? ⟨w9.heap.size, 1, none⟩ = some (.int .i64 (mBlendMeshesB C0 R0 n0 l0 C1 R1 n1 l1 x2)) := G0x10.cell 1
  have G0f10_2 : w10.cell? ⟨w9.heap.size, 2, none⟩ = some (.slice AG (mBlendMeshesN C0 R0 n0 l0 C1 R1 n1 l1 x2) cG) := G0x10.cell 2
  have G0l10 := G0x10.lt
  refine (eqMesh_yes (mBlendMeshesA C0 R0 n0 l0 C1 R1 n1 l1 x2) (mBlendMeshesB C0 R0 n0 l0 C1 R1 n1 l1 x2) _ _ (mBlendMeshesN C0 R0 n0 l0 C1 R1 n1 l1 x2) _ _ (mBlendMeshesL C0 R0 n0 l0 C1 R1 n1 l1 x2) _ (by omega) Go10.sl Wo10.sl).mono ?_
  rintro e w11 ⟨rfl, H11⟩
  have D11 := D10.trans (H11.mono D10.size)
  have z11 := H11.size
  have Wo11 := Wo10.below H11
  have x0o11 := x0o10.below H11
  have x1o11 := x1o10.below H11
  have Go11 := Go10.below H11
  have a0x11 := blk_step a0x10 H11
  have a1x11 := blk_step a1x10 H11
  have W0x11 := blk_step W0x10 H11
  have x0x11 := blk_step x0x10 H11
  have x1x11 := blk_step x1x10 H11
  have G0x11 := blk_step G0x10 H11
  clear a0f10_0 a0f10_1 a0f10_2
  have a0f11_0 : w11.cell? ⟨w.heap.size, 0, none⟩ = some (.int .i64 C0) := a0x11.cell 0
  have a0f11_1 : w11.cell? ⟨w.heap.size, 1, none⟩ = some (.int .i64 R0) := a0x11.cell 1
  have a0f11_2 : w11.cell? ⟨w.heap.size, 2, none⟩ = some (.slice A0 n0 c0) := a0x11.cell 2
  clear a0l10
  have a0l11 := a0x11.lt
  clear a1f10_0 a1f10_1 a1f10_2
  have a1f11_0 : w11.cell? ⟨w.heap.size + 1, 0, none⟩ = some (.int .i64 C1) := a1x11.cell 0
  have a1f11_1 : w11.cell? ⟨w.heap.size + 1, 1, none⟩ = some (.int .i64 R1) := a1x11.cell 1
  have a1f11_2 : w11.cell? ⟨w.heap.size + 1, 2, none⟩ = some (.slice A1 n1 c1) := a1x11.cell 2
  clear a1l10
  have a1l11 := a1x11.lt
  clear W0f10_0 W0f10_1 W0f10_2
  have W0f11_0 : w11.cell? ⟨BW0, 0, none⟩ = some (.int .i64 (mBlendMeshesA C0 R0 n0 l0 C1 R1 n1 l1 x2)) := W0x11.cell 0
  have W0f11_1 : w11.cell? ⟨BW0, 1, none⟩ = some (.int .i64 (mBlendMeshesB C0 R0 n0 l0 C1 R1 n1 l1 x2)) := W0x11.cell 1
  have W0f11_2 : w11.cell? ⟨BW0, 2, none⟩ = some (.slice AW (mBlendMeshesN C0 R0 n0 l0 C1 R1 n1 l1 x2) cW) := W0x11.cell 2
  clear W0l10
  have W0l11 := W0x11.lt
  clear x0f10_0 x0f10_1 x0f10_2
  have x0f11_0 : w11.cell? ⟨w5.heap.size, 0, none⟩ = some (.int .i64 C0) := x0x11.cell 0
  have x0f11_1 : w11.cell? ⟨w5.heap.size, 1, none⟩ = some (.int .i64 R0) := x0x11.cell 1
  have x0f11_2 : w11.cell? ⟨w5.heap.size, 2, none⟩ = some (.slice (some ⟨Bx0, 0, none⟩) n0 n0) := x0x11.cell 2
  clear x0l10
  have x0l11 := x0x11.lt
  clear x1f10_0 x1f10_1 x1f10_2
  have x1f11_0 : w11.cell? ⟨w7.heap.size, 0, none⟩ = some (.int .i64 C1) := x1x11.cell 0
  have x1f11_1 : w11.cell? ⟨w7.heap.size, 1, none⟩ = some (.int .i64 R1) := x1x11.cell 1
  have x1f11_2 : w11.cell? ⟨w7.heap.size, 2, none⟩ = some (.slice (some ⟨Bx1, 0, none⟩) n1 n1) := x1x11.cell 2
  clear x1l10
  have x1l11 := x1x11.lt
  clear G0f10_0 G0f10_1 G0f10_2
  have G0f11_0 : w11.cell? ⟨w9.heap.size, 0, none⟩ = some (.int .i64 (mBlendMeshesA C0 R0 n0 l0 C1 R1 n1 l1 x2)) := G0x11.cell 0
  have G0f11_1 : w11.cell? ⟨w9.heap.size, 1, none⟩ = some (.int .i64 (mBlendMeshesB C0 R0 n0 l0 C1 R1 n1 l1 x2)) := G0x11.cell 1
  have G0f11_2 : w11.cell? ⟨w9.heap.size, 2, none⟩ = some (.slice AG (mBlendMeshesN C0 R0 n0 l0 C1 R1 n1 l1 x2) cG) := G0x11.cell 2
  clear G0l10
  have G0l11 := G0x11.lt
  go_wp2_with fail
  go_cut [62] (fun s62 wr => s62 = .bool false ∧ Below w11.heap.size w11 wr)
  case first =>
    have ks : ∀ w' : World, Below w11.heap.size w11 w' → w'.cell? ⟨w.heap.size, 0, none⟩ = some (.int .i64 C0) ∧ w'.cell? ⟨w.heap.size, 1, none⟩ = some (.int .i64 R0) ∧ w'.cell? ⟨w.heap.size, 2, none⟩ = some (.slice A0 n0 c0) ∧ w'.cell? ⟨w.heap.size + 1, 0, none⟩ = some (.int .i64 C1) ∧ w'.cell? ⟨w.heap.size + 1, 1, none⟩ = some (.int .i64 R1) ∧ w'.cell? ⟨w.heap.size + 1, 2, none⟩ = some (.slice A1 n1 c1) ∧ w'.cell? ⟨BW0, 0, none⟩ = some (.int .i64 (mBlendMeshesA C0 R0 n0 l0 C1 R1 n1 l1 x2)) ∧ w'.cell? ⟨BW0, 1, none⟩ = some (.int .i64 (mBlendMeshesB C0 R0 n0 l0 C1 R1 n1 l1 x2)) ∧ w'.cell? ⟨BW0, 2, none⟩ = some (.slice AW (mBlendMeshesN C0 R0 n0 l0 C1 R1 n1 l1 x2) cW) ∧ w'.cell? ⟨w5.heap.size, 0, none⟩ = some (.int .i64 C0) ∧ w'.cell? ⟨w5.heap.size, 1, none⟩ = some (.int .i64 R0) ∧ w'.cell? ⟨w5.heap.size, 2, none⟩ = some (.slice (some ⟨Bx0, 0, none⟩) n0 n0) ∧ w'.cell? ⟨w7.heap.size, 0, none⟩ = some (.int .i64 C1) ∧ w'.cell? ⟨w7.heap.size, 1, none⟩ = some (.int .i64 R1) ∧ w'.cell? ⟨w7.heap.size, 2, none⟩ = some (.slice (some ⟨Bx1, 0, none⟩) n1 n1) ∧ w'.cell? ⟨w9.heap.size, 0, none⟩ = some (.int .i64 (mBlendMeshesA C0 R0 n0 l0 C1 R1 n1 l1 x2)) ∧ w'.cell? ⟨w9.heap.size, 1, none⟩ = some (.int .i64 (mBlendMeshesB C0 R0 n0 l0 C1 R1 n1 l1 x2)) ∧ w'.cell? ⟨w9.heap.size, 2, none⟩ = some (.slice AG (mBlendMeshesN C0 R0 n0 l0 C1 R1 n1 l1 x2) cG) := fun w' h => ⟨(Blk.below a0x11 h a0x11.lt).cell 0, (Blk.below a0x11 h a0x11.lt).cell 1, (Blk.below a0x11 h a0x11.lt).cell 2, (Blk.below a1x11 h a1x11.lt).cell 0, (Blk.below a1x11 h a1x11.lt).cell 1, (Blk.below a1x11 h a1x11.lt).cell 2, (Blk.below W0x11 h W0x11.lt).cell 0, (Blk.below W0x11 h W0x11.lt).cell 1, (Blk.below W0x11 h W0x11.lt).cell 2, (Blk.below x0x11 h x0x11.lt).cell 0, (Blk.below x0x11 h x0x11.lt).cell 1, (Blk.below x0x11 h x0x11.lt).cell 2, (Blk.below x1x11 h x1x11.lt).cell 0, (Blk.below x1x11 h x1x11.lt).cell 1, (Blk.below x1x11 h x1x11.lt).cell 2, (Blk.below G0x11 h G0x11.lt).cell 0, (Blk.below G0x11 h G0x11.lt).cell 1, (Blk.below G0x11 h G0x11.lt).cell 2⟩
    have KS := Lib.hid ks
    clear ks
    go_region_held3 (fun w' => w'.cell? ⟨w.heap.size, 0, none⟩ = some (.int .i64 C0) ∧ w'.cell? ⟨w.heap.size, 1, none⟩ = some (.int .i64 R0) ∧ w'.cell? ⟨w.heap.size, 2, none⟩ = some (.slice A0 n0 c0) ∧ w'.cell? ⟨w.heap.size + 1, 0, none⟩ = some (.int .i64 C1) ∧ w'.cell? ⟨w.heap.size + 1, 1, none⟩ = some (.int .i64 R1) ∧ w'.cell? ⟨w.heap.size + 1, 2, none⟩ = some (.slice A1 n1 c1) ∧ w'.cell? ⟨BW0, 0, none⟩ = some (.int .i64 (mBlendMeshesA C0 R0 n0 l0 C1 R1 n1 l1 x2)) ∧ w'.cell? ⟨BW0, 1, none⟩ = some (.int .i64 (mBlendMeshesB C0 R0 n0 l0 C1 R1 n1 l1 x2)) ∧ w'.cell? ⟨BW0, 2, none⟩ = some (.slice AW (mBlendMeshesN C0 R0 n0 l0 C1 R1 n1 l1 x2) cW) ∧ w'.cell? ⟨w5.heap.size, 0, none⟩ = some (.int .i64 C0) ∧ w'.cell? ⟨w5.heap.size, 1, none⟩ = some (.int .i64 R0) ∧ w'.cell? ⟨w5.heap.size, 2, none⟩ = some (.slice (some ⟨Bx0, 0, none⟩) n0 n0) ∧ w'.cell? ⟨w7.heap.size, 0, none⟩ = some (.int .i64 C1) ∧ w'.cell? ⟨w7.heap.size, 1, none⟩ = some (.int .i64 R1) ∧ w'.cell? ⟨w7.heap.size, 2, none⟩ = some (.slice (some ⟨Bx1, 0, none⟩) n1 n1) ∧ w'.cell? ⟨w9.heap.size, 0, none⟩ = some (.int .i64 (mBlendMeshesA C0 R0 n0 l0 C1 R1 n1 l1 x2)) ∧ w'.cell? ⟨w9.heap.size, 1, none⟩ = some (.int .i64 (mBlendMeshesB C0 R0 n0 l0 C1 R1 n1 l1 x2)) ∧ w'.cell? ⟨w9.heap.size, 2, none⟩ = some (.slice AG (mBlendMeshesN C0 R0 n0 l0 C1 R1 n1 l1 x2) cG))
      (exact KS.out _ (by repeat (first | with_reducible exact Below.refl _ _ | with_reducible assumption | with_reducible refine Below.setCell ?_ (by first | omega | (simp <;> omega)) _ | with_reducible refine Below.alloc ?_ (by first | omega | (simp <;> omega)) _ | with_reducible refine Below.drew ?_)))
      (first
      | (go_at_call 17; refine (toMesh_any C0 R0 A0 n0 c0 l0 _ m0 (s0.below (by repeat (first | with_reducible exact Below.refl _ _ | with_reducible assumption | with_reducible refine Below.setCell ?_ (by first | omega | (simp <;> omega)) _ | with_reducible refine Below.alloc ?_ (by first | omega | (simp <;> omega)) _ | with_reducible refine Below.drew ?_)))).mono ?_; rintro e v1_0 ⟨⟨Be1, rfl, he1, te1⟩, F1_0⟩; have E1_0 : Below w11.heap.size w11 v1_0 := below_then (by repeat (first | with_reducible exact Below.refl _ _ | with_reducible assumption | with_reducible refine Below.setCell ?_ (by first | omega | (simp <;> omega)) _ | with_reducible refine Below.alloc ?_ (by first | omega | (simp <;> omega)) _ | with_reducible refine Below.drew ?_)) F1_0; have DD1_0 := D11.trans (E1_0.mono D11.size); have ES1_0 := E1_0.size; have Oe1 := Own.blk (size := 2) te1 (Nat.zero_le _) (Nat.le_refl (n0 * 2)) (fun _ _ => rfl); have a0y0 := blk_then a0x11 (by repeat (first | with_reducible exact Below.refl _ _ | with_reducible assumption | with_reducible refine Below.setCell ?_ (by first | omega | (simp <;> omega)) _ | with_reducible refine Below.alloc ?_ (by first | omega | (simp <;> omega)) _ | with_reducible refine Below.drew ?_)) F1_0; have a0y0_0 : v1_0.cell? ⟨w.heap.size, 0, none⟩ = some (.int .i64 C0) := a0y0.cell 0; have a0y0_1 : v1_0.cell? ⟨w.heap.size, 1, none⟩ = some (.int .i64 R0) := a0y0.cell 1; have a0y0_2 : v1_0.cell? ⟨w.heap.size, 2, none⟩ = some (.slice A0 n0 c0) := a0y0.cell 2; have a0y0_l := a0y0.lt; have a1y0 := blk_then a1x11 (by repeat (first | with_reducible exact Below.refl _ _ | with_reducible assumption | with_reducible refine Below.setCell ?_ (by first | omega | (simp <;> omega)) _ | with_reducible refine Below.alloc ?_ (by first | omega | (simp <;> omega)) _ | with_reducible refine Below.drew ?_)) F1_0; have a1y0_0 : v1_0.cell? ⟨w.heap.size + 1, 0, none⟩ = some (.int .i64 C1) := a1y0.cell 0; have a1y0_1 : v1_0.cell? ⟨w.heap.size + 1, 1, none⟩ = some (.int .i64 R1) := a1y0.cell 1; have a1y0_2 : v1_0.cell? ⟨w.heap.size + 1, 2, none⟩ = some (.slice A1 n1 c1) := a1y0.cell 2; have a1y0_l := a1y0.lt; have W0y0 := blk_then W0x11 (by repeat (first | with_reducible exact Below.refl _ _ | with_reducible assumption | with_reducible refine Below.setCell ?_ (by first | omega | (simp <;> omega)) _ | with_reducible refine Below.alloc ?_ (by first | omega | (simp <;> omega)) _ | with_reducible refine Below.drew ?_)) F1_0; have W0y0_0 : v1_0.cell? ⟨BW0, 0, none⟩ = some (.int .i64 (mBlendMeshesA C0 R0 n0 l0 C1 R1 n1 l1 x2)) := W0y0.cell 0; have W0y0_1 : v1_0.cell? ⟨BW0, 1, none⟩ = some (.int .i64 (mBlendMeshesB C0 R0 n0 l0 C1 R1 n1 l1 x2)) := W0y0.cell 1; have W0y0_2 : v1_0.cell? ⟨BW0, 2, none⟩ = some (.slice AW (mBlendMeshesN C0 R0 n0 l0 C1 R1 n1 l1 x2) cW) := W0y0.cell 2; have W0y0_l := W0y0.lt; have x0y0 := blk_then x0x11 (by repeat (first | with_reducible exact Below.refl _ _ | with_reducible assumption | with_reducible refine Below.setCell ?_ (by first | omega | (simp <;> omega)) _ | with_reducible refine Below.alloc ?_ (by first | omega | (simp <;> omega)) _ | with_reducible refine Below.drew ?_)) F1_0; have x0y0_0 : v1_0.cell? ⟨w5.heap.size, 0, none⟩ = some (.int .i64 C0) := x0y0.cell 0; have x0y0_1 : v1_0.cell? ⟨w5.heap.size, 1, none⟩ = some (.int .i64 R0) := x0y0.cell 1; have x0y0_2 : v1_0.cell? ⟨w5.heap.size, 2, none⟩ = some (.slice (some ⟨Bx0, 0, none⟩) n0 n0) := x0y0.cell 2; have x0y0_l := x0y0.lt; have x1y0 := blk_then x1x11 (by repeat (first | with_reducible exact Below.refl _ _ | with_reducible assumption | with_reducible refine Below.setCell ?_ (by first | omega | (simp <;> omega)) _ | with_reducible refine Below.alloc ?_ (by first | omega | (simp <;> omega)) _ | with_reducible refine Below.drew ?_)) F1_0; have x1y0_0 : v1_0.cell? ⟨w7.heap.size, 0, none⟩ = some (.int .i64 C1) := x1y0.cell 0; have x1y0_1 : v1_0.cell? ⟨w7.heap.size, 1, none⟩ = some (.int .i64 R1) := x1y0.cell 1; have x1y0_2 : v1_0.cell? ⟨w7.heap.size, 2, none⟩ = some (.slice (some ⟨Bx1, 0, none⟩) n1 n1) := x1y0.cell 2; have x1y0_l := x1y0.lt; have G0y0 := blk_then G0x11 (by repeat (first | with_reducible exact Below.refl _ _ | with_reducible assumption | with_reducible refine Below.setCell ?_ (by first | omega | (simp <;> omega)) _ | with_reducible refine Below.alloc ?_ (by first | omega | (simp <;> omega)) _ | with_reducible refine Below.drew ?_)) F1_0; have G0y0_0 : v1_0.cell? ⟨w9.heap.size, 0, none⟩ = some (.int .i64 (mBlendMeshesA C0 R0 n0 l0 C1 R1 n1 l1 x2)) := G0y0.cell 0; have G0y0_1 : v1_0.cell? ⟨w9.heap.size, 1, none⟩ = some (.int .i64 (mBlendMeshesB C0 R0 n0 l0 C1 R1 n1 l1 x2)) := G0y0.cell 1; have G0y0_2 : v1_0.cell? ⟨w9.heap.size, 2, none⟩ = some (.slice AG (mBlendMeshesN C0 R0 n0 l0 C1 R1 n1 l1 x2) cG) := G0y0.cell 2; have G0y0_l := G0y0.lt)
      | (go_at_call 19; refine (eqMesh_yes C0 R0 _ _ n0 _ _ l0 _ (by omega) (x0o11.below (by repeat (first | with_reducible exact Below.refl _ _ | with_reducible assumption | with_reducible refine Below.setCell ?_ (by first | omega | (simp <;> omega)) _ | with_reducible refine Below.alloc ?_ (by first | omega | (simp <;> omega)) _ | with_reducible refine Below.drew ?_))).sl (Oe1.below (by repeat (first | with_reducible exact Below.refl _ _ | with_reducible assumption | with_reducible refine Below.setCell ?_ (by first | omega | (simp <;> omega)) _ | with_reducible refine Below.alloc ?_ (by first | omega | (simp <;> omega)) _ | with_reducible refine Below.drew ?_))).sl).mono ?_; rintro e v1_1 ⟨rfl, F1_1⟩; have E1_1 : Below w11.heap.size w11 v1_1 := below_then (by repeat (first | with_reducible exact Below.refl _ _ | with_reducible assumption | with_reducible refine Below.setCell ?_ (by first | omega | (simp <;> omega)) _ | with_reducible refine Below.alloc ?_ (by first | omega | (simp <;> omega)) _ | with_reducible refine Below.drew ?_)) F1_1; have DD1_1 := D11.trans (E1_1.mono D11.size); have ES1_1 := E1_1.size; (try replace Oe1 := (Oe1.below (by repeat (first | with_reducible exact Below.refl _ _ | with_reducible assumption | with_reducible refine Below.setCell ?_ (by first | omega | (simp <;> omega)) _ | with_reducible refine Below.alloc ?_ (by first | omega | (simp <;> omega)) _ | with_reducible refine Below.drew ?_))).below F1_1); have a0y1 := blk_then a0x11 (by repeat (first | with_reducible exact Below.refl _ _ | with_reducible assumption | with_reducible refine Below.setCell ?_ (by first | omega | (simp <;> omega)) _ | with_reducible refine Below.alloc ?_ (by first | omega | (simp <;> omega)) _ | with_reducible refine Below.drew ?_)) F1_1; have a0y1_0 : v1_1.cell? ⟨w.heap.size, 0, none⟩ = some (.int .i64 C0) := a0y1.cell 0; have a0y1_1 : v1_1.cell? ⟨w.heap.size, 1, none⟩ = some (.int .i64 R0) := a0y1.cell 1; have a0y1_2 : v1_1.cell? ⟨w.heap.size, 2, none⟩ = some (.slice A0 n0 c0) := a0y1.cell 2; have a0y1_l := a0y1.lt; have a1y1 := blk_then a1x11 (by repeat (first | with_reducible exact Below.refl _ _ | with_reducible assumption | with_reducible refine Below.setCell ?_ (by first | omega | (simp <;> omega)) _ | with_reducible refine Below.alloc ?_ (by first | omega | (simp <;> omega)) _ | with_reducible refine Below.drew ?_)) F1_1; have a1y1_0 : v1_1.cell? ⟨w.heap.size + 1, 0, none⟩ = some (.int .i64 C1) := a1y1.cell 0; have a1y1_1 : v1_1.cell? ⟨w.heap.size + 1, 1, none⟩ = some (.int .i64 R1) := a1y1.cell 1; have a1y1_2 : v1_1.cell? ⟨w.heap.size + 1, 2, none⟩ = some (.slice A1 n1 c1) := a1y1.cell 2; have a1y1_l := a1y1.lt; have W0y1 := blk_then W0x11 (by repeat (first | with_reducible exact Below.refl _ _ | with_reducible assumption | with_reducible refine Below.setCell ?_ (by first | omega | (simp <;> omega)) _ | with_reducible refine Below.alloc ?_ (by first | omega | (simp <;> omega)) _ | with_reducible refine Below.drew ?_)) F1_1; have W0y1_0 : v1_1.cell? ⟨BW0, 0, none⟩ = some (.int .i64 (mBlendMeshesA C0 R0 n0 l0 C1 R1 n1 l1 x2)) := W0y1.cell 0; have W0y1_1 : v1_1.cell? ⟨BW0, 1, none⟩ = some (.int .i64 (mBlendMeshesB C0 R0 n0 l0 C1 R1 n1 l1 x2)) := W0y1.cell 1; have W0y1_2 : v1_1.cell? ⟨BW0, 2, none⟩ = some (.slice AW (mBlendMeshesN C0 R0 n0 l0 C1 R1 n1 l1 x2) cW) := W0y1.cell 2; have W0y1_l := W0y1.lt; have x0y1 := blk_then x0x11 (by repeat (first | with_reducible exact Below.refl _ _ | with_reducible assumption | with_reducible refine Below.setCell ?_ (by first | omega | (simp <;> omega)) _ | with_reducible refine Below.alloc ?_ (by first | omega | (simp <;> omega)) _ | with_reducible refine Below.drew ?_)) F1_1; have x0y1_0 : v1_1.cell? ⟨w5.heap.size, 0, none⟩ = some (.int .i64 C0) := x0y1.cell 0; have x0y1_1 : v1_1.cell? ⟨w5.heap.size, 1, none⟩ = some (.int .i64 R0) := x0y1.cell 1; have x0y1_2 : v1_1.cell? ⟨w5.heap.size, 2, none⟩ = some (.slice (some ⟨Bx0, 0, none⟩) n0 n0) := x0y1.cell 2; have x0y1_l := x0y1.lt; have x1y1 := blk_then x1x11 (by repeat (first | with_reducible exact Below.refl _ _ | with_reducible assumption | with_reducible refine Below.setCell ?_ (by first | omega | (simp <;> omega)) _ | with_reducible refine Below.alloc ?_ (by first | omega | (simp <;> omega)) _ | with_reducible refine Below.drew ?_)) F1_1; have x1y1_0 : v1_1.cell? ⟨w7.heap.size, 0, none⟩ = some (.int .i64 C1) := x1y1.cell 0; have x1y1_1 : v1_1.cell? ⟨w7.heap.size, 1, none⟩ = some (.int .i64 R1) := x1y1.cell 1; have x1y1_2 : v1_1.cell? ⟨w7.heap.size, 2, none⟩ = some (.slice (some ⟨Bx1, 0, none⟩) n1 n1) := x1y1.cell 2; have x1y1_l := x1y1.lt; have G0y1 := blk_then G0x11 (by repeat (first | with_reducible exact Below.refl _ _ | with_reducible assumption | with_reducible refine Below.setCell ?_ (by first | omega | (simp <;> omega)) _ | with_reducible refine Below.alloc ?_ (by first | omega | (simp <;> omega)) _ | with_reducible refine Below.drew ?_)) F1_1; have G0y1_0 : v1_1.cell? ⟨w9.heap.size, 0, none⟩ = some (.int .i64 (mBlendMeshesA C0 R0 n0 l0 C1 R1 n1 l1 x2)) := G0y1.cell 0; have G0y1_1 : v1_1.cell? ⟨w9.heap.size, 1, none⟩ = some (.int .i64 (mBlendMeshesB C0 R0 n0 l0 C1 R1 n1 l1 x2)) := G0y1.cell 1; have G0y1_2 : v1_1.cell? ⟨w9.heap.size, 2, none⟩ = some (.slice AG (mBlendMeshesN C0 R0 n0 l0 C1 R1 n1 l1 x2) cG) := G0y1.cell 2; have G0y1_l := G0y1.lt))
    all_goals (try go_wp2_with fail)
    all_goals (go_meet; exact ⟨rfl, E1_1⟩)
  obtain ⟨rfl, H12⟩ := hcut
  obtain ⟨w12, rfl⟩ : ∃ q : World, q = wc := ⟨_, rfl⟩
  have D12 := D11.trans (H12.mono D11.size)
  have z12 := H12.size
  have Wo12 := Wo11.below H12
  have x0o12 := x0o11.below H12
  have x1o12 := x1o11.below H12
  have Go12 := Go11.below H12
  have a0x12 := blk_step a0x11 H12
  have a1x12 := blk_step a1x11 H12
  have W0x12 := blk_step W0x11 H12
  have x0x12 := blk_step x0x11 H12
  have x1x12 := blk_step x1x11 H12
  have G0x12 := blk_step G0x11 H12
  clear a0f11_0 a0f11_1 a0f11_2
  have a0f12_0 : w12.cell? ⟨w.heap.size, 0, none⟩ = some (.int .i64 C0) := a0x12.cell 0
  have a0f12_1 : w12.cell? ⟨w.heap.size, 1, none⟩ = some (.int .i64 R0) := a0x12.cell 1
  have a0f12_2 : w12.cell? ⟨w.heap.size, 2, none⟩ = some (.slice A0 n0 c0) := a0x12.cell 2
  clear a0l11
  have a0l12 := a0x12.lt
  clear a1f11_0 a1f11_1 a1f11_2
  have a1f12_0 : w12.cell? ⟨w.heap.size + 1, 0, none⟩ = some (.int .i64 C1) := a1x12.cell 0
  have a1f12_1 : w12.cell? ⟨w.heap.size + 1, 1, none⟩ = some (.int .i64 R1) := a1x12.cell 1
  have a1f12_2 : w12.cell? ⟨w.heap.size + 1, 2, none⟩ = some (.slice A1 n1 c1) := a1x12.cell 2
  clear a1l11
  have a1l12 := a1x12.lt
  clear W0f11_0 W0f11_1 W0f11_2
  have W0f12_0 : w12.cell? ⟨BW0, 0, none⟩ = some (.int .i64 (mBlendMeshesA C0 R0 n0 l0 C1 R1 n1 l1 x2)) := W0x12.cell 0
  have W0f12_1 : w12.cell? ⟨BW0, 1, none⟩ = some (.int .i64 (mBlendMeshesB C0 R0 n0 l0 C1 R1 n1 l1 x2)) := W0x12.cell 1
  have W0f12_2 : w12.cell? ⟨BW0, 2, none⟩ = some (.slice AW (mBlendMeshesN C0 R0 n0 l0 C1 R1 n1 l1 x2) cW) := W0x12.cell 2
  clear W0l11
  have W0l12 := W0x12.lt
  clear x0f11_0 x0f11_1 x0f11_2
  have x0f12_0 : w12.cell? ⟨w5.heap.size, 0, none⟩ = some (.int .i64 C0) := x0x12.cell 0
  have x0f12_1 : w12.cell? ⟨w5.heap.size, 1, none⟩ = some (.int .i64 R0) := x0x12.cell 1
  have x0f12_2 : w12.cell? ⟨w5.heap.size, 2, none⟩ = some (.slice (some ⟨Bx0, 0, none⟩) n0 n0) := x0x12.cell 2
  clear x0l11
  have x0l12 := x0x12.lt
  clear x1f11_0 x1f11_1 x1f11_2
  have x1f12_0 : w12.cell? ⟨w7.heap.size, 0, none⟩ = some (.int .i64 C1) := x1x12.cell 0
  have x1f12_1 : w12.cell? ⟨w7.heap.size, 1, none⟩ = some (.int .i64 R1) := x1x12.cell 1
  have x1f12_2 : w12.cell? ⟨w7.heap.size, 2, none⟩ = some (.slice (some ⟨Bx1, 0, none⟩) n1 n1) := x1x12.cell 2
  clear x1l11
  have x1l12 := x1x12.lt
  clear G0f11_0 G0f11_1 G0f11_2
  have G0f12_0 : w12.cell? ⟨w9.heap.size, 0, none⟩ = some (.int .i64 (mBlendMeshesA C0 R0 n0 l0 C1 R1 n1 l1 x2)) := G0x12.cell 0
  have G0f12_1 : w12.cell? ⟨w9.heap.size, 1, none⟩ = some (.int .i64 (mBlendMeshesB C0 R0 n0 l0 C1 R1 n1 l1 x2)) := G0x12.cell 1
  have G0f12_2 : w12.cell? ⟨w9.heap.size, 2, none⟩ = some (.slice AG (mBlendMeshesN C0 R0 n0 l0 C1 R1 n1 l1 x2) cG) := G0x12.cell 2
  clear G0l11
  have G0l12 := G0x12.lt
  go_wp2_with fail
  go_cut [67] (fun s67 wr => s67 = .bool false ∧ Below w12.heap.size w12 wr)
  case first =>
    have ks : ∀ w' : World, Below w12.heap.size w12 w' → w'.cell? ⟨w.heap.size, 0, none⟩ = some (.int .i64 C0) ∧ w'.cell? ⟨w.heap.size, 1, none⟩ = some (.int .i64 R0) ∧ w'.cell? ⟨w.heap.size, 2, none⟩ = some (.slice A0 n0 c0) ∧ w'.cell? ⟨w.heap.size + 1, 0, none⟩ = some (.int .i64 C1) ∧ w'.cell? ⟨w.heap.size + 1, 1, none⟩ = some (.int .i64 R1) ∧ w'.cell? ⟨w.heap.size + 1, 2, none⟩ = some (.slice A1 n1 c1) ∧ w'.cell? ⟨BW0, 0, none⟩ = some (.int .i64 (mBlendMeshesA C0 R0 n0 l0 C1 R1 n1 l1 x2)) ∧ w'.cell? ⟨BW0, 1, none⟩ = some (.int .i64 (mBlendMeshesB C0 R0 n0 l0 C1 R1 n1 l1 x2)) ∧ w'.cell? ⟨BW0, 2, none⟩ = some (.slice AW (mBlendMeshesN C0 R0 n0 l0 C1 R1 n1 l1 x2) cW) ∧ w'.cell? ⟨w5.heap.size, 0, none⟩ = some (.int .i64 C0) ∧ w'.cell? ⟨w5.heap.size, 1, none⟩ = some (.int .i64 R0) ∧ w'.cell? ⟨w5.heap.size, 2, none⟩ = some (.slice (some ⟨Bx0, 0, none⟩) n0 n0) ∧ w'.cell? ⟨w7.heap.size, 0, none⟩ = some (.int .i64 C1) ∧ w'.cell? ⟨w7.heap.size, 1, none⟩ = some (.int .i64 R1) ∧ w'.cell? ⟨w7.heap.size, 2, none⟩ = some (.slice (some ⟨Bx1, 0, none⟩) n1 n1) ∧ w'.cell? ⟨w9.heap.size, 0, none⟩ = some (.int .i64 (mBlendMeshesA C0 R0 n0 l0 C1 R1 n1 l1 x2)) ∧ w'.cell? ⟨w9.heap.size, 1, none⟩ = some (.int .i64 (mBlendMeshesB C0 R0 n0 l0 C1 R1 n1 l1 x2)) ∧ w'.cell? ⟨w9.heap.size, 2, none⟩ = some (.slice AG (mBlendMeshesN C0 R0 n0 l0 C1 R1 n1 l1 x2) cG) := fun w' h => ⟨(Blk.below a0x12 h a0x12.lt).cell 0, (Blk.below a0x12 h a0x12.lt).cell 1, (Blk.below a0x12 h a0x12.lt).cell 2, (Blk.below a1x12 h a1x12.lt).cell 0, (Blk.below a1x12 h a1x12.lt).cell 1, (Blk.below a1x12 h a1x12.lt).cell 2, (Blk.below W0x12 h W0x12.lt).cell 0, (Blk.below W0x12 h W0x12.lt).cell 1, (Blk.below W0x12 h W0x12.lt).cell 2, (Blk.below x0x12 h x0x12.lt).cell 0, (Blk.below x0x12 h x0x12.lt).cell 1, (Blk.below x0x12 h x0x12.lt).cell 2, (Blk.below x1x12 h x1x12.lt).cell 0, (Blk.below x1x12 h x1x12.lt).cell 1, (Blk.below x1x12 h x1x12.lt).cell 2, (Blk.below G0x12 h G0x12.lt).cell 0, (Blk.below G0x12 h G0x12.lt).cell 1, (Blk.below G0x12 h G0x12.lt).cell 2⟩
    have KS := Lib.hid ks
    clear ks
    go_region_held3 (fun w' => w'.cell? ⟨w.heap.size, 0, none⟩ = some (.int .i64 C0) ∧ w'.cell? ⟨w.heap.size, 1, none⟩ = some (.int .i64 R0) ∧ w'.cell? ⟨w.heap.size, 2, none⟩ = some (.slice A0 n0 c0) ∧ w'.cell? ⟨w.heap.size + 1, 0, none⟩ = some (.int .i64 C1) ∧ w'.cell? ⟨w.heap.size + 1, 1, none⟩ = some (.int .i64 R1) ∧ w'.cell? ⟨w.heap.size + 1, 2, none⟩ = some (.slice A1 n1 c1) ∧ w'.cell? ⟨BW0, 0, none⟩ = some (.int .i64 (mBlendMeshesA C0 R0 n0 l0 C1 R1 n1 l1 x2)) ∧ w'.cell? ⟨BW0, 1, none⟩ = some (.int .i64 (mBlendMeshesB C0 R0 n0 l0 C1 R1 n1 l1 x2)) ∧ w'.cell? ⟨BW0, 2, none⟩ = some (.slice AW (mBlendMeshesN C0 R0 n0 l0 C1 R1 n1 l1 x2) cW) ∧ w'.cell? ⟨w5.heap.size, 0, none⟩ = some (.int .i64 C0) ∧ w'.cell? ⟨w5.heap.size, 1, none⟩ = some (.int .i64 R0) ∧ w'.cell? ⟨w5.heap.size, 2, none⟩ = some (.slice (some ⟨Bx0, 0, none⟩) n0 n0) ∧ w'.cell? ⟨w7.heap.size, 0, none⟩ = some (.int .i64 C1) ∧ w'.cell? ⟨w7.heap.size, 1, none⟩ = some (.int .i64 R1) ∧ w'.cell? ⟨w7.heap.size, 2, none⟩ = some (.slice (some ⟨Bx1, 0, none⟩) n1 n1) ∧ w'.cell? ⟨w9.heap.size, 0, none⟩ = some (.int .i64 (mBlendMeshesA C0 R0 n0 l0 C1 R1 n1 l1 x2)) ∧ w'.cell? ⟨w9.heap.size, 1, none⟩ = some (.int .i64 (mBlendMeshesB C0 R0 n0 l0 C1 R1 n1 l1 x2)) ∧ w'.cell? ⟨w9.heap.size, 2, none⟩ = some (.slice AG (mBlendMeshesN C0 R0 n0 l0 C1 R1 n1 l1 x2) cG))
      (exact KS.out _ (by repeat (first | with_reducible exact Below.refl _ _ | with_reducible assumption | with_reducible refine Below.setCell ?_ (by first | omega | (simp <;> omega)) _ | with_reducible refine Below.alloc ?_ (by first | omega | (simp <;> omega)) _ | with_reducible refine Below.drew ?_)))
      (first
      | (go_at_call 17; refine (toMesh_any C1 R1 A1 n1 c1 l1 _ m1 (s1.below (by repeat (first | with_reducible exact Below.refl _ _ | with_reducible assumption | with_reducible refine Below.setCell ?_ (by first | omega | (simp <;> omega)) _ | with_reducible refine Below.alloc ?_ (by first | omega | (simp <;> omega)) _ | with_reducible refine Below.drew ?_)))).mono ?_; rintro e v2_0 ⟨⟨Be2, rfl, he2, te2⟩, F2_0⟩; have E2_0 : Below w12.heap.size w12 v2_0 := below_then (by repeat (first | with_reducible exact Below.refl _ _ | with_reducible assumption | with_reducible refine Below.setCell ?_ (by first | omega | (simp <;> omega)) _ | with_reducible refine Below.alloc ?_ (by first | omega | (simp <;> omega)) _ | with_reducible refine Below.drew ?_)) F2_0; have DD2_0 := D12.trans (E2_0.mono D12.size); have ES2_0 := E2_0.size; have Oe2 := Own.blk (size := 2) te2 (Nat.zero_le _) (Nat.le_refl (n1 * 2)) (fun _ _ => rfl); have a0y0 := blk_then a0x12 (by repeat (first | with_reducible exact Below.refl _ _ | with_reducible assumption | with_reducible refine Below.setCell ?_ (by first | omega | (simp <;> omega)) _ | with_reducible refine Below.alloc ?_ (by first | omega | (simp <;> omega)) _ | with_reducible refine Below.drew ?_)) F2_0; have a0y0_0 : v2_0.cell? ⟨w.heap.size, 0, none⟩ = some (.int .i64 C0) := a0y0.cell 0; have a0y0_1 : v2_0.cell? ⟨w.heap.size, 1, none⟩ = some (.int .i64 R0) := a0y0.cell 1; have a0y0_2 : v2_0.cell? ⟨w.heap.size, 2, none⟩ = some (.slice A0 n0 c0) := a0y0.cell 2; have a0y0_l := a0y0.lt; have a1y0 := blk_then a1x12 (by repeat (first | with_reducible exact Below.refl _ _ | with_reducible assumption | with_reducible refine Below.setCell ?_ (by first | omega | (simp <;> omega)) _ | with_reducible refine Below.alloc ?_ (by first | omega | (simp <;> omega)) _ | with_reducible refine Below.drew ?_)) F2_0; have a1y0_0 : v2_0.cell? ⟨w.heap.size + 1, 0, none⟩ = some (.int .i64 C1) := a1y0.cell 0; have a1y0_1 : v2_0.cell? ⟨w.heap.size + 1, 1, none⟩ = some (.int .i64 R1) := a1y0.cell 1; have a1y0_2 : v2_0.cell? ⟨w.heap.size + 1, 2, none⟩ = some (.slice A1 n1 c1) := a1y0.cell 2; have a1y0_l := a1y0.lt; have W0y0 := blk_then W0x12 (by repeat (first | with_reducible exact Below.refl _ _ | with_reducible assumption | with_reducible refine Below.setCell ?_ (by first | omega | (simp <;> omega)) _ | with_reducible refine Below.alloc ?_ (by first | omega | (simp <;> omega)) _ | with_reducible refine Below.drew ?_)) F2_0; have W0y0_0 : v2_0.cell? ⟨BW0, 0, none⟩ = some (.int .i64 (mBlendMeshesA C0 R0 n0 l0 C1 R1 n1 l1 x2)) := W0y0.cell 0; have W0y0_1 : v2_0.cell? ⟨BW0, 1, none⟩ = some (.int .i64 (mBlendMeshesB C0 R0 n0 l0 C1 R1 n1 l1 x2)) := W0y0.cell 1; have W0y0_2 : v2_0.cell? ⟨BW0, 2, none⟩ = some (.slice AW (mBlendMeshesN C0 R0 n0 l0 C1 R1 n1 l1 x2) cW) := W0y0.cell 2; have W0y0_l := W0y0.lt; have x0y0 := blk_then x0x12 (by repeat (first | with_reducible exact Below.refl _ _ | with_reducible assumption | with_reducible refine Below.setCell ?_ (by first | omega | (simp <;> omega)) _ | with_reducible refine Below.alloc ?_ (by first | omega | (simp <;> omega)) _ | with_reducible refine Below.drew ?_)) F2_0; have x0y0_0 : v2_0.cell? ⟨w5.heap.size, 0, none⟩ = some (.int .i64 C0) := x0y0.cell 0; have x0y0_1 : v2_0.cell? ⟨w5.heap.size, 1, none⟩ = some (.int .i64 R0) := x0y0.cell 1; have x0y0_2 : v2_0.cell? ⟨w5.heap.size, 2, none⟩ = some (.slice (some ⟨Bx0, 0, none⟩) n0 n0) := x0y0.cell 2; have x0y0_l := x0y0.lt; have x1y0 := blk_then x1x12 (by repeat (first | with_reducible exact Below.refl _ _ | with_reducible assumption | with_reducible refine Below.setCell ?_ (by first | omega | (simp <;> omega)) _ | with_reducible refine Below.alloc ?_ (by first | omega | (simp <;> omega)) _ | with_reducible refine Below.drew ?_)) F2_0; have x1y0_0 : v2_0.cell? ⟨w7.heap.size, 0, none⟩ = some (.int .i64 C1) := x1y0.cell 0; have x1y0_1 : v2_0.cell? ⟨w7.heap.size, 1, none⟩ = some (.int .i64 R1) := x1y0.cell 1; have x1y0_2 : v2_0.cell? ⟨w7.heap.size, 2, none⟩ = some (.slice (some ⟨Bx1, 0, none⟩) n1 n1) := x1y0.cell 2; have x1y0_l := x1y0.lt; have G0y0 := blk_then G0x12 (by repeat (first | with_reducible exact Below.refl _ _ | with_reducible assumption | with_reducible refine Below.setCell ?_ (by first | omega | (simp <;> omega)) _ | with_reducible refine Below.alloc ?_ (by first | omega | (simp <;> omega)) _ | with_reducible refine Below.drew ?_)) F2_0; have G0y0_0 : v2_0.cell? ⟨w9.heap.size, 0, none⟩ = some (.int .i64 (mBlendMeshesA C0 R0 n0 l0 C1 R1 n1 l1 x2)) := G0y0.cell 0; have G0y0_1 : v2_0.cell? ⟨w9.heap.size, 1, none⟩ = some (.int .i64 (mBlendMeshesB C0 R0 n0 l0 C1 R1 n1 l1 x2)) := G0y0.cell 1; have G0y0_2 : v2_0.cell? ⟨w9.heap.size, 2, none⟩ = some (.slice AG (mBlendMeshesN C0 R0 n0 l0 C1 R1 n1 l1 x2) cG) := G0y0.cell 2; have G0y0_l := G0y0.lt)
      | (go_at_call 19; refine (eqMesh_yes C1 R1 _ _ n1 _ _ l1 _ (by omega) (x1o12.below (by repeat (first | with_reducible exact Below.refl _ _ | with_reducible assumption | with_reducible refine Below.setCell ?_ (by first | omega | (simp <;> omega)) _ | with_reducible refine Below.alloc ?_ (by first | omega | (simp <;> omega)) _ | with_reducible refine Below.drew ?_))).sl (Oe2.below (by repeat (first | with_reducible exact Below.refl _ _ | with_reducible assumption | with_reducible refine Below.setCell ?_ (by first | omega | (simp <;> omega)) _ | with_reducible refine Below.alloc ?_ (by first | omega | (simp <;> omega)) _ | with_reducible refine Below.drew ?_))).sl).mono ?_; rintro e v2_1 ⟨rfl, F2_1⟩; have E2_1 : Below w12.heap.size w12 v2_1 := below_then (by repeat (first | with_reducible exact Below.refl _ _ | with_reducible assumption | with_reducible refine Below.setCell ?_ (by first | omega | (simp <;> omega)) _ | with_reducible refine Below.alloc ?_ (by first | omega | (simp <;> omega)) _ | with_reducible refine Below.drew ?_)) F2_1; have DD2_1 := D12.trans (E2_1.mono D12.size); have ES2_1 := E2_1.size; (try replace Oe2 := (Oe2.below (by repeat (first | with_reducible exact Below.refl _ _ | with_reducible assumption | with_reducible refine Below.setCell ?_ (by first | omega | (simp <;> omega)) _ | with_reducible refine Below.alloc ?_ (by first | omega | (simp <;> omega)) _ | with_reducible refine Below.drew ?_))).below F2_1); have a0y1 := blk_then a0x12 (by repeat (first | with_reducible exact Below.refl _ _ | with_reducible assumption | with_reducible refine Below.setCell ?_ (by first | omega | (simp <;> omega)) _ | with_reducible refine Below.alloc ?_ (by first | omega | (simp <;> omega)) _ | with_reducible refine Below.drew ?_)) F2_1; have a0y1_0 : v2_1.cell? ⟨w.heap.size, 0, none⟩ = some (.int .i64 C0) := a0y1.cell 0; have a0y1_1 : v2_1.cell? ⟨w.heap.size, 1, none⟩ = some (.int .i64 R0) := a0y1.cell 1; have a0y1_2 : v2_1.cell? ⟨w.heap.size, 2, none⟩ = some (.slice A0 n0 c0) := a0y1.cell 2; have a0y1_l := a0y1.lt; have a1y1 := blk_then a1x12 (by repeat (first | with_reducible exact Below.refl _ _ | with_reducible assumption | with_reducible refine Below.setCell ?_ (by first | omega | (simp <;> omega)) _ | with_reducible refine Below.alloc ?_ (by first | omega | (simp <;> omega)) _ | with_reducible refine Below.drew ?_)) F2_1; have a1y1_0 : v2_1.cell? ⟨w.heap.size + 1, 0, none⟩ = some (.int .i64 C1) := a1y1.cell 0; have a1y1_1 : v2_1.cell? ⟨w.heap.size + 1, 1, none⟩ = some (.int .i64 R1) := a1y1.cell 1; have a1y1_2 : v2_1.cell? ⟨w.heap.size + 1, 2, none⟩ = some (.slice A1 n1 c1) := a1y1.cell 2; have a1y1_l := a1y1.lt; have W0y1 := blk_then W0x12 (by repeat (first | with_reducible exact Below.refl _ _ | with_reducible assumption | with_reducible refine Below.setCell ?_ (by first | omega | (simp <;> omega)) _ | with_reducible refine Below.alloc ?_ (by first | omega | (simp <;> omega)) _ | with_reducible refine Below.drew ?_)) F2_1; have W0y1_0 : v2_1.cell? ⟨BW0, 0, none⟩ = some (.int .i64 (mBlendMeshesA C0 R0 n0 l0 C1 R1 n1 l1 x2)) := W0y1.cell 0; have W0y1_1 : v2_1.cell? ⟨BW0, 1, none⟩ = some (.int .i64 (mBlendMeshesB C0 R0 n0 l0 C1 R1 n1 l1 x2)) := W0y1.cell 1; have W0y1_2 : v2_1.cell? ⟨BW0, 2, none⟩ = some (.slice AW (mBlendMeshesN C0 R0 n0 l0 C1 R1 n1 l1 x2) cW) := W0y1.cell 2; have W0y1_l := W0y1.lt; have x0y1 := blk_then x0x12 (by repeat (first | with_reducible exact Below.refl _ _ | with_reducible assumption | with_reducible refine Below.setCell ?_ (by first | omega | (simp <;> omega)) _ | with_reducible refine Below.alloc ?_ (by first | omega | (simp <;> omega)) _ | with_reducible refine Below.drew ?_)) F2_1; have x0y1_0 : v2_1.cell? ⟨w5.heap.size, 0, none⟩ = some (.int .i64 C0) := x0y1.cell 0; have x0y1_1 : v2_1.cell? ⟨w5.heap.size, 1, none⟩ = some (.int .i64 R0) := x0y1.cell 1; have x0y1_2 : v2_1.cell? ⟨w5.heap.size, 2, none⟩ = some (.slice (some ⟨Bx0, 0, none⟩) n0 n0) := x0y1.cell 2; have x0y1_l := x0y1.lt; have x1y1 := blk_then x1x12 (by repeat (first | with_reducible exact Below.refl _ _ | with_reducible assumption | with_reducible refine Below.setCell ?_ (by first | omega | (simp <;> omega)) _ | with_reducible refine Below.alloc ?_ (by first | omega | (simp <;> omega)) _ | with_reducible refine Below.drew ?_)) F2_1; have x1y1_0 : v2_1.cell? ⟨w7.heap.size, 0, none⟩ = some (.int .i64 C1) := x1y1.cell 0; have x1y1_1 : v2_1.cell? ⟨w7.heap.size, 1, none⟩ = some (.int .i64 R1) := x1y1.cell 1; have x1y1_2 : v2_1.cell? ⟨w7.heap.size, 2, none⟩ = some (.slice (some ⟨Bx1, 0, none⟩) n1 n1) := x1y1.cell 2; have x1y1_l := x1y1.lt; have G0y1 := blk_then G0x12 (by repeat (first | with_reducible exact Below.refl _ _ | with_reducible assumption | with_reducible refine Below.setCell ?_ (by first | omega | (simp <;> omega)) _ | with_reducible refine Below.alloc ?_ (by first | omega | (simp <;> omega)) _ | with_reducible refine Below.drew ?_)) F2_1; have G0y1_0 : v2_1.cell? ⟨w9.heap.size, 0, none⟩ = some (.int .i64 (mBlendMeshesA C0 R0 n0 l0 C1 R1 n1 l1 x2)) := G0y1.cell 0; have G0y1_1 : v2_1.cell? ⟨w9.heap.size, 1, none⟩ = some (.int .i64 (mBlendMeshesB C0 R0 n0 l0 C1 R1 n1 l1 x2)) := G0y1.cell 1; have G0y1_2 : v2_1.cell? ⟨w9.heap.size, 2, none⟩ = some (.slice AG (mBlendMeshesN C0 R0 n0 l0 C1 R1 n1 l1 x2) cG) := G0y1.cell 2; have G0y1_l := G0y1.lt))
    all_goals (try go_wp2_with fail)
    all_goals (go_meet; exact ⟨rfl, E2_1⟩)
  obtain ⟨rfl, H13⟩ := hcut
  obtain ⟨w13, rfl⟩ : ∃ q : World, q = wc := ⟨_, rfl⟩
  have D13 := D12.trans (H13.mono D12.size)
  have z13 := H13.size
  have Wo13 := Wo12.below H13
  have x0o13 := x0o12.below H13
  have x1o13 := x1o12.below H13
  have Go13 := Go12.below H13
  have a0x13 := blk_step a0x12 H13
  have a1x13 := blk_step a1x12 H13
  have W0x13 := blk_step W0x12 H13
  have x0x13 := blk_step x0x12 H13
  have x1x13 := blk_step x1x12 H13
  have G0x13 := blk_step G0x12 H13
  clear a0f12_0 a0f12_1 a0f12_2
  have a0f13_0 : w13.cell? ⟨w.heap.size, 0, none⟩ = some (.int .i64 C0) := a0x13.cell 0
  have a0f13_1 : w13.cell? ⟨w.heap.size, 1, none⟩ = some (.int .i64 R0) := a0x13.cell 1
  have a0f13_2 : w13.cell? ⟨w.heap.size, 2, none⟩ = some (.slice A0 n0 c0) := a0x13.cell 2
  clear a0l12
  have a0l13 := a0x13.lt
  clear a1f12_0 a1f12_1 a1f12_2
  have a1f13_0 : w13.cell? ⟨w.heap.size + 1, 0, none⟩ = some (.int .i64 C1) := a1x13.cell 0
  have a1f13_1 : w13.cell? ⟨w.heap.size + 1, 1, none⟩ = some (.int .i64 R1) := a1x13.cell 1
  have a1f13_2 : w13.cell? ⟨w.heap.size + 1, 2, none⟩ = some (.slice A1 n1 c1) := a1x13.cell 2
  clear a1l12
  have a1l13 := a1x13.lt
  clear W0f12_0 W0f12_1 W0f12_2
  have W0f13_0 : w13.cell? ⟨BW0, 0, none⟩ = some (.int .i64 (mBlendMeshesA C0 R0 n0 l0 C1 R1 n1 l1 x2)) := W0x13.cell 0
  have W0f13_1 : w13.cell? ⟨BW0, 1, none⟩ = some (.int .i64 (mBlendMeshesB C0 R0 n0 l0 C1 R1 n1 l1 x2)) := W0x13.cell 1
  have W0f13_2 : w13.cell? ⟨BW0, 2, none⟩ = some (.slice AW (mBlendMeshesN C0 R0 n0 l0 C1 R1 n1 l1 x2) cW) := W0x13.cell 2
  clear W0l12
  have W0l13 := W0x13.lt
  clear x0f12_0 x0f12_1 x0f12_2
  have x0f13_0 : w13.cell? ⟨w5.heap.size, 0, none⟩ = some (.int .i64 C0) := x0x13.cell 0
  have x0f13_1 : w13.cell? ⟨w5.heap.size, 1, none⟩ = some (.int .i64 R0) := x0x13.cell 1
  have x0f13_2 : w13.cell? ⟨w5.heap.size, 2, none⟩ = some (.slice (some ⟨Bx0, 0, none⟩) n0 n0) := x0x13.cell 2
  clear x0l12
  have x0l13 := x0x13.lt
  clear x1f12_0 x1f12_1 x1f12_2
  have x1f13_0 : w13.cell? ⟨w7.heap.size, 0, none⟩ = some (.int .i64 C1) := x1x13.cell 0
  have x1f13_1 : w13.cell? ⟨w7.heap.size, 1, none⟩ = some (.int .i64 R1) := x1x13.cell 1
  have x1f13_2 : w13.cell? ⟨w7.heap.size, 2, none⟩ = some (.slice (some ⟨Bx1, 0, none⟩) n1 n1) := x1x13.cell 2
  clear x1l12
  have x1l13 := x1x13.lt
  clear G0f12_0 G0f12_1 G0f12_2
  have G0f13_0 : w13.cell? ⟨w9.heap.size, 0, none⟩ = some (.int .i64 (mBlendMeshesA C0 R0 n0 l0 C1 R1 n1 l1 x2)) := G0x13.cell 0
  have G0f13_1 : w13.cell? ⟨w9.heap.size, 1, none⟩ = some (.int .i64 (mBlendMeshesB C0 R0 n0 l0 C1 R1 n1 l1 x2)) := G0x13.cell 1
  have G0f13_2 : w13.cell? ⟨w9.heap.size, 2, none⟩ = some (.slice AG (mBlendMeshesN C0 R0 n0 l0 C1 R1 n1 l1 x2) cG) := G0x13.cell 2
  clear G0l12
  have G0l13 := G0x13.lt
  go_wp2_with fail
  refine (markMesh_any C0 R0 _ _ n0 _ 1 (SpotC l0) _ (by omega) (by omega) (by omega) x0o13 (fun h => by cases h)).mono ?_
  rintro e w14 ⟨rfl, G14, x0o14⟩
  have z14 := G14.size
  have Wo14 := Wo13.kept (fun a b ha hb => by have h1 := WU a ha; have h2 := x0O b hb; omega) G14
  have x1o14 := x1o13.kept (fun a b ha hb => by have h1 := x1O a ha; have h2 := x0U b hb; omega) G14
  have Go14 := Go13.kept (fun a b ha hb => by have h1 := GO a ha; have h2 := x0U b hb; omega) G14
  have a0x14 := blk_kept_own a0x13 x0o13 (by decide) G14
  have a1x14 := blk_kept_own a1x13 x0o13 (by decide) G14
  have W0x14 := blk_kept_own W0x13 x0o13 (by decide) G14
  have x0x14 := blk_kept_own x0x13 x0o13 (by decide) G14
  have x1x14 := blk_kept_own x1x13 x0o13 (by decide) G14
  have G0x14 := blk_kept_own G0x13 x0o13 (by decide) G14
  have D14 := Below.only D13 (fun ad h => by have h1 := x0O ad h; omega) D13.size G14
  clear a0f13_0 a0f13_1 a0f13_2
  have a0f14_0 : w14.cell? ⟨w.heap.size, 0, none⟩ = some (.int .i64 C0) := a0x14.cell 0
  have a0f14_1 : w14.cell? ⟨w.heap.size, 1, none⟩ = some (.int .i64 R0) := a0x14.cell 1
  have a0f14_2 : w14.cell? ⟨w.heap.size, 2, none⟩ = some (.slice A0 n0 c0) := a0x14.cell 2
  clear a0l13
  have a0l14 := a0x14.lt
  clear a1f13_0 a1f13_1 a1f13_2
  have a1f14_0 : w14.cell? ⟨w.heap.size + 1, 0, none⟩ = some (.int .i64 C1) := a1x14.cell 0
  have a1f14_1 : w14.cell? ⟨w.heap.size + 1, 1, none⟩ = some (.int .i64 R1) := a1x14.cell 1
  have a1f14_2 : w14.cell? ⟨w.heap.size + 1, 2, none⟩ = some (.slice A1 n1 c1) := a1x14.cell 2
  clear a1l13
  have a1l14 := a1x14.lt
  clear W0f13_0 W0f13_1 W0f13_2
  have W0f14_0 : w14.cell? ⟨BW0, 0, none⟩ = some (.int .i64 (mBlendMeshesA C0 R0 n0 l0 C1 R1 n1 l1 x2)) := W0x14.cell 0
  have W0f14_1 : w14.cell? ⟨BW0, 1, none⟩ = some (.int .i64 (mBlendMeshesB C0 R0 n0 l0 C1 R1 n1 l1 x2)) := W0x14.cell 1
  have W0f14_2 : w14.cell? ⟨BW0, 2, none⟩ = some (.slice AW (mBlendMeshesN C0 R0 n0 l0 C1 R1 n1 l1 x2) cW) := W0x14.cell 2
  clear W0l13
  have W0l14 := W0x14.lt
  clear x0f13_0 x0f13_1 x0f13_2
  have x0f14_0 : w14.cell? ⟨w5.heap.size, 0, none⟩ = some (.int .i64 C0) := x0x14.cell 0
  have x0f14_1 : w14.cell? ⟨w5.heap.size, 1, none⟩ = some (.int .i64 R0) := x0x14.cell 1
  have x0f14_2 : w14.cell? ⟨w5.heap.size, 2, none⟩ = some (.slice (some ⟨Bx0, 0, none⟩) n0 n0) := x0x14.cell 2
  clear x0l13
  have x0l14 := x0x14.lt
  clear x1f13_0 x1f13_1 x1f13_2
  have x1f14_0 : w14.cell? ⟨w7.heap.size, 0, none⟩ = some (.int .i64 C1) := x1x14.cell 0
  have x1f14_1 : w14.cell? ⟨w7.heap.size, 1, none⟩ = some (.int .i64 R1) := x1x14.cell 1
  have x1f14_2 : w14.cell? ⟨w7.heap.size, 2, none⟩ = some (.slice (some ⟨Bx1, 0, none⟩) n1 n1) := x1x14.cell 2
  clear x1l13
  have x1l14 := x1x14.lt
  clear G0f13_0 G0f13_1 G0f13_2
  have G0f14_0 : w14.cell? ⟨w9.heap.size, 0, none⟩ = some (.int .i64 (mBlendMeshesA C0 R0 n0 l0 C1 R1 n1 l1 x2)) := G0x14.cell 0
  have G0f14_1 : w14.cell? ⟨w9.heap.size, 1, none⟩ = some (.int .i64 (mBlendMeshesB C0 R0 n0 l0 C1 R1 n1 l1 x2)) := G0x14.cell 1
  have G0f14_2 : w14.cell? ⟨w9.heap.size, 2, none⟩ = some (.slice AG (mBlendMeshesN C0 R0 n0 l0 C1 R1 n1 l1 x2) cG) := G0x14.cell 2
  clear G0l13
  have G0l14 := G0x14.lt
  go_wp2_with fail
  refine (markMesh_any C1 R1 _ _ n1 _ (1 + (n0 : Int) * 2) (SpotC l1) _ (by omega) (by omega) (by omega) x1o14 (fun h => by cases h)).mono ?_
  rintro e w15 ⟨rfl, G15, x1o15⟩
  have z15 := G15.size
  have Wo15 := Wo14.kept (fun a b ha hb => by have h1 := WU a ha; have h2 := x1O b hb; omega) G15
  have x0o15 := x0o14.kept (fun a b ha hb => by have h1 := x0U a ha; have h2 := x1O b hb; omega) G15
  have Go15 := Go14.kept (fun a b ha hb => by have h1 := GO a ha; have h2 := x1U b hb; omega) G15
  have a0x15 := blk_kept_own a0x14 x1o14 (by decide) G15
  have a1x15 := blk_kept_own a1x14 x1o14 (by decide) G15
  have W0x15 := blk_kept_own W0x14 x1o14 (by decide) G15
  have x0x15 := blk_kept_own x0x14 x1o14 (by decide) G15
  have x1x15 := blk_kept_own x1x14 x1o14 (by decide) G15
  have G0x15 := blk_kept_own G0x14 x1o14 (by decide) G15
  have D15 := Below.only D14 (fun ad h => by have h1 := x1O ad h; omega) D14.size G15
  clear a0f14_0 a0f14_1 a0f14_2
  have a0f15_0 : w15.cell? ⟨w.heap.size, 0, none⟩ = some (.int .i64 C0) := a0x15.cell 0
  have a0f15_1 : w15.cell? ⟨w.heap.size, 1, none⟩ = some (.int .i64 R0) := a0x15.cell 1
  have a0f15_2 : w15.cell? ⟨w.heap.size, 2, none⟩ = some (.slice A0 n0 c0) := a0x15.cell 2
  clear a0l14
  have a0l15 := a0x15.lt
  clear a1f14_0 a1f14_1 a1f14_2
  have a1f15_0 : w15.cell? ⟨w.heap.size + 1, 0, none⟩ = some (.int .i64 C1) := a1x15.cell 0
  have a1f15_1 : w15.cell? ⟨w.heap.size + 1, 1, none⟩ = some (.int .i64 R1) := a1x15.cell 1
  have a1f15_2 : w15.cell? ⟨w.heap.size + 1, 2, none⟩ = some (.slice A1 n1 c1) := a1x15.cell 2
  clear a1l14
  have a1l15 := a1x15.lt
  clear W0f14_0 W0f14_1 W0f14_2
  have W0f15_0 : w15.cell? ⟨BW0, 0, none⟩ = some (.int .i64 (mBlendMeshesA C0 R0 n0 l0 C1 R1 n1 l1 x2)) := W0x15.cell 0
  have W0f15_1 : w15.cell? ⟨BW0, 1, none⟩ = some (.int .i64 (mBlendMeshesB C0 R0 n0 l0 C1 R1 n1 l1 x2)) := W0x15.cell 1
  have W0f15_2 : w15.cell? ⟨BW0, 2, none⟩ = some (.slice AW (mBlendMeshesN C0 R0 n0 l0 C1 R1 n1 l1 x2) cW) := W0x15.cell 2
  clear W0l14
  have W0l15 := W0x15.lt
  clear x0f14_0 x0f14_1 x0f14_2
  have x0f15_0 : w15.cell? ⟨w5.heap.size, 0, none⟩ = some (.int .i64 C0) := x0x15.cell 0
  have x0f15_1 : w15.cell? ⟨w5.heap.size, 1, none⟩ = some (.int .i64 R0) := x0x15.cell 1
  have x0f15_2 : w15.cell? ⟨w5.heap.size, 2, none⟩ = some (.slice (some ⟨Bx0, 0, none⟩) n0 n0) := x0x15.cell 2
  clear x0l14
  have x0l15 := x0x15.lt
  clear x1f14_0 x1f14_1 x1f14_2
  have x1f15_0 : w15.cell? ⟨w7.heap.size, 0, none⟩ = some (.int .i64 C1) := x1x15.cell 0
  have x1f15_1 : w15.cell? ⟨w7.heap.size, 1, none⟩ = some (.int .i64 R1) := x1x15.cell 1
  have x1f15_2 : w15.cell? ⟨w7.heap.size, 2, none⟩ = some (.slice (some ⟨Bx1, 0, none⟩) n1 n1) := x1x15.cell 2
  clear x1l14
  have x1l15 := x1x15.lt
  clear G0f14_0 G0f14_1 G0f14_2
  have G0f15_0 : w15.cell? ⟨w9.heap.size, 0, none⟩ = some (.int .i64 (mBlendMeshesA C0 R0 n0 l0 C1 R1 n1 l1 x2)) := G0x15.cell 0
  have G0f15_1 : w15.cell? ⟨w9.heap.size, 1, none⟩ = some (.int .i64 (mBlendMeshesB C0 R0 n0 l0 C1 R1 n1 l1 x2)) := G0x15.cell 1
  have G0f15_2 : w15.cell? ⟨w9.heap.size, 2, none⟩ = some (.slice AG (mBlendMeshesN C0 R0 n0 l0 C1 R1 n1 l1 x2) cG) := G0x15.cell 2
  clear G0l14
  have G0l15 := G0x15.lt
  go_wp2_with fail
  refine (eqMesh_yes (mBlendMeshesA C0 R0 n0 l0 C1 R1 n1 l1 x2) (mBlendMeshesB C0 R0 n0 l0 C1 R1 n1 l1 x2) _ _ (mBlendMeshesN C0 R0 n0 l0 C1 R1 n1 l1 x2) _ _ (mBlendMeshesL C0 R0 n0 l0 C1 R1 n1 l1 x2) _ (by omega) Go15.sl Wo15.sl).mono ?_
  rintro e w16 ⟨rfl, H16⟩
  have D16 := D15.trans (H16.mono D15.size)
  have z16 := H16.size
  have Wo16 := Wo15.below H16
  have x0o16 := x0o15.below H16
  have x1o16 := x1o15.below H16
  have Go16 := Go15.below H16
  have a0x16 := blk_step a0x15 H16
  have a1x16 := blk_step a1x15 H16
  have W0x16 := blk_step W0x15 H16
  have x0x16 := blk_step x0x15 H16
  have x1x16 := blk_step x1x15 H16
  have G0x16 := blk_step G0x15 H16
  clear a0f15_0 a0f15_1 a0f15_2
  have a0f16_0 : w16.cell? ⟨w.heap.size, 0, none⟩ = some (.int .i64 C0) := a0x16.cell 0
  have a0f16_1 : w16.cell? ⟨w.heap.size, 1, none⟩ = some (.int .i64 R0) := a0x16.cell 1
  have a0f16_2 : w16.cell? ⟨w.heap.size, 2, none⟩ = some (.slice A0 n0 c0) := a0x16.cell 2
  clear a0l15
  have a0l16 := a0x16.lt
  clear a1f15_0 a1f15_1 a1f15_2
  have a1f16_0 : w16.cell? ⟨w.heap.size + 1, 0, none⟩ = some (.int .i64 C1) := a1x16.cell 0
  have a1f16_1 : w16.cell? ⟨w.heap.size + 1, 1, none⟩ = some (.int .i64 R1) := a1x16.cell 1
  have a1f16_2 : w16.cell? ⟨w.heap.size + 1, 2, none⟩ = some (.slice A1 n1 c1) := a1x16.cell 2
  clear a1l15
  have a1l16 := a1x16.lt
  clear W0f15_0 W0f15_1 W0f15_2
  have W0f16_0 : w16.cell? ⟨BW0, 0, none⟩ = some (.int .i64 (mBlendMeshesA C0 R0 n0 l0 C1 R1 n1 l1 x2)) := W0x16.cell 0
  have W0f16_1 : w16.cell? ⟨BW0, 1, none⟩ = some (.int .i64 (mBlendMeshesB C0 R0 n0 l0 C1 R1 n1 l1 x2)) := W0x16.cell 1
  have W0f16_2 : w16.cell? ⟨BW0, 2, none⟩ = some (.slice AW (mBlendMeshesN C0 R0 n0 l0 C1 R1 n1 l1 x2) cW) := W0x16.cell 2
  clear W0l15
  have W0l16 := W0x16.lt
  clear x0f15_0 x0f15_1 x0f15_2
  have x0f16_0 : w16.cell? ⟨w5.heap.size, 0, none⟩ = some (.int .i64 C0) := x0x16.cell 0
  have x0f16_1 : w16.cell? ⟨w5.heap.size, 1, none⟩ = some (.int .i64 R0) := x0x16.cell 1
  have x0f16_2 : w16.cell? ⟨w5.heap.size, 2, none⟩ = some (.slice (some ⟨Bx0, 0, none⟩) n0 n0) := x0x16.cell 2
  clear x0l15
  have x0l16 := x0x16.lt
  clear x1f15_0 x1f15_1 x1f15_2
  have x1f16_0 : w16.cell? ⟨w7.heap.size, 0, none⟩ = some (.int .i64 C1) := x1x16.cell 0
  have x1f16_1 : w16.cell? ⟨w7.heap.size, 1, none⟩ = some (.int .i64 R1) := x1x16.cell 1
  have x1f16_2 : w16.cell? ⟨w7.heap.size, 2, none⟩ = some (.slice (some ⟨Bx1, 0, none⟩) n1 n1) := x1x16.cell 2
  clear x1l15
  have x1l16 := x1x16.lt
  clear G0f15_0 G0f15_1 G0f15_2
  have G0f16_0 : w16.cell? ⟨w9.heap.size, 0, none⟩ = some (.int .i64 (mBlendMeshesA C0 R0 n0 l0 C1 R1 n1 l1 x2)) := G0x16.cell 0
  have G0f16_1 : w16.cell? ⟨w9.heap.size, 1, none⟩ = some (.int .i64 (mBlendMeshesB C0 R0 n0 l0 C1 R1 n1 l1 x2)) := G0x16.cell 1
  have G0f16_2 : w16.cell? ⟨w9.heap.size, 2, none⟩ = some (.slice AG (mBlendMeshesN C0 R0 n0 l0 C1 R1 n1 l1 x2) cG) := G0x16.cell 2
  clear G0l15
  have G0l16 := G0x16.lt
  clear x0f16_0 x0f16_1 x0f16_2 x0l16
  clear x1f16_0 x1f16_1 x1f16_2 x1l16
  go_wp2_with fail
  refine (markMesh_any (mBlendMeshesA C0 R0 n0 l0 C1 R1 n1 l1 x2) (mBlendMeshesB C0 R0 n0 l0 C1 R1 n1 l1 x2) _ _ (mBlendMeshesN C0 R0 n0 l0 C1 R1 n1 l1 x2) _ 1 (SpotC (mBlendMeshesL C0 R0 n0 l0 C1 R1 n1 l1 x2)) _ (by omega) (by omega) (by omega) Go16 iG).mono ?_
  rintro e w17 ⟨rfl, G17, Go17⟩
  have z17 := G17.size
  have Wo17 := Wo16.kept (fun a b ha hb => by have h1 := WU a ha; have h2 := GO b hb; omega) G17
  have a0x17 := blk_kept_own a0x16 Go16 (by decide) G17
  have a1x17 := blk_kept_own a1x16 Go16 (by decide) G17
  have W0x17 := blk_kept_own W0x16 Go16 (by decide) G17
  have G0x17 := blk_kept_own G0x16 Go16 (by decide) G17
  have D17 := Below.only D16 (fun ad h => by have h1 := GO ad h; omega) D16.size G17
  clear a0f16_0 a0f16_1 a0f16_2
  have a0f17_0 : w17.cell? ⟨w.heap.size, 0, none⟩ = some (.int .i64 C0) := a0x17.cell 0
  have a0f17_1 : w17.cell? ⟨w.heap.size, 1, none⟩ = some (.int .i64 R0) := a0x17.cell 1
  have a0f17_2 : w17.cell? ⟨w.heap.size, 2, none⟩ = some (.slice A0 n0 c0) := a0x17.cell 2
  clear a0l16
  have a0l17 := a0x17.lt
  clear a1f16_0 a1f16_1 a1f16_2
  have a1f17_0 : w17.cell? ⟨w.heap.size + 1, 0, none⟩ = some (.int .i64 C1) := a1x17.cell 0
  have a1f17_1 : w17.cell? ⟨w.heap.size + 1, 1, none⟩ = some (.int .i64 R1) := a1x17.cell 1
  have a1f17_2 : w17.cell? ⟨w.heap.size + 1, 2, none⟩ = some (.slice A1 n1 c1) := a1x17.cell 2
  clear a1l16
  have a1l17 := a1x17.lt
  clear W0f16_0 W0f16_1 W0f16_2
  have W0f17_0 : w17.cell? ⟨BW0, 0, none⟩ = some (.int .i64 (mBlendMeshesA C0 R0 n0 l0 C1 R1 n1 l1 x2)) := W0x17.cell 0
  have W0f17_1 : w17.cell? ⟨BW0, 1, none⟩ = some (.int .i64 (mBlendMeshesB C0 R0 n0 l0 C1 R1 n1 l1 x2)) := W0x17.cell 1
  have W0f17_2 : w17.cell? ⟨BW0, 2, none⟩ = some (.slice AW (mBlendMeshesN C0 R0 n0 l0 C1 R1 n1 l1 x2) cW) := W0x17.cell 2
  clear W0l16
  have W0l17 := W0x17.lt
  clear G0f16_0 G0f16_1 G0f16_2
  have G0f17_0 : w17.cell? ⟨w9.heap.size, 0, none⟩ = some (.int .i64 (mBlendMeshesA C0 R0 n0 l0 C1 R1 n1 l1 x2)) := G0x17.cell 0
  have G0f17_1 : w17.cell? ⟨w9.heap.size, 1, none⟩ = some (.int .i64 (mBlendMeshesB C0 R0 n0 l0 C1 R1 n1 l1 x2)) := G0x17.cell 1
  have G0f17_2 : w17.cell? ⟨w9.heap.size, 2, none⟩ = some (.slice AG (mBlendMeshesN C0 R0 n0 l0 C1 R1 n1 l1 x2) cG) := G0x17.cell 2
  clear G0l16
  have G0l17 := G0x17.lt
  go_wp2_with fail
  refine (heldMesh_any (mBlendMeshesA C0 R0 n0 l0 C1 R1 n1 l1 x2) (mBlendMeshesB C0 R0 n0 l0 C1 R1 n1 l1 x2) _ (mBlendMeshesN C0 R0 n0 l0 C1 R1 n1 l1 x2) _ 1 (SpotC (mBlendMeshesL C0 R0 n0 l0 C1 R1 n1 l1 x2)) _ (by omega) (by omega) (by omega) Go17.sl).mono ?_
  rintro e w18 ⟨rfl, H18⟩
  have D18 := D17.trans (H18.mono D17.size)
  have z18 := H18.size
  have Wo18 := Wo17.below H18
  have Go18 := Go17.below H18
  have a0x18 := blk_step a0x17 H18
  have a1x18 := blk_step a1x17 H18
  have W0x18 := blk_step W0x17 H18
  have G0x18 := blk_step G0x17 H18
  clear a0f17_0 a0f17_1 a0f17_2
  have a0f18_0 : w18.cell? ⟨w.heap.size, 0, none⟩ = some (.int .i64 C0) := a0x18.cell 0
  have a0f18_1 : w18.cell? ⟨w.heap.size, 1, none⟩ = some (.int .i64 R0) := a0x18.cell 1
  have a0f18_2 : w18.cell? ⟨w.heap.size, 2, none⟩ = some (.slice A0 n0 c0) := a0x18.cell 2
  clear a0l17
  have a0l18 := a0x18.lt
  clear a1f17_0 a1f17_1 a1f17_2
  have a1f18_0 : w18.cell? ⟨w.heap.size + 1, 0, none⟩ = some (.int .i64 C1) := a1x18.cell 0
  have a1f18_1 : w18.cell? ⟨w.heap.size + 1, 1, none⟩ = some (.int .i64 R1) := a1x18.cell 1
  have a1f18_2 : w18.cell? ⟨w.heap.size + 1, 2, none⟩ = some (.slice A1 n1 c1) := a1x18.cell 2
  clear a1l17
  have a1l18 := a1x18.lt
  clear W0f17_0 W0f17_1 W0f17_2
  have W0f18_0 : w18.cell? ⟨BW0, 0, none⟩ = some (.int .i64 (mBlendMeshesA C0 R0 n0 l0 C1 R1 n1 l1 x2)) := W0x18.cell 0
  have W0f18_1 : w18.cell? ⟨BW0, 1, none⟩ = some (.int .i64 (mBlendMeshesB C0 R0 n0 l0 C1 R1 n1 l1 x2)) := W0x18.cell 1
  have W0f18_2 : w18.cell? ⟨BW0, 2, none⟩ = some (.slice AW (mBlendMeshesN C0 R0 n0 l0 C1 R1 n1 l1 x2) cW) := W0x18.cell 2
  clear W0l17
  have W0l18 := W0x18.lt
  clear G0f17_0 G0f17_1 G0f17_2
  have G0f18_0 : w18.cell? ⟨w9.heap.size, 0, none⟩ = some (.int .i64 (mBlendMeshesA C0 R0 n0 l0 C1 R1 n1 l1 x2)) := G0x18.cell 0
  have G0f18_1 : w18.cell? ⟨w9.heap.size, 1, none⟩ = some (.int .i64 (mBlendMeshesB C0 R0 n0 l0 C1 R1 n1 l1 x2)) := G0x18.cell 1
  have G0f18_2 : w18.cell? ⟨w9.heap.size, 2, none⟩ = some (.slice AG (mBlendMeshesN C0 R0 n0 l0 C1 R1 n1 l1 x2) cG) := G0x18.cell 2
  clear G0l17
  have G0l18 := G0x18.lt
  go_wp2_with fail
  go_cut [17, 18] (fun s17 s18 wr => (∃ (BH0 : Nat), ∃ (AH : Option Addr) (cH : Nat), s17 = .pointer (some ⟨BH0, 0, none⟩) ∧ s18 = .int .i64 (mBlendMeshesC C0 R0 n0 l0 C1 R1 n1 l1 x2) ∧ Blk wr BH0 29 #[.int .i64 (mBlendMeshesA C0 R0 n0 l0 C1 R1 n1 l1 x2), .int .i64 (mBlendMeshesB C0 R0 n0 l0 C1 R1 n1 l1 x2), .slice AH (mBlendMeshesN C0 R0 n0 l0 C1 R1 n1 l1 x2) cH] ∧ Own wr w18.heap.size 39 2 AH (mBlendMeshesN C0 R0 n0 l0 C1 R1 n1 l1 x2) (SpotC (mBlendMeshesL C0 R0 n0 l0 C1 R1 n1 l1 x2)) ∧ (AH = none → cH = 0)) ∧ Below w18.heap.size w18 wr)
  case first =>
    have ks : ∀ w' : World, Below w18.heap.size w18 w' → w'.cell? ⟨w.heap.size, 0, none⟩ = some (.int .i64 C0) ∧ w'.cell? ⟨w.heap.size, 1, none⟩ = some (.int .i64 R0) ∧ w'.cell? ⟨w.heap.size, 2, none⟩ = some (.slice A0 n0 c0) ∧ w'.cell? ⟨w.heap.size + 1, 0, none⟩ = some (.int .i64 C1) ∧ w'.cell? ⟨w.heap.size + 1, 1, none⟩ = some (.int .i64 R1) ∧ w'.cell? ⟨w.heap.size + 1, 2, none⟩ = some (.slice A1 n1 c1) := fun w' h => ⟨(Blk.below a0x18 h a0x18.lt).cell 0, (Blk.below a0x18 h a0x18.lt).cell 1, (Blk.below a0x18 h a0x18.lt).cell 2, (Blk.below a1x18 h a1x18.lt).cell 0, (Blk.below a1x18 h a1x18.lt).cell 1, (Blk.below a1x18 h a1x18.lt).cell 2⟩
    have KS := Lib.hid ks
    clear ks
    go_region_held3 (fun w' => w'.cell? ⟨w.heap.size, 0, none⟩ = some (.int .i64 C0) ∧ w'.cell? ⟨w.heap.size, 1, none⟩ = some (.int .i64 R0) ∧ w'.cell? ⟨w.heap.size, 2, none⟩ = some (.slice A0 n0 c0) ∧ w'.cell? ⟨w.heap.size + 1, 0, none⟩ = some (.int .i64 C1) ∧ w'.cell? ⟨w.heap.size + 1, 1, none⟩ = some (.int .i64 R1) ∧ w'.cell? ⟨w.heap.size + 1, 2, none⟩ = some (.slice A1 n1 c1))
      (exact KS.out _ (by repeat (first | with_reducible exact Below.refl _ _ | with_reducible assumption | with_reducible refine Below.setCell ?_ (by first | omega | (simp <;> omega)) _ | with_reducible refine Below.alloc ?_ (by first | omega | (simp <;> omega)) _ | with_reducible refine Below.drew ?_)))
      (first
      | (go_at_call_of 17 C0; refine (toMesh_any C0 R0 A0 n0 c0 l0 _ m0 (s0.below (by repeat (first | with_reducible exact Below.refl _ _ | with_reducible assumption | with_reducible refine Below.setCell ?_ (by first | omega | (simp <;> omega)) _ | with_reducible refine Below.alloc ?_ (by first | omega | (simp <;> omega)) _ | with_reducible refine Below.drew ?_)))).mono ?_; rintro e v3_0 ⟨⟨Bu3_0, rfl, hu3_0, tu3_0⟩, F3_0⟩; have E3_0 : Below w18.heap.size w18 v3_0 := below_then (by repeat (first | with_reducible exact Below.refl _ _ | with_reducible assumption | with_reducible refine Below.setCell ?_ (by first | omega | (simp <;> omega)) _ | with_reducible refine Below.alloc ?_ (by first | omega | (simp <;> omega)) _ | with_reducible refine Below.drew ?_)) F3_0; have DD3_0 := D18.trans (E3_0.mono D18.size); have ES3_0 := E3_0.size; (try replace Ou3_1 := (Ou3_1.below (by repeat (first | with_reducible exact Below.refl _ _ | with_reducible assumption | with_reducible refine Below.setCell ?_ (by first | omega | (simp <;> omega)) _ | with_reducible refine Below.alloc ?_ (by first | omega | (simp <;> omega)) _ | with_reducible refine Below.drew ?_))).below F3_0); (try replace oy3 := (oy3.below (by repeat (first | with_reducible exact Below.refl _ _ | with_reducible assumption | with_reducible refine Below.setCell ?_ (by first | omega | (simp <;> omega)) _ | with_reducible refine Below.alloc ?_ (by first | omega | (simp <;> omega)) _ | with_reducible refine Below.drew ?_))).below F3_0); have Ou3_0 := Own.blk (size := 2) tu3_0 (Nat.zero_le _) (Nat.le_refl (n0 * 2)) (fun _ _ => rfl); have a0y0 := blk_then a0x18 (by repeat (first | with_reducible exact Below.refl _ _ | with_reducible assumption | with_reducible refine Below.setCell ?_ (by first | omega | (simp <;> omega)) _ | with_reducible refine Below.alloc ?_ (by first | omega | (simp <;> omega)) _ | with_reducible refine Below.drew ?_)) F3_0; have a0y0_0 : v3_0.cell? ⟨w.heap.size, 0, none⟩ = some (.int .i64 C0) := a0y0.cell 0; have a0y0_1 : v3_0.cell? ⟨w.heap.size, 1, none⟩ = some (.int .i64 R0) := a0y0.cell 1; have a0y0_2 : v3_0.cell? ⟨w.heap.size, 2, none⟩ = some (.slice A0 n0 c0) := a0y0.cell 2; have a0y0_l := a0y0.lt; have a1y0 := blk_then a1x18 (by repeat (first | with_reducible exact Below.refl _ _ | with_reducible assumption | with_reducible refine Below.setCell ?_ (by first | omega | (simp <;> omega)) _ | with_reducible refine Below.alloc ?_ (by first | omega | (simp <;> omega)) _ | with_reducible refine Below.drew ?_)) F3_0; have a1y0_0 : v3_0.cell? ⟨w.heap.size + 1, 0, none⟩ = some (.int .i64 C1) := a1y0.cell 0; have a1y0_1 : v3_0.cell? ⟨w.heap.size + 1, 1, none⟩ = some (.int .i64 R1) := a1y0.cell 1; have a1y0_2 : v3_0.cell? ⟨w.heap.size + 1, 2, none⟩ = some (.slice A1 n1 c1) := a1y0.cell 2; have a1y0_l := a1y0.lt; have W0y0 := blk_then W0x18 (by repeat (first | with_reducible exact Below.refl _ _ | with_reducible assumption | with_reducible refine Below.setCell ?_ (by first | omega | (simp <;> omega)) _ | with_reducible refine Below.alloc ?_ (by first | omega | (simp <;> omega)) _ | with_reducible refine Below.drew ?_)) F3_0; have W0y0_0 : v3_0.cell? ⟨BW0, 0, none⟩ = some (.int .i64 (mBlendMeshesA C0 R0 n0 l0 C1 R1 n1 l1 x2)) := W0y0.cell 0; have W0y0_1 : v3_0.cell? ⟨BW0, 1, none⟩ = some (.int .i64 (mBlendMeshesB C0 R0 n0 l0 C1 R1 n1 l1 x2)) := W0y0.cell 1; have W0y0_2 : v3_0.cell? ⟨BW0, 2, none⟩ = some (.slice AW (mBlendMeshesN C0 R0 n0 l0 C1 R1 n1 l1 x2) cW) := W0y0.cell 2; have W0y0_l := W0y0.lt; have G0y0 := blk_then G0x18 (by repeat (first | with_reducible exact Below.refl _ _ | with_reducible assumption | with_reducible refine Below.setCell ?_ (by first | omega | (simp <;> omega)) _ | with_reducible refine Below.alloc ?_ (by first | omega | (simp <;> omega)) _ | with_reducible refine Below.drew ?_)) F3_0; have G0y0_0 : v3_0.cell? ⟨w9.heap.size, 0, none⟩ = some (.int .i64 (mBlendMeshesA C0 R0 n0 l0 C1 R1 n1 l1 x2)) := G0y0.cell 0; have G0y0_1 : v3_0.cell? ⟨w9.heap.size, 1, none⟩ = some (.int .i64 (mBlendMeshesB C0 R0 n0 l0 C1 R1 n1 l1 x2)) := G0y0.cell 1; have G0y0_2 : v3_0.cell? ⟨w9.heap.size, 2, none⟩ = some (.slice AG (mBlendMeshesN C0 R0 n0 l0 C1 R1 n1 l1 x2) cG) := G0y0.cell 2; have G0y0_l := G0y0.lt; (first | (with_reducible have zx3_0 := made_step F3_0) | (with_reducible have zx3_0 := made_step' F3_0) | (replace zx3_0 := blk_then zx3_0 (by repeat (first | with_reducible exact Below.refl _ _ | with_reducible assumption | with_reducible refine Below.setCell ?_ (by first | omega | (simp <;> omega)) _ | with_reducible refine Below.alloc ?_ (by first | omega | (simp <;> omega)) _ | with_reducible refine Below.drew ?_)) F3_0) | skip); (try have zf3_0_0 := zx3_0.cell 0); (try have zf3_0_1 := zx3_0.cell 1); (try have zf3_0_2 := zx3_0.cell 2); (try have zg3_0_0 := zx3_0.frozen 0); (try have zg3_0_1 := zx3_0.frozen 1); (try have zg3_0_2 := zx3_0.frozen 2); (try have zl3_0 := zx3_0.lt))
      | (go_at_call_of 17 C1; refine (toMesh_any C1 R1 A1 n1 c1 l1 _ m1 (s1.below (by repeat (first | with_reducible exact Below.refl _ _ | with_reducible assumption | with_reducible refine Below.setCell ?_ (by first | omega | (simp <;> omega)) _ | with_reducible refine Below.alloc ?_ (by first | omega | (simp <;> omega)) _ | with_reducible refine Below.drew ?_)))).mono ?_; rintro e v3_1 ⟨⟨Bu3_1, rfl, hu3_1, tu3_1⟩, F3_1⟩; have E3_1 : Below w18.heap.size w18 v3_1 := below_then (by repeat (first | with_reducible exact Below.refl _ _ | with_reducible assumption | with_reducible refine Below.setCell ?_ (by first | omega | (simp <;> omega)) _ | with_reducible refine Below.alloc ?_ (by first | omega | (simp <;> omega)) _ | with_reducible refine Below.drew ?_)) F3_1; have DD3_1 := D18.trans (E3_1.mono D18.size); have ES3_1 := E3_1.size; (try replace Ou3_0 := (Ou3_0.below (by repeat (first | with_reducible exact Below.refl _ _ | with_reducible assumption | with_reducible refine Below.setCell ?_ (by first | omega | (simp <;> omega)) _ | with_reducible refine Below.alloc ?_ (by first | omega | (simp <;> omega)) _ | with_reducible refine Below.drew ?_))).below F3_1); (try replace oy3 := (oy3.below (by repeat (first | with_reducible exact Below.refl _ _ | with_reducible assumption | with_reducible refine Below.setCell ?_ (by first | omega | (simp <;> omega)) _ | with_reducible refine Below.alloc ?_ (by first | omega | (simp <;> omega)) _ | with_reducible refine Below.drew ?_))).below F3_1); have Ou3_1 := Own.blk (size := 2) tu3_1 (Nat.zero_le _) (Nat.le_refl (n1 * 2)) (fun _ _ => rfl); have a0y1 := blk_then a0x18 (by repeat (first | with_reducible exact Below.refl _ _ | with_reducible assumption | with_reducible refine Below.setCell ?_ (by first | omega | (simp <;> omega)) _ | with_reducible refine Below.alloc ?_ (by first | omega | (simp <;> omega)) _ | with_reducible refine Below.drew ?_)) F3_1; have a0y1_0 : v3_1.cell? ⟨w.heap.size, 0, none⟩ = some (.int .i64 C0) := a0y1.cell 0; have a0y1_1 : v3_1.cell? ⟨w.heap.size, 1, none⟩ = some (.int .i64 R0) := a0y1.cell 1; have a0y1_2 : v3_1.cell? ⟨w.heap.size, 2, none⟩ = some (.slice A0 n0 c0) := a0y1.cell 2; have a0y1_l := a0y1.lt; have a1y1 := blk_then a1x18 (by repeat (first | with_reducible exact Below.refl _ _ | with_reducible assumption | with_reducible refine Below.setCell ?_ (by first | omega | (simp <;> omega)) _ | with_reducible refine Below.alloc ?_ (by first | omega | (simp <;> omega)) _ | with_reducible refine Below.drew ?_)) F3_1; have a1y1_0 : v3_1.cell? ⟨w.heap.size + 1, 0, none⟩ = some (.int .i64 C1) := a1y1.cell 0; have a1y1_1 : v3_1.cell? ⟨w.heap.size + 1, 1, none⟩ = some (.int .i64 R1) := a1y1.cell 1; have a1y1_2 : v3_1.cell? ⟨w.heap.size + 1, 2, none⟩ = some (.slice A1 n1 c1) := a1y1.cell 2; have a1y1_l := a1y1.lt; have W0y1 := blk_then W0x18 (by repeat (first | with_reducible exact Below.refl _ _ | with_reducible assumption | with_reducible refine Below.setCell ?_ (by first | omega | (simp <;> omega)) _ | with_reducible refine Below.alloc ?_ (by first | omega | (simp <;> omega)) _ | with_reducible refine Below.drew ?_)) F3_1; have W0y1_0 : v3_1.cell? ⟨BW0, 0, none⟩ = some (.int .i64 (mBlendMeshesA C0 R0 n0 l0 C1 R1 n1 l1 x2)) := W0y1.cell 0; have W0y1_1 : v3_1.cell? ⟨BW0, 1, none⟩ = some (.int .i64 (mBlendMeshesB C0 R0 n0 l0 C1 R1 n1 l1 x2)) := W0y1.cell 1; have W0y1_2 : v3_1.cell? ⟨BW0, 2, none⟩ = some (.slice AW (mBlendMeshesN C0 R0 n0 l0 C1 R1 n1 l1 x2) cW) := W0y1.cell 2; have W0y1_l := W0y1.lt; have G0y1 := blk_then G0x18 (by repeat (first | with_reducible exact Below.refl _ _ | with_reducible assumption | with_reducible refine Below.setCell ?_ (by first | omega | (simp <;> omega)) _ | with_reducible refine Below.alloc ?_ (by first | omega | (simp <;> omega)) _ | with_reducible refine Below.drew ?_)) F3_1; have G0y1_0 : v3_1.cell? ⟨w9.heap.size, 0, none⟩ = some (.int .i64 (mBlendMeshesA C0 R0 n0 l0 C1 R1 n1 l1 x2)) := G0y1.cell 0; have G0y1_1 : v3_1.cell? ⟨w9.heap.size, 1, none⟩ = some (.int .i64 (mBlendMeshesB C0 R0 n0 l0 C1 R1 n1 l1 x2)) := G0y1.cell 1; have G0y1_2 : v3_1.cell? ⟨w9.heap.size, 2, none⟩ = some (.slice AG (mBlendMeshesN C0 R0 n0 l0 C1 R1 n1 l1 x2) cG) := G0y1.cell 2; have G0y1_l := G0y1.lt; (first | (with_reducible have zx3_0 := made_step F3_1) | (with_reducible have zx3_0 := made_step' F3_1) | (replace zx3_0 := blk_then zx3_0 (by repeat (first | with_reducible exact Below.refl _ _ | with_reducible assumption | with_reducible refine Below.setCell ?_ (by first | omega | (simp <;> omega)) _ | with_reducible refine Below.alloc ?_ (by first | omega | (simp <;> omega)) _ | with_reducible refine Below.drew ?_)) F3_1) | skip); (try have zf3_0_0 := zx3_0.cell 0); (try have zf3_0_1 := zx3_0.cell 1); (try have zf3_0_2 := zx3_0.cell 2); (try have zg3_0_0 := zx3_0.frozen 0); (try have zg3_0_1 := zx3_0.frozen 1); (try have zg3_0_2 := zx3_0.frozen 2); (try have zl3_0 := zx3_0.lt))
      | (go_at_call 37; refine (implBlendMeshes_any C0 R0 _ n0 _ l0 C1 R1 _ n1 _ l1 x2 _ m0 (Ou3_0.below (by repeat (first | with_reducible exact Below.refl _ _ | with_reducible assumption | with_reducible refine Below.setCell ?_ (by first | omega | (simp <;> omega)) _ | with_reducible refine Below.alloc ?_ (by first | omega | (simp <;> omega)) _ | with_reducible refine Below.drew ?_))).sl g0 m1 (Ou3_1.below (by repeat (first | with_reducible exact Below.refl _ _ | with_reducible assumption | with_reducible refine Below.setCell ?_ (by first | omega | (simp <;> omega)) _ | with_reducible refine Below.alloc ?_ (by first | omega | (simp <;> omega)) _ | with_reducible refine Below.drew ?_))).sl g1 y2).mono ?_; rintro e v3_2 ⟨⟨AH, cH, rfl, oH, iH⟩, F3_2⟩; have E3_2 : Below w18.heap.size w18 v3_2 := below_then (by repeat (first | with_reducible exact Below.refl _ _ | with_reducible assumption | with_reducible refine Below.setCell ?_ (by first | omega | (simp <;> omega)) _ | with_reducible refine Below.alloc ?_ (by first | omega | (simp <;> omega)) _ | with_reducible refine Below.drew ?_)) F3_2; have DD3_2 := D18.trans (E3_2.mono D18.size); have ES3_2 := E3_2.size; (try replace Ou3_0 := (Ou3_0.below (by repeat (first | with_reducible exact Below.refl _ _ | with_reducible assumption | with_reducible refine Below.setCell ?_ (by first | omega | (simp <;> omega)) _ | with_reducible refine Below.alloc ?_ (by first | omega | (simp <;> omega)) _ | with_reducible refine Below.drew ?_))).below F3_2); (try replace Ou3_1 := (Ou3_1.below (by repeat (first | with_reducible exact Below.refl _ _ | with_reducible assumption | with_reducible refine Below.setCell ?_ (by first | omega | (simp <;> omega)) _ | with_reducible refine Below.alloc ?_ (by first | omega | (simp <;> omega)) _ | with_reducible refine Below.drew ?_))).below F3_2); have oy3 := oH.mono (base' := w18.heap.size) (by first | omega | (simp <;> omega)); have a0y2 := blk_then a0x18 (by repeat (first | with_reducible exact Below.refl _ _ | with_reducible assumption | with_reducible refine Below.setCell ?_ (by first | omega | (simp <;> omega)) _ | with_reducible refine Below.alloc ?_ (by first | omega | (simp <;> omega)) _ | with_reducible refine Below.drew ?_)) F3_2; have a0y2_0 : v3_2.cell? ⟨w.heap.size, 0, none⟩ = some (.int .i64 C0) := a0y2.cell 0; have a0y2_1 : v3_2.cell? ⟨w.heap.size, 1, none⟩ = some (.int .i64 R0) := a0y2.cell 1; have a0y2_2 : v3_2.cell? ⟨w.heap.size, 2, none⟩ = some (.slice A0 n0 c0) := a0y2.cell 2; have a0y2_l := a0y2.lt; have a1y2 := blk_then a1x18 (by repeat (first | with_reducible exact Below.refl _ _ | with_reducible assumption | with_reducible refine Below.setCell ?_ (by first | omega | (simp <;> omega)) _ | with_reducible refine Below.alloc ?_ (by first | omega | (simp <;> omega)) _ | with_reducible refine Below.drew ?_)) F3_2; have a1y2_0 : v3_2.cell? ⟨w.heap.size + 1, 0, none⟩ = some (.int .i64 C1) := a1y2.cell 0; have a1y2_1 : v3_2.cell? ⟨w.heap.size + 1, 1, none⟩ = some (.int .i64 R1) := a1y2.cell 1; have a1y2_2 : v3_2.cell? ⟨w.heap.size + 1, 2, none⟩ = some (.slice A1 n1 c1) := a1y2.cell 2; have a1y2_l := a1y2.lt; have W0y2 := blk_then W0x18 (by repeat (first | with_reducible exact Below.refl _ _ | with_reducible assumption | with_reducible refine Below.setCell ?_ (by first | omega | (simp <;> omega)) _ | with_reducible refine Below.alloc ?_ (by first | omega | (simp <;> omega)) _ | with_reducible refine Below.drew ?_)) F3_2; have W0y2_0 : v3_2.cell? ⟨BW0, 0, none⟩ = some (.int .i64 (mBlendMeshesA C0 R0 n0 l0 C1 R1 n1 l1 x2)) := W0y2.cell 0; have W0y2_1 : v3_2.cell? ⟨BW0, 1, none⟩ = some (.int .i64 (mBlendMeshesB C0 R0 n0 l0 C1 R1 n1 l1 x2)) := W0y2.cell 1; have W0y2_2 : v3_2.cell? ⟨BW0, 2, none⟩ = some (.slice AW (mBlendMeshesN C0 R0 n0 l0 C1 R1 n1 l1 x2) cW) := W0y2.cell 2; have W0y2_l := W0y2.lt; have G0y2 := blk_then G0x18 (by repeat (first | with_reducible exact Below.refl _ _ | with_reducible assumption | with_reducible refine Below.setCell ?_ (by first | omega | (simp <;> omega)) _ | with_reducible refine Below.alloc ?_ (by first | omega | (simp <;> omega)) _ | with_reducible refine Below.drew ?_)) F3_2; have G0y2_0 : v3_2.cell? ⟨w9.heap.size, 0, none⟩ = some (.int .i64 (mBlendMeshesA C0 R0 n0 l0 C1 R1 n1 l1 x2)) := G0y2.cell 0; have G0y2_1 : v3_2.cell? ⟨w9.heap.size, 1, none⟩ = some (.int .i64 (mBlendMeshesB C0 R0 n0 l0 C1 R1 n1 l1 x2)) := G0y2.cell 1; have G0y2_2 : v3_2.cell? ⟨w9.heap.size, 2, none⟩ = some (.slice AG (mBlendMeshesN C0 R0 n0 l0 C1 R1 n1 l1 x2) cG) := G0y2.cell 2; have G0y2_l := G0y2.lt; (first | (with_reducible have zx3_0 := made_step F3_2) | (with_reducible have zx3_0 := made_step' F3_2) | (replace zx3_0 := blk_then zx3_0 (by repeat (first | with_reducible exact Below.refl _ _ | with_reducible assumption | with_reducible refine Below.setCell ?_ (by first | omega | (simp <;> omega)) _ | with_reducible refine Below.alloc ?_ (by first | omega | (simp <;> omega)) _ | with_reducible refine Below.drew ?_)) F3_2) | skip); (try have zf3_0_0 := zx3_0.cell 0); (try have zf3_0_1 := zx3_0.cell 1); (try have zf3_0_2 := zx3_0.cell 2); (try have zg3_0_0 := zx3_0.frozen 0); (try have zg3_0_1 := zx3_0.frozen 1); (try have zg3_0_2 := zx3_0.frozen 2); (try have zl3_0 := zx3_0.lt)))
    all_goals (try go_wp2_with fail)
    all_goals (go_meet; refine ⟨⟨_, AH, cH, rfl, rfl, ?b0, ?o, iH⟩, ?e⟩; (case b0 => (first | with_reducible exact Blk.new _ _ _ | exact (((zx3_0.set_ 0 _).set_ 1 _).set_ 2 _))); (case o => (first | with_reducible exact (((oy3.set zx3_0 (by decide) 0 _).set (zx3_0.set_ 0 _) (by decide) 1 _).set ((zx3_0.set_ 0 _).set_ 1 _) (by decide) 2 _) | exact oy3.below (by repeat (first | with_reducible exact Below.refl _ _ | with_reducible assumption | with_reducible refine Below.setCell ?_ (by first | omega | (simp <;> omega)) _ | with_reducible refine Below.alloc ?_ (by first | omega | (simp <;> omega)) _ | with_reducible refine Below.drew ?_)))); (case e => (repeat (first | with_reducible exact Below.refl _ _ | with_reducible assumption | with_reducible refine Below.setCell ?_ (by first | omega | (simp <;> omega)) _ | with_reducible refine Below.alloc ?_ (by first | omega | (simp <;> omega)) _ | with_reducible refine Below.drew ?_))))
  obtain ⟨⟨BH0, AH, cH, rfl, rfl, H0x19, oH, iH⟩, H19⟩ := hcut
  obtain ⟨w19, rfl⟩ : ∃ q : World, q = wc := ⟨_, rfl⟩
  have D19 := D18.trans (H19.mono D18.size)
  have z19 := H19.size
  have Wo19 := Wo18.below H19
  have Go19 := Go18.below H19
  have a0x19 := blk_step a0x18 H19
  have a1x19 := blk_step a1x18 H19
  have W0x19 := blk_step W0x18 H19
  have G0x19 := blk_step G0x18 H19
  clear a0f18_0 a0f18_1 a0f18_2
  have a0f19_0 : w19.cell? ⟨w.heap.size, 0, none⟩ = some (.int .i64 C0) := a0x19.cell 0
  have a0f19_1 : w19.cell? ⟨w.heap.size, 1, none⟩ = some (.int .i64 R0) := a0x19.cell 1
  have a0f19_2 : w19.cell? ⟨w.heap.size, 2, none⟩ = some (.slice A0 n0 c0) := a0x19.cell 2
  clear a0l18
  have a0l19 := a0x19.lt
  clear a1f18_0 a1f18_1 a1f18_2
  have a1f19_0 : w19.cell? ⟨w.heap.size + 1, 0, none⟩ = some (.int .i64 C1) := a1x19.cell 0
  have a1f19_1 : w19.cell? ⟨w.heap.size + 1, 1, none⟩ = some (.int .i64 R1) := a1x19.cell 1
  have a1f19_2 : w19.cell? ⟨w.heap.size + 1, 2, none⟩ = some (.slice A1 n1 c1) := a1x19.cell 2
  clear a1l18
  have a1l19 := a1x19.lt
  clear W0f18_0 W0f18_1 W0f18_2
  have W0f19_0 : w19.cell? ⟨BW0, 0, none⟩ = some (.int .i64 (mBlendMeshesA C0 R0 n0 l0 C1 R1 n1 l1 x2)) := W0x19.cell 0
  have W0f19_1 : w19.cell? ⟨BW0, 1, none⟩ = some (.int .i64 (mBlendMeshesB C0 R0 n0 l0 C1 R1 n1 l1 x2)) := W0x19.cell 1
  have W0f19_2 : w19.cell? ⟨BW0, 2, none⟩ = some (.slice AW (mBlendMeshesN C0 R0 n0 l0 C1 R1 n1 l1 x2) cW) := W0x19.cell 2
  clear W0l18
  have W0l19 := W0x19.lt
  clear G0f18_0 G0f18_1 G0f18_2
  have G0f19_0 : w19.cell? ⟨w9.heap.size, 0, none⟩ = some (.int .i64 (mBlendMeshesA C0 R0 n0 l0 C1 R1 n1 l1 x2)) := G0x19.cell 0
  have G0f19_1 : w19.cell? ⟨w9.heap.size, 1, none⟩ = some (.int .i64 (mBlendMeshesB C0 R0 n0 l0 C1 R1 n1 l1 x2)) := G0x19.cell 1
  have G0f19_2 : w19.cell? ⟨w9.heap.size, 2, none⟩ = some (.slice AG (mBlendMeshesN C0 R0 n0 l0 C1 R1 n1 l1 x2) cG) := G0x19.cell 2
  clear G0l18
  have G0l19 := G0x19.lt
  have HU := oH.und
  have HO := oH.over
  clear a0f19_0 a0f19_1 a0f19_2
  have a0f19_0 : w19.cell? ⟨w.heap.size, 0, none⟩ = some (.int .i64 C0) := a0x19.cell 0
  have a0f19_1 : w19.cell? ⟨w.heap.size, 1, none⟩ = some (.int .i64 R0) := a0x19.cell 1
  have a0f19_2 : w19.cell? ⟨w.heap.size, 2, none⟩ = some (.slice A0 n0 c0) := a0x19.cell 2
  clear a0l19
  have a0l19 := a0x19.lt
  clear a1f19_0 a1f19_1 a1f19_2
  have a1f19_0 : w19.cell? ⟨w.heap.size + 1, 0, none⟩ = some (.int .i64 C1) := a1x19.cell 0
  have a1f19_1 : w19.cell? ⟨w.heap.size + 1, 1, none⟩ = some (.int .i64 R1) := a1x19.cell 1
  have a1f19_2 : w19.cell? ⟨w.heap.size + 1, 2, none⟩ = some (.slice A1 n1 c1) := a1x19.cell 2
  clear a1l19
  have a1l19 := a1x19.lt
  clear W0f19_0 W0f19_1 W0f19_2
  have W0f19_0 : w19.cell? ⟨BW0, 0, none⟩ = some (.int .i64 (mBlendMeshesA C0 R0 n0 l0 C1 R1 n1 l1 x2)) := W0x19.cell 0
  have W0f19_1 : w19.cell? ⟨BW0, 1, none⟩ = some (.int .i64 (mBlendMeshesB C0 R0 n0 l0 C1 R1 n1 l1 x2)) := W0x19.cell 1
  have W0f19_2 : w19.cell? ⟨BW0, 2, none⟩ = some (.slice AW (mBlendMeshesN C0 R0 n0 l0 C1 R1 n1 l1 x2) cW) := W0x19.cell 2
  clear W0l19
  have W0l19 := W0x19.lt
  clear G0f19_0 G0f19_1 G0f19_2
  have G0f19_0 : w19.cell? ⟨w9.heap.size, 0, none⟩ = some (.int .i64 (mBlendMeshesA C0 R0 n0 l0 C1 R1 n1 l1 x2)) := G0x19.cell 0
  have G0f19_1 : w19.cell? ⟨w9.heap.size, 1, none⟩ = some (.int .i64 (mBlendMeshesB C0 R0 n0 l0 C1 R1 n1 l1 x2)) := G0x19.cell 1
  have G0f19_2 : w19.cell? ⟨w9.heap.size, 2, none⟩ = some (.slice AG (mBlendMeshesN C0 R0 n0 l0 C1 R1 n1 l1 x2) cG) := G0x19.cell 2
  clear G0l19
  have G0l19 := G0x19.lt
  have H0f19_0 : w19.cell? ⟨BH0, 0, none⟩ = some (.int .i64 (mBlendMeshesA C0 R0 n0 l0 C1 R1 n1 l1 x2)) := H0x19.cell 0
  have H0f19_1 : w19.cell? ⟨BH0, 1, none⟩ = some (.int .i64 (mBlendMeshesB C0 R0 n0 l0 C1 R1 n1 l1 x2)) := H0x19.cell 1
  have H0f19_2 : w19.cell? ⟨BH0, 2, none⟩ = some (.slice AH (mBlendMeshesN C0 R0 n0 l0 C1 R1 n1 l1 x2) cH) := H0x19.cell 2
  have H0l19 := H0x19.lt
  go_wp2_with fail
  refine (eqMesh_yes (mBlendMeshesA C0 R0 n0 l0 C1 R1 n1 l1 x2) (mBlendMeshesB C0 R0 n0 l0 C1 R1 n1 l1 x2) _ _ (mBlendMeshesN C0 R0 n0 l0 C1 R1 n1 l1 x2) _ _ (mBlendMeshesL C0 R0 n0 l0 C1 R1 n1 l1 x2) _ (by omega) oH.sl Wo19.sl).mono ?_
  rintro e w20 ⟨rfl, H20⟩
  have D20 := D19.trans (H20.mono D19.size)
  have z20 := H20.size
  have Wo20 := Wo19.below H20
  have Go20 := Go19.below H20
  have Ho20 := oH.below H20
  have a0x20 := blk_step a0x19 H20
  have a1x20 := blk_step a1x19 H20
  have W0x20 := blk_step W0x19 H20
  have G0x20 := blk_step G0x19 H20
  have H0x20 := blk_step H0x19 H20
  clear a0f19_0 a0f19_1 a0f19_2
  have a0f20_0 : w20.cell? ⟨w.heap.size, 0, none⟩ = some (.int .i64 C0) := a0x20.cell 0
  have a0f20_1 : w20.cell? ⟨w.heap.size, 1, none⟩ = some (.int .i64 R0) := a0x20.cell 1
  have a0f20_2 : w20.cell? ⟨w.heap.size, 2, none⟩ = some (.slice A0 n0 c0) := a0x20.cell 2
  clear a0l19
  have a0l20 := a0x20.lt
  clear a1f19_0 a1f19_1 a1f19_2
  have a1f20_0 : w20.cell? ⟨w.heap.size + 1, 0, none⟩ = some (.int .i64 C1) := a1x20.cell 0
  have a1f20_1 : w20.cell? ⟨w.heap.size + 1, 1, none⟩ = some (.int .i64 R1) := a1x20.cell 1
  have a1f20_2 : w20.cell? ⟨w.heap.size + 1, 2, none⟩ = some (.slice A1 n1 c1) := a1x20.cell 2
  clear a1l19
  have a1l20 := a1x20.lt
  clear W0f19_0 W0f19_1 W0f19_2
  have W0f20_0 : w20.cell? ⟨BW0, 0, none⟩ = some (.int .i64 (mBlendMeshesA C0 R0 n0 l0 C1 R1 n1 l1 x2)) := W0x20.cell 0
  have W0f20_1 : w20.cell? ⟨BW0, 1, none⟩ = some (.int .i64 (mBlendMeshesB C0 R0 n0 l0 C1 R1 n1 l1 x2)) := W0x20.cell 1
  have W0f20_2 : w20.cell? ⟨BW0, 2, none⟩ = some (.slice AW (mBlendMeshesN C0 R0 n0 l0 C1 R1 n1 l1 x2) cW) := W0x20.cell 2
  clear W0l19
  have W0l20 := W0x20.lt
  clear G0f19_0 G0f19_1 G0f19_2
  have G0f20_0 : w20.cell? ⟨w9.heap.size, 0, none⟩ = some (.int .i64 (mBlendMeshesA C0 R0 n0 l0 C1 R1 n1 l1 x2)) := G0x20.cell 0
  have G0f20_1 : w20.cell? ⟨w9.heap.size, 1, none⟩ = some (.int .i64 (mBlendMeshesB C0 R0 n0 l0 C1 R1 n1 l1 x2)) := G0x20.cell 1
  have G0f20_2 : w20.cell? ⟨w9.heap.size, 2, none⟩ = some (.slice AG (mBlendMeshesN C0 R0 n0 l0 C1 R1 n1 l1 x2) cG) := G0x20.cell 2
  clear G0l19
  have G0l20 := G0x20.lt
  clear H0f19_0 H0f19_1 H0f19_2
  have H0f20_0 : w20.cell? ⟨BH0, 0, none⟩ = some (.int .i64 (mBlendMeshesA C0 R0 n0 l0 C1 R1 n1 l1 x2)) := H0x20.cell 0
  have H0f20_1 : w20.cell? ⟨BH0, 1, none⟩ = some (.int .i64 (mBlendMeshesB C0 R0 n0 l0 C1 R1 n1 l1 x2)) := H0x20.cell 1
  have H0f20_2 : w20.cell? ⟨BH0, 2, none⟩ = some (.slice AH (mBlendMeshesN C0 R0 n0 l0 C1 R1 n1 l1 x2) cH) := H0x20.cell 2
  clear H0l19
  have H0l20 := H0x20.lt
  go_wp2_with fail
  refine (heldMesh_any (mBlendMeshesA C0 R0 n0 l0 C1 R1 n1 l1 x2) (mBlendMeshesB C0 R0 n0 l0 C1 R1 n1 l1 x2) _ (mBlendMeshesN C0 R0 n0 l0 C1 R1 n1 l1 x2) _ 1 (SpotC (mBlendMeshesL C0 R0 n0 l0 C1 R1 n1 l1 x2)) _ (by omega) (by omega) (by omega) Go20.sl).mono ?_
  rintro e w21 ⟨rfl, H21⟩
  have D21 := D20.trans (H21.mono D20.size)
  have z21 := H21.size
  have Wo21 := Wo20.below H21
  have Go21 := Go20.below H21
  have Ho21 := Ho20.below H21
  have a0x21 := blk_step a0x20 H21
  have a1x21 := blk_step a1x20 H21
  have W0x21 := blk_step W0x20 H21
  have G0x21 := blk_step G0x20 H21
  have H0x21 := blk_step H0x20 H21
  clear a0f20_0 a0f20_1 a0f20_2
  have a0f21_0 : w21.cell? ⟨w.heap.size, 0, none⟩ = some (.int .i64 C0) := a0x21.cell 0
  have a0f21_1 : w21.cell? ⟨w.heap.size, 1, none⟩ = some (.int .i64 R0) := a0x21.cell 1
  have a0f21_2 : w21.cell? ⟨w.heap.size, 2, none⟩ = some (.slice A0 n0 c0) := a0x21.cell 2
  clear a0l20
  have a0l21 := a0x21.lt
  clear a1f20_0 a1f20_1 a1f20_2
  have a1f21_0 : w21.cell? ⟨w.heap.size + 1, 0, none⟩ = some (.int .i64 C1) := a1x21.cell 0
  have a1f21_1 : w21.cell? ⟨w.heap.size + 1, 1, none⟩ = some (.int .i64 R1) := a1x21.cell 1
  have a1f21_2 : w21.cell? ⟨w.heap.size + 1, 2, none⟩ = some (.slice A1 n1 c1) := a1x21.cell 2
  clear a1l20
  have a1l21 := a1x21.lt
  clear W0f20_0 W0f20_1 W0f20_2
  have W0f21_0 : w21.cell? ⟨BW0, 0, none⟩ = some (.int .i64 (mBlendMeshesA C0 R0 n0 l0 C1 R1 n1 l1 x2)) := W0x21.cell 0
  have W0f21_1 : w21.cell? ⟨BW0, 1, none⟩ = some (.int .i64 (mBlendMeshesB C0 R0 n0 l0 C1 R1 n1 l1 x2)) := W0x21.cell 1
  have W0f21_2 : w21.cell? ⟨BW0, 2, none⟩ = some (.slice AW (mBlendMeshesN C0 R0 n0 l0 C1 R1 n1 l1 x2) cW) := W0x21.cell 2
  clear W0l20
  have W0l21 := W0x21.lt
  clear G0f20_0 G0f20_1 G0f20_2
  have G0f21_0 : w21.cell? ⟨w9.heap.size, 0, none⟩ = some (.int .i64 (mBlendMeshesA C0 R0 n0 l0 C1 R1 n1 l1 x2)) := G0x21.cell 0
  have G0f21_1 : w21.cell? ⟨w9.heap.size, 1, none⟩ = some (.int .i64 (mBlendMeshesB C0 R0 n0 l0 C1 R1 n1 l1 x2)) := G0x21.cell 1
  have G0f21_2 : w21.cell? ⟨w9.heap.size, 2, none⟩ = some (.slice AG (mBlendMeshesN C0 R0 n0 l0 C1 R1 n1 l1 x2) cG) := G0x21.cell 2
  clear G0l20
  have G0l21 := G0x21.lt
  clear H0f20_0 H0f20_1 H0f20_2
  have H0f21_0 : w21.cell? ⟨BH0, 0, none⟩ = some (.int .i64 (mBlendMeshesA C0 R0 n0 l0 C1 R1 n1 l1 x2)) := H0x21.cell 0
  have H0f21_1 : w21.cell? ⟨BH0, 1, none⟩ = some (.int .i64 (mBlendMeshesB C0 R0 n0 l0 C1 R1 n1 l1 x2)) := H0x21.cell 1
  have H0f21_2 : w21.cell? ⟨BH0, 2, none⟩ = some (.slice AH (mBlendMeshesN C0 R0 n0 l0 C1 R1 n1 l1 x2) cH) := H0x21.cell 2
  clear H0l20
  have H0l21 := H0x21.lt
  go_wp2_with fail
  go_ret
  exact ⟨rfl, D21⟩

end Go.Proofs.Ytddcbieomklhnaa

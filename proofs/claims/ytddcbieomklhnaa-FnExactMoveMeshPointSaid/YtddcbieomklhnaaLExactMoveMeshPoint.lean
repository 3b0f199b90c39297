/- FnExactMoveMeshPoint returns true at every input: the walk. No condition beyond those that every argument meets. -/
import Derived.Test.YtddcbieomklhnaaMove
import Derived.Test.YtddcbieomklhnaaSMesh
import Derived.Deep.RegionHeld3
import Derived.Deep.DeepCutAuto
namespace Go.Proofs.Ytddcbieomklhnaa
open Go.RowKit Go.Lib Go.Ks
set_option linter.unusedVariables false
set_option maxRecDepth 100000 in
set_option maxHeartbeats 4000000 in
theorem lawMoveMeshPoint (C0 R0 : Int) (A0 : Option Addr) (n0 c0 : Nat) (l0 : Nat → SpotD) (x1 : Int) (x2 : Int) (x3_0 : Int) (x3_1 : Int) (w : World) (yc0 : -9223372036854775808 ≤ C0 ∧ C0 ≤ 9223372036854775807) (yr0 : -9223372036854775808 ≤ R0 ∧ R0 ≤ 9223372036854775807) (b0 : n0 ≤ 9223372036854775807) (s0 : Sl w A0 (n0 * 2) (SpotC l0)) (g0 : ∀ k, k < n0 → SpotOk (l0 k)) (y1 : -9223372036854775808 ≤ x1 ∧ x1 ≤ 9223372036854775807) (y2 : -9223372036854775808 ≤ x2 ∧ x2 ≤ 9223372036854775807) (y3_0 : -9223372036854775808 ≤ x3_0 ∧ x3_0 ≤ 9223372036854775807) (y3_1 : -9223372036854775808 ≤ x3_1 ∧ x3_1 ≤ 9223372036854775807) :
    Calls Try.prog 10 #[.agg #[.int .i64 C0, .int .i64 R0, .slice A0 n0 c0], .int .i64 x1, .int .i64 x2, .agg #[.int .i64 x3_0, .int .i64 x3_1]] w fun e w' => e = .returned (.bool true) ∧ Below w.heap.size w w' := by
  have D0 := Below.refl w.heap.size w
  go_enter Try.func10, Try.ntmps10
  go_wp2_with fail
  generalize hW1 : ((w.alloc (.cells #[.int .i64 C0, .int .i64 R0, .slice A0 n0 c0] 24)).alloc (.cells #[.int .i64 x3_0, .int .i64 x3_1] 52)) = w1
  have H1 : Below w.heap.size w w1 := by rw [← hW1]; repeat (first | with_reducible exact Below.refl _ _ | with_reducible assumption | with_reducible refine Below.setCell ?_ (by simp <;> omega) _ | with_reducible refine Below.alloc ?_ (by simp <;> omega) _ | with_reducible refine Below.drew ?_)
  have a0x1 : Blk w1 (w.heap.size) 24 #[.int .i64 C0, .int .i64 R0, .slice A0 n0 c0] := by rw [← hW1]; exact (Blk.new w 24 #[.int .i64 C0, .int .i64 R0, .slice A0 n0 c0]).alloc _
  have a3x1 : Blk w1 (w.heap.size + 1) 52 #[.int .i64 x3_0, .int .i64 x3_1] := by
    have h := Blk.new (w.alloc (.cells #[.int .i64 C0, .int .i64 R0, .slice A0 n0 c0] 24)) 52 #[.int .i64 x3_0, .int .i64 x3_1]
    rw [hW1] at h
    simpa using h
  clear hW1
  have D1 := D0.trans (H1.mono D0.size)
  have z1 := H1.size
  have a0f1_0 : w1.cell? ⟨w.heap.size, 0, none⟩ = some (.int .i64 C0) := a0x1.cell 0
  have a0f1_1 : w1.cell? ⟨w.heap.size, 1, none⟩ = some (.int .i64 R0) := a0x1.cell 1
  have a0f1_2 : w1.cell? ⟨w.heap.size, 2, none⟩ = some (.slice A0 n0 c0) := a0x1.cell 2
  have a0l1 := a0x1.lt
  have a3f1_0 : w1.cell? ⟨w.heap.size + 1, 0, none⟩ = some (.int .i64 x3_0) := a3x1.cell 0
  have a3f1_1 : w1.cell? ⟨w.heap.size + 1, 1, none⟩ = some (.int .i64 x3_1) := a3x1.cell 1
  have a3l1 := a3x1.lt
  refine (szMesh_any C0 R0 _ _ _ _ b0 (by omega) (by omega) _).mono ?_
  rintro e w2 ⟨⟨r2, rfl, hr2⟩, H2⟩
  have D2 := D1.trans (H2.mono D1.size)
  have z2 := H2.size
  have a0x2 := blk_step a0x1 H2
  have a3x2 := blk_step a3x1 H2
  clear a0f1_0 a0f1_1 a0f1_2
  have a0f2_0 : w2.cell? ⟨w.heap.size, 0, none⟩ = some (.int .i64 C0) := a0x2.cell 0
  have a0f2_1 : w2.cell? ⟨w.heap.size, 1, none⟩ = some (.int .i64 R0) := a0x2.cell 1
  have a0f2_2 : w2.cell? ⟨w.heap.size, 2, none⟩ = some (.slice A0 n0 c0) := a0x2.cell 2
  clear a0l1
  have a0l2 := a0x2.lt
  clear a3f1_0 a3f1_1
  have a3f2_0 : w2.cell? ⟨w.heap.size + 1, 0, none⟩ = some (.int .i64 x3_0) := a3x2.cell 0
  have a3f2_1 : w2.cell? ⟨w.heap.size + 1, 1, none⟩ = some (.int .i64 x3_1) := a3x2.cell 1
  clear a3l1
  have a3l2 := a3x2.lt
  rcases hr2 with rfl | ⟨d2a, d2b, d2c⟩
  · go_wp2_with fail
    go_ret
    exact ⟨rfl, D2⟩
  have m0 : n0 ≤ 1048576 := by omega
  have mm := mMoveMeshPoint_len C0 R0 n0 l0 x1 x2 x3_0 x3_1
  go_wp2_with fail
  go_cut [10, 11] (fun s10 s11 wr => (∃ (BW0 : Nat), ∃ (AW : Option Addr) (cW : Nat), s10 = .pointer (some ⟨BW0, 0, none⟩) ∧ s11 = .int .i64 (mMoveMeshPointC C0 R0 n0 l0 x1 x2 x3_0 x3_1) ∧ Blk wr BW0 29 #[.int .i64 (mMoveMeshPointA C0 R0 n0 l0 x1 x2 x3_0 x3_1), .int .i64 (mMoveMeshPointB C0 R0 n0 l0 x1 x2 x3_0 x3_1), .slice AW (mMoveMeshPointN C0 R0 n0 l0 x1 x2 x3_0 x3_1) cW] ∧ Own wr w2.heap.size 39 2 AW (mMoveMeshPointN C0 R0 n0 l0 x1 x2 x3_0 x3_1) (SpotC (mMoveMeshPointL C0 R0 n0 l0 x1 x2 x3_0 x3_1)) ∧ (AW = none → cW = 0)) ∧ Below w2.heap.size w2 wr)
  case first =>
    have ks : ∀ w' : World, Below w2.heap.size w2 w' → w'.cell? ⟨w.heap.size, 0, none⟩ = some (.int .i64 C0) ∧ w'.cell? ⟨w.heap.size, 1, none⟩ = some (.int .i64 R0) ∧ w'.cell? ⟨w.heap.size, 2, none⟩ = some (.slice A0 n0 c0) ∧ w'.cell? ⟨w.heap.size + 1, 0, none⟩ = some (.int .i64 x3_0) ∧ w'.cell? ⟨w.heap.size + 1, 1, none⟩ = some (.int .i64 x3_1) := fun w' h => ⟨(Blk.below a0x2 h a0x2.lt).cell 0, (Blk.below a0x2 h a0x2.lt).cell 1, (Blk.below a0x2 h a0x2.lt).cell 2, (Blk.below a3x2 h a3x2.lt).cell 0, (Blk.below a3x2 h a3x2.lt).cell 1⟩
    have KS := Lib.hid ks
    clear ks
    go_region_held3 (fun w' => w'.cell? ⟨w.heap.size, 0, none⟩ = some (.int .i64 C0) ∧ w'.cell? ⟨w.heap.size, 1, none⟩ = some (.int .i64 R0) ∧ w'.cell? ⟨w.heap.size, 2, none⟩ = some (.slice A0 n0 c0) ∧ w'.cell? ⟨w.heap.size + 1, 0, none⟩ = some (.int .i64 x3_0) ∧ w'.cell? ⟨w.heap.size + 1, 1, none⟩ = some (.int .i64 x3_1))
      (exact KS.out _ (by repeat (first | with_reducible exact Below.refl _ _ | with_reducible assumption | with_reducible refine Below.setCell ?_ (by first | omega | (simp <;> omega)) _ | with_reducible refine Below.alloc ?_ (by first | omega | (simp <;> omega)) _ | with_reducible refine Below.drew ?_)))
      (first
      | (go_at_call_of 17 C0; refine (toMesh_any C0 R0 A0 n0 c0 l0 _ m0 (s0.below (by repeat (first | with_reducible exact Below.refl _ _ | with_reducible assumption | with_reducible refine Below.setCell ?_ (by first | omega | (simp <;> omega)) _ | with_reducible refine Below.alloc ?_ (by first | omega | (simp <;> omega)) _ | with_reducible refine Below.drew ?_)))).mono ?_; rintro e v0_0 ⟨⟨Bu0_0, rfl, hu0_0, tu0_0⟩, F0_0⟩; have E0_0 : Below w2.heap.size w2 v0_0 := below_then (by repeat (first | with_reducible exact Below.refl _ _ | with_reducible assumption | with_reducible refine Below.setCell ?_ (by first | omega | (simp <;> omega)) _ | with_reducible refine Below.alloc ?_ (by first | omega | (simp <;> omega)) _ | with_reducible refine Below.drew ?_)) F0_0; have DD0_0 := D2.trans (E0_0.mono D2.size); have ES0_0 := E0_0.size; (try replace oy0 := (oy0.below (by repeat (first | with_reducible exact Below.refl _ _ | with_reducible assumption | with_reducible refine Below.setCell ?_ (by first | omega | (simp <;> omega)) _ | with_reducible refine Below.alloc ?_ (by first | omega | (simp <;> omega)) _ | with_reducible refine Below.drew ?_))).below F0_0); have Ou0_0 := Own.blk (size := 2) tu0_0 (Nat.zero_le _) (Nat.le_refl (n0 * 2)) (fun _ _ => rfl); have a0y0 := blk_then a0x2 (by repeat (first | with_reducible exact Below.refl _ _ | with_reducible assumption | with_reducible refine Below.setCell ?_ (by first | omega | (simp <;> omega)) _ | with_reducible refine Below.alloc ?_ (by first | omega | (simp <;> omega)) _ | with_reducible refine Below.drew ?_)) F0_0; have a0y0_0 : v0_0.cell? ⟨w.heap.size, 0, none⟩ = some (.int .i64 C0) := a0y0.cell 0; have a0y0_1 : v0_0.cell? ⟨w.heap.size, 1, none⟩ = some (.int .i64 R0) := a0y0.cell 1; have a0y0_2 : v0_0.cell? ⟨w.heap.size, 2, none⟩ = some (.slice A0 n0 c0) := a0y0.cell 2; have a0y0_l := a0y0.lt; have a3y0 := blk_then a3x2 (by repeat (first | with_reducible exact Below.refl _ _ | with_reducible assumption | with_reducible refine Below.setCell ?_ (by first | omega | (simp <;> omega)) _ | with_reducible refine Below.alloc ?_ (by first | omega | (simp <;> omega)) _ | with_reducible refine Below.drew ?_)) F0_0; have a3y0_0 : v0_0.cell? ⟨w.heap.size + 1, 0, none⟩ = some (.int .i64 x3_0) := a3y0.cell 0; have a3y0_1 : v0_0.cell? ⟨w.heap.size + 1, 1, none⟩ = some (.int .i64 x3_1) := a3y0.cell 1; have a3y0_l := a3y0.lt; (first | (with_reducible have zx0_0 := made_step F0_0) | (with_reducible have zx0_0 := made_step' F0_0) | (replace zx0_0 := blk_then zx0_0 (by repeat (first | with_reducible exact Below.refl _ _ | with_reducible assumption | with_reducible refine Below.setCell ?_ (by first | omega | (simp <;> omega)) _ | with_reducible refine Below.alloc ?_ (by first | omega | (simp <;> omega)) _ | with_reducible refine Below.drew ?_)) F0_0) | skip); (try have zf0_0_0 := zx0_0.cell 0); (try have zf0_0_1 := zx0_0.cell 1); (try have zf0_0_2 := zx0_0.cell 2); (try have zg0_0_0 := zx0_0.frozen 0); (try have zg0_0_1 := zx0_0.frozen 1); (try have zg0_0_2 := zx0_0.frozen 2); (try have zl0_0 := zx0_0.lt))
      | (go_at_call_of 39 x3_0; refine (toSpot_any x3_0 x3_1 _).mono ?_; rintro e v0_1 ⟨rfl, F0_1⟩; have E0_1 : Below w2.heap.size w2 v0_1 := below_then (by repeat (first | with_reducible exact Below.refl _ _ | with_reducible assumption | with_reducible refine Below.setCell ?_ (by first | omega | (simp <;> omega)) _ | with_reducible refine Below.alloc ?_ (by first | omega | (simp <;> omega)) _ | with_reducible refine Below.drew ?_)) F0_1; have DD0_1 := D2.trans (E0_1.mono D2.size); have ES0_1 := E0_1.size; (try replace Ou0_0 := (Ou0_0.below (by repeat (first | with_reducible exact Below.refl _ _ | with_reducible assumption | with_reducible refine Below.setCell ?_ (by first | omega | (simp <;> omega)) _ | with_reducible refine Below.alloc ?_ (by first | omega | (simp <;> omega)) _ | with_reducible refine Below.drew ?_))).below F0_1); (try replace oy0 := (oy0.below (by repeat (first | with_reducible exact Below.refl _ _ | with_reducible assumption | with_reducible refine Below.setCell ?_ (by first | omega | (simp <;> omega)) _ | with_reducible refine Below.alloc ?_ (by first | omega | (simp <;> omega)) _ | with_reducible refine Below.drew ?_))).below F0_1); have a0y1 := blk_then a0x2 (by repeat (first | with_reducible exact Below.refl _ _ | with_reducible assumption | with_reducible refine Below.setCell ?_ (by first | omega | (simp <;> omega)) _ | with_reducible refine Below.alloc ?_ (by first | omega | (simp <;> omega)) _ | with_reducible refine Below.drew ?_)) F0_1; have a0y1_0 : v0_1.cell? ⟨w.heap.size, 0, none⟩ = some (.int .i64 C0) := a0y1.cell 0; have a0y1_1 : v0_1.cell? ⟨w.heap.size, 1, none⟩ = some (.int .i64 R0) := a0y1.cell 1; have a0y1_2 : v0_1.cell? ⟨w.heap.size, 2, none⟩ = some (.slice A0 n0 c0) := a0y1.cell 2; have a0y1_l := a0y1.lt; have a3y1 := blk_then a3x2 (by repeat (first | with_reducible exact Below.refl _ _ | with_reducible assumption | with_reducible refine Below.setCell ?_ (by first | omega | (simp <;> omega)) _ | with_reducible refine Below.alloc ?_ (by first | omega | (simp <;> omega)) _ | with_reducible refine Below.drew ?_)) F0_1; have a3y1_0 : v0_1.cell? ⟨w.heap.size + 1, 0, none⟩ = some (.int .i64 x3_0) := a3y1.cell 0; have a3y1_1 : v0_1.cell? ⟨w.heap.size + 1, 1, none⟩ = some (.int .i64 x3_1) := a3y1.cell 1; have a3y1_l := a3y1.lt; (first | (with_reducible have zx0_0 := made_step F0_1) | (with_reducible have zx0_0 := made_step' F0_1) | (replace zx0_0 := blk_then zx0_0 (by repeat (first | with_reducible exact Below.refl _ _ | with_reducible assumption | with_reducible refine Below.setCell ?_ (by first | omega | (simp <;> omega)) _ | with_reducible refine Below.alloc ?_ (by first | omega | (simp <;> omega)) _ | with_reducible refine Below.drew ?_)) F0_1) | skip); (try have zf0_0_0 := zx0_0.cell 0); (try have zf0_0_1 := zx0_0.cell 1); (try have zf0_0_2 := zx0_0.cell 2); (try have zg0_0_0 := zx0_0.frozen 0); (try have zg0_0_1 := zx0_0.frozen 1); (try have zg0_0_2 := zx0_0.frozen 2); (try have zl0_0 := zx0_0.lt))
      | (go_at_call 38; refine (specMoveMeshPoint_any C0 R0 _ n0 _ l0 x1 x2 x3_0 x3_1 _ m0 (Ou0_0.below (by repeat (first | with_reducible exact Below.refl _ _ | with_reducible assumption | with_reducible refine Below.setCell ?_ (by first | omega | (simp <;> omega)) _ | with_reducible refine Below.alloc ?_ (by first | omega | (simp <;> omega)) _ | with_reducible refine Below.drew ?_))).sl g0 y1 y2 y3_0 y3_1).mono ?_; rintro e v0_2 ⟨⟨AW, cW, rfl, oW, iW⟩, F0_2⟩; have E0_2 : Below w2.heap.size w2 v0_2 := below_then (by repeat (first | with_reducible exact Below.refl _ _ | with_reducible assumption | with_reducible refine Below.setCell ?_ (by first | omega | (simp <;> omega)) _ | with_reducible refine Below.alloc ?_ (by first | omega | (simp <;> omega)) _ | with_reducible refine Below.drew ?_)) F0_2; have DD0_2 := D2.trans (E0_2.mono D2.size); have ES0_2 := E0_2.size; (try replace Ou0_0 := (Ou0_0.below (by repeat (first | with_reducible exact Below.refl _ _ | with_reducible assumption | with_reducible refine Below.setCell ?_ (by first | omega | (simp <;> omega)) _ | with_reducible refine Below.alloc ?_ (by first | omega | (simp <;> omega)) _ | with_reducible refine Below.drew ?_))).below F0_2); have oy0 := oW.mono (base' := w2.heap.size) (by first | omega | (simp <;> omega)); have a0y2 := blk_then a0x2 (by repeat (first | with_reducible exact Below.refl _ _ | with_reducible assumption | with_reducible refine Below.setCell ?_ (by first | omega | (simp <;> omega)) _ | with_reducible refine Below.alloc ?_ (by first | omega | (simp <;> omega)) _ | with_reducible refine Below.drew ?_)) F0_2; have a0y2_0 : v0_2.cell? ⟨w.heap.size, 0, none⟩ = some (.int .i64 C0) := a0y2.cell 0; have a0y2_1 : v0_2.cell? ⟨w.heap.size, 1, none⟩ = some (.int .i64 R0) := a0y2.cell 1; have a0y2_2 : v0_2.cell? ⟨w.heap.size, 2, none⟩ = some (.slice A0 n0 c0) := a0y2.cell 2; have a0y2_l := a0y2.lt; have a3y2 := blk_then a3x2 (by repeat (first | with_reducible exact Below.refl _ _ | with_reducible assumption | with_reducible refine Below.setCell ?_ (by first | omega | (simp <;> omega)) _ | with_reducible refine Below.alloc ?_ (by first | omega | (simp <;> omega)) _ | with_reducible refine Below.drew ?_)) F0_2; have a3y2_0 : v0_2.cell? ⟨w.heap.size + 1, 0, none⟩ = some (.int .i64 x3_0) := a3y2.cell 0; have a3y2_1 : v0_2.cell? ⟨w.heap.size + 1, 1, none⟩ = some (.int .i64 x3_1) := a3y2.cell 1; have a3y2_l := a3y2.lt; (first | (with_reducible have zx0_0 := made_step F0_2) | (with_reducible have zx0_0 := made_step' F0_2) | (replace zx0_0 := blk_then zx0_0 (by repeat (first | with_reducible exact Below.refl _ _ | with_reducible assumption | with_reducible refine Below.setCell ?_ (by first | omega | (simp <;> omega)) _ | with_reducible refine Below.alloc ?_ (by first | omega | (simp <;> omega)) _ | with_reducible refine Below.drew ?_)) F0_2) | skip); (try have zf0_0_0 := zx0_0.cell 0); (try have zf0_0_1 := zx0_0.cell 1); (try have zf0_0_2 := zx0_0.cell 2); (try have zg0_0_0 := zx0_0.frozen 0); (try have zg0_0_1 := zx0_0.frozen 1); (try have zg0_0_2 := zx0_0.frozen 2); (try have zl0_0 := zx0_0.lt)))
    all_goals (try go_wp2_with fail)
    all_goals (go_meet; refine ⟨⟨_, AW, cW, rfl, rfl, ?b0, ?o, iW⟩, ?e⟩; (case b0 => (first | with_reducible exact Blk.new _ _ _ | exact (((zx0_0.set_ 0 _).set_ 1 _).set_ 2 _))); (case o => (first | with_reducible exact (((oy0.set zx0_0 (by decide) 0 _).set (zx0_0.set_ 0 _) (by decide) 1 _).set ((zx0_0.set_ 0 _).set_ 1 _) (by decide) 2 _) | exact oy0.below (by repeat (first | with_reducible exact Below.refl _ _ | with_reducible assumption | with_reducible refine Below.setCell ?_ (by first | omega | (simp <;> omega)) _ | with_reducible refine Below.alloc ?_ (by first | omega | (simp <;> omega)) _ | with_reducible refine Below.drew ?_)))); (case e => (repeat (first | with_reducible exact Below.refl _ _ | with_reducible assumption | with_reducible refine Below.setCell ?_ (by first | omega | (simp <;> omega)) _ | with_reducible refine Below.alloc ?_ (by first | omega | (simp <;> omega)) _ | with_reducible refine Below.drew ?_))))
  obtain ⟨⟨BW0, AW, cW, rfl, rfl, W0x3, oW, iW⟩, H3⟩ := hcut
  obtain ⟨w3, rfl⟩ : ∃ q : World, q = wc := ⟨_, rfl⟩
  have D3 := D2.trans (H3.mono D2.size)
  have z3 := H3.size
  have a0x3 := blk_step a0x2 H3
  have a3x3 := blk_step a3x2 H3
  clear a0f2_0 a0f2_1 a0f2_2
  have a0f3_0 : w3.cell? ⟨w.heap.size, 0, none⟩ = some (.int .i64 C0) := a0x3.cell 0
  have a0f3_1 : w3.cell? ⟨w.heap.size, 1, none⟩ = some (.int .i64 R0) := a0x3.cell 1
  have a0f3_2 : w3.cell? ⟨w.heap.size, 2, none⟩ = some (.slice A0 n0 c0) := a0x3.cell 2
  clear a0l2
  have a0l3 := a0x3.lt
  clear a3f2_0 a3f2_1
  have a3f3_0 : w3.cell? ⟨w.heap.size + 1, 0, none⟩ = some (.int .i64 x3_0) := a3x3.cell 0
  have a3f3_1 : w3.cell? ⟨w.heap.size + 1, 1, none⟩ = some (.int .i64 x3_1) := a3x3.cell 1
  clear a3l2
  have a3l3 := a3x3.lt
  have WU := oW.und
  have WO := oW.over
  clear a0f3_0 a0f3_1 a0f3_2
  have a0f3_0 : w3.cell? ⟨w.heap.size, 0, none⟩ = some (.int .i64 C0) := a0x3.cell 0
  have a0f3_1 : w3.cell? ⟨w.heap.size, 1, none⟩ = some (.int .i64 R0) := a0x3.cell 1
  have a0f3_2 : w3.cell? ⟨w.heap.size, 2, none⟩ = some (.slice A0 n0 c0) := a0x3.cell 2
  clear a0l3
  have a0l3 := a0x3.lt
  clear a3f3_0 a3f3_1
  have a3f3_0 : w3.cell? ⟨w.heap.size + 1, 0, none⟩ = some (.int .i64 x3_0) := a3x3.cell 0
  have a3f3_1 : w3.cell? ⟨w.heap.size + 1, 1, none⟩ = some (.int .i64 x3_1) := a3x3.cell 1
  clear a3l3
  have a3l3 := a3x3.lt
  have W0f3_0 : w3.cell? ⟨BW0, 0, none⟩ = some (.int .i64 (mMoveMeshPointA C0 R0 n0 l0 x1 x2 x3_0 x3_1)) := W0x3.cell 0
  have W0f3_1 : w3.cell? ⟨BW0, 1, none⟩ = some (.int .i64 (mMoveMeshPointB C0 R0 n0 l0 x1 x2 x3_0 x3_1)) := W0x3.cell 1
  have W0f3_2 : w3.cell? ⟨BW0, 2, none⟩ = some (.slice AW (mMoveMeshPointN C0 R0 n0 l0 x1 x2 x3_0 x3_1) cW) := W0x3.cell 2
  have W0l3 := W0x3.lt
  go_wp2_with fail
  refine (toMesh_any C0 R0 A0 n0 c0 l0 _ m0 (s0.below D3)).mono ?_
  rintro e w4 ⟨⟨Bx0, rfl, hB4, t4⟩, H4⟩
  have D4 := D3.trans (H4.mono D3.size)
  have z4 := H4.size
  have Wo4 := oW.below H4
  have a0x4 := blk_step a0x3 H4
  have a3x4 := blk_step a3x3 H4
  have W0x4 := blk_step W0x3 H4
  clear a0f3_0 a0f3_1 a0f3_2
  have a0f4_0 : w4.cell? ⟨w.heap.size, 0, none⟩ = some (.int .i64 C0) := a0x4.cell 0
  have a0f4_1 : w4.cell? ⟨w.heap.size, 1, none⟩ = some (.int .i64 R0) := a0x4.cell 1
  have a0f4_2 : w4.cell? ⟨w.heap.size, 2, none⟩ = some (.slice A0 n0 c0) := a0x4.cell 2
  clear a0l3
  have a0l4 := a0x4.lt
  clear a3f3_0 a3f3_1
  have a3f4_0 : w4.cell? ⟨w.heap.size + 1, 0, none⟩ = some (.int .i64 x3_0) := a3x4.cell 0
  have a3f4_1 : w4.cell? ⟨w.heap.size + 1, 1, none⟩ = some (.int .i64 x3_1) := a3x4.cell 1
  clear a3l3
  have a3l4 := a3x4.lt
  clear W0f3_0 W0f3_1 W0f3_2
  have W0f4_0 : w4.cell? ⟨BW0, 0, none⟩ = some (.int .i64 (mMoveMeshPointA C0 R0 n0 l0 x1 x2 x3_0 x3_1)) := W0x4.cell 0
  have W0f4_1 : w4.cell? ⟨BW0, 1, none⟩ = some (.int .i64 (mMoveMeshPointB C0 R0 n0 l0 x1 x2 x3_0 x3_1)) := W0x4.cell 1
  have W0f4_2 : w4.cell? ⟨BW0, 2, none⟩ = some (.slice AW (mMoveMeshPointN C0 R0 n0 l0 x1 x2 x3_0 x3_1) cW) := W0x4.cell 2
  clear W0l3
  have W0l4 := W0x4.lt
  have x0o4 := Own.blk (base := w3.heap.size) (size := 2) t4 hB4 (Nat.le_refl (n0 * 2)) (fun _ _ => rfl)
  have x0U := x0o4.und
  have x0O := x0o4.over
  go_wp2_with fail
  generalize hW5 : (w4.alloc (.cells #[.int .i64 C0, .int .i64 R0, .slice (some ⟨Bx0, 0, none⟩) n0 n0] 29)) = w5
  have H5 : Below w4.heap.size w4 w5 := by rw [← hW5]; repeat (first | with_reducible exact Below.refl _ _ | with_reducible assumption | with_reducible refine Below.setCell ?_ (by simp <;> omega) _ | with_reducible refine Below.alloc ?_ (by simp <;> omega) _ | with_reducible refine Below.drew ?_)
  have x0x5 : Blk w5 (w4.heap.size) 29 #[.int .i64 C0, .int .i64 R0, .slice (some ⟨Bx0, 0, none⟩) n0 n0] := by rw [← hW5]; exact Blk.new w4 29 #[.int .i64 C0, .int .i64 R0, .slice (some ⟨Bx0, 0, none⟩) n0 n0]
  clear hW5
  have D5 := D4.trans (H5.mono D4.size)
  have z5 := H5.size
  have Wo5 := Wo4.below H5
  have x0o5 := x0o4.below H5
  have a0x5 := blk_step a0x4 H5
  have a3x5 := blk_step a3x4 H5
  have W0x5 := blk_step W0x4 H5
  clear a0f4_0 a0f4_1 a0f4_2
  have a0f5_0 : w5.cell? ⟨w.heap.size, 0, none⟩ = some (.int .i64 C0) := a0x5.cell 0
  have a0f5_1 : w5.cell? ⟨w.heap.size, 1, none⟩ = some (.int .i64 R0) := a0x5.cell 1
  have a0f5_2 : w5.cell? ⟨w.heap.size, 2, none⟩ = some (.slice A0 n0 c0) := a0x5.cell 2
  clear a0l4
  have a0l5 := a0x5.lt
  clear a3f4_0 a3f4_1
  have a3f5_0 : w5.cell? ⟨w.heap.size + 1, 0, none⟩ = some (.int .i64 x3_0) := a3x5.cell 0
  have a3f5_1 : w5.cell? ⟨w.heap.size + 1, 1, none⟩ = some (.int .i64 x3_1) := a3x5.cell 1
  clear a3l4
  have a3l5 := a3x5.lt
  clear W0f4_0 W0f4_1 W0f4_2
  have W0f5_0 : w5.cell? ⟨BW0, 0, none⟩ = some (.int .i64 (mMoveMeshPointA C0 R0 n0 l0 x1 x2 x3_0 x3_1)) := W0x5.cell 0
  have W0f5_1 : w5.cell? ⟨BW0, 1, none⟩ = some (.int .i64 (mMoveMeshPointB C0 R0 n0 l0 x1 x2 x3_0 x3_1)) := W0x5.cell 1
  have W0f5_2 : w5.cell? ⟨BW0, 2, none⟩ = some (.slice AW (mMoveMeshPointN C0 R0 n0 l0 x1 x2 x3_0 x3_1) cW) := W0x5.cell 2
  clear W0l4
  have W0l5 := W0x5.lt
  have x0f5_0 : w5.cell? ⟨w4.heap.size, 0, none⟩ = some (.int .i64 C0) := x0x5.cell 0
  have x0f5_1 : w5.cell? ⟨w4.heap.size, 1, none⟩ = some (.int .i64 R0) := x0x5.cell 1
  have x0f5_2 : w5.cell? ⟨w4.heap.size, 2, none⟩ = some (.slice (some ⟨Bx0, 0, none⟩) n0 n0) := x0x5.cell 2
  have x0l5 := x0x5.lt
  go_cut [13, 14] (fun s13 s14 wr => (∃ (BG0 : Nat), ∃ (AG : Option Addr) (cG : Nat), s13 = .pointer (some ⟨BG0, 0, none⟩) ∧ s14 = .int .i64 (mMoveMeshPointC C0 R0 n0 l0 x1 x2 x3_0 x3_1) ∧ Blk wr BG0 29 #[.int .i64 (mMoveMeshPointA C0 R0 n0 l0 x1 x2 x3_0 x3_1), .int .i64 (mMoveMeshPointB C0 R0 n0 l0 x1 x2 x3_0 x3_1), .slice AG (mMoveMeshPointN C0 R0 n0 l0 x1 x2 x3_0 x3_1) cG] ∧ Own wr w5.heap.size 39 2 AG (mMoveMeshPointN C0 R0 n0 l0 x1 x2 x3_0 x3_1) (SpotC (mMoveMeshPointL C0 R0 n0 l0 x1 x2 x3_0 x3_1)) ∧ (AG = none → cG = 0)) ∧ Below w5.heap.size w5 wr)
  case first =>
    have ks : ∀ w' : World, Below w5.heap.size w5 w' → w'.cell? ⟨w.heap.size + 1, 0, none⟩ = some (.int .i64 x3_0) ∧ w'.cell? ⟨w.heap.size + 1, 1, none⟩ = some (.int .i64 x3_1) ∧ w'.cell? ⟨BW0, 0, none⟩ = some (.int .i64 (mMoveMeshPointA C0 R0 n0 l0 x1 x2 x3_0 x3_1)) ∧ w'.cell? ⟨BW0, 1, none⟩ = some (.int .i64 (mMoveMeshPointB C0 R0 n0 l0 x1 x2 x3_0 x3_1)) ∧ w'.cell? ⟨BW0, 2, none⟩ = some (.slice AW (mMoveMeshPointN C0 R0 n0 l0 x1 x2 x3_0 x3_1) cW) ∧ w'.cell? ⟨w4.heap.size, 0, none⟩ = some (.int .i64 C0) ∧ w'.cell? ⟨w4.heap.size, 1, none⟩ = some (.int .i64 R0) ∧ w'.cell? ⟨w4.heap.size, 2, none⟩ = some (.slice (some ⟨Bx0, 0, none⟩) n0 n0) := fun w' h => ⟨(Blk.below a3x5 h a3x5.lt).cell 0, (Blk.below a3x5 h a3x5.lt).cell 1, (Blk.below W0x5 h W0x5.lt).cell 0, (Blk.below W0x5 h W0x5.lt).cell 1, (Blk.below W0x5 h W0x5.lt).cell 2, (Blk.below x0x5 h x0x5.lt).cell 0, (Blk.below x0x5 h x0x5.lt).cell 1, (Blk.below x0x5 h x0x5.lt).cell 2⟩
    have KS := Lib.hid ks
    clear ks
    go_region_held3 (fun w' => w'.cell? ⟨w.heap.size + 1, 0, none⟩ = some (.int .i64 x3_0) ∧ w'.cell? ⟨w.heap.size + 1, 1, none⟩ = some (.int .i64 x3_1) ∧ w'.cell? ⟨BW0, 0, none⟩ = some (.int .i64 (mMoveMeshPointA C0 R0 n0 l0 x1 x2 x3_0 x3_1)) ∧ w'.cell? ⟨BW0, 1, none⟩ = some (.int .i64 (mMoveMeshPointB C0 R0 n0 l0 x1 x2 x3_0 x3_1)) ∧ w'.cell? ⟨BW0, 2, none⟩ = some (.slice AW (mMoveMeshPointN C0 R0 n0 l0 x1 x2 x3_0 x3_1) cW) ∧ w'.cell? ⟨w4.heap.size, 0, none⟩ = some (.int .i64 C0) ∧ w'.cell? ⟨w4.heap.size, 1, none⟩ = some (.int .i64 R0) ∧ w'.cell? ⟨w4.heap.size, 2, none⟩ = some (.slice (some ⟨Bx0, 0, none⟩) n0 n0))
      (exact KS.out _ (by repeat (first | with_reducible exact Below.refl _ _ | with_reducible assumption | with_reducible refine Below.setCell ?_ (by first | omega | (simp <;> omega)) _ | with_reducible refine Below.alloc ?_ (by first | omega | (simp <;> omega)) _ | with_reducible refine Below.drew ?_)))
      (first
      | (go_at_call_of 39 x3_0; refine (toSpot_any x3_0 x3_1 _).mono ?_; rintro e v1_0 ⟨rfl, F1_0⟩; have E1_0 : Below w5.heap.size w5 v1_0 := below_then (by repeat (first | with_reducible exact Below.refl _ _ | with_reducible assumption | with_reducible refine Below.setCell ?_ (by first | omega | (simp <;> omega)) _ | with_reducible refine Below.alloc ?_ (by first | omega | (simp <;> omega)) _ | with_reducible refine Below.drew ?_)) F1_0; have DD1_0 := D5.trans (E1_0.mono D5.size); have ES1_0 := E1_0.size; (try replace oy1 := (oy1.below (by repeat (first | with_reducible exact Below.refl _ _ | with_reducible assumption | with_reducible refine Below.setCell ?_ (by first | omega | (simp <;> omega)) _ | with_reducible refine Below.alloc ?_ (by first | omega | (simp <;> omega)) _ | with_reducible refine Below.drew ?_))).below F1_0); have a0y0 := blk_then a0x5 (by repeat (first | with_reducible exact Below.refl _ _ | with_reducible assumption | with_reducible refine Below.setCell ?_ (by first | omega | (simp <;> omega)) _ | with_reducible refine Below.alloc ?_ (by first | omega | (simp <;> omega)) _ | with_reducible refine Below.drew ?_)) F1_0; have a0y0_0 : v1_0.cell? ⟨w.heap.size, 0, none⟩ = some (.int .i64 C0) := a0y0.cell 0; have a0y0_1 : v1_0.cell? ⟨w.heap.size, 1, none⟩ = some (.int .i64 R0) := a0y0.cell 1; have a0y0_2 : v1_0.cell? ⟨w.heap.size, 2, none⟩ = some (.slice A0 n0 c0) := a0y0.cell 2; have a0y0_l := a0y0.lt; have a3y0 := blk_then a3x5 (by repeat (first | with_reducible exact Below.refl _ _ | with_reducible assumption | with_reducible refine Below.setCell ?_ (by first | omega | (simp <;> omega)) _ | with_reducible refine Below.alloc ?_ (by first | omega | (simp <;> omega)) _ | with_reducible refine Below.drew ?_)) F1_0; have a3y0_0 : v1_0.cell? ⟨w.heap.size + 1, 0, none⟩ = some (.int .i64 x3_0) := a3y0.cell 0; have a3y0_1 : v1_0.cell? ⟨w.heap.size + 1, 1, none⟩ = some (.int .i64 x3_1) := a3y0.cell 1; have a3y0_l := a3y0.lt; have W0y0 := blk_then W0x5 (by repeat (first | with_reducible exact Below.refl _ _ | with_reducible assumption | with_reducible refine Below.setCell ?_ (by first | omega | (simp <;> omega)) _ | with_reducible refine Below.alloc ?_ (by first | omega | (simp <;> omega)) _ | with_reducible refine Below.drew ?_)) F1_0; have W0y0_0 : v1_0.cell? ⟨BW0, 0, none⟩ = some (.int .i64 (mMoveMeshPointA C0 R0 n0 l0 x1 x2 x3_0 x3_1)) := W0y0.cell 0; have W0y0_1 : v1_0.cell? ⟨BW0, 1, none⟩ = some (.int .i64 (mMoveMeshPointB C0 R0 n0 l0 x1 x2 x3_0 x3_1)) := W0y0.cell 1; have W0y0_2 : v1_0.cell? ⟨BW0, 2, none⟩ = some (.slice AW (mMoveMeshPointN C0 R0 n0 l0 x1 x2 x3_0 x3_1) cW) := W0y0.cell 2; have W0y0_l := W0y0.lt; have x0y0 := blk_then x0x5 (by repeat (first | with_reducible exact Below.refl _ _ | with_reducible assumption | with_reducible refine Below.setCell ?_ (by first | omega | (simp <;> omega)) _ | with_reducible refine Below.alloc ?_ (by first | omega | (simp <;> omega)) _ | with_reducible refine Below.drew ?_)) F1_0; have x0y0_0 : v1_0.cell? ⟨w4.heap.size, 0, none⟩ = some (.int .i64 C0) := x0y0.cell 0; have x0y0_1 : v1_0.cell? ⟨w4.heap.size, 1, none⟩ = some (.int .i64 R0) := x0y0.cell 1; have x0y0_2 : v1_0.cell? ⟨w4.heap.size, 2, none⟩ = some (.slice (some ⟨Bx0, 0, none⟩) n0 n0) := x0y0.cell 2; have x0y0_l := x0y0.lt; (first | (with_reducible have zx1_0 := made_step F1_0) | (with_reducible have zx1_0 := made_step' F1_0) | (replace zx1_0 := blk_then zx1_0 (by repeat (first | with_reducible exact Below.refl _ _ | with_reducible assumption | with_reducible refine Below.setCell ?_ (by first | omega | (simp <;> omega)) _ | with_reducible refine Below.alloc ?_ (by first | omega | (simp <;> omega)) _ | with_reducible refine Below.drew ?_)) F1_0) | skip); (try have zf1_0_0 := zx1_0.cell 0); (try have zf1_0_1 := zx1_0.cell 1); (try have zf1_0_2 := zx1_0.cell 2); (try have zg1_0_0 := zx1_0.frozen 0); (try have zg1_0_1 := zx1_0.frozen 1); (try have zg1_0_2 := zx1_0.frozen 2); (try have zl1_0 := zx1_0.lt))
      | (go_at_call 40; refine (implMoveMeshPoint_any C0 R0 _ n0 _ l0 x1 x2 x3_0 x3_1 _ m0 (x0o5.below (by repeat (first | with_reducible exact Below.refl _ _ | with_reducible assumption | with_reducible refine Below.setCell ?_ (by first | omega | (simp <;> omega)) _ | with_reducible refine Below.alloc ?_ (by first | omega | (simp <;> omega)) _ | with_reducible refine Below.drew ?_))).sl g0 y1 y2 y3_0 y3_1).mono ?_; rintro e v1_1 ⟨⟨AG, cG, rfl, oG, iG⟩, F1_1⟩; have E1_1 : Below w5.heap.size w5 v1_1 := below_then (by repeat (first | with_reducible exact Below.refl _ _ | with_reducible assumption | with_reducible refine Below.setCell ?_ (by first | omega | (simp <;> omega)) _ | with_reducible refine Below.alloc ?_ (by first | omega | (simp <;> omega)) _ | with_reducible refine Below.drew ?_)) F1_1; have DD1_1 := D5.trans (E1_1.mono D5.size); have ES1_1 := E1_1.size; have oy1 := oG.mono (base' := w5.heap.size) (by first | omega | (simp <;> omega)); have a0y1 := blk_then a0x5 (by repeat (first | with_reducible exact Below.refl _ _ | with_reducible assumption | with_reducible refine Below.setCell ?_ (by first | omega | (simp <;> omega)) _ | with_reducible refine Below.alloc ?_ (by first | omega | (simp <;> omega)) _ | with_reducible refine Below.drew ?_)) F1_1; have a0y1_0 : v1_1.cell? ⟨w.heap.size, 0, none⟩ = some (.int .i64 C0) := a0y1.cell 0; have a0y1_1 : v1_1.cell? ⟨w.heap.size, 1, none⟩ = some (.int .i64 R0) := a0y1.cell 1; have a0y1_2 : v1_1.cell? ⟨w.heap.size, 2, none⟩ = some (.slice A0 n0 c0) := a0y1.cell 2; have a0y1_l := a0y1.lt; have a3y1 := blk_then a3x5 (by repeat (first | with_reducible exact Below.refl _ _ | with_reducible assumption | with_reducible refine Below.setCell ?_ (by first | omega | (simp <;> omega)) _ | with_reducible refine Below.alloc ?_ (by first | omega | (simp <;> omega)) _ | with_reducible refine Below.drew ?_)) F1_1; have a3y1_0 : v1_1.cell? ⟨w.heap.size + 1, 0, none⟩ = some (.int .i64 x3_0) := a3y1.cell 0; have a3y1_1 : v1_1.cell? ⟨w.heap.size + 1, 1, none⟩ = some (.int .i64 x3_1) := a3y1.cell 1; have a3y1_l := a3y1.lt; have W0y1 := blk_then W0x5 (by repeat (first | with_reducible exact Below.refl _ _ | with_reducible assumption | with_reducible refine Below.setCell ?_ (by first | omega | (simp <;> omega)) _ | with_reducible refine Below.alloc ?_ (by first | omega | (simp <;> omega)) _ | with_reducible refine Below.drew ?_)) F1_1; have W0y1_0 : v1_1.cell? ⟨BW0, 0, none⟩ = some (.int .i64 (mMoveMeshPointA C0 R0 n0 l0 x1 x2 x3_0 x3_1)) := W0y1.cell 0; have W0y1_1 : v1_1.cell? ⟨BW0, 1, none⟩ = some (.int .i64 (mMoveMeshPointB C0 R0 n0 l0 x1 x2 x3_0 x3_1)) := W0y1.cell 1; have W0y1_2 : v1_1.cell? ⟨BW0, 2, none⟩ = some (.slice AW (mMoveMeshPointN C0 R0 n0 l0 x1 x2 x3_0 x3_1) cW) := W0y1.cell 2; have W0y1_l := W0y1.lt; have x0y1 := blk_then x0x5 (by repeat (first | with_reducible exact Below.refl _ _ | with_reducible assumption | with_reducible refine Below.setCell ?_ (by first | omega | (simp <;> omega)) _ | with_reducible refine Below.alloc ?_ (by first | omega | (simp <;> omega)) _ | with_reducible refine Below.drew ?_)) F1_1; have x0y1_0 : v1_1.cell? ⟨w4.heap.size, 0, none⟩ = some (.int .i64 C0) := x0y1.cell 0; have x0y1_1 : v1_1.cell? ⟨w4.heap.size, 1, none⟩ = some (.int .i64 R0) := x0y1.cell 1; have x0y1_2 : v1_1.cell? ⟨w4.heap.size, 2, none⟩ = some (.slice (some ⟨Bx0, 0, none⟩) n0 n0) := x0y1.cell 2; have x0y1_l := x0y1.lt; (first | (with_reducible have zx1_0 := made_step F1_1) | (with_reducible have zx1_0 := made_step' F1_1) | (replace zx1_0 := blk_then zx1_0 (by repeat (first | with_reducible exact Below.refl _ _ | with_reducible assumption | with_reducible refine Below.setCell ?_ (by first | omega | (simp <;> omega)) _ | with_reducible refine Below.alloc ?_ (by first | omega | (simp <;> omega)) _ | with_reducible refine Below.drew ?_)) F1_1) | skip); (try have zf1_0_0 := zx1_0.cell 0); (try have zf1_0_1 := zx1_0.cell 1); (try have zf1_0_2 := zx1_0.cell 2); (try have zg1_0_0 := zx1_0.frozen 0); (try have zg1_0_1 := zx1_0.frozen 1); (try have zg1_0_2 := zx1_0.frozen 2); (try have zl1_0 := zx1_0.lt)))
    all_goals (try go_wp2_with fail)
    all_goals (go_meet; refine ⟨⟨_, AG, cG, rfl, rfl, ?b0, ?o, iG⟩, ?e⟩; (case b0 => (first | with_reducible exact Blk.new _ _ _ | exact (((zx1_0.set_ 0 _).set_ 1 _).set_ 2 _))); (case o => (first | with_reducible exact (((oy1.set zx1_0 (by decide) 0 _).set (zx1_0.set_ 0 _) (by decide) 1 _).set ((zx1_0.set_ 0 _).set_ 1 _) (by decide) 2 _) | exact oy1.below (by repeat (first | with_reducible exact Below.refl _ _ | with_reducible assumption | with_reducible refine Below.setCell ?_ (by first | omega | (simp <;> omega)) _ | with_reducible refine Below.alloc ?_ (by first | omega | (simp <;> omega)) _ | with_reducible refine Below.drew ?_)))); (case e => (repeat (first | with_reducible exact Below.refl _ _ | with_reducible assumption | with_reducible refine Below.setCell ?_ (by first | omega | (simp <;> omega)) _ | with_reducible refine Below.alloc ?_ (by first | omega | (simp <;> omega)) _ | with_reducible refine Below.drew ?_))))
  obtain ⟨⟨BG0, AG, cG, rfl, rfl, G0x6, oG, iG⟩, H6⟩ := hcut
  obtain ⟨w6, rfl⟩ : ∃ q : World, q = wc := ⟨_, rfl⟩
  have D6 := D5.trans (H6.mono D5.size)
  have z6 := H6.size
  have Wo6 := Wo5.below H6
  have x0o6 := x0o5.below H6
  have a0x6 := blk_step a0x5 H6
  have a3x6 := blk_step a3x5 H6
  have W0x6 := blk_step W0x5 H6
  have x0x6 := blk_step x0x5 H6
  clear a0f5_0 a0f5_1 a0f5_2
  have a0f6_0 : w6.cell? ⟨w.heap.size, 0, none⟩ = some (.int .i64 C0) := a0x6.cell 0
  have a0f6_1 : w6.cell? ⟨w.heap.size, 1, none⟩ = some (.int .i64 R0) := a0x6.cell 1
  have a0f6_2 : w6.cell? ⟨w.heap.size, 2, none⟩ = some (.slice A0 n0 c0) := a0x6.cell 2
  clear a0l5
  have a0l6 := a0x6.lt
  clear a3f5_0 a3f5_1
  have a3f6_0 : w6.cell? ⟨w.heap.size + 1, 0, none⟩ = some (.int .i64 x3_0) := a3x6.cell 0
  have a3f6_1 : w6.cell? ⟨w.heap.size + 1, 1, none⟩ = some (.int .i64 x3_1) := a3x6.cell 1
  clear a3l5
  have a3l6 := a3x6.lt
  clear W0f5_0 W0f5_1 W0f5_2
  have W0f6_0 : w6.cell? ⟨BW0, 0, none⟩ = some (.int .i64 (mMoveMeshPointA C0 R0 n0 l0 x1 x2 x3_0 x3_1)) := W0x6.cell 0
  have W0f6_1 : w6.cell? ⟨BW0, 1, none⟩ = some (.int .i64 (mMoveMeshPointB C0 R0 n0 l0 x1 x2 x3_0 x3_1)) := W0x6.cell 1
  have W0f6_2 : w6.cell? ⟨BW0, 2, none⟩ = some (.slice AW (mMoveMeshPointN C0 R0 n0 l0 x1 x2 x3_0 x3_1) cW) := W0x6.cell 2
  clear W0l5
  have W0l6 := W0x6.lt
  clear x0f5_0 x0f5_1 x0f5_2
  have x0f6_0 : w6.cell? ⟨w4.heap.size, 0, none⟩ = some (.int .i64 C0) := x0x6.cell 0
  have x0f6_1 : w6.cell? ⟨w4.heap.size, 1, none⟩ = some (.int .i64 R0) := x0x6.cell 1
  have x0f6_2 : w6.cell? ⟨w4.heap.size, 2, none⟩ = some (.slice (some ⟨Bx0, 0, none⟩) n0 n0) := x0x6.cell 2
  clear x0l5
  have x0l6 := x0x6.lt
  have GU := oG.und
  have GO := oG.over
  clear a0f6_0 a0f6_1 a0f6_2
  have a0f6_0 : w6.cell? ⟨w.heap.size, 0, none⟩ = some (.int .i64 C0) := a0x6.cell 0
  have a0f6_1 : w6.cell? ⟨w.heap.size, 1, none⟩ = some (.int .i64 R0) := a0x6.cell 1
  have a0f6_2 : w6.cell? ⟨w.heap.size, 2, none⟩ = some (.slice A0 n0 c0) := a0x6.cell 2
  clear a0l6
  have a0l6 := a0x6.lt
  clear a3f6_0 a3f6_1
  have a3f6_0 : w6.cell? ⟨w.heap.size + 1, 0, none⟩ = some (.int .i64 x3_0) := a3x6.cell 0
  have a3f6_1 : w6.cell? ⟨w.heap.size + 1, 1, none⟩ = some (.int .i64 x3_1) := a3x6.cell 1
  clear a3l6
  have a3l6 := a3x6.lt
  clear W0f6_0 W0f6_1 W0f6_2
  have W0f6_0 : w6.cell? ⟨BW0, 0, none⟩ = some (.int .i64 (mMoveMeshPointA C0 R0 n0 l0 x1 x2 x3_0 x3_1)) := W0x6.cell 0
  have W0f6_1 : w6.cell? ⟨BW0, 1, none⟩ = some (.int .i64 (mMoveMeshPointB C0 R0 n0 l0 x1 x2 x3_0 x3_1)) := W0x6.cell 1
  have W0f6_2 : w6.cell? ⟨BW0, 2, none⟩ = some (.slice AW (mMoveMeshPointN C0 R0 n0 l0 x1 x2 x3_0 x3_1) cW) := W0x6.cell 2
  clear W0l6
  have W0l6 := W0x6.lt
  clear x0f6_0 x0f6_1 x0f6_2
  have x0f6_0 : w6.cell? ⟨w4.heap.size, 0, none⟩ = some (.int .i64 C0) := x0x6.cell 0
  have x0f6_1 : w6.cell? ⟨w4.heap.size, 1, none⟩ = some (.int .i64 R0) := x0x6.cell 1
  have x0f6_2 : w6.cell? ⟨w4.heap.size, 2, none⟩ = some (.slice (some ⟨Bx0, 0, none⟩) n0 n0) := x0x6.cell 2
  clear x0l6
  have x0l6 := x0x6.lt
  have G0f6_0 : w6.cell? ⟨BG0, 0, none⟩ = some (.int .i64 (mMoveMeshPointA C0 R0 n0 l0 x1 x2 x3_0 x3_1)) := G0x6.cell 0
  have G0f6_1 : w6.cell? ⟨BG0, 1, none⟩ = some (.int .i64 (mMoveMeshPointB C0 R0 n0 l0 x1 x2 x3_0 x3_1)) := G0x6.cell 1
  have G0f6_2 : w6.cell? ⟨BG0, 2, none⟩ = some (.slice AG (mMoveMeshPointN C0 R0 n0 l0 x1 x2 x3_0 x3_1) cG) := G0x6.cell 2
  have G0l6 := G0x6.lt
  go_wp2_with fail
  refine (eqMesh_yes (mMoveMeshPointA C0 R0 n0 l0 x1 x2 x3_0 x3_1) (mMoveMeshPointB C0 R0 n0 l0 x1 x2 x3_0 x3_1) _ _ (mMoveMeshPointN C0 R0 n0 l0 x1 x2 x3_0 x3_1) _ _ (mMoveMeshPointL C0 R0 n0 l0 x1 x2 x3_0 x3_1) _ (by omega) oG.sl Wo6.sl).mono ?_
  rintro e w7 ⟨rfl, H7⟩
  have D7 := D6.trans (H7.mono D6.size)
  have z7 := H7.size
  have Wo7 := Wo6.below H7
  have x0o7 := x0o6.below H7
  have Go7 := oG.below H7
  have a0x7 := blk_step a0x6 H7
  have a3x7 := blk_step a3x6 H7
  have W0x7 := blk_step W0x6 H7
  have x0x7 := blk_step x0x6 H7
  have G0x7 := blk_step G0x6 H7
  clear a0f6_0 a0f6_1 a0f6_2
  have a0f7_0 : w7.cell? ⟨w.heap.size, 0, none⟩ = some (.int .i64 C0) := a0x7.cell 0
  have a0f7_1 : w7.cell? ⟨w.heap.size, 1, none⟩ = some (.int .i64 R0) := a0x7.cell 1
  have a0f7_2 : w7.cell? ⟨w.heap.size, 2, none⟩ = some (.slice A0 n0 c0) := a0x7.cell 2
  clear a0l6
  have a0l7 := a0x7.lt
  clear a3f6_0 a3f6_1
  have a3f7_0 : w7.cell? ⟨w.heap.size + 1, 0, none⟩ = some (.int .i64 x3_0) := a3x7.cell 0
  have a3f7_1 : w7.cell? ⟨w.heap.size + 1, 1, none⟩ = some (.int .i64 x3_1) := a3x7.cell 1
  clear a3l6
  have a3l7 := a3x7.lt
  clear W0f6_0 W0f6_1 W0f6_2
  have W0f7_0 : w7.cell? ⟨BW0, 0, none⟩ = some (.int .i64 (mMoveMeshPointA C0 R0 n0 l0 x1 x2 x3_0 x3_1)) := W0x7.cell 0
  have W0f7_1 : w7.cell? ⟨BW0, 1, none⟩ = some (.int .i64 (mMoveMeshPointB C0 R0 n0 l0 x1 x2 x3_0 x3_1)) := W0x7.cell 1
  have W0f7_2 : w7.cell? ⟨BW0, 2, none⟩ = some (.slice AW (mMoveMeshPointN C0 R0 n0 l0 x1 x2 x3_0 x3_1) cW) := W0x7.cell 2
  clear W0l6
  have W0l7 := W0x7.lt
  clear x0f6_0 x0f6_1 x0f6_2
  have x0f7_0 : w7.cell? ⟨w4.heap.size, 0, none⟩ = some (.int .i64 C0) := x0x7.cell 0
  have x0f7_1 : w7.cell? ⟨w4.heap.size, 1, none⟩ = some (.int .i64 R0) := x0x7.cell 1
  have x0f7_2 : w7.cell? ⟨w4.heap.size, 2, none⟩ = some (.slice (some ⟨Bx0, 0, none⟩) n0 n0) := x0x7.cell 2
  clear x0l6
  have x0l7 := x0x7.lt
  clear G0f6_0 G0f6_1 G0f6_2
  have G0f7_0 : w7.cell? ⟨BG0, 0, none⟩ = some (.int .i64 (mMoveMeshPointA C0 R0 n0 l0 x1 x2 x3_0 x3_1)) := G0x7.cell 0
  have G0f7_1 : w7.cell? ⟨BG0, 1, none⟩ = some (.int .i64 (mMoveMeshPointB C0 R0 n0 l0 x1 x2 x3_0 x3_1)) := G0x7.cell 1
  have G0f7_2 : w7.cell? ⟨BG0, 2, none⟩ = some (.slice AG (mMoveMeshPointN C0 R0 n0 l0 x1 x2 x3_0 x3_1) cG) := G0x7.cell 2
  clear G0l6
  have G0l7 := G0x7.lt
  go_wp2_with fail
  go_cut [59] (fun s59 wr => s59 = .bool false ∧ Below w7.heap.size w7 wr)
  case first =>
    have ks : ∀ w' : World, Below w7.heap.size w7 w' → w'.cell? ⟨w.heap.size, 0, none⟩ = some (.int .i64 C0) ∧ w'.cell? ⟨w.heap.size, 1, none⟩ = some (.int .i64 R0) ∧ w'.cell? ⟨w.heap.size, 2, none⟩ = some (.slice A0 n0 c0) ∧ w'.cell? ⟨BW0, 0, none⟩ = some (.int .i64 (mMoveMeshPointA C0 R0 n0 l0 x1 x2 x3_0 x3_1)) ∧ w'.cell? ⟨BW0, 1, none⟩ = some (.int .i64 (mMoveMeshPointB C0 R0 n0 l0 x1 x2 x3_0 x3_1)) ∧ w'.cell? ⟨BW0, 2, none⟩ = some (.slice AW (mMoveMeshPointN C0 R0 n0 l0 x1 x2 x3_0 x3_1) cW) ∧ w'.cell? ⟨w4.heap.size, 0, none⟩ = some (.int .i64 C0) ∧ w'.cell? ⟨w4.heap.size, 1, none⟩ = some (.int .i64 R0) ∧ w'.cell? ⟨w4.heap.size, 2, none⟩ = some (.slice (some ⟨Bx0, 0, none⟩) n0 n0) ∧ w'.cell? ⟨BG0, 0, none⟩ = some (.int .i64 (mMoveMeshPointA C0 R0 n0 l0 x1 x2 x3_0 x3_1)) ∧ w'.cell? ⟨BG0, 1, none⟩ = some (.int .i64 (mMoveMeshPointB C0 R0 n0 l0 x1 x2 x3_0 x3_1)) ∧ w'.cell? ⟨BG0, 2, none⟩ = some (.slice AG (mMoveMeshPointN C0 R0 n0 l0 x1 x2 x3_0 x3_1) cG) := fun w' h => ⟨(Blk.below a0x7 h a0x7.lt).cell 0, (Blk.below a0x7 h a0x7.lt).cell 1, (Blk.below a0x7 h a0x7.lt).cell 2, (Blk.below W0x7 h W0x7.lt).cell 0, (Blk.below W0x7 h W0x7.lt).cell 1, (Blk.below W0x7 h W0x7.lt).cell 2, (Blk.below x0x7 h x0x7.lt).cell 0, (Blk.below x0x7 h x0x7.lt).cell 1, (Blk.below x0x7 h x0x7.lt).cell 2, (Blk.below G0x7 h G0x7.lt).cell 0, (Blk.below G0x7 h G0x7.lt).cell 1, (Blk.below G0x7 h G0x7.lt).cell 2⟩
    have KS := Lib.hid ks
    clear ks
    go_region_held3 (fun w' => w'.cell? ⟨w.heap.size, 0, none⟩ = some (.int .i64 C0) ∧ w'.cell? ⟨w.heap.size, 1, none⟩ = some (.int .i64 R0) ∧ w'.cell? ⟨w.heap.size, 2, none⟩ = some (.slice A0 n0 c0) ∧ w'.cell? ⟨BW0, 0, none⟩ = some (.int .i64 (mMoveMeshPointA C0 R0 n0 l0 x1 x2 x3_0 x3_1)) ∧ w'.cell? ⟨BW0, 1, none⟩ = some (.int .i64 (mMoveMeshPointB C0 R0 n0 l0 x1 x2 x3_0 x3_1)) ∧ w'.cell? ⟨BW0, 2, none⟩ = some (.slice AW (mMoveMeshPointN C0 R0 n0 l0 x1 x2 x3_0 x3_1) cW) ∧ w'.cell? ⟨w4.heap.size, 0, none⟩ = some (.int .i64 C0) ∧ w'.cell? ⟨w4.heap.size, 1, none⟩ = some (.int .i64 R0) ∧ w'.cell? ⟨w4.heap.size, 2, none⟩ = some (.slice (some ⟨Bx0, 0, none⟩) n0 n0) ∧ w'.cell? ⟨BG0, 0, none⟩ = some (.int .i64 (mMoveMeshPointA C0 R0 n0 l0 x1 x2 x3_0 x3_1)) ∧ w'.cell? ⟨BG0, 1, none⟩ = some (.int .i64 (mMoveMeshPointB C0 R0 n0 l0 x1 x2 x3_0 x3_1)) ∧ w'.cell? ⟨BG0, 2, none⟩ = some (.slice AG (mMoveMeshPointN C0 R0 n0 l0 x1 x2 x3_0 x3_1) cG))
      (exact KS.out _ (by repeat (first | with_reducible exact Below.refl _ _ | with_reducible assumption | with_reducible refine Below.setCell ?_ (by first | omega | (simp <;> omega)) _ | with_reducible refine Below.alloc ?_ (by first | omega | (simp <;> omega)) _ | with_reducible refine Below.drew ?_)))
      (first
      | (go_at_call 17; refine (toMesh_any C0 R0 A0 n0 c0 l0 _ m0 (s0.below (by repeat (first | with_reducible exact Below.refl _ _ | with_reducible assumption | with_reducible refine Below.setCell ?_ (by first | omega | (simp <;> omega)) _ | with_reducible refine Below.alloc ?_ (by first | omega | (simp <;> omega)) _ | with_reducible refine Below.drew ?_)))).mono ?_; rintro e v2_0 ⟨⟨Be2, rfl, he2, te2⟩, F2_0⟩; have E2_0 : Below w7.heap.size w7 v2_0 := below_then (by repeat (first | with_reducible exact Below.refl _ _ | with_reducible assumption | with_reducible refine Below.setCell ?_ (by first | omega | (simp <;> omega)) _ | with_reducible refine Below.alloc ?_ (by first | omega | (simp <;> omega)) _ | with_reducible refine Below.drew ?_)) F2_0; have DD2_0 := D7.trans (E2_0.mono D7.size); have ES2_0 := E2_0.size; have Oe2 := Own.blk (size := 2) te2 (Nat.zero_le _) (Nat.le_refl (n0 * 2)) (fun _ _ => rfl); have a0y0 := blk_then a0x7 (by repeat (first | with_reducible exact Below.refl _ _ | with_reducible assumption | with_reducible refine Below.setCell ?_ (by first | omega | (simp <;> omega)) _ | with_reducible refine Below.alloc ?_ (by first | omega | (simp <;> omega)) _ | with_reducible refine Below.drew ?_)) F2_0; have a0y0_0 : v2_0.cell? ⟨w.heap.size, 0, none⟩ = some (.int .i64 C0) := a0y0.cell 0; have a0y0_1 : v2_0.cell? ⟨w.heap.size, 1, none⟩ = some (.int .i64 R0) := a0y0.cell 1; have a0y0_2 : v2_0.cell? ⟨w.heap.size, 2, none⟩ = some (.slice A0 n0 c0) := a0y0.cell 2; have a0y0_l := a0y0.lt; have a3y0 := blk_then a3x7 (by repeat (first | with_reducible exact Below.refl _ _ | with_reducible assumption | with_reducible refine Below.setCell ?_ (by first | omega | (simp <;> omega)) _ | with_reducible refine Below.alloc ?_ (by first | omega | (simp <;> omega)) _ | with_reducible refine Below.drew ?_)) F2_0; have a3y0_0 : v2_0.cell? ⟨w.heap.size + 1, 0, none⟩ = some (.int .i64 x3_0) := a3y0.cell 0; have a3y0_1 : v2_0.cell? ⟨w.heap.size + 1, 1, none⟩ = some (.int .i64 x3_1) := a3y0.cell 1; have a3y0_l := a3y0.lt; have W0y0 := blk_then W0x7 (by repeat (first | with_reducible exact Below.refl _ _ | with_reducible assumption | with_reducible refine Below.setCell ?_ (by first | omega | (simp <;> omega)) _ | with_reducible refine Below.alloc ?_ (by first | omega | (simp <;> omega)) _ | with_reducible refine Below.drew ?_)) F2_0; have W0y0_0 : v2_0.cell? ⟨BW0, 0, none⟩ = some (.int .i64 (mMoveMeshPointA C0 R0 n0 l0 x1 x2 x3_0 x3_1)) := W0y0.cell 0; have W0y0_1 : v2_0.cell? ⟨BW0, 1, none⟩ = some (.int .i64 (mMoveMeshPointB C0 R0 n0 l0 x1 x2 x3_0 x3_1)) := W0y0.cell 1; have W0y0_2 : v2_0.cell? ⟨BW0, 2, none⟩ = some (.slice AW (mMoveMeshPointN C0 R0 n0 l0 x1 x2 x3_0 x3_1) cW) := W0y0.cell 2; have W0y0_l := W0y0.lt; have x0y0 := blk_then x0x7 (by repeat (first | with_reducible exact Below.refl _ _ | with_reducible assumption | with_reducible refine Below.setCell ?_ (by first | omega | (simp <;> omega)) _ | with_reducible refine Below.alloc ?_ (by first | omega | (simp <;> omega)) _ | with_reducible refine Below.drew ?_)) F2_0; have x0y0_0 : v2_0.cell? ⟨w4.heap.size, 0, none⟩ = some (.int .i64 C0) := x0y0.cell 0; have x0y0_1 : v2_0.cell? ⟨w4.heap.size, 1, none⟩ = some (.int .i64 R0) := x0y0.cell 1; have x0y0_2 : v2_0.cell? ⟨w4.heap.size, 2, none⟩ = some (.slice (some ⟨Bx0, 0, none⟩) n0 n0) := x0y0.cell 2; have x0y0_l := x0y0.lt; have G0y0 := blk_then G0x7 (by repeat (first | with_reducible exact Below.refl _ _ | with_reducible assumption | with_reducible refine Below.setCell ?_ (by first | omega | (simp <;> omega)) _ | with_reducible refine Below.alloc ?_ (by first | omega | (simp <;> omega)) _ | with_reducible refine Below.drew ?_)) F2_0; have G0y0_0 : v2_0.cell? ⟨BG0, 0, none⟩ = some (.int .i64 (mMoveMeshPointA C0 R0 n0 l0 x1 x2 x3_0 x3_1)) := G0y0.cell 0; have G0y0_1 : v2_0.cell? ⟨BG0, 1, none⟩ = some (.int .i64 (mMoveMeshPointB C0 R0 n0 l0 x1 x2 x3_0 x3_1)) := G0y0.cell 1; have G0y0_2 : v2_0.cell? ⟨BG0, 2, none⟩ = some (.slice AG (mMoveMeshPointN C0 R0 n0 l0 x1 x2 x3_0 x3_1) cG) := G0y0.cell 2; have G0y0_l := G0y0.lt)
      | (go_at_call 19; refine (eqMesh_yes C0 R0 _ _ n0 _ _ l0 _ (by omega) (x0o7.below (by repeat (first | with_reducible exact Below.refl _ _ | with_reducible assumption | with_reducible refine Below.setCell ?_ (by first | omega | (simp <;> omega)) _ | with_reducible refine Below.alloc ?_ (by first | omega | (simp <;> omega)) _ | with_reducible refine Below.drew ?_))).sl (Oe2.below (by repeat (first | with_reducible exact Below.refl _ _ | with_reducible assumption | with_reducible refine Below.setCell ?_ (by first | omega | (simp <;> omega)) _ | with_reducible refine Below.alloc ?_ (by first | omega | (simp <;> omega)) _ | with_reducible refine Below.drew ?_))).sl).mono ?_; rintro e v2_1 ⟨rfl, F2_1⟩; have E2_1 : Below w7.heap.size w7 v2_1 := below_then (by repeat (first | with_reducible exact Below.refl _ _ | with_reducible assumption | with_reducible refine Below.setCell ?_ (by first | omega | (simp <;> omega)) _ | with_reducible refine Below.alloc ?_ (by first | omega | (simp <;> omega)) _ | with_reducible refine Below.drew ?_)) F2_1; have DD2_1 := D7.trans (E2_1.mono D7.size); have ES2_1 := E2_1.size; (try replace Oe2 := (Oe2.below (by repeat (first | with_reducible exact Below.refl _ _ | with_reducible assumption | with_reducible refine Below.setCell ?_ (by first | omega | (simp <;> omega)) _ | with_reducible refine Below.alloc ?_ (by first | omega | (simp <;> omega)) _ | with_reducible refine Below.drew ?_))).below F2_1); have a0y1 := blk_then a0x7 (by repeat (first | with_reducible exact Below.refl _ _ | with_reducible assumption | with_reducible refine Below.setCell ?_ (by first | omega | (simp <;> omega)) _ | with_reducible refine Below.alloc ?_ (by first | omega | (simp <;> omega)) _ | with_reducible refine Below.drew ?_)) F2_1; have a0y1_0 : v2_1.cell? ⟨w.heap.size, 0, none⟩ = some (.int .i64 C0) := a0y1.cell 0; have a0y1_1 : v2_1.cell? ⟨w.heap.size, 1, none⟩ = some (.int .i64 R0) := a0y1.cell 1; have a0y1_2 : v2_1.cell? ⟨w.heap.size, 2, none⟩ = some (.slice A0 n0 c0) := a0y1.cell 2; have a0y1_l := a0y1.lt; have a3y1 := blk_then a3x7 (by repeat (first | with_reducible exact Below.refl _ _ | with_reducible assumption | with_reducible refine Below.setCell ?_ (by first | omega | (simp <;> omega)) _ | with_reducible refine Below.alloc ?_ (by first | omega | (simp <;> omega)) _ | with_reducible refine Below.drew ?_)) F2_1; have a3y1_0 : v2_1.cell? ⟨w.heap.size + 1, 0, none⟩ = some (.int .i64 x3_0) := a3y1.cell 0; have a3y1_1 : v2_1.cell? ⟨w.heap.size + 1, 1, none⟩ = some (.int .i64 x3_1) := a3y1.cell 1; have a3y1_l := a3y1.lt; have W0y1 := blk_then W0x7 (by repeat (first | with_reducible exact Below.refl _ _ | with_reducible assumption | with_reducible refine Below.setCell ?_ (by first | omega | (simp <;> omega)) _ | with_reducible refine Below.alloc ?_ (by first | omega | (simp <;> omega)) _ | with_reducible refine Below.drew ?_)) F2_1; have W0y1_0 : v2_1.cell? ⟨BW0, 0, none⟩ = some (.int .i64 (mMoveMeshPointA C0 R0 n0 l0 x1 x2 x3_0 x3_1)) := W0y1.cell 0; have W0y1_1 : v2_1.cell? ⟨BW0, 1, none⟩ = some (.int .i64 (mMoveMeshPointB C0 R0 n0 l0 x1 x2 x3_0 x3_1)) := W0y1.cell 1; have W0y1_2 : v2_1.cell? ⟨BW0, 2, none⟩ = some (.slice AW (mMoveMeshPointN C0 R0 n0 l0 x1 x2 x3_0 x3_1) cW) := W0y1.cell 2; have W0y1_l := W0y1.lt; have x0y1 := blk_then x0x7 (by repeat (first | with_reducible exact Below.refl _ _ | with_reducible assumption | with_reducible refine Below.setCell ?_ (by first | omega | (simp <;> omega)) _ | with_reducible refine Below.alloc ?_ (by first | omega | (simp <;> omega)) _ | with_reducible refine Below.drew ?_)) F2_1; have x0y1_0 : v2_1.cell? ⟨w4.heap.size, 0, none⟩ = some (.int .i64 C0) := x0y1.cell 0; have x0y1_1 : v2_1.cell? ⟨w4.heap.size, 1, none⟩ = some (.int .i64 R0) := x0y1.cell 1; have x0y1_2 : v2_1.cell? ⟨w4.heap.size, 2, none⟩ = some (.slice (some ⟨Bx0, 0, none⟩) n0 n0) := x0y1.cell 2; have x0y1_l := x0y1.lt; have G0y1 := blk_then G0x7 (by repeat (first | with_reducible exact Below.refl _ _ | with_reducible assumption | with_reducible refine Below.setCell ?_ (by first | omega | (simp <;> omega)) _ | with_reducible refine Below.alloc ?_ (by first | omega | (simp <;> omega)) _ | with_reducible refine Below.drew ?_)) F2_1; have G0y1_0 : v2_1.cell? ⟨BG0, 0, none⟩ = some (.int .i64 (mMoveMeshPointA C0 R0 n0 l0 x1 x2 x3_0 x3_1)) := G0y1.cell 0; have G0y1_1 : v2_1.cell? ⟨BG0, 1, none⟩ = some (.int .i64 (mMoveMeshPointB C0 R0 n0 l0 x1 x2 x3_0 x3_1)) := G0y1.cell 1; have G0y1_2 : v2_1.cell? ⟨BG0, 2, none⟩ = some (.slice AG (mMoveMeshPointN C0 R0 n0 l0 x1 x2 x3_0 x3_1) cG) := G0y1.cell 2; have G0y1_l := G0y1.lt))
    all_goals (try go_wp2_with fail)
    all_goals (go_meet; exact ⟨rfl, E2_1⟩)
  obtain ⟨rfl, H8⟩ := hcut
  obtain ⟨w8, rfl⟩ : ∃ q : World, q = wc := ⟨_, rfl⟩
  have D8 := D7.trans (H8.mono D7.size)
  have z8 := H8.size
  have Wo8 := Wo7.below H8
  have x0o8 := x0o7.below H8
  have Go8 := Go7.below H8
  have a0x8 := blk_step a0x7 H8
  have a3x8 := blk_step a3x7 H8
  have W0x8 := blk_step W0x7 H8
  have x0x8 := blk_step x0x7 H8
  have G0x8 := blk_step G0x7 H8
  clear a0f7_0 a0f7_1 a0f7_2
  have a0f8_0 : w8.cell? ⟨w.heap.size, 0, none⟩ = some (.int .i64 C0) := a0x8.cell 0
  have a0f8_1 : w8.cell? ⟨w.heap.size, 1, none⟩ = some (.int .i64 R0) := a0x8.cell 1
  have a0f8_2 : w8.cell? ⟨w.heap.size, 2, none⟩ = some (.slice A0 n0 c0) := a0x8.cell 2
  clear a0l7
  have a0l8 := a0x8.lt
  clear a3f7_0 a3f7_1
  have a3f8_0 : w8.cell? ⟨w.heap.size + 1, 0, none⟩ = some (.int .i64 x3_0) := a3x8.cell 0
  have a3f8_1 : w8.cell? ⟨w.heap.size + 1, 1, none⟩ = some (.int .i64 x3_1) := a3x8.cell 1
  clear a3l7
  have a3l8 := a3x8.lt
  clear W0f7_0 W0f7_1 W0f7_2
  have W0f8_0 : w8.cell? ⟨BW0, 0, none⟩ = some (.int .i64 (mMoveMeshPointA C0 R0 n0 l0 x1 x2 x3_0 x3_1)) := W0x8.cell 0
  have W0f8_1 : w8.cell? ⟨BW0, 1, none⟩ = some (.int .i64 (mMoveMeshPointB C0 R0 n0 l0 x1 x2 x3_0 x3_1)) := W0x8.cell 1
  have W0f8_2 : w8.cell? ⟨BW0, 2, none⟩ = some (.slice AW (mMoveMeshPointN C0 R0 n0 l0 x1 x2 x3_0 x3_1) cW) := W0x8.cell 2
  clear W0l7
  have W0l8 := W0x8.lt
  clear x0f7_0 x0f7_1 x0f7_2
  have x0f8_0 : w8.cell? ⟨w4.heap.size, 0, none⟩ = some (.int .i64 C0) := x0x8.cell 0
  have x0f8_1 : w8.cell? ⟨w4.heap.size, 1, none⟩ = some (.int .i64 R0) := x0x8.cell 1
  have x0f8_2 : w8.cell? ⟨w4.heap.size, 2, none⟩ = some (.slice (some ⟨Bx0, 0, none⟩) n0 n0) := x0x8.cell 2
  clear x0l7
  have x0l8 := x0x8.lt
  clear G0f7_0 G0f7_1 G0f7_2
  have G0f8_0 : w8.cell? ⟨BG0, 0, none⟩ = some (.int .i64 (mMoveMeshPointA C0 R0 n0 l0 x1 x2 x3_0 x3_1)) := G0x8.cell 0
  have G0f8_1 : w8.cell? ⟨BG0, 1, none⟩ = some (.int .i64 (mMoveMeshPointB C0 R0 n0 l0 x1 x2 x3_0 x3_1)) := G0x8.cell 1
  have G0f8_2 : w8.cell? ⟨BG0, 2, none⟩ = some (.slice AG (mMoveMeshPointN C0 R0 n0 l0 x1 x2 x3_0 x3_1) cG) := G0x8.cell 2
  clear G0l7
  have G0l8 := G0x8.lt
  go_wp2_with fail
  refine (markMesh_any C0 R0 _ _ n0 _ 1 (SpotC l0) _ (by omega) (by omega) (by omega) x0o8 (fun h => by cases h)).mono ?_
  rintro e w9 ⟨rfl, G9, x0o9⟩
  have z9 := G9.size
  have Wo9 := Wo8.kept (fun a b ha hb => by have h1 := WU a ha; have h2 := x0O b hb; omega) G9
  have Go9 := Go8.kept (fun a b ha hb => by have h1 := GO a ha; have h2 := x0U b hb; omega) G9
  have a0x9 := blk_kept_own a0x8 x0o8 (by decide) G9
  have a3x9 := blk_kept_own a3x8 x0o8 (by decide) G9
  have W0x9 := blk_kept_own W0x8 x0o8 (by decide) G9
  have x0x9 := blk_kept_own x0x8 x0o8 (by decide) G9
  have G0x9 := blk_kept_own G0x8 x0o8 (by decide) G9
  have D9 := Below.only D8 (fun ad h => by have h1 := x0O ad h; omega) D8.size G9
  clear a0f8_0 a0f8_1 a0f8_2
  have a0f9_0 : w9.cell? ⟨w.heap.size, 0, none⟩ = some (.int .i64 C0) := a0x9.cell 0
  have a0f9_1 : w9.cell? ⟨w.heap.size, 1, none⟩ = some (.int .i64 R0) := a0x9.cell 1
  have a0f9_2 : w9.cell? ⟨w.heap.size, 2, none⟩ = some (.slice A0 n0 c0) := a0x9.cell 2
  clear a0l8
  have a0l9 := a0x9.lt
  clear a3f8_0 a3f8_1
  have a3f9_0 : w9.cell? ⟨w.heap.size + 1, 0, none⟩ = some (.int .i64 x3_0) := a3x9.cell 0
  have a3f9_1 : w9.cell? ⟨w.heap.size + 1, 1, none⟩ = some (.int .i64 x3_1) := a3x9.cell 1
  clear a3l8
  have a3l9 := a3x9.lt
  clear W0f8_0 W0f8_1 W0f8_2
  have W0f9_0 : w9.cell? ⟨BW0, 0, none⟩ = some (.int .i64 (mMoveMeshPointA C0 R0 n0 l0 x1 x2 x3_0 x3_1)) := W0x9.cell 0
  have W0f9_1 : w9.cell? ⟨BW0, 1, none⟩ = some (.int .i64 (mMoveMeshPointB C0 R0 n0 l0 x1 x2 x3_0 x3_1)) := W0x9.cell 1
  have W0f9_2 : w9.cell? ⟨BW0, 2, none⟩ = some (.slice AW (mMoveMeshPointN C0 R0 n0 l0 x1 x2 x3_0 x3_1) cW) := W0x9.cell 2
  clear W0l8
  have W0l9 := W0x9.lt
  clear x0f8_0 x0f8_1 x0f8_2
  have x0f9_0 : w9.cell? ⟨w4.heap.size, 0, none⟩ = some (.int .i64 C0) := x0x9.cell 0
  have x0f9_1 : w9.cell? ⟨w4.heap.size, 1, none⟩ = some (.int .i64 R0) := x0x9.cell 1
  have x0f9_2 : w9.cell? ⟨w4.heap.size, 2, none⟩ = some (.slice (some ⟨Bx0, 0, none⟩) n0 n0) := x0x9.cell 2
  clear x0l8
  have x0l9 := x0x9.lt
  clear G0f8_0 G0f8_1 G0f8_2
  have G0f9_0 : w9.cell? ⟨BG0, 0, none⟩ = some (.int .i64 (mMoveMeshPointA C0 R0 n0 l0 x1 x2 x3_0 x3_1)) := G0x9.cell 0
  have G0f9_1 : w9.cell? ⟨BG0, 1, none⟩ = some (.int .i64 (mMoveMeshPointB C0 R0 n0 l0 x1 x2 x3_0 x3_1)) := G0x9.cell 1
  have G0f9_2 : w9.cell? ⟨BG0, 2, none⟩ = some (.slice AG (mMoveMeshPointN C0 R0 n0 l0 x1 x2 x3_0 x3_1) cG) := G0x9.cell 2
  clear G0l8
  have G0l9 := G0x9.lt
  go_wp2_with fail
  refine (eqMesh_yes (mMoveMeshPointA C0 R0 n0 l0 x1 x2 x3_0 x3_1) (mMoveMeshPointB C0 R0 n0 l0 x1 x2 x3_0 x3_1) _ _ (mMoveMeshPointN C0 R0 n0 l0 x1 x2 x3_0 x3_1) _ _ (mMoveMeshPointL C0 R0 n0 l0 x1 x2 x3_0 x3_1) _ (by omega) Go9.sl Wo9.sl).mono ?_
  rintro e w10 ⟨rfl, H10⟩
  have D10 := D9.trans (H10.mono D9.size)
  have z10 := H10.size
  have Wo10 := Wo9.below H10
  have x0o10 := x0o9.below H10
  have Go10 := Go9.below H10
  have a0x10 := blk_step a0x9 H10
  have a3x10 := blk_step a3x9 H10
  have W0x10 := blk_step W0x9 H10
  have x0x10 := blk_step x0x9 H10
  have G0x10 := blk_step G0x9 H10
  clear a0f9_0 a0f9_1 a0f9_2
  have a0f10_0 : w10.cell? ⟨w.heap.size, 0, none⟩ = some (.int .i64 C0) := a0x10.cell 0
  have a0f10_1 : w10.cell? ⟨w.heap.size, 1, none⟩ = some (.int .i64 R0) := a0x10.cell 1
  have a0f10_2 : w10.cell? ⟨w.heap.size, 2, none⟩ = some (.slice A0 n0 c0) := a0x10.cell 2
  clear a0l9
  have a0l10 := a0x10.lt
  clear a3f9_0 a3f9_1
  have a3f10_0 : w10.cell? ⟨w.heap.size + 1, 0, none⟩ = some (.int .i64 x3_0) := a3x10.cell 0
  have a3f10_1 : w10.cell? ⟨w.heap.size + 1, 1, none⟩ = some (.int .i64 x3_1) := a3x10.cell 1
  clear a3l9
  have a3l10 := a3x10.lt
  clear W0f9_0 W0f9_1 W0f9_2
  have W0f10_0 : w10.cell? ⟨BW0, 0, none⟩ = some (.int .i64 (mMoveMeshPointA C0 R0 n0 l0 x1 x2 x3_0 x3_1)) := W0x10.cell 0
  have W0f10_1 : w10.cell? ⟨BW0, 1, none⟩ = some (.int .i64 (mMoveMeshPointB C0 R0 n0 l0 x1 x2 x3_0 x3_1)) := W0x10.cell 1
  have W0f10_2 : w10.cell? ⟨BW0, 2, none⟩ = some (.slice AW (mMoveMeshPointN C0 R0 n0 l0 x1 x2 x3_0 x3_1) cW) := W0x10.cell 2
  clear W0l9
  have W0l10 := W0x10.lt
  clear x0f9_0 x0f9_1 x0f9_2
  have x0f10_0 : w10.cell? ⟨w4.heap.size, 0, none⟩ = some (.int .i64 C0) := x0x10.cell 0
  have x0f10_1 : w10.cell? ⟨w4.heap.size, 1, none⟩ = some (.int .i64 R0) := x0x10.cell 1
  have x0f10_2 : w10.cell? ⟨w4.heap.size, 2, none⟩ = some (.slice (some ⟨Bx0, 0, none⟩) n0 n0) := x0x10.cell 2
  clear x0l9
  have x0l10 := x0x10.lt
  clear G0f9_0 G0f9_1 G0f9_2
  have G0f10_0 : w10.cell? ⟨BG0, 0, none⟩ = some (.int .i64 (mMoveMeshPointA C0 R0 n0 l0 x1 x2 x3_0 x3_1)) := G0x10.cell 0
  have G0f10_1 : w10.cell? ⟨BG0, 1, none⟩ = some (.int .i64 (mMoveMeshPointB C0 R0 n0 l0 x1 x2 x3_0 x3_1)) := G0x10.cell 1
  have G0f10_2 : w10.cell? ⟨BG0, 2, none⟩ = some (.slice AG (mMoveMeshPointN C0 R0 n0 l0 x1 x2 x3_0 x3_1) cG) := G0x10.cell 2
  clear G0l9
  have G0l10 := G0x10.lt
  clear x0f10_0 x0f10_1 x0f10_2 x0l10
  go_wp2_with fail
  refine (markMesh_any (mMoveMeshPointA C0 R0 n0 l0 x1 x2 x3_0 x3_1) (mMoveMeshPointB C0 R0 n0 l0 x1 x2 x3_0 x3_1) _ _ (mMoveMeshPointN C0 R0 n0 l0 x1 x2 x3_0 x3_1) _ 1 (SpotC (mMoveMeshPointL C0 R0 n0 l0 x1 x2 x3_0 x3_1)) _ (by omega) (by omega) (by omega) Go10 iG).mono ?_
  rintro e w11 ⟨rfl, G11, Go11⟩
  have z11 := G11.size
  have Wo11 := Wo10.kept (fun a b ha hb => by have h1 := WU a ha; have h2 := GO b hb; omega) G11
  have a0x11 := blk_kept_own a0x10 Go10 (by decide) G11
  have a3x11 := blk_kept_own a3x10 Go10 (by decide) G11
  have W0x11 := blk_kept_own W0x10 Go10 (by decide) G11
  have G0x11 := blk_kept_own G0x10 Go10 (by decide) G11
  have D11 := Below.only D10 (fun ad h => by have h1 := GO ad h; omega) D10.size G11
  clear a0f10_0 a0f10_1 a0f10_2
  have a0f11_0 : w11.cell? ⟨w.heap.size, 0, none⟩ = some (.int .i64 C0) := a0x11.cell 0
  have a0f11_1 : w11.cell? ⟨w.heap.size, 1, none⟩ = some (.int .i64 R0) := a0x11.cell 1
  have a0f11_2 : w11.cell? ⟨w.heap.size, 2, none⟩ = some (.slice A0 n0 c0) := a0x11.cell 2
  clear a0l10
  have a0l11 := a0x11.lt
  clear a3f10_0 a3f10_1
  have a3f11_0 : w11.cell? ⟨w.heap.size + 1, 0, none⟩ = some (.int .i64 x3_0) := a3x11.cell 0
  have a3f11_1 : w11.cell? ⟨w.heap.size + 1, 1, none⟩ = some (.int .i64 x3_1) := a3x11.cell 1
  clear a3l10
  have a3l11 := a3x11.lt
  clear W0f10_0 W0f10_1 W0f10_2
  have W0f11_0 : w11.cell? ⟨BW0, 0, none⟩ = some (.int .i64 (mMoveMeshPointA C0 R0 n0 l0 x1 x2 x3_0 x3_1)) := W0x11.cell 0
  have W0f11_1 : w11.cell? ⟨BW0, 1, none⟩ = some (.int .i64 (mMoveMeshPointB C0 R0 n0 l0 x1 x2 x3_0 x3_1)) := W0x11.cell 1
  have W0f11_2 : w11.cell? ⟨BW0, 2, none⟩ = some (.slice AW (mMoveMeshPointN C0 R0 n0 l0 x1 x2 x3_0 x3_1) cW) := W0x11.cell 2
  clear W0l10
  have W0l11 := W0x11.lt
  clear G0f10_0 G0f10_1 G0f10_2
  have G0f11_0 : w11.cell? ⟨BG0, 0, none⟩ = some (.int .i64 (mMoveMeshPointA C0 R0 n0 l0 x1 x2 x3_0 x3_1)) := G0x11.cell 0
  have G0f11_1 : w11.cell? ⟨BG0, 1, none⟩ = some (.int .i64 (mMoveMeshPointB C0 R0 n0 l0 x1 x2 x3_0 x3_1)) := G0x11.cell 1
  have G0f11_2 : w11.cell? ⟨BG0, 2, none⟩ = some (.slice AG (mMoveMeshPointN C0 R0 n0 l0 x1 x2 x3_0 x3_1) cG) := G0x11.cell 2
  clear G0l10
  have G0l11 := G0x11.lt
  go_wp2_with fail
  refine (heldMesh_any (mMoveMeshPointA C0 R0 n0 l0 x1 x2 x3_0 x3_1) (mMoveMeshPointB C0 R0 n0 l0 x1 x2 x3_0 x3_1) _ (mMoveMeshPointN C0 R0 n0 l0 x1 x2 x3_0 x3_1) _ 1 (SpotC (mMoveMeshPointL C0 R0 n0 l0 x1 x2 x3_0 x3_1)) _ (by omega) (by omega) (by omega) Go11.sl).mono ?_
  rintro e w12 ⟨rfl, H12⟩
  have D12 := D11.trans (H12.mono D11.size)
  have z12 := H12.size
  have Wo12 := Wo11.below H12
  have Go12 := Go11.below H12
  have a0x12 := blk_step a0x11 H12
  have a3x12 := blk_step a3x11 H12
  have W0x12 := blk_step W0x11 H12
  have G0x12 := blk_step G0x11 H12
  clear a0f11_0 a0f11_1 a0f11_2
  have a0f12_0 : w12.cell? ⟨w.heap.size, 0, none⟩ = some (.int .i64 C0) := a0x12.cell 0
  have a0f12_1 : w12.cell? ⟨w.heap.size, 1, none⟩ = some (.int .i64 R0) := a0x12.cell 1
  have a0f12_2 : w12.cell? ⟨w.heap.size, 2, none⟩ = some (.slice A0 n0 c0) := a0x12.cell 2
  clear a0l11
  have a0l12 := a0x12.lt
  clear a3f11_0 a3f11_1
  have a3f12_0 : w12.cell? ⟨w.heap.size + 1, 0, none⟩ = some (.int .i64 x3_0) := a3x12.cell 0
  have a3f12_1 : w12.cell? ⟨w.heap.size + 1, 1, none⟩ = some (.int .i64 x3_1) := a3x12.cell 1
  clear a3l11
  have a3l12 := a3x12.lt
  clear W0f11_0 W0f11_1 W0f11_2
  have W0f12_0 : w12.cell? ⟨BW0, 0, none⟩ = some (.int .i64 (mMoveMeshPointA C0 R0 n0 l0 x1 x2 x3_0 x3_1)) := W0x12.cell 0
  have W0f12_1 : w12.cell? ⟨BW0, 1, none⟩ = some (.int .i64 (mMoveMeshPointB C0 R0 n0 l0 x1 x2 x3_0 x3_1)) := W0x12.cell 1
  have W0f12_2 : w12.cell? ⟨BW0, 2, none⟩ = some (.slice AW (mMoveMeshPointN C0 R0 n0 l0 x1 x2 x3_0 x3_1) cW) := W0x12.cell 2
  clear W0l11
  have W0l12 := W0x12.lt
  clear G0f11_0 G0f11_1 G0f11_2
  have G0f12_0 : w12.cell? ⟨BG0, 0, none⟩ = some (.int .i64 (mMoveMeshPointA C0 R0 n0 l0 x1 x2 x3_0 x3_1)) := G0x12.cell 0
  have G0f12_1 : w12.cell? ⟨BG0, 1, none⟩ = some (.int .i64 (mMoveMeshPointB C0 R0 n0 l0 x1 x2 x3_0 x3_1)) := G0x12.cell 1
  have G0f12_2 : w12.cell? ⟨BG0, 2, none⟩ = some (.slice AG (mMoveMeshPointN C0 R0 n0 l0 x1 x2 x3_0 x3_1) cG) := G0x12.cell 2
  clear G0l11
  have G0l12 := G0x12.lt
  go_wp2_with fail
  go_cut [18, 19] (fun s18 s19 wr => (∃ (BH0 : Nat), ∃ (AH : Option Addr) (cH : Nat), s18 = .pointer (some ⟨BH0, 0, none⟩) ∧ s19 = .int .i64 (mMoveMeshPointC C0 R0 n0 l0 x1 x2 x3_0 x3_1) ∧ Blk wr BH0 29 #[.int .i64 (mMoveMeshPointA C0 R0 n0 l0 x1 x2 x3_0 x3_1), .int .i64 (mMoveMeshPointB C0 R0 n0 l0 x1 x2 x3_0 x3_1), .slice AH (mMoveMeshPointN C0 R0 n0 l0 x1 x2 x3_0 x3_1) cH] ∧ Own wr w12.heap.size 39 2 AH (mMoveMeshPointN C0 R0 n0 l0 x1 x2 x3_0 x3_1) (SpotC (mMoveMeshPointL C0 R0 n0 l0 x1 x2 x3_0 x3_1)) ∧ (AH = none → cH = 0)) ∧ Below w12.heap.size w12 wr)
  case first =>
    have ks : ∀ w' : World, Below w12.heap.size w12 w' → w'.cell? ⟨w.heap.size, 0, none⟩ = some (.int .i64 C0) ∧ w'.cell? ⟨w.heap.size, 1, none⟩ = some (.int .i64 R0) ∧ w'.cell? ⟨w.heap.size, 2, none⟩ = some (.slice A0 n0 c0) ∧ w'.cell? ⟨w.heap.size + 1, 0, none⟩ = some (.int .i64 x3_0) ∧ w'.cell? ⟨w.heap.size + 1, 1, none⟩ = some (.int .i64 x3_1) := fun w' h => ⟨(Blk.below a0x12 h a0x12.lt).cell 0, (Blk.below a0x12 h a0x12.lt).cell 1, (Blk.below a0x12 h a0x12.lt).cell 2, (Blk.below a3x12 h a3x12.lt).cell 0, (Blk.below a3x12 h a3x12.lt).cell 1⟩
    have KS := Lib.hid ks
    clear ks
    go_region_held3 (fun w' => w'.cell? ⟨w.heap.size, 0, none⟩ = some (.int .i64 C0) ∧ w'.cell? ⟨w.heap.size, 1, none⟩ = some (.int .i64 R0) ∧ w'.cell? ⟨w.heap.size, 2, none⟩ = some (.slice A0 n0 c0) ∧ w'.cell? ⟨w.heap.size + 1, 0, none⟩ = some (.int .i64 x3_0) ∧ w'.cell? ⟨w.heap.size + 1, 1, none⟩ = some (.int .i64 x3_1))
      (exact KS.out _ (by repeat (first | with_reducible exact Below.refl _ _ | with_reducible assumption | with_reducible refine Below.setCell ?_ (by first | omega | (simp <;> omega)) _ | with_reducible refine Below.alloc ?_ (by first | omega | (simp <;> omega)) _ | with_reducible refine Below.drew ?_)))
      (first
      | (go_at_call_of 17 C0; refine (toMesh_any C0 R0 A0 n0 c0 l0 _ m0 (s0.below (by repeat (first | with_reducible exact Below.refl _ _ | with_reducible assumption | with_reducible refine Below.setCell ?_ (by first | omega | (simp <;> omega)) _ | with_reducible refine Below.alloc ?_ (by first | omega | (simp <;> omega)) _ | with_reducible refine Below.drew ?_)))).mono ?_; rintro e v3_0 ⟨⟨Bu3_0, rfl, hu3_0, tu3_0⟩, F3_0⟩; have E3_0 : Below w12.heap.size w12 v3_0 := below_then (by repeat (first | with_reducible exact Below.refl _ _ | with_reducible assumption | with_reducible refine Below.setCell ?_ (by first | omega | (simp <;> omega)) _ | with_reducible refine Below.alloc ?_ (by first | omega | (simp <;> omega)) _ | with_reducible refine Below.drew ?_)) F3_0; have DD3_0 := D12.trans (E3_0.mono D12.size); have ES3_0 := E3_0.size; (try replace oy3 := (oy3.below (by repeat (first | with_reducible exact Below.refl _ _ | with_reducible assumption | with_reducible refine Below.setCell ?_ (by first | omega | (simp <;> omega)) _ | with_reducible refine Below.alloc ?_ (by first | omega | (simp <;> omega)) _ | with_reducible refine Below.drew ?_))).below F3_0); have Ou3_0 := Own.blk (size := 2) tu3_0 (Nat.zero_le _) (Nat.le_refl (n0 * 2)) (fun _ _ => rfl); have a0y0 := blk_then a0x12 (by repeat (first | with_reducible exact Below.refl _ _ | with_reducible assumption | with_reducible refine Below.setCell ?_ (by first | omega | (simp <;> omega)) _ | with_reducible refine Below.alloc ?_ (by first | omega | (simp <;> omega)) _ | with_reducible refine Below.drew ?_)) F3_0; have a0y0_0 : v3_0.cell? ⟨w.heap.size, 0, none⟩ = some (.int .i64 C0) := a0y0.cell 0; have a0y0_1 : v3_0.cell? ⟨w.heap.size, 1, none⟩ = some (.int .i64 R0) := a0y0.cell 1; have a0y0_2 : v3_0.cell? ⟨w.heap.size, 2, none⟩ = some (.slice A0 n0 c0) := a0y0.cell 2; have a0y0_l := a0y0.lt; have a3y0 := blk_then a3x12 (by repeat (first | with_reducible exact Below.refl _ _ | with_reducible assumption | with_reducible refine Below.setCell ?_ (by first | omega | (simp <;> omega)) _ | with_reducible refine Below.alloc ?_ (by first | omega | (simp <;> omega)) _ | with_reducible refine Below.drew ?_)) F3_0; have a3y0_0 : v3_0.cell? ⟨w.heap.size + 1, 0, none⟩ = some (.int .i64 x3_0) := a3y0.cell 0; have a3y0_1 : v3_0.cell? ⟨w.heap.size + 1, 1, none⟩ = some (.int .i64 x3_1) := a3y0.cell 1; have a3y0_l := a3y0.lt; have W0y0 := blk_then W0x12 (by repeat (first | with_reducible exact Below.refl _ _ | with_reducible assumption | with_reducible refine Below.setCell ?_ (by first | omega | (simp <;> omega)) _ | with_reducible refine Below.alloc ?_ (by first | omega | (simp <;> omega)) _ | with_reducible refine Below.drew ?_)) F3_0; have W0y0_0 : v3_0.cell? ⟨BW0, 0, none⟩ = some (.int .i64 (mMoveMeshPointA C0 R0 n0 l0 x1 x2 x3_0 x3_1)) := W0y0.cell 0; have W0y0_1 : v3_0.cell? ⟨BW0, 1, none⟩ = some (.int .i64 (mMoveMeshPointB C0 R0 n0 l0 x1 x2 x3_0 x3_1)) := W0y0.cell 1; have W0y0_2 : v3_0.cell? ⟨BW0, 2, none⟩ = some (.slice AW (mMoveMeshPointN C0 R0 n0 l0 x1 x2 x3_0 x3_1) cW) := W0y0.cell 2; have W0y0_l := W0y0.lt; have G0y0 := blk_then G0x12 (by repeat (first | with_reducible exact Below.refl _ _ | with_reducible assumption | with_reducible refine Below.setCell ?_ (by first | omega | (simp <;> omega)) _ | with_reducible refine Below.alloc ?_ (by first | omega | (simp <;> omega)) _ | with_reducible refine Below.drew ?_)) F3_0; have G0y0_0 : v3_0.cell? ⟨BG0, 0, none⟩ = some (.int .i64 (mMoveMeshPointA C0 R0 n0 l0 x1 x2 x3_0 x3_1)) := G0y0.cell 0; have G0y0_1 : v3_0.cell? ⟨BG0, 1, none⟩ = some (.int .i64 (mMoveMeshPointB C0 R0 n0 l0 x1 x2 x3_0 x3_1)) := G0y0.cell 1; have G0y0_2 : v3_0.cell? ⟨BG0, 2, none⟩ = some (.slice AG (mMoveMeshPointN C0 R0 n0 l0 x1 x2 x3_0 x3_1) cG) := G0y0.cell 2; have G0y0_l := G0y0.lt; (first | (with_reducible have zx3_0 := made_step F3_0) | (with_reducible have zx3_0 := made_step' F3_0) | (replace zx3_0 := blk_then zx3_0 (by repeat (first | with_reducible exact Below.refl _ _ | with_reducible assumption | with_reducible refine Below.setCell ?_ (by first | omega | (simp <;> omega)) _ | with_reducible refine Below.alloc ?_ (by first | omega | (simp <;> omega)) _ | with_reducible refine Below.drew ?_)) F3_0) | skip); (try have zf3_0_0 := zx3_0.cell 0); (try have zf3_0_1 := zx3_0.cell 1); (try have zf3_0_2 := zx3_0.cell 2); (try have zg3_0_0 := zx3_0.frozen 0); (try have zg3_0_1 := zx3_0.frozen 1); (try have zg3_0_2 := zx3_0.frozen 2); (try have zl3_0 := zx3_0.lt))
      | (go_at_call_of 39 x3_0; refine (toSpot_any x3_0 x3_1 _).mono ?_; rintro e v3_1 ⟨rfl, F3_1⟩; have E3_1 : Below w12.heap.size w12 v3_1 := below_then (by repeat (first | with_reducible exact Below.refl _ _ | with_reducible assumption | with_reducible refine Below.setCell ?_ (by first | omega | (simp <;> omega)) _ | with_reducible refine Below.alloc ?_ (by first | omega | (simp <;> omega)) _ | with_reducible refine Below.drew ?_)) F3_1; have DD3_1 := D12.trans (E3_1.mono D12.size); have ES3_1 := E3_1.size; (try replace Ou3_0 := (Ou3_0.below (by repeat (first | with_reducible exact Below.refl _ _ | with_reducible assumption | with_reducible refine Below.setCell ?_ (by first | omega | (simp <;> omega)) _ | with_reducible refine Below.alloc ?_ (by first | omega | (simp <;> omega)) _ | with_reducible refine Below.drew ?_))).below F3_1); (try replace oy3 := (oy3.below (by repeat (first | with_reducible exact Below.refl _ _ | with_reducible assumption | with_reducible refine Below.setCell ?_ (by first | omega | (simp <;> omega)) _ | with_reducible refine Below.alloc ?_ (by first | omega | (simp <;> omega)) _ | with_reducible refine Below.drew ?_))).below F3_1); have a0y1 := blk_then a0x12 (by repeat (first | with_reducible exact Below.refl _ _ | with_reducible assumption | with_reducible refine Below.setCell ?_ (by first | omega | (simp <;> omega)) _ | with_reducible refine Below.alloc ?_ (by first | omega | (simp <;> omega)) _ | with_reducible refine Below.drew ?_)) F3_1; have a0y1_0 : v3_1.cell? ⟨w.heap.size, 0, none⟩ = some (.int .i64 C0) := a0y1.cell 0; have a0y1_1 : v3_1.cell? ⟨w.heap.size, 1, none⟩ = some (.int .i64 R0) := a0y1.cell 1; have a0y1_2 : v3_1.cell? ⟨w.heap.size, 2, none⟩ = some (.slice A0 n0 c0) := a0y1.cell 2; have a0y1_l := a0y1.lt; have a3y1 := blk_then a3x12 (by repeat (first | with_reducible exact Below.refl _ _ | with_reducible assumption | with_reducible refine Below.setCell ?_ (by first | omega | (simp <;> omega)) _ | with_reducible refine Below.alloc ?_ (by first | omega | (simp <;> omega)) _ | with_reducible refine Below.drew ?_)) F3_1; have a3y1_0 : v3_1.cell? ⟨w.heap.size + 1, 0, none⟩ = some (.int .i64 x3_0) := a3y1.cell 0; have a3y1_1 : v3_1.cell? ⟨w.heap.size + 1, 1, none⟩ = some (.int .i64 x3_1) := a3y1.cell 1; have a3y1_l := a3y1.lt; have W0y1 := blk_then W0x12 (by repeat (first | with_reducible exact Below.refl _ _ | with_reducible assumption | with_reducible refine Below.setCell ?_ (by first | omega | (simp <;> omega)) _ | with_reducible refine Below.alloc ?_ (by first | omega | (simp <;> omega)) _ | with_reducible refine Below.drew ?_)) F3_1; have W0y1_0 : v3_1.cell? ⟨BW0, 0, none⟩ = some (.int .i64 (mMoveMeshPointA C0 R0 n0 l0 x1 x2 x3_0 x3_1)) := W0y1.cell 0; have W0y1_1 : v3_1.cell? ⟨BW0, 1, none⟩ = some (.int .i64 (mMoveMeshPointB C0 R0 n0 l0 x1 x2 x3_0 x3_1)) := W0y1.cell 1; have W0y1_2 : v3_1.cell? ⟨BW0, 2, none⟩ = some (.slice AW (mMoveMeshPointN C0 R0 n0 l0 x1 x2 x3_0 x3_1) cW) := W0y1.cell 2; have W0y1_l := W0y1.lt; have G0y1 := blk_then G0x12 (by repeat (first | with_reducible exact Below.refl _ _ | with_reducible assumption | with_reducible refine Below.setCell ?_ (by first | omega | (simp <;> omega)) _ | with_reducible refine Below.alloc ?_ (by first | omega | (simp <;> omega)) _ | with_reducible refine Below.drew ?_)) F3_1; have G0y1_0 : v3_1.cell? ⟨BG0, 0, none⟩ = some (.int .i64 (mMoveMeshPointA C0 R0 n0 l0 x1 x2 x3_0 x3_1)) := G0y1.cell 0; have G0y1_1 : v3_1.cell? ⟨BG0, 1, none⟩ = some (.int .i64 (mMoveMeshPointB C0 R0 n0 l0 x1 x2 x3_0 x3_1)) := G0y1.cell 1; have G0y1_2 : v3_1.cell? ⟨BG0, 2, none⟩ = some (.slice AG (mMoveMeshPointN C0 R0 n0 l0 x1 x2 x3_0 x3_1) cG) := G0y1.cell 2; have G0y1_l := G0y1.lt; (first | (with_reducible have zx3_0 := made_step F3_1) | (with_reducible have zx3_0 := made_step' F3_1) | (replace zx3_0 := blk_then zx3_0 (by repeat (first | with_reducible exact Below.refl _ _ | with_reducible assumption | with_reducible refine Below.setCell ?_ (by first | omega | (simp <;> omega)) _ | with_reducible refine Below.alloc ?_ (by first | omega | (simp <;> omega)) _ | with_reducible refine Below.drew ?_)) F3_1) | skip); (try have zf3_0_0 := zx3_0.cell 0); (try have zf3_0_1 := zx3_0.cell 1); (try have zf3_0_2 := zx3_0.cell 2); (try have zg3_0_0 := zx3_0.frozen 0); (try have zg3_0_1 := zx3_0.frozen 1); (try have zg3_0_2 := zx3_0.frozen 2); (try have zl3_0 := zx3_0.lt))
      | (go_at_call 40; refine (implMoveMeshPoint_any C0 R0 _ n0 _ l0 x1 x2 x3_0 x3_1 _ m0 (Ou3_0.below (by repeat (first | with_reducible exact Below.refl _ _ | with_reducible assumption | with_reducible refine Below.setCell ?_ (by first | omega | (simp <;> omega)) _ | with_reducible refine Below.alloc ?_ (by first | omega | (simp <;> omega)) _ | with_reducible refine Below.drew ?_))).sl g0 y1 y2 y3_0 y3_1).mono ?_; rintro e v3_2 ⟨⟨AH, cH, rfl, oH, iH⟩, F3_2⟩; have E3_2 : Below w12.heap.size w12 v3_2 := below_then (by repeat (first | with_reducible exact Below.refl _ _ | with_reducible assumption | with_reducible refine Below.setCell ?_ (by first | omega | (simp <;> omega)) _ | with_reducible refine Below.alloc ?_ (by first | omega | (simp <;> omega)) _ | with_reducible refine Below.drew ?_)) F3_2; have DD3_2 := D12.trans (E3_2.mono D12.size); have ES3_2 := E3_2.size; (try replace Ou3_0 := (Ou3_0.below (by repeat (first | with_reducible exact Below.refl _ _ | with_reducible assumption | with_reducible refine Below.setCell ?_ (by first | omega | (simp <;> omega)) _ | with_reducible refine Below.alloc ?_ (by first | omega | (simp <;> omega)) _ | with_reducible refine Below.drew ?_))).below F3_2); have oy3 := oH.mono (base' := w12.heap.size) (by first | omega | (simp <;> omega)); have a0y2 := blk_then a0x12 (by repeat (first | with_reducible exact Below.refl _ _ | with_reducible assumption | with_reducible refine Below.setCell ?_ (by first | omega | (simp <;> omega)) _ | with_reducible refine Below.alloc ?_ (by first | omega | (simp <;> omega)) _ | with_reducible refine Below.drew ?_)) F3_2; have a0y2_0 : v3_2.cell? ⟨w.heap.size, 0, none⟩ = some (.int .i64 C0) := a0y2.cell 0; have a0y2_1 : v3_2.cell? ⟨w.heap.size, 1, none⟩ = some (.int .i64 R0) := a0y2.cell 1; have a0y2_2 : v3_2.cell? ⟨w.heap.size, 2, none⟩ = some (.slice A0 n0 c0) := a0y2.cell 2; have a0y2_l := a0y2.lt; have a3y2 := blk_then a3x12 (by repeat (first | with_reducible exact Below.refl _ _ | with_reducible assumption | with_reducible refine Below.setCell ?_ (by first | omega | (simp <;> omega)) _ | with_reducible refine Below.alloc ?_ (by first | omega | (simp <;> omega)) _ | with_reducible refine Below.drew ?_)) F3_2; have a3y2_0 : v3_2.cell? ⟨w.heap.size + 1, 0, none⟩ = some (.int .i64 x3_0) := a3y2.cell 0; have a3y2_1 : v3_2.cell? ⟨w.heap.size + 1, 1, none⟩ = some (.int .i64 x3_1) := a3y2.cell 1; have a3y2_l := a3y2.lt; have W0y2 := blk_then W0x12 (by repeat (first | with_reducible exact Below.refl _ _ | with_reducible assumption | with_reducible refine Below.setCell ?_ (by first | omega | (simp <;> omega)) _ | with_reducible refine Below.alloc ?_ (by first | omega | (simp <;> omega)) _ | with_reducible refine Below.drew ?_)) F3_2; have W0y2_0 : v3_2.cell? ⟨BW0, 0, none⟩ = some (.int .i64 (mMoveMeshPointA C0 R0 n0 l0 x1 x2 x3_0 x3_1)) := W0y2.cell 0; have W0y2_1 : v3_2.cell? ⟨BW0, 1, none⟩ = some (.int .i64 (mMoveMeshPointB C0 R0 n0 l0 x1 x2 x3_0 x3_1)) := W0y2.cell 1; have W0y2_2 : v3_2.cell? ⟨BW0, 2, none⟩ = some (.slice AW (mMoveMeshPointN C0 R0 n0 l0 x1 x2 x3_0 x3_1) cW) := W0y2.cell 2; have W0y2_l := W0y2.lt; have G0y2 := blk_then G0x12 (by repeat (first | with_reducible exact Below.refl _ _ | with_reducible assumption | with_reducible refine Below.setCell ?_ (by first | omega | (simp <;> omega)) _ | with_reducible refine Below.alloc ?_ (by first | omega | (simp <;> omega)) _ | with_reducible refine Below.drew ?_)) F3_2; have G0y2_0 : v3_2.cell? ⟨BG0, 0, none⟩ = some (.int .i64 (mMoveMeshPointA C0 R0 n0 l0 x1 x2 x3_0 x3_1)) := G0y2.cell 0; have G0y2_1 : v3_2.cell? ⟨BG0, 1, none⟩ = some (.int .i64 (mMoveMeshPointB C0 R0 n0 l0 x1 x2 x3_0 x3_1)) := G0y2.cell 1; have G0y2_2 : v3_2.cell? ⟨BG0, 2, none⟩ = some (.slice AG (mMoveMeshPointN C0 R0 n0 l0 x1 x2 x3_0 x3_1) cG) := G0y2.cell 2; have G0y2_l := G0y2.lt; (first | (with_reducible have zx3_0 := made_step F3_2) | (with_reducible have zx3_0 := made_step' F3_2) | (replace zx3_0 := blk_then zx3_0 (by repeat (first | with_reducible exact Below.refl _ _ | with_reducible assumption | with_reducible refine Below.setCell ?_ (by first | omega | (simp <;> omega)) _ | with_reducible refine Below.alloc ?_ (by first | omega | (simp <;> omega)) _ | with_reducible refine Below.drew ?_)) F3_2) | skip); (try have zf3_0_0 := zx3_0.cell 0); (try have zf3_0_1 := zx3_0.cell 1); (try have zf3_0_2 := zx3_0.cell 2); (try have zg3_0_0 := zx3_0.frozen 0); (try have zg3_0_1 := zx3_0.frozen 1); (try have zg3_0_2 := zx3_0.frozen 2); (try have zl3_0 := zx3_0.lt)))
    all_goals (try go_wp2_with fail)
    all_goals (go_meet; refine ⟨⟨_, AH, cH, rfl, rfl, ?b0, ?o, iH⟩, ?e⟩; (case b0 => (first | with_reducible exact Blk.new _ _ _ | exact (((zx3_0.set_ 0 _).set_ 1 _).set_ 2 _))); (case o => (first | with_reducible exact (((oy3.set zx3_0 (by decide) 0 _).set (zx3_0.set_ 0 _) (by decide) 1 _).set ((zx3_0.set_ 0 _).set_ 1 _) (by decide) 2 _) | exact oy3.below (by repeat (first | with_reducible exact Below.refl _ _ | with_reducible assumption | with_reducible refine Below.setCell ?_ (by first | omega | (simp <;> omega)) _ | with_reducible refine Below.alloc ?_ (by first | omega | (simp <;> omega)) _ | with_reducible refine Below.drew ?_)))); (case e => (repeat (first | with_reducible exact Below.refl _ _ | with_reducible assumption | with_reducible refine Below.setCell ?_ (by first | omega | (simp <;> omega)) _ | with_reducible refine Below.alloc ?_ (by first | omega | (simp <;> omega)) _ | with_reducible refine Below.drew ?_))))
  obtain ⟨⟨BH0, AH, cH, rfl, rfl, H0x13, oH, iH⟩, H13⟩ := hcut
  obtain ⟨w13, rfl⟩ : ∃ q : World, q = wc := ⟨_, rfl⟩
  have D13 := D12.trans (H13.mono D12.size)
  have z13 := H13.size
  have Wo13 := Wo12.below H13
  have Go13 := Go12.below H13
  have a0x13 := blk_step a0x12 H13
  have a3x13 := blk_step a3x12 H13
  have W0x13 := blk_step W0x12 H13
  have G0x13 := blk_step G0x12 H13
  clear a0f12_0 a0f12_1 a0f12_2
  have a0f13_0 : w13.cell? ⟨w.heap.size, 0, none⟩ = some (.int .i64 C0) := a0x13.cell 0
  have a0f13_1 : w13.cell? ⟨w.heap.size, 1, none⟩ = some (.int .i64 R0) := a0x13.cell 1
  have a0f13_2 : w13.cell? ⟨w.heap.size, 2, none⟩ = some (.slice A0 n0 c0) := a0x13.cell 2
  clear a0l12
  have a0l13 := a0x13.lt
  clear a3f12_0 a3f12_1
  have a3f13_0 : w13.cell? ⟨w.heap.size + 1, 0, none⟩ = some (.int .i64 x3_0) := a3x13.cell 0
  have a3f13_1 : w13.cell? ⟨w.heap.size + 1, 1, none⟩ = some (.int .i64 x3_1) := a3x13.cell 1
  clear a3l12
  have a3l13 := a3x13.lt
  clear W0f12_0 W0f12_1 W0f12_2
  have W0f13_0 : w13.cell? ⟨BW0, 0, none⟩ = some (.int .i64 (mMoveMeshPointA C0 R0 n0 l0 x1 x2 x3_0 x3_1)) := W0x13.cell 0
  have W0f13_1 : w13.cell? ⟨BW0, 1, none⟩ = some (.int .i64 (mMoveMeshPointB C0 R0 n0 l0 x1 x2 x3_0 x3_1)) := W0x13.cell 1
  have W0f13_2 : w13.cell? ⟨BW0, 2, none⟩ = some (.slice AW (mMoveMeshPointN C0 R0 n0 l0 x1 x2 x3_0 x3_1) cW) := W0x13.cell 2
  clear W0l12
  have W0l13 := W0x13.lt
  clear G0f12_0 G0f12_1 G0f12_2
  have G0f13_0 : w13.cell? ⟨BG0, 0, none⟩ = some (.int .i64 (mMoveMeshPointA C0 R0 n0 l0 x1 x2 x3_0 x3_1)) := G0x13.cell 0
  have G0f13_1 : w13.cell? ⟨BG0, 1, none⟩ = some (.int .i64 (mMoveMeshPointB C0 R0 n0 l0 x1 x2 x3_0 x3_1)) := G0x13.cell 1
  have G0f13_2 : w13.cell? ⟨BG0, 2, none⟩ = some (.slice AG (mMoveMeshPointN C0 R0 n0 l0 x1 x2 x3_0 x3_1) cG) := G0x13.cell 2
  clear G0l12
  have G0l13 := G0x13.lt
  have HU := oH.und
  have HO := oH.over
  clear a0f13_0 a0f13_1 a0f13_2
  have a0f13_0 : w13.cell? ⟨w.heap.size, 0, none⟩ = some (.int .i64 C0) := a0x13.cell 0
  have a0f13_1 : w13.cell? ⟨w.heap.size, 1, none⟩ = some (.int .i64 R0) := a0x13.cell 1
  have a0f13_2 : w13.cell? ⟨w.heap.size, 2, none⟩ = some (.slice A0 n0 c0) := a0x13.cell 2
  clear a0l13
  have a0l13 := a0x13.lt
  clear a3f13_0 a3f13_1
  have a3f13_0 : w13.cell? ⟨w.heap.size + 1, 0, none⟩ = some (.int .i64 x3_0) := a3x13.cell 0
  have a3f13_1 : w13.cell? ⟨w.heap.size + 1, 1, none⟩ = some (.int .i64 x3_1) := a3x13.cell 1
  clear a3l13
  have a3l13 := a3x13.lt
  clear W0f13_0 W0f13_1 W0f13_2
  have W0f13_0 : w13.cell? ⟨BW0, 0, none⟩ = some (.int .i64 (mMoveMeshPointA C0 R0 n0 l0 x1 x2 x3_0 x3_1)) := W0x13.cell 0
  have W0f13_1 : w13.cell? ⟨BW0, 1, none⟩ = some (.int .i64 (mMoveMeshPointB C0 R0 n0 l0 x1 x2 x3_0 x3_1)) := W0x13.cell 1
  have W0f13_2 : w13.cell? ⟨BW0, 2, none⟩ = some (.slice AW (mMoveMeshPointN C0 R0 n0 l0 x1 x2 x3_0 x3_1) cW) := W0x13.cell 2
  clear W0l13
  have W0l13 := W0x13.lt
  clear G0f13_0 G0f13_1 G0f13_2
  have G0f13_0 : w13.cell? ⟨BG0, 0, none⟩ = some (.int .i64 (mMoveMeshPointA C0 R0 n0 l0 x1 x2 x3_0 x3_1)) := G0x13.cell 0
  have G0f13_1 : w13.cell? ⟨BG0, 1, none⟩ = some (.int .i64 (mMoveMeshPointB C0 R0 n0 l0 x1 x2 x3_0 x3_1)) := G0x13.cell 1
  have G0f13_2 : w13.cell? ⟨BG0, 2, none⟩ = some (.slice AG (mMoveMeshPointN C0 R0 n0 l0 x1 x2 x3_0 x3_1) cG) := G0x13.cell 2
  clear G0l13
  have G0l13 := G0x13.lt
  have H0f13_0 : w13.cell? ⟨BH0, 0, none⟩ = some (.int .i64 (mMoveMeshPointA C0 R0 n0 l0 x1 x2 x3_0 x3_1)) := H0x13.cell 0
  have H0f13_1 : w13.cell? ⟨BH0, 1, none⟩ = some (.int .i64 (mMoveMeshPointB C0 R0 n0 l0 x1 x2 x3_0 x3_1)) := H0x13.cell 1
  have H0f13_2 : w13.cell? ⟨BH0, 2, none⟩ = some (.slice AH (mMoveMeshPointN C0 R0 n0 l0 x1 x2 x3_0 x3_1) cH) := H0x13.cell 2
  have H0l13 := H0x13.lt
  go_wp2_with fail
  refine (eqMesh_yes (mMoveMeshPointA C0 R0 n0 l0 x1 x2 x3_0 x3_1) (mMoveMeshPointB C0 R0 n0 l0 x1 x2 x3_0 x3_1) _ _ (mMoveMeshPointN C0 R0 n0 l0 x1 x2 x3_0 x3_1) _ _ (mMoveMeshPointL C0 R0 n0 l0 x1 x2 x3_0 x3_1) _ (by omega) oH.sl Wo13.sl).mono ?_
  rintro e w14 ⟨rfl, H14⟩
  have D14 := D13.trans (H14.mono D13.size)
  have z14 := H14.size
  have Wo14 := Wo13.below H14
  have Go14 := Go13.below H14
  have Ho14 := oH.below H14
  have a0x14 := blk_step a0x13 H14
  have a3x14 := blk_step a3x13 H14
  have W0x14 := blk_step W0x13 H14
  have G0x14 := blk_step G0x13 H14
  have H0x14 := blk_step H0x13 H14
  clear a0f13_0 a0f13_1 a0f13_2
  have a0f14_0 : w14.cell? ⟨w.heap.size, 0, none⟩ = some (.int .i64 C0) := a0x14.cell 0
  have a0f14_1 : w14.cell? ⟨w.heap.size, 1, none⟩ = some (.int .i64 R0) := a0x14.cell 1
  have a0f14_2 : w14.cell? ⟨w.heap.size, 2, none⟩ = some (.slice A0 n0 c0) := a0x14.cell 2
  clear a0l13
  have a0l14 := a0x14.lt
  clear a3f13_0 a3f13_1
  have a3f14_0 : w14.cell? ⟨w.heap.size + 1, 0, none⟩ = some (.int .i64 x3_0) := a3x14.cell 0
  have a3f14_1 : w14.cell? ⟨w.heap.size + 1, 1, none⟩ = some (.int .i64 x3_1) := a3x14.cell 1
  clear a3l13
  have a3l14 := a3x14.lt
  clear W0f13_0 W0f13_1 W0f13_2
  have W0f14_0 : w14.cell? ⟨BW0, 0, none⟩ = some (.int .i64 (mMoveMeshPointA C0 R0 n0 l0 x1 x2 x3_0 x3_1)) := W0x14.cell 0
  have W0f14_1 : w14.cell? ⟨BW0, 1, none⟩ = some (.int .i64 (mMoveMeshPointB C0 R0 n0 l0 x1 x2 x3_0 x3_1)) := W0x14.cell 1
  have W0f14_2 : w14.cell? ⟨BW0, 2, none⟩ = some (.slice AW (mMoveMeshPointN C0 R0 n0 l0 x1 x2 x3_0 x3_1) cW) := W0x14.cell 2
  clear W0l13
  have W0l14 := W0x14.lt
  clear G0f13_0 G0f13_1 G0f13_2
  have G0f14_0 : w14.cell? ⟨BG0, 0, none⟩ = some (.int .i64 (mMoveMeshPointA C0 R0 n0 l0 x1 x2 x3_0 x3_1)) := G0x14.cell 0
  have G0f14_1 : w14.cell? ⟨BG0, 1, none⟩ = some (.int .i64 (mMoveMeshPointB C0 R0 n0 l0 x1 x2 x3_0 x3_1)) := G0x14.cell 1
  have G0f14_2 : w14.cell? ⟨BG0, 2, none⟩ = some (.slice AG (mMoveMeshPointN C0 R0 n0 l0 x1 x2 x3_0 x3_1) cG) := G0x14.cell 2
  clear G0l13
  have G0l14 := G0x14.lt
  clear H0f13_0 H0f13_1 H0f13_2
  have H0f14_0 : w14.cell? ⟨BH0, 0, none⟩ = some (.int .i64 (mMoveMeshPointA C0 R0 n0 l0 x1 x2 x3_0 x3_1)) := H0x14.cell 0
  have H0f14_1 : w14.cell? ⟨BH0, 1, none⟩ = some (.int .i64 (mMoveMeshPointB C0 R0 n0 l0 x1 x2 x3_0 x3_1)) := H0x14.cell 1
  have H0f14_2 : w14.cell? ⟨BH0, 2, none⟩ = some (.slice AH (mMoveMeshPointN C0 R0 n0 l0 x1 x2 x3_0 x3_1) cH) := H0x14.cell 2
  clear H0l13
  have H0l14 := H0x14.lt
  go_wp2_with fail
  refine (heldMesh_any (mMoveMeshPointA C0 R0 n0 l0 x1 x2 x3_0 x3_1) (mMoveMeshPointB C0 R0 n0 l0 x1 x2 x3_0 x3_1) _ (mMoveMeshPointN C0 R0 n0 l0 x1 x2 x3_0 x3_1) _ 1 (SpotC (mMoveMeshPointL C0 R0 n0 l0 x1 x2 x3_0 x3_1)) _ (by omega) (by omega) (by omega) Go14.sl).mono ?_
  rintro e w15 ⟨rfl, H15⟩
  have D15 := D14.trans (H15.mono D14.size)
  have z15 := H15.size
  have Wo15 := Wo14.below H15
  have Go15 := Go14.below H15
  have Ho15 := Ho14.below H15
  have a0x15 := blk_step a0x14 H15
  have a3x15 := blk_step a3x14 H15
  have W0x15 := blk_step W0x14 H15
  have G0x15 := blk_step G0x14 H15
  have H0x15 := blk_step H0x14 H15
  clear a0f14_0 a0f14_1 a0f14_2
  have a0f15_0 : w15.cell? ⟨w.heap.size, 0, none⟩ = some (.int .i64 C0) := a0x15.cell 0
  have a0f15_1 : w15.cell? ⟨w.heap.size, 1, none⟩ = some (.int .i64 R0) := a0x15.cell 1
  have a0f15_2 : w15.cell? ⟨w.heap.size, 2, none⟩ = some (.slice A0 n0 c0) := a0x15.cell 2
  clear a0l14
  have a0l15 := a0x15.lt
  clear a3f14_0 a3f14_1
  have a3f15_0 : w15.cell? ⟨w.heap.size + 1, 0, none⟩ = some (.int .i64 x3_0) := a3x15.cell 0
  have a3f15_1 : w15.cell? ⟨w.heap.size + 1, 1, none⟩ = some (.int .i64 x3_1) := a3x15.cell 1
  clear a3l14
  have a3l15 := a3x15.lt
  clear W0f14_0 W0f14_1 W0f14_2
  have W0f15_0 : w15.cell? ⟨BW0, 0, none⟩ = some (.int .i64 (mMoveMeshPointA C0 R0 n0 l0 x1 x2 x3_0 x3_1)) := W0x15.cell 0
  have W0f15_1 : w15.cell? ⟨BW0, 1, none⟩ = some (.int .i64 (mMoveMeshPointB C0 R0 n0 l0 x1 x2 x3_0 x3_1)) := W0x15.cell 1
  have W0f15_2 : w15.cell? ⟨BW0, 2, none⟩ = some (.slice AW (mMoveMeshPointN C0 R0 n0 l0 x1 x2 x3_0 x3_1) cW) := W0x15.cell 2
  clear W0l14
  have W0l15 := W0x15.lt
  clear G0f14_0 G0f14_1 G0f14_2
  have G0f15_0 : w15.cell? ⟨BG0, 0, none⟩ = some (.int .i64 (mMoveMeshPointA C0 R0 n0 l0 x1 x2 x3_0 x3_1)) := G0x15.cell 0
  have G0f15_1 : w15.cell? ⟨BG0, 1, none⟩ = some (.int .i64 (mMoveMeshPointB C0 R0 n0 l0 x1 x2 x3_0 x3_1)) := G0x15.cell 1
  have G0f15_2 : w15.cell? ⟨BG0, 2, none⟩ = some (.slice AG (mMoveMeshPointN C0 R0 n0 l0 x1 x2 x3_0 x3_1) cG) := G0x15.cell 2
  clear G0l14
  have G0l15 := G0x15.lt
  clear H0f14_0 H0f14_1 H0f14_2
  have H0f15_0 : w15.cell? ⟨BH0, 0, none⟩ = some (.int .i64 (mMoveMeshPointA C0 R0 n0 l0 x1 x2 x3_0 x3_1)) := H0x15.cell 0
  have H0f15_1 : w15.cell? ⟨BH0, 1, none⟩ = some (.int .i64 (mMoveMeshPointB C0 R0 n0 l0 x1 x2 x3_0 x3_1)) := H0x15.cell 1
  have H0f15_2 : w15.cell? ⟨BH0, 2, none⟩ = some (.slice AH (mMoveMeshPointN C0 R0 n0 l0 x1 x2 x3_0 x3_1) cH) := H0x15.cell 2
  clear H0l14
  have H0l15 := H0x15.lt
  go_wp2_with fail
  go_ret
  exact ⟨rfl, D15⟩

end Go.Proofs.Ytddcbieomklhnaa

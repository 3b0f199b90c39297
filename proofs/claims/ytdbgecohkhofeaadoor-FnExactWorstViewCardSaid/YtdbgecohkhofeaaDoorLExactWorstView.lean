/- FnExactWorstView returns true at every input: the walk. No condition beyond those that every argument meets. -/
import Derived.Test.YtdbgecohkhofeaaDoorDomeWorst
import Derived.Test.YtdbgecohkhofeaaDoorSDome
import Derived.Test.YtdbgecohkhofeaaDoorSVector
import Derived.Deep.RegionHeld3
import Derived.Deep.DeepCutAuto
namespace Go.Proofs.YtdbgecohkhofeaaDoor
open Go.RowKit Go.Lib Go.Ks
set_option linter.unusedVariables false
set_option maxRecDepth 100000 in
set_option maxHeartbeats 4000000 in
theorem lawWorstView (x0_0 : ByteArray) (x0_1 : Int) (x0_2 : Int) (x1_0 : Int) (x1_1 : Int) (x1_2 : Int) (x2 : Int) (w : World) (y0_0 : x0_0.size ≤ 9223372036854775807) (y0_1 : -9223372036854775808 ≤ x0_1 ∧ x0_1 ≤ 9223372036854775807) (y0_2 : -9223372036854775808 ≤ x0_2 ∧ x0_2 ≤ 9223372036854775807) (y1_0 : -9223372036854775808 ≤ x1_0 ∧ x1_0 ≤ 9223372036854775807) (y1_1 : -9223372036854775808 ≤ x1_1 ∧ x1_1 ≤ 9223372036854775807) (y1_2 : -9223372036854775808 ≤ x1_2 ∧ x1_2 ≤ 9223372036854775807) (y2 : -9223372036854775808 ≤ x2 ∧ x2 ≤ 9223372036854775807) (hT : Tab w) :
    Calls Tryd.prog 11 #[.agg #[.string x0_0, .int .i64 x0_1, .int .i64 x0_2], .agg #[.int .i64 x1_0, .int .i64 x1_1, .int .i64 x1_2], .int .i64 x2] w fun e w' => e = .returned (.bool true) ∧ Below w.heap.size w w' := by
  have D0 := Below.refl w.heap.size w
  go_enter Tryd.func11, Tryd.ntmps11
  go_wp2_with fail
  generalize hW1 : ((w.alloc (.cells #[.string x0_0, .int .i64 x0_1, .int .i64 x0_2] 31)).alloc (.cells #[.int .i64 x1_0, .int .i64 x1_1, .int .i64 x1_2] 49)) = w1
  have H1 : Below w.heap.size w w1 := by rw [← hW1]; repeat (first | with_reducible exact Below.refl _ _ | with_reducible assumption | with_reducible refine Below.setCell ?_ (by simp <;> omega) _ | with_reducible refine Below.alloc ?_ (by simp <;> omega) _ | with_reducible refine Below.drew ?_)
  have a0x1 : Blk w1 (w.heap.size) 31 #[.string x0_0, .int .i64 x0_1, .int .i64 x0_2] := by rw [← hW1]; exact (Blk.new w 31 #[.string x0_0, .int .i64 x0_1, .int .i64 x0_2]).alloc _
  have a1x1 : Blk w1 (w.heap.size + 1) 49 #[.int .i64 x1_0, .int .i64 x1_1, .int .i64 x1_2] := by
    have h := Blk.new (w.alloc (.cells #[.string x0_0, .int .i64 x0_1, .int .i64 x0_2] 31)) 49 #[.int .i64 x1_0, .int .i64 x1_1, .int .i64 x1_2]
    rw [hW1] at h
    simpa using h
  clear hW1
  have D1 := D0.trans (H1.mono D0.size)
  have z1 := H1.size
  have a0f1_0 : w1.cell? ⟨w.heap.size, 0, none⟩ = some (.string x0_0) := a0x1.cell 0
  have a0f1_1 : w1.cell? ⟨w.heap.size, 1, none⟩ = some (.int .i64 x0_1) := a0x1.cell 1
  have a0f1_2 : w1.cell? ⟨w.heap.size, 2, none⟩ = some (.int .i64 x0_2) := a0x1.cell 2
  have a0l1 := a0x1.lt
  have a1f1_0 : w1.cell? ⟨w.heap.size + 1, 0, none⟩ = some (.int .i64 x1_0) := a1x1.cell 0
  have a1f1_1 : w1.cell? ⟨w.heap.size + 1, 1, none⟩ = some (.int .i64 x1_1) := a1x1.cell 1
  have a1f1_2 : w1.cell? ⟨w.heap.size + 1, 2, none⟩ = some (.int .i64 x1_2) := a1x1.cell 2
  have a1l1 := a1x1.lt
  refine (szDome_any x0_0 x0_1 x0_2 _ y0_0 (by omega) (by omega) _).mono ?_
  rintro e w2 ⟨⟨r2, rfl, hr2⟩, H2⟩
  have D2 := D1.trans (H2.mono D1.size)
  have z2 := H2.size
  have a0x2 := blk_step a0x1 H2
  have a1x2 := blk_step a1x1 H2
  clear a0f1_0 a0f1_1 a0f1_2
  have a0f2_0 : w2.cell? ⟨w.heap.size, 0, none⟩ = some (.string x0_0) := a0x2.cell 0
  have a0f2_1 : w2.cell? ⟨w.heap.size, 1, none⟩ = some (.int .i64 x0_1) := a0x2.cell 1
  have a0f2_2 : w2.cell? ⟨w.heap.size, 2, none⟩ = some (.int .i64 x0_2) := a0x2.cell 2
  clear a0l1
  have a0l2 := a0x2.lt
  clear a1f1_0 a1f1_1 a1f1_2
  have a1f2_0 : w2.cell? ⟨w.heap.size + 1, 0, none⟩ = some (.int .i64 x1_0) := a1x2.cell 0
  have a1f2_1 : w2.cell? ⟨w.heap.size + 1, 1, none⟩ = some (.int .i64 x1_1) := a1x2.cell 1
  have a1f2_2 : w2.cell? ⟨w.heap.size + 1, 2, none⟩ = some (.int .i64 x1_2) := a1x2.cell 2
  clear a1l1
  have a1l2 := a1x2.lt
  rcases hr2 with rfl | ⟨d2a, d2b, d2c⟩
  · go_wp2_with fail
    go_ret
    exact ⟨rfl, D2⟩
  go_wp2_with fail
  go_cut [8, 9] (fun s8 s9 wr => s8 = .int .i64 (mWoV ⟨x0_0, x0_1, x0_2⟩ ⟨x1_0, x1_1, x1_2⟩ x2) ∧ s9 = .int .i64 (mWoC ⟨x0_0, x0_1, x0_2⟩ ⟨x1_0, x1_1, x1_2⟩ x2) ∧ Below w2.heap.size w2 wr)
  case first =>
    have ks : ∀ w' : World, Below w2.heap.size w2 w' → w'.cell? ⟨w.heap.size, 0, none⟩ = some (.string x0_0) ∧ w'.cell? ⟨w.heap.size, 1, none⟩ = some (.int .i64 x0_1) ∧ w'.cell? ⟨w.heap.size, 2, none⟩ = some (.int .i64 x0_2) ∧ w'.cell? ⟨w.heap.size + 1, 0, none⟩ = some (.int .i64 x1_0) ∧ w'.cell? ⟨w.heap.size + 1, 1, none⟩ = some (.int .i64 x1_1) ∧ w'.cell? ⟨w.heap.size + 1, 2, none⟩ = some (.int .i64 x1_2) := fun w' h => ⟨(Blk.below a0x2 h a0x2.lt).cell 0, (Blk.below a0x2 h a0x2.lt).cell 1, (Blk.below a0x2 h a0x2.lt).cell 2, (Blk.below a1x2 h a1x2.lt).cell 0, (Blk.below a1x2 h a1x2.lt).cell 1, (Blk.below a1x2 h a1x2.lt).cell 2⟩
    have KS := Lib.hid ks
    clear ks
    go_region_held3 (fun w' => w'.cell? ⟨w.heap.size, 0, none⟩ = some (.string x0_0) ∧ w'.cell? ⟨w.heap.size, 1, none⟩ = some (.int .i64 x0_1) ∧ w'.cell? ⟨w.heap.size, 2, none⟩ = some (.int .i64 x0_2) ∧ w'.cell? ⟨w.heap.size + 1, 0, none⟩ = some (.int .i64 x1_0) ∧ w'.cell? ⟨w.heap.size + 1, 1, none⟩ = some (.int .i64 x1_1) ∧ w'.cell? ⟨w.heap.size + 1, 2, none⟩ = some (.int .i64 x1_2))
      (exact KS.out _ (by repeat (first | with_reducible exact Below.refl _ _ | with_reducible assumption | with_reducible refine Below.setCell ?_ (by first | omega | (simp <;> omega)) _ | with_reducible refine Below.alloc ?_ (by first | omega | (simp <;> omega)) _ | with_reducible refine Below.drew ?_)))
      (first
      | (go_at_call_of 19 x0_0; refine (toDome_any x0_0 x0_1 x0_2 _).mono ?_; rintro e v0_0 ⟨rfl, F0_0⟩; have E0_0 : Below w2.heap.size w2 v0_0 := below_then (by repeat (first | with_reducible exact Below.refl _ _ | with_reducible assumption | with_reducible refine Below.setCell ?_ (by first | omega | (simp <;> omega)) _ | with_reducible refine Below.alloc ?_ (by first | omega | (simp <;> omega)) _ | with_reducible refine Below.drew ?_)) F0_0; have DD0_0 := D2.trans (E0_0.mono D2.size); have ES0_0 := E0_0.size; have a0y0 := blk_then a0x2 (by repeat (first | with_reducible exact Below.refl _ _ | with_reducible assumption | with_reducible refine Below.setCell ?_ (by first | omega | (simp <;> omega)) _ | with_reducible refine Below.alloc ?_ (by first | omega | (simp <;> omega)) _ | with_reducible refine Below.drew ?_)) F0_0; have a0y0_0 : v0_0.cell? ⟨w.heap.size, 0, none⟩ = some (.string x0_0) := a0y0.cell 0; have a0y0_1 : v0_0.cell? ⟨w.heap.size, 1, none⟩ = some (.int .i64 x0_1) := a0y0.cell 1; have a0y0_2 : v0_0.cell? ⟨w.heap.size, 2, none⟩ = some (.int .i64 x0_2) := a0y0.cell 2; have a0y0_l := a0y0.lt; have a1y0 := blk_then a1x2 (by repeat (first | with_reducible exact Below.refl _ _ | with_reducible assumption | with_reducible refine Below.setCell ?_ (by first | omega | (simp <;> omega)) _ | with_reducible refine Below.alloc ?_ (by first | omega | (simp <;> omega)) _ | with_reducible refine Below.drew ?_)) F0_0; have a1y0_0 : v0_0.cell? ⟨w.heap.size + 1, 0, none⟩ = some (.int .i64 x1_0) := a1y0.cell 0; have a1y0_1 : v0_0.cell? ⟨w.heap.size + 1, 1, none⟩ = some (.int .i64 x1_1) := a1y0.cell 1; have a1y0_2 : v0_0.cell? ⟨w.heap.size + 1, 2, none⟩ = some (.int .i64 x1_2) := a1y0.cell 2; have a1y0_l := a1y0.lt)
      | (go_at_call_of 32 x1_0; refine (toVector_any x1_0 x1_1 x1_2 _).mono ?_; rintro e v0_1 ⟨rfl, F0_1⟩; have E0_1 : Below w2.heap.size w2 v0_1 := below_then (by repeat (first | with_reducible exact Below.refl _ _ | with_reducible assumption | with_reducible refine Below.setCell ?_ (by first | omega | (simp <;> omega)) _ | with_reducible refine Below.alloc ?_ (by first | omega | (simp <;> omega)) _ | with_reducible refine Below.drew ?_)) F0_1; have DD0_1 := D2.trans (E0_1.mono D2.size); have ES0_1 := E0_1.size; have a0y1 := blk_then a0x2 (by repeat (first | with_reducible exact Below.refl _ _ | with_reducible assumption | with_reducible refine Below.setCell ?_ (by first | omega | (simp <;> omega)) _ | with_reducible refine Below.alloc ?_ (by first | omega | (simp <;> omega)) _ | with_reducible refine Below.drew ?_)) F0_1; have a0y1_0 : v0_1.cell? ⟨w.heap.size, 0, none⟩ = some (.string x0_0) := a0y1.cell 0; have a0y1_1 : v0_1.cell? ⟨w.heap.size, 1, none⟩ = some (.int .i64 x0_1) := a0y1.cell 1; have a0y1_2 : v0_1.cell? ⟨w.heap.size, 2, none⟩ = some (.int .i64 x0_2) := a0y1.cell 2; have a0y1_l := a0y1.lt; have a1y1 := blk_then a1x2 (by repeat (first | with_reducible exact Below.refl _ _ | with_reducible assumption | with_reducible refine Below.setCell ?_ (by first | omega | (simp <;> omega)) _ | with_reducible refine Below.alloc ?_ (by first | omega | (simp <;> omega)) _ | with_reducible refine Below.drew ?_)) F0_1; have a1y1_0 : v0_1.cell? ⟨w.heap.size + 1, 0, none⟩ = some (.int .i64 x1_0) := a1y1.cell 0; have a1y1_1 : v0_1.cell? ⟨w.heap.size + 1, 1, none⟩ = some (.int .i64 x1_1) := a1y1.cell 1; have a1y1_2 : v0_1.cell? ⟨w.heap.size + 1, 2, none⟩ = some (.int .i64 x1_2) := a1y1.cell 2; have a1y1_l := a1y1.lt)
      | (go_at_call 34; refine (specWorstView_any x0_0 x0_1 x0_2 x1_0 x1_1 x1_2 x2 _ y0_0 y0_1 y0_2 y1_0 y1_1 y1_2 y2).mono ?_; rintro e v0_2 ⟨rfl, F0_2⟩; have E0_2 : Below w2.heap.size w2 v0_2 := below_then (by repeat (first | with_reducible exact Below.refl _ _ | with_reducible assumption | with_reducible refine Below.setCell ?_ (by first | omega | (simp <;> omega)) _ | with_reducible refine Below.alloc ?_ (by first | omega | (simp <;> omega)) _ | with_reducible refine Below.drew ?_)) F0_2; have DD0_2 := D2.trans (E0_2.mono D2.size); have ES0_2 := E0_2.size; have a0y2 := blk_then a0x2 (by repeat (first | with_reducible exact Below.refl _ _ | with_reducible assumption | with_reducible refine Below.setCell ?_ (by first | omega | (simp <;> omega)) _ | with_reducible refine Below.alloc ?_ (by first | omega | (simp <;> omega)) _ | with_reducible refine Below.drew ?_)) F0_2; have a0y2_0 : v0_2.cell? ⟨w.heap.size, 0, none⟩ = some (.string x0_0) := a0y2.cell 0; have a0y2_1 : v0_2.cell? ⟨w.heap.size, 1, none⟩ = some (.int .i64 x0_1) := a0y2.cell 1; have a0y2_2 : v0_2.cell? ⟨w.heap.size, 2, none⟩ = some (.int .i64 x0_2) := a0y2.cell 2; have a0y2_l := a0y2.lt; have a1y2 := blk_then a1x2 (by repeat (first | with_reducible exact Below.refl _ _ | with_reducible assumption | with_reducible refine Below.setCell ?_ (by first | omega | (simp <;> omega)) _ | with_reducible refine Below.alloc ?_ (by first | omega | (simp <;> omega)) _ | with_reducible refine Below.drew ?_)) F0_2; have a1y2_0 : v0_2.cell? ⟨w.heap.size + 1, 0, none⟩ = some (.int .i64 x1_0) := a1y2.cell 0; have a1y2_1 : v0_2.cell? ⟨w.heap.size + 1, 1, none⟩ = some (.int .i64 x1_1) := a1y2.cell 1; have a1y2_2 : v0_2.cell? ⟨w.heap.size + 1, 2, none⟩ = some (.int .i64 x1_2) := a1y2.cell 2; have a1y2_l := a1y2.lt))
    all_goals (try go_wp2_with fail)
    all_goals (go_meet; exact ⟨rfl, rfl, E0_2⟩)
  obtain ⟨rfl, rfl, H3⟩ := hcut
  obtain ⟨w3, rfl⟩ : ∃ q : World, q = wc := ⟨_, rfl⟩
  have D3 := D2.trans (H3.mono D2.size)
  have z3 := H3.size
  have a0x3 := blk_step a0x2 H3
  have a1x3 := blk_step a1x2 H3
  clear a0f2_0 a0f2_1 a0f2_2
  have a0f3_0 : w3.cell? ⟨w.heap.size, 0, none⟩ = some (.string x0_0) := a0x3.cell 0
  have a0f3_1 : w3.cell? ⟨w.heap.size, 1, none⟩ = some (.int .i64 x0_1) := a0x3.cell 1
  have a0f3_2 : w3.cell? ⟨w.heap.size, 2, none⟩ = some (.int .i64 x0_2) := a0x3.cell 2
  clear a0l2
  have a0l3 := a0x3.lt
  clear a1f2_0 a1f2_1 a1f2_2
  have a1f3_0 : w3.cell? ⟨w.heap.size + 1, 0, none⟩ = some (.int .i64 x1_0) := a1x3.cell 0
  have a1f3_1 : w3.cell? ⟨w.heap.size + 1, 1, none⟩ = some (.int .i64 x1_1) := a1x3.cell 1
  have a1f3_2 : w3.cell? ⟨w.heap.size + 1, 2, none⟩ = some (.int .i64 x1_2) := a1x3.cell 2
  clear a1l2
  have a1l3 := a1x3.lt
  go_wp2_with fail
  go_cut [10, 11] (fun s10 s11 wr => s10 = .int .i64 (mWoV ⟨x0_0, x0_1, x0_2⟩ ⟨x1_0, x1_1, x1_2⟩ x2) ∧ s11 = .int .i64 (mWoC ⟨x0_0, x0_1, x0_2⟩ ⟨x1_0, x1_1, x1_2⟩ x2) ∧ Below w3.heap.size w3 wr)
  case first =>
    have ks : ∀ w' : World, Below w3.heap.size w3 w' → w'.cell? ⟨w.heap.size, 0, none⟩ = some (.string x0_0) ∧ w'.cell? ⟨w.heap.size, 1, none⟩ = some (.int .i64 x0_1) ∧ w'.cell? ⟨w.heap.size, 2, none⟩ = some (.int .i64 x0_2) ∧ w'.cell? ⟨w.heap.size + 1, 0, none⟩ = some (.int .i64 x1_0) ∧ w'.cell? ⟨w.heap.size + 1, 1, none⟩ = some (.int .i64 x1_1) ∧ w'.cell? ⟨w.heap.size + 1, 2, none⟩ = some (.int .i64 x1_2) := fun w' h => ⟨(Blk.below a0x3 h a0x3.lt).cell 0, (Blk.below a0x3 h a0x3.lt).cell 1, (Blk.below a0x3 h a0x3.lt).cell 2, (Blk.below a1x3 h a1x3.lt).cell 0, (Blk.below a1x3 h a1x3.lt).cell 1, (Blk.below a1x3 h a1x3.lt).cell 2⟩
    have KS := Lib.hid ks
    clear ks
    go_region_held3 (fun w' => w'.cell? ⟨w.heap.size, 0, none⟩ = some (.string x0_0) ∧ w'.cell? ⟨w.heap.size, 1, none⟩ = some (.int .i64 x0_1) ∧ w'.cell? ⟨w.heap.size, 2, none⟩ = some (.int .i64 x0_2) ∧ w'.cell? ⟨w.heap.size + 1, 0, none⟩ = some (.int .i64 x1_0) ∧ w'.cell? ⟨w.heap.size + 1, 1, none⟩ = some (.int .i64 x1_1) ∧ w'.cell? ⟨w.heap.size + 1, 2, none⟩ = some (.int .i64 x1_2))
      (exact KS.out _ (by repeat (first | with_reducible exact Below.refl _ _ | with_reducible assumption | with_reducible refine Below.setCell ?_ (by first | omega | (simp <;> omega)) _ | with_reducible refine Below.alloc ?_ (by first | omega | (simp <;> omega)) _ | with_reducible refine Below.drew ?_)))
      (first
      | (go_at_call_of 19 x0_0; refine (toDome_any x0_0 x0_1 x0_2 _).mono ?_; rintro e v1_0 ⟨rfl, F1_0⟩; have E1_0 : Below w3.heap.size w3 v1_0 := below_then (by repeat (first | with_reducible exact Below.refl _ _ | with_reducible assumption | with_reducible refine Below.setCell ?_ (by first | omega | (simp <;> omega)) _ | with_reducible refine Below.alloc ?_ (by first | omega | (simp <;> omega)) _ | with_reducible refine Below.drew ?_)) F1_0; have DD1_0 := D3.trans (E1_0.mono D3.size); have ES1_0 := E1_0.size; have a0y0 := blk_then a0x3 (by repeat (first | with_reducible exact Below.refl _ _ | with_reducible assumption | with_reducible refine Below.setCell ?_ (by first | omega | (simp <;> omega)) _ | with_reducible refine Below.alloc ?_ (by first | omega | (simp <;> omega)) _ | with_reducible refine Below.drew ?_)) F1_0; have a0y0_0 : v1_0.cell? ⟨w.heap.size, 0, none⟩ = some (.string x0_0) := a0y0.cell 0; have a0y0_1 : v1_0.cell? ⟨w.heap.size, 1, none⟩ = some (.int .i64 x0_1) := a0y0.cell 1; have a0y0_2 : v1_0.cell? ⟨w.heap.size, 2, none⟩ = some (.int .i64 x0_2) := a0y0.cell 2; have a0y0_l := a0y0.lt; have a1y0 := blk_then a1x3 (by repeat (first | with_reducible exact Below.refl _ _ | with_reducible assumption | with_reducible refine Below.setCell ?_ (by first | omega | (simp <;> omega)) _ | with_reducible refine Below.alloc ?_ (by first | omega | (simp <;> omega)) _ | with_reducible refine Below.drew ?_)) F1_0; have a1y0_0 : v1_0.cell? ⟨w.heap.size + 1, 0, none⟩ = some (.int .i64 x1_0) := a1y0.cell 0; have a1y0_1 : v1_0.cell? ⟨w.heap.size + 1, 1, none⟩ = some (.int .i64 x1_1) := a1y0.cell 1; have a1y0_2 : v1_0.cell? ⟨w.heap.size + 1, 2, none⟩ = some (.int .i64 x1_2) := a1y0.cell 2; have a1y0_l := a1y0.lt)
      | (go_at_call_of 32 x1_0; refine (toVector_any x1_0 x1_1 x1_2 _).mono ?_; rintro e v1_1 ⟨rfl, F1_1⟩; have E1_1 : Below w3.heap.size w3 v1_1 := below_then (by repeat (first | with_reducible exact Below.refl _ _ | with_reducible assumption | with_reducible refine Below.setCell ?_ (by first | omega | (simp <;> omega)) _ | with_reducible refine Below.alloc ?_ (by first | omega | (simp <;> omega)) _ | with_reducible refine Below.drew ?_)) F1_1; have DD1_1 := D3.trans (E1_1.mono D3.size); have ES1_1 := E1_1.size; have a0y1 := blk_then a0x3 (by repeat (first | with_reducible exact Below.refl _ _ | with_reducible assumption | with_reducible refine Below.setCell ?_ (by first | omega | (simp <;> omega)) _ | with_reducible refine Below.alloc ?_ (by first | omega | (simp <;> omega)) _ | with_reducible refine Below.drew ?_)) F1_1; have a0y1_0 : v1_1.cell? ⟨w.heap.size, 0, none⟩ = some (.string x0_0) := a0y1.cell 0; have a0y1_1 : v1_1.cell? ⟨w.heap.size, 1, none⟩ = some (.int .i64 x0_1) := a0y1.cell 1; have a0y1_2 : v1_1.cell? ⟨w.heap.size, 2, none⟩ = some (.int .i64 x0_2) := a0y1.cell 2; have a0y1_l := a0y1.lt; have a1y1 := blk_then a1x3 (by repeat (first | with_reducible exact Below.refl _ _ | with_reducible assumption | with_reducible refine Below.setCell ?_ (by first | omega | (simp <;> omega)) _ | with_reducible refine Below.alloc ?_ (by first | omega | (simp <;> omega)) _ | with_reducible refine Below.drew ?_)) F1_1; have a1y1_0 : v1_1.cell? ⟨w.heap.size + 1, 0, none⟩ = some (.int .i64 x1_0) := a1y1.cell 0; have a1y1_1 : v1_1.cell? ⟨w.heap.size + 1, 1, none⟩ = some (.int .i64 x1_1) := a1y1.cell 1; have a1y1_2 : v1_1.cell? ⟨w.heap.size + 1, 2, none⟩ = some (.int .i64 x1_2) := a1y1.cell 2; have a1y1_l := a1y1.lt)
      | (go_at_call 35; refine (implWorstView_any x0_0 x0_1 x0_2 x1_0 x1_1 x1_2 x2 _ y0_0 y0_1 y0_2 y1_0 y1_1 y1_2 y2 (hT.below (below_then D3 (by repeat (first | with_reducible exact Below.refl _ _ | with_reducible assumption | with_reducible refine Below.setCell ?_ (by first | omega | (simp <;> omega)) _ | with_reducible refine Below.alloc ?_ (by first | omega | (simp <;> omega)) _ | with_reducible refine Below.drew ?_))))).mono ?_; rintro e v1_2 ⟨rfl, F1_2⟩; have E1_2 : Below w3.heap.size w3 v1_2 := below_then (by repeat (first | with_reducible exact Below.refl _ _ | with_reducible assumption | with_reducible refine Below.setCell ?_ (by first | omega | (simp <;> omega)) _ | with_reducible refine Below.alloc ?_ (by first | omega | (simp <;> omega)) _ | with_reducible refine Below.drew ?_)) F1_2; have DD1_2 := D3.trans (E1_2.mono D3.size); have ES1_2 := E1_2.size; have a0y2 := blk_then a0x3 (by repeat (first | with_reducible exact Below.refl _ _ | with_reducible assumption | with_reducible refine Below.setCell ?_ (by first | omega | (simp <;> omega)) _ | with_reducible refine Below.alloc ?_ (by first | omega | (simp <;> omega)) _ | with_reducible refine Below.drew ?_)) F1_2; have a0y2_0 : v1_2.cell? ⟨w.heap.size, 0, none⟩ = some (.string x0_0) := a0y2.cell 0; have a0y2_1 : v1_2.cell? ⟨w.heap.size, 1, none⟩ = some (.int .i64 x0_1) := a0y2.cell 1; have a0y2_2 : v1_2.cell? ⟨w.heap.size, 2, none⟩ = some (.int .i64 x0_2) := a0y2.cell 2; have a0y2_l := a0y2.lt; have a1y2 := blk_then a1x3 (by repeat (first | with_reducible exact Below.refl _ _ | with_reducible assumption | with_reducible refine Below.setCell ?_ (by first | omega | (simp <;> omega)) _ | with_reducible refine Below.alloc ?_ (by first | omega | (simp <;> omega)) _ | with_reducible refine Below.drew ?_)) F1_2; have a1y2_0 : v1_2.cell? ⟨w.heap.size + 1, 0, none⟩ = some (.int .i64 x1_0) := a1y2.cell 0; have a1y2_1 : v1_2.cell? ⟨w.heap.size + 1, 1, none⟩ = some (.int .i64 x1_1) := a1y2.cell 1; have a1y2_2 : v1_2.cell? ⟨w.heap.size + 1, 2, none⟩ = some (.int .i64 x1_2) := a1y2.cell 2; have a1y2_l := a1y2.lt))
    all_goals (try go_wp2_with fail)
    all_goals (go_meet; exact ⟨rfl, rfl, E1_2⟩)
  obtain ⟨rfl, rfl, H4⟩ := hcut
  obtain ⟨w4, rfl⟩ : ∃ q : World, q = wc := ⟨_, rfl⟩
  have D4 := D3.trans (H4.mono D3.size)
  have z4 := H4.size
  have a0x4 := blk_step a0x3 H4
  have a1x4 := blk_step a1x3 H4
  clear a0f3_0 a0f3_1 a0f3_2
  have a0f4_0 : w4.cell? ⟨w.heap.size, 0, none⟩ = some (.string x0_0) := a0x4.cell 0
  have a0f4_1 : w4.cell? ⟨w.heap.size, 1, none⟩ = some (.int .i64 x0_1) := a0x4.cell 1
  have a0f4_2 : w4.cell? ⟨w.heap.size, 2, none⟩ = some (.int .i64 x0_2) := a0x4.cell 2
  clear a0l3
  have a0l4 := a0x4.lt
  clear a1f3_0 a1f3_1 a1f3_2
  have a1f4_0 : w4.cell? ⟨w.heap.size + 1, 0, none⟩ = some (.int .i64 x1_0) := a1x4.cell 0
  have a1f4_1 : w4.cell? ⟨w.heap.size + 1, 1, none⟩ = some (.int .i64 x1_1) := a1x4.cell 1
  have a1f4_2 : w4.cell? ⟨w.heap.size + 1, 2, none⟩ = some (.int .i64 x1_2) := a1x4.cell 2
  clear a1l3
  have a1l4 := a1x4.lt
  go_wp2_with fail
  go_ret
  exact ⟨rfl, D4⟩

end Go.Proofs.YtdbgecohkhofeaaDoor

/- FnExactDomeText returns true at every input: the walk. No condition beyond those that every argument meets. -/
import Derived.Test.YtikonccofaiceaaDoorDomeText
import Derived.Test.YtikonccofaiceaaDoorSDome
import Derived.Deep.RegionHeld3
import Derived.Deep.DeepCutAuto
namespace Go.Proofs.YtikonccofaiceaaDoor
open Go.RowKit Go.Lib Go.Ks
set_option linter.unusedVariables false
set_option maxRecDepth 100000 in
set_option maxHeartbeats 4000000 in
theorem lawDomeText (x0_0 : ByteArray) (x0_1 : Int) (x0_2 : Int) (w : World) (y0_0 : x0_0.size ≤ 9223372036854775807) (y0_1 : -9223372036854775808 ≤ x0_1 ∧ x0_1 ≤ 9223372036854775807) (y0_2 : -9223372036854775808 ≤ x0_2 ∧ x0_2 ≤ 9223372036854775807) (hT : Tab w) :
    Calls Tryd.prog 7 #[.agg #[.string x0_0, .int .i64 x0_1, .int .i64 x0_2]] w fun e w' => e = .returned (.bool true) ∧ Below w.heap.size w w' := by
  have D0 := Below.refl w.heap.size w
  go_enter Tryd.func7, Tryd.ntmps7
  go_wp2_with fail
  generalize hW1 : (w.alloc (.cells #[.string x0_0, .int .i64 x0_1, .int .i64 x0_2] 63)) = w1
  have H1 : Below w.heap.size w w1 := by rw [← hW1]; repeat (first | with_reducible exact Below.refl _ _ | with_reducible assumption | with_reducible refine Below.setCell ?_ (by simp <;> omega) _ | with_reducible refine Below.alloc ?_ (by simp <;> omega) _ | with_reducible refine Below.drew ?_)
  have a0x1 : Blk w1 (w.heap.size) 63 #[.string x0_0, .int .i64 x0_1, .int .i64 x0_2] := by rw [← hW1]; exact Blk.new w 63 #[.string x0_0, .int .i64 x0_1, .int .i64 x0_2]
  clear hW1
  have D1 := D0.trans (H1.mono D0.size)
  have z1 := H1.size
  have a0f1_0 : w1.cell? ⟨w.heap.size, 0, none⟩ = some (.string x0_0) := a0x1.cell 0
  have a0f1_1 : w1.cell? ⟨w.heap.size, 1, none⟩ = some (.int .i64 x0_1) := a0x1.cell 1
  have a0f1_2 : w1.cell? ⟨w.heap.size, 2, none⟩ = some (.int .i64 x0_2) := a0x1.cell 2
  have a0l1 := a0x1.lt
  refine (szDome_any x0_0 x0_1 x0_2 _ y0_0 (by omega) (by omega) _).mono ?_
  rintro e w2 ⟨⟨r2, rfl, hr2⟩, H2⟩
  have D2 := D1.trans (H2.mono D1.size)
  have z2 := H2.size
  have a0x2 := blk_step a0x1 H2
  clear a0f1_0 a0f1_1 a0f1_2
  have a0f2_0 : w2.cell? ⟨w.heap.size, 0, none⟩ = some (.string x0_0) := a0x2.cell 0
  have a0f2_1 : w2.cell? ⟨w.heap.size, 1, none⟩ = some (.int .i64 x0_1) := a0x2.cell 1
  have a0f2_2 : w2.cell? ⟨w.heap.size, 2, none⟩ = some (.int .i64 x0_2) := a0x2.cell 2
  clear a0l1
  have a0l2 := a0x2.lt
  rcases hr2 with rfl | ⟨d2a, d2b, d2c⟩
  · go_wp2_with fail
    go_ret
    exact ⟨rfl, D2⟩
  go_wp2_with fail
  refine (toDome_any x0_0 x0_1 x0_2 _).mono ?_
  rintro e w3 ⟨rfl, H3⟩
  have D3 := D2.trans (H3.mono D2.size)
  have z3 := H3.size
  have a0x3 := blk_step a0x2 H3
  clear a0f2_0 a0f2_1 a0f2_2
  have a0f3_0 : w3.cell? ⟨w.heap.size, 0, none⟩ = some (.string x0_0) := a0x3.cell 0
  have a0f3_1 : w3.cell? ⟨w.heap.size, 1, none⟩ = some (.int .i64 x0_1) := a0x3.cell 1
  have a0f3_2 : w3.cell? ⟨w.heap.size, 2, none⟩ = some (.int .i64 x0_2) := a0x3.cell 2
  clear a0l2
  have a0l3 := a0x3.lt
  go_wp2_with fail
  refine (specDomeText_any x0_0 x0_1 x0_2 _ y0_0 y0_1 y0_2).mono ?_
  rintro e w4 ⟨rfl, H4⟩
  have D4 := D3.trans (H4.mono D3.size)
  have z4 := H4.size
  have a0x4 := blk_step a0x3 H4
  clear a0f3_0 a0f3_1 a0f3_2
  have a0f4_0 : w4.cell? ⟨w.heap.size, 0, none⟩ = some (.string x0_0) := a0x4.cell 0
  have a0f4_1 : w4.cell? ⟨w.heap.size, 1, none⟩ = some (.int .i64 x0_1) := a0x4.cell 1
  have a0f4_2 : w4.cell? ⟨w.heap.size, 2, none⟩ = some (.int .i64 x0_2) := a0x4.cell 2
  clear a0l3
  have a0l4 := a0x4.lt
  go_wp2_with fail
  refine (toDome_any x0_0 x0_1 x0_2 _).mono ?_
  rintro e w5 ⟨rfl, H5⟩
  have D5 := D4.trans (H5.mono D4.size)
  have z5 := H5.size
  have a0x5 := blk_step a0x4 H5
  clear a0f4_0 a0f4_1 a0f4_2
  have a0f5_0 : w5.cell? ⟨w.heap.size, 0, none⟩ = some (.string x0_0) := a0x5.cell 0
  have a0f5_1 : w5.cell? ⟨w.heap.size, 1, none⟩ = some (.int .i64 x0_1) := a0x5.cell 1
  have a0f5_2 : w5.cell? ⟨w.heap.size, 2, none⟩ = some (.int .i64 x0_2) := a0x5.cell 2
  clear a0l4
  have a0l5 := a0x5.lt
  go_wp2_with fail
  refine (implDomeText_any x0_0 x0_1 x0_2 _ y0_0 y0_1 y0_2 (hT.below D5)).mono ?_
  rintro e w6 ⟨rfl, H6⟩
  have D6 := D5.trans (H6.mono D5.size)
  have z6 := H6.size
  have a0x6 := blk_step a0x5 H6
  clear a0f5_0 a0f5_1 a0f5_2
  have a0f6_0 : w6.cell? ⟨w.heap.size, 0, none⟩ = some (.string x0_0) := a0x6.cell 0
  have a0f6_1 : w6.cell? ⟨w.heap.size, 1, none⟩ = some (.int .i64 x0_1) := a0x6.cell 1
  have a0f6_2 : w6.cell? ⟨w.heap.size, 2, none⟩ = some (.int .i64 x0_2) := a0x6.cell 2
  clear a0l5
  have a0l6 := a0x6.lt
  go_wp2_with fail
  go_ret
  exact ⟨rfl, D6⟩

end Go.Proofs.YtikonccofaiceaaDoor

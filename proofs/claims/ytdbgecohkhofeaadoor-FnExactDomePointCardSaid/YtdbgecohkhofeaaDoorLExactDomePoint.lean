/- FnExactDomePoint returns true at every input: the walk. No condition beyond those that every argument meets. -/
import Derived.Test.YtdbgecohkhofeaaDoorDomePoint
import Derived.Test.YtdbgecohkhofeaaDoorSDome
import Derived.Test.YtdbgecohkhofeaaDoorSVector
import Derived.Deep.RegionHeld3
import Derived.Deep.DeepCutAuto
namespace Go.Proofs.YtdbgecohkhofeaaDoor
open Go.RowKit Go.Lib Go.Ks
set_option linter.unusedVariables false
set_option maxRecDepth 100000 in
set_option maxHeartbeats 4000000 in
theorem lawDomePoint (x0_0 : ByteArray) (x0_1 : Int) (x0_2 : Int) (x1 : Int) (x2 : Int) (w : World) (y0_0 : x0_0.size ≤ 9223372036854775807) (y0_1 : -9223372036854775808 ≤ x0_1 ∧ x0_1 ≤ 9223372036854775807) (y0_2 : -9223372036854775808 ≤ x0_2 ∧ x0_2 ≤ 9223372036854775807) (y1 : -9223372036854775808 ≤ x1 ∧ x1 ≤ 9223372036854775807) (y2 : -9223372036854775808 ≤ x2 ∧ x2 ≤ 9223372036854775807) (hT : Tab w) :
    Calls Tryd.prog 5 #[.agg #[.string x0_0, .int .i64 x0_1, .int .i64 x0_2], .int .i64 x1, .int .i64 x2] w fun e w' => e = .returned (.bool true) ∧ Below w.heap.size w w' := by
  have D0 := Below.refl w.heap.size w
  go_enter Tryd.func5, Tryd.ntmps5
  go_wp2_with fail
  generalize hW1 : (w.alloc (.cells #[.string x0_0, .int .i64 x0_1, .int .i64 x0_2] 31)) = w1
  have H1 : Below w.heap.size w w1 := by rw [← hW1]; repeat (first | with_reducible exact Below.refl _ _ | with_reducible assumption | with_reducible refine Below.setCell ?_ (by simp <;> omega) _ | with_reducible refine Below.alloc ?_ (by simp <;> omega) _ | with_reducible refine Below.drew ?_)
  have a0x1 : Blk w1 (w.heap.size) 31 #[.string x0_0, .int .i64 x0_1, .int .i64 x0_2] := by rw [← hW1]; exact Blk.new w 31 #[.string x0_0, .int .i64 x0_1, .int .i64 x0_2]
  clear hW1
  have D1 := D0.trans (H1.mono D0.size)
  have z1 := H1.size
  have a0f1_0 : w1.cell? ⟨w.heap.size, 0, none⟩ = some (.string x0_0) := a0x1.cell 0
  have a0f1_1 : w1.cell? ⟨w.heap.size, 1, none⟩ = some (.int .i64 x0_1) := a0x1.cell 1
  have a0f1_2 : w1.cell? ⟨w.heap.size, 2, none⟩ = some (.int .i64 x0_2) := a0x1.cell 2
  have a0l1 := a0x1.lt
  refine (szDome_any x0_0 x0_1 x0_2 _ y0_0 (by omega) (by omega) _).mono ?_
  rintro e w2 ⟨⟨r2, rfl, hr2⟩, H2⟩
  have D2 := D1.trans (H2.mono D1.size)
  have z2 := H2.size
  have a0x2 := blk_step a0x1 H2
  clear a0f1_0 a0f1_1 a0f1_2
  have a0f2_0 : w2.cell? ⟨w.heap.size, 0, none⟩ = some (.string x0_0) := a0x2.cell 0
  have a0f2_1 : w2.cell? ⟨w.heap.size, 1, none⟩ = some (.int .i64 x0_1) := a0x2.cell 1
  have a0f2_2 : w2.cell? ⟨w.heap.size, 2, none⟩ = some (.int .i64 x0_2) := a0x2.cell 2
  clear a0l1
  have a0l2 := a0x2.lt
  rcases hr2 with rfl | ⟨d2a, d2b, d2c⟩
  · go_wp2_with fail
    go_ret
    exact ⟨rfl, D2⟩
  go_wp2_with fail
  refine (toDome_any x0_0 x0_1 x0_2 _).mono ?_
  rintro e w3 ⟨rfl, H3⟩
  have D3 := D2.trans (H3.mono D2.size)
  have z3 := H3.size
  have a0x3 := blk_step a0x2 H3
  clear a0f2_0 a0f2_1 a0f2_2
  have a0f3_0 : w3.cell? ⟨w.heap.size, 0, none⟩ = some (.string x0_0) := a0x3.cell 0
  have a0f3_1 : w3.cell? ⟨w.heap.size, 1, none⟩ = some (.int .i64 x0_1) := a0x3.cell 1
  have a0f3_2 : w3.cell? ⟨w.heap.size, 2, none⟩ = some (.int .i64 x0_2) := a0x3.cell 2
  clear a0l2
  have a0l3 := a0x3.lt
  go_wp2_with fail
  refine (specDomePoint_any x0_0 x0_1 x0_2 x1 x2 _ y0_0 y0_1 y0_2 y1 y2).mono ?_
  rintro e w4 ⟨rfl, H4⟩
  have D4 := D3.trans (H4.mono D3.size)
  have z4 := H4.size
  have a0x4 := blk_step a0x3 H4
  clear a0f3_0 a0f3_1 a0f3_2
  have a0f4_0 : w4.cell? ⟨w.heap.size, 0, none⟩ = some (.string x0_0) := a0x4.cell 0
  have a0f4_1 : w4.cell? ⟨w.heap.size, 1, none⟩ = some (.int .i64 x0_1) := a0x4.cell 1
  have a0f4_2 : w4.cell? ⟨w.heap.size, 2, none⟩ = some (.int .i64 x0_2) := a0x4.cell 2
  clear a0l3
  have a0l4 := a0x4.lt
  go_wp2_with fail
  generalize hW5 : (w4.alloc (.cells #[.int .i64 (mPtX ⟨x0_0, x0_1, x0_2⟩ x1 x2), .int .i64 (mPtY ⟨x0_0, x0_1, x0_2⟩ x1 x2), .int .i64 (mPtZ ⟨x0_0, x0_1, x0_2⟩ x1 x2)] 34)) = w5
  have H5 : Below w4.heap.size w4 w5 := by rw [← hW5]; repeat (first | with_reducible exact Below.refl _ _ | with_reducible assumption | with_reducible refine Below.setCell ?_ (by simp <;> omega) _ | with_reducible refine Below.alloc ?_ (by simp <;> omega) _ | with_reducible refine Below.drew ?_)
  have W0x5 : Blk w5 (w4.heap.size) 34 #[.int .i64 (mPtX ⟨x0_0, x0_1, x0_2⟩ x1 x2), .int .i64 (mPtY ⟨x0_0, x0_1, x0_2⟩ x1 x2), .int .i64 (mPtZ ⟨x0_0, x0_1, x0_2⟩ x1 x2)] := by rw [← hW5]; exact Blk.new w4 34 #[.int .i64 (mPtX ⟨x0_0, x0_1, x0_2⟩ x1 x2), .int .i64 (mPtY ⟨x0_0, x0_1, x0_2⟩ x1 x2), .int .i64 (mPtZ ⟨x0_0, x0_1, x0_2⟩ x1 x2)]
  clear hW5
  have D5 := D4.trans (H5.mono D4.size)
  have z5 := H5.size
  have a0x5 := blk_step a0x4 H5
  clear a0f4_0 a0f4_1 a0f4_2
  have a0f5_0 : w5.cell? ⟨w.heap.size, 0, none⟩ = some (.string x0_0) := a0x5.cell 0
  have a0f5_1 : w5.cell? ⟨w.heap.size, 1, none⟩ = some (.int .i64 x0_1) := a0x5.cell 1
  have a0f5_2 : w5.cell? ⟨w.heap.size, 2, none⟩ = some (.int .i64 x0_2) := a0x5.cell 2
  clear a0l4
  have a0l5 := a0x5.lt
  have W0f5_0 : w5.cell? ⟨w4.heap.size, 0, none⟩ = some (.int .i64 (mPtX ⟨x0_0, x0_1, x0_2⟩ x1 x2)) := W0x5.cell 0
  have W0f5_1 : w5.cell? ⟨w4.heap.size, 1, none⟩ = some (.int .i64 (mPtY ⟨x0_0, x0_1, x0_2⟩ x1 x2)) := W0x5.cell 1
  have W0f5_2 : w5.cell? ⟨w4.heap.size, 2, none⟩ = some (.int .i64 (mPtZ ⟨x0_0, x0_1, x0_2⟩ x1 x2)) := W0x5.cell 2
  have W0l5 := W0x5.lt
  refine (toDome_any x0_0 x0_1 x0_2 _).mono ?_
  rintro e w6 ⟨rfl, H6⟩
  have D6 := D5.trans (H6.mono D5.size)
  have z6 := H6.size
  have a0x6 := blk_step a0x5 H6
  have W0x6 := blk_step W0x5 H6
  clear a0f5_0 a0f5_1 a0f5_2
  have a0f6_0 : w6.cell? ⟨w.heap.size, 0, none⟩ = some (.string x0_0) := a0x6.cell 0
  have a0f6_1 : w6.cell? ⟨w.heap.size, 1, none⟩ = some (.int .i64 x0_1) := a0x6.cell 1
  have a0f6_2 : w6.cell? ⟨w.heap.size, 2, none⟩ = some (.int .i64 x0_2) := a0x6.cell 2
  clear a0l5
  have a0l6 := a0x6.lt
  clear W0f5_0 W0f5_1 W0f5_2
  have W0f6_0 : w6.cell? ⟨w4.heap.size, 0, none⟩ = some (.int .i64 (mPtX ⟨x0_0, x0_1, x0_2⟩ x1 x2)) := W0x6.cell 0
  have W0f6_1 : w6.cell? ⟨w4.heap.size, 1, none⟩ = some (.int .i64 (mPtY ⟨x0_0, x0_1, x0_2⟩ x1 x2)) := W0x6.cell 1
  have W0f6_2 : w6.cell? ⟨w4.heap.size, 2, none⟩ = some (.int .i64 (mPtZ ⟨x0_0, x0_1, x0_2⟩ x1 x2)) := W0x6.cell 2
  clear W0l5
  have W0l6 := W0x6.lt
  go_wp2_with fail
  refine (implDomePoint_any x0_0 x0_1 x0_2 x1 x2 _ y0_0 y0_1 y0_2 y1 y2 (hT.below D6)).mono ?_
  rintro e w7 ⟨rfl, H7⟩
  have D7 := D6.trans (H7.mono D6.size)
  have z7 := H7.size
  have a0x7 := blk_step a0x6 H7
  have W0x7 := blk_step W0x6 H7
  clear a0f6_0 a0f6_1 a0f6_2
  have a0f7_0 : w7.cell? ⟨w.heap.size, 0, none⟩ = some (.string x0_0) := a0x7.cell 0
  have a0f7_1 : w7.cell? ⟨w.heap.size, 1, none⟩ = some (.int .i64 x0_1) := a0x7.cell 1
  have a0f7_2 : w7.cell? ⟨w.heap.size, 2, none⟩ = some (.int .i64 x0_2) := a0x7.cell 2
  clear a0l6
  have a0l7 := a0x7.lt
  clear W0f6_0 W0f6_1 W0f6_2
  have W0f7_0 : w7.cell? ⟨w4.heap.size, 0, none⟩ = some (.int .i64 (mPtX ⟨x0_0, x0_1, x0_2⟩ x1 x2)) := W0x7.cell 0
  have W0f7_1 : w7.cell? ⟨w4.heap.size, 1, none⟩ = some (.int .i64 (mPtY ⟨x0_0, x0_1, x0_2⟩ x1 x2)) := W0x7.cell 1
  have W0f7_2 : w7.cell? ⟨w4.heap.size, 2, none⟩ = some (.int .i64 (mPtZ ⟨x0_0, x0_1, x0_2⟩ x1 x2)) := W0x7.cell 2
  clear W0l6
  have W0l7 := W0x7.lt
  go_wp2_with fail
  generalize hW8 : (w7.alloc (.cells #[.int .i64 (mPtX ⟨x0_0, x0_1, x0_2⟩ x1 x2), .int .i64 (mPtY ⟨x0_0, x0_1, x0_2⟩ x1 x2), .int .i64 (mPtZ ⟨x0_0, x0_1, x0_2⟩ x1 x2)] 34)) = w8
  have H8 : Below w7.heap.size w7 w8 := by rw [← hW8]; repeat (first | with_reducible exact Below.refl _ _ | with_reducible assumption | with_reducible refine Below.setCell ?_ (by simp <;> omega) _ | with_reducible refine Below.alloc ?_ (by simp <;> omega) _ | with_reducible refine Below.drew ?_)
  have G0x8 : Blk w8 (w7.heap.size) 34 #[.int .i64 (mPtX ⟨x0_0, x0_1, x0_2⟩ x1 x2), .int .i64 (mPtY ⟨x0_0, x0_1, x0_2⟩ x1 x2), .int .i64 (mPtZ ⟨x0_0, x0_1, x0_2⟩ x1 x2)] := by rw [← hW8]; exact Blk.new w7 34 #[.int .i64 (mPtX ⟨x0_0, x0_1, x0_2⟩ x1 x2), .int .i64 (mPtY ⟨x0_0, x0_1, x0_2⟩ x1 x2), .int .i64 (mPtZ ⟨x0_0, x0_1, x0_2⟩ x1 x2)]
  clear hW8
  have D8 := D7.trans (H8.mono D7.size)
  have z8 := H8.size
  have a0x8 := blk_step a0x7 H8
  have W0x8 := blk_step W0x7 H8
  clear a0f7_0 a0f7_1 a0f7_2
  have a0f8_0 : w8.cell? ⟨w.heap.size, 0, none⟩ = some (.string x0_0) := a0x8.cell 0
  have a0f8_1 : w8.cell? ⟨w.heap.size, 1, none⟩ = some (.int .i64 x0_1) := a0x8.cell 1
  have a0f8_2 : w8.cell? ⟨w.heap.size, 2, none⟩ = some (.int .i64 x0_2) := a0x8.cell 2
  clear a0l7
  have a0l8 := a0x8.lt
  clear W0f7_0 W0f7_1 W0f7_2
  have W0f8_0 : w8.cell? ⟨w4.heap.size, 0, none⟩ = some (.int .i64 (mPtX ⟨x0_0, x0_1, x0_2⟩ x1 x2)) := W0x8.cell 0
  have W0f8_1 : w8.cell? ⟨w4.heap.size, 1, none⟩ = some (.int .i64 (mPtY ⟨x0_0, x0_1, x0_2⟩ x1 x2)) := W0x8.cell 1
  have W0f8_2 : w8.cell? ⟨w4.heap.size, 2, none⟩ = some (.int .i64 (mPtZ ⟨x0_0, x0_1, x0_2⟩ x1 x2)) := W0x8.cell 2
  clear W0l7
  have W0l8 := W0x8.lt
  have G0f8_0 : w8.cell? ⟨w7.heap.size, 0, none⟩ = some (.int .i64 (mPtX ⟨x0_0, x0_1, x0_2⟩ x1 x2)) := G0x8.cell 0
  have G0f8_1 : w8.cell? ⟨w7.heap.size, 1, none⟩ = some (.int .i64 (mPtY ⟨x0_0, x0_1, x0_2⟩ x1 x2)) := G0x8.cell 1
  have G0f8_2 : w8.cell? ⟨w7.heap.size, 2, none⟩ = some (.int .i64 (mPtZ ⟨x0_0, x0_1, x0_2⟩ x1 x2)) := G0x8.cell 2
  have G0l8 := G0x8.lt
  refine (eqVector_yes (mPtX ⟨x0_0, x0_1, x0_2⟩ x1 x2) (mPtY ⟨x0_0, x0_1, x0_2⟩ x1 x2) (mPtZ ⟨x0_0, x0_1, x0_2⟩ x1 x2) _).mono ?_
  rintro e w9 ⟨rfl, H9⟩
  have D9 := D8.trans (H9.mono D8.size)
  have z9 := H9.size
  have a0x9 := blk_step a0x8 H9
  have W0x9 := blk_step W0x8 H9
  have G0x9 := blk_step G0x8 H9
  clear a0f8_0 a0f8_1 a0f8_2
  have a0f9_0 : w9.cell? ⟨w.heap.size, 0, none⟩ = some (.string x0_0) := a0x9.cell 0
  have a0f9_1 : w9.cell? ⟨w.heap.size, 1, none⟩ = some (.int .i64 x0_1) := a0x9.cell 1
  have a0f9_2 : w9.cell? ⟨w.heap.size, 2, none⟩ = some (.int .i64 x0_2) := a0x9.cell 2
  clear a0l8
  have a0l9 := a0x9.lt
  clear W0f8_0 W0f8_1 W0f8_2
  have W0f9_0 : w9.cell? ⟨w4.heap.size, 0, none⟩ = some (.int .i64 (mPtX ⟨x0_0, x0_1, x0_2⟩ x1 x2)) := W0x9.cell 0
  have W0f9_1 : w9.cell? ⟨w4.heap.size, 1, none⟩ = some (.int .i64 (mPtY ⟨x0_0, x0_1, x0_2⟩ x1 x2)) := W0x9.cell 1
  have W0f9_2 : w9.cell? ⟨w4.heap.size, 2, none⟩ = some (.int .i64 (mPtZ ⟨x0_0, x0_1, x0_2⟩ x1 x2)) := W0x9.cell 2
  clear W0l8
  have W0l9 := W0x9.lt
  clear G0f8_0 G0f8_1 G0f8_2
  have G0f9_0 : w9.cell? ⟨w7.heap.size, 0, none⟩ = some (.int .i64 (mPtX ⟨x0_0, x0_1, x0_2⟩ x1 x2)) := G0x9.cell 0
  have G0f9_1 : w9.cell? ⟨w7.heap.size, 1, none⟩ = some (.int .i64 (mPtY ⟨x0_0, x0_1, x0_2⟩ x1 x2)) := G0x9.cell 1
  have G0f9_2 : w9.cell? ⟨w7.heap.size, 2, none⟩ = some (.int .i64 (mPtZ ⟨x0_0, x0_1, x0_2⟩ x1 x2)) := G0x9.cell 2
  clear G0l8
  have G0l9 := G0x9.lt
  go_wp2_with fail
  go_ret
  exact ⟨rfl, D9⟩

end Go.Proofs.YtdbgecohkhofeaaDoor

/- FnExactReadProjector returns true at every input: the walk. No condition beyond those that every argument meets. -/
import Derived.Test.YtikonccofaiceaaDoorReadProjI
import Derived.Test.YtikonccofaiceaaDoorSProjector
import Derived.Deep.RegionHeld3
import Derived.Deep.DeepCutAuto
namespace Go.Proofs.YtikonccofaiceaaDoor
open Go.RowKit Go.Lib Go.Ks
set_option linter.unusedVariables false
set_option maxRecDepth 100000 in
set_option maxHeartbeats 4000000 in
theorem lawReadProjector (x0 : ByteArray) (w : World) (z0 : x0.size ≤ 9223372036854775807) (hT : LibV w) :
    Calls Tryd.prog 9 #[.string x0] w fun e w' => e = .returned (.bool true) ∧ Below w.heap.size w w' := by
  have D0 := Below.refl w.heap.size w
  go_enter Tryd.func9, Tryd.ntmps9
  by_cases m0 : x0.size ≤ 1048576
  rotate_left
  · go_wp2_with fail
    go_ret
    exact ⟨rfl, D0⟩
  go_wp2_with fail
  refine (specReadProjector_any x0 _ m0).mono ?_
  rintro e w1 ⟨rfl, H1⟩
  have D1 := D0.trans (H1.mono D0.size)
  have z1 := H1.size
  go_wp2_with fail
  generalize hW2 : (w1.alloc (.cells #[.string (mRP0 x0), .int .i64 (mRP1 x0), .int .i64 (mRP2 x0), .int .i64 (mRP3 x0), .int .i64 (mRP4 x0)] 59)) = w2
  have H2 : Below w1.heap.size w1 w2 := by rw [← hW2]; repeat (first | with_reducible exact Below.refl _ _ | with_reducible assumption | with_reducible refine Below.setCell ?_ (by simp <;> omega) _ | with_reducible refine Below.alloc ?_ (by simp <;> omega) _ | with_reducible refine Below.drew ?_)
  have W0x2 : Blk w2 (w1.heap.size) 59 #[.string (mRP0 x0), .int .i64 (mRP1 x0), .int .i64 (mRP2 x0), .int .i64 (mRP3 x0), .int .i64 (mRP4 x0)] := by rw [← hW2]; exact Blk.new w1 59 #[.string (mRP0 x0), .int .i64 (mRP1 x0), .int .i64 (mRP2 x0), .int .i64 (mRP3 x0), .int .i64 (mRP4 x0)]
  clear hW2
  have D2 := D1.trans (H2.mono D1.size)
  have z2 := H2.size
  have W0f2_0 : w2.cell? ⟨w1.heap.size, 0, none⟩ = some (.string (mRP0 x0)) := W0x2.cell 0
  have W0f2_1 : w2.cell? ⟨w1.heap.size, 1, none⟩ = some (.int .i64 (mRP1 x0)) := W0x2.cell 1
  have W0f2_2 : w2.cell? ⟨w1.heap.size, 2, none⟩ = some (.int .i64 (mRP2 x0)) := W0x2.cell 2
  have W0f2_3 : w2.cell? ⟨w1.heap.size, 3, none⟩ = some (.int .i64 (mRP3 x0)) := W0x2.cell 3
  have W0f2_4 : w2.cell? ⟨w1.heap.size, 4, none⟩ = some (.int .i64 (mRP4 x0)) := W0x2.cell 4
  have W0l2 := W0x2.lt
  refine (implReadProjector_any x0 _ m0 (hT.below D2)).mono ?_
  rintro e w3 ⟨rfl, H3⟩
  have D3 := D2.trans (H3.mono D2.size)
  have z3 := H3.size
  have W0x3 := blk_step W0x2 H3
  clear W0f2_0 W0f2_1 W0f2_2 W0f2_3 W0f2_4
  have W0f3_0 : w3.cell? ⟨w1.heap.size, 0, none⟩ = some (.string (mRP0 x0)) := W0x3.cell 0
  have W0f3_1 : w3.cell? ⟨w1.heap.size, 1, none⟩ = some (.int .i64 (mRP1 x0)) := W0x3.cell 1
  have W0f3_2 : w3.cell? ⟨w1.heap.size, 2, none⟩ = some (.int .i64 (mRP2 x0)) := W0x3.cell 2
  have W0f3_3 : w3.cell? ⟨w1.heap.size, 3, none⟩ = some (.int .i64 (mRP3 x0)) := W0x3.cell 3
  have W0f3_4 : w3.cell? ⟨w1.heap.size, 4, none⟩ = some (.int .i64 (mRP4 x0)) := W0x3.cell 4
  clear W0l2
  have W0l3 := W0x3.lt
  go_wp2_with fail
  generalize hW4 : (w3.alloc (.cells #[.string (mRP0 x0), .int .i64 (mRP1 x0), .int .i64 (mRP2 x0), .int .i64 (mRP3 x0), .int .i64 (mRP4 x0)] 59)) = w4
  have H4 : Below w3.heap.size w3 w4 := by rw [← hW4]; repeat (first | with_reducible exact Below.refl _ _ | with_reducible assumption | with_reducible refine Below.setCell ?_ (by simp <;> omega) _ | with_reducible refine Below.alloc ?_ (by simp <;> omega) _ | with_reducible refine Below.drew ?_)
  have G0x4 : Blk w4 (w3.heap.size) 59 #[.string (mRP0 x0), .int .i64 (mRP1 x0), .int .i64 (mRP2 x0), .int .i64 (mRP3 x0), .int .i64 (mRP4 x0)] := by rw [← hW4]; exact Blk.new w3 59 #[.string (mRP0 x0), .int .i64 (mRP1 x0), .int .i64 (mRP2 x0), .int .i64 (mRP3 x0), .int .i64 (mRP4 x0)]
  clear hW4
  have D4 := D3.trans (H4.mono D3.size)
  have z4 := H4.size
  have W0x4 := blk_step W0x3 H4
  clear W0f3_0 W0f3_1 W0f3_2 W0f3_3 W0f3_4
  have W0f4_0 : w4.cell? ⟨w1.heap.size, 0, none⟩ = some (.string (mRP0 x0)) := W0x4.cell 0
  have W0f4_1 : w4.cell? ⟨w1.heap.size, 1, none⟩ = some (.int .i64 (mRP1 x0)) := W0x4.cell 1
  have W0f4_2 : w4.cell? ⟨w1.heap.size, 2, none⟩ = some (.int .i64 (mRP2 x0)) := W0x4.cell 2
  have W0f4_3 : w4.cell? ⟨w1.heap.size, 3, none⟩ = some (.int .i64 (mRP3 x0)) := W0x4.cell 3
  have W0f4_4 : w4.cell? ⟨w1.heap.size, 4, none⟩ = some (.int .i64 (mRP4 x0)) := W0x4.cell 4
  clear W0l3
  have W0l4 := W0x4.lt
  have G0f4_0 : w4.cell? ⟨w3.heap.size, 0, none⟩ = some (.string (mRP0 x0)) := G0x4.cell 0
  have G0f4_1 : w4.cell? ⟨w3.heap.size, 1, none⟩ = some (.int .i64 (mRP1 x0)) := G0x4.cell 1
  have G0f4_2 : w4.cell? ⟨w3.heap.size, 2, none⟩ = some (.int .i64 (mRP2 x0)) := G0x4.cell 2
  have G0f4_3 : w4.cell? ⟨w3.heap.size, 3, none⟩ = some (.int .i64 (mRP3 x0)) := G0x4.cell 3
  have G0f4_4 : w4.cell? ⟨w3.heap.size, 4, none⟩ = some (.int .i64 (mRP4 x0)) := G0x4.cell 4
  have G0l4 := G0x4.lt
  refine (eqProjector_yes (mRP0 x0) (mRP1 x0) (mRP2 x0) (mRP3 x0) (mRP4 x0) _).mono ?_
  rintro e w5 ⟨rfl, H5⟩
  have D5 := D4.trans (H5.mono D4.size)
  have z5 := H5.size
  have W0x5 := blk_step W0x4 H5
  have G0x5 := blk_step G0x4 H5
  clear W0f4_0 W0f4_1 W0f4_2 W0f4_3 W0f4_4
  have W0f5_0 : w5.cell? ⟨w1.heap.size, 0, none⟩ = some (.string (mRP0 x0)) := W0x5.cell 0
  have W0f5_1 : w5.cell? ⟨w1.heap.size, 1, none⟩ = some (.int .i64 (mRP1 x0)) := W0x5.cell 1
  have W0f5_2 : w5.cell? ⟨w1.heap.size, 2, none⟩ = some (.int .i64 (mRP2 x0)) := W0x5.cell 2
  have W0f5_3 : w5.cell? ⟨w1.heap.size, 3, none⟩ = some (.int .i64 (mRP3 x0)) := W0x5.cell 3
  have W0f5_4 : w5.cell? ⟨w1.heap.size, 4, none⟩ = some (.int .i64 (mRP4 x0)) := W0x5.cell 4
  clear W0l4
  have W0l5 := W0x5.lt
  clear G0f4_0 G0f4_1 G0f4_2 G0f4_3 G0f4_4
  have G0f5_0 : w5.cell? ⟨w3.heap.size, 0, none⟩ = some (.string (mRP0 x0)) := G0x5.cell 0
  have G0f5_1 : w5.cell? ⟨w3.heap.size, 1, none⟩ = some (.int .i64 (mRP1 x0)) := G0x5.cell 1
  have G0f5_2 : w5.cell? ⟨w3.heap.size, 2, none⟩ = some (.int .i64 (mRP2 x0)) := G0x5.cell 2
  have G0f5_3 : w5.cell? ⟨w3.heap.size, 3, none⟩ = some (.int .i64 (mRP3 x0)) := G0x5.cell 3
  have G0f5_4 : w5.cell? ⟨w3.heap.size, 4, none⟩ = some (.int .i64 (mRP4 x0)) := G0x5.cell 4
  clear G0l4
  have G0l5 := G0x5.lt
  go_wp2_with fail
  go_ret
  exact ⟨rfl, D5⟩

end Go.Proofs.YtikonccofaiceaaDoor

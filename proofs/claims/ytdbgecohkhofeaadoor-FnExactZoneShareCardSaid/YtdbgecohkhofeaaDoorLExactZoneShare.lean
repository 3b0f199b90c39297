/- FnExactZoneShare returns true at every input: the walk. No condition beyond those that every argument meets. -/
import Derived.Test.YtdbgecohkhofeaaDoorDomeSpot
namespace Go.Proofs.YtdbgecohkhofeaaDoor
open Go.RowKit Go.Lib Go.Ks
set_option maxHeartbeats 2000000 in
theorem lawZoneShare (x0 : Int) (x1 : Int) (w : World) (y0 : -9223372036854775808 ≤ x0 ∧ x0 ≤ 9223372036854775807) (y1 : -9223372036854775808 ≤ x1 ∧ x1 ≤ 9223372036854775807) (hT : Tab w) :
    Calls Tryd.prog 3 #[.int .i64 x0, .int .i64 x1] w fun e w' => e = .returned (.bool true) ∧ Below w.heap.size w w' := by
  go_enter Tryd.func3, Tryd.ntmps3
  go_wp2_with fail
  refine (specZoneShare_any x0 x1 _ y0 y1).mono ?_
  rintro e w1 ⟨rfl, C1⟩
  have z1 := C1.size
  have B1 := (Below.refl w.heap.size w).trans (C1.mono (Below.refl w.heap.size w).size)
  go_wp2_with fail
  refine (implZoneShare_any x0 x1 _ y0 y1 (hT.below B1)).mono ?_
  rintro e w2 ⟨rfl, C2⟩
  have z2 := C2.size
  have B2 := B1.trans (C2.mono B1.size)
  go_wp2_with fail
  go_ret
  exact ⟨rfl, B2⟩

end Go.Proofs.YtdbgecohkhofeaaDoor

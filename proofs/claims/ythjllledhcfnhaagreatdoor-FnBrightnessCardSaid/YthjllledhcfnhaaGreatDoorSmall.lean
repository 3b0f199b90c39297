/- Small functions of the program and of the reference: ranges, least, greatest. No condition. -/
import Derived.Test.YthjllledhcfnhaaGreatDoorRows
import Derived.Test.YthjllledhcfnhaaGreatDoorBase
namespace Go.Proofs.YthjllledhcfnhaaGreatDoor
open Go.RowKit Go.Lib Go.Ks
theorem within_any (n lo hi : Int) (w : World) :
    Calls Tryz.prog 60 #[.int .i64 n, .int .i64 lo, .int .i64 hi] w fun e w' => e = .returned (.bool (inB n lo hi)) ∧ Below w.heap.size w w' := by
  go_enter Tryz.func60, Tryz.ntmps60
  go_wp2
  all_goals go_ret
  all_goals exact ⟨ret_bool (inB_eq (by simp <;> omega)).symm, Below.refl _ _⟩
theorem l00In_any (n lo hi : Int) (w : World) :
    Calls Tryz.prog 101 #[.int .i64 n, .int .i64 lo, .int .i64 hi] w fun e w' => e = .returned (.bool (inB n lo hi)) ∧ Below w.heap.size w w' := by
  go_enter Tryz.func101, Tryz.ntmps101
  go_wp2
  all_goals go_ret
  all_goals exact ⟨ret_bool (inB_eq (by simp <;> omega)).symm, Below.refl _ _⟩
end Go.Proofs.YthjllledhcfnhaaGreatDoor

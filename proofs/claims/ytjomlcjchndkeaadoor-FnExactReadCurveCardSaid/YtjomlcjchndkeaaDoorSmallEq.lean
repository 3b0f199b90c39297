/- Small tests of the program and of the reference: they leave the world as it was. No condition. -/
import Derived.Test.YtjomlcjchndkeaaDoorRows
import Derived.Test.YtjomlcjchndkeaaDoorBase
namespace Go.Proofs.YtjomlcjchndkeaaDoor
open Go.RowKit Go.Lib Go.Ks
theorem within_eq (n lo hi : Int) (w : World) :
    Calls Tryd.prog 28 #[.int .i64 n, .int .i64 lo, .int .i64 hi] w fun e w' => e = .returned (.bool (inB n lo hi)) ∧ w = w' := by
  go_enter Tryd.func28, Tryd.ntmps28
  go_wp2
  all_goals go_ret
  all_goals exact ⟨ret_bool (inB_eq (by simp <;> omega)).symm, rfl⟩
theorem l00In_eq (n lo hi : Int) (w : World) :
    Calls Tryd.prog 38 #[.int .i64 n, .int .i64 lo, .int .i64 hi] w fun e w' => e = .returned (.bool (inB n lo hi)) ∧ w = w' := by
  go_enter Tryd.func38, Tryd.ntmps38
  go_wp2
  all_goals go_ret
  all_goals exact ⟨ret_bool (inB_eq (by simp <;> omega)).symm, rfl⟩
theorem isLevel_eq (n : Int) (w : World) :
    Calls Tryd.prog 29 #[.int .i64 n] w fun e w' => e = .returned (.bool (inB n 0 1000)) ∧ w = w' := by
  go_enter Tryd.func29, Tryd.ntmps29
  go_wp2_with fail
  refine (within_eq _ _ _ _).mono ?_
  rintro e w1 ⟨rfl, rfl⟩
  go_wp2_with fail
  go_ret
  exact ⟨rfl, rfl⟩
theorem l12Level_eq (n : Int) (w : World) :
    Calls Tryd.prog 26 #[.int .i64 n] w fun e w' => e = .returned (.bool (inB n 0 1000)) ∧ w = w' := by
  go_enter Tryd.func26, Tryd.ntmps26
  go_wp2_with fail
  refine (l00In_eq _ _ _ _).mono ?_
  rintro e w1 ⟨rfl, rfl⟩
  go_wp2_with fail
  go_ret
  exact ⟨rfl, rfl⟩
/-- a direction of the dome: azimuth and altitude -/
def upB (a h : Int) : Bool := inB a 0 359999 && inB h 0 90000
theorem upB_no1 {a h : Int} (q : inB a 0 359999 = false) : upB a h = false := by simp [upB, q]
theorem upB_eq {a h : Int} (q : inB a 0 359999 = true) : upB a h = inB h 0 90000 := by simp [upB, q]
theorem upB_iff {a h : Int} : upB a h = true ↔ (0 ≤ a ∧ a ≤ 359999) ∧ (0 ≤ h ∧ h ≤ 90000) := by simp [upB, inB_iff]
end Go.Proofs.YtjomlcjchndkeaaDoor

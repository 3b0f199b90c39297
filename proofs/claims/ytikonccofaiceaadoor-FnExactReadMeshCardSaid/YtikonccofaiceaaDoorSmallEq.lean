/- Small tests of the program and of the reference: they leave the world as it was. No condition. -/
import Derived.Test.YtikonccofaiceaaDoorRows
import Derived.Test.YtikonccofaiceaaDoorBase
namespace Go.Proofs.YtikonccofaiceaaDoor
open Go.RowKit Go.Lib Go.Ks
theorem within_eq (n lo hi : Int) (w : World) :
    Calls Tryd.prog 64 #[.int .i64 n, .int .i64 lo, .int .i64 hi] w fun e w' => e = .returned (.bool (inB n lo hi)) ∧ w = w' := by
  go_enter Tryd.func64, Tryd.ntmps64
  go_wp2
  all_goals go_ret
  all_goals exact ⟨ret_bool (inB_eq (by simp <;> omega)).symm, rfl⟩
theorem l00In_eq (n lo hi : Int) (w : World) :
    Calls Tryd.prog 86 #[.int .i64 n, .int .i64 lo, .int .i64 hi] w fun e w' => e = .returned (.bool (inB n lo hi)) ∧ w = w' := by
  go_enter Tryd.func86, Tryd.ntmps86
  go_wp2
  all_goals go_ret
  all_goals exact ⟨ret_bool (inB_eq (by simp <;> omega)).symm, rfl⟩
theorem l06Turn_eq (n : Int) (w : World) :
    Calls Tryd.prog 105 #[.int .i64 n] w fun e w' => e = .returned (.bool (inB n 0 359999)) ∧ w = w' := by
  go_enter Tryd.func105, Tryd.ntmps105
  go_wp2_with fail
  refine (l00In_eq _ _ _ _).mono ?_
  rintro e w1 ⟨rfl, rfl⟩
  go_wp2_with fail
  go_ret
  exact ⟨rfl, rfl⟩
/-- a direction of the dome: azimuth and altitude -/
def upB (a h : Int) : Bool := inB a 0 359999 && inB h 0 90000
theorem upB_no1 {a h : Int} (q : inB a 0 359999 = false) : upB a h = false := by simp [upB, q]
theorem upB_eq {a h : Int} (q : inB a 0 359999 = true) : upB a h = inB h 0 90000 := by simp [upB, q]
theorem upB_iff {a h : Int} : upB a h = true ↔ (0 ≤ a ∧ a ≤ 359999) ∧ (0 ≤ h ∧ h ≤ 90000) := by simp [upB, inB_iff]
end Go.Proofs.YtikonccofaiceaaDoor

/- Small tests of the program and of the reference: they leave the world as it was. No condition. -/
import Derived.Test.YtddcbieomklhnaaRows
import Derived.Test.YtddcbieomklhnaaBase
namespace Go.Proofs.Ytddcbieomklhnaa
open Go.RowKit Go.Lib Go.Ks
theorem within_eq (n lo hi : Int) (w : World) :
    Calls Try.prog 59 #[.int .i64 n, .int .i64 lo, .int .i64 hi] w fun e w' => e = .returned (.bool (inB n lo hi)) ∧ w = w' := by
  go_enter Try.func59, Try.ntmps59
  go_wp2
  all_goals go_ret
  all_goals exact ⟨ret_bool (inB_eq (by simp <;> omega)).symm, rfl⟩
theorem l00In_eq (n lo hi : Int) (w : World) :
    Calls Try.prog 61 #[.int .i64 n, .int .i64 lo, .int .i64 hi] w fun e w' => e = .returned (.bool (inB n lo hi)) ∧ w = w' := by
  go_enter Try.func61, Try.ntmps61
  go_wp2
  all_goals go_ret
  all_goals exact ⟨ret_bool (inB_eq (by simp <;> omega)).symm, rfl⟩
/-- a direction of the dome: azimuth and altitude -/
def upB (a h : Int) : Bool := inB a 0 359999 && inB h 0 90000
theorem upB_no1 {a h : Int} (q : inB a 0 359999 = false) : upB a h = false := by simp [upB, q]
theorem upB_eq {a h : Int} (q : inB a 0 359999 = true) : upB a h = inB h 0 90000 := by simp [upB, q]
theorem upB_iff {a h : Int} : upB a h = true ↔ (0 ≤ a ∧ a ≤ 359999) ∧ (0 ≤ h ∧ h ≤ 90000) := by simp [upB, inB_iff]
end Go.Proofs.Ytddcbieomklhnaa

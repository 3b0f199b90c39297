/- Small tests of the program and of the reference: they leave the world as it was. No condition. -/
import Derived.Test.YthjllledhcfnhaaGreatDoorRows
import Derived.Test.YthjllledhcfnhaaGreatDoorBase
namespace Go.Proofs.YthjllledhcfnhaaGreatDoor
open Go.RowKit Go.Lib Go.Ks
theorem within_eq (n lo hi : Int) (w : World) :
    Calls Tryz.prog 60 #[.int .i64 n, .int .i64 lo, .int .i64 hi] w fun e w' => e = .returned (.bool (inB n lo hi)) ∧ w = w' := by
  go_enter Tryz.func60, Tryz.ntmps60
  go_wp2
  all_goals go_ret
  all_goals exact ⟨ret_bool (inB_eq (by simp <;> omega)).symm, rfl⟩
theorem l00In_eq (n lo hi : Int) (w : World) :
    Calls Tryz.prog 101 #[.int .i64 n, .int .i64 lo, .int .i64 hi] w fun e w' => e = .returned (.bool (inB n lo hi)) ∧ w = w' := by
  go_enter Tryz.func101, Tryz.ntmps101
  go_wp2
  all_goals go_ret
  all_goals exact ⟨ret_bool (inB_eq (by simp <;> omega)).symm, rfl⟩
theorem isLevel_eq (n : Int) (w : World) :
    Calls Tryz.prog 36 #[.int .i64 n] w fun e w' => e = .returned (.bool (inB n 0 1000)) ∧ w = w' := by
  go_enter Tryz.func36, Tryz.ntmps36
  go_wp2_with fail
  refine (within_eq _ _ _ _).mono ?_
  rintro e w1 ⟨rfl, rfl⟩
  go_wp2_with fail
  go_ret
  exact ⟨rfl, rfl⟩
theorem l12Level_eq (n : Int) (w : World) :
    Calls Tryz.prog 76 #[.int .i64 n] w fun e w' => e = .returned (.bool (inB n 0 1000)) ∧ w = w' := by
  go_enter Tryz.func76, Tryz.ntmps76
  go_wp2_with fail
  refine (l00In_eq _ _ _ _).mono ?_
  rintro e w1 ⟨rfl, rfl⟩
  go_wp2_with fail
  go_ret
  exact ⟨rfl, rfl⟩
/-- a direction of the dome: azimuth and altitude -/
def upB (a h : Int) : Bool := inB a 0 359999 && inB h 0 90000
theorem upB_no1 {a h : Int} (q : inB a 0 359999 = false) : upB a h = false := by simp [upB, q]
theorem upB_eq {a h : Int} (q : inB a 0 359999 = true) : upB a h = inB h 0 90000 := by simp [upB, q]
theorem upB_iff {a h : Int} : upB a h = true ↔ (0 ≤ a ∧ a ≤ 359999) ∧ (0 ≤ h ∧ h ≤ 90000) := by simp [upB, inB_iff]
theorem isDomeUp_eq (a h : Int) (w : World) :
    Calls Tryz.prog 47 #[.int .i64 a, .int .i64 h] w fun e w' => e = .returned (.bool (upB a h)) ∧ w = w' := by
  cases q1 : inB a 0 359999
  · have E := Lib.hid (upB_no1 (h := h) q1)
    go_enter Tryz.func47, Tryz.ntmps47
    go_wp2_with fail
    refine (within_eq _ _ _ _).mono ?_
    rintro e w1 ⟨rfl, rfl⟩
    go_wp2_with fail
    go_ret
    exact ⟨ret_bool E.out.symm, rfl⟩
  · have E := Lib.hid (upB_eq (h := h) q1)
    go_enter Tryz.func47, Tryz.ntmps47
    go_wp2_with fail
    refine (within_eq _ _ _ _).mono ?_
    rintro e w1 ⟨rfl, rfl⟩
    go_wp2_with fail
    refine (within_eq _ _ _ _).mono ?_
    rintro e w1 ⟨rfl, rfl⟩
    go_wp2_with fail
    go_ret
    exact ⟨ret_bool E.out.symm, rfl⟩
end Go.Proofs.YthjllledhcfnhaaGreatDoor

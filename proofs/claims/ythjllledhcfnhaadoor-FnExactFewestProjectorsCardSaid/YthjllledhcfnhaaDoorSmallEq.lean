/- Small tests of the program and of the reference: they leave the world as it was. No condition. -/
import Derived.Test.YthjllledhcfnhaaDoorRows
import Derived.Test.YthjllledhcfnhaaDoorBase
namespace Go.Proofs.YthjllledhcfnhaaDoor
open Go.RowKit Go.Lib Go.Ks
theorem within_eq (n lo hi : Int) (w : World) :
    Calls Tryd.prog 66 #[.int .i64 n, .int .i64 lo, .int .i64 hi] w fun e w' => e = .returned (.bool (inB n lo hi)) ∧ w = w' := by
  go_enter Tryd.func66, Tryd.ntmps66
  go_wp2
  all_goals go_ret
  all_goals exact ⟨ret_bool (inB_eq (by simp <;> omega)).symm, rfl⟩
theorem l00In_eq (n lo hi : Int) (w : World) :
    Calls Tryd.prog 56 #[.int .i64 n, .int .i64 lo, .int .i64 hi] w fun e w' => e = .returned (.bool (inB n lo hi)) ∧ w = w' := by
  go_enter Tryd.func56, Tryd.ntmps56
  go_wp2
  all_goals go_ret
  all_goals exact ⟨ret_bool (inB_eq (by simp <;> omega)).symm, rfl⟩
theorem l06Turn_eq (n : Int) (w : World) :
    Calls Tryd.prog 162 #[.int .i64 n] w fun e w' => e = .returned (.bool (inB n 0 359999)) ∧ w = w' := by
  go_enter Tryd.func162, Tryd.ntmps162
  go_wp2_with fail
  refine (l00In_eq _ _ _ _).mono ?_
  rintro e w1 ⟨rfl, rfl⟩
  go_wp2_with fail
  go_ret
  exact ⟨rfl, rfl⟩
theorem l10Step_eq (n : Int) (w : World) :
    Calls Tryd.prog 112 #[.int .i64 n] w fun e w' => e = .returned (.bool (inB n 10000 90000)) ∧ w = w' := by
  go_enter Tryd.func112, Tryd.ntmps112
  go_wp2_with fail
  refine (l00In_eq _ _ _ _).mono ?_
  rintro e w1 ⟨rfl, rfl⟩
  go_wp2_with fail
  go_ret
  exact ⟨rfl, rfl⟩
/-- a direction of the dome: azimuth and altitude -/
def upB (a h : Int) : Bool := inB a 0 359999 && inB h 0 90000
theorem upB_no1 {a h : Int} (q : inB a 0 359999 = false) : upB a h = false := by simp [upB, q]
theorem upB_eq {a h : Int} (q : inB a 0 359999 = true) : upB a h = inB h 0 90000 := by simp [upB, q]
theorem upB_iff {a h : Int} : upB a h = true ↔ (0 ≤ a ∧ a ≤ 359999) ∧ (0 ≤ h ∧ h ≤ 90000) := by simp [upB, inB_iff]
theorem isDomeUp_eq (a h : Int) (w : World) :
    Calls Tryd.prog 75 #[.int .i64 a, .int .i64 h] w fun e w' => e = .returned (.bool (upB a h)) ∧ w = w' := by
  cases q1 : inB a 0 359999
  · have E := Lib.hid (upB_no1 (h := h) q1)
    go_enter Tryd.func75, Tryd.ntmps75
    go_wp2_with fail
    refine (within_eq _ _ _ _).mono ?_
    rintro e w1 ⟨rfl, rfl⟩
    go_wp2_with fail
    go_ret
    exact ⟨ret_bool E.out.symm, rfl⟩
  · have E := Lib.hid (upB_eq (h := h) q1)
    go_enter Tryd.func75, Tryd.ntmps75
    go_wp2_with fail
    refine (within_eq _ _ _ _).mono ?_
    rintro e w1 ⟨rfl, rfl⟩
    go_wp2_with fail
    refine (within_eq _ _ _ _).mono ?_
    rintro e w1 ⟨rfl, rfl⟩
    go_wp2_with fail
    go_ret
    exact ⟨ret_bool E.out.symm, rfl⟩
end Go.Proofs.YthjllledhcfnhaaDoor

/- The lesser and the greater of two numbers: the reference's functions. No condition. -/
import Derived.Test.YthjllledhcfnhaaGreatDoorRows
import Derived.Test.YthjllledhcfnhaaGreatDoorBase
namespace Go.Proofs.YthjllledhcfnhaaGreatDoor
open Go.RowKit Go.Lib Go.Ks
theorem l00Max_eq (a b : Int) (w : World) :
    Calls Tryz.prog 152 #[.int .i64 a, .int .i64 b] w fun e w' => e = .returned (.int .i64 (max a b)) ∧ w = w' := by
  by_cases h : b < a
  · have E := Lib.hid (by omega : max a b = a)
    go_enter Tryz.func152, Tryz.ntmps152
    go_wp2
    go_ret
    exact ⟨ret_int E.out.symm, rfl⟩
  · have E := Lib.hid (by omega : max a b = b)
    go_enter Tryz.func152, Tryz.ntmps152
    go_wp2
    go_ret
    exact ⟨ret_int E.out.symm, rfl⟩
theorem l00Min_eq (a b : Int) (w : World) :
    Calls Tryz.prog 95 #[.int .i64 a, .int .i64 b] w fun e w' => e = .returned (.int .i64 (min a b)) ∧ w = w' := by
  by_cases h : a < b
  · have E := Lib.hid (by omega : min a b = a)
    go_enter Tryz.func95, Tryz.ntmps95
    go_wp2
    go_ret
    exact ⟨ret_int E.out.symm, rfl⟩
  · have E := Lib.hid (by omega : min a b = b)
    go_enter Tryz.func95, Tryz.ntmps95
    go_wp2
    go_ret
    exact ⟨ret_int E.out.symm, rfl⟩
end Go.Proofs.YthjllledhcfnhaaGreatDoor

/- The lesser and the greater of two numbers: the reference's functions. No condition. -/
import Derived.Test.YthjllledhcfnhaaDoorRows
import Derived.Test.YthjllledhcfnhaaDoorBase
namespace Go.Proofs.YthjllledhcfnhaaDoor
open Go.RowKit Go.Lib Go.Ks
theorem l00Max_eq (a b : Int) (w : World) :
    Calls Tryd.prog 166 #[.int .i64 a, .int .i64 b] w fun e w' => e = .returned (.int .i64 (max a b)) ∧ w = w' := by
  by_cases h : b < a
  · have E := Lib.hid (by omega : max a b = a)
    go_enter Tryd.func166, Tryd.ntmps166
    go_wp2
    go_ret
    exact ⟨ret_int E.out.symm, rfl⟩
  · have E := Lib.hid (by omega : max a b = b)
    go_enter Tryd.func166, Tryd.ntmps166
    go_wp2
    go_ret
    exact ⟨ret_int E.out.symm, rfl⟩
theorem l00Min_eq (a b : Int) (w : World) :
    Calls Tryd.prog 164 #[.int .i64 a, .int .i64 b] w fun e w' => e = .returned (.int .i64 (min a b)) ∧ w = w' := by
  by_cases h : a < b
  · have E := Lib.hid (by omega : min a b = a)
    go_enter Tryd.func164, Tryd.ntmps164
    go_wp2
    go_ret
    exact ⟨ret_int E.out.symm, rfl⟩
  · have E := Lib.hid (by omega : min a b = b)
    go_enter Tryd.func164, Tryd.ntmps164
    go_wp2
    go_ret
    exact ⟨ret_int E.out.symm, rfl⟩
end Go.Proofs.YthjllledhcfnhaaDoor

/- The lesser and the greater of two numbers: the reference's functions. No condition. -/
import Derived.Test.YtdbgecohkhofeaaDoorRows
import Derived.Test.YtdbgecohkhofeaaDoorBase
namespace Go.Proofs.YtdbgecohkhofeaaDoor
open Go.RowKit Go.Lib Go.Ks
theorem l00Max_eq (a b : Int) (w : World) :
    Calls Tryd.prog 91 #[.int .i64 a, .int .i64 b] w fun e w' => e = .returned (.int .i64 (max a b)) ∧ w = w' := by
  by_cases h : b < a
  · have E := Lib.hid (by omega : max a b = a)
    go_enter Tryd.func91, Tryd.ntmps91
    go_wp2
    go_ret
    exact ⟨ret_int E.out.symm, rfl⟩
  · have E := Lib.hid (by omega : max a b = b)
    go_enter Tryd.func91, Tryd.ntmps91
    go_wp2
    go_ret
    exact ⟨ret_int E.out.symm, rfl⟩
theorem l00Min_eq (a b : Int) (w : World) :
    Calls Tryd.prog 92 #[.int .i64 a, .int .i64 b] w fun e w' => e = .returned (.int .i64 (min a b)) ∧ w = w' := by
  by_cases h : a < b
  · have E := Lib.hid (by omega : min a b = a)
    go_enter Tryd.func92, Tryd.ntmps92
    go_wp2
    go_ret
    exact ⟨ret_int E.out.symm, rfl⟩
  · have E := Lib.hid (by omega : min a b = b)
    go_enter Tryd.func92, Tryd.ntmps92
    go_wp2
    go_ret
    exact ⟨ret_int E.out.symm, rfl⟩
end Go.Proofs.YtdbgecohkhofeaaDoor

/- The law file's own helpers over Spot: copying, sizing, comparing, marking. No condition beyond those stated. -/
import Derived.Test.YtdbgecohkhofeaaDoorRows
import Derived.Test.YtdbgecohkhofeaaDoorAppend
import Derived.Lib.SliceRun
namespace Go.Proofs.YtdbgecohkhofeaaDoor
open Go.RowKit Go.Lib Go.Ks

theorem toSpot_any (x0 : Int) (x1 : Int) (w : World) :
    Calls Tryd.prog 23 #[.agg #[.int .i64 x0, .int .i64 x1]] w fun e w' => e = .returned (.agg #[.int .i64 x0, .int .i64 x1]) ∧ Below w.heap.size w w' := by
  go_enter Tryd.func23, Tryd.ntmps23
  go_wp2
  exact bodyPost_ret (v := .agg #[.int .i64 x0, .int .i64 x1]) (by simp [results, Tryd.results23, go_sem]) rfl ⟨rfl, by
    repeat (first | with_reducible exact Below.refl _ _ | with_reducible assumption | with_reducible refine Below.setCell ?_ (by simp <;> omega) _ | with_reducible refine Below.alloc ?_ (by simp <;> omega) _ | with_reducible refine Below.drew ?_)⟩

theorem eqSpot_yes (x0 : Int) (x1 : Int) (w : World) :
    Calls Tryd.prog 16 #[.agg #[.int .i64 x0, .int .i64 x1], .agg #[.int .i64 x0, .int .i64 x1]] w fun e w' => e = .returned (.bool true) ∧ Below w.heap.size w w' := by
  go_enter Tryd.func16, Tryd.ntmps16
  go_wp2
  go_ret
  exact ⟨rfl, by repeat (first | with_reducible exact Below.refl _ _ | with_reducible assumption | with_reducible refine Below.setCell ?_ (by simp <;> omega) _ | with_reducible refine Below.alloc ?_ (by simp <;> omega) _ | with_reducible refine Below.drew ?_)⟩

end Go.Proofs.YtdbgecohkhofeaaDoor

/- The law file's own helpers over Dome: copying, sizing, comparing, marking. No condition beyond those stated. -/
import Derived.Test.YtikonccofaiceaaDoorRows
import Derived.Test.YtikonccofaiceaaDoorAppend
import Derived.Lib.SliceRun
namespace Go.Proofs.YtikonccofaiceaaDoor
open Go.RowKit Go.Lib Go.Ks

theorem toDome_any (x0 : ByteArray) (x1 : Int) (x2 : Int) (w : World) :
    Calls Tryd.prog 39 #[.agg #[.string x0, .int .i64 x1, .int .i64 x2]] w fun e w' => e = .returned (.agg #[.string x0, .int .i64 x1, .int .i64 x2]) ∧ Below w.heap.size w w' := by
  go_enter Tryd.func39, Tryd.ntmps39
  go_wp2
  exact bodyPost_ret (v := .agg #[.string x0, .int .i64 x1, .int .i64 x2]) (by simp [results, Tryd.results39, go_sem]) rfl ⟨rfl, by
    repeat (first | with_reducible exact Below.refl _ _ | with_reducible assumption | with_reducible refine Below.setCell ?_ (by simp <;> omega) _ | with_reducible refine Below.alloc ?_ (by simp <;> omega) _ | with_reducible refine Below.drew ?_)⟩

theorem szDome_any (x0 : ByteArray) (x1 : Int) (x2 : Int) (left : Int) (h0 : x0.size ≤ 9223372036854775807) (hl : 0 ≤ left) (hl2 : left ≤ 1048576) (w : World) :
    Calls Tryd.prog 37 #[.agg #[.string x0, .int .i64 x1, .int .i64 x2], .int .i64 left] w fun e w' => SzR left ((x0.size : Int) ≤ left) e ∧ Below w.heap.size w w' := by
  have q0 : (x0.size : Int) ≤ 9223372036854775807 := by omega
  go_enter Tryd.func37, Tryd.ntmps37
  go_wp2
  all_goals go_ret
  all_goals refine ⟨?_, by repeat (first | with_reducible exact Below.refl _ _ | with_reducible assumption | with_reducible refine Below.setCell ?_ (by simp <;> omega) _ | with_reducible refine Below.alloc ?_ (by simp <;> omega) _ | with_reducible refine Below.drew ?_)⟩
  all_goals first | exact SzR.no _ _ | exact SzR.yes (by omega) (by omega) (by refine ⟨?_, ?_⟩ <;> omega) | exact SzR.yes (by omega) (by omega) (by omega)

theorem eqDome_yes (x0 : ByteArray) (x1 : Int) (x2 : Int) (w : World) :
    Calls Tryd.prog 43 #[.agg #[.string x0, .int .i64 x1, .int .i64 x2], .agg #[.string x0, .int .i64 x1, .int .i64 x2]] w fun e w' => e = .returned (.bool true) ∧ Below w.heap.size w w' := by
  go_enter Tryd.func43, Tryd.ntmps43
  go_wp2
  go_ret
  exact ⟨rfl, by repeat (first | with_reducible exact Below.refl _ _ | with_reducible assumption | with_reducible refine Below.setCell ?_ (by simp <;> omega) _ | with_reducible refine Below.alloc ?_ (by simp <;> omega) _ | with_reducible refine Below.drew ?_)⟩

end Go.Proofs.YtikonccofaiceaaDoor

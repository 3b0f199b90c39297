/- Lists of int64: copies and comparisons of the laws. Conditions: the slice reads as told. -/
import Derived.Test.YthjllledhcfnhaaGreatDoorRows
import Derived.Test.YthjllledhcfnhaaGreatDoorAppend
import Derived.Lib.SliceRun
import Derived.Deep.DeepCutAuto
namespace Go.Proofs.YthjllledhcfnhaaGreatDoor
open Go.RowKit Go.Lib Go.Ks
def IntC (l : Nat → Int) : Nat → Value := fun j => .int .i64 (l j)
theorem Tryz.infoI64 : (Tryz.prog.info? 2).map (fun i => (i.zero, i.size, i.bytes)) = some (some (.int .i64 0), 1, 8) := by kernel_rfl
theorem to_step1 {w : World} {B : Nat} {t : TypeId} {m k : Nat} {C z : Nat → Value} {v0 : Value} (h : Blk w B t (arr m (fun j => if j = k then v0 else if j < k then C j else z j))) (h0 : C k = v0) : Blk w B t (arr m (fun j => if j < k + 1 then C j else z j)) := h.congr (fun j _ => by
  by_cases e0 : j = k
  · rw [if_pos e0, if_pos (by omega), ← h0, e0]
  rw [if_neg e0]
  by_cases hx : j < k
  · rw [if_pos hx, if_pos (by omega)]
  · rw [if_neg hx, if_neg (by omega)])
theorem mk_step1 {w : World} {B m k : Nat} {t : TypeId} {k0 : Int} {f : Nat → Value} (h : Blk w B t (arr m (fun j => if j = k then .int .i64 (k0 + (k : Int)) else mk k0 k f j))) : Blk w B t (arr m (mk k0 (k + 1) f)) := by
  refine h.congr fun j _ => ?_
  by_cases hj : j = k
  · subst hj; rw [if_pos rfl]; unfold mk; rw [if_pos (by omega)]
  · rw [if_neg hj]
    unfold mk
    by_cases h2 : j < k
    · rw [if_pos h2, if_pos (by omega)]
    · rw [if_neg h2, if_neg (by omega)]
end Go.Proofs.YthjllledhcfnhaaGreatDoor

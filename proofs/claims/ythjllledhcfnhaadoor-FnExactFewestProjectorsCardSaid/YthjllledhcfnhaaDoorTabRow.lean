/- The row's condition on the program's table of sines: what the walks ask of it. -/
import Derived.Test.YthjllledhcfnhaaDoorTrigImpl
import Derived.Test.YthjllledhcfnhaaDoorRows
import Derived.LaidMore
import Derived.Lib.LaidTab
import Derived.ProofKit
namespace Go.Proofs.YthjllledhcfnhaaDoor
open Go.RowKit Go.Lib Go.Ks
theorem gSines : Tryd.prog.globalNamed "loop.example/g00955/impl.sines" = some 0 := by kernel_rfl
theorem tSines : (Tryd.prog.globals[0]?).map (·.type) = some 167 := by kernel_rfl
theorem uSines : Tryd.prog.underlying 167 = some (.array 91 2) := by kernel_rfl
theorem uSine : Tryd.prog.underlying 2 = some (.int .i64) := by kernel_rfl
theorem cSine : Tryd.prog.cellsOf 2 = 1 := by kernel_rfl
theorem cSines : Tryd.prog.cellsOf 167 = 91 := by kernel_rfl
theorem sines_data : (Rows.laid_loop_example_g00955_impl_sines : DataW Unit) = tabData .i64 sinT := rfl
theorem cell_lt {w : World} {B o : Nat} {v : Value} (h : w.cell? ⟨B, o, none⟩ = some v) : B < w.heap.size := by
  rcases Nat.lt_or_ge B w.heap.size with hlt | hge
  · exact hlt
  · unfold World.cell? at h
    simp [Array.getElem?_eq_none hge] at h
theorem tab_of_laid {W : World} (h : laidMetH Tryd.prog [("loop.example/g00955/impl.sines", Rows.laid_loop_example_g00955_impl_sines)] W) : Tab W := by
  rw [MakeChecks.laidMetH_plain _ _ _ (by kernel_rfl), sines_data] at h
  have hT := tabIs_of_head gSines tSines uSines uSine cSine cSines h
  have hc : ∀ k, k < 91 → W.cell? ⟨0, k, none⟩ = some (.int .i64 (tab k)) := fun k hk => by
    rw [hT.cell gSines k hk]
    have : ∀ k : Nat, k < 91 → sinT.getD k 0 = tab k := by decide
    rw [this k hk]
  exact ⟨cell_lt (hc 0 (by omega)), hc⟩
end Go.Proofs.YthjllledhcfnhaaDoor

/- The row's condition on the library's table of powers of ten: what the walks ask of it. -/
import Derived.Test.YtikonccofaiceaaDoorText
import Derived.Test.YtikonccofaiceaaDoorRows
import Derived.LaidMore
import Derived.Lib.LaidTab
import Derived.Stop.LaidErr
import Derived.ProofKit
namespace Go.Proofs.YtikonccofaiceaaDoor
open Go.RowKit Go.Lib Go.Ks
theorem gPow : Tryd.prog.globalNamed "internal/strconv.uint64pow10" = some 2 := by kernel_rfl
theorem tPow : (Tryd.prog.globals[2]?).map (·.type) = some 167 := by kernel_rfl
theorem uPow : Tryd.prog.underlying 167 = some (.array 20 122) := by kernel_rfl
theorem uPow1 : Tryd.prog.underlying 122 = some (.int .u64) := by kernel_rfl
theorem cPow1 : Tryd.prog.cellsOf 122 = 1 := by kernel_rfl
theorem cPow : Tryd.prog.cellsOf 167 = 20 := by kernel_rfl
theorem pow_data : (Rows.laid_internal_strconv_uint64pow10 : DataW Unit) = tabData .u64 pow10Tab := by kernel_rfl
theorem tab_of_laid {x y : String × DataW Unit} {r : List (String × DataW Unit)} {W : World} (h : laidMet Tryd.prog (x :: y :: ("internal/strconv.uint64pow10", Rows.laid_internal_strconv_uint64pow10) :: r) W) : Tab W := by
  have h2 := h.tail.tail
  rw [pow_data] at h2
  exact tabIs_of_head gPow tPow uPow uPow1 cPow1 cPow h2
end Go.Proofs.YtikonccofaiceaaDoor

/-
  The element types' rows of the table. No conditions.
-/
import Derived.Test.YtmgpllakpgjicaaDoorRowsG
namespace Go.Proofs.YtmgpllakpgjicaaDoor
theorem E.u8 : ElemOk 77 5 (.int .u8 0) 1 1 := ⟨Tryd.underlying77, by kernel_rfl, rfl, by omega⟩
theorem E.str : ElemOk 23 9 (.string (bs [])) 1 16 := ⟨Tryd.underlying23, by kernel_rfl, rfl, by omega⟩
theorem E.int : ElemOk 71 3 (.int .i64 0) 1 8 := ⟨Tryd.underlying71, by kernel_rfl, rfl, by omega⟩
end Go.Proofs.YtmgpllakpgjicaaDoor

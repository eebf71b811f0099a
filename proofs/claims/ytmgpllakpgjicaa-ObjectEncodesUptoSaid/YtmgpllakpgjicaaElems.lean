/-
  The element types' rows of the table. No conditions.
-/
import Derived.Test.YtmgpllakpgjicaaRowsG
namespace Go.Proofs.Ytmgpllakpgjicaa
theorem E.u8 : ElemOk 36 5 (.int .u8 0) 1 1 := ⟨Try.underlying36, by kernel_rfl, rfl, by omega⟩
theorem E.str : ElemOk 23 9 (.string (bs [])) 1 16 := ⟨Try.underlying23, by kernel_rfl, rfl, by omega⟩
end Go.Proofs.Ytmgpllakpgjicaa

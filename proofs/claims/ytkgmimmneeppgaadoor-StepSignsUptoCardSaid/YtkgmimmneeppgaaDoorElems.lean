/-
  The element types' rows of the table. No conditions.
-/
import Derived.Test.YtkgmimmneeppgaaDoorRowsG
namespace Go.Proofs.YtkgmimmneeppgaaDoor
theorem E.u8 : ElemOk 69 5 (.int .u8 0) 1 1 := ⟨Tryd.underlying69, by kernel_rfl, rfl, by omega⟩
theorem E.str : ElemOk 22 9 (.string (bs [])) 1 16 := ⟨Tryd.underlying22, by kernel_rfl, rfl, by omega⟩
theorem E.int : ElemOk 44 3 (.int .i64 0) 1 8 := ⟨Tryd.underlying44, by kernel_rfl, rfl, by omega⟩
end Go.Proofs.YtkgmimmneeppgaaDoor

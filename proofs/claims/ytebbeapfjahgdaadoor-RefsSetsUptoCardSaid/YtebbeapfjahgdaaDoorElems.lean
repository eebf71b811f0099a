/-
  The element types' rows of the table. No conditions.
-/
import Derived.Test.YtebbeapfjahgdaaDoorRowsG
namespace Go.Proofs.YtebbeapfjahgdaaDoor
theorem E.u8 : ElemOk 37 5 (.int .u8 0) 1 1 := ⟨Tryd.underlying37, by kernel_rfl, rfl, by omega⟩
end Go.Proofs.YtebbeapfjahgdaaDoor

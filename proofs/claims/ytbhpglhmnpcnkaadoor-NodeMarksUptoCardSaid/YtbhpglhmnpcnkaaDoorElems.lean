/-
  The element types' rows of the table. No conditions.
-/
import Derived.Test.YtbhpglhmnpcnkaaDoorRowsG
namespace Go.Proofs.YtbhpglhmnpcnkaaDoor
theorem E.u8 : ElemOk 67 5 (.int .u8 0) 1 1 := ⟨Tryd.underlying67, by kernel_rfl, rfl, by omega⟩
theorem E.str : ElemOk 48 9 (.string (bs [])) 1 16 := ⟨Tryd.underlying48, by kernel_rfl, rfl, by omega⟩
theorem E.int : ElemOk 116 3 (.int .i64 0) 1 8 := ⟨Tryd.underlying116, by kernel_rfl, rfl, by omega⟩
end Go.Proofs.YtbhpglhmnpcnkaaDoor

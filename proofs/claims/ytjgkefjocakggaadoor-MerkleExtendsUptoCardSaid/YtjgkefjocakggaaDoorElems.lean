/-
  The element types' rows of the table. No conditions.
-/
import Derived.Test.YtjgkefjocakggaaDoorRowsG
namespace Go.Proofs.YtjgkefjocakggaaDoor
theorem E.u8 : ElemOk 86 5 (.int .u8 0) 1 1 := ⟨Tryd.underlying86, by kernel_rfl, rfl, by omega⟩
theorem E.str : ElemOk 41 9 (.string (bs [])) 1 16 := ⟨Tryd.underlying41, by kernel_rfl, rfl, by omega⟩
theorem E.int : ElemOk 67 3 (.int .i64 0) 1 8 := ⟨Tryd.underlying67, by kernel_rfl, rfl, by omega⟩
end Go.Proofs.YtjgkefjocakggaaDoor

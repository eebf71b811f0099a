/-
  The element types' rows of the table. No conditions.
-/
import Derived.Test.YtmmpekdbknclcaaDoorRowsG
namespace Go.Proofs.YtmmpekdbknclcaaDoor
theorem E.u8 : ElemOk 60 5 (.int .u8 0) 1 1 := ⟨Tryd.underlying60, by kernel_rfl, rfl, by omega⟩
theorem E.str : ElemOk 22 9 (.string (bs [])) 1 16 := ⟨Tryd.underlying22, by kernel_rfl, rfl, by omega⟩
theorem E.int : ElemOk 35 3 (.int .i64 0) 1 8 := ⟨Tryd.underlying35, by kernel_rfl, rfl, by omega⟩
end Go.Proofs.YtmmpekdbknclcaaDoor

/-
  The element types' rows of the table. No conditions.
-/
import Derived.Test.YtdpombnelangjaaGreatDoorRowsG
namespace Go.Proofs.YtdpombnelangjaaGreatDoor
theorem E.u8 : ElemOk 105 5 (.int .u8 0) 1 1 := ⟨Tryz.underlying105, by kernel_rfl, rfl, by omega⟩
theorem E.str : ElemOk 48 9 (.string (bs [])) 1 16 := ⟨Tryz.underlying48, by kernel_rfl, rfl, by omega⟩
theorem E.int : ElemOk 71 3 (.int .i64 0) 1 8 := ⟨Tryz.underlying71, by kernel_rfl, rfl, by omega⟩
end Go.Proofs.YtdpombnelangjaaGreatDoor

/-
  The element types' rows of the table. No conditions.
-/
import Derived.Test.YtoamnifnfkgbiaaGreatDoorRowsG
namespace Go.Proofs.YtoamnifnfkgbiaaGreatDoor
theorem E.u8 : ElemOk 140 5 (.int .u8 0) 1 1 := ⟨Tryz.underlying140, by kernel_rfl, rfl, by omega⟩
theorem E.str : ElemOk 31 9 (.string (bs [])) 1 16 := ⟨Tryz.underlying31, by kernel_rfl, rfl, by omega⟩
theorem E.int : ElemOk 67 3 (.int .i64 0) 1 8 := ⟨Tryz.underlying67, by kernel_rfl, rfl, by omega⟩
end Go.Proofs.YtoamnifnfkgbiaaGreatDoor

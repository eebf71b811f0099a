/-
  The element types' rows of the table. No conditions.
-/
import Derived.Test.YtojiheelacmniaaDoorRowsG
namespace Go.Proofs.YtojiheelacmniaaDoor
theorem E.u8 : ElemOk 44 5 (.int .u8 0) 1 1 := ⟨Tryd.underlying44, by kernel_rfl, rfl, by omega⟩
end Go.Proofs.YtojiheelacmniaaDoor

/-
  cartularyref.GoodDisk, disk.Good by their contracts.
-/
import Derived.Test.YtmgpllakpgjicaaDoorDiskA
import Derived.Deep.RegionHeld3
namespace Go.Proofs.YtmgpllakpgjicaaDoor
open Go.RowKit
set_option linter.unusedVariables false
theorem ltB_asym {a b : List UInt8} (h : ltB a b = true) : ltB b a = false := by
  cases hb : ltB b a
  · rfl
  · have := ltB_trans a b a h hb
    rw [ltB_irr] at this
    cases this
end Go.Proofs.YtmgpllakpgjicaaDoor

/-
  cartularyref.GoodDisk, disk.Good by their contracts.
-/
import Derived.Test.YtmgpllakpgjicaaDiskA
import Derived.Deep.RegionHeld3
namespace Go.Proofs.Ytmgpllakpgjicaa
open Go.RowKit
set_option linter.unusedVariables false
theorem ltB_asym {a b : List UInt8} (h : ltB a b = true) : ltB b a = false := by
  cases hb : ltB b a
  · rfl
  · have := ltB_trans a b a h hb
    rw [ltB_irr] at this
    cases this
theorem goodFrom_cons {last : List UInt8} {f : Fl} {r : List Fl} : goodFrom last (f :: r) = (fileOk f && ltB last f.1 && goodFrom f.1 r) := rfl

end Go.Proofs.Ytmgpllakpgjicaa

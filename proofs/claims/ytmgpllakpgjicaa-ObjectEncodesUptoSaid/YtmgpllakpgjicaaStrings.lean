/-
  cartularylaw.strings: a copy of a slice of strings, by its contract.
-/
import Derived.Test.YtmgpllakpgjicaaElems
import Derived.Laws.AppendOwnNone
namespace Go.Proofs.Ytmgpllakpgjicaa
open Go.RowKit
set_option linter.unusedVariables false
theorem strV_oneCell {ss : List (List UInt8)} : ∀ u ∈ ss.map strV, u.oneCell' = true := by
  intro u hu
  obtain ⟨c, _, rfl⟩ := List.mem_map.1 hu
  rfl
end Go.Proofs.Ytmgpllakpgjicaa

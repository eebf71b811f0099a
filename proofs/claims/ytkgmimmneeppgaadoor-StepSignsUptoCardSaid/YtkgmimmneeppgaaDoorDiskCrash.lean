/-
  disk.Crash, ref.Crash by their contracts.
-/
import Derived.Test.YtkgmimmneeppgaaDoorDiskFind
import Derived.Test.YtkgmimmneeppgaaDoorHeadStill
import Derived.StillTailTactics
namespace Go.Proofs.YtkgmimmneeppgaaDoor
open Go.RowKit
set_option linter.unusedVariables false
theorem own_low {w : World} {B B' e size n : Nat} {v : Value} {xs : List Value} (h : w.ownsRow B e size v n xs) (hle : B' ≤ B) : w.ownsRow B' e size v n xs := by
  refine ⟨h.1, ?_⟩
  rcases h.2 with h0 | ⟨g, cap, cur, hv, hB, r⟩
  · exact .inl h0
  · exact .inr ⟨g, cap, cur, hv, Nat.le_trans hle hB, r⟩
end Go.Proofs.YtkgmimmneeppgaaDoor

/-
  disk.Crash, ref.Crash by their contracts.
-/
import Derived.Test.YtebbeapfjahgdaaDoorDiskFind
import Derived.Test.YtebbeapfjahgdaaDoorHeadStill
import Derived.StillTailTactics
namespace Go.Proofs.YtebbeapfjahgdaaDoor
open Go.RowKit
set_option linter.unusedVariables false
theorem own_low {w : World} {B B' e size n : Nat} {v : Value} {xs : List Value} (h : w.ownsRow B e size v n xs) (hle : B' ≤ B) : w.ownsRow B' e size v n xs := by
  refine ⟨h.1, ?_⟩
  rcases h.2 with h0 | ⟨g, cap, cur, hv, hB, r⟩
  · exact .inl h0
  · exact .inr ⟨g, cap, cur, hv, Nat.le_trans hle hB, r⟩
theorem own_set {w : World} {B e size n cap g : Nat} {xs : List Value} (h : w.ownsRow B e size (.slice (some ⟨g, 0, none⟩) n cap) n xs) (j : Nat) (hj : j < xs.length) (u : Value) :
    (w.setCell ⟨g, j, none⟩ u).ownsRow B e size (.slice (some ⟨g, 0, none⟩) n cap) n (xs.set j u) := by
  have hl := h.1
  refine ⟨by rw [List.length_set]; exact hl, ?_⟩
  rcases h.2 with ⟨h0, _⟩ | ⟨g', cap', cur, hv, hB, hh, hle, hm, hs, ht⟩
  · cases h0
  · injection hv with hv hv2 hv3
    injection hv with hv
    injection hv with hv _ _
    subst hv hv3
    refine .inr ⟨g, cap, cur.setIfInBounds j u, rfl, hB, ?_, hle, hm, by rw [Array.size_setIfInBounds]; exact hs, ?_⟩
    · have : Blk w g e cur := hh
      exact this.set_ j u
    · rw [Array.toList_setIfInBounds, List.take_set, ht]
end Go.Proofs.YtebbeapfjahgdaaDoor

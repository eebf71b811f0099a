/-
  A deed and a world's keys, plainly; two small laws on rows. No program in sight.
-/
import Derived.Test.YtdpombnelangjaaGreatDoorSumL
import Derived.Test.YtdpombnelangjaaGreatDoorFoot
namespace Go.Proofs.YtdpombnelangjaaGreatDoor
set_option maxRecDepth 100000
open Go.RowKit
set_option linter.unusedVariables false

structure Dd where
  k : Int
  b : Int
  w : Int
  ref : List UInt8
  data : List UInt8
  sg : Int
  old : Bool
  size : Int
def signerN (i : Nat) : List UInt8 := [115, 105, 103, 110, 101, 114, UInt8.ofNat (48 + i)]
def witnessN (i : Nat) : List UInt8 := [119, 105, 116, 110, 101, 115, 115, UInt8.ofNat (48 + i)]
def sgnK : List (List UInt8) := [sha (signerN 0), sha (signerN 1), sha (signerN 2)]
def witK : List (List UInt8) := [sha (witnessN 0), sha (witnessN 1), sha (witnessN 2), sha (witnessN 3)]
theorem row1F {W : World} {g : Nat} {T : TypeId} {u : Value} (h : Blk W g T #[u]) : Row W 1 (some ⟨g, 0, none⟩) 1 [u] := by
  refine ⟨by simp, fun _ => ⟨g, 0, rfl, fun i v hi => ?_⟩⟩
  have := h.cell i
  rw [Nat.zero_add, this]
  simpa using hi
theorem own_lowF {w : World} {B B' e size n : Nat} {v : Value} {xs : List Value} (h : w.ownsRow B e size v n xs) (hle : B' ≤ B) : w.ownsRow B' e size v n xs := by
  refine ⟨h.1, ?_⟩
  rcases h.2 with h0 | ⟨g, cap, cur, e1, hB, r⟩
  · exact .inl h0
  · exact .inr ⟨g, cap, cur, e1, Nat.le_trans hle hB, r⟩
end Go.Proofs.YtdpombnelangjaaGreatDoor

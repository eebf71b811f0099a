/-
  What is known of a list of strings that came in within an argument.
-/
import Derived.Test.YtmgpllakpgjicaaOpenSs
namespace Go.Proofs.Ytmgpllakpgjicaa
set_option maxRecDepth 100000
open Go.RowKit Go.ChangeShapes Go.WideShapes
set_option linter.unusedVariables false
structure StrsIn (w : World) (A : Option Addr) (c : Nat) (l : List (List UInt8)) : Prop where
  row : StrRow w A l.length l
  len : l.length ≤ 1048576
  size : ∀ x ∈ l, x.length ≤ 1048576
  cap : l.length ≤ c
  nil : A = none → l.length = 0 ∧ c = 0
def szStr (l : List UInt8) : Nat := l.length + 1
theorem strs_in {w : World} {A : Option Addr} {c : Nat} {l : List (List UInt8)} (hR : sliceR w 1 strR [.slice A l.length c] l) (hb : szs szStr l ≤ 1048576) : StrsIn w A c l := by
  obtain ⟨A', c', e', h1, h2, hrow⟩ := sliceR_row (k := 1) (fun l => [strV l]) (fun _ => rfl) (by omega) (fun ci x h => h) hR
  simp only [List.cons.injEq, and_true, Value.slice.injEq, true_and] at e'
  obtain ⟨rfl, rfl⟩ := e'
  obtain ⟨A2, c2, e2, _, h3, _⟩ := hR
  simp only [List.cons.injEq, and_true, Value.slice.injEq, true_and] at e2
  obtain ⟨rfl, rfl⟩ := e2
  have hl := szs_len szStr (fun x => Nat.succ_le_succ (Nat.zero_le _)) l
  rw [flat_single] at hrow
  refine ⟨hrow, by omega, fun x hx => ?_, h1, fun h => ?_⟩
  · have h5 := szs_mem szStr hx
    unfold szStr at h5 hb
    omega
  · have := h3.2 h
    omega
end Go.Proofs.Ytmgpllakpgjicaa

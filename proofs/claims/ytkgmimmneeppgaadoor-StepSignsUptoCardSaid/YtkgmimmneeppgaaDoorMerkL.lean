/-
  Plain mathematics of merkle (P9.1 to P9.4): leaves, nodes, roots, paths that are checked from above and from below. No program in sight, no conditions.
-/
import Derived.Test.YtkgmimmneeppgaaDoorSumL
namespace Go.Proofs.YtkgmimmneeppgaaDoor
def leafH (s : List UInt8) : List UInt8 := sha ([0] ++ s)
def nodeH (a b : List UInt8) : List UInt8 := sha ([1] ++ a ++ b)
theorem nodeH_len (a b : List UInt8) : (nodeH a b).length = 32 := rfl

/-! ### the greatest power of two below a number -/
def halfN (n : Nat) : Nat := 2 ^ Nat.log2 (n - 1)
theorem halfN_of {n h : Nat} (h1 : 2 ^ h < n) (h2 : n ≤ 2 ^ (h + 1)) : halfN n = 2 ^ h := by
  unfold halfN
  have h0 : n - 1 ≠ 0 := by have := Nat.two_pow_pos h; omega
  rw [(Nat.log2_eq_iff (k := h) h0).2 ⟨by omega, by omega⟩]
theorem halfN_small {n : Nat} (h : n ≤ 2) : halfN n = 1 := by
  have : n = 0 ∨ n = 1 ∨ n = 2 := by omega
  rcases this with rfl | rfl | rfl <;> decide
theorem halfN_spec {n : Nat} (hn : 1 < n) : ∃ h, halfN n = 2 ^ h ∧ 2 ^ h < n ∧ n ≤ 2 ^ (h + 1) := by
  have h0 : n - 1 ≠ 0 := by omega
  have := (Nat.log2_eq_iff (n := n - 1) (k := Nat.log2 (n - 1)) h0).1 rfl
  exact ⟨Nat.log2 (n - 1), rfl, by omega, by omega⟩
theorem halfN_pos (n : Nat) : 0 < halfN n := Nat.two_pow_pos _
theorem halfN_lt {n : Nat} (hn : 1 < n) : halfN n < n := by
  obtain ⟨h, e, h1, _⟩ := halfN_spec hn
  rw [e]; exact h1

/-! ### roots -/
def rootL (l : List (List UInt8)) : List UInt8 :=
  if _h0 : l.length = 0 then sha []
  else if _h1 : l.length = 1 then leafH (l.getD 0 [])
  else nodeH (rootL (l.take (halfN l.length))) (rootL (l.drop (halfN l.length)))
termination_by l.length
decreasing_by
  · rw [List.length_take]; have := halfN_lt (n := l.length) (by omega); omega
  · rw [List.length_drop]; have := halfN_pos l.length; omega
theorem rootL_nil : rootL [] = sha [] := by rw [rootL]; rfl
theorem rootL_one (s : List UInt8) : rootL [s] = leafH s := by rw [rootL]; rfl
theorem rootL_more {l : List (List UInt8)} (h : 1 < l.length) : rootL l = nodeH (rootL (l.take (halfN l.length))) (rootL (l.drop (halfN l.length))) := by
  rw [rootL, dif_neg (by omega), dif_neg (by omega)]
theorem rootL_len (l : List (List UInt8)) : (rootL l).length = 32 := by
  rw [rootL]
  split
  · rfl
  · split <;> rfl

/-! ### a path from above: the last sum first -/
/-! ### a path from below -/
end Go.Proofs.YtkgmimmneeppgaaDoor

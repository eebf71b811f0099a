/-
  Names of refs (P8.1): plain facts. No program is walked.
-/
import Derived.Test.YtoamnifnfkgbiaaGreatDoorBase
namespace Go.Proofs.YtoamnifnfkgbiaaGreatDoor
set_option linter.unusedVariables false
/-- may a byte stand in a piece of a ref's name -/
def refC (n : Nat) : Bool := (decide (97 ≤ n) && decide (n ≤ 122)) || (decide (48 ≤ n) && decide (n ≤ 57)) || (n == 45) || (n == 95)
/-- byte by byte: how long the piece is at which it stands -/
def rnGo : Nat → List UInt8 → Bool
  | _, [] => true
  | p, c :: r => if c = 47 then (if p = 0 then false else rnGo 0 r) else if refC c.toNat then rnGo (p + 1) r else false
/-- P8.1 -/
def refB (s : List UInt8) : Bool := rnGo 0 (s ++ [47]) && decide (s.length ≤ 60)
theorem refC_slash : refC (47 : UInt8).toNat = false := by decide
/-- the reference's loop: what is left, at a piece so long -/
theorem rn_step (p : Nat) (c : UInt8) (r : List UInt8) : rnGo p (c :: r) = if c = 47 then (if p = 0 then false else rnGo 0 r) else if refC c.toNat then rnGo (p + 1) r else false := rfl
/-- a piece, a slash, and what is behind -/
theorem rn_piece : ∀ (x : List UInt8) (p : Nat) (t : List UInt8), (∀ c ∈ x, c ≠ 47) → rnGo p (x ++ 47 :: t) = ((decide (p ≠ 0) || !x.isEmpty) && x.all (fun c => refC c.toNat) && rnGo 0 t)
  | [], p, t, _ => by
    show rnGo p (47 :: t) = _
    rw [rn_step, if_pos rfl]
    by_cases h : p = 0
    · rw [if_pos h]; simp [h]
    · rw [if_neg h]; simp [h]
  | c :: r, p, t, h => by
    show rnGo p (c :: (r ++ 47 :: t)) = _
    rw [rn_step, if_neg (h c (List.mem_cons_self ..))]
    by_cases hc : refC c.toNat = true
    · rw [if_pos hc, rn_piece r (p + 1) t (fun x hx => h x (List.mem_cons_of_mem _ hx))]
      simp [hc]
    · rw [if_neg hc]
      simp [hc]
/-- the pieces that are still to come, taken one by one -/
theorem rn_here {x t : List UInt8} (h : ∀ c ∈ x, c ≠ 47) : rnGo 0 (x ++ 47 :: t) = (!x.isEmpty && x.all (fun c => refC c.toNat) && rnGo 0 t) := by
  rw [rn_piece x 0 t h]; simp
theorem any_notref (s : List UInt8) : (s.any fun c => !refC c.toNat) = !(s.all fun c => refC c.toNat) := by
  induction s with
  | nil => rfl
  | cons c r ih => simp [ih]
theorem rn_bad {x : List UInt8} (h : x.any (fun c => !refC c.toNat) = true) : x.all (fun c => refC c.toNat) = false := by
  rw [any_notref] at h; simpa using h
end Go.Proofs.YtoamnifnfkgbiaaGreatDoor

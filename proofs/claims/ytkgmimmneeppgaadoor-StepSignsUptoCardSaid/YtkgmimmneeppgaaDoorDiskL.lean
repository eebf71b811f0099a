/-
  Plain mathematics of disks (P6.1, P6.6, P6.7): the order of names, good disks, what is read. No program in sight, no conditions.
-/
import Derived.Test.YtkgmimmneeppgaaDoorCFunc
import Derived.Test.YtkgmimmneeppgaaDoorBRow
import Derived.Lib.Bytealg
namespace Go.Proofs.YtkgmimmneeppgaaDoor
open Go.RowKit
set_option linter.unusedVariables false
abbrev ltB := Op.bytesLess
theorem ltB_cons (a b : UInt8) (x y : List UInt8) : ltB (a :: x) (b :: y) = (decide (a < b) || (a == b && ltB x y)) := rfl
theorem ltB_trans : ∀ a b c : List UInt8, ltB a b = true → ltB b c = true → ltB a c = true
  | [], [], _, h, _ => by cases h
  | [], _ :: _, [], _, h => by cases h
  | [], _ :: _, _ :: _, _, _ => rfl
  | _ :: _, [], _, h, _ => by cases h
  | _ :: _, _ :: _, [], _, h => by cases h
  | a :: x, b :: y, c :: z, h1, h2 => by
    rw [ltB_cons, Bool.or_eq_true, Bool.and_eq_true, decide_eq_true_iff, beq_iff_eq] at h1 h2 ⊢
    rcases h1 with h1 | ⟨h1, h1'⟩
    · rcases h2 with h2 | ⟨h2, _⟩
      · exact .inl (UInt8.lt_trans h1 h2)
      · subst h2; exact .inl h1
    · subst h1
      rcases h2 with h2 | ⟨h2, h2'⟩
      · exact .inl h2
      · subst h2; exact .inr ⟨rfl, ltB_trans x y z h1' h2'⟩
/-- a file: its name, what is safe, what was written since -/
abbrev Fl := List UInt8 × List UInt8 × List UInt8
def fileC (f : Fl) : List Value := [.string (bs f.1), .string (bs f.2.1), .string (bs f.2.2)]
end Go.Proofs.YtkgmimmneeppgaaDoor

/-
  Plain mathematics of disks (P6.1, P6.6, P6.7): the order of names, good disks, what is read. No program in sight, no conditions.
-/
import Derived.Test.YtdpombnelangjaaGreatDoorNamed
import Derived.Lib.Bytealg
namespace Go.Proofs.YtdpombnelangjaaGreatDoor
open Go.RowKit
set_option linter.unusedVariables false
abbrev ltB := Op.bytesLess
theorem ltB_irr : ∀ a : List UInt8, ltB a a = false
  | [] => rfl
  | c :: r => by
    have := ltB_irr r
    show (decide (c < c) || (c == c && ltB r r)) = false
    rw [this]; simp
theorem ltB_cons (a b : UInt8) (x y : List UInt8) : ltB (a :: x) (b :: y) = (decide (a < b) || (a == b && ltB x y)) := rfl
theorem ltB_trans : ∀ a b c : List UInt8, ltB a b = true → ltB b c = true → ltB a c = true
  | [], [], _, h, _ => by cases h
  | [], _ :: _, [], _, h => by cases h
  | [], _ :: _, _ :: _, _, _ => rfl
  | _ :: _, [], _, h, _ => by cases h
  | _ :: _, _ :: _, [], _, h => by cases h
  | a :: x, b :: y, c :: z, h1, h2 => by
    rw [ltB_cons, Bool.or_eq_true, Bool.and_eq_true, decide_eq_true_iff, beq_iff_eq] at h1 h2 ⊢
    rcases h1 with h1 | ⟨h1, h1'⟩
    · rcases h2 with h2 | ⟨h2, _⟩
      · exact .inl (UInt8.lt_trans h1 h2)
      · subst h2; exact .inl h1
    · subst h1
      rcases h2 with h2 | ⟨h2, h2'⟩
      · exact .inl h2
      · subst h2; exact .inr ⟨rfl, ltB_trans x y z h1' h2'⟩
theorem ltB_tri : ∀ a b : List UInt8, ltB a b = false → ltB b a = false → a = b
  | [], [], _, _ => rfl
  | [], _ :: _, h, _ => by cases h
  | _ :: _, [], _, h => by cases h
  | a :: x, b :: y, h1, h2 => by
    rw [ltB_cons, Bool.or_eq_false_iff, Bool.and_eq_false_iff, decide_eq_false_iff_not] at h1 h2
    have e : a = b := by
      have h3 := h1.1
      have h4 := h2.1
      apply UInt8.toNat_inj.1
      rw [UInt8.lt_iff_toNat_lt] at h3 h4
      omega
    subst e
    have h3 : ltB x y = false := by rcases h1.2 with h | h; simp at h; exact h
    have h4 : ltB y x = false := by rcases h2.2 with h | h; simp at h; exact h
    rw [ltB_tri x y h3 h4]
theorem cmp_lt : ∀ a b : List UInt8, (Lib.compareBytes a b < 0 ↔ ltB a b = true) ∧ (Lib.compareBytes a b = 0 ↔ a = b)
  | [], [] => by constructor <;> simp [Lib.compareBytes, ltB, Op.bytesLess]
  | [], _ :: _ => by constructor <;> simp [Lib.compareBytes, ltB, Op.bytesLess]
  | _ :: _, [] => by constructor <;> simp [Lib.compareBytes, ltB, Op.bytesLess]
  | a :: x, b :: y => by
    have ih := cmp_lt x y
    unfold Lib.compareBytes
    rw [ltB_cons, Bool.or_eq_true, Bool.and_eq_true, decide_eq_true_iff, beq_iff_eq]
    by_cases h1 : a < b
    · rw [if_pos h1]
      refine ⟨by simp [h1], ?_⟩
      constructor
      · intro h; omega
      · intro h; injection h with h _; subst h; exact absurd h1 (by rw [UInt8.lt_iff_toNat_lt]; omega)
    · rw [if_neg h1]
      by_cases h2 : b < a
      · rw [if_pos h2]
        refine ⟨⟨fun h => by omega, fun h => ?_⟩, ⟨fun h => by omega, fun h => ?_⟩⟩
        · rcases h with h | ⟨h, _⟩
          · exact absurd h h1
          · subst h; exact absurd h2 h1
        · injection h with h _; subst h; exact absurd h2 h1
      · rw [if_neg h2]
        have e : a = b := by
          apply UInt8.toNat_inj.1
          rw [UInt8.lt_iff_toNat_lt] at h1 h2
          omega
        subst e
        refine ⟨⟨fun h => .inr ⟨rfl, ih.1.1 h⟩, fun h => ?_⟩, ⟨fun h => by rw [ih.2.1 h], fun h => ?_⟩⟩
        · rcases h with h | ⟨_, h⟩
          · exact absurd h h1
          · exact ih.1.2 h
        · injection h with _ h; exact ih.2.2 h

/-- a file: its name, what is safe, what was written since -/
abbrev Fl := List UInt8 × List UInt8 × List UInt8
def fileC (f : Fl) : List Value := [.string (bs f.1), .string (bs f.2.1), .string (bs f.2.2)]
def fileOk (f : Fl) : Bool := namedB f.1 && decide (f.2.1.length ≤ 1048576 ∧ f.2.1.length + f.2.2.length ≤ 1048576)
def goodFrom : List UInt8 → List Fl → Bool
  | _, [] => true
  | last, f :: r => fileOk f && ltB last f.1 && goodFrom f.1 r
/-- P6.1 -/
def goodFs (fs : List Fl) : Bool := decide (fs.length ≤ 400) && goodFrom [] fs
theorem namedB_ne {s : List UInt8} (h : namedB s = true) : s ≠ [] := by
  intro e; subst e; cases h
theorem ltB_nil {s : List UInt8} (h : s ≠ []) : ltB [] s = true := by
  cases s with
  | nil => exact absurd rfl h
  | cons => rfl
theorem goodFrom_sorted : ∀ (fs : List Fl) (last : List UInt8), goodFrom last fs = true → (∀ f ∈ fs, ltB last f.1 = true ∧ fileOk f = true) ∧ fs.Pairwise (fun f g => ltB f.1 g.1 = true)
  | [], _, _ => ⟨fun f h => (by cases h), .nil⟩
  | f :: r, last, h => by
    rw [goodFrom, Bool.and_eq_true, Bool.and_eq_true] at h
    obtain ⟨⟨h1, h2⟩, h3⟩ := h
    have ih := goodFrom_sorted r f.1 h3
    refine ⟨fun g hg => ?_, .cons (fun g hg => (ih.1 g hg).1) ih.2⟩
    rcases List.mem_cons.1 hg with rfl | hg
    · exact ⟨h2, h1⟩
    · exact ⟨ltB_trans _ _ _ h2 (ih.1 g hg).1, (ih.1 g hg).2⟩
/-- where a file stands -/
def atF (name : List UInt8) (fs : List Fl) : Option Nat := fs.findIdx? (fun f => f.1 == name)
/-- P6.6 -/
def readF (fs : List Fl) (name : List UInt8) : List UInt8 × Int :=
  if goodFs fs then (match fs.find? (fun f => f.1 == name) with | some f => (f.2.1 ++ f.2.2, 0) | none => ([], 7)) else ([], 3)
/-- P6.7 -/
def crashF (keep : Nat) (f : Fl) : Fl := (f.1, f.2.1 ++ f.2.2.take keep, [])
end Go.Proofs.YtdpombnelangjaaGreatDoor

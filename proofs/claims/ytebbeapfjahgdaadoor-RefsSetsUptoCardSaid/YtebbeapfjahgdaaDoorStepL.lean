/-
  Steps as values; what is wrong with one (P10.1), its body (P10.2), its bytes (P10.3): plain facts. No program is walked.
-/
import Derived.Test.YtebbeapfjahgdaaDoorRefNL
import Derived.Test.YtebbeapfjahgdaaDoorElems
import Derived.Test.YtebbeapfjahgdaaDoorWrtC
import Derived.Test.YtebbeapfjahgdaaDoorAgg
namespace Go.Proofs.YtebbeapfjahgdaaDoor
set_option maxRecDepth 100000
open Go.RowKit
set_option linter.unusedVariables false
/-- a step -/
structure Stp where
  r : List UInt8
  o : List UInt8
  n : List UInt8
  who : List Int
  seals : List (List UInt8)
/-- a number in a cell -/
def iV (n : Int) : Value := .int .i64 n
def IntRow (w : World) (A : Option Addr) (n : Nat) (l : List Int) : Prop := Row w 1 A n (l.map iV)
theorem IntRow.len {w : World} {A : Option Addr} {n : Nat} {l : List Int} (h : IntRow w A n l) : l.length = n := by have := Row.len h; simpa using this
theorem IntRow.gr {w w' : World} {A : Option Addr} {n : Nat} {l : List Int} (h : IntRow w A n l) (g : Gr w w') : IntRow w' A n l := Row.gr h g
theorem IntRow.cell {w : World} {A : Option Addr} {n : Nat} {l : List Int} (h : IntRow w A n l) {i : Nat} (hi : i < l.length) : ∃ b off, A = some ⟨b, off, none⟩ ∧ w.cell? ⟨b, off + i, none⟩ = some (.int .i64 l[i]) := by
  obtain ⟨b, off, e, hl, hc⟩ := Row.cell1 h (i := i) (by have := h.len; omega)
  exact ⟨b, off, e, by simpa [iV] using hc⟩

/-- the step's two slices as they lie in a world -/
structure StR (w : World) (s : Stp) (A : Option Addr) (c : Nat) (B : Option Addr) (d : Nat) : Prop where
  who : IntRow w A s.who.length s.who
  seals : StrRow w B s.seals.length s.seals
  wn : A = none → s.who.length = 0 ∧ c = 0
  sn : B = none → s.seals.length = 0 ∧ d = 0
  wc : s.who.length ≤ c
  sc : s.seals.length ≤ d
theorem StR.gr {w w' : World} {s : Stp} {A : Option Addr} {c : Nat} {B : Option Addr} {d : Nat} (h : StR w s A c B d) (g : Gr w w') : StR w' s A c B d := ⟨h.who.gr g, h.seals.gr g, h.wn, h.sn, h.wc, h.sc⟩
/-- P8.3: an id, or none -/
def mayB (l : List UInt8) : Bool := decide (l.length = 0) || decide (l.length = 32)
/-- P10.1: those who seal, behind a last one: the error -/
def stF : Int → List Int → List (List UInt8) → Int
  | last, w :: ws, s :: ss => if w ≤ last ∨ 7 < w then 3 else if s.length = 32 then stF w ws ss else 2
  | _, _, _ => 0
/-- where the loop stands: i seen, all of them right; the last one's number -/
def stSeen (s : Stp) (i : Nat) (last : Int) : Prop :=
  stF (-1) s.who s.seals = stF last (s.who.drop i) (s.seals.drop i) ∧ (i = 0 → last = -1) ∧ (∀ h : 0 < i ∧ i ≤ s.who.length, last = s.who[i - 1]'(by omega) ∧ 0 ≤ last)
theorem stF_cons (last w : Int) (ws : List Int) (x : List UInt8) (ss : List (List UInt8)) : stF last (w :: ws) (x :: ss) = if w ≤ last ∨ 7 < w then 3 else if x.length = 32 then stF w ws ss else 2 := rfl
theorem stSeen.here {s : Stp} {i : Nat} {last : Int} (h : stSeen s i last) (hi : i < s.who.length) (hs : i < s.seals.length) :
    stF (-1) s.who s.seals = if s.who[i] ≤ last ∨ 7 < s.who[i] then 3 else if (s.seals[i]).length = 32 then stF s.who[i] (s.who.drop (i + 1)) (s.seals.drop (i + 1)) else 2 := by
  rw [h.1, List.drop_eq_getElem_cons hi, List.drop_eq_getElem_cons hs]
  exact stF_cons ..
theorem stSeen.low {s : Stp} {i : Nat} {last : Int} (h : stSeen s i last) (hi : i ≤ s.who.length) : -1 ≤ last := by
  by_cases e : i = 0
  · have := h.2.1 e; omega
  · have := (h.2.2 ⟨by omega, by omega⟩).2; omega
theorem stSeen.next {s : Stp} {i : Nat} {last : Int} (h : stSeen s i last) (hi : i < s.who.length) (hs : i < s.seals.length) (h1 : ¬ (s.who[i] ≤ last ∨ 7 < s.who[i])) (h2 : (s.seals[i]).length = 32) : stSeen s (i + 1) s.who[i] := by
  have hl := h.low (by omega)
  refine ⟨?_, fun e => absurd e (by omega), fun _ => ⟨rfl, by omega⟩⟩
  rw [h.here hi hs, if_neg h1, if_pos h2]
theorem stSeen.done {s : Stp} {i : Nat} {last : Int} (h : stSeen s i last) (hi : s.who.length ≤ i) : stF (-1) s.who s.seals = 0 := by
  rw [h.1, List.drop_eq_nil_of_le hi]
  cases s.seals.drop i <;> rfl
theorem may_cases (l : List UInt8) : (((l.length : Int) != 0) = false ∧ mayB l = true) ∨ (((l.length : Int) != 0) = true ∧ ((l.length : Int) != 32) = false ∧ mayB l = true) ∨ (((l.length : Int) != 0) = true ∧ ((l.length : Int) != 32) = true ∧ mayB l = false) := by
  by_cases h0 : l.length = 0
  · left
    refine ⟨?_, ?_⟩
    · rw [bne_eq_false_iff_eq]; omega
    · unfold mayB; rw [decide_eq_true h0]; rfl
  · by_cases h1 : l.length = 32
    · right; left
      refine ⟨?_, ?_, ?_⟩
      · rw [bne_iff_ne]; omega
      · rw [bne_eq_false_iff_eq]; omega
      · unfold mayB; rw [decide_eq_true h1]; simp
    · right; right
      refine ⟨?_, ?_, ?_⟩
      · rw [bne_iff_ne]; omega
      · rw [bne_iff_ne]; omega
      · unfold mayB; rw [decide_eq_false h0, decide_eq_false h1]; rfl

/-! ### the body, the bytes -/
end Go.Proofs.YtebbeapfjahgdaaDoor

/-
  Lists of refs as rows and as values; what a good list is (P8.2), what a name stands for, what a list becomes (P8.3). No program is walked.
-/
import Derived.Test.YtebbeapfjahgdaaDoorRefNL
import Derived.Test.YtebbeapfjahgdaaDoorDiskL
import Derived.Test.YtebbeapfjahgdaaDoorStepL
namespace Go.Proofs.YtebbeapfjahgdaaDoor
set_option maxRecDepth 100000
open Go.RowKit
set_option linter.unusedVariables false
abbrev Rf := List UInt8 × List UInt8
def refV (f : Rf) : List Value := [.string (bs f.1), .string (bs f.2)]
theorem E.ref : ElemOk 24 42 (.agg #[.string (bs []), .string (bs [])]) 2 32 := ⟨Tryd.underlying24, by kernel_rfl, rfl, by omega⟩
def RfRow (w : World) (A : Option Addr) (n : Nat) (fs : List Rf) : Prop := Row w 2 A n (fs.flatMap refV)
theorem RfRow.gr {w w' : World} {A : Option Addr} {n : Nat} {fs : List Rf} (h : RfRow w A n fs) (g : Gr w w') : RfRow w' A n fs := Row.gr h g
theorem RfRow.len {w : World} {A : Option Addr} {n : Nat} {fs : List Rf} (h : RfRow w A n fs) : fs.length = n := Row.flen refV (fun _ => rfl) (by omega) h
theorem RfRow.cell {w : World} {A : Option Addr} {n : Nat} {fs : List Rf} (h : RfRow w A n fs) {i : Nat} (hi : i < fs.length) :
    ∃ b off, A = some ⟨b, off, none⟩ ∧ w.cell? ⟨b, off + i * 2, none⟩ = some (.string (bs fs[i].1)) ∧ w.cell? ⟨b, off + i * 2 + 1, none⟩ = some (.string (bs fs[i].2)) := by
  obtain ⟨b, off, e, _, hc⟩ := Row.fcell refV (fun _ => rfl) (by omega) h hi
  exact ⟨b, off, e, hc 0 _ rfl, hc 1 _ rfl⟩
theorem refV_one {fs : List Rf} : ∀ u ∈ fs.flatMap refV, u.oneCell' = true := by
  intro u hu
  obtain ⟨f, _, h⟩ := List.mem_flatMap.1 hu
  simp only [refV, List.mem_cons, List.not_mem_nil, or_false] at h
  rcases h with rfl | rfl <;> rfl

/-- P8.2: one ref -/
def rfOk (f : Rf) : Bool := refB f.1 && decide (f.2.length = 32)
def rgFrom : List UInt8 → List Rf → Bool
  | _, [] => true
  | last, f :: r => rfOk f && ltB last f.1 && rgFrom f.1 r
/-- P8.2 -/
def goodR (fs : List Rf) : Bool := decide (fs.length ≤ 32) && rgFrom [] fs
theorem refB_ne {s : List UInt8} (h : refB s = true) : s ≠ [] := by
  rintro rfl
  exact absurd h (by decide)
theorem rgFrom_cons (last : List UInt8) (f : Rf) (r : List Rf) : rgFrom last (f :: r) = (rfOk f && ltB last f.1 && rgFrom f.1 r) := rfl
theorem rgFrom_sorted : ∀ (fs : List Rf) (last : List UInt8), rgFrom last fs = true → (∀ f ∈ fs, ltB last f.1 = true ∧ rfOk f = true) ∧ fs.Pairwise (fun f g => ltB f.1 g.1 = true)
  | [], _, _ => ⟨fun f hf => by simp at hf, List.Pairwise.nil⟩
  | f :: r, last, h => by
    rw [rgFrom_cons, Bool.and_eq_true, Bool.and_eq_true] at h
    obtain ⟨⟨h1, h2⟩, h3⟩ := h
    have ih := rgFrom_sorted r f.1 h3
    refine ⟨fun g hg => ?_, List.Pairwise.cons (fun g hg => (ih.1 g hg).1) ih.2⟩
    rcases List.mem_cons.1 hg with rfl | hg
    · exact ⟨h2, h1⟩
    · exact ⟨ltB_trans _ _ _ h2 (ih.1 g hg).1, (ih.1 g hg).2⟩
theorem goodR_sorted {fs : List Rf} (h : goodR fs = true) : fs.length ≤ 32 ∧ (∀ f ∈ fs, refB f.1 = true ∧ f.2.length = 32) ∧ fs.Pairwise (fun f g => ltB f.1 g.1 = true) := by
  unfold goodR at h
  rw [Bool.and_eq_true, decide_eq_true_eq] at h
  obtain ⟨a, b⟩ := rgFrom_sorted fs [] h.2
  refine ⟨h.1, fun f hf => ?_, b⟩
  have := (a f hf).2
  unfold rfOk at this
  rw [Bool.and_eq_true, decide_eq_true_eq] at this
  exact this
/-- where the loop stands: i seen, all of them right; the last one's name -/
def rgSeen (fs : List Rf) (i : Nat) (last : List UInt8) : Prop := rgFrom [] fs = rgFrom last (fs.drop i) ∧ (i = 0 → last = []) ∧ ∀ h : 0 < i ∧ i ≤ fs.length, last = (fs[i - 1]'(by omega)).1
theorem rgSeen0 (fs : List Rf) : rgSeen fs 0 [] := ⟨rfl, fun _ => rfl, fun h => absurd h.1 (by omega)⟩
theorem rgSeen.here {fs : List Rf} {i : Nat} {last : List UInt8} (h : rgSeen fs i last) (hi : i < fs.length) : rgFrom [] fs = (rfOk fs[i] && ltB last fs[i].1 && rgFrom fs[i].1 (fs.drop (i + 1))) := by
  rw [h.1, List.drop_eq_getElem_cons hi]
  rfl
theorem rgSeen.next {fs : List Rf} {i : Nat} {last : List UInt8} (h : rgSeen fs i last) (hi : i < fs.length) (h1 : rfOk fs[i] = true) (h2 : ltB last fs[i].1 = true) : rgSeen fs (i + 1) fs[i].1 := by
  refine ⟨?_, fun e => absurd e (by omega), fun _ => rfl⟩
  rw [h.here hi, h1, h2]
  rfl
theorem rgSeen.done {fs : List Rf} {i : Nat} {last : List UInt8} (h : rgSeen fs i last) (hi : fs.length ≤ i) : rgFrom [] fs = true := by
  rw [h.1, List.drop_eq_nil_of_le hi]
  rfl
theorem ltB_nil' {s : List UInt8} (h : s ≠ []) : ltB [] s = true := by
  cases s with
  | nil => exact absurd rfl h
  | cons => rfl

/-! ### by name -/
/-- where a name stands or would -/
def lbR (name : List UInt8) (fs : List Rf) : Nat := (fs.takeWhile (fun f => ltB f.1 name)).length
def hasR (name : List UInt8) (fs : List Rf) : Bool := fs.any (fun f => f.1 == name)
/-- what a name stands for: the first -/
def getR (fs : List Rf) (name : List UInt8) : List UInt8 := ((fs.find? (fun f => f.1 == name)).map (·.2)).getD []
def insR (i : Nat) (f : Rf) (fs : List Rf) : List Rf := fs.take i ++ f :: fs.drop i
/-- P8.3 -/
def setR (fs : List Rf) (name old id : List UInt8) : List Rf × Int :=
  if goodR fs = true then
    (if refB name = true ∧ mayB old = true ∧ mayB id = true then
      (if getR fs name = old then
        (if hasR name fs = true then (if id = [] then (fs.eraseIdx (lbR name fs), 0) else (fs.set (lbR name fs) (name, id), 0))
        else if id = [] then (fs, 0) else if 32 ≤ fs.length then ([], 6) else (insR (lbR name fs) (name, id) fs, 0))
      else ([], 9))
    else ([], 2))
  else ([], 3)
end Go.Proofs.YtebbeapfjahgdaaDoor

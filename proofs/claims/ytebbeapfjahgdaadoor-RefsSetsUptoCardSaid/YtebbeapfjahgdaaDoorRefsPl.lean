/-
  cartularyref.GetRef, SameRefs, SetRef by their contracts.
-/
import Derived.Test.YtebbeapfjahgdaaDoorRefsSet
namespace Go.Proofs.YtebbeapfjahgdaaDoor
set_option maxRecDepth 100000
open Go.RowKit
set_option linter.unusedVariables false
/-! ### plain: a good list parted at a name -/
theorem getR_drop {fs : List Rf} {name : List UInt8} {i : Nat} (hi : i < fs.length) : getR (fs.drop i) name = if fs[i].1 = name then fs[i].2 else getR (fs.drop (i + 1)) name := by
  rw [List.drop_eq_getElem_cons hi]
  unfold getR
  rw [List.find?_cons]
  by_cases h : fs[i].1 = name
  · rw [if_pos h]; simp [h]
  · rw [if_neg h]
    have : (fs[i].1 == name) = false := by simpa using h
    rw [this]
theorem getR_nil (name : List UInt8) : getR [] name = [] := rfl
def lowR (name : List UInt8) (fs : List Rf) : List Rf := fs.filter fun f => ltB f.1 name
def upR (name : List UInt8) (fs : List Rf) : List Rf := fs.filter fun f => ltB name f.1
theorem filter_take_succ {α : Type} (p : α → Bool) (l : List α) (i : Nat) (h : i < l.length) : (l.take (i + 1)).filter p = (l.take i).filter p ++ (if p l[i] = true then [l[i]] else []) := by
  rw [List.take_succ_eq_append_getElem h, List.filter_append]
  congr 1
  by_cases hp : p l[i] = true
  · rw [if_pos hp]; simp [hp]
  · rw [if_neg hp]; simp [hp]
theorem low_eq (name : List UInt8) : ∀ fs : List Rf, SortedR fs → lowR name fs = fs.take (lbR name fs)
  | [], _ => rfl
  | f :: r, h => by
    have hr : SortedR r := (List.pairwise_cons.1 h).2
    have ih := low_eq name r hr
    unfold lowR lbR at *
    rw [List.filter_cons, List.takeWhile_cons]
    by_cases hf : ltB f.1 name = true
    · rw [if_pos hf, if_pos hf, ih]; rfl
    · rw [if_neg hf, if_neg hf]
      simp only [List.length_nil, List.take_zero]
      rw [List.filter_eq_nil_iff]
      intro g hg hgn
      exact hf (ltB_trans _ _ _ ((List.pairwise_cons.1 h).1 g hg) hgn)
theorem up_all {name : List UInt8} : ∀ fs : List Rf, (∀ f ∈ fs, ltB name f.1 = true) → upR name fs = fs := fun fs h => List.filter_eq_self.2 h
theorem up_eq (name : List UInt8) : ∀ fs : List Rf, SortedR fs → upR name fs = fs.drop (lbR name fs + if hasR name fs = true then 1 else 0)
  | [], _ => by simp [upR]
  | f :: r, h => by
    have hr : SortedR r := (List.pairwise_cons.1 h).2
    have ih := up_eq name r hr
    have hlt := (List.pairwise_cons.1 h).1
    by_cases hf : ltB f.1 name = true
    · have h1 : ltB name f.1 = false := ltB_no hf
      have h2 : (f.1 == name) = false := by
        rw [beq_eq_false_iff_ne]; intro e; rw [e, ltB_irr] at hf; cases hf
      have h3 : lbR name (f :: r) = lbR name r + 1 := by unfold lbR; rw [List.takeWhile_cons, if_pos hf]; rfl
      have h4 : hasR name (f :: r) = hasR name r := by unfold hasR; rw [List.any_cons, h2]; rfl
      have h5 : upR name (f :: r) = upR name r := by unfold upR; rw [List.filter_cons, h1]; rfl
      rw [h3, h4, h5, ih, show lbR name r + 1 + (if hasR name r = true then 1 else 0) = (lbR name r + if hasR name r = true then 1 else 0) + 1 by omega, List.drop_succ_cons]
    · have h3 : lbR name (f :: r) = 0 := by unfold lbR; rw [List.takeWhile_cons, if_neg hf]; rfl
      by_cases he : f.1 = name
      · have h4 : hasR name (f :: r) = true := by unfold hasR; rw [List.any_cons, beq_iff_eq.2 he]; rfl
        have h1 : ltB name f.1 = false := by rw [he]; exact ltB_irr _
        have h5 : upR name (f :: r) = upR name r := by unfold upR; rw [List.filter_cons, h1]; rfl
        rw [h3, h4, h5, up_all r (fun g hg => by rw [← he]; exact hlt g hg)]
        rfl
      · have h1 : ltB name f.1 = true := by
          cases hb : ltB name f.1 with
          | true => rfl
          | false => exact absurd (ltB_tri f.1 name (by simpa using hf) hb) he
        have h4 : hasR name (f :: r) = false := by
          unfold hasR
          rw [List.any_eq_false]
          intro g hg
          rcases List.mem_cons.1 hg with rfl | hg
          · simpa using he
          · have := ltB_trans _ _ _ h1 (hlt g hg)
            intro e
            have e : g.1 = name := by simpa using e
            rw [e, ltB_irr] at this
            cases this
        rw [h3, h4, up_all (f :: r) (fun g hg => by
          rcases List.mem_cons.1 hg with rfl | hg
          · exact h1
          · exact ltB_trans _ _ _ h1 (hlt g hg))]
        rfl
/-- P8.3 as the document's answer builds it -/
def refSet (name id : List UInt8) (fs : List Rf) : List Rf := lowR name fs ++ ((if id = [] then [] else [(name, id)]) ++ upR name fs)
theorem refSet_has {name id : List UInt8} {fs : List Rf} (h : SortedR fs) (hh : hasR name fs = true) : refSet name id fs = if id = [] then fs.eraseIdx (lbR name fs) else fs.set (lbR name fs) (name, id) := by
  obtain ⟨hi, h1, _⟩ := getR_has h hh
  unfold refSet
  rw [low_eq name fs h, up_eq name fs h, hh, if_pos rfl]
  by_cases hid : id = []
  · rw [if_pos hid, if_pos hid, List.eraseIdx_eq_take_drop_succ]; rfl
  · rw [if_neg hid, if_neg hid, List.set_eq_take_append_cons_drop, if_pos hi]; rfl
theorem refSet_no {name id : List UInt8} {fs : List Rf} (h : SortedR fs) (hh : hasR name fs = false) : refSet name id fs = if id = [] then fs else insR (lbR name fs) (name, id) fs := by
  unfold refSet insR
  rw [low_eq name fs h, up_eq name fs h, hh]
  by_cases hid : id = []
  · rw [if_pos hid, if_pos hid]; simp
  · rw [if_neg hid, if_neg hid]; rfl
/-- with ids of 32 bytes: none stands for the name iff it answers none -/
theorem getR_empty {fs : List Rf} (h : SortedR fs) (hs : ∀ f ∈ fs, f.2.length = 32) {name : List UInt8} : (getR fs name = []) ↔ hasR name fs = false := by
  constructor
  · intro hg
    cases hh : hasR name fs with
    | false => rfl
    | true =>
      obtain ⟨hi, _, h2⟩ := getR_has h hh
      have := hs _ (List.getElem_mem hi)
      rw [← h2, hg] at this
      cases this
  · exact getR_no
/-- the document's way to the same answer -/
theorem setR_ref {fs : List Rf} (hG : goodR fs = true) (name old id : List UInt8) : setR fs name old id =
    if (refB name && (mayB old && mayB id)) = true then (if getR fs name = old then (if old = [] ∧ id ≠ [] ∧ fs.length = 32 then ([], 6) else (refSet name id fs, 0)) else ([], 9)) else ([], 2) := by
  obtain ⟨h32, hsz, hso⟩ := goodR_sorted hG
  unfold setR
  rw [if_pos hG]
  simp only [Bool.and_eq_true]
  split
  · split
    · rename_i hgo
      have he := getR_empty hso (fun f hf => (hsz f hf).2) (name := name)
      rw [hgo] at he
      cases hh : hasR name fs with
      | true =>
        have ho : ¬ old = [] := fun h => by rw [he.1 h] at hh; cases hh
        have hc : ¬ (old = [] ∧ id ≠ [] ∧ fs.length = 32) := fun h => ho h.1
        rw [if_pos rfl, refSet_has hso hh, if_neg hc]
        by_cases hid : id = []
        · rw [if_pos hid, if_pos hid]
        · rw [if_neg hid, if_neg hid]
      | false =>
        have ho : old = [] := he.2 hh
        rw [if_neg (by simp), refSet_no hso hh]
        by_cases hid : id = []
        · rw [if_pos hid, if_neg (fun h => h.2.1 hid), if_pos hid]
        · rw [if_neg hid]
          by_cases hl : 32 ≤ fs.length
          · rw [if_pos hl, if_pos ⟨ho, hid, by omega⟩]
          · rw [if_neg hl, if_neg (fun h => hl (by omega)), if_neg hid]
    · rfl
  · rfl
end Go.Proofs.YtebbeapfjahgdaaDoor

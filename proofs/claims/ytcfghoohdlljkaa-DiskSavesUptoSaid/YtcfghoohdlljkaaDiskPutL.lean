/-
  ref.put on a disk's sorted files: a plain law.
-/
import Derived.Test.YtcfghoohdlljkaaDiskPut
namespace Go.Proofs.Ytcfghoohdlljkaa
open Go.RowKit
set_option linter.unusedVariables false

theorem ltB_ne {a b : List UInt8} (h : ltB a b = true) : (a == b) = false := by
  cases hb : a == b with
  | false => rfl
  | true =>
    have : a = b := by simpa using hb
    rw [this, ltB_irr] at h; cases h
theorem ltB_ne' {a b : List UInt8} (h : ltB a b = true) : (b == a) = false := by
  cases hb : b == a with
  | false => rfl
  | true =>
    have : b = a := by simpa using hb
    rw [this, ltB_irr] at h; cases h
theorem put_done (f : Fl) : ∀ (l acc : List Fl), (∀ x ∈ l, ltB f.1 x.1 = true) → l.foldl (putStep f) (acc, true) = (acc ++ l, true)
  | [], acc, _ => by simp
  | x :: r, acc, h => by
    have h1 := h x (by simp)
    rw [List.foldl_cons]
    have : putStep f (acc, true) x = (acc ++ [x], true) := by unfold putStep; rw [ltB_ne' h1]; rfl
    rw [this, put_done f r _ (fun y hy => h y (by simp [hy]))]
    simp
theorem put_low (f : Fl) : ∀ (l acc : List Fl), (∀ x ∈ l, ltB x.1 f.1 = true) → l.foldl (putStep f) (acc, false) = (acc ++ l, false)
  | [], acc, _ => by simp
  | x :: r, acc, h => by
    have h1 := h x (by simp)
    rw [List.foldl_cons]
    have : putStep f (acc, false) x = (acc ++ [x], false) := by unfold putStep; rw [ltB_ne h1, ltB_asym h1]; rfl
    rw [this, put_low f r _ (fun y hy => h y (by simp [hy]))]
    simp
def putEnd (f : Fl) (st : List Fl × Bool) : List Fl := if st.2 then st.1 else st.1 ++ [f]
theorem put_high (f : Fl) (l acc : List Fl) (h : ∀ x ∈ l, ltB f.1 x.1 = true) : putEnd f (l.foldl (putStep f) (acc, false)) = acc ++ f :: l := by
  cases l with
  | nil => simp [putEnd]
  | cons x r =>
    have h1 := h x (by simp)
    rw [List.foldl_cons]
    have : putStep f (acc, false) x = (acc ++ [f] ++ [x], true) := by unfold putStep; rw [ltB_ne' h1, h1]; rfl
    rw [this, put_done f r _ (fun y hy => h y (by simp [hy]))]
    simp [putEnd]
theorem lb_split (name : List UInt8) : ∀ fs : List Fl, (∀ x ∈ fs.take (lbF name fs), ltB x.1 name = true) ∧ (∀ h : lbF name fs < fs.length, ltB fs[lbF name fs].1 name = false)
  | [] => ⟨fun x hx => by simp at hx, fun h => by simp at h⟩
  | y :: r => by
    obtain ⟨h1, h2⟩ := lb_split name r
    cases hy : ltB y.1 name with
    | true =>
      have e : lbF name (y :: r) = lbF name r + 1 := by unfold lbF; rw [List.takeWhile_cons_of_pos (by simpa using hy)]; rfl
      refine ⟨fun x hx => ?_, fun h => ?_⟩
      · rw [e, List.take_succ_cons] at hx
        rcases List.mem_cons.1 hx with rfl | hx
        · exact hy
        · exact h1 x hx
      · simp only [e, List.getElem_cons_succ]
        exact h2 (by rw [e] at h; simpa using h)
    | false =>
      have e : lbF name (y :: r) = 0 := by unfold lbF; rw [List.takeWhile_cons_of_neg (by simp [hy])]; rfl
      refine ⟨fun x hx => by rw [e] at hx; simp at hx, fun h => ?_⟩
      simp only [e, List.getElem_cons_zero]
      exact hy
theorem put_sorted (f : Fl) (fs : List Fl) (hs : SortedF fs) : putF f fs = if hasF f.1 fs then fs.set (lbF f.1 fs) f else insF (lbF f.1 fs) f fs := by
  have hle := lbF_le f.1 fs
  have hlow := (lb_split f.1 fs).1
  have e : putF f fs = putEnd f ((fs.drop (lbF f.1 fs)).foldl (putStep f) (fs.take (lbF f.1 fs), false)) := by
    show putEnd f (putGo f fs) = _
    unfold putGo
    conv => lhs; rw [← List.take_append_drop (lbF f.1 fs) fs, List.foldl_append]
    rw [put_low f _ [] hlow, List.nil_append]
  rw [e]
  cases hh : hasF f.1 fs with
  | true =>
    obtain ⟨h1, h2⟩ := hasF_lt hs hh
    rw [List.drop_eq_getElem_cons h1, List.foldl_cons]
    have : putStep f (fs.take (lbF f.1 fs), false) fs[lbF f.1 fs] = (fs.take (lbF f.1 fs), false) := by unfold putStep; rw [h2]; simp
    rw [this, put_high f _ _ (fun x hx => ?_), if_pos rfl, List.set_eq_take_append_cons_drop, if_pos h1]
    obtain ⟨m, hm, rfl⟩ := List.getElem_of_mem hx
    rw [List.getElem_drop]
    have := hs.get (i := lbF f.1 fs) (j := lbF f.1 fs + 1 + m) (by simp at hm; omega) (by omega)
    rwa [h2] at this
  | false =>
    rw [put_high f _ _ (fun x hx => ?_), if_neg (by decide)]
    · rfl
    · obtain ⟨m, hm, rfl⟩ := List.getElem_of_mem hx
      rw [List.getElem_drop]
      have hm' : lbF f.1 fs + m < fs.length := by simp at hm; omega
      have h0 : lbF f.1 fs < fs.length := by omega
      have hge : ltB fs[lbF f.1 fs].1 f.1 = false := by
        exact (lb_split f.1 fs).2 h0
      have h3 := hs.above hm' (Nat.le_add_right _ _) hge
      have h4 : (fs[lbF f.1 fs + m].1 == f.1) = false := by
        have := List.any_eq_false.1 hh fs[lbF f.1 fs + m] (List.getElem_mem hm')
        simpa using this
      cases h5 : ltB f.1 fs[lbF f.1 fs + m].1 with
      | true => rfl
      | false =>
        have := ltB_tri _ _ h3 h5
        rw [this] at h4
        simp at h4
end Go.Proofs.Ytcfghoohdlljkaa

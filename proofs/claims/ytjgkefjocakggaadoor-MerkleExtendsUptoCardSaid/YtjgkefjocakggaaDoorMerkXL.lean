/-
  Plain mathematics of merkle, third part (P9.6): a proof that one list goes on from another, checked from above and from below. No program in sight, no conditions.
-/
import Derived.Test.YtjgkefjocakggaaDoorMerkL
namespace Go.Proofs.YtjgkefjocakggaaDoor

abbrev Two2 := List UInt8 × List UInt8
/-- from above: the last sum first; the roots of the first m and of all n, and whether that is all -/
def bothR (old : List UInt8) : Nat → Nat → Bool → List (List UInt8) → Option Two2
  | m, n, wh, [] => if m = n then (if wh then some (old, old) else none) else none
  | m, n, wh, last :: r =>
    if m = n then (if wh then none else match r with | [] => some (last, last) | _ :: _ => none)
    else if m ≤ halfN n then (bothR old m (halfN n) wh r).map fun x => (x.1, nodeH x.2 last)
    else (bothR old (m - halfN n) (n - halfN n) false r).map fun x => (nodeH last x.1, nodeH last x.2)

theorem bothR_nil (old : List UInt8) (m n : Nat) (wh : Bool) : bothR old m n wh [] = if m = n then (if wh then some (old, old) else none) else none := by unfold bothR; rfl
theorem bothR_cons (old : List UInt8) (m n : Nat) (wh : Bool) (last : List UInt8) (r : List (List UInt8)) : bothR old m n wh (last :: r) = if m = n then (if wh then none else match r with | [] => some (last, last) | _ :: _ => none)
    else if m ≤ halfN n then (bothR old m (halfN n) wh r).map fun x => (x.1, nodeH x.2 last)
    else (bothR old (m - halfN n) (n - halfN n) false r).map fun x => (nodeH last x.1, nodeH last x.2) := by
  cases r <;> rfl

def stOnes (at_ last : Nat) : Nat × Nat := if _h : at_ % 2 = 1 then stOnes (at_ / 2) (last / 2) else (at_, last)
termination_by at_
decreasing_by omega
theorem stOnes_odd {a l : Nat} (h : a % 2 = 1) : stOnes a l = stOnes (a / 2) (l / 2) := by rw [stOnes, dif_pos h]
theorem stOnes_even {a l : Nat} (h : a % 2 = 0) : stOnes a l = (a, l) := by rw [stOnes, dif_neg (by omega)]
def ss2 (a l : Nat) : List Bool := sides (stOnes a l).1 (stOnes a l).2
theorem stOnes_fst : ∀ (a l l' : Nat), (stOnes a l).1 = (stOnes a l').1 := by
  intro a
  induction a using Nat.strongRecOn with
  | ind a ih =>
    intro l l'
    by_cases h : a % 2 = 1
    · rw [stOnes_odd h, stOnes_odd (l := l') h]; exact ih (a / 2) (by omega) _ _
    · rw [stOnes_even (by omega), stOnes_even (l := l') (by omega)]
theorem stOnes_le : ∀ (a l : Nat), a ≤ l → (stOnes a l).1 ≤ (stOnes a l).2 := by
  intro a
  induction a using Nat.strongRecOn with
  | ind a ih =>
    intro l hl
    by_cases h : a % 2 = 1
    · rw [stOnes_odd h]; exact ih (a / 2) (by omega) _ (by omega)
    · rw [stOnes_even (by omega)]; exact hl
theorem stOnes_lt : ∀ (a l : Nat), a < l → (stOnes a l).1 < (stOnes a l).2 := by
  intro a
  induction a using Nat.strongRecOn with
  | ind a ih =>
    intro l hl
    by_cases h : a % 2 = 1
    · rw [stOnes_odd h]; exact ih (a / 2) (by omega) _ (by omega)
    · rw [stOnes_even (by omega)]; exact hl
theorem stOnes_ones : ∀ (j : Nat), stOnes (2 ^ j - 1) (2 ^ j - 1) = (0, 0) := by
  intro j
  induction j with
  | zero => rw [stOnes_even (by omega)]
  | succ j ih =>
    have hp := Nat.two_pow_pos j
    have e : 2 ^ (j + 1) = 2 * 2 ^ j := by rw [Nat.pow_succ]; omega
    rw [stOnes_odd (by omega), show (2 ^ (j + 1) - 1) / 2 = 2 ^ j - 1 by omega]
    exact ih
/-- behind the ones nothing is left: it was ones alone -/
theorem stOnes_zero : ∀ (a l h : Nat), a < 2 ^ h → a + 1 < 2 ^ h → 2 ^ h ≤ 2 * a + 1 → (stOnes a l).1 ≠ 0 := by
  intro a
  induction a using Nat.strongRecOn with
  | ind a ih =>
    intro l h h1 h2 h3
    by_cases ho : a % 2 = 1
    · rw [stOnes_odd ho]
      cases h with
      | zero => omega
      | succ h =>
        have e : 2 ^ (h + 1) = 2 * 2 ^ h := by rw [Nat.pow_succ]; omega
        exact ih (a / 2) (by omega) _ h (by omega) (by omega) (by omega)
    · rw [stOnes_even (by omega)]
      have hp := Nat.two_pow_pos h
      show a ≠ 0
      intro e
      subst e
      omega
theorem ss2_left : ∀ (h a l : Nat), a < 2 ^ h → 2 ^ h ≤ l → l < 2 ^ (h + 1) → ss2 a l = ss2 a (2 ^ h - 1) ++ [false] := by
  intro h
  induction h with
  | zero =>
    intro a l h1 h2 h3
    obtain rfl : a = 0 := by omega
    unfold ss2
    rw [stOnes_even (by omega), stOnes_even (l := 2 ^ 0 - 1) (by omega)]
    exact sides_left 0 0 l (by omega) h2 h3
  | succ h ih =>
    intro a l h1 h2 h3
    have hp := Nat.two_pow_pos h
    have e1 : 2 ^ (h + 1) = 2 * 2 ^ h := by rw [Nat.pow_succ]; omega
    have e2 : 2 ^ (h + 1 + 1) = 2 * 2 ^ (h + 1) := by rw [Nat.pow_succ]; omega
    by_cases ho : a % 2 = 1
    · have := ih (a / 2) (l / 2) (by omega) (by omega) (by omega)
      unfold ss2 at this ⊢
      rw [stOnes_odd ho, stOnes_odd (l := 2 ^ (h + 1) - 1) ho, show (2 ^ (h + 1) - 1) / 2 = 2 ^ h - 1 by omega]
      exact this
    · unfold ss2
      rw [stOnes_even (by omega), stOnes_even (l := 2 ^ (h + 1) - 1) (by omega)]
      exact sides_left (h + 1) a l h1 h2 h3
theorem ss2_right : ∀ (h a l : Nat), 2 ^ h ≤ a → a < l → l < 2 ^ (h + 1) → ss2 a l = ss2 (a - 2 ^ h) (l - 2 ^ h) ++ [true] := by
  intro h
  induction h with
  | zero => intro a l h1 h2 h3; omega
  | succ h ih =>
    intro a l h1 h2 h3
    have hp := Nat.two_pow_pos h
    have e1 : 2 ^ (h + 1) = 2 * 2 ^ h := by rw [Nat.pow_succ]; omega
    have e2 : 2 ^ (h + 1 + 1) = 2 * 2 ^ (h + 1) := by rw [Nat.pow_succ]; omega
    by_cases ho : a % 2 = 1
    · have := ih (a / 2) (l / 2) (by omega) (by omega) (by omega)
      unfold ss2 at this ⊢
      rw [stOnes_odd ho, stOnes_odd (a := a - 2 ^ (h + 1)) (by omega), show (a - 2 ^ (h + 1)) / 2 = a / 2 - 2 ^ h by omega, show (l - 2 ^ (h + 1)) / 2 = l / 2 - 2 ^ h by omega]
      exact this
    · unfold ss2
      rw [stOnes_even (by omega), stOnes_even (a := a - 2 ^ (h + 1)) (by omega)]
      exact sides_right (h + 1) a l h1 (by omega) h3

def runB : List Bool → Two2 → List (List UInt8) → Option Two2
  | [], x, [] => some x
  | [], _, _ :: _ => none
  | _ :: _, _, [] => none
  | b :: bs, x, c :: cs => runB bs (if b then (nodeH c x.1, nodeH c x.2) else (x.1, nodeH x.2 c)) cs
theorem runB_snoc : ∀ (ds : List Bool) (b : Bool) (x : Two2) (ps : List (List UInt8)) (p : List UInt8),
    runB (ds ++ [b]) x (ps ++ [p]) = (runB ds x ps).map (fun x => if b then (nodeH p x.1, nodeH p x.2) else (x.1, nodeH x.2 p)) := by
  intro ds
  induction ds with
  | nil =>
    intro b x ps p
    cases ps with
    | nil => rfl
    | cons q qs => cases qs <;> rfl
  | cons d ds ih =>
    intro b x ps p
    cases ps with
    | nil => cases ds <;> rfl
    | cons q qs => exact ih b _ qs p
theorem runB_snoc_nil (ds : List Bool) (b : Bool) (x : Two2) : runB (ds ++ [b]) x [] = none := by cases ds <;> rfl

/-- from the first sum on: the old root itself, or the first of the proof -/
def startB (wh : Bool) (old : List UInt8) (ds : List Bool) : List (List UInt8) → Option Two2
  | [] => if wh then runB ds (old, old) [] else none
  | p :: ps => if wh then runB ds (old, old) (p :: ps) else runB ds (p, p) ps
theorem startB_snoc (wh : Bool) (old : List UInt8) (ds : List Bool) (b : Bool) (ps : List (List UInt8)) (p : List UInt8) :
    startB wh old (ds ++ [b]) (ps ++ [p]) = (startB wh old ds ps).map (fun x => if b then (nodeH p x.1, nodeH p x.2) else (x.1, nodeH x.2 p)) := by
  cases ps with
  | nil =>
    cases wh with
    | true => exact runB_snoc ds b (old, old) [] p
    | false => exact runB_snoc_nil ds b (p, p)
  | cons q qs =>
    cases wh with
    | true => exact runB_snoc ds b (old, old) (q :: qs) p
    | false => exact runB_snoc ds b (q, q) qs p
theorem startB_snoc_nil (wh : Bool) (old : List UInt8) (ds : List Bool) (b : Bool) : startB wh old (ds ++ [b]) [] = none := by
  cases wh with
  | true => exact runB_snoc_nil ds b _
  | false => rfl

theorem both_start (old : List UInt8) : ∀ (r : List (List UInt8)) (a l : Nat) (wh : Bool), a < l ∨ (a = l ∧ ∃ j, l = 2 ^ j - 1) →
    bothR old (a + 1) (l + 1) wh r = startB (wh && decide ((stOnes a l).1 = 0)) old (ss2 a l) r.reverse := by
  intro r
  induction r with
  | nil =>
    intro a l wh hP
    unfold bothR
    rcases hP with hlt | ⟨rfl, j, rfl⟩
    · rw [if_neg (by omega)]
      obtain ⟨h, e, k1, k2⟩ := halfN_spec (n := l + 1) (by omega)
      by_cases hi : a < 2 ^ h
      · rw [ss2_left h a l hi (by omega) (by omega)]; exact (startB_snoc_nil _ _ _ _).symm
      · rw [ss2_right h a l (by omega) hlt (by omega)]; exact (startB_snoc_nil _ _ _ _).symm
    · rw [if_pos rfl]
      have h0 := stOnes_ones j
      unfold ss2
      rw [h0, sides_zero]
      cases wh <;> rfl
  | cons last r ih =>
    intro a l wh hP
    unfold bothR
    rw [List.reverse_cons]
    rcases hP with hlt | ⟨rfl, j, rfl⟩
    · rw [if_neg (by omega)]
      obtain ⟨h, e, k1, k2⟩ := halfN_spec (n := l + 1) (by omega)
      have hp := Nat.two_pow_pos h
      rw [e]
      by_cases hi : a < 2 ^ h
      · rw [if_pos (by omega), ss2_left h a l hi (by omega) (by omega), startB_snoc]
        have := ih a (2 ^ h - 1) wh (by
          by_cases h2 : a < 2 ^ h - 1
          · exact .inl h2
          · exact .inr ⟨by omega, h, rfl⟩)
        rw [show 2 ^ h - 1 + 1 = 2 ^ h by omega] at this
        rw [this, stOnes_fst a (2 ^ h - 1) l]
        rfl
      · rw [if_neg (by omega), ss2_right h a l (by omega) hlt (by omega), startB_snoc]
        have := ih (a - 2 ^ h) (l - 2 ^ h) false (.inl (by omega))
        rw [show a + 1 - 2 ^ h = a - 2 ^ h + 1 by omega, show l + 1 - 2 ^ h = l - 2 ^ h + 1 by omega, this]
        have hz := stOnes_zero a l (h + 1) (by omega) (by omega) (by rw [Nat.pow_succ]; omega)
        rw [decide_eq_false hz, Bool.and_false, Bool.false_and]
        rfl
    · rw [if_pos rfl]
      have h0 := stOnes_ones j
      unfold ss2
      rw [h0, sides_zero]
      cases wh with
      | true => cases r.reverse <;> rfl
      | false =>
        cases r with
        | nil => rfl
        | cons q qs =>
          rw [List.reverse_cons]
          cases qs.reverse with
          | nil => rfl
          | cons z zs => cases zs <;> rfl

/-- from below -/
def exI (at_ last : Nat) (x : Two2) : List (List UInt8) → Option Two2
  | [] => if last = 0 then some x else none
  | c :: cs =>
    if last = 0 then none
    else if at_ % 2 = 1 ∨ at_ = last then exI ((strip at_ last).1 / 2) ((strip at_ last).2 / 2) (nodeH c x.1, nodeH c x.2) cs
    else exI (at_ / 2) (last / 2) (x.1, nodeH x.2 c) cs
theorem strip_le : ∀ a l : Nat, a ≤ l → (strip a l).1 ≤ (strip a l).2 := by
  intro a
  induction a using Nat.strongRecOn with
  | ind a ih =>
    intro l hle
    by_cases hh : a % 2 = 0 ∧ 0 < a
    · rw [strip_go hh]; exact ih _ (by omega) _ (by omega)
    · rw [strip_end hh]; exact hle
theorem exI_runB : ∀ (ps : List (List UInt8)) (a l : Nat) (x : Two2), a ≤ l → exI a l x ps = runB (sides a l) x ps := by
  intro ps
  induction ps with
  | nil =>
    intro a l r hle
    unfold exI
    by_cases hl : l = 0
    · subst hl; rw [sides_zero, if_pos rfl]; rfl
    · rw [if_neg hl]
      have : ∃ b bs, sides a l = b :: bs := by
        by_cases h : a % 2 = 1 ∨ a = l
        · exact ⟨_, _, sides_strip a l hl hle h⟩
        · exact ⟨_, _, sides_even hl (by omega) (by omega)⟩
      obtain ⟨b, bs, e⟩ := this
      rw [e]; rfl
  | cons p ps ih =>
    intro a l r hle
    unfold exI
    by_cases hl : l = 0
    · subst hl; rw [sides_zero, if_pos rfl]; rfl
    · rw [if_neg hl]
      by_cases h : a % 2 = 1 ∨ a = l
      · rw [if_pos h, sides_strip a l hl hle h, ih]
        · rfl
        · have := strip_le a l hle
          omega
      · rw [if_neg h, sides_even hl (by omega) (by omega), ih _ _ _ (by omega)]
        rfl
/-- P9.6, 0 < m < n: from above and from below the same -/
theorem both_exI (old : List UInt8) (ps : List (List UInt8)) (m n : Nat) (h0 : 0 < m) (h1 : m < n) :
    bothR old m n true ps.reverse = match (if (stOnes (m - 1) (n - 1)).1 = 0 then old :: ps else ps) with
      | [] => none
      | p :: cs => exI (stOnes (m - 1) (n - 1)).1 (stOnes (m - 1) (n - 1)).2 (p, p) cs := by
  have h := both_start old ps.reverse (m - 1) (n - 1) true (.inl (by omega))
  rw [show m - 1 + 1 = m by omega, show n - 1 + 1 = n by omega, List.reverse_reverse, Bool.true_and] at h
  rw [h]
  have hle := stOnes_le (m - 1) (n - 1) (by omega)
  by_cases hz : (stOnes (m - 1) (n - 1)).1 = 0
  · rw [if_pos hz, decide_eq_true hz]
    show _ = exI _ _ (old, old) ps
    rw [exI_runB _ _ _ _ hle]
    cases ps <;> rfl
  · rw [if_neg hz, decide_eq_false hz]
    cases ps with
    | nil => rfl
    | cons p cs =>
      show _ = exI _ _ (p, p) cs
      rw [exI_runB _ _ _ _ hle]; rfl
end Go.Proofs.YtjgkefjocakggaaDoor

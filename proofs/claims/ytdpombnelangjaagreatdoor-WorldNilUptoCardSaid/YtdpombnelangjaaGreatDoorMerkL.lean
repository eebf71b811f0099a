/-
  Plain mathematics of merkle (P9.1 to P9.4): leaves, nodes, roots, paths that are checked from above and from below. No program in sight, no conditions.
-/
import Derived.Test.YtdpombnelangjaaGreatDoorSumL
namespace Go.Proofs.YtdpombnelangjaaGreatDoor
def leafH (s : List UInt8) : List UInt8 := sha ([0] ++ s)
def nodeH (a b : List UInt8) : List UInt8 := sha ([1] ++ a ++ b)
theorem leafH_len (s : List UInt8) : (leafH s).length = 32 := rfl
theorem nodeH_len (a b : List UInt8) : (nodeH a b).length = 32 := rfl

/-! ### the greatest power of two below a number -/
def halfN (n : Nat) : Nat := 2 ^ Nat.log2 (n - 1)
theorem halfN_of {n h : Nat} (h1 : 2 ^ h < n) (h2 : n ≤ 2 ^ (h + 1)) : halfN n = 2 ^ h := by
  unfold halfN
  have h0 : n - 1 ≠ 0 := by have := Nat.two_pow_pos h; omega
  rw [(Nat.log2_eq_iff (k := h) h0).2 ⟨by omega, by omega⟩]
theorem halfN_small {n : Nat} (h : n ≤ 2) : halfN n = 1 := by
  have : n = 0 ∨ n = 1 ∨ n = 2 := by omega
  rcases this with rfl | rfl | rfl <;> decide
theorem halfN_spec {n : Nat} (hn : 1 < n) : ∃ h, halfN n = 2 ^ h ∧ 2 ^ h < n ∧ n ≤ 2 ^ (h + 1) := by
  have h0 : n - 1 ≠ 0 := by omega
  have := (Nat.log2_eq_iff (n := n - 1) (k := Nat.log2 (n - 1)) h0).1 rfl
  exact ⟨Nat.log2 (n - 1), rfl, by omega, by omega⟩
theorem halfN_pos (n : Nat) : 0 < halfN n := Nat.two_pow_pos _
theorem halfN_lt {n : Nat} (hn : 1 < n) : halfN n < n := by
  obtain ⟨h, e, h1, _⟩ := halfN_spec hn
  rw [e]; exact h1

/-! ### roots -/
def rootL (l : List (List UInt8)) : List UInt8 :=
  if _h0 : l.length = 0 then sha []
  else if _h1 : l.length = 1 then leafH (l.getD 0 [])
  else nodeH (rootL (l.take (halfN l.length))) (rootL (l.drop (halfN l.length)))
termination_by l.length
decreasing_by
  · rw [List.length_take]; have := halfN_lt (n := l.length) (by omega); omega
  · rw [List.length_drop]; have := halfN_pos l.length; omega
theorem rootL_nil : rootL [] = sha [] := by rw [rootL]; rfl
theorem rootL_one (s : List UInt8) : rootL [s] = leafH s := by rw [rootL]; rfl
theorem rootL_more {l : List (List UInt8)} (h : 1 < l.length) : rootL l = nodeH (rootL (l.take (halfN l.length))) (rootL (l.drop (halfN l.length))) := by
  rw [rootL, dif_neg (by omega), dif_neg (by omega)]
theorem rootL_len (l : List (List UInt8)) : (rootL l).length = 32 := by
  rw [rootL]
  split
  · rfl
  · split <;> rfl

/-! ### a path from above: the last sum first -/
def upR (leaf : List UInt8) (n i : Nat) : List (List UInt8) → List UInt8 × Bool
  | [] => if n = 1 then (leaf, true) else ([], false)
  | last :: r =>
    if n = 1 then (leaf, false)
    else if i < halfN n then ((nodeH (upR leaf (halfN n) i r).1 last), (upR leaf (halfN n) i r).2)
    else ((nodeH last (upR leaf (n - halfN n) (i - halfN n) r).1), (upR leaf (n - halfN n) (i - halfN n) r).2)
theorem upR_len (leaf : List UInt8) (hl : leaf.length ≤ 32) : ∀ (r : List (List UInt8)) (n i : Nat), (upR leaf n i r).1.length ≤ 32
  | [], n, i => by unfold upR; split <;> simp [hl]
  | last :: r, n, i => by
    unfold upR
    split
    · exact hl
    · split <;> exact Nat.le_of_eq (nodeH_len _ _)

/-! ### a path from below -/
def strip (at_ last : Nat) : Nat × Nat := if _h : at_ % 2 = 0 ∧ 0 < at_ then strip (at_ / 2) (last / 2) else (at_, last)
termination_by at_
decreasing_by omega
theorem strip_go {a l : Nat} (h : a % 2 = 0 ∧ 0 < a) : strip a l = strip (a / 2) (l / 2) := by rw [strip, dif_pos h]
theorem strip_end {a l : Nat} (h : ¬ (a % 2 = 0 ∧ 0 < a)) : strip a l = (a, l) := by rw [strip, dif_neg h]
def ckI (at_ last : Nat) (r : List UInt8) : List (List UInt8) → Option (List UInt8)
  | [] => if last = 0 then some r else none
  | p :: ps =>
    if last = 0 then none
    else if at_ % 2 = 1 ∨ at_ = last then ckI ((strip at_ last).1 / 2) ((strip at_ last).2 / 2) (nodeH p r) ps
    else ckI (at_ / 2) (last / 2) (nodeH r p) ps

/-- on which side the sums stand, from below: true: on the left -/
def sides (at_ last : Nat) : List Bool :=
  if _h : last = 0 then []
  else if at_ % 2 = 1 then true :: sides (at_ / 2) (last / 2)
  else if at_ = last then sides (at_ / 2) (last / 2)
  else false :: sides (at_ / 2) (last / 2)
termination_by last
decreasing_by all_goals omega
theorem sides_zero (a : Nat) : sides a 0 = [] := by rw [sides, dif_pos rfl]
theorem sides_odd {a l : Nat} (hl : l ≠ 0) (h : a % 2 = 1) : sides a l = true :: sides (a / 2) (l / 2) := by rw [sides, dif_neg hl, if_pos h]
theorem sides_eq {a l : Nat} (hl : l ≠ 0) (h : a % 2 = 0) (e : a = l) : sides a l = sides (a / 2) (l / 2) := by rw [sides, dif_neg hl, if_neg (by omega), if_pos e]
theorem sides_even {a l : Nat} (hl : l ≠ 0) (h : a % 2 = 0) (e : a ≠ l) : sides a l = false :: sides (a / 2) (l / 2) := by rw [sides, dif_neg hl, if_neg (by omega), if_neg e]
theorem sides_strip : ∀ (a l : Nat), l ≠ 0 → a ≤ l → (a % 2 = 1 ∨ a = l) → sides a l = true :: sides ((strip a l).1 / 2) ((strip a l).2 / 2) := by
  intro a
  induction a using Nat.strongRecOn with
  | ind a ih =>
    intro l hl hle h
    by_cases ho : a % 2 = 1
    · rw [strip_end (by omega), sides_odd hl ho]
    · have e : a = l := by omega
      subst e
      rw [strip_go ⟨by omega, by omega⟩, sides_eq hl (by omega) rfl]
      exact ih (a / 2) (by omega) (a / 2) (by omega) (Nat.le_refl _) (.inr rfl)

def runS : List Bool → List UInt8 → List (List UInt8) → Option (List UInt8)
  | [], r, [] => some r
  | [], _, _ :: _ => none
  | _ :: _, _, [] => none
  | b :: bs, r, p :: ps => runS bs (if b then nodeH p r else nodeH r p) ps
theorem ckI_runS : ∀ (ps : List (List UInt8)) (a l : Nat) (r : List UInt8), a ≤ l → ckI a l r ps = runS (sides a l) r ps := by
  intro ps
  induction ps with
  | nil =>
    intro a l r hle
    unfold ckI
    by_cases hl : l = 0
    · subst hl; rw [sides_zero, if_pos rfl]; rfl
    · rw [if_neg hl]
      have : ∃ b bs, sides a l = b :: bs := by
        by_cases h : a % 2 = 1 ∨ a = l
        · exact ⟨_, _, sides_strip a l hl hle h⟩
        · exact ⟨_, _, sides_even hl (by omega) (by omega)⟩
      obtain ⟨b, bs, e⟩ := this
      rw [e]; rfl
  | cons p ps ih =>
    intro a l r hle
    unfold ckI
    by_cases hl : l = 0
    · subst hl; rw [sides_zero, if_pos rfl]; rfl
    · rw [if_neg hl]
      by_cases h : a % 2 = 1 ∨ a = l
      · rw [if_pos h, sides_strip a l hl hle h, ih]
        · rfl
        · have : ∀ a l : Nat, a ≤ l → (strip a l).1 ≤ (strip a l).2 := by
            intro a
            induction a using Nat.strongRecOn with
            | ind a ih =>
              intro l hle
              by_cases hh : a % 2 = 0 ∧ 0 < a
              · rw [strip_go hh]; exact ih _ (by omega) _ (by omega)
              · rw [strip_end hh]; exact hle
          have := this a l hle
          omega
      · rw [if_neg h, sides_even hl (by omega) (by omega), ih _ _ _ (by omega)]
        rfl
theorem runS_snoc : ∀ (ds : List Bool) (b : Bool) (r : List UInt8) (ps : List (List UInt8)) (p : List UInt8),
    runS (ds ++ [b]) r (ps ++ [p]) = (runS ds r ps).map (fun s => if b then nodeH p s else nodeH s p) := by
  intro ds
  induction ds with
  | nil =>
    intro b r ps p
    cases ps with
    | nil => rfl
    | cons q qs =>
      cases qs <;> rfl
  | cons d ds ih =>
    intro b r ps p
    cases ps with
    | nil => cases ds <;> rfl
    | cons q qs => exact ih b _ qs p
theorem runS_snoc_nil (ds : List Bool) (b : Bool) (r : List UInt8) : runS (ds ++ [b]) r [] = none := by cases ds <;> rfl

/-- the topmost sum stands on the right of a place in the left half -/
theorem sides_left : ∀ (h i m : Nat), i < 2 ^ h → 2 ^ h ≤ m → m < 2 ^ (h + 1) → sides i m = sides i (2 ^ h - 1) ++ [false] := by
  intro h
  induction h with
  | zero =>
    intro i m h1 h2 h3
    obtain rfl : i = 0 := by omega
    obtain rfl : m = 1 := by omega
    rw [sides_even (by omega) (by omega) (by omega), sides_zero]
    rfl
  | succ h ih =>
    intro i m h1 h2 h3
    have hp := Nat.two_pow_pos h
    have e1 : 2 ^ (h + 1) = 2 * 2 ^ h := by rw [Nat.pow_succ]; omega
    have e2 : 2 ^ (h + 1 + 1) = 2 * 2 ^ (h + 1) := by rw [Nat.pow_succ]; omega
    have hd : (2 ^ (h + 1) - 1) / 2 = 2 ^ h - 1 := by omega
    have hi := ih (i / 2) (m / 2) (by omega) (by omega) (by omega)
    by_cases ho : i % 2 = 1
    · rw [sides_odd (by omega) ho, sides_odd (l := 2 ^ (h + 1) - 1) (by omega) ho, hd, hi]; rfl
    · rw [sides_even (by omega) (by omega) (by omega), sides_even (l := 2 ^ (h + 1) - 1) (by omega) (by omega) (by omega), hd, hi]; rfl
theorem sides_right : ∀ (h i m : Nat), 2 ^ h ≤ i → i ≤ m → m < 2 ^ (h + 1) → sides i m = sides (i - 2 ^ h) (m - 2 ^ h) ++ [true] := by
  intro h
  induction h with
  | zero =>
    intro i m h1 h2 h3
    obtain rfl : i = 1 := by omega
    obtain rfl : m = 1 := by omega
    rw [sides_odd (by omega) (by omega)]
    show true :: sides 0 0 = sides 0 0 ++ [true]
    rw [sides_zero]; rfl
  | succ h ih =>
    intro i m h1 h2 h3
    have hp := Nat.two_pow_pos h
    have e1 : 2 ^ (h + 1) = 2 * 2 ^ h := by rw [Nat.pow_succ]; omega
    have e2 : 2 ^ (h + 1 + 1) = 2 * 2 ^ (h + 1) := by rw [Nat.pow_succ]; omega
    have hi := ih (i / 2) (m / 2) (by omega) (by omega) (by omega)
    have d1 : (i - 2 ^ (h + 1)) / 2 = i / 2 - 2 ^ h := by omega
    have d2 : (m - 2 ^ (h + 1)) / 2 = m / 2 - 2 ^ h := by omega
    by_cases ho : i % 2 = 1
    · rw [sides_odd (by omega) ho, sides_odd (a := i - 2 ^ (h + 1)) (by omega) (by omega), d1, d2, hi]; rfl
    · by_cases e : i = m
      · subst e
        rw [sides_eq (by omega) (by omega) rfl, hi]
        by_cases hz : i - 2 ^ (h + 1) = 0
        · have hz2 : i / 2 - 2 ^ h = 0 := by omega
          rw [hz, hz2]
        · rw [sides_eq (a := i - 2 ^ (h + 1)) hz (by omega) rfl, d1]
      · rw [sides_even (by omega) (by omega) e, sides_even (a := i - 2 ^ (h + 1)) (by omega) (by omega) (by omega), d1, d2, hi]; rfl

/-- P9.4: from above and from below the same -/
theorem up_run (leaf : List UInt8) : ∀ (r : List (List UInt8)) (n i : Nat), i < n → (if (upR leaf n i r).2 then some (upR leaf n i r).1 else none) = runS (sides i (n - 1)) leaf r.reverse := by
  intro r
  induction r with
  | nil =>
    intro n i hi
    unfold upR
    by_cases h1 : n = 1
    · subst h1
      rw [if_pos rfl, sides_zero]; rfl
    · rw [if_neg h1]
      obtain ⟨h, e, k1, k2⟩ := halfN_spec (n := n) (by omega)
      by_cases hi2 : i < 2 ^ h
      · rw [sides_left h i (n - 1) hi2 (by omega) (by omega)]
        exact (runS_snoc_nil _ _ _).symm
      · rw [sides_right h i (n - 1) (by omega) (by omega) (by omega)]
        exact (runS_snoc_nil _ _ _).symm
  | cons last r ih =>
    intro n i hi
    unfold upR
    rw [List.reverse_cons]
    by_cases h1 : n = 1
    · subst h1
      rw [if_pos rfl, sides_zero]
      cases r.reverse <;> rfl
    · rw [if_neg h1]
      obtain ⟨h, e, k1, k2⟩ := halfN_spec (n := n) (by omega)
      have hp := Nat.two_pow_pos h
      rw [e]
      by_cases hi2 : i < 2 ^ h
      · rw [if_pos hi2, sides_left h i (n - 1) hi2 (by omega) (by omega), runS_snoc, ← ih (2 ^ h) i hi2]
        cases (upR leaf (2 ^ h) i r).2 <;> rfl
      · rw [if_neg hi2, sides_right h i (n - 1) (by omega) (by omega) (by omega), runS_snoc, show n - 1 - 2 ^ h = n - 2 ^ h - 1 by omega, ← ih (n - 2 ^ h) (i - 2 ^ h) (by omega)]
        cases (upR leaf (n - 2 ^ h) (i - 2 ^ h) r).2 <;> rfl
theorem up_ckI (leaf : List UInt8) (ps : List (List UInt8)) (n i : Nat) (hi : i < n) : (if (upR leaf n i ps.reverse).2 then some (upR leaf n i ps.reverse).1 else none) = ckI i (n - 1) leaf ps := by
  rw [up_run leaf ps.reverse n i hi, List.reverse_reverse, ckI_runS ps i (n - 1) leaf (by omega)]
end Go.Proofs.YtdpombnelangjaaGreatDoor

/-
  Plain mathematics of merkle, second part (P9.2, P9.3, P9.5): a root by a stack of trees, paths and proofs from above. No program in sight, no conditions.
-/
import Derived.Test.YtoamnifnfkgbiaaGreatDoorMerkL
namespace Go.Proofs.YtoamnifnfkgbiaaGreatDoor
abbrev Tree := Nat × List UInt8
/-- one tree more, the newest first -/
def pushT (n : Nat) (r : List UInt8) : List Tree → List Tree
  | [] => [(n, r)]
  | (m, s) :: st => if m = n then pushT (2 * n) (nodeH s r) st else (n, r) :: (m, s) :: st
def foldT : List Tree → List UInt8
  | [] => sha []
  | (_, r) :: st => st.foldl (fun acc x => nodeH x.2 acc) r
def stackL (l : List (List UInt8)) : List Tree := l.foldl (fun st s => pushT 1 (leafH s) st) []

def headGe (n : Nat) : List Tree → Prop
  | [] => True
  | (m, _) :: _ => n ≤ m
inductive Inv : List Tree → List (List UInt8) → Prop
  | nil : Inv [] []
  | cons {st : List Tree} {l1 l2 : List (List UInt8)} {h : Nat} (hl : l2.length = 2 ^ h) (hi : Inv st l1) (hg : headGe (2 * 2 ^ h) st) : Inv ((2 ^ h, rootL l2) :: st) (l1 ++ l2)

theorem rootL_join {a b : List (List UInt8)} {h : Nat} (ha : a.length = 2 ^ h) (h0 : 0 < b.length) (h1 : b.length ≤ 2 ^ h) : rootL (a ++ b) = nodeH (rootL a) (rootL b) := by
  have hp := Nat.two_pow_pos h
  have hl : (a ++ b).length = 2 ^ h + b.length := by rw [List.length_append, ha]
  have hh : halfN (a ++ b).length = 2 ^ h := halfN_of (by omega) (by rw [Nat.pow_succ]; omega)
  rw [rootL_more (by omega), hh, ← ha, List.take_left, List.drop_left]
theorem push_inv : ∀ (st : List Tree) (l1 l2 : List (List UInt8)) (h : Nat), l2.length = 2 ^ h → Inv st l1 → headGe (2 ^ h) st → Inv (pushT (2 ^ h) (rootL l2) st) (l1 ++ l2) := by
  intro st
  induction st with
  | nil =>
    intro l1 l2 h hl hi hg
    exact Inv.cons hl hi trivial
  | cons x st ih =>
    intro l1 l2 h hl hi hg
    have hp := Nat.two_pow_pos h
    cases hi with
    | @cons _ a b k hb ha hgb =>
      unfold pushT
      by_cases e : 2 ^ k = 2 ^ h
      · rw [if_pos e]
        have hj : rootL (b ++ l2) = nodeH (rootL b) (rootL l2) := rootL_join (hb.trans e) (by omega) (by omega)
        have e2 : 2 * 2 ^ h = 2 ^ (h + 1) := by rw [Nat.pow_succ]; omega
        rw [← hj, e2, List.append_assoc]
        refine ih a (b ++ l2) (h + 1) ?_ ha ?_
        · rw [List.length_append, hb, hl, e]; omega
        · rw [← e2, ← e]; exact hgb
      · rw [if_neg e]
        refine Inv.cons hl (Inv.cons hb ha hgb) ?_
        have hle : 2 ^ h ≤ 2 ^ k := hg
        have hlt : h < k := (Nat.pow_lt_pow_iff_right (a := 2) (by omega)).1 (by omega)
        have : 2 ^ (h + 1) ≤ 2 ^ k := Nat.pow_le_pow_right (by omega) hlt
        show 2 * 2 ^ h ≤ 2 ^ k
        rw [Nat.pow_succ] at this
        omega
theorem headGe_one : ∀ {st : List Tree} {l : List (List UInt8)}, Inv st l → headGe 1 st
  | _, _, .nil => trivial
  | _, _, .cons (h := h) _ _ _ => Nat.two_pow_pos h
theorem stack_inv : ∀ (l : List (List UInt8)) (st : List Tree) (l0 : List (List UInt8)), Inv st l0 → Inv (l.foldl (fun st s => pushT 1 (leafH s) st) st) (l0 ++ l)
  | [], st, l0, h => by rw [List.append_nil]; exact h
  | s :: r, st, l0, h => by
    have := push_inv st l0 [s] 0 rfl h (headGe_one h)
    rw [rootL_one] at this
    have h2 := stack_inv r _ _ this
    rw [List.append_assoc] at h2
    exact h2
theorem fold_inv : ∀ (st : List Tree) (l l2 : List (List UInt8)), Inv st l → 0 < l2.length → headGe l2.length st → st.foldl (fun acc x => nodeH x.2 acc) (rootL l2) = rootL (l ++ l2) := by
  intro st
  induction st with
  | nil =>
    intro l l2 hi _ _
    cases hi
    rfl
  | cons x st ih =>
    intro l l2 hi h0 hg
    cases hi with
    | @cons _ a b k hb ha hgb =>
      rw [List.foldl_cons]
      have hg' : l2.length ≤ 2 ^ k := hg
      have hj : rootL (b ++ l2) = nodeH (rootL b) (rootL l2) := rootL_join hb h0 hg'
      show List.foldl _ (nodeH (rootL b) (rootL l2)) st = _
      rw [← hj, List.append_assoc]
      refine ih a (b ++ l2) ha (by rw [List.length_append]; omega) ?_
      cases st with
      | nil => trivial
      | cons y st =>
        have h3 : 2 * 2 ^ k ≤ y.1 := hgb
        show (b ++ l2).length ≤ y.1
        rw [List.length_append, hb]; omega
/-- P9.2: put together as they come, or halved: the same root -/
theorem fold_stack (l : List (List UInt8)) : foldT (stackL l) = rootL l := by
  have h := stack_inv l [] [] .nil
  rw [List.nil_append] at h
  unfold stackL
  cases hst : l.foldl (fun st s => pushT 1 (leafH s) st) [] with
  | nil =>
    rw [hst] at h
    cases h
    exact rootL_nil.symm
  | cons x st =>
    rw [hst] at h
    cases h with
    | @cons _ a b k hb ha hgb =>
      have hp := Nat.two_pow_pos k
      refine fold_inv st a b ha (by omega) ?_
      cases st with
      | nil => trivial
      | cons y st =>
        have h3 : 2 * 2 ^ k ≤ y.1 := hgb
        show b.length ≤ y.1
        omega

/-! ### paths and proofs from above -/
def downL (l : List (List UInt8)) (i : Nat) : List (List UInt8) :=
  if _h : l.length ≤ 1 then []
  else if i < halfN l.length then rootL (l.drop (halfN l.length)) :: downL (l.take (halfN l.length)) i
  else rootL (l.take (halfN l.length)) :: downL (l.drop (halfN l.length)) (i - halfN l.length)
termination_by l.length
decreasing_by
  · rw [List.length_take]; have := halfN_lt (n := l.length) (by omega); omega
  · rw [List.length_drop]; have := halfN_pos l.length; omega
theorem downL_le {l : List (List UInt8)} {i : Nat} (h : l.length ≤ 1) : downL l i = [] := by rw [downL, dif_pos h]
theorem downL_left {l : List (List UInt8)} {i : Nat} (h : ¬ l.length ≤ 1) (hi : i < halfN l.length) : downL l i = rootL (l.drop (halfN l.length)) :: downL (l.take (halfN l.length)) i := by rw [downL, dif_neg h, if_pos hi]
theorem downL_right {l : List (List UInt8)} {i : Nat} (h : ¬ l.length ≤ 1) (hi : ¬ i < halfN l.length) : downL l i = rootL (l.take (halfN l.length)) :: downL (l.drop (halfN l.length)) (i - halfN l.length) := by rw [downL, dif_neg h, if_neg hi]
def downP (l : List (List UInt8)) (m : Nat) (whole : Bool) : List (List UInt8) :=
  if _h : l.length ≤ m ∨ l.length ≤ 1 then (if whole then [] else [rootL l])
  else if m ≤ halfN l.length then rootL (l.drop (halfN l.length)) :: downP (l.take (halfN l.length)) m whole
  else rootL (l.take (halfN l.length)) :: downP (l.drop (halfN l.length)) (m - halfN l.length) false
termination_by l.length
decreasing_by
  · rw [List.length_take]; have := halfN_lt (n := l.length) (by omega); omega
  · rw [List.length_drop]; have := halfN_pos l.length; omega
theorem downP_end {l : List (List UInt8)} {m : Nat} {whole : Bool} (h : l.length ≤ m) : downP l m whole = if whole then [] else [rootL l] := by rw [downP, dif_pos (.inl h)]
theorem downP_left {l : List (List UInt8)} {m : Nat} {whole : Bool} (h : m < l.length) (h1 : 1 < l.length) (hi : m ≤ halfN l.length) : downP l m whole = rootL (l.drop (halfN l.length)) :: downP (l.take (halfN l.length)) m whole := by rw [downP, dif_neg (by omega), if_pos hi]
theorem downP_right {l : List (List UInt8)} {m : Nat} {whole : Bool} (h : m < l.length) (h1 : 1 < l.length) (hi : ¬ m ≤ halfN l.length) : downP l m whole = rootL (l.take (halfN l.length)) :: downP (l.drop (halfN l.length)) (m - halfN l.length) false := by rw [downP, dif_neg (by omega), if_neg hi]
end Go.Proofs.YtoamnifnfkgbiaaGreatDoor

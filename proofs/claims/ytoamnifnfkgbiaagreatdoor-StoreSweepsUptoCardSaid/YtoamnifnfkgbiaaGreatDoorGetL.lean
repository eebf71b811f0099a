/-
  Plain mathematics of reading a number (P2.2): no program in sight. get l: the number that l begins with and how many bytes it has. No conditions.
-/
import Derived.Test.YtoamnifnfkgbiaaGreatDoorNum
namespace Go.Proofs.YtoamnifnfkgbiaaGreatDoor
/-- from place i on, n read so far -/
def getGo : Nat → Nat → List UInt8 → Option (Nat × Nat)
  | _, _, [] => none
  | i, n, c :: r =>
    if 9 ≤ i then none
    else if i = 8 ∧ 63 < c.toNat then none
    else if c.toNat < 128 then (if 0 < i ∧ c.toNat = 0 then none else some (n + c.toNat % 128 * 128 ^ i, i + 1))
    else getGo (i + 1) (n + c.toNat % 128 * 128 ^ i) r
def get (l : List UInt8) : Option (Nat × Nat) := getGo 0 0 l

theorem drop_cons {α : Type} (l : List α) (i : Nat) (h : i < l.length) : l.drop i = l[i] :: l.drop (i + 1) := List.drop_eq_getElem_cons h
theorem getGo_end (i n : Nat) (l : List UInt8) (h : l.length ≤ i ∨ 9 ≤ i) : getGo i n (l.drop i) = none := by
  by_cases hi : i < l.length
  · rw [drop_cons l i hi, getGo, if_pos (by omega)]
  · rw [List.drop_eq_nil_of_le (by omega), getGo]
theorem getGo_big (i n : Nat) (l : List UInt8) (hi : i < l.length) (h8 : i = 8) (h : 63 < l[i].toNat) : getGo i n (l.drop i) = none := by
  rw [drop_cons l i hi, getGo, if_neg (by omega), if_pos ⟨h8, h⟩]
theorem getGo_zero (i n : Nat) (l : List UInt8) (hi : i < l.length) (h0 : 0 < i) (h : l[i].toNat = 0) (h9 : i < 9) : getGo i n (l.drop i) = none := by
  rw [drop_cons l i hi, getGo, if_neg (by omega), if_neg (by omega), if_pos (by omega), if_pos ⟨h0, h⟩]
theorem getGo_hit (i n : Nat) (l : List UInt8) (hi : i < l.length) (h9 : i < 9) (h8 : ¬ (i = 8 ∧ 63 < l[i].toNat)) (hc : l[i].toNat < 128) (h0 : ¬ (0 < i ∧ l[i].toNat = 0)) :
    getGo i n (l.drop i) = some (n + l[i].toNat % 128 * 128 ^ i, i + 1) := by
  rw [drop_cons l i hi, getGo, if_neg (by omega), if_neg h8, if_pos hc, if_neg h0]
theorem getGo_step (i n : Nat) (l : List UInt8) (hi : i < l.length) (h9 : i < 9) (h8 : ¬ (i = 8 ∧ 63 < l[i].toNat)) (hc : ¬ l[i].toNat < 128) :
    getGo i n (l.drop i) = getGo (i + 1) (n + l[i].toNat % 128 * 128 ^ i) (l.drop (i + 1)) := by
  rw [drop_cons l i hi, getGo, if_neg (by omega), if_neg h8, if_neg hc]

/-- what the bytes of a number come to -/
def valP : List UInt8 → Nat
  | [] => 0
  | c :: r => c.toNat % 128 + 128 * valP r
theorem valP_snoc (p : List UInt8) (c : UInt8) : valP (p ++ [c]) = valP p + c.toNat % 128 * 128 ^ p.length := by
  induction p with
  | nil => simp [valP]
  | cons x r ih =>
    simp only [List.cons_append, valP, ih, List.length_cons, Nat.pow_succ, Nat.mul_add]
    have : 128 * (c.toNat % 128 * 128 ^ r.length) = c.toNat % 128 * (128 ^ r.length * 128) := by
      rw [Nat.mul_left_comm, Nat.mul_comm 128 (128 ^ r.length)]
    omega
theorem valP_take (l : List UInt8) (i : Nat) (h : i < l.length) : valP (l.take (i + 1)) = valP (l.take i) + l[i].toNat % 128 * 128 ^ i := by
  rw [List.take_succ_eq_append_getElem h, valP_snoc, List.length_take, Nat.min_eq_left (by omega)]
theorem valP_lt (p : List UInt8) : valP p < 128 ^ p.length := by
  induction p with
  | nil => simp [valP]
  | cons x r ih =>
    simp only [valP, List.length_cons, Nat.pow_succ]
    omega

/-- a number's bytes, read, are written again (P2.2): exactly where the last is not 0 -/
theorem num_valP (p : List UInt8) (c : UInt8) (hp : ∀ x ∈ p, 128 ≤ x.toNat) (hc : c.toNat < 128) (h0 : p = [] ∨ c.toNat ≠ 0) : num (valP (p ++ [c])) = p ++ [c] := by
  induction p with
  | nil =>
    have : valP ([] ++ [c]) = c.toNat := by simp [valP]; omega
    rw [this, num_small hc]; simp
  | cons x r ih =>
    have hx : 128 ≤ x.toNat := hp x (by simp)
    have hc0 : c.toNat ≠ 0 := by rcases h0 with h | h; · cases h
                                 · exact h
    have hv : 1 ≤ valP (r ++ [c]) := by
      rw [valP_snoc]
      have h1 : 1 ≤ c.toNat % 128 := by omega
      have := Nat.mul_le_mul h1 (Nat.pos_of_ne_zero (n := 128 ^ r.length) (by simp))
      omega
    simp only [List.cons_append, valP]
    rw [num_big (by omega)]
    have hx256 := x.toNat_lt
    have e1 : (x.toNat % 128 + 128 * valP (r ++ [c])) % 128 + 128 = x.toNat := by omega
    have e2 : (x.toNat % 128 + 128 * valP (r ++ [c])) / 128 = valP (r ++ [c]) := by omega
    rw [e1, e2, ih (fun y hy => hp y (by simp [hy])) (.inr hc0)]
    simp
theorem num_last (n : Nat) : ∀ (p : List UInt8) (c : UInt8), num n = p ++ [c] → c.toNat = 0 → p = [] := by
  induction n using Nat.strongRecOn with
  | ind n ih =>
    intro p c h h0
    by_cases hs : n < 128
    · rw [num_small hs] at h
      cases p with
      | nil => rfl
      | cons x r => simp at h
    · rw [num_big hs] at h
      cases p with
      | nil => rfl
      | cons x r =>
        simp only [List.cons_append, List.cons.injEq] at h
        have hr := ih (n / 128) (by omega) r c h.2 h0
        subst hr
        have h2 := h.2
        simp only [List.nil_append] at h2
        by_cases hs2 : n / 128 < 128
        · rw [num_small hs2] at h2
          simp only [List.cons.injEq, and_true] at h2
          have h3 := congrArg UInt8.toNat h2
          simp at h3
          omega
        · rw [num_big hs2] at h2
          have := num_pos (n / 128 / 128)
          simp only [List.cons.injEq] at h2
          rw [h2.2] at this
          simp at this

/-- the document's test at place i -/
theorem num_take (l : List UInt8) (i : Nat) (hi : i < l.length) (hp : ∀ x ∈ l.take i, 128 ≤ x.toNat) (hc : l[i].toNat < 128) :
    (num (valP (l.take (i + 1))) == l.take (i + 1)) = !(decide (0 < i) && decide (l[i].toNat = 0)) := by
  rw [List.take_succ_eq_append_getElem hi]
  by_cases h : 0 < i ∧ l[i].toNat = 0
  · have hne : num (valP (l.take i ++ [l[i]])) ≠ l.take i ++ [l[i]] := by
      intro he
      have := num_last _ _ _ he h.2
      have hl : (l.take i).length = 0 := by rw [this]; rfl
      rw [List.length_take] at hl
      omega
    rw [beq_eq_false_iff_ne.2 hne]
    simp [h.1, h.2]
  · have he := num_valP (l.take i) l[i] hp hc (by
      by_cases hi0 : i = 0
      · left; subst hi0; rfl
      · right; omega)
    rw [he]
    simp only [beq_self_eq_true]
    by_cases h1 : 0 < i <;> simp_all

theorem getGo_le (l : List UInt8) : ∀ (i n m k : Nat), getGo i n l = some (m, k) → k ≤ i + l.length ∧ i < k ∧ k ≤ 9 := by
  induction l with
  | nil => intro i n m k h; simp [getGo] at h
  | cons c r ih =>
    intro i n m k h
    rw [getGo] at h
    split at h
    · cases h
    · split at h
      · cases h
      · split at h
        · split at h
          · cases h
          · simp only [Option.some.injEq, Prod.mk.injEq] at h
            simp; omega
        · have := ih _ _ _ _ h
          simp; omega
theorem getGo_lt (l : List UInt8) : ∀ (i n m k : Nat), n < 128 ^ i → getGo i n l = some (m, k) → m < 4611686018427387904 := by
  induction l with
  | nil => intro i n m k _ h; simp [getGo] at h
  | cons c r ih =>
    intro i n m k hn h
    rw [getGo] at h
    have hd : c.toNat % 128 * 128 ^ i ≤ 127 * 128 ^ i := Nat.mul_le_mul_right _ (by omega)
    have hs : 128 ^ (i + 1) = 128 * 128 ^ i := by rw [Nat.pow_succ, Nat.mul_comm]
    split at h
    · cases h
    · rename_i h9
      split at h
      · cases h
      · rename_i h8
        split at h
        · split at h
          · cases h
          · simp only [Option.some.injEq, Prod.mk.injEq] at h
            by_cases e : i = 8
            · subst e
              have h63 : c.toNat % 128 ≤ 63 := by omega
              have hd2 : c.toNat % 128 * 128 ^ 8 ≤ 63 * 128 ^ 8 := Nat.mul_le_mul_right _ h63
              have e8 : (128 : Nat) ^ 8 = 72057594037927936 := by decide
              rw [e8] at hn hd2 h
              omega
            · have : 128 ^ (i + 1) ≤ 128 ^ 8 := Nat.pow_le_pow_right (by omega) (by omega)
              have e8 : (128 : Nat) ^ 8 = 72057594037927936 := by decide
              omega
        · exact ih _ _ _ _ (by omega) h
theorem get_le {l : List UInt8} {m k : Nat} (h : get l = some (m, k)) : k ≤ l.length ∧ 0 < k ∧ k ≤ 9 := by
  have := getGo_le l 0 0 m k h; omega
theorem get_lt {l : List UInt8} {m k : Nat} (h : get l = some (m, k)) : m < 4611686018427387904 := getGo_lt l 0 0 m k (by simp) h
end Go.Proofs.YtoamnifnfkgbiaaGreatDoor

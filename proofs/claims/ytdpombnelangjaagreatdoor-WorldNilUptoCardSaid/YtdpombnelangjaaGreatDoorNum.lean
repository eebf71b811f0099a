/-
  Plain mathematics of the numbers of wire: no program in sight. num n: the bytes of n. No conditions.
-/
namespace Go.Proofs.YtdpombnelangjaaGreatDoor
/-- P2.1: seven bits a byte, the least first, all but the last marked -/
def num (n : Nat) : List UInt8 := if h : n < 128 then [UInt8.ofNat n] else UInt8.ofNat (n % 128 + 128) :: num (n / 128)
termination_by n
decreasing_by omega

theorem num_small {n : Nat} (h : n < 128) : num n = [UInt8.ofNat n] := by rw [num, dif_pos h]
theorem num_big {n : Nat} (h : ¬ n < 128) : num n = UInt8.ofNat (n % 128 + 128) :: num (n / 128) := by rw [num, dif_neg h]
theorem num_pos (n : Nat) : 1 ≤ (num n).length := by
  by_cases h : n < 128
  · rw [num_small h]; simp
  · rw [num_big h]; simp
theorem num_len : ∀ (k n : Nat), n < 128 ^ (k + 1) → (num n).length ≤ k + 1
  | 0, n, h => by rw [num_small (by omega)]; simp
  | k + 1, n, h => by
    by_cases hs : n < 128
    · rw [num_small hs]; simp
    · rw [num_big hs]
      have : n / 128 < 128 ^ (k + 1) := by
        rw [Nat.div_lt_iff_lt_mul (by omega)]
        rw [Nat.pow_succ] at h; exact h
      have := num_len k _ this
      simp; omega
theorem num_len9 {n : Nat} (h : n < 4611686018427387904) : (num n).length ≤ 9 := by
  have e : (128 : Nat) ^ (8 + 1) = 9223372036854775808 := by decide
  exact num_len 8 n (by rw [e]; omega)
end Go.Proofs.YtdpombnelangjaaGreatDoor

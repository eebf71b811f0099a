/-
  cartularyref.padded by its contract.
-/
import Derived.Test.YtdpombnelangjaaGreatDoorRSum
namespace Go.Proofs.YtdpombnelangjaaGreatDoor
open Go.RowKit
set_option linter.unusedVariables false
/-- the eight bytes while they are filled, from behind -/
def pByte (m e : Nat) : Value := .int .u8 ((8 * m / 256 ^ e % 256 : Nat) : Int)
def pArr (m j : Nat) : Array Value := ((List.range 8).map fun i => if 8 - j ≤ i then pByte m (7 - i) else .int .u8 0).toArray
theorem pArr_size (m j : Nat) : (pArr m j).size = 8 := by unfold pArr; simp
theorem pArr_zero (m : Nat) : pArr m 0 = #[.int .u8 0, .int .u8 0, .int .u8 0, .int .u8 0, .int .u8 0, .int .u8 0, .int .u8 0, .int .u8 0] := by kernel_rfl
theorem pArr_set (m j : Nat) (hj : j < 8) : (pArr m j).setIfInBounds (7 - j) (pByte m j) = pArr m (j + 1) := by
  unfold pArr
  rw [List.setIfInBounds_toArray]
  congr 1
  apply List.ext_getElem
  · simp
  · intro i h1 h2
    rw [List.getElem_set]
    simp only [List.getElem_map, List.getElem_range, List.length_set, List.length_map, List.length_range] at h1 ⊢
    by_cases e : 7 - j = i
    · subst e
      rw [if_pos rfl, if_pos (by omega), show 7 - (7 - j) = j by omega]
    · rw [if_neg e]
      by_cases h : 8 - j ≤ i
      · rw [if_pos h, if_pos (by omega)]
      · rw [if_neg h, if_neg (by omega)]
theorem pArr_full (m : Nat) : (pArr m 8).toList = (be8 (8 * m)).map byteV := by
  simp [pArr, List.range_succ, be8, byteV, pByte]

set_option maxRecDepth 100000 in
set_option maxHeartbeats 2000000 in
theorem padded_any (r : List UInt8) (m : Nat) (w : World) (hr : r.length < 1152921504606846976) (hm : m < 1152921504606846976) :
    Calls Tryz.prog 83 #[.string (bs r), .int .i64 m] w fun e w' => e = .returned (.string (bs (padTo r m))) ∧ Gr w w' := by
  have hr1 : ¬ 9223372036854775807 < r.length + 1 := by omega
  have hz := Blk.new w 202 (pArr m 0)
  rw [pArr_zero] at hz
  have HZ := sec hz
  clear hz
  go_enter Tryz.func83, Tryz.ntmps83
  go_wp2_with fail
  go_loop [5] (fun v => ∃ (i : Nat) (l : List UInt8), v = .string (bs l) ∧ i ≤ zerosFor r.length ∧ Sec (l = r ++ [128] ++ List.replicate i 0))
    (fun v => 1152921504606847200 - lenOf v)
  case atStart => exact ⟨0, r ++ [128], rfl, Nat.zero_le _, sec (by simp)⟩
  case round =>
    obtain ⟨i, l, rfl, hi, HL⟩ := hrel
    have hz : zerosFor r.length = (119 - r.length % 64) % 64 := rfl
    have hll : l.length = r.length + 1 + i := by rw [HL.out]; simp; omega
    by_cases hlt : i < zerosFor r.length
    · have t1 : ((l.length : Int) % 64 == 56) = false := by rw [beq_eq_false_iff_ne]; omega
      have t2 : ((l.length : Int) % 64 != 56) = true := by rw [bne_iff_ne]; omega
      have hl200 : l.length < 1152921504606847190 := by omega
      have h63 : ¬ 9223372036854775807 < l.length + 1 := by omega
      have HI := sec hlt
      clear hz hll hlt hi
      go_wp2_with fail
      go_round
      case rel =>
        exact ⟨i + 1, l ++ [0], rfl, HI.out, sec (by rw [HL.out, List.append_assoc, ← List.replicate_succ'])⟩
      case measure => simp [lenOf, bs_size]; omega
    · obtain rfl : i = zerosFor r.length := by omega
      have t1 : ((l.length : Int) % 64 == 56) = true := by rw [beq_iff_eq]; omega
      have t2 : ((l.length : Int) % 64 != 56) = false := by rw [bne_eq_false_iff_eq]; omega
      have hl63 : ¬ 9223372036854775807 < l.length + 8 := by omega
      clear hz hll hlt hi
      have hm8 : (m : Int) * 8 < 18446744073709551616 := by omega
      go_wp2_with fail
      clear t1 t2
      have hl8 : m * 8 = 8 * m / 256 ^ 0 := by omega
      have HN0 : Sec (m * 8 = 8 * m / 256 ^ 0) := sec hl8
      clear hl8
      go_loopw [7, 8] (fun v k wr => ∃ (j N : Nat) (K : Int), v = .int .u64 (N : Int) ∧ k = .int .i64 K ∧ Sec (K = 7 - (j : Int)) ∧ j ≤ 8 ∧ Sec (N = 8 * m / 256 ^ j) ∧ N < 18446744073709551616 ∧ Blk wr w.heap.size 202 (pArr m j) ∧ Gr w wr)
        (fun _ k _ => (intOf k + 1).toNat)
      case atStart => exact ⟨0, m * 8, 7, by simp, rfl, sec (by omega), by omega, HN0, by omega, by rw [pArr_zero]; exact HZ.out, (Gr.refl w).alloc _⟩
      case round =>
        obtain ⟨j, N, K, rfl, rfl, HK, hj, HN, hN, hB, hg⟩ := hrel
        by_cases hlt : j < 8
        · have hK0 : 0 ≤ K := by have := HK.out; omega
          have hK8 : K < 8 := by have := HK.out; omega
          have hKt : K.toNat = 7 - j := by have := HK.out; omega
          have hc : ∃ v, wr.cell? ⟨w.heap.size, 7 - j, none⟩ = some v := ⟨_, (hB.cell _).trans (Array.getElem?_eq_getElem (by rw [pArr_size]; omega))⟩
          obtain ⟨v, hc⟩ := hc
          have hf := hB.frozen (7 - j)
          have HD : Sec (N / 256 = 8 * m / 256 ^ (j + 1)) := sec (by rw [HN.out, Nat.div_div_eq_div_mul, Nat.pow_succ])
          have HP : Sec (pByte m j = .int .u8 ((N : Int) % 256)) := sec (by unfold pByte; rw [← HN.out]; simp)
          go_wp2_with fail
          go_roundw
          case rel => exact ⟨j + 1, N / 256, K - 1, by simp, rfl, sec (by have := HK.out; omega), by omega, HD, by omega, by rw [← pArr_set m j hlt, HP.out]; exact hB.set_ _ _, hg.setCell (Nat.le_refl _) _⟩
          case measure => simp [intOf]; omega
        · obtain rfl : j = 8 := by omega
          obtain rfl : K = -1 := by have := HK.out; omega
          have hcv : (convert 105 9 (.slice (some ⟨w.heap.size, 0, none⟩) 8 8)).run Tryz.prog wr = .ok (.string (bs (be8 (8 * m)))) wr :=
            run_conv_at Tryz.underlying105 Tryz.underlying5 Tryz.underlying9 wr w.heap.size 0 8 (be8 (8 * m)) (fun j u hu => by
              rw [Nat.zero_add, hB.cell, ← pArr_full] at *
              simpa using hu)
          have hl63' : ¬ 9223372036854775807 < l.length + (be8 (8 * m)).length := by rw [be8_len]; exact hl63
          go_wp2_with fail
          go_ret
          exact ⟨by rw [HL.out]; rfl, hg⟩
end Go.Proofs.YtdpombnelangjaaGreatDoor

/-
  wire.Get by its contract.
-/
import Derived.Test.YtoamnifnfkgbiaaGreatDoorWireN
import Derived.Test.YtoamnifnfkgbiaaGreatDoorGetL
namespace Go.Proofs.YtoamnifnfkgbiaaGreatDoor
open Go.RowKit
/-- what Get answers -/
def getV (r : Option (Nat × Nat)) : Value := match r with
  | none => .tuple #[.int .i64 0, .int .i64 0, .int .i64 2]
  | some (n, k) => .tuple #[.int .i64 (n : Int), .int .i64 (k : Int), .int .i64 0]

set_option maxHeartbeats 1000000 in
theorem ofInt_i64 (a : Nat) (ha : a < 9223372036854775808) : (BitVec.ofInt 64 (a : Int)).toNat = a := by
  rw [BitVec.ofInt_natCast, BitVec.toNat_ofNat]; exact Nat.mod_eq_of_lt (by omega)
theorem i64_or_nat (a b : Nat) (ha : a < 9223372036854775808) (hb : b < 9223372036854775808) : bits .or .i64 (a : Int) (b : Int) = ((a ||| b : Nat) : Int) := by
  have hx : a ||| b < 2 ^ 63 := Nat.or_lt_two_pow (by omega) (by omega)
  show IntKind.i64.wrap ((BitVec.ofInt 64 (a : Int) ||| BitVec.ofInt 64 (b : Int)).toNat : Int) = _
  rw [BitVec.toNat_or, ofInt_i64 a ha, ofInt_i64 b hb, IntKind.wrap_i64]
  omega
theorem and127 (c : UInt8) : bits .and .u8 (c.toNat : Int) 127 = ((c.toNat % 128 : Nat) : Int) := by
  have h := c.toNat_lt
  rw [show (127 : Int) = ((127 : Nat) : Int) from rfl, u8_and_nat _ _ (by omega) (by omega)]
  congr 1
  exact Nat.and_two_pow_sub_one_eq_mod c.toNat 7

/-- one step of the sum, as the walk spells it -/
theorem step_or (n i : Nat) (c : UInt8) (hi : i < 9) (hn : n < 128 ^ i) (h8 : ¬ (i = 8 ∧ 63 < c.toNat)) :
    bits .or .i64 (n : Int) (wrap64 (wrap64 (bits .and .u8 (c.toNat : Int) 127) * 2 ^ (7 * i))) = ((n + c.toNat % 128 * 128 ^ i : Nat) : Int) ∧ n + c.toNat % 128 * 128 ^ i < 128 ^ (i + 1) := by
  have hp : (128 : Nat) ^ i = 2 ^ (7 * i) := by rw [show (128 : Nat) = 2 ^ 7 from rfl, ← Nat.pow_mul]
  have hd : c.toNat % 128 * 128 ^ i ≤ 127 * 128 ^ i := Nat.mul_le_mul_right _ (by omega)
  have hs : 128 ^ (i + 1) = 128 * 128 ^ i := by rw [Nat.pow_succ, Nat.mul_comm]
  have e8 : (128 : Nat) ^ 8 = 72057594037927936 := by decide
  have hb : n + c.toNat % 128 * 128 ^ i < 4611686018427387904 := by
    by_cases e : i = 8
    · subst e
      have h63 : c.toNat % 128 ≤ 63 := by omega
      have hd2 : c.toNat % 128 * 128 ^ 8 ≤ 63 * 128 ^ 8 := Nat.mul_le_mul_right _ h63
      rw [e8] at hn hd2 ⊢
      omega
    · have : 128 ^ (i + 1) ≤ 128 ^ 8 := Nat.pow_le_pow_right (by omega) (by omega)
      omega
  refine ⟨?_, by omega⟩
  rw [and127, IntWalk.wrap64_in ((c.toNat % 128 : Nat) : Int) (by omega)]
  have hm : ((c.toNat % 128 : Nat) : Int) * 2 ^ (7 * i) = ((c.toNat % 128 * 128 ^ i : Nat) : Int) := by rw [hp]; simp
  rw [hm, IntWalk.wrap64_in _ (by omega), i64_or_nat _ _ (by omega) (by omega)]
  congr 1
  rw [hp] at hn ⊢
  rw [Nat.or_comm, Nat.mul_comm (c.toNat % 128), ← Nat.two_pow_add_eq_or_of_lt hn]
  omega

set_option maxRecDepth 100000 in
set_option maxHeartbeats 1000000 in
theorem wget (l : List UInt8) (w : World) (hl : l.length ≤ 1152921504606846976) :
    Calls Tryz.prog 79 #[.string (bs l)] w fun e w' => e = .returned (getV (get l)) ∧ w = w' := by
  go_enter Tryz.func79, Tryz.ntmps79
  go_wp2_with fail
  go_loop [5, 6, 7] (fun nv iv _ => ∃ (i n : Nat), nv = .int .i64 n ∧ iv = .int .i64 i ∧ i ≤ l.length ∧ i ≤ 9 ∧ Sec (n < 128 ^ i) ∧ Sec (getGo i n (l.drop i) = get l))
    (fun _ iv _ => 9 - (intOf iv).toNat)
  case atStart => exact ⟨0, 0, rfl, rfl, by omega, by omega, ⟨by simp⟩, ⟨rfl⟩⟩
  case round =>
    obtain ⟨i, n, rfl, rfl, hi, h9, hn, hg⟩ := hrel
    by_cases hlt : i < l.length
    · by_cases hi9 : i < 9
      · by_cases h8 : i = 8 ∧ 63 < l[i].toNat
        · obtain ⟨rfl, h63⟩ := h8
          have h63' : (63 : Int) < (l[8].toNat : Int) := by omega
          go_wp2
          go_ret3
          exact ⟨by rw [← hg.out, getGo_big 8 n l hlt rfl h63]; rfl, rfl⟩
        · have hor := step_or n i l[i] hi9 hn.out h8
          have HO := sec hor
          clear hor
          by_cases e8 : i = 8
          · subst e8
            have eP : (2 : Int) ^ (7 * 8) = 72057594037927936 := by decide
            have hor := HO.out
            rw [eP] at hor
            have HO := sec hor
            clear hor eP
            have h63 : (l[8].toNat : Int) ≤ 63 := by omega
            by_cases hc : l[8].toNat < 128
            · by_cases h0 : 0 < 8 ∧ l[8].toNat = 0
              · have hfin := getGo_zero 8 n l hlt h0.1 h0.2 hi9
                have HF := sec hfin
                clear hfin
                have hc1 : ((l[8].toNat : Int) < 128) := by omega
                have hc2 : ((l[8].toNat : Int) == 0) = true := by simp [h0.2]
                clear h0 hc h8
                go_wp2
                all_goals
                  go_ret3
                  exact ⟨by rw [← hg.out, HF.out]; rfl, rfl⟩
              · have hfin := getGo_hit 8 n l hlt hi9 h8 hc h0
                have HF := sec hfin
                clear hfin
                have hc1 : ((l[8].toNat : Int) < 128) := by omega
                have H8 := sec h8
                have H0 := sec h0
                clear h0 hc h8
                go_wp2
                all_goals first
                  | (exfalso; have h8 := H8.out; omega)
                  | (exfalso; have h0 := H0.out; have hz : (l[8].toNat : Int) = 0 := by simpa using ‹((l[8].toNat : Int) == 0) = true›
                     omega)
                  | (go_ret3
                     refine ⟨?_, rfl⟩
                     rw [← hg.out, HF.out, HO.out.1]
                     rfl)
            · have hfin := getGo_step 8 n l hlt hi9 h8 hc
              have HF := sec hfin
              clear hfin
              have hc1 : ((128 : Int) ≤ (l[8].toNat : Int)) := by omega
              have H8 := sec h8
              clear h8 hc
              go_wp2
              all_goals first
                | (exfalso; have h8 := H8.out; omega)
                | (go_round
                   case rel =>
                     refine ⟨9, n + l[8].toNat % 128 * 128 ^ 8, by rw [HO.out.1], by go_num, by omega, by omega, ⟨HO.out.2⟩, ?_⟩
                     exact ⟨HF.out.symm.trans hg.out⟩
                   case measure => simp [intOf]; omega)
          · have hne : ¬ ((i : Int) = 8) := by omega
            have hne' : ((i : Int) == 8) = false := by simpa using hne
            have HE := sec e8
            clear e8 hne
            by_cases hc : l[i].toNat < 128
            · by_cases h0 : 0 < i ∧ l[i].toNat = 0
              · have hfin := getGo_zero i n l hlt h0.1 h0.2 hi9
                have HF := sec hfin
                clear hfin
                have hc1 : ((l[i].toNat : Int) < 128) := by omega
                have hc2 : ((l[i].toNat : Int) == 0) = true := by simp [h0.2]
                have hi0 : (0 : Int) < (i : Int) := by omega
                clear h0 hc h8
                go_wp2
                all_goals
                  go_ret3
                  exact ⟨by rw [← hg.out, HF.out]; rfl, rfl⟩
              · have hfin := getGo_hit i n l hlt hi9 h8 hc h0
                have HF := sec hfin
                clear hfin
                have hc1 : ((l[i].toNat : Int) < 128) := by omega
                have H8 := sec h8
                have H0 := sec h0
                clear h0 hc h8
                go_wp2
                all_goals first
                  | (exfalso; have h8 := H8.out; omega)
                  | (exfalso; have h0 := H0.out; have hz : (l[i].toNat : Int) = 0 := by simpa using ‹((l[i].toNat : Int) == 0) = true›
                     omega)
                  | (go_ret3
                     refine ⟨?_, rfl⟩
                     rw [← hg.out, HF.out, HO.out.1]
                     rfl)
            · have hfin := getGo_step i n l hlt hi9 h8 hc
              have HF := sec hfin
              clear hfin
              have hc1 : ((128 : Int) ≤ (l[i].toNat : Int)) := by omega
              have H8 := sec h8
              clear h8 hc
              go_wp2
              all_goals first
                | (exfalso; have h8 := H8.out; omega)
                | (go_round
                   case rel =>
                     refine ⟨i + 1, n + l[i].toNat % 128 * 128 ^ i, by rw [HO.out.1], by go_num, by omega, by omega, ⟨HO.out.2⟩, ?_⟩
                     exact ⟨HF.out.symm.trans hg.out⟩
                   case measure => simp [intOf]; omega)
      · go_wp2
        go_ret3
        exact ⟨by rw [← hg.out, getGo_end i n l (by omega)]; rfl, rfl⟩
    · go_wp2
      go_ret3
      exact ⟨by rw [← hg.out, getGo_end i n l (by omega)]; rfl, rfl⟩
end Go.Proofs.YtoamnifnfkgbiaaGreatDoor

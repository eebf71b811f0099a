/-
  cartularyref.Get by its contract.
-/
import Derived.Test.YtoamnifnfkgbiaaGreatDoorGet
namespace Go.Proofs.YtoamnifnfkgbiaaGreatDoor
open Go.RowKit
theorem pow_le (i : Nat) (h : i ≤ 8) : 128 ^ i ≤ 72057594037927936 := by
  have : 128 ^ i ≤ 128 ^ 8 := Nat.pow_le_pow_right (by omega) h
  have e8 : (128 : Nat) ^ 8 = 72057594037927936 := by decide
  omega
theorem pow_le7 (i : Nat) (h : i < 8) : 128 ^ i ≤ 562949953421312 := by
  have : 128 ^ i ≤ 128 ^ 7 := Nat.pow_le_pow_right (by omega) (by omega)
  have e8 : (128 : Nat) ^ 7 = 562949953421312 := by decide
  omega

set_option maxRecDepth 100000 in
set_option maxHeartbeats 2000000 in
theorem rget (l : List UInt8) (w : World) (hl : l.length ≤ 1152921504606846976) :
    Calls Tryz.prog 87 #[.string (bs l)] w fun e w' => e = .returned (getV (get l)) ∧ Gr w w' := by
  go_enter Tryz.func87, Tryz.ntmps87
  go_wp2_with fail
  go_loopw [5, 6, 7] (fun nv kv iv wr => ∃ (i n K : Nat), nv = .int .i64 n ∧ kv = .int .i64 K ∧ iv = .int .i64 i ∧ i ≤ l.length ∧ i ≤ 8 ∧ Sec (n = valP (l.take i)) ∧ Sec (K = 128 ^ i) ∧ Sec (∀ x ∈ l.take i, 128 ≤ x.toNat) ∧ Sec (getGo i n (l.drop i) = get l) ∧ Gr w wr)
    (fun _ _ iv _ => 9 - (intOf iv).toNat)
  case atStart => exact ⟨0, 0, 1, rfl, rfl, rfl, by omega, by omega, ⟨by simp [valP]⟩, ⟨by simp⟩, ⟨by simp⟩, ⟨rfl⟩, Gr.refl _⟩
  case round =>
    obtain ⟨i, n, K, rfl, rfl, rfl, hi, h9, hn, hK, hall, hg, hgr⟩ := hrel
    have hK1 : K ≤ 72057594037927936 := by rw [hK.out]; exact pow_le i h9
    have hn1 : n < K := by
      rw [hn.out, hK.out]
      have := valP_lt (l.take i)
      rw [List.length_take, Nat.min_eq_left hi] at this
      exact this
    by_cases hlt : i < l.length
    · have hp0 : 0 ≤ (l[i].toNat : Int) % 128 * (K : Int) := Int.mul_nonneg (by omega) (by omega)
      have hp1 : (l[i].toNat : Int) % 128 * (K : Int) ≤ 127 * (K : Int) := Int.mul_le_mul_of_nonneg_right (by omega) (by omega)
      have hs : n + l[i].toNat % 128 * K = valP (l.take (i + 1)) := by rw [valP_take l i hlt, hn.out, hK.out]
      have HS := sec hs
      clear hs
      by_cases h8 : i = 8 ∧ 63 < l[i].toNat
      · obtain ⟨rfl, h63⟩ := h8
        have hfin := getGo_big 8 n l hlt rfl h63
        have HF := sec hfin
        clear hfin
        have h63' : (64 : Int) ≤ (l[8].toNat : Int) := by omega
        go_wp2
        go_ret3
        exact ⟨by rw [← hg.out, HF.out]; rfl, hgr⟩
      · have hp2 : n + l[i].toNat % 128 * K < 4611686018427387904 := by
          by_cases e8 : i = 8
          · have h63 : l[i].toNat % 128 ≤ 63 := by omega
            have := Nat.mul_le_mul_right K h63
            omega
          · have hK7 : K ≤ 562949953421312 := by rw [hK.out]; exact pow_le7 i (by omega)
            have := Nat.mul_le_mul_right K (show l[i].toNat % 128 ≤ 127 by omega)
            omega
        have hN : numS ((n : Int) + (l[i].toNat : Int) % 128 * (K : Int)) = num (valP (l.take (i + 1))) := by
          have e : (n : Int) + (l[i].toNat : Int) % 128 * (K : Int) = ((n + l[i].toNat % 128 * K : Nat) : Int) := by simp
          rw [e, numS_nat hp2, HS.out]
        have HN := sec hN
        clear hN
        have hpz : ((n + l[i].toNat % 128 * K : Nat) : Int) = (n : Int) + (l[i].toNat : Int) % 128 * (K : Int) := by simp
        have HP := sec hpz
        clear hpz
        by_cases e8 : i = 8
        · subst e8
          have hi8 : (l[8].toNat : Int) < 64 := by omega
          have h64 : (l[8].toNat : Int) < 64 := hi8
          have hc : l[8].toNat < 128 := by omega
          have hc1 : ((l[8].toNat : Int) < 128) := by omega
          have htest := num_take l 8 hlt hall.out hc
          by_cases h0 : 0 < 8 ∧ l[8].toNat = 0
          · have hfin := getGo_zero 8 n l hlt h0.1 h0.2 (by omega)
            have HF := sec hfin
            have ht : (num (valP (l.take (8 + 1))) == l.take (8 + 1)) = false := by rw [htest]; simp [h0.1, h0.2]
            clear hfin htest h0 hc h8 hp2 hi8
            go_wp2
            have q1 : IntKind.i64.wrap 9 = 9 := by decide
            have q3 : 9 ≤ l.length := by omega
            have q4 : (9 : Int) ≤ (l.length : Int) := by omega
            go_region_with (go_at_call 133; refine (number_any _ _).mono ?_; rintro e w1 ⟨rfl, g1⟩; rw [HN.out])
            clear q1 q3 q4
            go_wp2
            go_ret3
            refine ⟨by rw [← hg.out, HF.out]; rfl, ?_⟩
            repeat (first | exact Gr.refl _ | assumption | refine Gr.drew ?_ | refine Gr.trans ?_ (by assumption))
          · have hfin := getGo_hit 8 n l hlt (by omega) h8 hc h0
            have HF := sec hfin
            have ht : (num (valP (l.take (8 + 1))) == l.take (8 + 1)) = true := by
              rw [htest]
              by_cases h1 : 0 < 8
              · have : ¬ l[8].toNat = 0 := fun h => h0 ⟨h1, h⟩
                simp [this]
              · simp [h1]
            clear hfin htest h0 hc h8 hp2 hi8
            go_wp2
            have q1 : IntKind.i64.wrap 9 = 9 := by decide
            have q3 : 9 ≤ l.length := by omega
            have q4 : (9 : Int) ≤ (l.length : Int) := by omega
            go_region_with (go_at_call 133; refine (number_any _ _).mono ?_; rintro e w1 ⟨rfl, g1⟩; rw [HN.out])
            clear q1 q3 q4
            go_wp2
            go_ret3
            refine ⟨?_, ?_⟩
            · rw [← hg.out, HF.out, ← hK.out]
              simp [getV]
            · repeat (first | exact Gr.refl _ | assumption | refine Gr.drew ?_ | refine Gr.trans ?_ (by assumption))
        · have hK7 : K ≤ 562949953421312 := by rw [hK.out]; exact pow_le7 i (by omega)
          have hi7 : i < 8 := by omega
          have hi8 : ¬ ((i : Int) = 8) := by omega
          have hbe : ((i : Int) == 8) = false := by simpa using hi8
          clear e8
          by_cases hc : l[i].toNat < 128
          · have htest := num_take l i hlt hall.out hc
            have hc1 : ((l[i].toNat : Int) < 128) := by omega
            by_cases h0 : 0 < i ∧ l[i].toNat = 0
            · have hfin := getGo_zero i n l hlt h0.1 h0.2 (by omega)
              have HF := sec hfin
              have ht : (num (valP (l.take (i + 1))) == l.take (i + 1)) = false := by rw [htest]; simp [h0.1, h0.2]
              clear hfin htest h0 hc h8 hp2 hi8
              go_wp2
              have q1 : IntKind.i64.wrap ((i : Int) + 1) = (i : Int) + 1 := IntWalk.i64_in _ (by omega)
              have q2 : (0 : Int) ≤ (i : Int) + 1 := by omega
              have q3 : (i : Int) + 1 ≤ (l.length : Int) := by omega
              have q4 : ((i : Int) + 1).toNat = i + 1 := by omega
              go_region_with (go_at_call 133; refine (number_any _ _).mono ?_; rintro e w1 ⟨rfl, g1⟩; rw [HN.out])
              clear q1 q2 q3 q4
              go_wp2
              go_ret3
              refine ⟨by rw [← hg.out, HF.out]; rfl, ?_⟩
              repeat (first | exact Gr.refl _ | assumption | refine Gr.drew ?_ | refine Gr.trans ?_ (by assumption))
            · have hfin := getGo_hit i n l hlt (by omega) h8 hc h0
              have HF := sec hfin
              have ht : (num (valP (l.take (i + 1))) == l.take (i + 1)) = true := by
                rw [htest]
                by_cases h1 : 0 < i
                · have : ¬ l[i].toNat = 0 := fun h => h0 ⟨h1, h⟩
                  simp [this]
                · simp [h1]
              clear hfin htest h0 hc h8 hp2 hi8
              go_wp2
              have q1 : IntKind.i64.wrap ((i : Int) + 1) = (i : Int) + 1 := IntWalk.i64_in _ (by omega)
              have q2 : (0 : Int) ≤ (i : Int) + 1 := by omega
              have q3 : (i : Int) + 1 ≤ (l.length : Int) := by omega
              have q4 : ((i : Int) + 1).toNat = i + 1 := by omega
              go_region_with (go_at_call 133; refine (number_any _ _).mono ?_; rintro e w1 ⟨rfl, g1⟩; rw [HN.out])
              clear q1 q2 q3 q4
              go_wp2
              go_ret3
              refine ⟨?_, ?_⟩
              · rw [← hg.out, HF.out, ← hK.out]
                simp [getV]
              · repeat (first | exact Gr.refl _ | assumption | refine Gr.drew ?_ | refine Gr.trans ?_ (by assumption))
          · have hfin := getGo_step i n l hlt (by omega) h8 hc
            have HF := sec hfin
            have hc1 : ((128 : Int) ≤ (l[i].toNat : Int)) := by omega
            have hall' : ∀ x ∈ l.take (i + 1), 128 ≤ x.toNat := by
              intro x hx
              rw [List.take_succ_eq_append_getElem hlt, List.mem_append] at hx
              rcases hx with hx | hx
              · exact hall.out x hx
              · simp at hx; subst hx; omega
            have HA := sec hall'
            clear hfin hall' hc h8 hp2 hi8
            go_wp2
            go_roundw
            case rel =>
              refine ⟨i + 1, n + l[i].toNat % 128 * K, K * 128, by rw [HP.out], by go_num, by go_num, by omega, by omega, ⟨HS.out⟩, ?_, HA, ?_, hgr⟩
              · exact ⟨by rw [hK.out, Nat.pow_succ]⟩
              · have := HF.out.symm.trans hg.out
                rw [← hK.out] at this
                exact ⟨this⟩
            case measure => simp [intOf]; omega
    · go_wp2
      go_ret3
      exact ⟨by rw [← hg.out, getGo_end i n l (by omega)]; rfl, hgr⟩
end Go.Proofs.YtoamnifnfkgbiaaGreatDoor

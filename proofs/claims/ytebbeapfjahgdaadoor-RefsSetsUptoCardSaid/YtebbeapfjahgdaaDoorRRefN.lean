/-
  cartularyref.RefName, cartularyref.maybe by their contracts.
-/
import Derived.Test.YtebbeapfjahgdaaDoorStepL
import Derived.Test.YtebbeapfjahgdaaDoorBRow
namespace Go.Proofs.YtebbeapfjahgdaaDoor
open Go.RowKit
set_option linter.unusedVariables false
set_option maxRecDepth 100000 in
set_option maxHeartbeats 1000000 in
theorem maybe_any (l : List UInt8) (w : World) : Calls Tryd.prog 22 #[.string (bs l)] w fun e w' => e = .returned (.bool (mayB l)) ∧ w = w' := by
  by_cases h0 : l.length = 0
  · have q0 : ((l.length : Int) == 0) = true := by rw [beq_iff_eq]; omega
    have HM : Sec (mayB l = true) := sec (by unfold mayB; rw [decide_eq_true h0]; rfl)
    clear h0
    rw [HM.out]
    go_enter Tryd.func22, Tryd.ntmps22
    go_wp2_with fail
    go_ret
    exact ⟨rfl, rfl⟩
  · have q0 : ((l.length : Int) == 0) = false := by rw [beq_eq_false_iff_ne]; omega
    by_cases h1 : l.length = 32
    · have q1 : ((l.length : Int) == 32) = true := by rw [beq_iff_eq]; omega
      have HM : Sec (mayB l = true) := sec (by unfold mayB; rw [decide_eq_true h1]; simp)
      clear h0 h1
      rw [HM.out]
      go_enter Tryd.func22, Tryd.ntmps22
      go_wp2_with fail
      go_ret
      exact ⟨rfl, rfl⟩
    · have q1 : ((l.length : Int) == 32) = false := by rw [beq_eq_false_iff_ne]; omega
      have HM : Sec (mayB l = false) := sec (by unfold mayB; rw [decide_eq_false h0, decide_eq_false h1]; rfl)
      clear h0 h1
      rw [HM.out]
      go_enter Tryd.func22, Tryd.ntmps22
      go_wp2_with fail
      go_ret
      exact ⟨rfl, rfl⟩

/-- the cases of a byte in a ref's name -/
theorem ref_cases (n : Nat) : (n = 47) ∨ (n ≠ 47 ∧ 97 ≤ n ∧ n ≤ 122) ∨ (n ≠ 47 ∧ ¬ 97 ≤ n ∧ 48 ≤ n ∧ n ≤ 57) ∨ (n ≠ 47 ∧ ¬ 97 ≤ n ∧ n = 45) ∨ (n ≠ 47 ∧ ¬ 97 ≤ n ∧ n = 95) ∨ (n ≠ 47 ∧ (97 ≤ n → ¬ n ≤ 122) ∧ (48 ≤ n → ¬ n ≤ 57) ∧ n ≠ 45 ∧ n ≠ 95) := by omega

set_option maxRecDepth 100000 in
set_option maxHeartbeats 4000000 in
theorem refName_any (s : List UInt8) (w : World) (hs : s.length ≤ 1099511627776) :
    Calls Tryd.prog 6 #[.string (bs s)] w fun e w' => e = .returned (.bool (refB s)) ∧ Gr w w' := by
  obtain ⟨w2, cap, hcv, hg2, hB⟩ := conv_brow Tryd.underlying9 Tryd.underlying37 Tryd.underlying5 w (s ++ [47]) (by simp only [List.length_append, List.length_cons, List.length_nil]; unfold maxLen; omega)
  have hcat : ¬ 9223372036854775807 < s.length + 1 := by omega
  obtain ⟨z, hz⟩ : ∃ z, z = s ++ [47] := ⟨_, rfl⟩
  have hzl : z.length = s.length + 1 := by rw [hz]; simp
  have HR : Sec (refB s = (rnGo 0 z && decide (s.length ≤ 60))) := sec (by rw [hz]; rfl)
  simp only [List.length_append, List.length_cons, List.length_nil, Nat.zero_add] at hcv
  rw [← hz] at hB
  have HZL := sec hzl
  clear hz hzl
  go_enter Tryd.func6, Tryd.ntmps6
  go_wp2_with fail
  go_loopw [10, 3, 5, 14, 21, 24] (fun iv pv _ _ _ _ wr => ∃ (i p : Nat), iv = .int .i64 (i : Int) ∧ pv = .int .i64 (p : Int) ∧ i ≤ s.length + 1 ∧ p ≤ i ∧ Sec (rnGo 0 z = rnGo p (z.drop i)) ∧ wr = w2)
    (fun iv _ _ _ _ _ _ => s.length + 1 - (intOf iv).toNat)
  case atStart => exact ⟨0, 0, rfl, rfl, by omega, by omega, sec rfl, rfl⟩
  case round =>
    clear hcv
    obtain ⟨i, p, rfl, rfl, hi, hp, HA, rfl⟩ := hrel
    have hpb : p ≤ 2199023255552 := by omega
    by_cases hlt : i < s.length + 1
    · have hiz : i < z.length := by rw [HZL.out]; exact hlt
      have hli : (i : Int) < (s.length : Int) + 1 := by omega
      have hcl := hB.at_ i (byteV z[i]) (by rw [List.getElem?_map, List.getElem?_eq_getElem hiz]; rfl)
      have hgo := HA.out
      rw [List.drop_eq_getElem_cons hiz, rn_step] at hgo
      obtain ⟨c, hc⟩ : ∃ c, c = z[i] := ⟨_, rfl⟩
      rw [← hc] at hcl hgo
      unfold byteV at hcl
      have h47 : (c = 47) ↔ c.toNat = 47 := ⟨fun e => by rw [e]; rfl, fun e => UInt8.toNat_inj.1 e⟩
      simp only [h47] at hgo
      clear hc h47
      obtain ⟨n, hn⟩ : ∃ n, n = c.toNat := ⟨_, rfl⟩
      rw [← hn] at hcl hgo
      have HLT := sec (And.intro hlt hp)
      clear hn hlt hiz
      have HGO := sec hgo
      clear hgo
      rcases ref_cases n with h1 | ⟨h0, h1, h2⟩ | ⟨h0, h1, h2, h3⟩ | ⟨h0, h1, h2⟩ | ⟨h0, h1, h2⟩ | ⟨h0, h1, h2, h3, h4⟩
      · by_cases hp0 : p = 0
        · have t1 : ((n : Int) == 47) = true := by rw [beq_iff_eq]; omega
          have t2 : ((p : Int) == 0) = true := by rw [beq_iff_eq]; omega
          have HF : Sec (refB s = false) := sec (by rw [HR.out, HGO.out, if_pos h1, if_pos hp0]; rfl)
          clear h1 hp0 hp
          go_wp2_with fail
          go_ret
          exact ⟨by rw [HF.out]; rfl, hg2⟩
        · have t1 : ((n : Int) == 47) = true := by rw [beq_iff_eq]; omega
          have t2 : ((p : Int) == 0) = false := by rw [beq_eq_false_iff_ne]; omega
          have HN : Sec (rnGo 0 z = rnGo 0 (z.drop (i + 1))) := sec (by rw [HGO.out, if_pos h1, if_neg hp0])
          clear h1 hp0 hp
          go_wp2_with fail
          go_roundw
          case rel => exact ⟨i + 1, 0, by go_num, rfl, HLT.out.1, by omega, HN, by trivial⟩
          case measure => simp [intOf]; have := HLT.out.1; omega
      · have t1 : ((n : Int) == 47) = false := by rw [beq_eq_false_iff_ne]; omega
        have q1 : (97 : Int) ≤ (n : Int) := by omega
        have q2 : (n : Int) ≤ 122 := by omega
        have HN : Sec (rnGo 0 z = rnGo (p + 1) (z.drop (i + 1))) := sec (by rw [HGO.out, if_neg h0, if_pos (by simp [refC]; omega)])
        clear h0 h1 h2 hp
        go_wp2_with fail
        go_roundw
        case rel => exact ⟨i + 1, p + 1, by go_num, by go_num, HLT.out.1, by have := HLT.out.2; omega, HN, by trivial⟩
        case measure => simp [intOf]; have := HLT.out.1; omega
      · have t1 : ((n : Int) == 47) = false := by rw [beq_eq_false_iff_ne]; omega
        have q1 : ¬ (97 : Int) ≤ (n : Int) := by omega
        have q3 : (48 : Int) ≤ (n : Int) := by omega
        have q4 : (n : Int) ≤ 57 := by omega
        have HN : Sec (rnGo 0 z = rnGo (p + 1) (z.drop (i + 1))) := sec (by rw [HGO.out, if_neg h0, if_pos (by simp [refC]; omega)])
        clear h0 h1 h2 h3 hp
        go_wp2_with fail
        go_roundw
        case rel => exact ⟨i + 1, p + 1, by go_num, by go_num, HLT.out.1, by have := HLT.out.2; omega, HN, by trivial⟩
        case measure => simp [intOf]; have := HLT.out.1; omega
      · have t1 : ((n : Int) == 47) = false := by rw [beq_eq_false_iff_ne]; omega
        have q1 : ¬ (97 : Int) ≤ (n : Int) := by omega
        have q3 : ¬ (48 : Int) ≤ (n : Int) := by omega
        have t2 : ((n : Int) == 45) = true := by rw [beq_iff_eq]; omega
        have HN : Sec (rnGo 0 z = rnGo (p + 1) (z.drop (i + 1))) := sec (by rw [HGO.out, if_neg h0, if_pos (by simp [refC]; omega)])
        clear h0 h1 h2 hp
        go_wp2_with fail
        go_roundw
        case rel => exact ⟨i + 1, p + 1, by go_num, by go_num, HLT.out.1, by have := HLT.out.2; omega, HN, by trivial⟩
        case measure => simp [intOf]; have := HLT.out.1; omega
      · have t1 : ((n : Int) == 47) = false := by rw [beq_eq_false_iff_ne]; omega
        have q1 : ¬ (97 : Int) ≤ (n : Int) := by omega
        have q3 : (48 : Int) ≤ (n : Int) := by omega
        have q4 : ¬ (n : Int) ≤ 57 := by omega
        have t2 : ((n : Int) == 45) = false := by rw [beq_eq_false_iff_ne]; omega
        have t3 : ((n : Int) == 95) = true := by rw [beq_iff_eq]; omega
        have HN : Sec (rnGo 0 z = rnGo (p + 1) (z.drop (i + 1))) := sec (by rw [HGO.out, if_neg h0, if_pos (by simp [refC]; omega)])
        clear h0 h1 h2 hp
        go_wp2_with fail
        go_roundw
        case rel => exact ⟨i + 1, p + 1, by go_num, by go_num, HLT.out.1, by have := HLT.out.2; omega, HN, by trivial⟩
        case measure => simp [intOf]; have := HLT.out.1; omega
      · by_cases g1 : 97 ≤ n
        · have t1 : ((n : Int) == 47) = false := by rw [beq_eq_false_iff_ne]; omega
          have q1 : (97 : Int) ≤ (n : Int) := by omega
          have q2 : ¬ (n : Int) ≤ 122 := by omega
          have q3 : (48 : Int) ≤ (n : Int) := by omega
          have q4 : ¬ (n : Int) ≤ 57 := by omega
          have t2 : ((n : Int) == 45) = false := by rw [beq_eq_false_iff_ne]; omega
          have t3 : ((n : Int) == 95) = false := by rw [beq_eq_false_iff_ne]; omega
          have HF : Sec (refB s = false) := sec (by rw [HR.out, HGO.out, if_neg h0, if_neg (by simp [refC]; omega)]; rfl)
          clear h0 h1 h2 h3 h4 g1 hp
          go_wp2_with fail
          go_ret
          exact ⟨by rw [HF.out]; rfl, hg2⟩
        · by_cases g2 : 48 ≤ n
          · have t1 : ((n : Int) == 47) = false := by rw [beq_eq_false_iff_ne]; omega
            have q1 : ¬ (97 : Int) ≤ (n : Int) := by omega
            have q3 : (48 : Int) ≤ (n : Int) := by omega
            have q4 : ¬ (n : Int) ≤ 57 := by omega
            have t2 : ((n : Int) == 45) = false := by rw [beq_eq_false_iff_ne]; omega
            have t3 : ((n : Int) == 95) = false := by rw [beq_eq_false_iff_ne]; omega
            have HF : Sec (refB s = false) := sec (by rw [HR.out, HGO.out, if_neg h0, if_neg (by simp [refC]; omega)]; rfl)
            clear h0 h1 h2 h3 h4 g1 g2 hp
            go_wp2_with fail
            go_ret
            exact ⟨by rw [HF.out]; rfl, hg2⟩
          · have t1 : ((n : Int) == 47) = false := by rw [beq_eq_false_iff_ne]; omega
            have q1 : ¬ (97 : Int) ≤ (n : Int) := by omega
            have q3 : ¬ (48 : Int) ≤ (n : Int) := by omega
            have t2 : ((n : Int) == 45) = false := by rw [beq_eq_false_iff_ne]; omega
            have t3 : ((n : Int) == 95) = false := by rw [beq_eq_false_iff_ne]; omega
            have HF : Sec (refB s = false) := sec (by rw [HR.out, HGO.out, if_neg h0, if_neg (by simp [refC]; omega)]; rfl)
            clear h0 h1 h2 h3 h4 g1 g2 hp
            go_wp2_with fail
            go_ret
            exact ⟨by rw [HF.out]; rfl, hg2⟩
    · obtain rfl : i = s.length + 1 := by omega
      have HE : Sec (rnGo 0 z = true) := sec (by rw [HA.out, List.drop_eq_nil_of_le (by rw [HZL.out]; omega)]; cases p <;> rfl)
      clear hlt
      by_cases h60 : s.length ≤ 60
      · have q1 : (s.length : Int) ≤ 60 := by omega
        have HF : Sec (refB s = true) := sec (by rw [HR.out, HE.out, decide_eq_true h60]; rfl)
        clear h60
        go_wp2_with fail
        go_ret
        exact ⟨by rw [HF.out]; rfl, hg2⟩
      · have q1 : ¬ (s.length : Int) ≤ 60 := by omega
        have HF : Sec (refB s = false) := sec (by rw [HR.out, HE.out, decide_eq_false h60]; rfl)
        clear h60
        go_wp2_with fail
        go_ret
        exact ⟨by rw [HF.out]; rfl, hg2⟩
end Go.Proofs.YtebbeapfjahgdaaDoor

/-
  cartularyref.between, cartularyref.entryName by their contracts.
-/
import Derived.Test.YtoamnifnfkgbiaaGreatDoorObL
import Derived.Test.YtoamnifnfkgbiaaGreatDoorBRow
namespace Go.Proofs.YtoamnifnfkgbiaaGreatDoor
set_option maxRecDepth 100000
open Go.RowKit
set_option linter.unusedVariables false
def btw (lo hi : Nat) (s : List UInt8) : Bool := s.all fun c => decide (lo ≤ c.toNat) && decide (c.toNat ≤ hi)
set_option maxHeartbeats 4000000 in
theorem between_any (s : List UInt8) (lo hi : Nat) (w : World) (hs : s.length ≤ 4611686018427387904) :
    Calls Tryz.prog 159 #[.string (bs s), .int .u8 (lo : Int), .int .u8 (hi : Int)] w fun e w' => e = .returned (.bool (btw lo hi s)) ∧ Gr w w' := by
  obtain ⟨w2, cap, hcv, hg2, hB⟩ := conv_brow Tryz.underlying9 Tryz.underlying140 Tryz.underlying5 w s (by unfold maxLen; omega)
  obtain ⟨V, hV⟩ : ∃ V, V = btw lo hi s := ⟨_, rfl⟩
  rw [← hV]
  have HV := sec hV
  clear hV
  go_enter Tryz.func159, Tryz.ntmps159
  go_wp2_with fail
  go_loopw [12, 8] (fun iv _ wr => ∃ i : Nat, iv = .int .i64 (i : Int) ∧ i ≤ s.length ∧ Sec (btw lo hi (s.take i) = true) ∧ wr = w2)
    (fun iv _ _ => s.length - (intOf iv).toNat)
  case atStart => exact ⟨0, rfl, by omega, sec rfl, rfl⟩
  case round =>
    clear hcv
    obtain ⟨i, rfl, hi', HA, rfl⟩ := hrel
    by_cases hlt : i < s.length
    · have hli : (i : Int) < (s.length : Int) := by omega
      have hcl := hB.at_ i (byteV s[i]) (by rw [List.getElem?_map, List.getElem?_eq_getElem hlt]; rfl)
      obtain ⟨c, hc⟩ : ∃ c, c = s[i] := ⟨_, rfl⟩
      rw [← hc] at hcl
      unfold byteV at hcl
      have HALL : Sec (btw lo hi (s.take (i + 1)) = (decide (lo ≤ c.toNat) && decide (c.toNat ≤ hi))) := sec (by
        have h1 := HA.out
        unfold btw at h1 ⊢
        rw [List.take_succ_eq_append_getElem hlt, List.all_append, h1, ← hc]
        simp only [List.all_cons, List.all_nil, Bool.and_true, Bool.true_and])
      have HNO : Sec ((decide (lo ≤ c.toNat) && decide (c.toNat ≤ hi)) = false → V = false) := sec (fun h => by
        have h1 := HALL.out
        rw [HV.out]
        unfold btw at h1 ⊢
        rw [← List.take_append_drop (i + 1) s, List.all_append, h1, h]; rfl)
      clear hc
      obtain ⟨n, hn⟩ : ∃ n, n = c.toNat := ⟨_, rfl⟩
      rw [← hn] at hcl HALL HNO
      clear hn
      have HLT := sec hlt
      clear hlt
      by_cases p1 : lo ≤ n
      · have q1 : ¬ (n : Int) < (lo : Int) := by omega
        by_cases p2 : n ≤ hi
        · have q2 : ¬ (hi : Int) < (n : Int) := by omega
          rw [decide_eq_true p1, decide_eq_true p2] at HALL
          clear p1 p2 HNO
          go_wp2_with fail
          go_roundw
          case rel => exact ⟨i + 1, by go_num, HLT.out, HALL, by trivial⟩
          case measure => simp [intOf]; have := HLT.out; omega
        · have q2 : (hi : Int) < (n : Int) := by omega
          have HF := sec (HNO.out (by rw [decide_eq_true p1, decide_eq_false p2]; rfl))
          clear p1 p2 HNO
          go_wp2_with fail
          go_ret
          exact ⟨by rw [HF.out]; rfl, hg2⟩
      · have q1 : (n : Int) < (lo : Int) := by omega
        have HF := sec (HNO.out (by rw [decide_eq_false p1]; rfl))
        clear p1 HNO
        go_wp2_with fail
        go_ret
        exact ⟨by rw [HF.out]; rfl, hg2⟩
    · obtain rfl : i = s.length := by omega
      have HF : Sec (V = true) := sec (by have := HA.out; rw [List.take_length] at this; rw [HV.out]; exact this)
      clear hlt
      go_wp2_with fail
      go_ret
      exact ⟨by rw [HF.out]; rfl, hg2⟩
theorem btw_line (s : List UInt8) : btw 1 255 s = lineC s := by
  unfold btw lineC
  congr 1
  funext c
  have := c.toNat_lt
  by_cases h : c.toNat = 0
  · simp [h]
  · have e1 : decide (1 ≤ c.toNat) = true := decide_eq_true (by omega)
    have e2 : decide (c.toNat ≤ 255) = true := decide_eq_true (by omega)
    have e3 : (c.toNat == 0) = false := by simpa using h
    rw [e1, e2, e3]; rfl
def noSl (s : List UInt8) : Bool := s.all fun c => !(c.toNat == 47)
theorem ent_all (s : List UInt8) : (s.all fun c => entC c.toNat) = (noSl s && btw 33 126 s) := by
  unfold noSl btw entC
  induction s with
  | nil => rfl
  | cons c r ih =>
    simp only [List.all_cons]
    rw [ih]
    generalize decide (33 ≤ c.toNat) = a
    generalize decide (c.toNat ≤ 126) = b
    generalize (c.toNat == 47) = d
    generalize (r.all fun c => !(c.toNat == 47)) = e
    generalize (r.all fun c => decide (33 ≤ c.toNat) && decide (c.toNat ≤ 126)) = f
    cases a <;> cases b <;> cases d <;> cases e <;> cases f <;> rfl
theorem entB_r (s : List UInt8) : entB s = (noSl s && (decide (1 ≤ s.length) && (decide (s.length ≤ 60) && (btw 33 126 s && (!(s == [46]) && !(s == [46, 46])))))) := by
  unfold entB
  rw [ent_all]
  generalize noSl s = a
  generalize btw 33 126 s = b
  generalize (s == [46]) = d
  generalize (s == [46, 46]) = e
  by_cases h1 : s.length = 0
  · rw [decide_eq_false (fun h => h.1 h1), decide_eq_false (by omega : ¬ 1 ≤ s.length)]
    cases a <;> rfl
  · by_cases h2 : s.length ≤ 60
    · rw [decide_eq_true ⟨h1, h2⟩, decide_eq_true (by omega : 1 ≤ s.length), decide_eq_true h2]
      cases a <;> cases b <;> rfl
    · rw [decide_eq_false (fun h => h2 h.2), decide_eq_true (by omega : 1 ≤ s.length), decide_eq_false h2]
      cases a <;> rfl
set_option maxHeartbeats 4000000 in
theorem entName_any (s : List UInt8) (w : World) (hs : s.length ≤ 4611686018427387904) :
    Calls Tryz.prog 158 #[.string (bs s)] w fun e w' => e = .returned (.bool (entB s)) ∧ Gr w w' := by
  obtain ⟨w2, cap, hcv, hg2, hB⟩ := conv_brow Tryz.underlying9 Tryz.underlying140 Tryz.underlying5 w s (by unfold maxLen; omega)
  have HBt := sec (fun w => between_any s 33 126 w hs)
  have HV := sec (entB_r s)
  obtain ⟨V, hV⟩ : ∃ V, V = entB s := ⟨_, rfl⟩
  rw [← hV] at HV
  rw [← hV]
  clear hV
  go_enter Tryz.func158, Tryz.ntmps158
  go_wp2_with fail
  go_loopw [8, 4] (fun iv _ wr => ∃ i : Nat, iv = .int .i64 (i : Int) ∧ i ≤ s.length ∧ Sec (noSl (s.take i) = true) ∧ wr = w2)
    (fun iv _ _ => s.length - (intOf iv).toNat)
  case atStart => exact ⟨0, rfl, by omega, sec rfl, rfl⟩
  case round =>
    clear hcv
    obtain ⟨i, rfl, hi', HA, rfl⟩ := hrel
    by_cases hlt : i < s.length
    · have hli : (i : Int) < (s.length : Int) := by omega
      have hcl := hB.at_ i (byteV s[i]) (by rw [List.getElem?_map, List.getElem?_eq_getElem hlt]; rfl)
      obtain ⟨c, hc⟩ : ∃ c, c = s[i] := ⟨_, rfl⟩
      rw [← hc] at hcl
      unfold byteV at hcl
      have HALL : Sec (noSl (s.take (i + 1)) = !(c.toNat == 47)) := sec (by
        have h1 := HA.out
        unfold noSl at h1 ⊢
        rw [List.take_succ_eq_append_getElem hlt, List.all_append, h1, ← hc]
        simp only [List.all_cons, List.all_nil, Bool.and_true, Bool.true_and])
      have HNO : Sec ((c.toNat == 47) = true → V = false) := sec (fun h => by
        have h1 := HALL.out
        have h2 : noSl s = false := by
          unfold noSl at h1 ⊢
          rw [← List.take_append_drop (i + 1) s, List.all_append, h1, h]; rfl
        rw [HV.out, h2]; rfl)
      clear hc
      obtain ⟨n, hn⟩ : ∃ n, n = c.toNat := ⟨_, rfl⟩
      rw [← hn] at hcl HALL HNO
      clear hn
      have HLT := sec hlt
      clear hlt
      by_cases p1 : n = 47
      · have q1 : ((n : Int) == 47) = true := by rw [beq_iff_eq]; omega
        have HF := sec (HNO.out (by rw [beq_iff_eq]; exact p1))
        clear p1 HNO
        go_wp2_with fail
        go_ret
        exact ⟨by rw [HF.out]; rfl, hg2⟩
      · have q1 : ((n : Int) == 47) = false := by rw [beq_eq_false_iff_ne]; omega
        have HA2 : Sec (noSl (s.take (i + 1)) = true) := sec (by rw [HALL.out]; simpa using p1)
        clear p1 HNO
        go_wp2_with fail
        go_roundw
        case rel => exact ⟨i + 1, by go_num, HLT.out, HA2, by trivial⟩
        case measure => simp [intOf]; have := HLT.out; omega
    · obtain rfl : i = s.length := by omega
      have h0 := HA.out
      rw [List.take_length] at h0
      have HV2 : Sec (V = (decide (1 ≤ s.length) && (decide (s.length ≤ 60) && (btw 33 126 s && (!(s == [46]) && !(s == [46, 46])))))) := sec (by rw [HV.out, h0]; rfl)
      clear h0 HV hlt
      obtain ⟨B, hBB⟩ : ∃ B, B = btw 33 126 s := ⟨_, rfl⟩
      rw [← hBB] at HBt HV2
      clear hBB
      by_cases h1 : 1 ≤ s.length
      · have q1 : (1 : Int) ≤ (s.length : Int) := by omega
        by_cases h2 : s.length ≤ 60
        · have q2 : (s.length : Int) ≤ 60 := by omega
          have HV3 : Sec (V = (B && (!(s == [46]) && !(s == [46, 46])))) := sec (by rw [HV2.out, decide_eq_true h1, decide_eq_true h2]; rfl)
          clear h2 HV2
          cases B
          · have HX : Sec (V = false) := sec (by rw [HV3.out]; rfl)
            go_wp2_with (go_at_call 159; (with_reducible refine Calls.mono (HBt.out _) ?_); rintro e w1 ⟨rfl, g1⟩)
            go_ret
            exact ⟨by rw [HX.out]; rfl, hg2.trans g1⟩
          · cases h3 : (s == [46])
            · cases h4 : (s == [46, 46])
              · have HX : Sec (V = true) := sec (by rw [HV3.out, h3, h4]; rfl)
                go_wp2_with (go_at_call 159; (with_reducible refine Calls.mono (HBt.out _) ?_); rintro e w1 ⟨rfl, g1⟩)
                go_ret
                exact ⟨by rw [HX.out]; rfl, hg2.trans g1⟩
              · have HX : Sec (V = false) := sec (by rw [HV3.out, h3, h4]; rfl)
                go_wp2_with (go_at_call 159; (with_reducible refine Calls.mono (HBt.out _) ?_); rintro e w1 ⟨rfl, g1⟩)
                go_ret
                exact ⟨by rw [HX.out]; rfl, hg2.trans g1⟩
            · have HX : Sec (V = false) := sec (by rw [HV3.out, h3]; rfl)
              go_wp2_with (go_at_call 159; (with_reducible refine Calls.mono (HBt.out _) ?_); rintro e w1 ⟨rfl, g1⟩)
              go_ret
              exact ⟨by rw [HX.out]; rfl, hg2.trans g1⟩
        · have q2 : ¬ (s.length : Int) ≤ 60 := by omega
          have HX : Sec (V = false) := sec (by rw [HV2.out, decide_eq_true h1, decide_eq_false h2]; rfl)
          clear h2
          go_wp2_with fail
          go_ret
          exact ⟨by rw [HX.out]; rfl, hg2⟩
      · have q1 : ¬ (1 : Int) ≤ (s.length : Int) := by omega
        have HX : Sec (V = false) := sec (by rw [HV2.out, decide_eq_false h1]; rfl)
        go_wp2_with fail
        go_ret
        exact ⟨by rw [HX.out]; rfl, hg2⟩
end Go.Proofs.YtoamnifnfkgbiaaGreatDoor

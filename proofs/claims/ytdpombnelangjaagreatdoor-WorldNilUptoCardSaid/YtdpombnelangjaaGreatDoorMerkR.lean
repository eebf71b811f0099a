/-
  merkle.Root, up by their contracts.
-/
import Derived.Test.YtdpombnelangjaaGreatDoorMerkC
import Derived.Deep.RegionHeld3
namespace Go.Proofs.YtdpombnelangjaaGreatDoor
open Go.RowKit
set_option linter.unusedVariables false
def Short (ss : List (List UInt8)) : Prop := ∀ s ∈ ss, s.length ≤ 1099511627776
theorem Short.take {ss : List (List UInt8)} (h : Short ss) (k : Nat) : Short (ss.take k) := fun s hs => h s (List.mem_of_mem_take hs)
theorem Short.drop {ss : List (List UInt8)} (h : Short ss) (k : Nat) : Short (ss.drop k) := fun s hs => h s (List.mem_of_mem_drop hs)
theorem StrRow.take {w : World} {A : Option Addr} {n : Nat} {ss : List (List UInt8)} (h : StrRow w A n ss) (k : Nat) (hk : k ≤ n) : StrRow w A k (ss.take k) := by
  refine ⟨?_, fun hk0 => ?_⟩
  · have := h.len; simp; omega
  · obtain ⟨b, off, e, hc⟩ := Row.at_ h (by omega)
    refine ⟨b, off, e, fun i v hv => hc i v ?_⟩
    rw [List.map_take] at hv
    obtain ⟨hl, hg⟩ := List.getElem?_eq_some_iff.1 hv
    rw [List.getElem_take] at hg
    rw [List.length_take] at hl
    exact List.getElem?_eq_some_iff.2 ⟨by omega, hg⟩
theorem StrRow.drop {w : World} {b off n : Nat} {ss : List (List UInt8)} (h : StrRow w (some ⟨b, off, none⟩) n ss) (k : Nat) (hk : k ≤ n) : StrRow w (some ⟨b, off + k, none⟩) (n - k) (ss.drop k) := by
  refine ⟨?_, fun hk0 => ?_⟩
  · have := h.len; simp; omega
  · obtain ⟨b', off', e, hc⟩ := Row.at_ h (by omega)
    injection e with e
    injection e with e1 e2 _
    subst e1 e2
    refine ⟨b, off + k, rfl, fun i v hv => ?_⟩
    rw [List.map_drop, List.getElem?_drop] at hv
    rw [Nat.add_assoc]
    exact hc _ v hv

set_option maxRecDepth 100000 in
set_option maxHeartbeats 2000000 in
theorem root_any (N : Nat) : ∀ (ss : List (List UInt8)) (A : Option Addr) (n cap : Nat) (w : World), ss.length ≤ N → n ≤ 1099511627776 → n ≤ cap → StrRow w A n ss → Short ss → TabK w →
    Calls Tryz.prog 101 #[.slice A n cap] w fun e w' => e = .returned (.string (bs (rootL ss))) ∧ Gr w w' := by
  induction N with
  | zero =>
    intro ss A n cap w hN hn hcap hrow hs hT
    have hl := hrow.len
    obtain rfl : ss = [] := List.eq_nil_of_length_eq_zero (by omega)
    obtain rfl : n = 0 := by simpa using hl.symm
    have HR := sec rootL_nil
    clear hl
    go_enter Tryz.func101, Tryz.ntmps101
    go_wp2_with (go_at_call 44; refine (sum_any [] _ hT (by simp)).mono ?_; rintro e w1 ⟨rfl, g1⟩)
    go_ret
    exact ⟨by rw [HR.out]; rfl, g1⟩
  | succ N ih =>
    intro ss A n cap w hN hn hcap hrow hs hT
    have hl := hrow.len
    by_cases h0 : n = 0
    · subst h0
      obtain rfl : ss = [] := List.eq_nil_of_length_eq_zero hl
      have HR := sec rootL_nil
      clear hl ih
      go_enter Tryz.func101, Tryz.ntmps101
      go_wp2_with (go_at_call 44; refine (sum_any [] _ hT (by simp)).mono ?_; rintro e w1 ⟨rfl, g1⟩)
      go_ret
      exact ⟨by rw [HR.out]; rfl, g1⟩
    · by_cases h1 : n = 1
      · subst h1
        obtain ⟨s, rfl⟩ : ∃ s, ss = [s] := by
          match ss, hl with
          | [s], _ => exact ⟨s, rfl⟩
        have HR := sec (rootL_one s)
        have hsl := hs s (by simp)
        obtain ⟨b, off, rfl, hc⟩ := hrow.cell (i := 0) (by simp)
        simp at hc
        clear hl ih h0 hs
        go_enter Tryz.func101, Tryz.ntmps101
        go_wp2_with (go_at_call 149; refine (leaf_any s _ hT hsl).mono ?_; rintro e w1 ⟨rfl, g1⟩)
        go_ret
        exact ⟨by rw [HR.out]; rfl, g1⟩
      · have hlt : 1 < n := by omega
        have t0 : ((n : Int) == 0) = false := by rw [beq_eq_false_iff_ne]; omega
        have t1 : ((n : Int) == 1) = false := by rw [beq_eq_false_iff_ne]; omega
        have hkl := halfN_lt hlt
        have hkp := halfN_pos n
        have hR := rootL_more (l := ss) (by omega)
        rw [hl] at hR
        have HH : Sec (∀ w, Calls Tryz.prog 102 #[.int .i64 (n : Int)] w fun e w' => e = .returned (.int .i64 (halfN n : Int)) ∧ w' = w) := sec fun w => half_any n w hn
        obtain ⟨b, off, rfl, _⟩ := Row.at_ hrow (by omega)
        obtain ⟨k, hk⟩ : ∃ k, k = halfN n := ⟨_, rfl⟩
        rw [← hk] at hkl hkp hR HH
        have hT1 := hrow.take k (by omega)
        have hT2 := hrow.drop k (by omega)
        have IH1 : Sec (∀ w', Gr w w' → Calls Tryz.prog 101 #[.slice (some ⟨b, off, none⟩) k cap] w' fun e w'' => e = .returned (.string (bs (rootL (ss.take k)))) ∧ Gr w' w'') :=
          sec fun w' g => ih (ss.take k) _ k cap w' (by simp; omega) (by omega) (by omega) (hT1.gr g) (hs.take k) (hT.gr g)
        have IH2 : Sec (∀ w', Gr w w' → Calls Tryz.prog 101 #[.slice (some ⟨b, off + k, none⟩) (n - k : Nat) (cap - k : Nat)] w' fun e w'' => e = .returned (.string (bs (rootL (ss.drop k)))) ∧ Gr w' w'') :=
          sec fun w' g => ih (ss.drop k) _ (n - k) (cap - k) w' (by simp; omega) (by omega) (by omega) (hT2.gr g) (hs.drop k) (hT.gr g)
        have HR := sec hR
        have hki : (k : Int) ≤ (n : Int) := by omega
        have hkc : (k : Int) ≤ (cap : Int) := by omega
        have hkc2 : ¬ cap = k := by omega
        clear hT1 hT2 hR hk ih hl h0 h1 hrow hs hN
        go_enter Tryz.func101, Tryz.ntmps101
        go_wp2_with (go_at_call 102; with_reducible refine Calls.mono (HH.out _) ?_; rintro e w1 ⟨rfl, rfl⟩)
        have HL1 := sec (show (rootL (ss.take k)).length ≤ 1099511627776 by rw [rootL_len]; omega)
        have HL2 := sec (show (rootL (ss.drop k)).length ≤ 1099511627776 by rw [rootL_len]; omega)
        obtain ⟨R1, hR1⟩ : ∃ R, R = rootL (ss.take k) := ⟨_, rfl⟩
        obtain ⟨R2, hR2⟩ : ∃ R, R = rootL (ss.drop k) := ⟨_, rfl⟩
        rw [← hR1] at IH1 HL1 HR
        rw [← hR2] at IH2 HL2 HR
        clear hR1 hR2
        go_region_held3 (fun w' => Gr w1 w') (first | assumption | exact (Gr.refl _).drew | exact Gr.refl _)
          (first
            | (go_at_call 101; with_reducible refine Calls.mono (IH1.out _ (by assumption)) ?_; rintro e w2 ⟨rfl, g2⟩; have gg2 : Gr w1 w2 := Gr.trans (by assumption) g2)
            | (go_at_call 101; with_reducible refine Calls.mono (IH2.out _ (by assumption)) ?_; rintro e w3 ⟨rfl, g3⟩; have gg3 : Gr w1 w3 := Gr.trans (by assumption) g3)
            | (go_at_call 150; with_reducible refine Calls.mono (node_any R1 R2 _ (hT.gr (by assumption)) HL1.out HL2.out) ?_; rintro e w4 ⟨rfl, g4⟩; have gg4 : Gr w1 w4 := Gr.trans (by assumption) g4))
        all_goals
          go_wp2_with fail
          go_ret
          exact ⟨by rw [HR.out]; rfl, by assumption⟩
end Go.Proofs.YtdpombnelangjaaGreatDoor

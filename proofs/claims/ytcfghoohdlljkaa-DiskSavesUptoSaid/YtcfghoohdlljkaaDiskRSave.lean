/-
  ref.Save by its contract.
-/
import Derived.Test.YtcfghoohdlljkaaDiskSaveL
namespace Go.Proofs.Ytcfghoohdlljkaa
open Go.RowKit
set_option linter.unusedVariables false

set_option maxRecDepth 100000 in
set_option maxHeartbeats 4000000 in
theorem rsave_any (name s : List UInt8) (fs : List Fl) (A : Option Addr) (n cap : Nat) (f : Int) (w : World) (hx : FRow w A n fs) (hnc : n ≤ cap) (hA : A = none → n = 0 ∧ cap = 0) (hz : Sz fs)
    (hf : -9223372036854775808 ≤ f ∧ f ≤ 9223372036854775807) (hl1 : name.length ≤ 1048576) (hl2 : s.length ≤ 1099511627776) :
    Calls Try.prog 32 #[diskV A n cap f, .string (bs name), .string (bs s)] w (StepPost (saveR fs f name s) A n cap fs w) := by
  have hln := hx.len
  have hz1 := hz.1
  have hS0 : SaveSt w w.heap.size A n cap fs ((w.alloc (.cells #[.slice A n cap, .int .i64 f] 37)).alloc (.cells #[.slice none 0 0, .int .i64 0] 37)) A n cap f fs :=
    ⟨((Gr.refl w).alloc _).alloc _, (Blk.new w _ _).alloc _, Blk.new1 w _ _ _, hA, hnc, .inl ⟨rfl, rfl, rfl, rfl⟩⟩
  obtain ⟨wa, hwa⟩ : ∃ x, x = (w.alloc (.cells #[.slice A n cap, .int .i64 f] 37)).alloc (.cells #[.slice none 0 0, .int .i64 0] 37) := ⟨_, rfl⟩
  obtain ⟨p, hp⟩ : ∃ p, p = w.heap.size := ⟨_, rfl⟩
  rw [← hwa, ← hp] at hS0
  have HG := sec (rgood_any fs A n cap f wa (by omega) (hS0.row hx) hz.2)
  obtain ⟨dst, hdst⟩ : ∃ d, d = name ++ dotNew := ⟨_, rfl⟩
  have hdl : dst.length ≤ 1099511627776 := by rw [hdst, List.length_append]; simp only [dotNew, List.length_cons, List.length_nil]; omega
  have hbd : bs (name ++ [46, 110, 101, 119]) = bs dst := by rw [hdst]; rfl
  have HN1 := sec (fun w => fileName_any name w (by omega))
  have HN2 := sec (fun w => fileName_any dst w (by omega))
  have HP := sec hp
  have HX := sec hx
  have HZ := sec hz
  have HFU := sec hf
  have HL1 := sec (show name.length ≤ 1099511627776 by omega)
  have HL2 := sec hl2
  have HLD := sec hdl
  have HDST := sec hdst
  have S0 := sec hS0
  have hpp : p + 1 ≠ p := by omega
  have hl4 : ¬ 9223372036854775807 < name.length + 4 := by omega
  obtain ⟨x1, x2, x3, x4, x5, x6, x7, x8⟩ := hS0.facts
  unfold diskV at HG
  unfold diskV
  clear hx hA hz hz1 hf hl1 hl2 hdl hdst hnc hS0 hln
  cases hgf : goodFs fs with
  | false =>
    have HR : Sec (saveR fs f name s = (fs, f, 3)) := sec (by unfold saveR; rw [hgf]; rfl)
    rw [hgf] at HG
    clear hgf
    go_enter Try.func32, Try.ntmps32
    go_wp2_with (first | (rw [← hwa, ← hp]; clear hwa hp; go_wp2_with fail) | (go_at_call 30; refine Calls.mono HG.out ?_; rintro e w1 ⟨rfl, g1⟩; have S1 := sec (S0.out.gr g1); obtain ⟨x1, x2, x3, x4, x5, x6, x7, x8⟩ := S1.out.facts))
    obtain ⟨hb9, hg9, hn9, ha9⟩ := S1.out.done HP.out
    refine bodyPost_ret (results_blk_tmp rfl _ rfl hb9 aggDisk) rfl ?_
    rw [HR.out]
    exact ⟨A, n, cap, rfl, hg9, hn9, ha9⟩
  | true =>
    rw [hgf] at HG
    cases hnb1 : namedB name with
    | false =>
      have HR : Sec (saveR fs f name s = (fs, f, 2)) := sec (by unfold saveR; rw [hgf, hnb1]; rfl)
      rw [hnb1] at HN1
      clear hgf hnb1
      go_enter Try.func32, Try.ntmps32
      go_wp2_with (first | (rw [← hwa, ← hp]; clear hwa hp; go_wp2_with fail) | (go_at_call 30; refine Calls.mono HG.out ?_; rintro e w1 ⟨rfl, g1⟩; have S1 := sec (S0.out.gr g1); obtain ⟨x1, x2, x3, x4, x5, x6, x7, x8⟩ := S1.out.facts) | (go_at_call 56; (with_reducible refine Calls.mono (HN1.out _) ?_); rintro e w2 ⟨rfl, g2⟩; have S2 := sec (S1.out.gr g2); obtain ⟨x1, x2, x3, x4, x5, x6, x7, x8⟩ := S2.out.facts))
      obtain ⟨hb9, hg9, hn9, ha9⟩ := S2.out.done HP.out
      refine bodyPost_ret (results_blk_tmp rfl _ rfl hb9 aggDisk) rfl ?_
      rw [HR.out]
      exact ⟨A, n, cap, rfl, hg9, hn9, ha9⟩
    | true =>
      rw [hnb1] at HN1
      cases hnb2 : namedB dst with
      | false =>
        have HR : Sec (saveR fs f name s = (fs, f, 2)) := sec (by unfold saveR; rw [hgf, hnb1, ← HDST.out, hnb2]; rfl)
        rw [hnb2] at HN2
        clear hgf hnb1 hnb2
        go_enter Try.func32, Try.ntmps32
        go_wp2_with (first | (rw [← hwa, ← hp]; clear hwa hp; go_wp2_with fail) | (go_at_call 30; refine Calls.mono HG.out ?_; rintro e w1 ⟨rfl, g1⟩; have S1 := sec (S0.out.gr g1); obtain ⟨x1, x2, x3, x4, x5, x6, x7, x8⟩ := S1.out.facts) | (go_at_call 56; (with_reducible refine Calls.mono (HN1.out _) ?_); rintro e w2 ⟨rfl, g2⟩; have S2 := sec (S1.out.gr g2); obtain ⟨x1, x2, x3, x4, x5, x6, x7, x8⟩ := S2.out.facts) | (go_at_call 56; (with_reducible refine Calls.mono (HN2.out _) ?_); rintro e w3 ⟨rfl, g3⟩; have S3 := sec (S2.out.gr g3); obtain ⟨x1, x2, x3, x4, x5, x6, x7, x8⟩ := S3.out.facts))
        obtain ⟨hb9, hg9, hn9, ha9⟩ := S3.out.done HP.out
        refine bodyPost_ret (results_blk_tmp rfl _ rfl hb9 aggDisk) rfl ?_
        rw [HR.out]
        exact ⟨A, n, cap, rfl, hg9, hn9, ha9⟩
      | true =>
        rw [hnb2] at HN2
        have HV : Sec (saveR fs f name s = save3 fs f name s) := sec (by unfold saveR; rw [hgf, hnb1, ← HDST.out, hnb2]; rfl)
        have HSO := sec (goodFs_sorted hgf)
        clear hgf hnb1 hnb2
        cases hhf : hasF dst fs with
        | false =>
          have HHB := sec hhf
          have HAI : Sec (atI dst fs = -1) := sec (by unfold atI; rw [hhf]; rfl)
          have HHF : Sec (hasF dst fs = false) := sec hhf
          clear hhf
          have Z1 := HZ
          have U1 := HFU
          have HQ0 : Sec (save0 fs f name = (fs, f, 0)) := sec (by unfold save0; rw [← HDST.out, HHB.out]; rfl)
          obtain ⟨⟨gs1, u1, er1⟩, hr1⟩ : ∃ x, x = stepR (wrF dst s) fs f := ⟨_, rfl⟩
          have R1 := sec hr1
          have HQ1 : Sec (save1 fs f name s = (gs1, u1, er1)) := sec (by unfold save1; rw [HQ0.out, if_pos rfl, ← HDST.out, R1.out])
          have Z2 : Sec (Sz gs1) := sec (by have := stepR_sz (F := wrF dst s) (wrF_sz dst s HLD.out) f Z1.out; rwa [← hr1] at this)
          have U2 : Sec (-9223372036854775808 ≤ u1 ∧ u1 ≤ 9223372036854775807) := sec (by have := stepR_fuse (F := wrF dst s) (fs := fs) U1.out; rwa [← hr1] at this)
          have HO1 : Sec (∀ w A n cap, FRow w A n fs → n ≤ cap → (A = none → n = 0 ∧ cap = 0) → Calls Try.prog 28 #[.int .i64 0, diskV A n cap f, .string (bs dst), .string (bs s)] w (StepPost (gs1, u1, er1) A n cap fs w)) := sec (fun w A n cap h hc hA => by
            rw [R1.out]; exact do0_any dst s fs A n cap f w (by have := h.len; have := Z1.out.1; omega) hc h hA Z1.out.2 U1.out HLD.out HL2.out)
          unfold StepPost diskV at HO1
          clear hr1
          by_cases he1 : er1 = 0
          · subst he1
            obtain ⟨⟨gs2, u2, er2⟩, hr2⟩ : ∃ x, x = stepR (syF dst) gs1 u1 := ⟨_, rfl⟩
            have R2 := sec hr2
            have HQ2 : Sec (save2 fs f name s = (gs2, u2, er2)) := sec (by unfold save2; rw [HQ1.out, if_pos rfl, ← HDST.out, R2.out])
            have Z3 : Sec (Sz gs2) := sec (by have := stepR_sz (F := syF dst) (syF_sz dst) u1 Z2.out; rwa [← hr2] at this)
            have U3 : Sec (-9223372036854775808 ≤ u2 ∧ u2 ≤ 9223372036854775807) := sec (by have := stepR_fuse (F := syF dst) (fs := gs1) U2.out; rwa [← hr2] at this)
            have HO2 : Sec (∀ w A n cap, FRow w A n gs1 → n ≤ cap → (A = none → n = 0 ∧ cap = 0) → Calls Try.prog 28 #[.int .i64 1, diskV A n cap u1, .string (bs dst), .string (bs [])] w (StepPost (gs2, u2, er2) A n cap gs1 w)) := sec (fun w A n cap h hc hA => by
              rw [R2.out]; exact do1_any dst [] gs1 A n cap u1 w (by have := h.len; have := Z2.out.1; omega) hc h hA Z2.out.2 U2.out HLD.out (by simp))
            unfold StepPost diskV at HO2
            clear hr2
            by_cases he2 : er2 = 0
            · subst he2
              obtain ⟨⟨gs3, u3, er3⟩, hr3⟩ : ∃ x, x = stepR (rnF dst name) gs2 u2 := ⟨_, rfl⟩
              have R3 := sec hr3
              have HQ3 : Sec (save3 fs f name s = (gs3, u3, er3)) := sec (by unfold save3; rw [HQ2.out, if_pos rfl, ← HDST.out, R3.out])
              have Z4 : Sec (Sz gs3) := sec (by have := stepR_sz (F := rnF dst name) (rnF_sz dst name HL1.out) u2 Z3.out; rwa [← hr3] at this)
              have U4 : Sec (-9223372036854775808 ≤ u3 ∧ u3 ≤ 9223372036854775807) := sec (by have := stepR_fuse (F := rnF dst name) (fs := gs2) U3.out; rwa [← hr3] at this)
              have HO3 : Sec (∀ w A n cap, FRow w A n gs2 → n ≤ cap → (A = none → n = 0 ∧ cap = 0) → Calls Try.prog 28 #[.int .i64 2, diskV A n cap u2, .string (bs dst), .string (bs name)] w (StepPost (gs3, u3, er3) A n cap gs2 w)) := sec (fun w A n cap h hc hA => by
                rw [R3.out]; exact do2_any dst name gs2 A n cap u2 w (by have := h.len; have := Z3.out.1; omega) hc h hA Z3.out.2 U3.out HLD.out HL1.out)
              unfold StepPost diskV at HO3
              clear hr3
              have HR : Sec (saveR fs f name s = (gs3, u3, er3)) := sec (by rw [HV.out]; rw [HQ3.out])
              go_enter Try.func32, Try.ntmps32
              go_wp2_with (first | (rw [← hwa, ← hp]; clear hwa hp; go_wp2_with fail) | (go_at_call 30; refine Calls.mono HG.out ?_; rintro e w1 ⟨rfl, g1⟩; have S1 := sec (S0.out.gr g1); obtain ⟨x1, x2, x3, x4, x5, x6, x7, x8⟩ := S1.out.facts) | (go_at_call 56; (with_reducible refine Calls.mono (HN1.out _) ?_); rintro e w2 ⟨rfl, g2⟩; have S2 := sec (S1.out.gr g2); obtain ⟨x1, x2, x3, x4, x5, x6, x7, x8⟩ := S2.out.facts) | (go_at_call 56; (with_reducible refine Calls.mono (HN2.out _) ?_); rintro e w3 ⟨rfl, g3⟩; have S3 := sec (S2.out.gr g3); obtain ⟨x1, x2, x3, x4, x5, x6, x7, x8⟩ := S3.out.facts) | (go_at_call 46; refine Calls.mono (at_any fs dst A n cap f w3 (by have := FRow.len HX.out; have := HZ.out.1; omega) (S3.out.row HX.out) HSO.out) ?_; rw [HAI.out]; rintro e w4 ⟨rfl, g4⟩; have S4 := sec (S3.out.gr g4); obtain ⟨x1, x2, x3, x4, x5, x6, x7, x8⟩ := S4.out.facts) | (go_at_call 28; (with_reducible refine Calls.mono (HO1.out _ _ _ _ (S4.out.row HX.out) S4.out.le S4.out.nil) ?_); rintro e w6 ⟨A6, n6, cap6, rfl, g6, hA1, hal1⟩; obtain ⟨x1, x2, x3, x4, x5, x6, x7, x8⟩ := (S4.out.gr g6).facts; have T1 := sec (S4.out.next (gs := gs1) (u := u1) HP.out g6 hA1 hal1)) | (go_at_call 28; (with_reducible refine Calls.mono (HO2.out _ _ _ _ (T1.out.row HX.out) T1.out.le T1.out.nil) ?_); rintro e w7 ⟨A7, n7, cap7, rfl, g7, hA2, hal2⟩; obtain ⟨x1, x2, x3, x4, x5, x6, x7, x8⟩ := (T1.out.gr g7).facts; have T2 := sec (T1.out.next (gs := gs2) (u := u2) HP.out g7 hA2 hal2)) | (go_at_call 28; (with_reducible refine Calls.mono (HO3.out _ _ _ _ (T2.out.row HX.out) T2.out.le T2.out.nil) ?_); rintro e w8 ⟨A8, n8, cap8, rfl, g8, hA3, hal3⟩; obtain ⟨x1, x2, x3, x4, x5, x6, x7, x8⟩ := (T2.out.gr g8).facts; have T3 := sec (T2.out.next (gs := gs3) (u := u3) HP.out g8 hA3 hal3)))
              obtain ⟨hb9, hg9, hn9, ha9⟩ := T3.out.done HP.out
              refine bodyPost_ret (results_blk_tmp rfl _ rfl hb9 aggDisk) rfl ?_
              rw [HR.out]
              exact ⟨A8, n8, cap8, rfl, hg9, hn9, ha9⟩
            · have HR : Sec (saveR fs f name s = (gs2, u2, er2)) := sec (by rw [HV.out]; unfold save3; rw [HQ2.out]; simp only [he2, if_false])
              go_enter Try.func32, Try.ntmps32
              go_wp2_with (first | (rw [← hwa, ← hp]; clear hwa hp; go_wp2_with fail) | (go_at_call 30; refine Calls.mono HG.out ?_; rintro e w1 ⟨rfl, g1⟩; have S1 := sec (S0.out.gr g1); obtain ⟨x1, x2, x3, x4, x5, x6, x7, x8⟩ := S1.out.facts) | (go_at_call 56; (with_reducible refine Calls.mono (HN1.out _) ?_); rintro e w2 ⟨rfl, g2⟩; have S2 := sec (S1.out.gr g2); obtain ⟨x1, x2, x3, x4, x5, x6, x7, x8⟩ := S2.out.facts) | (go_at_call 56; (with_reducible refine Calls.mono (HN2.out _) ?_); rintro e w3 ⟨rfl, g3⟩; have S3 := sec (S2.out.gr g3); obtain ⟨x1, x2, x3, x4, x5, x6, x7, x8⟩ := S3.out.facts) | (go_at_call 46; refine Calls.mono (at_any fs dst A n cap f w3 (by have := FRow.len HX.out; have := HZ.out.1; omega) (S3.out.row HX.out) HSO.out) ?_; rw [HAI.out]; rintro e w4 ⟨rfl, g4⟩; have S4 := sec (S3.out.gr g4); obtain ⟨x1, x2, x3, x4, x5, x6, x7, x8⟩ := S4.out.facts) | (go_at_call 28; (with_reducible refine Calls.mono (HO1.out _ _ _ _ (S4.out.row HX.out) S4.out.le S4.out.nil) ?_); rintro e w6 ⟨A6, n6, cap6, rfl, g6, hA1, hal1⟩; obtain ⟨x1, x2, x3, x4, x5, x6, x7, x8⟩ := (S4.out.gr g6).facts; have T1 := sec (S4.out.next (gs := gs1) (u := u1) HP.out g6 hA1 hal1)) | (go_at_call 28; (with_reducible refine Calls.mono (HO2.out _ _ _ _ (T1.out.row HX.out) T1.out.le T1.out.nil) ?_); rintro e w7 ⟨A7, n7, cap7, rfl, g7, hA2, hal2⟩; obtain ⟨x1, x2, x3, x4, x5, x6, x7, x8⟩ := (T1.out.gr g7).facts; have T2 := sec (T1.out.next (gs := gs2) (u := u2) HP.out g7 hA2 hal2)))
              obtain ⟨hb9, hg9, hn9, ha9⟩ := T2.out.done HP.out
              refine bodyPost_ret (results_blk_tmp rfl _ rfl hb9 aggDisk) rfl ?_
              rw [HR.out]
              exact ⟨A7, n7, cap7, rfl, hg9, hn9, ha9⟩
          · have HR : Sec (saveR fs f name s = (gs1, u1, er1)) := sec (by rw [HV.out]; unfold save3; unfold save2; rw [HQ1.out]; simp only [he1, if_false])
            go_enter Try.func32, Try.ntmps32
            go_wp2_with (first | (rw [← hwa, ← hp]; clear hwa hp; go_wp2_with fail) | (go_at_call 30; refine Calls.mono HG.out ?_; rintro e w1 ⟨rfl, g1⟩; have S1 := sec (S0.out.gr g1); obtain ⟨x1, x2, x3, x4, x5, x6, x7, x8⟩ := S1.out.facts) | (go_at_call 56; (with_reducible refine Calls.mono (HN1.out _) ?_); rintro e w2 ⟨rfl, g2⟩; have S2 := sec (S1.out.gr g2); obtain ⟨x1, x2, x3, x4, x5, x6, x7, x8⟩ := S2.out.facts) | (go_at_call 56; (with_reducible refine Calls.mono (HN2.out _) ?_); rintro e w3 ⟨rfl, g3⟩; have S3 := sec (S2.out.gr g3); obtain ⟨x1, x2, x3, x4, x5, x6, x7, x8⟩ := S3.out.facts) | (go_at_call 46; refine Calls.mono (at_any fs dst A n cap f w3 (by have := FRow.len HX.out; have := HZ.out.1; omega) (S3.out.row HX.out) HSO.out) ?_; rw [HAI.out]; rintro e w4 ⟨rfl, g4⟩; have S4 := sec (S3.out.gr g4); obtain ⟨x1, x2, x3, x4, x5, x6, x7, x8⟩ := S4.out.facts) | (go_at_call 28; (with_reducible refine Calls.mono (HO1.out _ _ _ _ (S4.out.row HX.out) S4.out.le S4.out.nil) ?_); rintro e w6 ⟨A6, n6, cap6, rfl, g6, hA1, hal1⟩; obtain ⟨x1, x2, x3, x4, x5, x6, x7, x8⟩ := (S4.out.gr g6).facts; have T1 := sec (S4.out.next (gs := gs1) (u := u1) HP.out g6 hA1 hal1)))
            obtain ⟨hb9, hg9, hn9, ha9⟩ := T1.out.done HP.out
            refine bodyPost_ret (results_blk_tmp rfl _ rfl hb9 aggDisk) rfl ?_
            rw [HR.out]
            exact ⟨A6, n6, cap6, rfl, hg9, hn9, ha9⟩
        | true =>
          have HHB := sec hhf
          have HHF : Sec (hasF dst fs = true) := sec hhf
          obtain ⟨k, hk⟩ : ∃ k, k = lbF dst fs := ⟨_, rfl⟩
          have HAI : Sec (atI dst fs = (k : Int)) := sec (by unfold atI; rw [hhf, hk]; rfl)
          clear hhf hk
          have Z0 := HZ
          have U0 := HFU
          obtain ⟨⟨gs0, u0, er0⟩, hr0⟩ : ∃ x, x = stepR (rmF dst) fs f := ⟨_, rfl⟩
          have R0 := sec hr0
          have HQ0 : Sec (save0 fs f name = (gs0, u0, er0)) := sec (by unfold save0; rw [← HDST.out, HHB.out, if_pos rfl, R0.out])
          have Z1 : Sec (Sz gs0) := sec (by have := stepR_sz (F := rmF dst) (rmF_sz dst) f Z0.out; rwa [← hr0] at this)
          have U1 : Sec (-9223372036854775808 ≤ u0 ∧ u0 ≤ 9223372036854775807) := sec (by have := stepR_fuse (F := rmF dst) (fs := fs) U0.out; rwa [← hr0] at this)
          have HO0 : Sec (∀ w A n cap, FRow w A n fs → n ≤ cap → (A = none → n = 0 ∧ cap = 0) → Calls Try.prog 28 #[.int .i64 3, diskV A n cap f, .string (bs dst), .string (bs [])] w (StepPost (gs0, u0, er0) A n cap fs w)) := sec (fun w A n cap h hc hA => by
            rw [R0.out]; exact do3_any dst [] fs A n cap f w (by have := h.len; have := Z0.out.1; omega) hc h hA Z0.out.2 U0.out HLD.out (by simp))
          unfold StepPost diskV at HO0
          clear hr0
          by_cases he0 : er0 = 0
          · subst he0
            obtain ⟨⟨gs1, u1, er1⟩, hr1⟩ : ∃ x, x = stepR (wrF dst s) gs0 u0 := ⟨_, rfl⟩
            have R1 := sec hr1
            have HQ1 : Sec (save1 fs f name s = (gs1, u1, er1)) := sec (by unfold save1; rw [HQ0.out, if_pos rfl, ← HDST.out, R1.out])
            have Z2 : Sec (Sz gs1) := sec (by have := stepR_sz (F := wrF dst s) (wrF_sz dst s HLD.out) u0 Z1.out; rwa [← hr1] at this)
            have U2 : Sec (-9223372036854775808 ≤ u1 ∧ u1 ≤ 9223372036854775807) := sec (by have := stepR_fuse (F := wrF dst s) (fs := gs0) U1.out; rwa [← hr1] at this)
            have HO1 : Sec (∀ w A n cap, FRow w A n gs0 → n ≤ cap → (A = none → n = 0 ∧ cap = 0) → Calls Try.prog 28 #[.int .i64 0, diskV A n cap u0, .string (bs dst), .string (bs s)] w (StepPost (gs1, u1, er1) A n cap gs0 w)) := sec (fun w A n cap h hc hA => by
              rw [R1.out]; exact do0_any dst s gs0 A n cap u0 w (by have := h.len; have := Z1.out.1; omega) hc h hA Z1.out.2 U1.out HLD.out HL2.out)
            unfold StepPost diskV at HO1
            clear hr1
            by_cases he1 : er1 = 0
            · subst he1
              obtain ⟨⟨gs2, u2, er2⟩, hr2⟩ : ∃ x, x = stepR (syF dst) gs1 u1 := ⟨_, rfl⟩
              have R2 := sec hr2
              have HQ2 : Sec (save2 fs f name s = (gs2, u2, er2)) := sec (by unfold save2; rw [HQ1.out, if_pos rfl, ← HDST.out, R2.out])
              have Z3 : Sec (Sz gs2) := sec (by have := stepR_sz (F := syF dst) (syF_sz dst) u1 Z2.out; rwa [← hr2] at this)
              have U3 : Sec (-9223372036854775808 ≤ u2 ∧ u2 ≤ 9223372036854775807) := sec (by have := stepR_fuse (F := syF dst) (fs := gs1) U2.out; rwa [← hr2] at this)
              have HO2 : Sec (∀ w A n cap, FRow w A n gs1 → n ≤ cap → (A = none → n = 0 ∧ cap = 0) → Calls Try.prog 28 #[.int .i64 1, diskV A n cap u1, .string (bs dst), .string (bs [])] w (StepPost (gs2, u2, er2) A n cap gs1 w)) := sec (fun w A n cap h hc hA => by
                rw [R2.out]; exact do1_any dst [] gs1 A n cap u1 w (by have := h.len; have := Z2.out.1; omega) hc h hA Z2.out.2 U2.out HLD.out (by simp))
              unfold StepPost diskV at HO2
              clear hr2
              by_cases he2 : er2 = 0
              · subst he2
                obtain ⟨⟨gs3, u3, er3⟩, hr3⟩ : ∃ x, x = stepR (rnF dst name) gs2 u2 := ⟨_, rfl⟩
                have R3 := sec hr3
                have HQ3 : Sec (save3 fs f name s = (gs3, u3, er3)) := sec (by unfold save3; rw [HQ2.out, if_pos rfl, ← HDST.out, R3.out])
                have Z4 : Sec (Sz gs3) := sec (by have := stepR_sz (F := rnF dst name) (rnF_sz dst name HL1.out) u2 Z3.out; rwa [← hr3] at this)
                have U4 : Sec (-9223372036854775808 ≤ u3 ∧ u3 ≤ 9223372036854775807) := sec (by have := stepR_fuse (F := rnF dst name) (fs := gs2) U3.out; rwa [← hr3] at this)
                have HO3 : Sec (∀ w A n cap, FRow w A n gs2 → n ≤ cap → (A = none → n = 0 ∧ cap = 0) → Calls Try.prog 28 #[.int .i64 2, diskV A n cap u2, .string (bs dst), .string (bs name)] w (StepPost (gs3, u3, er3) A n cap gs2 w)) := sec (fun w A n cap h hc hA => by
                  rw [R3.out]; exact do2_any dst name gs2 A n cap u2 w (by have := h.len; have := Z3.out.1; omega) hc h hA Z3.out.2 U3.out HLD.out HL1.out)
                unfold StepPost diskV at HO3
                clear hr3
                have HR : Sec (saveR fs f name s = (gs3, u3, er3)) := sec (by rw [HV.out]; rw [HQ3.out])
                go_enter Try.func32, Try.ntmps32
                go_wp2_with (first | (rw [← hwa, ← hp]; clear hwa hp; go_wp2_with fail) | (go_at_call 30; refine Calls.mono HG.out ?_; rintro e w1 ⟨rfl, g1⟩; have S1 := sec (S0.out.gr g1); obtain ⟨x1, x2, x3, x4, x5, x6, x7, x8⟩ := S1.out.facts) | (go_at_call 56; (with_reducible refine Calls.mono (HN1.out _) ?_); rintro e w2 ⟨rfl, g2⟩; have S2 := sec (S1.out.gr g2); obtain ⟨x1, x2, x3, x4, x5, x6, x7, x8⟩ := S2.out.facts) | (go_at_call 56; (with_reducible refine Calls.mono (HN2.out _) ?_); rintro e w3 ⟨rfl, g3⟩; have S3 := sec (S2.out.gr g3); obtain ⟨x1, x2, x3, x4, x5, x6, x7, x8⟩ := S3.out.facts) | (go_at_call 46; refine Calls.mono (at_any fs dst A n cap f w3 (by have := FRow.len HX.out; have := HZ.out.1; omega) (S3.out.row HX.out) HSO.out) ?_; rw [HAI.out]; rintro e w4 ⟨rfl, g4⟩; have S4 := sec (S3.out.gr g4); obtain ⟨x1, x2, x3, x4, x5, x6, x7, x8⟩ := S4.out.facts) | (go_at_call 28; (with_reducible refine Calls.mono (HO0.out _ _ _ _ (S4.out.row HX.out) S4.out.le S4.out.nil) ?_); rintro e w5 ⟨A5, n5, cap5, rfl, g5, hA0, hal0⟩; obtain ⟨x1, x2, x3, x4, x5, x6, x7, x8⟩ := (S4.out.gr g5).facts; have T0 := sec (S4.out.next (gs := gs0) (u := u0) HP.out g5 hA0 hal0)) | (go_at_call 28; (with_reducible refine Calls.mono (HO1.out _ _ _ _ (T0.out.row HX.out) T0.out.le T0.out.nil) ?_); rintro e w6 ⟨A6, n6, cap6, rfl, g6, hA1, hal1⟩; obtain ⟨x1, x2, x3, x4, x5, x6, x7, x8⟩ := (T0.out.gr g6).facts; have T1 := sec (T0.out.next (gs := gs1) (u := u1) HP.out g6 hA1 hal1)) | (go_at_call 28; (with_reducible refine Calls.mono (HO2.out _ _ _ _ (T1.out.row HX.out) T1.out.le T1.out.nil) ?_); rintro e w7 ⟨A7, n7, cap7, rfl, g7, hA2, hal2⟩; obtain ⟨x1, x2, x3, x4, x5, x6, x7, x8⟩ := (T1.out.gr g7).facts; have T2 := sec (T1.out.next (gs := gs2) (u := u2) HP.out g7 hA2 hal2)) | (go_at_call 28; (with_reducible refine Calls.mono (HO3.out _ _ _ _ (T2.out.row HX.out) T2.out.le T2.out.nil) ?_); rintro e w8 ⟨A8, n8, cap8, rfl, g8, hA3, hal3⟩; obtain ⟨x1, x2, x3, x4, x5, x6, x7, x8⟩ := (T2.out.gr g8).facts; have T3 := sec (T2.out.next (gs := gs3) (u := u3) HP.out g8 hA3 hal3)))
                obtain ⟨hb9, hg9, hn9, ha9⟩ := T3.out.done HP.out
                refine bodyPost_ret (results_blk_tmp rfl _ rfl hb9 aggDisk) rfl ?_
                rw [HR.out]
                exact ⟨A8, n8, cap8, rfl, hg9, hn9, ha9⟩
              · have HR : Sec (saveR fs f name s = (gs2, u2, er2)) := sec (by rw [HV.out]; unfold save3; rw [HQ2.out]; simp only [he2, if_false])
                go_enter Try.func32, Try.ntmps32
                go_wp2_with (first | (rw [← hwa, ← hp]; clear hwa hp; go_wp2_with fail) | (go_at_call 30; refine Calls.mono HG.out ?_; rintro e w1 ⟨rfl, g1⟩; have S1 := sec (S0.out.gr g1); obtain ⟨x1, x2, x3, x4, x5, x6, x7, x8⟩ := S1.out.facts) | (go_at_call 56; (with_reducible refine Calls.mono (HN1.out _) ?_); rintro e w2 ⟨rfl, g2⟩; have S2 := sec (S1.out.gr g2); obtain ⟨x1, x2, x3, x4, x5, x6, x7, x8⟩ := S2.out.facts) | (go_at_call 56; (with_reducible refine Calls.mono (HN2.out _) ?_); rintro e w3 ⟨rfl, g3⟩; have S3 := sec (S2.out.gr g3); obtain ⟨x1, x2, x3, x4, x5, x6, x7, x8⟩ := S3.out.facts) | (go_at_call 46; refine Calls.mono (at_any fs dst A n cap f w3 (by have := FRow.len HX.out; have := HZ.out.1; omega) (S3.out.row HX.out) HSO.out) ?_; rw [HAI.out]; rintro e w4 ⟨rfl, g4⟩; have S4 := sec (S3.out.gr g4); obtain ⟨x1, x2, x3, x4, x5, x6, x7, x8⟩ := S4.out.facts) | (go_at_call 28; (with_reducible refine Calls.mono (HO0.out _ _ _ _ (S4.out.row HX.out) S4.out.le S4.out.nil) ?_); rintro e w5 ⟨A5, n5, cap5, rfl, g5, hA0, hal0⟩; obtain ⟨x1, x2, x3, x4, x5, x6, x7, x8⟩ := (S4.out.gr g5).facts; have T0 := sec (S4.out.next (gs := gs0) (u := u0) HP.out g5 hA0 hal0)) | (go_at_call 28; (with_reducible refine Calls.mono (HO1.out _ _ _ _ (T0.out.row HX.out) T0.out.le T0.out.nil) ?_); rintro e w6 ⟨A6, n6, cap6, rfl, g6, hA1, hal1⟩; obtain ⟨x1, x2, x3, x4, x5, x6, x7, x8⟩ := (T0.out.gr g6).facts; have T1 := sec (T0.out.next (gs := gs1) (u := u1) HP.out g6 hA1 hal1)) | (go_at_call 28; (with_reducible refine Calls.mono (HO2.out _ _ _ _ (T1.out.row HX.out) T1.out.le T1.out.nil) ?_); rintro e w7 ⟨A7, n7, cap7, rfl, g7, hA2, hal2⟩; obtain ⟨x1, x2, x3, x4, x5, x6, x7, x8⟩ := (T1.out.gr g7).facts; have T2 := sec (T1.out.next (gs := gs2) (u := u2) HP.out g7 hA2 hal2)))
                obtain ⟨hb9, hg9, hn9, ha9⟩ := T2.out.done HP.out
                refine bodyPost_ret (results_blk_tmp rfl _ rfl hb9 aggDisk) rfl ?_
                rw [HR.out]
                exact ⟨A7, n7, cap7, rfl, hg9, hn9, ha9⟩
            · have HR : Sec (saveR fs f name s = (gs1, u1, er1)) := sec (by rw [HV.out]; unfold save3; unfold save2; rw [HQ1.out]; simp only [he1, if_false])
              go_enter Try.func32, Try.ntmps32
              go_wp2_with (first | (rw [← hwa, ← hp]; clear hwa hp; go_wp2_with fail) | (go_at_call 30; refine Calls.mono HG.out ?_; rintro e w1 ⟨rfl, g1⟩; have S1 := sec (S0.out.gr g1); obtain ⟨x1, x2, x3, x4, x5, x6, x7, x8⟩ := S1.out.facts) | (go_at_call 56; (with_reducible refine Calls.mono (HN1.out _) ?_); rintro e w2 ⟨rfl, g2⟩; have S2 := sec (S1.out.gr g2); obtain ⟨x1, x2, x3, x4, x5, x6, x7, x8⟩ := S2.out.facts) | (go_at_call 56; (with_reducible refine Calls.mono (HN2.out _) ?_); rintro e w3 ⟨rfl, g3⟩; have S3 := sec (S2.out.gr g3); obtain ⟨x1, x2, x3, x4, x5, x6, x7, x8⟩ := S3.out.facts) | (go_at_call 46; refine Calls.mono (at_any fs dst A n cap f w3 (by have := FRow.len HX.out; have := HZ.out.1; omega) (S3.out.row HX.out) HSO.out) ?_; rw [HAI.out]; rintro e w4 ⟨rfl, g4⟩; have S4 := sec (S3.out.gr g4); obtain ⟨x1, x2, x3, x4, x5, x6, x7, x8⟩ := S4.out.facts) | (go_at_call 28; (with_reducible refine Calls.mono (HO0.out _ _ _ _ (S4.out.row HX.out) S4.out.le S4.out.nil) ?_); rintro e w5 ⟨A5, n5, cap5, rfl, g5, hA0, hal0⟩; obtain ⟨x1, x2, x3, x4, x5, x6, x7, x8⟩ := (S4.out.gr g5).facts; have T0 := sec (S4.out.next (gs := gs0) (u := u0) HP.out g5 hA0 hal0)) | (go_at_call 28; (with_reducible refine Calls.mono (HO1.out _ _ _ _ (T0.out.row HX.out) T0.out.le T0.out.nil) ?_); rintro e w6 ⟨A6, n6, cap6, rfl, g6, hA1, hal1⟩; obtain ⟨x1, x2, x3, x4, x5, x6, x7, x8⟩ := (T0.out.gr g6).facts; have T1 := sec (T0.out.next (gs := gs1) (u := u1) HP.out g6 hA1 hal1)))
              obtain ⟨hb9, hg9, hn9, ha9⟩ := T1.out.done HP.out
              refine bodyPost_ret (results_blk_tmp rfl _ rfl hb9 aggDisk) rfl ?_
              rw [HR.out]
              exact ⟨A6, n6, cap6, rfl, hg9, hn9, ha9⟩
          · have HR : Sec (saveR fs f name s = (gs0, u0, er0)) := sec (by rw [HV.out]; unfold save3; unfold save2; unfold save1; rw [HQ0.out]; simp only [he0, if_false])
            go_enter Try.func32, Try.ntmps32
            go_wp2_with (first | (rw [← hwa, ← hp]; clear hwa hp; go_wp2_with fail) | (go_at_call 30; refine Calls.mono HG.out ?_; rintro e w1 ⟨rfl, g1⟩; have S1 := sec (S0.out.gr g1); obtain ⟨x1, x2, x3, x4, x5, x6, x7, x8⟩ := S1.out.facts) | (go_at_call 56; (with_reducible refine Calls.mono (HN1.out _) ?_); rintro e w2 ⟨rfl, g2⟩; have S2 := sec (S1.out.gr g2); obtain ⟨x1, x2, x3, x4, x5, x6, x7, x8⟩ := S2.out.facts) | (go_at_call 56; (with_reducible refine Calls.mono (HN2.out _) ?_); rintro e w3 ⟨rfl, g3⟩; have S3 := sec (S2.out.gr g3); obtain ⟨x1, x2, x3, x4, x5, x6, x7, x8⟩ := S3.out.facts) | (go_at_call 46; refine Calls.mono (at_any fs dst A n cap f w3 (by have := FRow.len HX.out; have := HZ.out.1; omega) (S3.out.row HX.out) HSO.out) ?_; rw [HAI.out]; rintro e w4 ⟨rfl, g4⟩; have S4 := sec (S3.out.gr g4); obtain ⟨x1, x2, x3, x4, x5, x6, x7, x8⟩ := S4.out.facts) | (go_at_call 28; (with_reducible refine Calls.mono (HO0.out _ _ _ _ (S4.out.row HX.out) S4.out.le S4.out.nil) ?_); rintro e w5 ⟨A5, n5, cap5, rfl, g5, hA0, hal0⟩; obtain ⟨x1, x2, x3, x4, x5, x6, x7, x8⟩ := (S4.out.gr g5).facts; have T0 := sec (S4.out.next (gs := gs0) (u := u0) HP.out g5 hA0 hal0)))
            obtain ⟨hb9, hg9, hn9, ha9⟩ := T0.out.done HP.out
            refine bodyPost_ret (results_blk_tmp rfl _ rfl hb9 aggDisk) rfl ?_
            rw [HR.out]
            exact ⟨A5, n5, cap5, rfl, hg9, hn9, ha9⟩
end Go.Proofs.Ytcfghoohdlljkaa

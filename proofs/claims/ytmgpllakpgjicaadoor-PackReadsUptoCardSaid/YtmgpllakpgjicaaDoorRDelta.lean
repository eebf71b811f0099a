/-
  cartularyref.Apply by its contract; cartularylaw.deltas; the walk of DeltaApplies.
-/
import Derived.Test.YtmgpllakpgjicaaDoorDelta
namespace Go.Proofs.YtmgpllakpgjicaaDoor
open Go.RowKit
set_option maxRecDepth 100000 in
set_option maxHeartbeats 4000000 in
theorem rApply (base d : List UInt8) (w : World) (hb : base.length ≤ 1152921504606846976) (hd : d.length ≤ 35184372088832) :
    Calls Tryd.prog 51 #[.string (bs base), .string (bs d)] w fun e w' => e = .returned (.tuple #[.string (bs (applyR base d).1), .int .i64 ((applyR base d).2 : Int)]) ∧ Gr w w' := by
  obtain ⟨was, hwas⟩ : ∃ x, x = nxtN (d, 0) := ⟨_, rfl⟩
  obtain ⟨⟨s1, e1⟩, hq1⟩ : ∃ x, x = aftN (d, 0) := ⟨_, rfl⟩
  obtain ⟨will, hwill⟩ : ∃ x, x = nxtN (s1, e1) := ⟨_, rfl⟩
  obtain ⟨⟨s2, e2⟩, hq2⟩ : ∃ x, x = aftN (s1, e1) := ⟨_, rfl⟩
  have hR : applyR base d = if e2 ≠ 0 then ([], 2) else if was ≠ base.length then ([], 11) else if 8192 < will then ([], 1) else deltaGo base will s2.length (s2, e2) [] := by
    unfold applyR
    rw [← hq1, ← hq2, ← hwill, ← hwas]
  have hs1 : s1.length ≤ d.length := by have := aftN_len (d, 0); rw [← hq1] at this; exact this
  have hs2 : s2.length ≤ s1.length := by have := aftN_len (s1, e1); rw [← hq2] at this; exact this
  have hwas' : was < 4611686018427387904 := by rw [hwas]; exact nxtN_lt _
  have hwill' : will < 4611686018427387904 := by rw [hwill]; exact nxtN_lt _
  have HW := sec hwas
  have HQ1 := sec hq1
  have HL := sec hwill
  have HQ2 := sec hq2
  have HR := sec hR
  clear hwas hq1 hwill hq2 hR
  have hrd0 : RdAt 62 (w.alloc (.cells #[.string (bs d), .int .i64 0] 62)) w.heap.size (d, 0) := ⟨Blk.new _ _ _, by simp only; omega, by simp⟩
  have hgr0 : Gr w (w.alloc (.cells #[.string (bs d), .int .i64 0] 62)) := (Gr.refl _).alloc _
  by_cases he2 : e2 = 0
  · subst he2
    by_cases hw : was = base.length
    · have hw1 : ((was : Int) != (base.length : Int)) = false := by simp [hw]
      have HWB := sec hw
      clear hw
      by_cases h8 : 8192 < will
      · have h8' : (8192 : Int) < (will : Int) := by omega
        go_enter Tryd.func51, Tryd.ntmps51
        go_wp2_with (first
          | (go_at_call 39; refine (cuNumber w.heap.size (d, 0) _ hrd0).mono ?_; rintro e w1 ⟨rfl, hrd1, hg1⟩; rw [← HQ1.out] at hrd1; rw [← HW.out]; have hgr1 := gr_only hgr0 hg1 (Nat.le_refl _); clear hrd0)
          | (go_at_call 39; refine (cuNumber w.heap.size (s1, e1) _ hrd1).mono ?_; rintro e w2 ⟨rfl, hrd2, hg2⟩; rw [← HQ2.out] at hrd2; rw [← HL.out]; have hgr2 := gr_only hgr1 hg2 (Nat.le_refl _); have c0 : w2.cell? ⟨w.heap.size, 0, none⟩ = some (.string (bs s2)) := hrd2.blk.cell 0; have c1 : w2.cell? ⟨w.heap.size, 1, none⟩ = some (.int .i64 (((0 : Nat)) : Int)) := hrd2.blk.cell 1; clear hrd1))
        go_ret2
        exact ⟨by rw [HR.out]; simp [HWB.out, h8]; rfl, hgr2⟩

      · have h8' : (will : Int) ≤ 8192 := by omega
        have hfin : applyR base d = deltaGo base will s2.length (s2, 0) [] := by rw [HR.out]; simp [HWB.out, h8]
        have HF := sec hfin
        clear hfin h8
        go_enter Tryd.func51, Tryd.ntmps51
        go_wp2_with (first
          | (go_at_call 39; refine (cuNumber w.heap.size (d, 0) _ hrd0).mono ?_; rintro e w1 ⟨rfl, hrd1, hg1⟩; rw [← HQ1.out] at hrd1; rw [← HW.out]; have hgr1 := gr_only hgr0 hg1 (Nat.le_refl _); clear hrd0)
          | (go_at_call 39; refine (cuNumber w.heap.size (s1, e1) _ hrd1).mono ?_; rintro e w2 ⟨rfl, hrd2, hg2⟩; rw [← HQ2.out] at hrd2; rw [← HL.out]; have hgr2 := gr_only hgr1 hg2 (Nat.le_refl _); have c0 : w2.cell? ⟨w.heap.size, 0, none⟩ = some (.string (bs s2)) := hrd2.blk.cell 0; have c1 : w2.cell? ⟨w.heap.size, 1, none⟩ = some (.int .i64 (((0 : Nat)) : Int)) := hrd2.blk.cell 1; clear hrd1))
        go_loopg [9] s2.length (fun k ov wr => ∃ (s o : List UInt8), ov = .string (bs o) ∧ RdAt 62 wr w.heap.size (s, 0) ∧ s.length ≤ k ∧ s.length ≤ d.length ∧ o.length ≤ will ∧ Sec (applyR base d = deltaGo base will k (s, 0) o) ∧ Gr w wr)
        case atStart => exact ⟨s2, [], rfl, hrd2, Nat.le_refl _, by omega, by simp, HF, hgr2⟩
        case round =>
          clear hrd2 hgr2 hg2 hgr1 hg1 hgr0 c0 c1
          obtain ⟨s, o, rfl, hrd, hsk, hsd, how, hres, hgr⟩ := hrel
          obtain ⟨op, hop⟩ : ∃ x, x = nxtN (s, 0) := ⟨_, rfl⟩
          obtain ⟨⟨t1, f1⟩, ht1⟩ : ∃ x, x = aftN (s, 0) := ⟨_, rfl⟩
          have hop' : op < 4611686018427387904 := by rw [hop]; exact nxtN_lt _
          have hl1 : t1.length ≤ s.length := by have := aftN_len (s, 0); rw [← ht1] at this; exact this
          have hf1 : f1 ≤ 2 := by have := aftN_err (s, 0) (by simp); rw [← ht1] at this; exact this
          have hlt1 : s ≠ [] → f1 = 0 → t1.length < s.length := by intro a b; have := aftN_lt (q := (s, 0)) rfl a (by rw [← ht1]; exact b); rw [← ht1] at this; exact this
          have HLT := sec hlt1
          clear hlt1
          have cs0 : wr.cell? ⟨w.heap.size, 0, none⟩ = some (.string (bs s)) := hrd.blk.cell 0
          by_cases hs : s = []
          · subst hs
            by_cases hfl : o.length = will
            · have hfl' : (will : Int) ≤ (o.length : Int) := by omega
              have HFL := sec hfl
              clear hfl hop ht1 hl1 hf1 hop'
              go_wp2
              go_ret2
              exact ⟨by rw [hres.out, deltaGo_nil rfl, dfin, if_pos HFL.out]; rfl, hgr⟩
            · have hfl' : (o.length : Int) < (will : Int) := by omega
              have HFL := sec hfl
              clear hfl hop ht1 hl1 hf1 hop'
              go_wp2
              go_ret2
              exact ⟨by rw [hres.out, deltaGo_nil rfl, dfin, if_neg HFL.out]; rfl, hgr⟩
          · have hs0 : 0 < s.length := List.length_pos_iff.2 hs
            have hsb : s.isEmpty = false := by simpa using hs
            obtain ⟨k, rfl⟩ : ∃ k, gk = k + 1 := ⟨gk - 1, by omega⟩
            have HS := sec hs
            have HOP := sec hop
            have HT1 := sec ht1
            clear hop ht1
            by_cases hev : op % 2 = 0
            · have hev' : ((op : Int) % 2 == 1) = false := by simp; omega
              obtain ⟨p, hp⟩ : ∃ x, x = nxtB ((op / 2 : Nat) : Int) (t1, f1) := ⟨_, rfl⟩
              obtain ⟨⟨t2, f2⟩, ht2⟩ : ∃ x, x = aftB ((op / 2 : Nat) : Int) (t1, f1) := ⟨_, rfl⟩
              have hnb : (op : Int) / 2 = ((op / 2 : Nat) : Int) := by omega
              have hpl : p.length ≤ t1.length := by rw [hp]; exact nxtB_len _ _
              have hl2 : t2.length ≤ t1.length := by have := aftB_len ((op / 2 : Nat) : Int) (t1, f1); rw [← ht2] at this; exact this
              have hok : f2 = 0 → f1 = 0 ∧ p.length = op / 2 := by
                intro h
                have := aftB_ok (n := op / 2) (q := (t1, f1)) (by rw [← ht2]; exact h)
                exact ⟨this.1, by rw [hp]; exact this.2.2.2.1⟩
              have hcut : (f2 ≠ 0 ∨ op / 2 = 0 ∨ will < o.length + p.length) → deltaGo base will (k + 1) (s, 0) o = ([], 2) := fun h => by
                refine deltaGo_cut HS.out (by rw [← HOP.out]; exact hev) ?_
                rw [← HT1.out, ← HOP.out, ← ht2, ← hp]; exact h
              have hput : ¬ (f2 ≠ 0 ∨ op / 2 = 0 ∨ will < o.length + p.length) → deltaGo base will (k + 1) (s, 0) o = deltaGo base will k (t2, f2) (o ++ p) := fun h => by
                rw [deltaGo_put HS.out (by rw [← HOP.out]; exact hev) (by rw [← HT1.out, ← HOP.out, ← ht2, ← hp]; exact h), ← HT1.out, ← HOP.out, ← ht2, ← hp]
              have HP := sec hp
              have HT2 := sec ht2
              have HNB := sec hnb
              have HC := sec hcut
              have HPU := sec hput
              have HOK := sec hok
              clear hp ht2 hnb hcut hput hok hev
              by_cases hf2 : f2 = 0
              · subst hf2
                have hpn := (HOK.out rfl).2
                have hf10 := (HOK.out rfl).1
                by_cases hn0 : op / 2 = 0
                · have hn0' : ((op : Int) / 2 == 0) = true := by simp; omega
                  have HCUT := sec (HC.out (.inr (.inl hn0)))
                  clear hpn
                  go_wp2_with (first
                    | (go_at_call 39; refine (cuNumber w.heap.size (s, 0) _ hrd).mono ?_; rintro e wa ⟨rfl, hrda, hga⟩; rw [← HT1.out] at hrda; rw [← HOP.out]; have hgra := gr_only hgr hga (Nat.le_refl _); clear hrd cs0)
                    | (go_at_call 41; refine (cuTake w.heap.size (t1, f1) _ _ hrda (by omega)).mono ?_; rintro e wb ⟨rfl, hrdb, hgb⟩; rw [HNB.out, ← HT2.out] at hrdb; rw [HNB.out, ← HP.out]; have hgrb := gr_only hgra hgb (Nat.le_refl _); have c0 : wb.cell? ⟨w.heap.size, 0, none⟩ = some (.string (bs t2)) := hrdb.blk.cell 0; have c1 : wb.cell? ⟨w.heap.size, 1, none⟩ = some (.int .i64 (((0 : Nat)) : Int)) := hrdb.blk.cell 1; clear hrda))
                  go_ret2
                  exact ⟨by rw [hres.out, HCUT.out]; rfl, hgrb⟩

                · have hn0' : ((op : Int) / 2 == 0) = false := by simp; omega
                  by_cases htot : will < o.length + p.length
                  · have htot' : (will : Int) - (o.length : Int) < (p.length : Int) := by omega
                    have HCUT := sec (HC.out (.inr (.inr htot)))
                    clear hpn
                    go_wp2_with (first
                      | (go_at_call 39; refine (cuNumber w.heap.size (s, 0) _ hrd).mono ?_; rintro e wa ⟨rfl, hrda, hga⟩; rw [← HT1.out] at hrda; rw [← HOP.out]; have hgra := gr_only hgr hga (Nat.le_refl _); clear hrd cs0)
                      | (go_at_call 41; refine (cuTake w.heap.size (t1, f1) _ _ hrda (by omega)).mono ?_; rintro e wb ⟨rfl, hrdb, hgb⟩; rw [HNB.out, ← HT2.out] at hrdb; rw [HNB.out, ← HP.out]; have hgrb := gr_only hgra hgb (Nat.le_refl _); have c0 : wb.cell? ⟨w.heap.size, 0, none⟩ = some (.string (bs t2)) := hrdb.blk.cell 0; have c1 : wb.cell? ⟨w.heap.size, 1, none⟩ = some (.int .i64 (((0 : Nat)) : Int)) := hrdb.blk.cell 1; clear hrda))
                    go_ret2
                    exact ⟨by rw [hres.out, HCUT.out]; rfl, hgrb⟩

                  · have htot' : (p.length : Int) ≤ (will : Int) - (o.length : Int) := by omega
                    have HCUT := sec (HPU.out (by omega))
                    have hlt2 : t2.length < s.length := by have := HLT.out HS.out hf10; omega
                    clear hpn
                    go_wp2_with (first
                    | (go_at_call 39; refine (cuNumber w.heap.size (s, 0) _ hrd).mono ?_; rintro e wa ⟨rfl, hrda, hga⟩; rw [← HT1.out] at hrda; rw [← HOP.out]; have hgra := gr_only hgr hga (Nat.le_refl _); clear hrd cs0)
                    | (go_at_call 41; refine (cuTake w.heap.size (t1, f1) _ _ hrda (by omega)).mono ?_; rintro e wb ⟨rfl, hrdb, hgb⟩; rw [HNB.out, ← HT2.out] at hrdb; rw [HNB.out, ← HP.out]; have hgrb := gr_only hgra hgb (Nat.le_refl _); have c0 : wb.cell? ⟨w.heap.size, 0, none⟩ = some (.string (bs t2)) := hrdb.blk.cell 0; have c1 : wb.cell? ⟨w.heap.size, 1, none⟩ = some (.int .i64 (((0 : Nat)) : Int)) := hrdb.blk.cell 1; clear hrda))
                    go_roundg k
                    case measure => omega
                    case rel => exact ⟨t2, o ++ p, by simp, hrdb, by omega, by omega, by simp; omega, ⟨hres.out.trans HCUT.out⟩, hgrb⟩
              · have hf2' : ((f2 : Int) == 0) = false := by simpa using hf2
                have hf2'' : ((f2 : Int) != 0) = true := by simpa using hf2
                have HCUT := sec (HC.out (.inl hf2))
                clear hf2
                go_wp2_with (first
                  | (go_at_call 39; refine (cuNumber w.heap.size (s, 0) _ hrd).mono ?_; rintro e wa ⟨rfl, hrda, hga⟩; rw [← HT1.out] at hrda; rw [← HOP.out]; have hgra := gr_only hgr hga (Nat.le_refl _); clear hrd cs0)
                  | (go_at_call 41; refine (cuTake w.heap.size (t1, f1) _ _ hrda (by omega)).mono ?_; rintro e wb ⟨rfl, hrdb, hgb⟩; rw [HNB.out, ← HT2.out] at hrdb; rw [HNB.out, ← HP.out]; have hgrb := gr_only hgra hgb (Nat.le_refl _); have c0 : wb.cell? ⟨w.heap.size, 0, none⟩ = some (.string (bs t2)) := hrdb.blk.cell 0; have c1 : wb.cell? ⟨w.heap.size, 1, none⟩ = some (.int .i64 (f2 : Int)) := hrdb.blk.cell 1; clear hrda))
                go_ret2
                exact ⟨by rw [hres.out, HCUT.out]; rfl, hgrb⟩

            · have hev' : ((op : Int) % 2 == 1) = true := by simp; omega
              obtain ⟨kk, hkk⟩ : ∃ x, x = nxtN (t1, f1) := ⟨_, rfl⟩
              obtain ⟨⟨t2, f2⟩, ht2⟩ : ∃ x, x = aftN (t1, f1) := ⟨_, rfl⟩
              have hkk' : kk < 4611686018427387904 := by rw [hkk]; exact nxtN_lt _
              have hl2 : t2.length ≤ t1.length := by have := aftN_len (t1, f1); rw [← ht2] at this; exact this
              have hok : f2 = 0 → f1 = 0 := by
                intro h
                by_cases h1 : f1 = 0
                · exact h1
                · have := (aftN_bad (q := (t1, f1)) h1).1; rw [← ht2] at this; exact absurd h this
              have hbad : f2 ≠ 0 → deltaGo base will (k + 1) (s, 0) o = ([], 2) := fun h => deltaGo_bad HS.out (by rw [← HOP.out]; exact hev) (by rw [← HT1.out, ← ht2]; exact h)
              have hrng : f2 = 0 → (base.length < kk ∨ base.length - kk < op / 2) → deltaGo base will (k + 1) (s, 0) o = ([], 3) := fun h h2 => deltaGo_rng HS.out (by rw [← HOP.out]; exact hev) (by rw [← HT1.out, ← ht2]; exact h) (by rw [← HT1.out, ← HOP.out, ← hkk]; exact h2)
              have hbig : f2 = 0 → ¬ (base.length < kk ∨ base.length - kk < op / 2) → (op / 2 = 0 ∨ will < o.length + op / 2) → deltaGo base will (k + 1) (s, 0) o = ([], 2) := fun h h2 h3 => deltaGo_big HS.out (by rw [← HOP.out]; exact hev) (by rw [← HT1.out, ← ht2]; exact h) (by rw [← HT1.out, ← HOP.out, ← hkk]; exact h2) (by rw [← HOP.out]; exact h3)
              have hcpy : f2 = 0 → ¬ (base.length < kk ∨ base.length - kk < op / 2) → ¬ (op / 2 = 0 ∨ will < o.length + op / 2) → deltaGo base will (k + 1) (s, 0) o = deltaGo base will k (t2, f2) (o ++ sub base kk (kk + op / 2)) := fun h h2 h3 => by
                rw [deltaGo_copy HS.out (by rw [← HOP.out]; exact hev) (by rw [← HT1.out, ← ht2]; exact h) (by rw [← HT1.out, ← HOP.out, ← hkk]; exact h2) (by rw [← HOP.out]; exact h3), ← HT1.out, ← ht2, ← HOP.out, ← hkk]
              have HKK := sec hkk
              have HT2 := sec ht2
              have HBAD := sec hbad
              have HRNG := sec hrng
              have HBIG := sec hbig
              have HCPY := sec hcpy
              have HOK := sec hok
              clear hkk ht2 hbad hrng hbig hcpy hok hev
              by_cases hf2 : f2 = 0
              · subst hf2
                have hf10 := HOK.out rfl
                by_cases hr : base.length < kk ∨ base.length - kk < op / 2
                · have HCUT := sec (HRNG.out rfl hr)
                  by_cases hr1 : base.length < kk
                  · have hr1' : (base.length : Int) < (kk : Int) := by omega
                    clear hr
                    go_wp2_with ((go_at_call 39; first | (refine (cuNumber w.heap.size (s, 0) _ hrd).mono ?_; rintro e wa ⟨rfl, hrda, hga⟩; rw [← HT1.out] at hrda; rw [← HOP.out]; have hgra := gr_only hgr hga (Nat.le_refl _); clear hrd cs0) | (refine (cuNumber w.heap.size (t1, f1) _ hrda).mono ?_; rintro e wb ⟨rfl, hrdb, hgb⟩; rw [← HT2.out] at hrdb; rw [← HKK.out]; have hgrb := gr_only hgra hgb (Nat.le_refl _); have c0 : wb.cell? ⟨w.heap.size, 0, none⟩ = some (.string (bs t2)) := hrdb.blk.cell 0; have c1 : wb.cell? ⟨w.heap.size, 1, none⟩ = some (.int .i64 (((0 : Nat)) : Int)) := hrdb.blk.cell 1; clear hrda)))
                    go_ret2
                    exact ⟨by rw [hres.out, HCUT.out]; rfl, hgrb⟩
                  · have hr1' : (kk : Int) ≤ (base.length : Int) := by omega
                    have hr2' : (base.length : Int) - (kk : Int) < (op : Int) / 2 := by omega
                    clear hr
                    go_wp2_with ((go_at_call 39; first | (refine (cuNumber w.heap.size (s, 0) _ hrd).mono ?_; rintro e wa ⟨rfl, hrda, hga⟩; rw [← HT1.out] at hrda; rw [← HOP.out]; have hgra := gr_only hgr hga (Nat.le_refl _); clear hrd cs0) | (refine (cuNumber w.heap.size (t1, f1) _ hrda).mono ?_; rintro e wb ⟨rfl, hrdb, hgb⟩; rw [← HT2.out] at hrdb; rw [← HKK.out]; have hgrb := gr_only hgra hgb (Nat.le_refl _); have c0 : wb.cell? ⟨w.heap.size, 0, none⟩ = some (.string (bs t2)) := hrdb.blk.cell 0; have c1 : wb.cell? ⟨w.heap.size, 1, none⟩ = some (.int .i64 (((0 : Nat)) : Int)) := hrdb.blk.cell 1; clear hrda)))
                    go_ret2
                    exact ⟨by rw [hres.out, HCUT.out]; rfl, hgrb⟩
                · have hr1' : (kk : Int) ≤ (base.length : Int) := by omega
                  have hr2' : (op : Int) / 2 ≤ (base.length : Int) - (kk : Int) := by omega
                  have hr3 : kk + op / 2 ≤ base.length := by omega
                  by_cases hbg : op / 2 = 0 ∨ will < o.length + op / 2
                  · have HCUT := sec (HBIG.out rfl hr hbg)
                    by_cases hn0 : op / 2 = 0
                    · have hn0' : ((op : Int) / 2 == 0) = true := by simp; omega
                      clear hr
                      go_wp2_with ((go_at_call 39; first | (refine (cuNumber w.heap.size (s, 0) _ hrd).mono ?_; rintro e wa ⟨rfl, hrda, hga⟩; rw [← HT1.out] at hrda; rw [← HOP.out]; have hgra := gr_only hgr hga (Nat.le_refl _); clear hrd cs0) | (refine (cuNumber w.heap.size (t1, f1) _ hrda).mono ?_; rintro e wb ⟨rfl, hrdb, hgb⟩; rw [← HT2.out] at hrdb; rw [← HKK.out]; have hgrb := gr_only hgra hgb (Nat.le_refl _); have c0 : wb.cell? ⟨w.heap.size, 0, none⟩ = some (.string (bs t2)) := hrdb.blk.cell 0; have c1 : wb.cell? ⟨w.heap.size, 1, none⟩ = some (.int .i64 (((0 : Nat)) : Int)) := hrdb.blk.cell 1; clear hrda)))
                      go_ret2
                      exact ⟨by rw [hres.out, HCUT.out]; rfl, hgrb⟩

                    · have hn0' : ((op : Int) / 2 == 0) = false := by simp; omega
                      have hsl : (sub base kk (kk + op / 2)).length = op / 2 := by rw [sub_len _ _ _ (by omega)]; omega
                      have htot : (will : Int) - (o.length : Int) < ((sub base kk (kk + op / 2)).length : Int) := by omega
                      clear hr hsl
                      go_wp2_with ((go_at_call 39; first | (refine (cuNumber w.heap.size (s, 0) _ hrd).mono ?_; rintro e wa ⟨rfl, hrda, hga⟩; rw [← HT1.out] at hrda; rw [← HOP.out]; have hgra := gr_only hgr hga (Nat.le_refl _); clear hrd cs0) | (refine (cuNumber w.heap.size (t1, f1) _ hrda).mono ?_; rintro e wb ⟨rfl, hrdb, hgb⟩; rw [← HT2.out] at hrdb; rw [← HKK.out]; have hgrb := gr_only hgra hgb (Nat.le_refl _); have c0 : wb.cell? ⟨w.heap.size, 0, none⟩ = some (.string (bs t2)) := hrdb.blk.cell 0; have c1 : wb.cell? ⟨w.heap.size, 1, none⟩ = some (.int .i64 (((0 : Nat)) : Int)) := hrdb.blk.cell 1; clear hrda)))
                      go_ret2
                      exact ⟨by rw [hres.out, HCUT.out]; rfl, hgrb⟩
                  · have HCUT := sec (HCPY.out rfl hr hbg)
                    have hn0' : ((op : Int) / 2 == 0) = false := by simp; omega
                    have hsl : (sub base kk (kk + op / 2)).length = op / 2 := by rw [sub_len _ _ _ (by omega)]; omega
                    have htot : ((sub base kk (kk + op / 2)).length : Int) ≤ (will : Int) - (o.length : Int) := by omega
                    have hlt2 : t2.length < s.length := by have := HLT.out HS.out hf10; omega
                    have HSL := sec hsl
                    clear hsl hr hbg
                    go_wp2_with ((go_at_call 39; first | (refine (cuNumber w.heap.size (s, 0) _ hrd).mono ?_; rintro e wa ⟨rfl, hrda, hga⟩; rw [← HT1.out] at hrda; rw [← HOP.out]; have hgra := gr_only hgr hga (Nat.le_refl _); clear hrd cs0) | (refine (cuNumber w.heap.size (t1, f1) _ hrda).mono ?_; rintro e wb ⟨rfl, hrdb, hgb⟩; rw [← HT2.out] at hrdb; rw [← HKK.out]; have hgrb := gr_only hgra hgb (Nat.le_refl _); have c0 : wb.cell? ⟨w.heap.size, 0, none⟩ = some (.string (bs t2)) := hrdb.blk.cell 0; have c1 : wb.cell? ⟨w.heap.size, 1, none⟩ = some (.int .i64 (((0 : Nat)) : Int)) := hrdb.blk.cell 1; clear hrda)))
                    go_roundg k
                    case measure => omega
                    case rel => exact ⟨t2, o ++ sub base kk (kk + op / 2), by simp, hrdb, by omega, by omega, by simp; omega, ⟨hres.out.trans HCUT.out⟩, hgrb⟩
              · have hf2' : ((f2 : Int) == 0) = false := by simpa using hf2
                have hf2'' : ((f2 : Int) != 0) = true := by simpa using hf2
                have HCUT := sec (HBAD.out hf2)
                clear hf2
                go_wp2_with ((go_at_call 39; first | (refine (cuNumber w.heap.size (s, 0) _ hrd).mono ?_; rintro e wa ⟨rfl, hrda, hga⟩; rw [← HT1.out] at hrda; rw [← HOP.out]; have hgra := gr_only hgr hga (Nat.le_refl _); clear hrd cs0) | (refine (cuNumber w.heap.size (t1, f1) _ hrda).mono ?_; rintro e wb ⟨rfl, hrdb, hgb⟩; rw [← HT2.out] at hrdb; rw [← HKK.out]; have hgrb := gr_only hgra hgb (Nat.le_refl _); have c0 : wb.cell? ⟨w.heap.size, 0, none⟩ = some (.string (bs t2)) := hrdb.blk.cell 0; have c1 : wb.cell? ⟨w.heap.size, 1, none⟩ = some (.int .i64 (f2 : Int)) := hrdb.blk.cell 1; clear hrda)))
                go_ret2
                exact ⟨by rw [hres.out, HCUT.out]; rfl, hgrb⟩


    · have hw1 : ((was : Int) != (base.length : Int)) = true := by rw [bne_iff_ne]; omega
      have HWB := sec hw
      clear hw
      go_enter Tryd.func51, Tryd.ntmps51
      go_wp2_with (first
        | (go_at_call 39; refine (cuNumber w.heap.size (d, 0) _ hrd0).mono ?_; rintro e w1 ⟨rfl, hrd1, hg1⟩; rw [← HQ1.out] at hrd1; rw [← HW.out]; have hgr1 := gr_only hgr0 hg1 (Nat.le_refl _); clear hrd0)
        | (go_at_call 39; refine (cuNumber w.heap.size (s1, e1) _ hrd1).mono ?_; rintro e w2 ⟨rfl, hrd2, hg2⟩; rw [← HQ2.out] at hrd2; rw [← HL.out]; have hgr2 := gr_only hgr1 hg2 (Nat.le_refl _); have c0 : w2.cell? ⟨w.heap.size, 0, none⟩ = some (.string (bs s2)) := hrd2.blk.cell 0; have c1 : w2.cell? ⟨w.heap.size, 1, none⟩ = some (.int .i64 (((0 : Nat)) : Int)) := hrd2.blk.cell 1; clear hrd1))
      go_ret2
      exact ⟨by rw [HR.out]; simp [HWB.out]; rfl, hgr2⟩

  · have he2' : ((e2 : Int) != 0) = true := by simpa using he2
    have HE := sec he2
    clear he2
    go_enter Tryd.func51, Tryd.ntmps51
    go_wp2_with (first
      | (go_at_call 39; refine (cuNumber w.heap.size (d, 0) _ hrd0).mono ?_; rintro e w1 ⟨rfl, hrd1, hg1⟩; rw [← HQ1.out] at hrd1; rw [← HW.out]; have hgr1 := gr_only hgr0 hg1 (Nat.le_refl _); clear hrd0)
      | (go_at_call 39; refine (cuNumber w.heap.size (s1, e1) _ hrd1).mono ?_; rintro e w2 ⟨rfl, hrd2, hg2⟩; rw [← HQ2.out] at hrd2; rw [← HL.out]; have hgr2 := gr_only hgr1 hg2 (Nat.le_refl _); have c0 : w2.cell? ⟨w.heap.size, 0, none⟩ = some (.string (bs s2)) := hrd2.blk.cell 0; have c1 : w2.cell? ⟨w.heap.size, 1, none⟩ = some (.int .i64 (e2 : Int)) := hrd2.blk.cell 1; clear hrd1))
    go_ret2
    exact ⟨by rw [HR.out]; simp [HE.out]; rfl, hgr2⟩


end Go.Proofs.YtmgpllakpgjicaaDoor

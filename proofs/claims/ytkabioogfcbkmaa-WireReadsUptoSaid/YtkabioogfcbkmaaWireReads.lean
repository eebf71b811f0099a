/-
  The walk of cartularylaw.WireReads: it returns true.
-/
import Derived.Test.YtkabioogfcbkmaaTaken
namespace Go.Proofs.Ytkabioogfcbkmaa
open Go.RowKit

set_option maxRecDepth 100000 in
set_option maxHeartbeats 4000000 in
theorem wireReads_walk (s : List UInt8) (A : Option Addr) (c : Nat) (l : List (Int × Int)) (w : World) (hs : s.length ≤ 1048576) (hrd : PairRow w A l.length l ∧ l.length ≤ 1048576 ∧ ∀ x ∈ l, -9223372036854775808 ≤ x.2 ∧ x.2 ≤ 9223372036854775807) :
    Calls Try.prog 8 #[.string (bs s), .slice A l.length c] w fun e w' => e = .returned (.bool true) ∧ Gr w w' := by
  obtain ⟨hrow, hn, hi64⟩ := hrd
  have HI := sec hi64
  clear hi64
  go_enter Try.func8, Try.ntmps8
  go_wp2_with fail
  refine (taken_any s A l.length c l _ (by omega) hrow (by omega) HI.out).mono ?_
  rintro e wa ⟨A1r, c1r, A2r, c2r, rfl, hT1, hT2, hga⟩
  obtain ⟨⟨⟨qs, qe⟩, nf, tf⟩, hq0⟩ : ∃ q', q' = takes s l := ⟨_, rfl⟩
  rw [← hq0] at hT1 hT2 ⊢
  have HQ := sec hq0
  clear hq0
  simp only at hT1 hT2 ⊢
  go_wp2_with fail
  refine (rdRead s _ (by omega)).mono ?_
  rintro e wb ⟨rfl, hrd0, hgb⟩
  obtain ⟨g0, hg0e⟩ : ∃ g0, g0 = wa.heap.size := ⟨_, rfl⟩
  rw [← hg0e] at hrd0
  rw [← hg0e]
  have hg0 : w.heap.size ≤ g0 := by rw [hg0e]; exact hga.size
  have HG0 := sec hg0e
  clear hg0e
  have hgw := hga.trans hgb
  have hT1b := hT1.gr hgb
  have hT2b := hT2.gr hgb
  have hbA : ∀ b off, A1r = some ⟨b, off, none⟩ → 0 < nf.length → b ≠ g0 := by
    intro b off e h0
    obtain ⟨b', off', e', hl⟩ := hT1.lt h0 (by omega)
    rw [HG0.out]; rw [e] at e'; simp at e'; omega
  have hbB : ∀ b off, A2r = some ⟨b, off, none⟩ → 0 < tf.length → b ≠ g0 := by
    intro b off e h0
    obtain ⟨b', off', e', hl⟩ := Row.lt hT2 h0 (by omega)
    rw [HG0.out]; rw [e] at e'; simp at e'; omega
  have HBA := sec hbA
  have HBB := sec hbB
  clear hbA hbB
  have hrb := hrow.gr hgw
  go_wp2_with fail
  go_loopw [10, 11, 12] (fun nv tv iv wr => ∃ (i : Nat) (q : Tk) (A1 A2 : Option Addr) (c1 c2 : Nat), iv = .int .i64 i ∧ i ≤ l.length ∧ Sec (q = takes s (l.take i)) ∧ nv = .slice A1 q.2.1.length c1 ∧ tv = .slice A2 q.2.2.length c2 ∧
      RdAt 66 wr g0 q.1 ∧ wr.ownsRow wb.heap.size 3 1 (.slice A1 q.2.1.length c1) q.2.1.length (q.2.1.map natV) ∧ wr.ownsRow wb.heap.size 9 1 (.slice A2 q.2.2.length c2) q.2.2.length (q.2.2.map strV) ∧ wb.grownBy wr (some g0))
    (fun _ _ iv _ => l.length - (intOf iv).toNat)
  case atStart => exact ⟨0, ((s, 0), [], []), none, none, 0, 0, rfl, by omega, ⟨rfl⟩, rfl, rfl, hrd0, World.ownsRow_nil _ _ _ _, World.ownsRow_nil _ _ _ _, only_refl _ _⟩
  case round =>
    obtain ⟨i, ⟨q, ns, ts⟩, A1, A2, c1, c2, rfl, hi, hq, rfl, rfl, hrd, ho1, ho2, hg⟩ := hrel
    simp only at hrd ho1 ho2 hg
    have hl1 := (takes_len s l i hi)
    rw [← hq.out] at hl1
    obtain ⟨hl1, hl2⟩ := hl1
    simp only at hl1 hl2
    by_cases hlt : i < l.length
    · obtain ⟨b, off, rfl, hb, hcA0, hcB0⟩ := hrow.cell hlt
      have hbg : b ≠ g0 := by rw [HG0.out]; have := hga.size; omega
      have hk1 : ∀ o v, w.cell? ⟨b, o, none⟩ = some v → wr.cell? ⟨b, o, none⟩ = some v := fun o v hv =>
        hg.cell ((hgw.below.cell (p := ⟨b, o, none⟩) hb).trans hv) (by simpa using hbg)
      have hcA := hk1 _ _ hcA0
      have hcB := hk1 _ _ hcB0
      clear hcA0 hcB0 hk1
      obtain ⟨⟨kd, N⟩, hx⟩ : ∃ x, x = l[i] := ⟨_, rfl⟩
      rw [← hx] at hcA hcB
      have hN : -9223372036854775808 ≤ N ∧ N ≤ 9223372036854775807 := by have := HI.out l[i] (List.getElem_mem hlt); rw [← hx] at this; exact this
      have HX := sec hx
      clear hx
      simp only at hcA hcB
      by_cases h0 : kd = 0
      · subst h0
        go_wp2_with (first
          | (go_at_call 27; refine (rdNumber g0 q _ hrd).mono ?_; rintro e w1 ⟨rfl, hrd1, hg1⟩; have hw1 := only_trans hg hg1; have ho1' := own_only ho1 hrd.blk (by decide) hg1; have ho2' := own_only ho2 hrd.blk (by decide) hg1)
          | (at_builtin; refine wpList_append_oneB E.int rfl (.tmp 49) (.tmp 52) rfl rfl ho1' rfl rfl (by omega) (by unfold maxLen; omega) hw1.size ?_; intro g2 cap2 w2 hown2 hg2))
        go_roundw
        case rel =>
          refine ⟨i + 1, (aftN q, ns ++ [nxtN q], ts), _, A2, _, c2, by go_num, by omega, ⟨?_⟩, by simp; exact ⟨rfl, rfl⟩, rfl, hrd1.other hg2 (fun e => own_blk_ne ho1' hrd1.blk (by decide) e.symm), by simpa [natV] using hown2, own_other ho2' ho1' (by decide) hg2, only_own hw1 ho1' hg2⟩
          rw [takes_succ s l i hlt, ← hq.out, ← HX.out]
          simp [take1]
        case measure => simp [intOf]; omega
      · by_cases h1 : kd = 1
        · subst h1
          go_wp2_with (first
            | (go_at_call 28; refine (rdText g0 q _ hrd).mono ?_; rintro e w1 ⟨rfl, hrd1, hg1⟩; have hw1 := only_trans hg hg1; have ho1' := own_only ho1 hrd.blk (by decide) hg1; have ho2' := own_only ho2 hrd.blk (by decide) hg1)
            | (at_builtin; refine wpList_append_oneB E.str rfl (.tmp 56) (.tmp 59) rfl rfl ho2' rfl rfl (by omega) (by unfold maxLen; omega) hw1.size ?_; intro g2 cap2 w2 hown2 hg2))
          go_roundw
          case rel =>
            refine ⟨i + 1, (aftT q, ns, ts ++ [nxtT q]), A1, _, c1, _, by go_num, by omega, ⟨?_⟩, rfl, by simp; exact ⟨rfl, rfl⟩, hrd1.other hg2 (fun e => own_blk_ne ho2' hrd1.blk (by decide) e.symm), own_other ho1' ho2' (by decide) hg2, by simpa [strV] using hown2, only_own hw1 ho2' hg2⟩
            rw [takes_succ s l i hlt, ← hq.out, ← HX.out]
            simp [take1]
          case measure => simp [intOf]; omega
        · have hb0 : ((kd : Int) == 0) = false := by simpa using h0
          have hb1 : ((kd : Int) == 1) = false := by simpa using h1
          have H0 := sec h0
          have H1 := sec h1
          clear h0 h1
          go_wp2_with (first
            | (go_at_call 29; refine (rdBytes g0 q N _ hrd hN).mono ?_; rintro e w1 ⟨rfl, hrd1, hg1⟩; have hw1 := only_trans hg hg1; have ho1' := own_only ho1 hrd.blk (by decide) hg1; have ho2' := own_only ho2 hrd.blk (by decide) hg1)
            | (at_builtin; refine wpList_append_oneB E.str rfl (.tmp 37) (.tmp 45) rfl rfl ho2' rfl rfl (by omega) (by unfold maxLen; omega) hw1.size ?_; intro g2 cap2 w2 hown2 hg2))
          go_roundw
          case rel =>
            refine ⟨i + 1, (aftB N q, ns, ts ++ [nxtB N q]), A1, _, c1, _, by go_num, by omega, ⟨?_⟩, rfl, by simp; exact ⟨rfl, rfl⟩, hrd1.other hg2 (fun e => own_blk_ne ho2' hrd1.blk (by decide) e.symm), own_other ho1' ho2' (by decide) hg2, by simpa [strV] using hown2, only_own hw1 ho2' hg2⟩
            rw [takes_succ s l i hlt, ← hq.out, ← HX.out]
            simp [take1, H0.out, H1.out]
          case measure => simp [intOf]; omega
    · have hfin : (q, ns, ts) = ((qs, qe), nf, tf) := by rw [hq.out, List.take_of_length_le (by omega), HQ.out]
      simp only [Prod.mk.injEq] at hfin
      obtain ⟨rfl, rfl, rfl⟩ := hfin
      have r1 := hT1b.only hg (fun h b off e => HBA.out b off e h)
      have r2 := hT2b.only hg (fun h b off e => HBB.out b off e h)
      have hn1 : ns.length ≤ 1048576 := by omega
      have hn2 : ts.length ≤ 1048576 := by omega
      have hgF : Gr w wr := gr_only hgw hg hg0
      go_wp2_with (first
        | (go_at_call 30; refine (sameStrings_any _ _ _ _ _ _ ts ts _ r2 (Row.own ho2) (by omega) (by omega)).mono ?_; rintro e wc ⟨rfl, hgc⟩; simp only [decide_true]; have hrdc := hrd.gr hgc)
        | (go_at_call 31; refine (rdLeft g0 _ _ hrdc).mono ?_; rintro e wd ⟨rfl, rfl⟩)
        | (go_at_call 32; refine (rdBad g0 _ _ hrdc).mono ?_; rintro e wd ⟨rfl, rfl⟩))
      have r1c := r1.gr hgc
      have r2c := Row.gr (Row.own ho1) hgc
      have hgF2 := hgF.trans hgc
      go_loopw [13] (fun iv wr2 => ∃ j : Nat, iv = .int .i64 j ∧ j ≤ ns.length ∧ Gr wc wr2)
        (fun iv _ => ns.length - (intOf iv).toNat)
      case atStart => exact ⟨0, rfl, by omega, Gr.refl _⟩
      case round =>
        obtain ⟨j, rfl, hj, hg2⟩ := hrel
        by_cases hjl : j < ns.length
        · obtain ⟨b1, off1, hA1, hc1⟩ := natRow_cell (r1c.gr hg2) hjl
          obtain ⟨b2, off2, hA2, hc2⟩ := natRow_cell (r2c.gr hg2) hjl
          subst hA1 hA2
          obtain ⟨x, hxe⟩ : ∃ x, x = ns[j] := ⟨_, rfl⟩
          rw [← hxe] at hc1 hc2
          clear hxe
          have p1 : (j : Int) < (ns.length : Int) := by omega
          go_wp2
          go_quiet (fail)
          go_wp2
          go_roundw
          case rel => exact ⟨j + 1, by go_num, by omega, hg2.drewN _⟩
          case measure => simp [intOf]; omega
        · go_wp2_with (go_at_call 12; refine (puts_any _).mono ?_; rintro e w5 ⟨rfl, g5⟩)
          go_ret
          exact ⟨rfl, (hgF2.trans hg2).trans g5⟩
end Go.Proofs.Ytkabioogfcbkmaa

/-
  ref.Do at 0 by its contract.
-/
import Derived.Test.YtcfghoohdlljkaaDiskDoL
import Derived.Test.YtcfghoohdlljkaaDiskSync
import Derived.Deep.RegionLaw
namespace Go.Proofs.Ytcfghoohdlljkaa
open Go.RowKit
set_option linter.unusedVariables false

set_option maxRecDepth 100000 in
set_option maxHeartbeats 4000000 in
theorem do0_any (name s : List UInt8) (fs : List Fl) (A : Option Addr) (n cap : Nat) (f : Int) (w : World) (hn : n ≤ 1099511627776) (hnc : n ≤ cap) (hx : FRow w A n fs) (hA : A = none → n = 0 ∧ cap = 0) (hs : ∀ f ∈ fs, f.1.length ≤ 1099511627776 ∧ f.2.1.length ≤ 1099511627776 ∧ f.2.2.length ≤ 1099511627776)
    (hf : -9223372036854775808 ≤ f ∧ f ≤ 9223372036854775807) (hl1 : name.length ≤ 1099511627776) (hl2 : s.length ≤ 1099511627776) :
    Calls Try.prog 28 #[.int .i64 0, diskV A n cap f, .string (bs name), .string (bs s)] w (StepPost (stepR (wrF name s) fs f) A n cap fs w) := by
  have hg0 := ((Gr.refl w).alloc (.cells #[.slice A n cap, .int .i64 f] 37)).alloc (.cells #[.slice none 0 0, .int .i64 0] 37)
  have hb1 := (Blk.new w 37 #[.slice A n cap, .int .i64 f]).alloc (.cells #[.slice none 0 0, .int .i64 0] 37)
  have hb2 := Blk.new1 w (.cells #[.slice A n cap, .int .i64 f] 37) 37 #[.slice none 0 0, .int .i64 0]
  have HG := sec (rgood_any fs A n cap f _ hn (hx.gr hg0) hs)
  have hl := hx.len
  have HX := sec (hx.gr hg0)
  obtain ⟨wa, hwa⟩ : ∃ x, x = (w.alloc (.cells #[.slice A n cap, .int .i64 f] 37)).alloc (.cells #[.slice none 0 0, .int .i64 0] 37) := ⟨_, rfl⟩
  rw [← hwa] at hg0 hb1 hb2 HG HX
  obtain ⟨p, hp⟩ : ∃ p, p = w.heap.size := ⟨_, rfl⟩
  have hwp : w.heap.size ≤ p := by omega
  rw [← hp] at hb1 hb2
  have c0 : wa.cell? ⟨p, 0, none⟩ = some (.slice A n cap) := hb1.cell 0
  have c1 : wa.cell? ⟨p, 1, none⟩ = some (.int .i64 f) := hb1.cell 1
  have HB := sec hb1
  have HR2 := sec hb2
  have HX0 := sec hx
  have HA := sec hA
  clear hb1 hb2 hs hx
  unfold diskV at HG
  unfold diskV
  have HW : Sec (∀ w1, Gr wa w1 → Blk ((w1.setCell ⟨p + 1, 0, none⟩ (.slice A n cap)).setCell ⟨p + 1, 1, none⟩ (.int .i64 f)) (p + 1) 37 #[.slice A n cap, .int .i64 f]) := sec fun w1 g1 => ((HR2.out.gr g1).set_ 0 (.slice A n cap)).set_ 1 (.int .i64 f)
  have HV : Sec (∀ w1, Gr wa w1 → Gr w ((w1.setCell ⟨p + 1, 0, none⟩ (.slice A n cap)).setCell ⟨p + 1, 1, none⟩ (.int .i64 f))) := sec fun w1 g1 => ((hg0.trans g1).setCell (p := ⟨p + 1, 0, none⟩) (by show w.heap.size ≤ p + 1; omega) _).setCell (p := ⟨p + 1, 1, none⟩) (by show w.heap.size ≤ p + 1; omega) _
  cases hgf : goodFs fs with
  | false =>
    have HR : Sec (stepR (wrF name s) fs f = (fs, f, 3)) := sec (by unfold stepR; rw [hgf]; rfl)
    rw [HR.out]
    rw [hgf] at HG
    clear hgf
    go_enter Try.func28, Try.ntmps28
    go_wp2_with (first | (rw [← hwa, ← hp]; clear hwa hp; go_wp2_with fail) | (go_at_call 30; refine Calls.mono HG.out ?_; rintro e w1 ⟨rfl, g1⟩; have c0y : w1.cell? ⟨p, 0, none⟩ = some (.slice A n cap) := (HB.out.gr g1).cell 0; have c1y : w1.cell? ⟨p, 1, none⟩ = some (.int .i64 f) := (HB.out.gr g1).cell 1; have d20 : w1.cell? ⟨p + 1, 0, none⟩ = some (.slice none 0 0) := (HR2.out.gr g1).cell 0; have d21 : w1.cell? ⟨p + 1, 1, none⟩ = some (.int .i64 0) := (HR2.out.gr g1).cell 1; have f20 : w1.frozen? ⟨p + 1, 0, none⟩ = false := (HR2.out.gr g1).frozen 0; have f21 : w1.frozen? ⟨p + 1, 1, none⟩ = false := (HR2.out.gr g1).frozen 1))
    refine bodyPost_ret (results_blk_tmp rfl _ rfl (HW.out w1 g1) aggDisk) rfl ?_
    exact ⟨A, n, cap, rfl, HV.out w1 g1, HA.out, .inl ⟨rfl, rfl, rfl, rfl⟩⟩
  | true =>
    rw [hgf] at HG
    by_cases hf0 : f = 0
    · have HR : Sec (stepR (wrF name s) fs f = (fs, f, 12)) := sec (by unfold stepR; rw [hgf, hf0]; rfl)
      rw [HR.out]
      clear hgf
      subst hf0
      go_enter Try.func28, Try.ntmps28
      go_wp2_with (first | (rw [← hwa, ← hp]; clear hwa hp; go_wp2_with fail) | (go_at_call 30; refine Calls.mono HG.out ?_; rintro e w1 ⟨rfl, g1⟩; have c0y : w1.cell? ⟨p, 0, none⟩ = some (.slice A n cap) := (HB.out.gr g1).cell 0; have c1y : w1.cell? ⟨p, 1, none⟩ = some (.int .i64 0) := (HB.out.gr g1).cell 1; have d20 : w1.cell? ⟨p + 1, 0, none⟩ = some (.slice none 0 0) := (HR2.out.gr g1).cell 0; have d21 : w1.cell? ⟨p + 1, 1, none⟩ = some (.int .i64 0) := (HR2.out.gr g1).cell 1; have f20 : w1.frozen? ⟨p + 1, 0, none⟩ = false := (HR2.out.gr g1).frozen 0; have f21 : w1.frozen? ⟨p + 1, 1, none⟩ = false := (HR2.out.gr g1).frozen 1))
      refine bodyPost_ret (results_blk_tmp rfl _ rfl (HW.out w1 g1) aggDisk) rfl ?_
      exact ⟨A, n, cap, rfl, HV.out w1 g1, HA.out, .inl ⟨rfl, rfl, rfl, rfl⟩⟩
    · have HGF := sec hgf
      have HF0 := sec hf0
      have HSO := sec (goodFs_sorted hgf)
      have hl400 : n ≤ 400 := by have := goodFs_len hgf; omega
      clear hgf
      obtain ⟨u, hu⟩ : ∃ u, u = (if 0 < f then f - 1 else f) := ⟨_, rfl⟩
      have HU := sec hu
      clear hu
      have HERR : Sec (∀ E, (wrF name s fs).2 = E → E ≠ 0 → stepR (wrF name s) fs f = (fs, f, E)) := sec (fun E h h0 => by unfold stepR; rw [HGF.out, if_pos rfl, if_neg HF0.out, if_neg (by rw [h]; exact h0), h])
      have HOK : Sec (∀ R, (wrF name s fs) = (R, 0) → stepR (wrF name s) fs f = (R, u, 0)) := sec (fun R h => by unfold stepR; rw [HGF.out, if_pos rfl, if_neg HF0.out, if_pos (by rw [h]), h, HU.out])
      go_enter Try.func28, Try.ntmps28
      go_upto_if 27 with (first | (rw [← hwa, ← hp]; clear hwa hp; go_wp2_with fail) | (go_at_call 30; refine Calls.mono HG.out ?_; rintro e w1 ⟨rfl, g1⟩; have c0y : w1.cell? ⟨p, 0, none⟩ = some (.slice A n cap) := (HB.out.gr g1).cell 0; have c1y : w1.cell? ⟨p, 1, none⟩ = some (.int .i64 f) := (HB.out.gr g1).cell 1) | (go_at_call 17; refine Calls.mono (copyDisk_any fs A n cap f w1 hn (HX.out.gr g1) HA.out) ?_; unfold diskV; rintro e w2 ⟨A1, cap1, rfl, ho, hA1, g2⟩))
      have hqb := Blk.new w2 37 #[.slice A1 n cap1, .int .i64 f]
      have hoq := own_gr ho ((Gr.refl w2).alloc (.cells #[.slice A1 n cap1, .int .i64 f] 37))
      have gq := g2.alloc (.cells #[.slice A1 n cap1, .int .i64 f] 37)
      obtain ⟨wq, hwq⟩ : ∃ x, x = w2.alloc (.cells #[.slice A1 n cap1, .int .i64 f] 37) := ⟨_, rfl⟩
      obtain ⟨q, hq⟩ : ∃ q, q = w2.heap.size := ⟨_, rfl⟩
      have hq1 : w1.heap.size ≤ q := by have := g2.size; omega
      rw [← hwq] at hqb hoq gq
      rw [← hq] at hqb
      rw [← hwq, ← hq]
      have HDQ : Sec (DOwn wq w1.heap.size q A1 n cap1 f fs) := sec ⟨hqb, hoq, hq1⟩
      have HG1 := sec g1
      have hpq : p + 1 < w1.heap.size := (HR2.out.gr g1).lt
      clear hwq hq hqb hoq ho g2 hA1
      have dq0 : wq.cell? ⟨q, 0, none⟩ = some (.slice A1 n cap1) := HDQ.out.blk.cell 0
      have dq1 : wq.cell? ⟨q, 1, none⟩ = some (.int .i64 f) := HDQ.out.blk.cell 1
      have fq1 : wq.frozen? ⟨q, 1, none⟩ = false := HDQ.out.blk.frozen 1
      go_cut [] from 28 to 144 (fun wx => Sec (DOwn wx w1.heap.size q A1 n cap1 u fs) ∧ Gr w1 wx)
      case first =>
        by_cases hpos : 0 < f
        · have hwr : IntKind.i64.wrap (f - 1) = f - 1 := IntWalk.i64_in _ (by omega)
          have hu : u = f - 1 := by rw [HU.out, if_pos hpos]
          go_wp2_with fail
          go_meet
          rw [hu]
          exact ⟨sec ⟨HDQ.out.blk.set_ 1 _, ownsRow_setCell_other HDQ.out.own (a := ⟨q, 1, none⟩) HDQ.out.ne _, HDQ.out.base⟩, gq.setCell (p := ⟨q, 1, none⟩) hq1 _⟩
        · have hu : u = f := by rw [HU.out, if_neg hpos]
          go_wp2_with fail
          go_meet
          rw [hu]
          exact ⟨HDQ, gq⟩
      case rest =>
        obtain ⟨HDC, gc⟩ := hcut
        clear dq0 dq1 fq1 c0y c1y HDQ gq g1
        have c0y : wc.cell? ⟨p, 0, none⟩ = some (.slice A n cap) := (HB.out.gr (HG1.out.trans gc)).cell 0
        have c1y : wc.cell? ⟨p, 1, none⟩ = some (.int .i64 f) := (HB.out.gr (HG1.out.trans gc)).cell 1
        go_upto_region 9 with (go_at_call 46; refine Calls.mono (at_any fs name A n cap f wc hn (HX.out.gr (HG1.out.trans gc)) HSO.out) ?_; rintro e w4 ⟨rfl, g4⟩)
        have gg4 : Gr w1 w4 := gc.trans g4
        have HD4 := sec (HDC.out.gr g4)
        have HG4 := sec (HG1.out.trans gg4)
        have HGG4 := sec gg4
        clear c0y c1y gc g4 HDC HG1
        have c04 : w4.cell? ⟨p, 0, none⟩ = some (.slice A n cap) := (HB.out.gr HG4.out).cell 0
        have c14 : w4.cell? ⟨p, 1, none⟩ = some (.int .i64 f) := (HB.out.gr HG4.out).cell 1
        have d20 : w4.cell? ⟨p + 1, 0, none⟩ = some (.slice none 0 0) := (HR2.out.gr HG4.out).cell 0
        have d21 : w4.cell? ⟨p + 1, 1, none⟩ = some (.int .i64 0) := (HR2.out.gr HG4.out).cell 1
        have f20 : w4.frozen? ⟨p + 1, 0, none⟩ = false := (HR2.out.gr HG4.out).frozen 0
        have f21 : w4.frozen? ⟨p + 1, 1, none⟩ = false := (HR2.out.gr HG4.out).frozen 1
        have q04 : w4.cell? ⟨q, 0, none⟩ = some (.slice A1 n cap1) := HD4.out.blk.cell 0
        have q14 : w4.cell? ⟨q, 1, none⟩ = some (.int .i64 u) := HD4.out.blk.cell 1
        have fq4 : w4.frozen? ⟨q, 0, none⟩ = false := HD4.out.blk.frozen 0
        have HN := sec (fun w => fileName_any name w (by omega))
        have hpq1 : p + 1 ≠ q := by omega
        cases hnb : namedB name with
        | false =>
          have HR := sec (HERR.out 2 (by unfold wrF; rw [hnb]; rfl) (by decide))
          rw [hnb] at HN
          clear hnb
          go_wp2_with (go_at_call 56; refine (HN.out _).mono ?_; rintro e w5 ⟨rfl, g5⟩; have c05 : w5.cell? ⟨p, 0, none⟩ = some (.slice A n cap) := (HB.out.gr (HG4.out.trans g5)).cell 0; have c15 : w5.cell? ⟨p, 1, none⟩ = some (.int .i64 f) := (HB.out.gr (HG4.out.trans g5)).cell 1; have d205 : w5.cell? ⟨p + 1, 0, none⟩ = some (.slice none 0 0) := (HR2.out.gr (HG4.out.trans g5)).cell 0; have d215 : w5.cell? ⟨p + 1, 1, none⟩ = some (.int .i64 0) := (HR2.out.gr (HG4.out.trans g5)).cell 1; have f205 : w5.frozen? ⟨p + 1, 0, none⟩ = false := (HR2.out.gr (HG4.out.trans g5)).frozen 0; have f215 : w5.frozen? ⟨p + 1, 1, none⟩ = false := (HR2.out.gr (HG4.out.trans g5)).frozen 1)
          refine bodyPost_ret (results_blk_tmp rfl _ rfl (HW.out w5 (HG4.out.trans g5)) aggDisk) rfl ?_
          rw [HR.out]
          exact ⟨A, n, cap, rfl, HV.out w5 (HG4.out.trans g5), HA.out, .inl ⟨rfl, rfl, rfl, rfl⟩⟩
        | true =>
          rw [hnb] at HN
          have HNB := sec hnb
          clear hnb
          cases hhf : hasF name fs with
          | false =>
            have hai : atI name fs = -1 := by unfold atI; rw [hhf]; rfl
            rw [hai]
            by_cases hfull : 400 ≤ n
            · have HR := sec (HERR.out 6 (by unfold wrF; rw [HNB.out, if_pos rfl, if_pos ⟨hhf, by omega⟩]) (by decide))
              obtain rfl : n = 400 := by omega
              clear hhf hai
              go_wp2_with (go_at_call 56; refine (HN.out _).mono ?_; rintro e w5 ⟨rfl, g5⟩; have c05 : w5.cell? ⟨p, 0, none⟩ = some (.slice A 400 cap) := (HB.out.gr (HG4.out.trans g5)).cell 0; have c15 : w5.cell? ⟨p, 1, none⟩ = some (.int .i64 f) := (HB.out.gr (HG4.out.trans g5)).cell 1; have d205 : w5.cell? ⟨p + 1, 0, none⟩ = some (.slice none 0 0) := (HR2.out.gr (HG4.out.trans g5)).cell 0; have d215 : w5.cell? ⟨p + 1, 1, none⟩ = some (.int .i64 0) := (HR2.out.gr (HG4.out.trans g5)).cell 1; have f205 : w5.frozen? ⟨p + 1, 0, none⟩ = false := (HR2.out.gr (HG4.out.trans g5)).frozen 0; have f215 : w5.frozen? ⟨p + 1, 1, none⟩ = false := (HR2.out.gr (HG4.out.trans g5)).frozen 1; have c05w : (w5.alloc (.cells #[.string (bs name), .string (bs []), .string (bs [])] 70)).cell? ⟨p, 0, none⟩ = some (.slice A 400 cap) := (HB.out.gr (HG4.out.trans (g5.alloc _))).cell 0; have c15w : (w5.alloc (.cells #[.string (bs name), .string (bs []), .string (bs [])] 70)).cell? ⟨p, 1, none⟩ = some (.int .i64 f) := (HB.out.gr (HG4.out.trans (g5.alloc _))).cell 1; have q05w : (w5.alloc (.cells #[.string (bs name), .string (bs []), .string (bs [])] 70)).cell? ⟨q, 0, none⟩ = some (.slice A1 400 cap1) := ((HD4.out.blk.gr g5).alloc _).cell 0; have d205w : (w5.alloc (.cells #[.string (bs name), .string (bs []), .string (bs [])] 70)).cell? ⟨p + 1, 0, none⟩ = some (.slice none 0 0) := (HR2.out.gr (HG4.out.trans (g5.alloc _))).cell 0; have d215w : (w5.alloc (.cells #[.string (bs name), .string (bs []), .string (bs [])] 70)).cell? ⟨p + 1, 1, none⟩ = some (.int .i64 0) := (HR2.out.gr (HG4.out.trans (g5.alloc _))).cell 1; have f205w : (w5.alloc (.cells #[.string (bs name), .string (bs []), .string (bs [])] 70)).frozen? ⟨p + 1, 0, none⟩ = false := (HR2.out.gr (HG4.out.trans (g5.alloc _))).frozen 0; have f215w : (w5.alloc (.cells #[.string (bs name), .string (bs []), .string (bs [])] 70)).frozen? ⟨p + 1, 1, none⟩ = false := (HR2.out.gr (HG4.out.trans (g5.alloc _))).frozen 1)
              have hV5 : Gr w (((w5.alloc (.cells #[.string (bs name), .string (bs []), .string (bs [])] 70)).setCell ⟨p + 1, 0, none⟩ (.slice A 400 cap)).setCell ⟨p + 1, 1, none⟩ (.int .i64 f)) := HV.out _ (HG4.out.trans (g5.alloc _))
              refine bodyPost_ret (results_blk_tmp rfl _ rfl (HW.out _ (HG4.out.trans (g5.alloc (.cells #[.string (bs name), .string (bs []), .string (bs [])] 70)))) aggDisk) rfl ?_
              rw [HR.out]
              exact ⟨A, 400, cap, rfl, hV5, HA.out, .inl ⟨rfl, rfl, rfl, rfl⟩⟩
            · have hpre : wrPre name fs = insF (lbF name fs) (name, [], []) fs := by unfold wrPre; rw [hhf]; rfl
              have hgd : (wrPre name fs).getD (lbF name fs) ([], [], []) = (name, [], []) := by rw [hpre, List.getD_eq_getElem?_getD, insF_get _ _ _ (lbF_le name fs)]; rfl
              have hnf : ¬ (hasF name fs = false ∧ 400 ≤ fs.length) := fun h => hfull (by omega)
              have h4 : ¬ n = 400 := by omega
              have h4' : ¬ (n : Int) = 400 := by omega
              by_cases hlong : s.length ≤ 1048576
              · have HR := sec (HOK.out (putF (name, [], s) fs) (by
                  unfold wrF; rw [HNB.out, if_pos rfl, if_neg hnf, hgd, if_pos (by simpa using hlong), put_sorted _ _ HSO.out, hhf, if_neg (by decide), hpre, insF_set _ _ _ _ (lbF_le name fs)]; rfl))
                clear hhf hai hpre hgd hnf hfull
                have HPU0 : Sec (∀ W, Gr w4 W → Calls Try.prog 57 #[.slice A1 n cap1, .agg #[.string (bs name), .string (bs []), .string (bs s)]] (W.alloc (.cells #[.string (bs name), .string (bs []), .string (bs s)] 70)) fun e w' =>
                  ∃ A' n' cap', e = .returned (.slice A' n' cap') ∧ w'.ownsRow (W.alloc (.cells #[.string (bs name), .string (bs []), .string (bs s)] 70)).heap.size 70 3 (.slice A' n' cap') n' ((putF (name, [], s) fs).flatMap fileC) ∧ Gr (W.alloc (.cells #[.string (bs name), .string (bs []), .string (bs s)] 70)) w') := sec
                  (fun W g => put_any fs name ([]) (s) A1 n cap1 _ hn (FRow.gr (Row.own HD4.out.own) (g.alloc _)))
                go_wp2_with (first | (go_at_call 56; refine (HN.out _).mono ?_; rintro e w5 ⟨rfl, g5⟩; have c05 : w5.cell? ⟨p, 0, none⟩ = some (.slice A n cap) := (HB.out.gr (HG4.out.trans g5)).cell 0; have c15 : w5.cell? ⟨p, 1, none⟩ = some (.int .i64 f) := (HB.out.gr (HG4.out.trans g5)).cell 1; have d205 : w5.cell? ⟨p + 1, 0, none⟩ = some (.slice none 0 0) := (HR2.out.gr (HG4.out.trans g5)).cell 0; have d215 : w5.cell? ⟨p + 1, 1, none⟩ = some (.int .i64 0) := (HR2.out.gr (HG4.out.trans g5)).cell 1; have f205 : w5.frozen? ⟨p + 1, 0, none⟩ = false := (HR2.out.gr (HG4.out.trans g5)).frozen 0; have f215 : w5.frozen? ⟨p + 1, 1, none⟩ = false := (HR2.out.gr (HG4.out.trans g5)).frozen 1; have c05w : (w5.alloc (.cells #[.string (bs name), .string (bs []), .string (bs [])] 70)).cell? ⟨p, 0, none⟩ = some (.slice A n cap) := (HB.out.gr (HG4.out.trans (g5.alloc _))).cell 0; have c15w : (w5.alloc (.cells #[.string (bs name), .string (bs []), .string (bs [])] 70)).cell? ⟨p, 1, none⟩ = some (.int .i64 f) := (HB.out.gr (HG4.out.trans (g5.alloc _))).cell 1; have q05w : (w5.alloc (.cells #[.string (bs name), .string (bs []), .string (bs [])] 70)).cell? ⟨q, 0, none⟩ = some (.slice A1 n cap1) := ((HD4.out.blk.gr g5).alloc _).cell 0; have d205w : (w5.alloc (.cells #[.string (bs name), .string (bs []), .string (bs [])] 70)).cell? ⟨p + 1, 0, none⟩ = some (.slice none 0 0) := (HR2.out.gr (HG4.out.trans (g5.alloc _))).cell 0; have d215w : (w5.alloc (.cells #[.string (bs name), .string (bs []), .string (bs [])] 70)).cell? ⟨p + 1, 1, none⟩ = some (.int .i64 0) := (HR2.out.gr (HG4.out.trans (g5.alloc _))).cell 1; have f205w : (w5.alloc (.cells #[.string (bs name), .string (bs []), .string (bs [])] 70)).frozen? ⟨p + 1, 0, none⟩ = false := (HR2.out.gr (HG4.out.trans (g5.alloc _))).frozen 0; have f215w : (w5.alloc (.cells #[.string (bs name), .string (bs []), .string (bs [])] 70)).frozen? ⟨p + 1, 1, none⟩ = false := (HR2.out.gr (HG4.out.trans (g5.alloc _))).frozen 1; have c05v : (w5.alloc (.cells #[.string (bs name), .string (bs []), .string (bs s)] 70)).cell? ⟨p, 0, none⟩ = some (.slice A n cap) := (HB.out.gr (HG4.out.trans (g5.alloc _))).cell 0; have c15v : (w5.alloc (.cells #[.string (bs name), .string (bs []), .string (bs s)] 70)).cell? ⟨p, 1, none⟩ = some (.int .i64 f) := (HB.out.gr (HG4.out.trans (g5.alloc _))).cell 1; have q05v : (w5.alloc (.cells #[.string (bs name), .string (bs []), .string (bs s)] 70)).cell? ⟨q, 0, none⟩ = some (.slice A1 n cap1) := ((HD4.out.blk.gr g5).alloc _).cell 0; have d205v : (w5.alloc (.cells #[.string (bs name), .string (bs []), .string (bs s)] 70)).cell? ⟨p + 1, 0, none⟩ = some (.slice none 0 0) := (HR2.out.gr (HG4.out.trans (g5.alloc _))).cell 0; have d215v : (w5.alloc (.cells #[.string (bs name), .string (bs []), .string (bs s)] 70)).cell? ⟨p + 1, 1, none⟩ = some (.int .i64 0) := (HR2.out.gr (HG4.out.trans (g5.alloc _))).cell 1; have f205v : (w5.alloc (.cells #[.string (bs name), .string (bs []), .string (bs s)] 70)).frozen? ⟨p + 1, 0, none⟩ = false := (HR2.out.gr (HG4.out.trans (g5.alloc _))).frozen 0; have f215v : (w5.alloc (.cells #[.string (bs name), .string (bs []), .string (bs s)] 70)).frozen? ⟨p + 1, 1, none⟩ = false := (HR2.out.gr (HG4.out.trans (g5.alloc _))).frozen 1; have HPU := sec (HPU0.out w5 g5)) | (go_at_call 57; refine HPU.out.mono ?_; rintro e w6 ⟨A6, n6, k6, rfl, hown6, g6'⟩; have g6 : Gr w4 w6 := (g5.alloc _).trans g6'; have hbq := HD4.out.blk.gr g6; have hbp := HR2.out.gr (HG4.out.trans g6); have q06 : w6.cell? ⟨q, 0, none⟩ = some (.slice A1 n cap1) := hbq.cell 0; have q16 : w6.cell? ⟨q, 1, none⟩ = some (.int .i64 u) := hbq.cell 1; have fq6 : w6.frozen? ⟨q, 0, none⟩ = false := hbq.frozen 0; have d206 : w6.cell? ⟨p + 1, 0, none⟩ = some (.slice none 0 0) := hbp.cell 0; have d216 : w6.cell? ⟨p + 1, 1, none⟩ = some (.int .i64 0) := hbp.cell 1; have f206 : w6.frozen? ⟨p + 1, 0, none⟩ = false := hbp.frozen 0; have f216 : w6.frozen? ⟨p + 1, 1, none⟩ = false := hbp.frozen 1))
                have hE := do_end (hg0.trans (HG4.out.trans g6)) (by omega) (by omega) hbp hbq hpq1 hown6 (Nat.le_trans (hg0.trans HG4.out).size (g5.alloc _).size) u (.slice A6 n6 k6)
                refine bodyPost_ret (results_blk_tmp rfl _ rfl hE.1 aggDisk) rfl ?_
                rw [HR.out]
                exact ⟨A6, _, k6, rfl, hE.2.1, hE.2.2.2, .inr hE.2.2.1⟩
              · have HR := sec (HERR.out 1 (by unfold wrF; rw [HNB.out, if_pos rfl, if_neg hnf, hgd, if_neg (by simpa using hlong)]) (by decide))
                have hl5 : (1048576 : Int) < (s.length : Int) := by omega
                clear hhf hai hpre hgd hnf hfull
                go_wp2_with (go_at_call 56; refine (HN.out _).mono ?_; rintro e w5 ⟨rfl, g5⟩; have c05 : w5.cell? ⟨p, 0, none⟩ = some (.slice A n cap) := (HB.out.gr (HG4.out.trans g5)).cell 0; have c15 : w5.cell? ⟨p, 1, none⟩ = some (.int .i64 f) := (HB.out.gr (HG4.out.trans g5)).cell 1; have d205 : w5.cell? ⟨p + 1, 0, none⟩ = some (.slice none 0 0) := (HR2.out.gr (HG4.out.trans g5)).cell 0; have d215 : w5.cell? ⟨p + 1, 1, none⟩ = some (.int .i64 0) := (HR2.out.gr (HG4.out.trans g5)).cell 1; have f205 : w5.frozen? ⟨p + 1, 0, none⟩ = false := (HR2.out.gr (HG4.out.trans g5)).frozen 0; have f215 : w5.frozen? ⟨p + 1, 1, none⟩ = false := (HR2.out.gr (HG4.out.trans g5)).frozen 1; have c05w : (w5.alloc (.cells #[.string (bs name), .string (bs []), .string (bs [])] 70)).cell? ⟨p, 0, none⟩ = some (.slice A n cap) := (HB.out.gr (HG4.out.trans (g5.alloc _))).cell 0; have c15w : (w5.alloc (.cells #[.string (bs name), .string (bs []), .string (bs [])] 70)).cell? ⟨p, 1, none⟩ = some (.int .i64 f) := (HB.out.gr (HG4.out.trans (g5.alloc _))).cell 1; have q05w : (w5.alloc (.cells #[.string (bs name), .string (bs []), .string (bs [])] 70)).cell? ⟨q, 0, none⟩ = some (.slice A1 n cap1) := ((HD4.out.blk.gr g5).alloc _).cell 0; have d205w : (w5.alloc (.cells #[.string (bs name), .string (bs []), .string (bs [])] 70)).cell? ⟨p + 1, 0, none⟩ = some (.slice none 0 0) := (HR2.out.gr (HG4.out.trans (g5.alloc _))).cell 0; have d215w : (w5.alloc (.cells #[.string (bs name), .string (bs []), .string (bs [])] 70)).cell? ⟨p + 1, 1, none⟩ = some (.int .i64 0) := (HR2.out.gr (HG4.out.trans (g5.alloc _))).cell 1; have f205w : (w5.alloc (.cells #[.string (bs name), .string (bs []), .string (bs [])] 70)).frozen? ⟨p + 1, 0, none⟩ = false := (HR2.out.gr (HG4.out.trans (g5.alloc _))).frozen 0; have f215w : (w5.alloc (.cells #[.string (bs name), .string (bs []), .string (bs [])] 70)).frozen? ⟨p + 1, 1, none⟩ = false := (HR2.out.gr (HG4.out.trans (g5.alloc _))).frozen 1; have c05v : (w5.alloc (.cells #[.string (bs name), .string (bs []), .string (bs s)] 70)).cell? ⟨p, 0, none⟩ = some (.slice A n cap) := (HB.out.gr (HG4.out.trans (g5.alloc _))).cell 0; have c15v : (w5.alloc (.cells #[.string (bs name), .string (bs []), .string (bs s)] 70)).cell? ⟨p, 1, none⟩ = some (.int .i64 f) := (HB.out.gr (HG4.out.trans (g5.alloc _))).cell 1; have q05v : (w5.alloc (.cells #[.string (bs name), .string (bs []), .string (bs s)] 70)).cell? ⟨q, 0, none⟩ = some (.slice A1 n cap1) := ((HD4.out.blk.gr g5).alloc _).cell 0; have d205v : (w5.alloc (.cells #[.string (bs name), .string (bs []), .string (bs s)] 70)).cell? ⟨p + 1, 0, none⟩ = some (.slice none 0 0) := (HR2.out.gr (HG4.out.trans (g5.alloc _))).cell 0; have d215v : (w5.alloc (.cells #[.string (bs name), .string (bs []), .string (bs s)] 70)).cell? ⟨p + 1, 1, none⟩ = some (.int .i64 0) := (HR2.out.gr (HG4.out.trans (g5.alloc _))).cell 1; have f205v : (w5.alloc (.cells #[.string (bs name), .string (bs []), .string (bs s)] 70)).frozen? ⟨p + 1, 0, none⟩ = false := (HR2.out.gr (HG4.out.trans (g5.alloc _))).frozen 0; have f215v : (w5.alloc (.cells #[.string (bs name), .string (bs []), .string (bs s)] 70)).frozen? ⟨p + 1, 1, none⟩ = false := (HR2.out.gr (HG4.out.trans (g5.alloc _))).frozen 1)
                have hV5 := HV.out _ (HG4.out.trans (g5.alloc (.cells #[.string (bs name), .string (bs []), .string (bs s)] 70)))
                refine bodyPost_ret (results_blk_tmp rfl _ rfl (HW.out _ (HG4.out.trans (g5.alloc (.cells #[.string (bs name), .string (bs []), .string (bs s)] 70)))) aggDisk) rfl ?_
                rw [HR.out]
                exact ⟨A, n, cap, rfl, hV5, HA.out, .inl ⟨rfl, rfl, rfl, rfl⟩⟩
          | true =>
            have hlt := hasF_lt HSO.out hhf
            have hput : ∀ f : Fl, f.1 = name → putF f fs = fs.set (lbF name fs) f := fun f h => by rw [put_sorted f fs HSO.out, h, hhf, if_pos rfl]
            have hpre : wrPre name fs = fs := by unfold wrPre; rw [hhf]; rfl
            have hnf : ¬ (hasF name fs = false ∧ 400 ≤ fs.length) := fun h => by rw [hhf] at h; cases h.1
            obtain ⟨k, hk⟩ : ∃ k, k = lbF name fs := ⟨_, rfl⟩
            have hai : atI name fs = k := by unfold atI; rw [hhf, hk]; rfl
            rw [← hk] at hlt hput
            obtain ⟨hkf, hnm⟩ := hlt
            rw [hai]
            have hgd : (wrPre name fs).getD (lbF name fs) ([], [], []) = fs[k] := by
              rw [hpre, ← hk, List.getD_eq_getElem?_getD, List.getElem?_eq_getElem hkf]; rfl
            obtain ⟨b, off, rfl, e0, e1, e2⟩ := (HX.out.gr HG4.out).cell hkf
            have E0 : Sec (∀ W, Gr w4 W → W.cell? ⟨b, off + k * 3, none⟩ = some (.string (bs fs[k].1)) ∧ W.cell? ⟨b, off + k * 3 + 1, none⟩ = some (.string (bs fs[k].2.1)) ∧ W.cell? ⟨b, off + k * 3 + 2, none⟩ = some (.string (bs fs[k].2.2))) := sec (fun W g => ⟨(g.cells.1 b _ (World.block_lt_of_cell? w4 _ e0)).trans e0, (g.cells.1 b _ (World.block_lt_of_cell? w4 _ e0)).trans e1, (g.cells.1 b _ (World.block_lt_of_cell? w4 _ e0)).trans e2⟩)
            have hsz := goodFs_ok HGF.out fs[k] (List.getElem_mem hkf)
            obtain ⟨x, hxx⟩ : ∃ x, x = fs[k] := ⟨_, rfl⟩
            rw [← hxx] at E0 hsz hgd hnm
            obtain ⟨nm, sf, tl⟩ := x
            simp only at E0 hsz hnm
            subst hnm
            obtain ⟨_, hz1, hz2⟩ := hsz
            have hkn1 : (k : Int) < (n : Int) := by omega
            by_cases hlong : sf.length + tl.length + s.length ≤ 1048576
            · have HR := sec (HOK.out (putF (nm, sf, tl ++ s) fs) (by
                unfold wrF; rw [HNB.out, if_pos rfl, if_neg hnf, hgd, if_pos hlong, hpre, ← hk, hput _ rfl]))
              have hl5 : ¬ (1048576 : Int) < (sf.length : Int) + ((tl.length : Int) + (s.length : Int)) := by omega
              clear hai hk hhf hput hxx hkf hgd hpre hnf e0 e1 e2
              have HPU0 : Sec (∀ W, Gr w4 W → Calls Try.prog 57 #[.slice A1 n cap1, .agg #[.string (bs nm), .string (bs sf), .string (bs (tl ++ s))]] (W.alloc (.cells #[.string (bs nm), .string (bs sf), .string (bs (tl ++ s))] 70)) fun e w' =>
                ∃ A' n' cap', e = .returned (.slice A' n' cap') ∧ w'.ownsRow (W.alloc (.cells #[.string (bs nm), .string (bs sf), .string (bs (tl ++ s))] 70)).heap.size 70 3 (.slice A' n' cap') n' ((putF (nm, sf, (tl ++ s)) fs).flatMap fileC) ∧ Gr (W.alloc (.cells #[.string (bs nm), .string (bs sf), .string (bs (tl ++ s))] 70)) w') := sec
                (fun W g => put_any fs nm (sf) ((tl ++ s)) A1 n cap1 _ hn (FRow.gr (Row.own HD4.out.own) (g.alloc _)))
              go_wp2_with (first | (go_at_call 56; refine (HN.out _).mono ?_; rintro e w5 ⟨rfl, g5⟩; have c05 : w5.cell? ⟨p, 0, none⟩ = some (.slice (some ⟨b, off, none⟩) n cap) := (HB.out.gr (HG4.out.trans g5)).cell 0; have c15 : w5.cell? ⟨p, 1, none⟩ = some (.int .i64 f) := (HB.out.gr (HG4.out.trans g5)).cell 1; have d205 : w5.cell? ⟨p + 1, 0, none⟩ = some (.slice none 0 0) := (HR2.out.gr (HG4.out.trans g5)).cell 0; have d215 : w5.cell? ⟨p + 1, 1, none⟩ = some (.int .i64 0) := (HR2.out.gr (HG4.out.trans g5)).cell 1; have f205 : w5.frozen? ⟨p + 1, 0, none⟩ = false := (HR2.out.gr (HG4.out.trans g5)).frozen 0; have f215 : w5.frozen? ⟨p + 1, 1, none⟩ = false := (HR2.out.gr (HG4.out.trans g5)).frozen 1; have c05w : (w5.alloc (.cells #[.string (bs nm), .string (bs []), .string (bs [])] 70)).cell? ⟨p, 0, none⟩ = some (.slice (some ⟨b, off, none⟩) n cap) := (HB.out.gr (HG4.out.trans (g5.alloc _))).cell 0; have c15w : (w5.alloc (.cells #[.string (bs nm), .string (bs []), .string (bs [])] 70)).cell? ⟨p, 1, none⟩ = some (.int .i64 f) := (HB.out.gr (HG4.out.trans (g5.alloc _))).cell 1; have q05w : (w5.alloc (.cells #[.string (bs nm), .string (bs []), .string (bs [])] 70)).cell? ⟨q, 0, none⟩ = some (.slice A1 n cap1) := ((HD4.out.blk.gr g5).alloc _).cell 0; have d205w : (w5.alloc (.cells #[.string (bs nm), .string (bs []), .string (bs [])] 70)).cell? ⟨p + 1, 0, none⟩ = some (.slice none 0 0) := (HR2.out.gr (HG4.out.trans (g5.alloc _))).cell 0; have d215w : (w5.alloc (.cells #[.string (bs nm), .string (bs []), .string (bs [])] 70)).cell? ⟨p + 1, 1, none⟩ = some (.int .i64 0) := (HR2.out.gr (HG4.out.trans (g5.alloc _))).cell 1; have f205w : (w5.alloc (.cells #[.string (bs nm), .string (bs []), .string (bs [])] 70)).frozen? ⟨p + 1, 0, none⟩ = false := (HR2.out.gr (HG4.out.trans (g5.alloc _))).frozen 0; have f215w : (w5.alloc (.cells #[.string (bs nm), .string (bs []), .string (bs [])] 70)).frozen? ⟨p + 1, 1, none⟩ = false := (HR2.out.gr (HG4.out.trans (g5.alloc _))).frozen 1; have c05v : (w5.alloc (.cells #[.string (bs nm), .string (bs sf), .string (bs (tl ++ s))] 70)).cell? ⟨p, 0, none⟩ = some (.slice (some ⟨b, off, none⟩) n cap) := (HB.out.gr (HG4.out.trans (g5.alloc _))).cell 0; have c15v : (w5.alloc (.cells #[.string (bs nm), .string (bs sf), .string (bs (tl ++ s))] 70)).cell? ⟨p, 1, none⟩ = some (.int .i64 f) := (HB.out.gr (HG4.out.trans (g5.alloc _))).cell 1; have q05v : (w5.alloc (.cells #[.string (bs nm), .string (bs sf), .string (bs (tl ++ s))] 70)).cell? ⟨q, 0, none⟩ = some (.slice A1 n cap1) := ((HD4.out.blk.gr g5).alloc _).cell 0; have d205v : (w5.alloc (.cells #[.string (bs nm), .string (bs sf), .string (bs (tl ++ s))] 70)).cell? ⟨p + 1, 0, none⟩ = some (.slice none 0 0) := (HR2.out.gr (HG4.out.trans (g5.alloc _))).cell 0; have d215v : (w5.alloc (.cells #[.string (bs nm), .string (bs sf), .string (bs (tl ++ s))] 70)).cell? ⟨p + 1, 1, none⟩ = some (.int .i64 0) := (HR2.out.gr (HG4.out.trans (g5.alloc _))).cell 1; have f205v : (w5.alloc (.cells #[.string (bs nm), .string (bs sf), .string (bs (tl ++ s))] 70)).frozen? ⟨p + 1, 0, none⟩ = false := (HR2.out.gr (HG4.out.trans (g5.alloc _))).frozen 0; have f215v : (w5.alloc (.cells #[.string (bs nm), .string (bs sf), .string (bs (tl ++ s))] 70)).frozen? ⟨p + 1, 1, none⟩ = false := (HR2.out.gr (HG4.out.trans (g5.alloc _))).frozen 1; have e0w := (E0.out _ (g5.alloc (.cells #[.string (bs nm), .string (bs []), .string (bs [])] 70))).1; have e1w := (E0.out _ (g5.alloc (.cells #[.string (bs nm), .string (bs []), .string (bs [])] 70))).2.1; have e2w := (E0.out _ (g5.alloc (.cells #[.string (bs nm), .string (bs []), .string (bs [])] 70))).2.2; have HPU := sec (HPU0.out w5 g5)) | (go_at_call 57; refine HPU.out.mono ?_; rintro e w6 ⟨A6, n6, k6, rfl, hown6, g6'⟩; have g6 : Gr w4 w6 := (g5.alloc _).trans g6'; have hbq := HD4.out.blk.gr g6; have hbp := HR2.out.gr (HG4.out.trans g6); have q06 : w6.cell? ⟨q, 0, none⟩ = some (.slice A1 n cap1) := hbq.cell 0; have q16 : w6.cell? ⟨q, 1, none⟩ = some (.int .i64 u) := hbq.cell 1; have fq6 : w6.frozen? ⟨q, 0, none⟩ = false := hbq.frozen 0; have d206 : w6.cell? ⟨p + 1, 0, none⟩ = some (.slice none 0 0) := hbp.cell 0; have d216 : w6.cell? ⟨p + 1, 1, none⟩ = some (.int .i64 0) := hbp.cell 1; have f206 : w6.frozen? ⟨p + 1, 0, none⟩ = false := hbp.frozen 0; have f216 : w6.frozen? ⟨p + 1, 1, none⟩ = false := hbp.frozen 1))
              have hE := do_end (hg0.trans (HG4.out.trans g6)) (by omega) (by omega) hbp hbq hpq1 hown6 (Nat.le_trans (hg0.trans HG4.out).size (g5.alloc _).size) u (.slice A6 n6 k6)
              refine bodyPost_ret (results_blk_tmp rfl _ rfl hE.1 aggDisk) rfl ?_
              rw [HR.out]
              exact ⟨A6, _, k6, rfl, hE.2.1, hE.2.2.2, .inr hE.2.2.1⟩
            · have HR := sec (HERR.out 1 (by unfold wrF; rw [HNB.out, if_pos rfl, if_neg hnf, hgd, if_neg hlong]) (by decide))
              have hl5 : (1048576 : Int) < (sf.length : Int) + ((tl.length : Int) + (s.length : Int)) := by omega
              clear hai hk hhf hput hxx hkf hgd hpre hnf e0 e1 e2
              go_wp2_with (go_at_call 56; refine (HN.out _).mono ?_; rintro e w5 ⟨rfl, g5⟩; have c05 : w5.cell? ⟨p, 0, none⟩ = some (.slice (some ⟨b, off, none⟩) n cap) := (HB.out.gr (HG4.out.trans g5)).cell 0; have c15 : w5.cell? ⟨p, 1, none⟩ = some (.int .i64 f) := (HB.out.gr (HG4.out.trans g5)).cell 1; have d205 : w5.cell? ⟨p + 1, 0, none⟩ = some (.slice none 0 0) := (HR2.out.gr (HG4.out.trans g5)).cell 0; have d215 : w5.cell? ⟨p + 1, 1, none⟩ = some (.int .i64 0) := (HR2.out.gr (HG4.out.trans g5)).cell 1; have f205 : w5.frozen? ⟨p + 1, 0, none⟩ = false := (HR2.out.gr (HG4.out.trans g5)).frozen 0; have f215 : w5.frozen? ⟨p + 1, 1, none⟩ = false := (HR2.out.gr (HG4.out.trans g5)).frozen 1; have c05w : (w5.alloc (.cells #[.string (bs nm), .string (bs []), .string (bs [])] 70)).cell? ⟨p, 0, none⟩ = some (.slice (some ⟨b, off, none⟩) n cap) := (HB.out.gr (HG4.out.trans (g5.alloc _))).cell 0; have c15w : (w5.alloc (.cells #[.string (bs nm), .string (bs []), .string (bs [])] 70)).cell? ⟨p, 1, none⟩ = some (.int .i64 f) := (HB.out.gr (HG4.out.trans (g5.alloc _))).cell 1; have q05w : (w5.alloc (.cells #[.string (bs nm), .string (bs []), .string (bs [])] 70)).cell? ⟨q, 0, none⟩ = some (.slice A1 n cap1) := ((HD4.out.blk.gr g5).alloc _).cell 0; have d205w : (w5.alloc (.cells #[.string (bs nm), .string (bs []), .string (bs [])] 70)).cell? ⟨p + 1, 0, none⟩ = some (.slice none 0 0) := (HR2.out.gr (HG4.out.trans (g5.alloc _))).cell 0; have d215w : (w5.alloc (.cells #[.string (bs nm), .string (bs []), .string (bs [])] 70)).cell? ⟨p + 1, 1, none⟩ = some (.int .i64 0) := (HR2.out.gr (HG4.out.trans (g5.alloc _))).cell 1; have f205w : (w5.alloc (.cells #[.string (bs nm), .string (bs []), .string (bs [])] 70)).frozen? ⟨p + 1, 0, none⟩ = false := (HR2.out.gr (HG4.out.trans (g5.alloc _))).frozen 0; have f215w : (w5.alloc (.cells #[.string (bs nm), .string (bs []), .string (bs [])] 70)).frozen? ⟨p + 1, 1, none⟩ = false := (HR2.out.gr (HG4.out.trans (g5.alloc _))).frozen 1; have c05v : (w5.alloc (.cells #[.string (bs nm), .string (bs sf), .string (bs (tl ++ s))] 70)).cell? ⟨p, 0, none⟩ = some (.slice (some ⟨b, off, none⟩) n cap) := (HB.out.gr (HG4.out.trans (g5.alloc _))).cell 0; have c15v : (w5.alloc (.cells #[.string (bs nm), .string (bs sf), .string (bs (tl ++ s))] 70)).cell? ⟨p, 1, none⟩ = some (.int .i64 f) := (HB.out.gr (HG4.out.trans (g5.alloc _))).cell 1; have q05v : (w5.alloc (.cells #[.string (bs nm), .string (bs sf), .string (bs (tl ++ s))] 70)).cell? ⟨q, 0, none⟩ = some (.slice A1 n cap1) := ((HD4.out.blk.gr g5).alloc _).cell 0; have d205v : (w5.alloc (.cells #[.string (bs nm), .string (bs sf), .string (bs (tl ++ s))] 70)).cell? ⟨p + 1, 0, none⟩ = some (.slice none 0 0) := (HR2.out.gr (HG4.out.trans (g5.alloc _))).cell 0; have d215v : (w5.alloc (.cells #[.string (bs nm), .string (bs sf), .string (bs (tl ++ s))] 70)).cell? ⟨p + 1, 1, none⟩ = some (.int .i64 0) := (HR2.out.gr (HG4.out.trans (g5.alloc _))).cell 1; have f205v : (w5.alloc (.cells #[.string (bs nm), .string (bs sf), .string (bs (tl ++ s))] 70)).frozen? ⟨p + 1, 0, none⟩ = false := (HR2.out.gr (HG4.out.trans (g5.alloc _))).frozen 0; have f215v : (w5.alloc (.cells #[.string (bs nm), .string (bs sf), .string (bs (tl ++ s))] 70)).frozen? ⟨p + 1, 1, none⟩ = false := (HR2.out.gr (HG4.out.trans (g5.alloc _))).frozen 1; have e0w := (E0.out _ (g5.alloc (.cells #[.string (bs nm), .string (bs []), .string (bs [])] 70))).1; have e1w := (E0.out _ (g5.alloc (.cells #[.string (bs nm), .string (bs []), .string (bs [])] 70))).2.1; have e2w := (E0.out _ (g5.alloc (.cells #[.string (bs nm), .string (bs []), .string (bs [])] 70))).2.2)
              have hV5 := HV.out _ (HG4.out.trans (g5.alloc (.cells #[.string (bs nm), .string (bs sf), .string (bs (tl ++ s))] 70)))
              refine bodyPost_ret (results_blk_tmp rfl _ rfl (HW.out _ (HG4.out.trans (g5.alloc (.cells #[.string (bs nm), .string (bs sf), .string (bs (tl ++ s))] 70)))) aggDisk) rfl ?_
              rw [HR.out]
              exact ⟨some ⟨b, off, none⟩, n, cap, rfl, hV5, HA.out, .inl ⟨rfl, rfl, rfl, rfl⟩⟩
end Go.Proofs.Ytcfghoohdlljkaa

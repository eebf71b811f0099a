/-
  PkP1: contracts and plain laws joined (27 texts). No conditions but those that each states.
-/
import Derived.Test.YtmgpllakpgjicaaDoorPkP2
import Derived.Deep.RegionLaw
import Derived.Test.YtmgpllakpgjicaaDoorRowsG
import Derived.ProofKit
import Derived.OpenShut
import Derived.ChangeOld
import Derived.Test.YtmgpllakpgjicaaDoorDiskA
import Derived.Test.YtmgpllakpgjicaaDoorObDL
import Derived.Test.YtmgpllakpgjicaaDoorDiskRead
import Derived.Test.YtmgpllakpgjicaaDoorSumL
import Derived.Test.YtmgpllakpgjicaaDoorEnd
import Derived.Test.YtmgpllakpgjicaaDoorElems
import Derived.Laws.MakeOwn
import Derived.Laws.BitsLemmas
import Derived.Deep.RegionHeld3
import Derived.Test.YtmgpllakpgjicaaDoorObD
import Derived.Deep.RegionWith
import Derived.Deep.CutRange
import Derived.Test.YtmgpllakpgjicaaDoorLies
import Derived.Test.YtmgpllakpgjicaaDoorRBlock
import Derived.Test.YtmgpllakpgjicaaDoorRObD
import Derived.Test.YtmgpllakpgjicaaDoorBlock
import Derived.Test.YtmgpllakpgjicaaDoorCards
import Derived.Test.YtmgpllakpgjicaaDoorTie
import Derived.Deep.DeepHandedRow
import Derived.Lib.LaidTab
namespace Go.Proofs.YtmgpllakpgjicaaDoor
open Go.RowKit
set_option linter.unusedVariables false
set_option maxRecDepth 100000 in
set_option maxHeartbeats 4000000 in
theorem do0_any (name s : List UInt8) (fs : List Fl) (A : Option Addr) (n cap : Nat) (f : Int) (w : World) (hn : n ≤ 1099511627776) (hnc : n ≤ cap) (hx : FRow w A n fs) (hA : A = none → n = 0 ∧ cap = 0) (hs : ∀ f ∈ fs, f.1.length ≤ 1099511627776 ∧ f.2.1.length ≤ 1099511627776 ∧ f.2.2.length ≤ 1099511627776)
    (hf : -9223372036854775808 ≤ f ∧ f ≤ 9223372036854775807) (hl1 : name.length ≤ 1099511627776) (hl2 : s.length ≤ 1099511627776) :
    Calls Tryd.prog 95 #[.int .i64 0, diskV A n cap f, .string (bs name), .string (bs s)] w (StepPost (stepR (wrF name s) fs f) A n cap fs w) := by
  have hg0 := ((Gr.refl w).alloc (.cells #[.slice A n cap, .int .i64 f] 43)).alloc (.cells #[.slice none 0 0, .int .i64 0] 43)
  have hb1 := (Blk.new w 43 #[.slice A n cap, .int .i64 f]).alloc (.cells #[.slice none 0 0, .int .i64 0] 43)
  have hb2 := Blk.new1 w (.cells #[.slice A n cap, .int .i64 f] 43) 43 #[.slice none 0 0, .int .i64 0]
  have HG := sec (drgood_any fs A n cap f _ hn (hx.gr hg0) hs)
  have hl := hx.len
  have HX := sec (hx.gr hg0)
  obtain ⟨wa, hwa⟩ : ∃ x, x = (w.alloc (.cells #[.slice A n cap, .int .i64 f] 43)).alloc (.cells #[.slice none 0 0, .int .i64 0] 43) := ⟨_, rfl⟩
  rw [← hwa] at hg0 hb1 hb2 HG HX
  obtain ⟨p, hp⟩ : ∃ p, p = w.heap.size := ⟨_, rfl⟩
  have hwp : w.heap.size ≤ p := by omega
  rw [← hp] at hb1 hb2
  have c0 : wa.cell? ⟨p, 0, none⟩ = some (.slice A n cap) := hb1.cell 0
  have c1 : wa.cell? ⟨p, 1, none⟩ = some (.int .i64 f) := hb1.cell 1
  have HB := sec hb1
  have HR2 := sec hb2
  have HX0 := sec hx
  have HA := sec hA
  clear hb1 hb2 hs hx
  unfold diskV at HG
  unfold diskV
  have HW : Sec (∀ w1, Gr wa w1 → Blk ((w1.setCell ⟨p + 1, 0, none⟩ (.slice A n cap)).setCell ⟨p + 1, 1, none⟩ (.int .i64 f)) (p + 1) 43 #[.slice A n cap, .int .i64 f]) := sec fun w1 g1 => ((HR2.out.gr g1).set_ 0 (.slice A n cap)).set_ 1 (.int .i64 f)
  have HV : Sec (∀ w1, Gr wa w1 → Gr w ((w1.setCell ⟨p + 1, 0, none⟩ (.slice A n cap)).setCell ⟨p + 1, 1, none⟩ (.int .i64 f))) := sec fun w1 g1 => ((hg0.trans g1).setCell (p := ⟨p + 1, 0, none⟩) (by show w.heap.size ≤ p + 1; omega) _).setCell (p := ⟨p + 1, 1, none⟩) (by show w.heap.size ≤ p + 1; omega) _
  cases hgf : goodFs fs with
  | false =>
    have HR : Sec (stepR (wrF name s) fs f = (fs, f, 3)) := sec (by unfold stepR; rw [hgf]; rfl)
    rw [HR.out]
    rw [hgf] at HG
    clear hgf
    go_enter Tryd.func95, Tryd.ntmps95
    go_wp2_with (first | (rw [← hwa, ← hp]; clear hwa hp; go_wp2_with fail) | (go_at_call 92; refine Calls.mono HG.out ?_; rintro e w1 ⟨rfl, g1⟩; have c0y : w1.cell? ⟨p, 0, none⟩ = some (.slice A n cap) := (HB.out.gr g1).cell 0; have c1y : w1.cell? ⟨p, 1, none⟩ = some (.int .i64 f) := (HB.out.gr g1).cell 1; have d20 : w1.cell? ⟨p + 1, 0, none⟩ = some (.slice none 0 0) := (HR2.out.gr g1).cell 0; have d21 : w1.cell? ⟨p + 1, 1, none⟩ = some (.int .i64 0) := (HR2.out.gr g1).cell 1; have f20 : w1.frozen? ⟨p + 1, 0, none⟩ = false := (HR2.out.gr g1).frozen 0; have f21 : w1.frozen? ⟨p + 1, 1, none⟩ = false := (HR2.out.gr g1).frozen 1))
    refine bodyPost_ret (results_blk_tmp rfl _ rfl (HW.out w1 g1) aggDisk) rfl ?_
    exact ⟨A, n, cap, rfl, HV.out w1 g1, HA.out, .inl ⟨rfl, rfl, rfl, rfl⟩⟩
  | true =>
    rw [hgf] at HG
    by_cases hf0 : f = 0
    · have HR : Sec (stepR (wrF name s) fs f = (fs, f, 12)) := sec (by unfold stepR; rw [hgf, hf0]; rfl)
      rw [HR.out]
      clear hgf
      subst hf0
      go_enter Tryd.func95, Tryd.ntmps95
      go_wp2_with (first | (rw [← hwa, ← hp]; clear hwa hp; go_wp2_with fail) | (go_at_call 92; refine Calls.mono HG.out ?_; rintro e w1 ⟨rfl, g1⟩; have c0y : w1.cell? ⟨p, 0, none⟩ = some (.slice A n cap) := (HB.out.gr g1).cell 0; have c1y : w1.cell? ⟨p, 1, none⟩ = some (.int .i64 0) := (HB.out.gr g1).cell 1; have d20 : w1.cell? ⟨p + 1, 0, none⟩ = some (.slice none 0 0) := (HR2.out.gr g1).cell 0; have d21 : w1.cell? ⟨p + 1, 1, none⟩ = some (.int .i64 0) := (HR2.out.gr g1).cell 1; have f20 : w1.frozen? ⟨p + 1, 0, none⟩ = false := (HR2.out.gr g1).frozen 0; have f21 : w1.frozen? ⟨p + 1, 1, none⟩ = false := (HR2.out.gr g1).frozen 1))
      refine bodyPost_ret (results_blk_tmp rfl _ rfl (HW.out w1 g1) aggDisk) rfl ?_
      exact ⟨A, n, cap, rfl, HV.out w1 g1, HA.out, .inl ⟨rfl, rfl, rfl, rfl⟩⟩
    · have HGF := sec hgf
      have HF0 := sec hf0
      have HSO := sec (goodFs_sorted hgf)
      have hl400 : n ≤ 400 := by have := goodFs_len hgf; omega
      clear hgf
      obtain ⟨u, hu⟩ : ∃ u, u = (if 0 < f then f - 1 else f) := ⟨_, rfl⟩
      have HU := sec hu
      clear hu
      have HERR : Sec (∀ E, (wrF name s fs).2 = E → E ≠ 0 → stepR (wrF name s) fs f = (fs, f, E)) := sec (fun E h h0 => by unfold stepR; rw [HGF.out, if_pos rfl, if_neg HF0.out, if_neg (by rw [h]; exact h0), h])
      have HOK : Sec (∀ R, (wrF name s fs) = (R, 0) → stepR (wrF name s) fs f = (R, u, 0)) := sec (fun R h => by unfold stepR; rw [HGF.out, if_pos rfl, if_neg HF0.out, if_pos (by rw [h]), h, HU.out])
      go_enter Tryd.func95, Tryd.ntmps95
      go_upto_if 27 with (first | (rw [← hwa, ← hp]; clear hwa hp; go_wp2_with fail) | (go_at_call 92; refine Calls.mono HG.out ?_; rintro e w1 ⟨rfl, g1⟩; have c0y : w1.cell? ⟨p, 0, none⟩ = some (.slice A n cap) := (HB.out.gr g1).cell 0; have c1y : w1.cell? ⟨p, 1, none⟩ = some (.int .i64 f) := (HB.out.gr g1).cell 1) | (go_at_call 22; refine Calls.mono (copyDisk_any fs A n cap f w1 hn (HX.out.gr g1) HA.out) ?_; unfold diskV; rintro e w2 ⟨A1, cap1, rfl, ho, hA1, g2⟩))
      have hqb := Blk.new w2 43 #[.slice A1 n cap1, .int .i64 f]
      have hoq := own_gr ho ((Gr.refl w2).alloc (.cells #[.slice A1 n cap1, .int .i64 f] 43))
      have gq := g2.alloc (.cells #[.slice A1 n cap1, .int .i64 f] 43)
      obtain ⟨wq, hwq⟩ : ∃ x, x = w2.alloc (.cells #[.slice A1 n cap1, .int .i64 f] 43) := ⟨_, rfl⟩
      obtain ⟨q, hq⟩ : ∃ q, q = w2.heap.size := ⟨_, rfl⟩
      have hq1 : w1.heap.size ≤ q := by have := g2.size; omega
      rw [← hwq] at hqb hoq gq
      rw [← hq] at hqb
      rw [← hwq, ← hq]
      have HDQ : Sec (DOwn wq w1.heap.size q A1 n cap1 f fs) := sec ⟨hqb, hoq, hq1⟩
      have HG1 := sec g1
      have hpq : p + 1 < w1.heap.size := (HR2.out.gr g1).lt
      clear hwq hq hqb hoq ho g2 hA1
      have dq0 : wq.cell? ⟨q, 0, none⟩ = some (.slice A1 n cap1) := HDQ.out.blk.cell 0
      have dq1 : wq.cell? ⟨q, 1, none⟩ = some (.int .i64 f) := HDQ.out.blk.cell 1
      have fq1 : wq.frozen? ⟨q, 1, none⟩ = false := HDQ.out.blk.frozen 1
      go_cut [] from 28 to 144 (fun wx => Sec (DOwn wx w1.heap.size q A1 n cap1 u fs) ∧ Gr w1 wx)
      case first =>
        by_cases hpos : 0 < f
        · have hwr : IntKind.i64.wrap (f - 1) = f - 1 := IntWalk.i64_in _ (by omega)
          have hu : u = f - 1 := by rw [HU.out, if_pos hpos]
          go_wp2_with fail
          go_meet
          rw [hu]
          exact ⟨sec ⟨HDQ.out.blk.set_ 1 _, ownsRow_setCell_other HDQ.out.own (a := ⟨q, 1, none⟩) HDQ.out.ne _, HDQ.out.base⟩, gq.setCell (p := ⟨q, 1, none⟩) hq1 _⟩
        · have hu : u = f := by rw [HU.out, if_neg hpos]
          go_wp2_with fail
          go_meet
          rw [hu]
          exact ⟨HDQ, gq⟩
      case rest =>
        obtain ⟨HDC, gc⟩ := hcut
        clear dq0 dq1 fq1 c0y c1y HDQ gq g1
        have c0y : wc.cell? ⟨p, 0, none⟩ = some (.slice A n cap) := (HB.out.gr (HG1.out.trans gc)).cell 0
        have c1y : wc.cell? ⟨p, 1, none⟩ = some (.int .i64 f) := (HB.out.gr (HG1.out.trans gc)).cell 1
        go_upto_region 9 with (go_at_call 94; refine Calls.mono (at_any fs name A n cap f wc hn (HX.out.gr (HG1.out.trans gc)) HSO.out) ?_; rintro e w4 ⟨rfl, g4⟩)
        have gg4 : Gr w1 w4 := gc.trans g4
        have HD4 := sec (HDC.out.gr g4)
        have HG4 := sec (HG1.out.trans gg4)
        have HGG4 := sec gg4
        clear c0y c1y gc g4 HDC HG1
        have c04 : w4.cell? ⟨p, 0, none⟩ = some (.slice A n cap) := (HB.out.gr HG4.out).cell 0
        have c14 : w4.cell? ⟨p, 1, none⟩ = some (.int .i64 f) := (HB.out.gr HG4.out).cell 1
        have d20 : w4.cell? ⟨p + 1, 0, none⟩ = some (.slice none 0 0) := (HR2.out.gr HG4.out).cell 0
        have d21 : w4.cell? ⟨p + 1, 1, none⟩ = some (.int .i64 0) := (HR2.out.gr HG4.out).cell 1
        have f20 : w4.frozen? ⟨p + 1, 0, none⟩ = false := (HR2.out.gr HG4.out).frozen 0
        have f21 : w4.frozen? ⟨p + 1, 1, none⟩ = false := (HR2.out.gr HG4.out).frozen 1
        have q04 : w4.cell? ⟨q, 0, none⟩ = some (.slice A1 n cap1) := HD4.out.blk.cell 0
        have q14 : w4.cell? ⟨q, 1, none⟩ = some (.int .i64 u) := HD4.out.blk.cell 1
        have fq4 : w4.frozen? ⟨q, 0, none⟩ = false := HD4.out.blk.frozen 0
        have HN := sec (fun w => fileName_any name w (by omega))
        have hpq1 : p + 1 ≠ q := by omega
        cases hnb : namedB name with
        | false =>
          have HR := sec (HERR.out 2 (by unfold wrF; rw [hnb]; rfl) (by decide))
          rw [hnb] at HN
          clear hnb
          go_wp2_with (go_at_call 93; refine (HN.out _).mono ?_; rintro e w5 ⟨rfl, g5⟩; have c05 : w5.cell? ⟨p, 0, none⟩ = some (.slice A n cap) := (HB.out.gr (HG4.out.trans g5)).cell 0; have c15 : w5.cell? ⟨p, 1, none⟩ = some (.int .i64 f) := (HB.out.gr (HG4.out.trans g5)).cell 1; have d205 : w5.cell? ⟨p + 1, 0, none⟩ = some (.slice none 0 0) := (HR2.out.gr (HG4.out.trans g5)).cell 0; have d215 : w5.cell? ⟨p + 1, 1, none⟩ = some (.int .i64 0) := (HR2.out.gr (HG4.out.trans g5)).cell 1; have f205 : w5.frozen? ⟨p + 1, 0, none⟩ = false := (HR2.out.gr (HG4.out.trans g5)).frozen 0; have f215 : w5.frozen? ⟨p + 1, 1, none⟩ = false := (HR2.out.gr (HG4.out.trans g5)).frozen 1)
          refine bodyPost_ret (results_blk_tmp rfl _ rfl (HW.out w5 (HG4.out.trans g5)) aggDisk) rfl ?_
          rw [HR.out]
          exact ⟨A, n, cap, rfl, HV.out w5 (HG4.out.trans g5), HA.out, .inl ⟨rfl, rfl, rfl, rfl⟩⟩
        | true =>
          rw [hnb] at HN
          have HNB := sec hnb
          clear hnb
          cases hhf : hasF name fs with
          | false =>
            have hai : atI name fs = -1 := by unfold atI; rw [hhf]; rfl
            rw [hai]
            by_cases hfull : 400 ≤ n
            · have HR := sec (HERR.out 6 (by unfold wrF; rw [HNB.out, if_pos rfl, if_pos ⟨hhf, by omega⟩]) (by decide))
              obtain rfl : n = 400 := by omega
              clear hhf hai
              go_wp2_with (go_at_call 93; refine (HN.out _).mono ?_; rintro e w5 ⟨rfl, g5⟩; have c05 : w5.cell? ⟨p, 0, none⟩ = some (.slice A 400 cap) := (HB.out.gr (HG4.out.trans g5)).cell 0; have c15 : w5.cell? ⟨p, 1, none⟩ = some (.int .i64 f) := (HB.out.gr (HG4.out.trans g5)).cell 1; have d205 : w5.cell? ⟨p + 1, 0, none⟩ = some (.slice none 0 0) := (HR2.out.gr (HG4.out.trans g5)).cell 0; have d215 : w5.cell? ⟨p + 1, 1, none⟩ = some (.int .i64 0) := (HR2.out.gr (HG4.out.trans g5)).cell 1; have f205 : w5.frozen? ⟨p + 1, 0, none⟩ = false := (HR2.out.gr (HG4.out.trans g5)).frozen 0; have f215 : w5.frozen? ⟨p + 1, 1, none⟩ = false := (HR2.out.gr (HG4.out.trans g5)).frozen 1; have c05w : (w5.alloc (.cells #[.string (bs name), .string (bs []), .string (bs [])] 89)).cell? ⟨p, 0, none⟩ = some (.slice A 400 cap) := (HB.out.gr (HG4.out.trans (g5.alloc _))).cell 0; have c15w : (w5.alloc (.cells #[.string (bs name), .string (bs []), .string (bs [])] 89)).cell? ⟨p, 1, none⟩ = some (.int .i64 f) := (HB.out.gr (HG4.out.trans (g5.alloc _))).cell 1; have q05w : (w5.alloc (.cells #[.string (bs name), .string (bs []), .string (bs [])] 89)).cell? ⟨q, 0, none⟩ = some (.slice A1 400 cap1) := ((HD4.out.blk.gr g5).alloc _).cell 0; have d205w : (w5.alloc (.cells #[.string (bs name), .string (bs []), .string (bs [])] 89)).cell? ⟨p + 1, 0, none⟩ = some (.slice none 0 0) := (HR2.out.gr (HG4.out.trans (g5.alloc _))).cell 0; have d215w : (w5.alloc (.cells #[.string (bs name), .string (bs []), .string (bs [])] 89)).cell? ⟨p + 1, 1, none⟩ = some (.int .i64 0) := (HR2.out.gr (HG4.out.trans (g5.alloc _))).cell 1; have f205w : (w5.alloc (.cells #[.string (bs name), .string (bs []), .string (bs [])] 89)).frozen? ⟨p + 1, 0, none⟩ = false := (HR2.out.gr (HG4.out.trans (g5.alloc _))).frozen 0; have f215w : (w5.alloc (.cells #[.string (bs name), .string (bs []), .string (bs [])] 89)).frozen? ⟨p + 1, 1, none⟩ = false := (HR2.out.gr (HG4.out.trans (g5.alloc _))).frozen 1)
              have hV5 : Gr w (((w5.alloc (.cells #[.string (bs name), .string (bs []), .string (bs [])] 89)).setCell ⟨p + 1, 0, none⟩ (.slice A 400 cap)).setCell ⟨p + 1, 1, none⟩ (.int .i64 f)) := HV.out _ (HG4.out.trans (g5.alloc _))
              refine bodyPost_ret (results_blk_tmp rfl _ rfl (HW.out _ (HG4.out.trans (g5.alloc (.cells #[.string (bs name), .string (bs []), .string (bs [])] 89)))) aggDisk) rfl ?_
              rw [HR.out]
              exact ⟨A, 400, cap, rfl, hV5, HA.out, .inl ⟨rfl, rfl, rfl, rfl⟩⟩
            · have hpre : wrPre name fs = insF (lbF name fs) (name, [], []) fs := by unfold wrPre; rw [hhf]; rfl
              have hgd : (wrPre name fs).getD (lbF name fs) ([], [], []) = (name, [], []) := by rw [hpre, List.getD_eq_getElem?_getD, insF_get _ _ _ (lbF_le name fs)]; rfl
              have hnf : ¬ (hasF name fs = false ∧ 400 ≤ fs.length) := fun h => hfull (by omega)
              have h4 : ¬ n = 400 := by omega
              have h4' : ¬ (n : Int) = 400 := by omega
              by_cases hlong : s.length ≤ 1048576
              · have HR := sec (HOK.out (putF (name, [], s) fs) (by
                  unfold wrF; rw [HNB.out, if_pos rfl, if_neg hnf, hgd, if_pos (by simpa using hlong), put_sorted _ _ HSO.out, hhf, if_neg (by decide), hpre, insF_set _ _ _ _ (lbF_le name fs)]; rfl))
                clear hhf hai hpre hgd hnf hfull
                have HPU0 : Sec (∀ W, Gr w4 W → Calls Tryd.prog 120 #[.slice A1 n cap1, .agg #[.string (bs name), .string (bs []), .string (bs s)]] (W.alloc (.cells #[.string (bs name), .string (bs []), .string (bs s)] 89)) fun e w' =>
                  ∃ A' n' cap', e = .returned (.slice A' n' cap') ∧ w'.ownsRow (W.alloc (.cells #[.string (bs name), .string (bs []), .string (bs s)] 89)).heap.size 89 3 (.slice A' n' cap') n' ((putF (name, [], s) fs).flatMap fileC) ∧ Gr (W.alloc (.cells #[.string (bs name), .string (bs []), .string (bs s)] 89)) w') := sec
                  (fun W g => put_any fs name ([]) (s) A1 n cap1 _ hn (FRow.gr (Row.own HD4.out.own) (g.alloc _)))
                go_wp2_with (first | (go_at_call 93; refine (HN.out _).mono ?_; rintro e w5 ⟨rfl, g5⟩; have c05 : w5.cell? ⟨p, 0, none⟩ = some (.slice A n cap) := (HB.out.gr (HG4.out.trans g5)).cell 0; have c15 : w5.cell? ⟨p, 1, none⟩ = some (.int .i64 f) := (HB.out.gr (HG4.out.trans g5)).cell 1; have d205 : w5.cell? ⟨p + 1, 0, none⟩ = some (.slice none 0 0) := (HR2.out.gr (HG4.out.trans g5)).cell 0; have d215 : w5.cell? ⟨p + 1, 1, none⟩ = some (.int .i64 0) := (HR2.out.gr (HG4.out.trans g5)).cell 1; have f205 : w5.frozen? ⟨p + 1, 0, none⟩ = false := (HR2.out.gr (HG4.out.trans g5)).frozen 0; have f215 : w5.frozen? ⟨p + 1, 1, none⟩ = false := (HR2.out.gr (HG4.out.trans g5)).frozen 1; have c05w : (w5.alloc (.cells #[.string (bs name), .string (bs []), .string (bs [])] 89)).cell? ⟨p, 0, none⟩ = some (.slice A n cap) := (HB.out.gr (HG4.out.trans (g5.alloc _))).cell 0; have c15w : (w5.alloc (.cells #[.string (bs name), .string (bs []), .string (bs [])] 89)).cell? ⟨p, 1, none⟩ = some (.int .i64 f) := (HB.out.gr (HG4.out.trans (g5.alloc _))).cell 1; have q05w : (w5.alloc (.cells #[.string (bs name), .string (bs []), .string (bs [])] 89)).cell? ⟨q, 0, none⟩ = some (.slice A1 n cap1) := ((HD4.out.blk.gr g5).alloc _).cell 0; have d205w : (w5.alloc (.cells #[.string (bs name), .string (bs []), .string (bs [])] 89)).cell? ⟨p + 1, 0, none⟩ = some (.slice none 0 0) := (HR2.out.gr (HG4.out.trans (g5.alloc _))).cell 0; have d215w : (w5.alloc (.cells #[.string (bs name), .string (bs []), .string (bs [])] 89)).cell? ⟨p + 1, 1, none⟩ = some (.int .i64 0) := (HR2.out.gr (HG4.out.trans (g5.alloc _))).cell 1; have f205w : (w5.alloc (.cells #[.string (bs name), .string (bs []), .string (bs [])] 89)).frozen? ⟨p + 1, 0, none⟩ = false := (HR2.out.gr (HG4.out.trans (g5.alloc _))).frozen 0; have f215w : (w5.alloc (.cells #[.string (bs name), .string (bs []), .string (bs [])] 89)).frozen? ⟨p + 1, 1, none⟩ = false := (HR2.out.gr (HG4.out.trans (g5.alloc _))).frozen 1; have c05v : (w5.alloc (.cells #[.string (bs name), .string (bs []), .string (bs s)] 89)).cell? ⟨p, 0, none⟩ = some (.slice A n cap) := (HB.out.gr (HG4.out.trans (g5.alloc _))).cell 0; have c15v : (w5.alloc (.cells #[.string (bs name), .string (bs []), .string (bs s)] 89)).cell? ⟨p, 1, none⟩ = some (.int .i64 f) := (HB.out.gr (HG4.out.trans (g5.alloc _))).cell 1; have q05v : (w5.alloc (.cells #[.string (bs name), .string (bs []), .string (bs s)] 89)).cell? ⟨q, 0, none⟩ = some (.slice A1 n cap1) := ((HD4.out.blk.gr g5).alloc _).cell 0; have d205v : (w5.alloc (.cells #[.string (bs name), .string (bs []), .string (bs s)] 89)).cell? ⟨p + 1, 0, none⟩ = some (.slice none 0 0) := (HR2.out.gr (HG4.out.trans (g5.alloc _))).cell 0; have d215v : (w5.alloc (.cells #[.string (bs name), .string (bs []), .string (bs s)] 89)).cell? ⟨p + 1, 1, none⟩ = some (.int .i64 0) := (HR2.out.gr (HG4.out.trans (g5.alloc _))).cell 1; have f205v : (w5.alloc (.cells #[.string (bs name), .string (bs []), .string (bs s)] 89)).frozen? ⟨p + 1, 0, none⟩ = false := (HR2.out.gr (HG4.out.trans (g5.alloc _))).frozen 0; have f215v : (w5.alloc (.cells #[.string (bs name), .string (bs []), .string (bs s)] 89)).frozen? ⟨p + 1, 1, none⟩ = false := (HR2.out.gr (HG4.out.trans (g5.alloc _))).frozen 1; have HPU := sec (HPU0.out w5 g5)) | (go_at_call 120; refine HPU.out.mono ?_; rintro e w6 ⟨A6, n6, k6, rfl, hown6, g6'⟩; have g6 : Gr w4 w6 := (g5.alloc _).trans g6'; have hbq := HD4.out.blk.gr g6; have hbp := HR2.out.gr (HG4.out.trans g6); have q06 : w6.cell? ⟨q, 0, none⟩ = some (.slice A1 n cap1) := hbq.cell 0; have q16 : w6.cell? ⟨q, 1, none⟩ = some (.int .i64 u) := hbq.cell 1; have fq6 : w6.frozen? ⟨q, 0, none⟩ = false := hbq.frozen 0; have d206 : w6.cell? ⟨p + 1, 0, none⟩ = some (.slice none 0 0) := hbp.cell 0; have d216 : w6.cell? ⟨p + 1, 1, none⟩ = some (.int .i64 0) := hbp.cell 1; have f206 : w6.frozen? ⟨p + 1, 0, none⟩ = false := hbp.frozen 0; have f216 : w6.frozen? ⟨p + 1, 1, none⟩ = false := hbp.frozen 1))
                have hE := do_end (hg0.trans (HG4.out.trans g6)) (by omega) (by omega) hbp hbq hpq1 hown6 (Nat.le_trans (hg0.trans HG4.out).size (g5.alloc _).size) u (.slice A6 n6 k6)
                refine bodyPost_ret (results_blk_tmp rfl _ rfl hE.1 aggDisk) rfl ?_
                rw [HR.out]
                exact ⟨A6, _, k6, rfl, hE.2.1, hE.2.2.2, .inr hE.2.2.1⟩
              · have HR := sec (HERR.out 1 (by unfold wrF; rw [HNB.out, if_pos rfl, if_neg hnf, hgd, if_neg (by simpa using hlong)]) (by decide))
                have hl5 : (1048576 : Int) < (s.length : Int) := by omega
                clear hhf hai hpre hgd hnf hfull
                go_wp2_with (go_at_call 93; refine (HN.out _).mono ?_; rintro e w5 ⟨rfl, g5⟩; have c05 : w5.cell? ⟨p, 0, none⟩ = some (.slice A n cap) := (HB.out.gr (HG4.out.trans g5)).cell 0; have c15 : w5.cell? ⟨p, 1, none⟩ = some (.int .i64 f) := (HB.out.gr (HG4.out.trans g5)).cell 1; have d205 : w5.cell? ⟨p + 1, 0, none⟩ = some (.slice none 0 0) := (HR2.out.gr (HG4.out.trans g5)).cell 0; have d215 : w5.cell? ⟨p + 1, 1, none⟩ = some (.int .i64 0) := (HR2.out.gr (HG4.out.trans g5)).cell 1; have f205 : w5.frozen? ⟨p + 1, 0, none⟩ = false := (HR2.out.gr (HG4.out.trans g5)).frozen 0; have f215 : w5.frozen? ⟨p + 1, 1, none⟩ = false := (HR2.out.gr (HG4.out.trans g5)).frozen 1; have c05w : (w5.alloc (.cells #[.string (bs name), .string (bs []), .string (bs [])] 89)).cell? ⟨p, 0, none⟩ = some (.slice A n cap) := (HB.out.gr (HG4.out.trans (g5.alloc _))).cell 0; have c15w : (w5.alloc (.cells #[.string (bs name), .string (bs []), .string (bs [])] 89)).cell? ⟨p, 1, none⟩ = some (.int .i64 f) := (HB.out.gr (HG4.out.trans (g5.alloc _))).cell 1; have q05w : (w5.alloc (.cells #[.string (bs name), .string (bs []), .string (bs [])] 89)).cell? ⟨q, 0, none⟩ = some (.slice A1 n cap1) := ((HD4.out.blk.gr g5).alloc _).cell 0; have d205w : (w5.alloc (.cells #[.string (bs name), .string (bs []), .string (bs [])] 89)).cell? ⟨p + 1, 0, none⟩ = some (.slice none 0 0) := (HR2.out.gr (HG4.out.trans (g5.alloc _))).cell 0; have d215w : (w5.alloc (.cells #[.string (bs name), .string (bs []), .string (bs [])] 89)).cell? ⟨p + 1, 1, none⟩ = some (.int .i64 0) := (HR2.out.gr (HG4.out.trans (g5.alloc _))).cell 1; have f205w : (w5.alloc (.cells #[.string (bs name), .string (bs []), .string (bs [])] 89)).frozen? ⟨p + 1, 0, none⟩ = false := (HR2.out.gr (HG4.out.trans (g5.alloc _))).frozen 0; have f215w : (w5.alloc (.cells #[.string (bs name), .string (bs []), .string (bs [])] 89)).frozen? ⟨p + 1, 1, none⟩ = false := (HR2.out.gr (HG4.out.trans (g5.alloc _))).frozen 1; have c05v : (w5.alloc (.cells #[.string (bs name), .string (bs []), .string (bs s)] 89)).cell? ⟨p, 0, none⟩ = some (.slice A n cap) := (HB.out.gr (HG4.out.trans (g5.alloc _))).cell 0; have c15v : (w5.alloc (.cells #[.string (bs name), .string (bs []), .string (bs s)] 89)).cell? ⟨p, 1, none⟩ = some (.int .i64 f) := (HB.out.gr (HG4.out.trans (g5.alloc _))).cell 1; have q05v : (w5.alloc (.cells #[.string (bs name), .string (bs []), .string (bs s)] 89)).cell? ⟨q, 0, none⟩ = some (.slice A1 n cap1) := ((HD4.out.blk.gr g5).alloc _).cell 0; have d205v : (w5.alloc (.cells #[.string (bs name), .string (bs []), .string (bs s)] 89)).cell? ⟨p + 1, 0, none⟩ = some (.slice none 0 0) := (HR2.out.gr (HG4.out.trans (g5.alloc _))).cell 0; have d215v : (w5.alloc (.cells #[.string (bs name), .string (bs []), .string (bs s)] 89)).cell? ⟨p + 1, 1, none⟩ = some (.int .i64 0) := (HR2.out.gr (HG4.out.trans (g5.alloc _))).cell 1; have f205v : (w5.alloc (.cells #[.string (bs name), .string (bs []), .string (bs s)] 89)).frozen? ⟨p + 1, 0, none⟩ = false := (HR2.out.gr (HG4.out.trans (g5.alloc _))).frozen 0; have f215v : (w5.alloc (.cells #[.string (bs name), .string (bs []), .string (bs s)] 89)).frozen? ⟨p + 1, 1, none⟩ = false := (HR2.out.gr (HG4.out.trans (g5.alloc _))).frozen 1)
                have hV5 := HV.out _ (HG4.out.trans (g5.alloc (.cells #[.string (bs name), .string (bs []), .string (bs s)] 89)))
                refine bodyPost_ret (results_blk_tmp rfl _ rfl (HW.out _ (HG4.out.trans (g5.alloc (.cells #[.string (bs name), .string (bs []), .string (bs s)] 89)))) aggDisk) rfl ?_
                rw [HR.out]
                exact ⟨A, n, cap, rfl, hV5, HA.out, .inl ⟨rfl, rfl, rfl, rfl⟩⟩
          | true =>
            have hlt := hasF_lt HSO.out hhf
            have hput : ∀ f : Fl, f.1 = name → putF f fs = fs.set (lbF name fs) f := fun f h => by rw [put_sorted f fs HSO.out, h, hhf, if_pos rfl]
            have hpre : wrPre name fs = fs := by unfold wrPre; rw [hhf]; rfl
            have hnf : ¬ (hasF name fs = false ∧ 400 ≤ fs.length) := fun h => by rw [hhf] at h; cases h.1
            obtain ⟨k, hk⟩ : ∃ k, k = lbF name fs := ⟨_, rfl⟩
            have hai : atI name fs = k := by unfold atI; rw [hhf, hk]; rfl
            rw [← hk] at hlt hput
            obtain ⟨hkf, hnm⟩ := hlt
            rw [hai]
            have hgd : (wrPre name fs).getD (lbF name fs) ([], [], []) = fs[k] := by
              rw [hpre, ← hk, List.getD_eq_getElem?_getD, List.getElem?_eq_getElem hkf]; rfl
            obtain ⟨b, off, rfl, e0, e1, e2⟩ := (HX.out.gr HG4.out).cell hkf
            have E0 : Sec (∀ W, Gr w4 W → W.cell? ⟨b, off + k * 3, none⟩ = some (.string (bs fs[k].1)) ∧ W.cell? ⟨b, off + k * 3 + 1, none⟩ = some (.string (bs fs[k].2.1)) ∧ W.cell? ⟨b, off + k * 3 + 2, none⟩ = some (.string (bs fs[k].2.2))) := sec (fun W g => ⟨(g.cells.1 b _ (World.block_lt_of_cell? w4 _ e0)).trans e0, (g.cells.1 b _ (World.block_lt_of_cell? w4 _ e0)).trans e1, (g.cells.1 b _ (World.block_lt_of_cell? w4 _ e0)).trans e2⟩)
            have hsz := goodFs_ok HGF.out fs[k] (List.getElem_mem hkf)
            obtain ⟨x, hxx⟩ : ∃ x, x = fs[k] := ⟨_, rfl⟩
            rw [← hxx] at E0 hsz hgd hnm
            obtain ⟨nm, sf, tl⟩ := x
            simp only at E0 hsz hnm
            subst hnm
            obtain ⟨_, hz1, hz2⟩ := hsz
            have hkn1 : (k : Int) < (n : Int) := by omega
            by_cases hlong : sf.length + tl.length + s.length ≤ 1048576
            · have HR := sec (HOK.out (putF (nm, sf, tl ++ s) fs) (by
                unfold wrF; rw [HNB.out, if_pos rfl, if_neg hnf, hgd, if_pos hlong, hpre, ← hk, hput _ rfl]))
              have hl5 : ¬ (1048576 : Int) < (sf.length : Int) + ((tl.length : Int) + (s.length : Int)) := by omega
              clear hai hk hhf hput hxx hkf hgd hpre hnf e0 e1 e2
              have HPU0 : Sec (∀ W, Gr w4 W → Calls Tryd.prog 120 #[.slice A1 n cap1, .agg #[.string (bs nm), .string (bs sf), .string (bs (tl ++ s))]] (W.alloc (.cells #[.string (bs nm), .string (bs sf), .string (bs (tl ++ s))] 89)) fun e w' =>
                ∃ A' n' cap', e = .returned (.slice A' n' cap') ∧ w'.ownsRow (W.alloc (.cells #[.string (bs nm), .string (bs sf), .string (bs (tl ++ s))] 89)).heap.size 89 3 (.slice A' n' cap') n' ((putF (nm, sf, (tl ++ s)) fs).flatMap fileC) ∧ Gr (W.alloc (.cells #[.string (bs nm), .string (bs sf), .string (bs (tl ++ s))] 89)) w') := sec
                (fun W g => put_any fs nm (sf) ((tl ++ s)) A1 n cap1 _ hn (FRow.gr (Row.own HD4.out.own) (g.alloc _)))
              go_wp2_with (first | (go_at_call 93; refine (HN.out _).mono ?_; rintro e w5 ⟨rfl, g5⟩; have c05 : w5.cell? ⟨p, 0, none⟩ = some (.slice (some ⟨b, off, none⟩) n cap) := (HB.out.gr (HG4.out.trans g5)).cell 0; have c15 : w5.cell? ⟨p, 1, none⟩ = some (.int .i64 f) := (HB.out.gr (HG4.out.trans g5)).cell 1; have d205 : w5.cell? ⟨p + 1, 0, none⟩ = some (.slice none 0 0) := (HR2.out.gr (HG4.out.trans g5)).cell 0; have d215 : w5.cell? ⟨p + 1, 1, none⟩ = some (.int .i64 0) := (HR2.out.gr (HG4.out.trans g5)).cell 1; have f205 : w5.frozen? ⟨p + 1, 0, none⟩ = false := (HR2.out.gr (HG4.out.trans g5)).frozen 0; have f215 : w5.frozen? ⟨p + 1, 1, none⟩ = false := (HR2.out.gr (HG4.out.trans g5)).frozen 1; have c05w : (w5.alloc (.cells #[.string (bs nm), .string (bs []), .string (bs [])] 89)).cell? ⟨p, 0, none⟩ = some (.slice (some ⟨b, off, none⟩) n cap) := (HB.out.gr (HG4.out.trans (g5.alloc _))).cell 0; have c15w : (w5.alloc (.cells #[.string (bs nm), .string (bs []), .string (bs [])] 89)).cell? ⟨p, 1, none⟩ = some (.int .i64 f) := (HB.out.gr (HG4.out.trans (g5.alloc _))).cell 1; have q05w : (w5.alloc (.cells #[.string (bs nm), .string (bs []), .string (bs [])] 89)).cell? ⟨q, 0, none⟩ = some (.slice A1 n cap1) := ((HD4.out.blk.gr g5).alloc _).cell 0; have d205w : (w5.alloc (.cells #[.string (bs nm), .string (bs []), .string (bs [])] 89)).cell? ⟨p + 1, 0, none⟩ = some (.slice none 0 0) := (HR2.out.gr (HG4.out.trans (g5.alloc _))).cell 0; have d215w : (w5.alloc (.cells #[.string (bs nm), .string (bs []), .string (bs [])] 89)).cell? ⟨p + 1, 1, none⟩ = some (.int .i64 0) := (HR2.out.gr (HG4.out.trans (g5.alloc _))).cell 1; have f205w : (w5.alloc (.cells #[.string (bs nm), .string (bs []), .string (bs [])] 89)).frozen? ⟨p + 1, 0, none⟩ = false := (HR2.out.gr (HG4.out.trans (g5.alloc _))).frozen 0; have f215w : (w5.alloc (.cells #[.string (bs nm), .string (bs []), .string (bs [])] 89)).frozen? ⟨p + 1, 1, none⟩ = false := (HR2.out.gr (HG4.out.trans (g5.alloc _))).frozen 1; have c05v : (w5.alloc (.cells #[.string (bs nm), .string (bs sf), .string (bs (tl ++ s))] 89)).cell? ⟨p, 0, none⟩ = some (.slice (some ⟨b, off, none⟩) n cap) := (HB.out.gr (HG4.out.trans (g5.alloc _))).cell 0; have c15v : (w5.alloc (.cells #[.string (bs nm), .string (bs sf), .string (bs (tl ++ s))] 89)).cell? ⟨p, 1, none⟩ = some (.int .i64 f) := (HB.out.gr (HG4.out.trans (g5.alloc _))).cell 1; have q05v : (w5.alloc (.cells #[.string (bs nm), .string (bs sf), .string (bs (tl ++ s))] 89)).cell? ⟨q, 0, none⟩ = some (.slice A1 n cap1) := ((HD4.out.blk.gr g5).alloc _).cell 0; have d205v : (w5.alloc (.cells #[.string (bs nm), .string (bs sf), .string (bs (tl ++ s))] 89)).cell? ⟨p + 1, 0, none⟩ = some (.slice none 0 0) := (HR2.out.gr (HG4.out.trans (g5.alloc _))).cell 0; have d215v : (w5.alloc (.cells #[.string (bs nm), .string (bs sf), .string (bs (tl ++ s))] 89)).cell? ⟨p + 1, 1, none⟩ = some (.int .i64 0) := (HR2.out.gr (HG4.out.trans (g5.alloc _))).cell 1; have f205v : (w5.alloc (.cells #[.string (bs nm), .string (bs sf), .string (bs (tl ++ s))] 89)).frozen? ⟨p + 1, 0, none⟩ = false := (HR2.out.gr (HG4.out.trans (g5.alloc _))).frozen 0; have f215v : (w5.alloc (.cells #[.string (bs nm), .string (bs sf), .string (bs (tl ++ s))] 89)).frozen? ⟨p + 1, 1, none⟩ = false := (HR2.out.gr (HG4.out.trans (g5.alloc _))).frozen 1; have e0w := (E0.out _ (g5.alloc (.cells #[.string (bs nm), .string (bs []), .string (bs [])] 89))).1; have e1w := (E0.out _ (g5.alloc (.cells #[.string (bs nm), .string (bs []), .string (bs [])] 89))).2.1; have e2w := (E0.out _ (g5.alloc (.cells #[.string (bs nm), .string (bs []), .string (bs [])] 89))).2.2; have HPU := sec (HPU0.out w5 g5)) | (go_at_call 120; refine HPU.out.mono ?_; rintro e w6 ⟨A6, n6, k6, rfl, hown6, g6'⟩; have g6 : Gr w4 w6 := (g5.alloc _).trans g6'; have hbq := HD4.out.blk.gr g6; have hbp := HR2.out.gr (HG4.out.trans g6); have q06 : w6.cell? ⟨q, 0, none⟩ = some (.slice A1 n cap1) := hbq.cell 0; have q16 : w6.cell? ⟨q, 1, none⟩ = some (.int .i64 u) := hbq.cell 1; have fq6 : w6.frozen? ⟨q, 0, none⟩ = false := hbq.frozen 0; have d206 : w6.cell? ⟨p + 1, 0, none⟩ = some (.slice none 0 0) := hbp.cell 0; have d216 : w6.cell? ⟨p + 1, 1, none⟩ = some (.int .i64 0) := hbp.cell 1; have f206 : w6.frozen? ⟨p + 1, 0, none⟩ = false := hbp.frozen 0; have f216 : w6.frozen? ⟨p + 1, 1, none⟩ = false := hbp.frozen 1))
              have hE := do_end (hg0.trans (HG4.out.trans g6)) (by omega) (by omega) hbp hbq hpq1 hown6 (Nat.le_trans (hg0.trans HG4.out).size (g5.alloc _).size) u (.slice A6 n6 k6)
              refine bodyPost_ret (results_blk_tmp rfl _ rfl hE.1 aggDisk) rfl ?_
              rw [HR.out]
              exact ⟨A6, _, k6, rfl, hE.2.1, hE.2.2.2, .inr hE.2.2.1⟩
            · have HR := sec (HERR.out 1 (by unfold wrF; rw [HNB.out, if_pos rfl, if_neg hnf, hgd, if_neg hlong]) (by decide))
              have hl5 : (1048576 : Int) < (sf.length : Int) + ((tl.length : Int) + (s.length : Int)) := by omega
              clear hai hk hhf hput hxx hkf hgd hpre hnf e0 e1 e2
              go_wp2_with (go_at_call 93; refine (HN.out _).mono ?_; rintro e w5 ⟨rfl, g5⟩; have c05 : w5.cell? ⟨p, 0, none⟩ = some (.slice (some ⟨b, off, none⟩) n cap) := (HB.out.gr (HG4.out.trans g5)).cell 0; have c15 : w5.cell? ⟨p, 1, none⟩ = some (.int .i64 f) := (HB.out.gr (HG4.out.trans g5)).cell 1; have d205 : w5.cell? ⟨p + 1, 0, none⟩ = some (.slice none 0 0) := (HR2.out.gr (HG4.out.trans g5)).cell 0; have d215 : w5.cell? ⟨p + 1, 1, none⟩ = some (.int .i64 0) := (HR2.out.gr (HG4.out.trans g5)).cell 1; have f205 : w5.frozen? ⟨p + 1, 0, none⟩ = false := (HR2.out.gr (HG4.out.trans g5)).frozen 0; have f215 : w5.frozen? ⟨p + 1, 1, none⟩ = false := (HR2.out.gr (HG4.out.trans g5)).frozen 1; have c05w : (w5.alloc (.cells #[.string (bs nm), .string (bs []), .string (bs [])] 89)).cell? ⟨p, 0, none⟩ = some (.slice (some ⟨b, off, none⟩) n cap) := (HB.out.gr (HG4.out.trans (g5.alloc _))).cell 0; have c15w : (w5.alloc (.cells #[.string (bs nm), .string (bs []), .string (bs [])] 89)).cell? ⟨p, 1, none⟩ = some (.int .i64 f) := (HB.out.gr (HG4.out.trans (g5.alloc _))).cell 1; have q05w : (w5.alloc (.cells #[.string (bs nm), .string (bs []), .string (bs [])] 89)).cell? ⟨q, 0, none⟩ = some (.slice A1 n cap1) := ((HD4.out.blk.gr g5).alloc _).cell 0; have d205w : (w5.alloc (.cells #[.string (bs nm), .string (bs []), .string (bs [])] 89)).cell? ⟨p + 1, 0, none⟩ = some (.slice none 0 0) := (HR2.out.gr (HG4.out.trans (g5.alloc _))).cell 0; have d215w : (w5.alloc (.cells #[.string (bs nm), .string (bs []), .string (bs [])] 89)).cell? ⟨p + 1, 1, none⟩ = some (.int .i64 0) := (HR2.out.gr (HG4.out.trans (g5.alloc _))).cell 1; have f205w : (w5.alloc (.cells #[.string (bs nm), .string (bs []), .string (bs [])] 89)).frozen? ⟨p + 1, 0, none⟩ = false := (HR2.out.gr (HG4.out.trans (g5.alloc _))).frozen 0; have f215w : (w5.alloc (.cells #[.string (bs nm), .string (bs []), .string (bs [])] 89)).frozen? ⟨p + 1, 1, none⟩ = false := (HR2.out.gr (HG4.out.trans (g5.alloc _))).frozen 1; have c05v : (w5.alloc (.cells #[.string (bs nm), .string (bs sf), .string (bs (tl ++ s))] 89)).cell? ⟨p, 0, none⟩ = some (.slice (some ⟨b, off, none⟩) n cap) := (HB.out.gr (HG4.out.trans (g5.alloc _))).cell 0; have c15v : (w5.alloc (.cells #[.string (bs nm), .string (bs sf), .string (bs (tl ++ s))] 89)).cell? ⟨p, 1, none⟩ = some (.int .i64 f) := (HB.out.gr (HG4.out.trans (g5.alloc _))).cell 1; have q05v : (w5.alloc (.cells #[.string (bs nm), .string (bs sf), .string (bs (tl ++ s))] 89)).cell? ⟨q, 0, none⟩ = some (.slice A1 n cap1) := ((HD4.out.blk.gr g5).alloc _).cell 0; have d205v : (w5.alloc (.cells #[.string (bs nm), .string (bs sf), .string (bs (tl ++ s))] 89)).cell? ⟨p + 1, 0, none⟩ = some (.slice none 0 0) := (HR2.out.gr (HG4.out.trans (g5.alloc _))).cell 0; have d215v : (w5.alloc (.cells #[.string (bs nm), .string (bs sf), .string (bs (tl ++ s))] 89)).cell? ⟨p + 1, 1, none⟩ = some (.int .i64 0) := (HR2.out.gr (HG4.out.trans (g5.alloc _))).cell 1; have f205v : (w5.alloc (.cells #[.string (bs nm), .string (bs sf), .string (bs (tl ++ s))] 89)).frozen? ⟨p + 1, 0, none⟩ = false := (HR2.out.gr (HG4.out.trans (g5.alloc _))).frozen 0; have f215v : (w5.alloc (.cells #[.string (bs nm), .string (bs sf), .string (bs (tl ++ s))] 89)).frozen? ⟨p + 1, 1, none⟩ = false := (HR2.out.gr (HG4.out.trans (g5.alloc _))).frozen 1; have e0w := (E0.out _ (g5.alloc (.cells #[.string (bs nm), .string (bs []), .string (bs [])] 89))).1; have e1w := (E0.out _ (g5.alloc (.cells #[.string (bs nm), .string (bs []), .string (bs [])] 89))).2.1; have e2w := (E0.out _ (g5.alloc (.cells #[.string (bs nm), .string (bs []), .string (bs [])] 89))).2.2)
              have hV5 := HV.out _ (HG4.out.trans (g5.alloc (.cells #[.string (bs nm), .string (bs sf), .string (bs (tl ++ s))] 89)))
              refine bodyPost_ret (results_blk_tmp rfl _ rfl (HW.out _ (HG4.out.trans (g5.alloc (.cells #[.string (bs nm), .string (bs sf), .string (bs (tl ++ s))] 89)))) aggDisk) rfl ?_
              rw [HR.out]
              exact ⟨some ⟨b, off, none⟩, n, cap, rfl, hV5, HA.out, .inl ⟨rfl, rfl, rfl, rfl⟩⟩
end Go.Proofs.YtmgpllakpgjicaaDoor

namespace Go.Proofs.YtmgpllakpgjicaaDoor
open Go.RowKit
set_option linter.unusedVariables false
set_option maxRecDepth 100000 in
set_option maxHeartbeats 4000000 in
theorem do1_any (name s : List UInt8) (fs : List Fl) (A : Option Addr) (n cap : Nat) (f : Int) (w : World) (hn : n ≤ 1099511627776) (hnc : n ≤ cap) (hx : FRow w A n fs) (hA : A = none → n = 0 ∧ cap = 0) (hs : ∀ f ∈ fs, f.1.length ≤ 1099511627776 ∧ f.2.1.length ≤ 1099511627776 ∧ f.2.2.length ≤ 1099511627776)
    (hf : -9223372036854775808 ≤ f ∧ f ≤ 9223372036854775807) (hl1 : name.length ≤ 1099511627776) (hl2 : s.length ≤ 1099511627776) :
    Calls Tryd.prog 95 #[.int .i64 1, diskV A n cap f, .string (bs name), .string (bs s)] w (StepPost (stepR (syF name) fs f) A n cap fs w) := by
  have hg0 := ((Gr.refl w).alloc (.cells #[.slice A n cap, .int .i64 f] 43)).alloc (.cells #[.slice none 0 0, .int .i64 0] 43)
  have hb1 := (Blk.new w 43 #[.slice A n cap, .int .i64 f]).alloc (.cells #[.slice none 0 0, .int .i64 0] 43)
  have hb2 := Blk.new1 w (.cells #[.slice A n cap, .int .i64 f] 43) 43 #[.slice none 0 0, .int .i64 0]
  have HG := sec (drgood_any fs A n cap f _ hn (hx.gr hg0) hs)
  have hl := hx.len
  have HX := sec (hx.gr hg0)
  obtain ⟨wa, hwa⟩ : ∃ x, x = (w.alloc (.cells #[.slice A n cap, .int .i64 f] 43)).alloc (.cells #[.slice none 0 0, .int .i64 0] 43) := ⟨_, rfl⟩
  rw [← hwa] at hg0 hb1 hb2 HG HX
  obtain ⟨p, hp⟩ : ∃ p, p = w.heap.size := ⟨_, rfl⟩
  have hwp : w.heap.size ≤ p := by omega
  rw [← hp] at hb1 hb2
  have c0 : wa.cell? ⟨p, 0, none⟩ = some (.slice A n cap) := hb1.cell 0
  have c1 : wa.cell? ⟨p, 1, none⟩ = some (.int .i64 f) := hb1.cell 1
  have HB := sec hb1
  have HR2 := sec hb2
  have HX0 := sec hx
  have HA := sec hA
  clear hb1 hb2 hs hx
  unfold diskV at HG
  unfold diskV
  have HW : Sec (∀ w1, Gr wa w1 → Blk ((w1.setCell ⟨p + 1, 0, none⟩ (.slice A n cap)).setCell ⟨p + 1, 1, none⟩ (.int .i64 f)) (p + 1) 43 #[.slice A n cap, .int .i64 f]) := sec fun w1 g1 => ((HR2.out.gr g1).set_ 0 (.slice A n cap)).set_ 1 (.int .i64 f)
  have HV : Sec (∀ w1, Gr wa w1 → Gr w ((w1.setCell ⟨p + 1, 0, none⟩ (.slice A n cap)).setCell ⟨p + 1, 1, none⟩ (.int .i64 f))) := sec fun w1 g1 => ((hg0.trans g1).setCell (p := ⟨p + 1, 0, none⟩) (by show w.heap.size ≤ p + 1; omega) _).setCell (p := ⟨p + 1, 1, none⟩) (by show w.heap.size ≤ p + 1; omega) _
  cases hgf : goodFs fs with
  | false =>
    have HR : Sec (stepR (syF name) fs f = (fs, f, 3)) := sec (by unfold stepR; rw [hgf]; rfl)
    rw [HR.out]
    rw [hgf] at HG
    clear hgf
    go_enter Tryd.func95, Tryd.ntmps95
    go_wp2_with (first | (rw [← hwa, ← hp]; clear hwa hp; go_wp2_with fail) | (go_at_call 92; refine Calls.mono HG.out ?_; rintro e w1 ⟨rfl, g1⟩; have c0y : w1.cell? ⟨p, 0, none⟩ = some (.slice A n cap) := (HB.out.gr g1).cell 0; have c1y : w1.cell? ⟨p, 1, none⟩ = some (.int .i64 f) := (HB.out.gr g1).cell 1; have d20 : w1.cell? ⟨p + 1, 0, none⟩ = some (.slice none 0 0) := (HR2.out.gr g1).cell 0; have d21 : w1.cell? ⟨p + 1, 1, none⟩ = some (.int .i64 0) := (HR2.out.gr g1).cell 1; have f20 : w1.frozen? ⟨p + 1, 0, none⟩ = false := (HR2.out.gr g1).frozen 0; have f21 : w1.frozen? ⟨p + 1, 1, none⟩ = false := (HR2.out.gr g1).frozen 1))
    refine bodyPost_ret (results_blk_tmp rfl _ rfl (HW.out w1 g1) aggDisk) rfl ?_
    exact ⟨A, n, cap, rfl, HV.out w1 g1, HA.out, .inl ⟨rfl, rfl, rfl, rfl⟩⟩
  | true =>
    rw [hgf] at HG
    by_cases hf0 : f = 0
    · have HR : Sec (stepR (syF name) fs f = (fs, f, 12)) := sec (by unfold stepR; rw [hgf, hf0]; rfl)
      rw [HR.out]
      clear hgf
      subst hf0
      go_enter Tryd.func95, Tryd.ntmps95
      go_wp2_with (first | (rw [← hwa, ← hp]; clear hwa hp; go_wp2_with fail) | (go_at_call 92; refine Calls.mono HG.out ?_; rintro e w1 ⟨rfl, g1⟩; have c0y : w1.cell? ⟨p, 0, none⟩ = some (.slice A n cap) := (HB.out.gr g1).cell 0; have c1y : w1.cell? ⟨p, 1, none⟩ = some (.int .i64 0) := (HB.out.gr g1).cell 1; have d20 : w1.cell? ⟨p + 1, 0, none⟩ = some (.slice none 0 0) := (HR2.out.gr g1).cell 0; have d21 : w1.cell? ⟨p + 1, 1, none⟩ = some (.int .i64 0) := (HR2.out.gr g1).cell 1; have f20 : w1.frozen? ⟨p + 1, 0, none⟩ = false := (HR2.out.gr g1).frozen 0; have f21 : w1.frozen? ⟨p + 1, 1, none⟩ = false := (HR2.out.gr g1).frozen 1))
      refine bodyPost_ret (results_blk_tmp rfl _ rfl (HW.out w1 g1) aggDisk) rfl ?_
      exact ⟨A, n, cap, rfl, HV.out w1 g1, HA.out, .inl ⟨rfl, rfl, rfl, rfl⟩⟩
    · have HGF := sec hgf
      have HF0 := sec hf0
      have HSO := sec (goodFs_sorted hgf)
      have hl400 : n ≤ 400 := by have := goodFs_len hgf; omega
      clear hgf
      obtain ⟨u, hu⟩ : ∃ u, u = (if 0 < f then f - 1 else f) := ⟨_, rfl⟩
      have HU := sec hu
      clear hu
      have HERR : Sec (∀ E, (syF name fs).2 = E → E ≠ 0 → stepR (syF name) fs f = (fs, f, E)) := sec (fun E h h0 => by unfold stepR; rw [HGF.out, if_pos rfl, if_neg HF0.out, if_neg (by rw [h]; exact h0), h])
      have HOK : Sec (∀ R, (syF name fs) = (R, 0) → stepR (syF name) fs f = (R, u, 0)) := sec (fun R h => by unfold stepR; rw [HGF.out, if_pos rfl, if_neg HF0.out, if_pos (by rw [h]), h, HU.out])
      go_enter Tryd.func95, Tryd.ntmps95
      go_upto_if 27 with (first | (rw [← hwa, ← hp]; clear hwa hp; go_wp2_with fail) | (go_at_call 92; refine Calls.mono HG.out ?_; rintro e w1 ⟨rfl, g1⟩; have c0y : w1.cell? ⟨p, 0, none⟩ = some (.slice A n cap) := (HB.out.gr g1).cell 0; have c1y : w1.cell? ⟨p, 1, none⟩ = some (.int .i64 f) := (HB.out.gr g1).cell 1) | (go_at_call 22; refine Calls.mono (copyDisk_any fs A n cap f w1 hn (HX.out.gr g1) HA.out) ?_; unfold diskV; rintro e w2 ⟨A1, cap1, rfl, ho, hA1, g2⟩))
      have hqb := Blk.new w2 43 #[.slice A1 n cap1, .int .i64 f]
      have hoq := own_gr ho ((Gr.refl w2).alloc (.cells #[.slice A1 n cap1, .int .i64 f] 43))
      have gq := g2.alloc (.cells #[.slice A1 n cap1, .int .i64 f] 43)
      obtain ⟨wq, hwq⟩ : ∃ x, x = w2.alloc (.cells #[.slice A1 n cap1, .int .i64 f] 43) := ⟨_, rfl⟩
      obtain ⟨q, hq⟩ : ∃ q, q = w2.heap.size := ⟨_, rfl⟩
      have hq1 : w1.heap.size ≤ q := by have := g2.size; omega
      rw [← hwq] at hqb hoq gq
      rw [← hq] at hqb
      rw [← hwq, ← hq]
      have HDQ : Sec (DOwn wq w1.heap.size q A1 n cap1 f fs) := sec ⟨hqb, hoq, hq1⟩
      have HG1 := sec g1
      have hpq : p + 1 < w1.heap.size := (HR2.out.gr g1).lt
      clear hwq hq hqb hoq ho g2 hA1
      have dq0 : wq.cell? ⟨q, 0, none⟩ = some (.slice A1 n cap1) := HDQ.out.blk.cell 0
      have dq1 : wq.cell? ⟨q, 1, none⟩ = some (.int .i64 f) := HDQ.out.blk.cell 1
      have fq1 : wq.frozen? ⟨q, 1, none⟩ = false := HDQ.out.blk.frozen 1
      go_cut [] from 28 to 144 (fun wx => Sec (DOwn wx w1.heap.size q A1 n cap1 u fs) ∧ Gr w1 wx)
      case first =>
        by_cases hpos : 0 < f
        · have hwr : IntKind.i64.wrap (f - 1) = f - 1 := IntWalk.i64_in _ (by omega)
          have hu : u = f - 1 := by rw [HU.out, if_pos hpos]
          go_wp2_with fail
          go_meet
          rw [hu]
          exact ⟨sec ⟨HDQ.out.blk.set_ 1 _, ownsRow_setCell_other HDQ.out.own (a := ⟨q, 1, none⟩) HDQ.out.ne _, HDQ.out.base⟩, gq.setCell (p := ⟨q, 1, none⟩) hq1 _⟩
        · have hu : u = f := by rw [HU.out, if_neg hpos]
          go_wp2_with fail
          go_meet
          rw [hu]
          exact ⟨HDQ, gq⟩
      case rest =>
        obtain ⟨HDC, gc⟩ := hcut
        clear dq0 dq1 fq1 c0y c1y HDQ gq g1
        have c0y : wc.cell? ⟨p, 0, none⟩ = some (.slice A n cap) := (HB.out.gr (HG1.out.trans gc)).cell 0
        have c1y : wc.cell? ⟨p, 1, none⟩ = some (.int .i64 f) := (HB.out.gr (HG1.out.trans gc)).cell 1
        go_upto_region 9 with (go_at_call 94; refine Calls.mono (at_any fs name A n cap f wc hn (HX.out.gr (HG1.out.trans gc)) HSO.out) ?_; rintro e w4 ⟨rfl, g4⟩)
        have gg4 : Gr w1 w4 := gc.trans g4
        have HD4 := sec (HDC.out.gr g4)
        have HG4 := sec (HG1.out.trans gg4)
        have HGG4 := sec gg4
        clear c0y c1y gc g4 HDC HG1
        have c04 : w4.cell? ⟨p, 0, none⟩ = some (.slice A n cap) := (HB.out.gr HG4.out).cell 0
        have c14 : w4.cell? ⟨p, 1, none⟩ = some (.int .i64 f) := (HB.out.gr HG4.out).cell 1
        have d20 : w4.cell? ⟨p + 1, 0, none⟩ = some (.slice none 0 0) := (HR2.out.gr HG4.out).cell 0
        have d21 : w4.cell? ⟨p + 1, 1, none⟩ = some (.int .i64 0) := (HR2.out.gr HG4.out).cell 1
        have f20 : w4.frozen? ⟨p + 1, 0, none⟩ = false := (HR2.out.gr HG4.out).frozen 0
        have f21 : w4.frozen? ⟨p + 1, 1, none⟩ = false := (HR2.out.gr HG4.out).frozen 1
        have q04 : w4.cell? ⟨q, 0, none⟩ = some (.slice A1 n cap1) := HD4.out.blk.cell 0
        have q14 : w4.cell? ⟨q, 1, none⟩ = some (.int .i64 u) := HD4.out.blk.cell 1
        have fq4 : w4.frozen? ⟨q, 0, none⟩ = false := HD4.out.blk.frozen 0
        cases hhf : hasF name fs with
        | false =>
          have hai : atI name fs = -1 := by unfold atI; rw [hhf]; rfl
          have HR := sec (HERR.out 7 (by unfold syF; rw [hhf]; rfl) (by decide))
          rw [hai]
          clear hhf
          go_wp2_with fail
          refine bodyPost_ret (results_blk_tmp rfl _ rfl (HW.out w4 HG4.out) aggDisk) rfl ?_
          rw [HR.out]
          exact ⟨A, n, cap, rfl, HV.out w4 HG4.out, HA.out, .inl ⟨rfl, rfl, rfl, rfl⟩⟩
        | true =>
          have hlt := hasF_lt HSO.out hhf
          have hput : ∀ f : Fl, f.1 = name → putF f fs = fs.set (lbF name fs) f := fun f h => by rw [put_sorted f fs HSO.out, h, hhf, if_pos rfl]
          obtain ⟨k, hk⟩ : ∃ k, k = lbF name fs := ⟨_, rfl⟩
          have hai : atI name fs = k := by unfold atI; rw [hhf, hk]; rfl
          rw [← hk] at hlt hput
          obtain ⟨hkf, hnm⟩ := hlt
          rw [hai]
          have hgd : fs.getD (lbF name fs) ([], [], []) = fs[k] := by
            rw [← hk, List.getD_eq_getElem?_getD, List.getElem?_eq_getElem hkf]; rfl
          obtain ⟨b, off, rfl, e0, e1, e2⟩ := (HX.out.gr HG4.out).cell hkf
          have hsz := goodFs_ok HGF.out fs[k] (List.getElem_mem hkf)
          obtain ⟨x, hxx⟩ : ∃ x, x = fs[k] := ⟨_, rfl⟩
          rw [← hxx] at e0 e1 e2 hsz hgd hnm
          obtain ⟨nm, sf, tl⟩ := x
          simp only at e0 e1 e2 hsz hnm
          subst hnm
          obtain ⟨_, hz1, hz2⟩ := hsz
          have HR := sec (HOK.out (putF (nm, sf ++ tl, []) fs) (by unfold syF; rw [hhf, if_pos rfl, hgd, ← hk, hput _ rfl]))
          have hkn1 : (k : Int) < (n : Int) := by omega
          clear hai hk hhf hput hxx hkf hgd
          have HPU : Sec (Calls Tryd.prog 120 #[.slice A1 n cap1, .agg #[.string (bs nm), .string (bs (sf ++ tl)), .string (bs [])]] (w4.alloc (.cells #[.string (bs nm), .string (bs sf), .string (bs tl)] 89)) fun e w' =>
            ∃ A' n' cap', e = .returned (.slice A' n' cap') ∧ w'.ownsRow (w4.alloc (.cells #[.string (bs nm), .string (bs sf), .string (bs tl)] 89)).heap.size 89 3 (.slice A' n' cap') n' ((putF (nm, sf ++ tl, []) fs).flatMap fileC) ∧ Gr (w4.alloc (.cells #[.string (bs nm), .string (bs sf), .string (bs tl)] 89)) w') := sec
            (put_any fs nm (sf ++ tl) [] A1 n cap1 _ hn (FRow.gr (Row.own HD4.out.own) ((Gr.refl w4).alloc _)))
          have q04w : (w4.alloc (.cells #[.string (bs nm), .string (bs sf), .string (bs tl)] 89)).cell? ⟨q, 0, none⟩ = some (.slice A1 n cap1) := (HD4.out.blk.alloc _).cell 0
          have hpq1 : p + 1 ≠ q := by omega
          go_wp2_with (go_at_call 120; refine HPU.out.mono ?_; rintro e w6 ⟨A6, n6, k6, rfl, hown6, g6'⟩; have g6 : Gr w4 w6 := ((Gr.refl w4).alloc _).trans g6'; have hbq := HD4.out.blk.gr g6; have hbp := HR2.out.gr (HG4.out.trans g6); have q06 : w6.cell? ⟨q, 0, none⟩ = some (.slice A1 n cap1) := hbq.cell 0; have q16 : w6.cell? ⟨q, 1, none⟩ = some (.int .i64 u) := hbq.cell 1; have fq6 : w6.frozen? ⟨q, 0, none⟩ = false := hbq.frozen 0; have d206 : w6.cell? ⟨p + 1, 0, none⟩ = some (.slice none 0 0) := hbp.cell 0; have d216 : w6.cell? ⟨p + 1, 1, none⟩ = some (.int .i64 0) := hbp.cell 1; have f206 : w6.frozen? ⟨p + 1, 0, none⟩ = false := hbp.frozen 0; have f216 : w6.frozen? ⟨p + 1, 1, none⟩ = false := hbp.frozen 1)
          have hE := do_end (hg0.trans (HG4.out.trans g6)) (by omega) (by omega) hbp hbq hpq1 hown6 (Nat.le_trans (hg0.trans HG4.out).size ((Gr.refl w4).alloc _).size) u (.slice A6 n6 k6)
          refine bodyPost_ret (results_blk_tmp rfl _ rfl hE.1 aggDisk) rfl ?_
          rw [HR.out]
          exact ⟨A6, _, k6, rfl, hE.2.1, hE.2.2.2, .inr hE.2.2.1⟩
end Go.Proofs.YtmgpllakpgjicaaDoor

namespace Go.Proofs.YtmgpllakpgjicaaDoor
set_option maxRecDepth 100000
open Go.RowKit Go.ChangeShapes Go.WideShapes
/-- a value of type t, k cells, reads as some a (R), of size sz a at most its bulk -/
structure Opens (w : World) (t : TypeId) (k : Nat) {α : Type} (R : List Value → α → Prop) (sz : α → Nat) : Prop where
  cells : Tryd.prog.cellsOf t = k
  open_ : ∀ {H : Type} (enc : TypeId × Value → H) (fuel : Nat) (cs : List Value) (x : DataW H × List MemPlace),
    DataW.trod enc Tryd.prog w 0 (fun _ => true) true fuel t cs = some x → cs.length = k ∧ ∃ a, R cs a ∧ sz a ≤ Rows.uptoBulk x.1

def intR (cs : List Value) (n : Int) : Prop := cs = [.int .i64 n] ∧ -9223372036854775808 ≤ n ∧ n ≤ 9223372036854775807
def strR (cs : List Value) (l : List UInt8) : Prop := cs = [.string (bs l)]
def boolR (cs : List Value) (b : Bool) : Prop := cs = [.bool b]
theorem opens_int {t : TypeId} (ht : Tryd.prog.underlying t = some (.int .i64)) (hc : Tryd.prog.cellsOf t = 1) (w : World) : Opens w t 1 intR (fun _ => 1) :=
  ⟨hc, fun enc fuel cs x h => by
    obtain ⟨n, rfl, rfl, hw⟩ := DataW.trod_int ht h
    exact ⟨rfl, n, ⟨rfl, by simpa [Lit.wf, IntKind.min, IntKind.max, IntKind.signed, IntKind.bits] using hw⟩, by simp [Rows.uptoBulk]⟩⟩
theorem opens_string {t : TypeId} (ht : Tryd.prog.underlying t = some .string) (hc : Tryd.prog.cellsOf t = 1) (w : World) : Opens w t 1 strR (fun l => l.length + 1) :=
  ⟨hc, fun enc fuel cs x h => by
    obtain ⟨s, rfl, rfl, _⟩ := DataW.trod_string ht h
    obtain ⟨l, rfl⟩ := bs_of s
    exact ⟨rfl, l, rfl, by simp [Rows.uptoBulk, bs_data]⟩⟩
theorem opens_bool {t : TypeId} (ht : Tryd.prog.underlying t = some .bool) (hc : Tryd.prog.cellsOf t = 1) (w : World) : Opens w t 1 boolR (fun _ => 1) :=
  ⟨hc, fun enc fuel cs x h => by
    obtain ⟨b, rfl, rfl⟩ := DataW.trod_bool ht h
    exact ⟨rfl, b, rfl, by simp [Rows.uptoBulk]⟩⟩

/-- the reading by other words -/
theorem Opens.map {w : World} {t : TypeId} {k : Nat} {α β : Type} {R : List Value → α → Prop} {sz : α → Nat} (h : Opens w t k R sz) {R' : List Value → β → Prop} {sz' : β → Nat} (f : α → β) (hR : ∀ cs a, R cs a → R' cs (f a)) (hs : ∀ a, sz' (f a) ≤ sz a) : Opens w t k R' sz' :=
  ⟨h.cells, fun enc fuel cs x hx => by
    obtain ⟨hl, a, ha, hb⟩ := h.open_ enc fuel cs x hx
    exact ⟨hl, f a, hR _ _ ha, Nat.le_trans (hs a) hb⟩⟩

/-! ### structs -/
structure OpensF (w : World) (fl : List Field) (off k : Nat) {β : Type} (R : List Value → β → Prop) (sz : β → Nat) : Prop where
  open_ : ∀ {H : Type} (enc : TypeId × Value → H) (n : Nat) (cs : List Value) (ys : List (DataW H × List MemPlace)), ys.length = fl.length →
    (∀ (i : Nat) (f : Field), fl[i]? = some f → DataW.trod enc Tryd.prog w 0 (fun _ => true) true n f.type ((cs.drop f.offset).take (Tryd.prog.cellsOf f.type)) = ys[i]?) →
    cs.length = off + k → ∃ b, R (cs.drop off) b ∧ sz b ≤ Rows.uptoBulkAll (ys.map (·.1))
def nilR (cs : List Value) (_ : Unit) : Prop := cs = []
def consR {α β : Type} (k : Nat) (R : List Value → α → Prop) (R' : List Value → β → Prop) (cs : List Value) (a : α × β) : Prop := ∃ c1 c2, cs = c1 ++ c2 ∧ c1.length = k ∧ R c1 a.1 ∧ R' c2 a.2
theorem opensF_nil (w : World) (off : Nat) : OpensF w [] off 0 nilR (fun _ => 0) :=
  ⟨fun enc n cs ys _ _ hl => ⟨(), List.drop_eq_nil_of_le (by omega), by simp⟩⟩
theorem opensF_cons {w : World} {f : Field} {fl : List Field} {off k k' : Nat} {α β : Type} {R : List Value → α → Prop} {sz : α → Nat} {R' : List Value → β → Prop} {sz' : β → Nat}
    (hf : f.offset = off) (h : Opens w f.type k R sz) (h' : OpensF w fl (off + k) k' R' sz') : OpensF w (f :: fl) off (k + k') (consR k R R') (fun a => sz a.1 + sz' a.2) :=
  ⟨fun enc n cs ys hy hat hl => by
    cases ys with
    | nil => simp at hy
    | cons y ys =>
      have h0 := hat 0 f rfl
      rw [hf, h.cells] at h0
      obtain ⟨hk, a, ha, hb⟩ := h.open_ enc n _ y h0
      obtain ⟨b, hb1, hb2⟩ := h'.open_ enc n cs ys (by simpa using hy) (fun i g hg => hat (i + 1) g (by simpa using hg)) (by omega)
      refine ⟨(a, b), ⟨(cs.drop off).take k, cs.drop (off + k), ?_, hk, ha, hb1⟩, ?_⟩
      · rw [← List.drop_drop]; exact (List.take_append_drop k _).symm
      · simp only [List.map_cons, Rows.uptoBulkAll]; omega⟩
theorem opens_struct {w : World} {t : TypeId} {fs : Array Field} {k : Nat} {β : Type} {R : List Value → β → Prop} {sz : β → Nat} (ht : Tryd.prog.underlying t = some (.struct fs)) (hc : Tryd.prog.cellsOf t = k) (h : OpensF w fs.toList 0 k R sz) : Opens w t k R (fun b => sz b + 1) :=
  ⟨hc, fun enc fuel cs x hx => by
    obtain ⟨xs, n, _, rfl, hl, hxl, hf⟩ := DataW.trod_struct ht hx
    obtain ⟨b, hb, hs⟩ := h.open_ enc n cs xs (by simpa using hxl) (fun i f hi => hf i f (by simpa using hi)) (by rw [hl, hc]; omega)
    exact ⟨hl.trans hc, b, by simpa using hb, by simp only [Rows.uptoBulk]; omega⟩⟩

/-! ### slices -/
def sliceR {α : Type} (w : World) (k : Nat) (R : List Value → α → Prop) (cs : List Value) (xs : List α) : Prop :=
  ∃ A c, cs = [.slice A xs.length c] ∧ xs.length ≤ c ∧ (c ≤ maxLen ∧ (A = none → c = 0)) ∧ (0 < xs.length → ∃ b off, A = some ⟨b, off, none⟩ ∧ ∀ i (h : i < xs.length), ∃ ci, R ci xs[i] ∧ ci.length = k ∧ ∀ j v, ci[j]? = some v → w.cell? ⟨b, off + i * k + j, none⟩ = some v)
def szs {α : Type} (sz : α → Nat) : List α → Nat
  | [] => 0
  | x :: r => sz x + szs sz r

theorem build_list {α : Type} (p : Nat → α → Prop) : ∀ n, (∀ i, i < n → ∃ a, p i a) → ∃ xs : List α, xs.length = n ∧ ∀ i (h : i < xs.length), p i xs[i]
  | 0, _ => ⟨[], rfl, fun i h => absurd h (by simp)⟩
  | n + 1, h => by
    obtain ⟨xs, hl, hx⟩ := build_list p n (fun i hi => h i (by omega))
    obtain ⟨a, ha⟩ := h n (by omega)
    refine ⟨xs ++ [a], by simp [hl], fun i hi => ?_⟩
    by_cases e : i < xs.length
    · rw [List.getElem_append_left e]; exact hx i e
    · have : i = n := by simp at hi; omega
      subst this
      rw [List.getElem_append_right (by omega)]
      simpa [hl] using ha
theorem szs_le {H α : Type} (sz : α → Nat) : ∀ (xs : List α) (ds : List (DataW H)), xs.length = ds.length → (∀ i (h : i < xs.length) (h' : i < ds.length), sz xs[i] ≤ Rows.uptoBulk ds[i]) → szs sz xs ≤ Rows.uptoBulkAll ds
  | [], [], _, _ => by simp [szs]
  | x :: xs, d :: ds, hl, h => by
    have h0 := h 0 (by simp) (by simp)
    have := szs_le sz xs ds (by simpa using hl) (fun i hi hi' => h (i + 1) (by simp; omega) (by simp; omega))
    simp only [szs, Rows.uptoBulkAll]
    simp at h0
    omega
  | [], _ :: _, hl, _ => by simp at hl
  | _ :: _, [], hl, _ => by simp at hl

theorem add_of_add (a : Addr) (i j : Nat) : (a.add i).add j = a.add (i + j) := by
  unfold Addr.add
  by_cases hi : i = 0 <;> by_cases hj : j = 0 <;> simp [hi, hj, Nat.add_assoc]
theorem add_spot {b off i : Nat} : (⟨b, off, none⟩ : Addr).add i = ⟨b, off + i, none⟩ := by unfold Addr.add; split <;> simp_all

theorem opens_slice {w : World} {t e : TypeId} {k : Nat} {α : Type} {R : List Value → α → Prop} {sz : α → Nat} (ht : Tryd.prog.underlying t = some (.slice e)) (hc : Tryd.prog.cellsOf t = 1) (h : Opens w e k R sz) (hk : 0 < k) :
    Opens w t 1 (sliceR w k R) (fun xs => szs sz xs + 1) :=
  ⟨hc, fun {H} enc fuel cs x hx => by
    rcases DataW.trod_slice ht hx with ⟨rfl, rfl⟩ | ⟨a, len, cap, elems, rest, n, _, rfl, rfl, _, hlc, hcm, hlen, hel, _, _⟩
    · exact ⟨rfl, [], ⟨none, 0, rfl, by simp, ⟨by simp [maxLen], fun _ => rfl⟩, fun h0 => absurd h0 (by simp)⟩, by simp [szs, Rows.uptoBulk]⟩
    · have hi : ∀ i, i < len → ∃ y : α × List Value, (∀ (h' : i < elems.length), sz y.1 ≤ Rows.uptoBulk (elems[i].1)) ∧ R y.2 y.1 ∧ y.2.length = k ∧ ∀ j v, y.2[j]? = some v → w.cell? (a.add (i * k + j)) = some v := by
        intro i hi
        have h1 := hel i hi
        have hil : i < elems.length := by omega
        rw [List.getElem?_eq_getElem hil, Option.bind_eq_some_iff] at h1
        obtain ⟨ci, hci, hti⟩ := h1
        obtain ⟨hl, y, hy, hs⟩ := h.open_ enc n ci _ hti
        rw [h.cells] at hci
        obtain ⟨_, _, hcell⟩ := World.cells?_some hci
        refine ⟨(y, ci), fun _ => hs, hy, hl, fun j v hv => ?_⟩
        have hj : j < k := by rw [← hl]; exact (List.getElem?_eq_some_iff.1 hv).1
        rw [← add_of_add, hcell j hj]; exact hv
      obtain ⟨ys, hyl, hys⟩ := build_list (fun i (y : α × List Value) => (∀ (h' : i < elems.length), sz y.1 ≤ Rows.uptoBulk (elems[i].1)) ∧ R y.2 y.1 ∧ y.2.length = k ∧ ∀ j v, y.2[j]? = some v → w.cell? (a.add (i * k + j)) = some v) len hi
      refine ⟨rfl, ys.map (·.1), ⟨some a, cap, by simp [hyl], by simp; omega, ⟨hcm, fun h => by cases h⟩, fun h0 => ?_⟩, ?_⟩
      · obtain ⟨b, off, spot⟩ := a
        have h00 := hys 0 (by simpa using h0)
        obtain ⟨_, _, hl0, hc0⟩ := h00
        have hv := hc0 0 _ (List.getElem?_eq_getElem (by rw [hl0]; exact hk))
        have hsp : spot = none := by simpa [Addr.add] using World.cell?_spot hv
        subst hsp
        refine ⟨b, off, rfl, fun i hi => ?_⟩
        have hi' : i < ys.length := by simpa using hi
        obtain ⟨_, hR, hl, hcell⟩ := hys i hi'
        refine ⟨ys[i].2, by simpa using hR, hl, fun j v hv => ?_⟩
        have := hcell j v hv
        rw [add_spot, ← Nat.add_assoc] at this
        exact this
      · simp only [Rows.uptoBulk]
        have := szs_le (H := H) sz (ys.map (·.1)) (elems.map (·.1)) (by simp; omega) (fun i hi hi' => by
          have hi2 : i < ys.length := by simpa using hi
          have := (hys i hi2).1 (by simpa using hi')
          simpa using this)
        omega⟩

/-- where an element's cells are told by it alone: a row -/
theorem sliceR_row {α : Type} {w : World} {k : Nat} {R : List Value → α → Prop} (f : α → List Value) (hf : ∀ x, (f x).length = k) (hk : 0 < k) (hR : ∀ ci x, R ci x → ci = f x) {cs : List Value} {xs : List α} (h : sliceR w k R cs xs) :
    ∃ A c, cs = [.slice A xs.length c] ∧ xs.length ≤ c ∧ c ≤ maxLen ∧ Row w k A xs.length (xs.flatMap f) := by
  obtain ⟨A, c, hcs, h1, h2, hat⟩ := h
  refine ⟨A, c, hcs, h1, h2.1, flat_len f k hf xs, fun hn => ?_⟩
  obtain ⟨b, off, e, hel⟩ := hat hn
  refine ⟨b, off, e, fun j v hv => ?_⟩
  have hjl : j < xs.length * k := by rw [← flat_len f k hf xs]; exact (List.getElem?_eq_some_iff.1 hv).1
  have hi : j / k < xs.length := (Nat.div_lt_iff_lt_mul hk).2 hjl
  have hr : j % k < k := Nat.mod_lt _ hk
  have ej : j / k * k + j % k = j := by rw [Nat.mul_comm]; exact Nat.div_add_mod j k
  obtain ⟨ci, hci, _, hcell⟩ := hel (j / k) hi
  rw [hR ci _ hci] at hcell
  rw [← ej, flat_at f k hf xs (j / k) hi (j % k) hr] at hv
  have := hcell (j % k) v hv
  rw [Nat.add_assoc, ej] at this
  exact this
theorem szs_len {α : Type} (sz : α → Nat) (h1 : ∀ x, 1 ≤ sz x) : ∀ xs : List α, xs.length ≤ szs sz xs
  | [] => by simp
  | x :: r => by have := szs_len sz h1 r; have := h1 x; simp only [szs, List.length_cons]; omega
theorem szs_mem {α : Type} (sz : α → Nat) {xs : List α} {x : α} (h : x ∈ xs) : sz x ≤ szs sz xs := by
  induction xs with
  | nil => cases h
  | cons y r ih =>
    simp only [szs]
    rcases List.mem_cons.1 h with rfl | h
    · omega
    · have := ih h; omega

/-! ### arguments -/
theorem open_arg {w : World} {t : TypeId} {k : Nat} {α : Type} {R : List Value → α → Prop} {sz : α → Nat} (h : Opens w t k R sz) {H : Type} {enc : TypeId × Value → H} {v : Value} {d : DataW H} {p : List MemPlace}
    (hd : DataW.Trod enc Tryd.prog w 0 (fun _ => true) true t v d p) : ∃ a, R v.cells.toList a ∧ sz a ≤ Rows.uptoBulk d ∧ v.cells.toList.length = k := by
  obtain ⟨fuel, hf⟩ := hd
  obtain ⟨hl, a, ha, hs⟩ := h.open_ enc fuel _ _ hf
  exact ⟨a, ha, hs, hl⟩
theorem open_slice_arg {w : World} {r : Reach} {base : Nat} {t e : TypeId} (ht : Tryd.prog.underlying t = some (.slice e)) {k : Nat} {α : Type} {R : List Value → α → Prop} {sz : List α → Nat} (h : Opens w t 1 (sliceR w k R) sz) {H : Type} {enc : TypeId × Value → H} {v : Value} {d : DataW H} {p : List MemPlace}
    (hv : Value.okWide Tryd.prog w r base t v) (hd : DataW.Trod enc Tryd.prog w 0 (fun _ => true) true t v d p) : ∃ A c xs, v = .slice A xs.length c ∧ sliceR w k R [.slice A xs.length c] xs ∧ sz xs ≤ Rows.uptoBulk d := by
  obtain ⟨a0, n0, c0, rfl⟩ := okWide_slice ht hv
  obtain ⟨xs, hR, hs, _⟩ := open_arg h hd
  have hR' := hR
  obtain ⟨A, c, hcs, _⟩ := hR
  have e : [Value.slice a0 n0 c0] = [.slice A xs.length c] := by simpa [Value.cells] using hcs
  simp only [List.cons.injEq, and_true] at e
  refine ⟨A, c, xs, e, ?_, hs⟩
  rw [← e]
  simpa [Value.cells] using hR'
end Go.Proofs.YtmgpllakpgjicaaDoor

namespace Go.Proofs.YtmgpllakpgjicaaDoor
set_option maxRecDepth 100000
open Go.RowKit Go.ChangeShapes Go.WideShapes
theorem open_structD_arg {w : World} {r : Reach} {base : Nat} {t : TypeId} {fs : Array Field} (ht : Tryd.prog.underlying t = some (.struct fs)) {k : Nat} {α : Type} {R : List Value → α → Prop} {sz : α → Nat} (h : Opens w t k R sz) {H : Type} {enc : TypeId × Value → H} {v : Value} {d : DataW H} {p : List MemPlace}
    (hv : Value.okWide Tryd.prog w r base t v) (hd : DataW.Trod enc Tryd.prog w 0 (fun _ => true) true t v d p) : ∃ cs a, v = .agg cs ∧ R cs.toList a ∧ sz a ≤ Rows.uptoBulk d := by
  obtain ⟨cs, rfl, _⟩ := okWide_struct ht hv
  obtain ⟨a, ha, hs, _⟩ := open_arg h hd
  exact ⟨cs, a, rfl, by simpa [Value.cells] using ha, hs⟩
def szFile (f : Fl) : Nat := f.1.length + 1 + (f.2.1.length + 1 + (f.2.2.length + 1))
theorem opens_file (w : World) : Opens w 89 3 (fun cs (x : Fl) => cs = fileC x) szFile :=
  (opens_struct Tryd.underlying89 (by kernel_rfl) (opensF_cons rfl (opens_string Tryd.underlying9 (by kernel_rfl) w) (opensF_cons rfl (opens_string Tryd.underlying9 (by kernel_rfl) w) (opensF_cons rfl (opens_string Tryd.underlying9 (by kernel_rfl) w) (opensF_nil w 3))))).map
    (fun a => (a.1, a.2.1, a.2.2.1)) (by
      rintro cs ⟨a, b, c, _⟩ ⟨c1, c2, rfl, _, h1, d1, d2, rfl, _, h2, e1, e2, rfl, _, h3, h4⟩
      simp only [strR] at h1 h2 h3
      subst h1
      subst h2
      subst h3
      subst h4
      rfl) (by intro a; simp only [szFile]; omega)
theorem opens_disk (w : World) : Opens w 43 2 (fun cs (x : List Fl × Int) => ∃ A c, cs = [.slice A x.1.length c, .int .i64 x.2] ∧ sliceR w 3 (fun cs (x : Fl) => cs = fileC x) [.slice A x.1.length c] x.1 ∧ -9223372036854775808 ≤ x.2 ∧ x.2 ≤ 9223372036854775807) (fun x => szs szFile x.1) :=
  (opens_struct Tryd.underlying43 (by kernel_rfl) (opensF_cons rfl (opens_slice Tryd.underlying41 (by kernel_rfl) (opens_file w) (by omega)) (opensF_cons rfl (opens_int Tryd.underlying3 (by kernel_rfl) w) (opensF_nil w 2)))).map
    (fun a => (a.1, a.2.1)) (by
      rintro cs ⟨fs, f, _⟩ ⟨c1, c2, rfl, _, h1, d1, d2, rfl, _, h2, h3⟩
      have h1' := h1
      obtain ⟨A, c, hc, _⟩ := h1
      simp only at hc
      subst hc
      obtain ⟨h4, h5⟩ := h2
      simp only at h4
      subst h4
      simp only [nilR] at h3
      subst h3
      exact ⟨A, c, rfl, h1', h5⟩) (by intro a; simp only; omega)
/-- what is known of a disk that came in -/
structure DiskIn (w : World) (A : Option Addr) (c : Nat) (fs : List Fl) (f : Int) : Prop where
  row : FRow w A fs.length fs
  len : fs.length ≤ 1048576
  size : ∀ x ∈ fs, x.1.length ≤ 1048576 ∧ x.2.1.length ≤ 1048576 ∧ x.2.2.length ≤ 1048576
  nil : A = none → fs.length = 0 ∧ c = 0
  fuse : -9223372036854775808 ≤ f ∧ f ≤ 9223372036854775807
  cap : fs.length ≤ c
theorem open_disk {w : World} {r : Reach} {base : Nat} {H : Type} {enc : TypeId × Value → H} {v : Value} {d : DataW H} {p : List MemPlace}
    (hv : Value.okWide Tryd.prog w r base 43 v) (hd : DataW.Trod enc Tryd.prog w 0 (fun _ => true) true 43 v d p) (hb : Rows.uptoBulk d ≤ 1048576) :
    ∃ A c fs f, v = diskV A fs.length c f ∧ DiskIn w A c fs f := by
  obtain ⟨cs, ⟨fs, f⟩, rfl, ⟨A, c, hc, hR, hf⟩, hs⟩ := open_structD_arg Tryd.underlying43 (opens_disk w) hv hd
  simp only at hc hR hf hs
  obtain ⟨A', c', e', h1, h2, hrow⟩ := sliceR_row fileC (fun _ => rfl) (by omega) (fun ci x h => h) hR
  simp only [List.cons.injEq, and_true, Value.slice.injEq, true_and] at e'
  obtain ⟨rfl, rfl⟩ := e'
  obtain ⟨A2, c2, e2, _, h3, _⟩ := hR
  simp only [List.cons.injEq, and_true, Value.slice.injEq, true_and] at e2
  obtain ⟨rfl, rfl⟩ := e2
  have hl := szs_len szFile (fun x => by unfold szFile; omega) fs
  refine ⟨A, c, fs, f, ?_, ⟨hrow, by omega, fun x hx => ?_, fun h => ?_, hf, h1⟩⟩
  · unfold diskV
    congr 1
    exact Array.toList_inj.1 hc
  · have := szs_mem szFile hx
    unfold szFile at this hs
    refine ⟨?_, ?_, ?_⟩ <;> omega
  · have := h3.2 h
    omega
end Go.Proofs.YtmgpllakpgjicaaDoor

namespace Go.Proofs.YtmgpllakpgjicaaDoor
open Go.RowKit
set_option linter.unusedVariables false
theorem insF_len' (i : Nat) (f : Fl) (fs : List Fl) : (insF i f fs).length ≤ fs.length + 1 := by unfold insF; simp; omega
theorem wrF_len (name s : List UInt8) (fs : List Fl) : (wrF name s fs).1.length ≤ fs.length + 1 := by
  have h1 : (wrPre name fs).length ≤ fs.length + 1 := by
    unfold wrPre
    split
    · omega
    · exact insF_len' _ _ _
  unfold wrF
  split
  · split
    · simp
    · split
      · simpa using h1
      · simp
  · simp
theorem syF_len (name : List UInt8) (fs : List Fl) : (syF name fs).1.length ≤ fs.length + 1 := by
  unfold syF
  split <;> simp
theorem rmF_len (name : List UInt8) (fs : List Fl) : (rmF name fs).1.length ≤ fs.length + 1 := by
  unfold rmF
  split
  · have := (List.eraseIdx_sublist fs (lbF name fs)).length_le
    simp only
    omega
  · simp
theorem rnF_len (frm dst : List UInt8) (fs : List Fl) : (rnF frm dst fs).1.length ≤ fs.length + 1 := by
  unfold rnF
  split
  · split
    · have h1 := (List.eraseIdx_sublist fs (lbF frm fs)).length_le
      simp only
      unfold rnTo
      split
      · simp only [List.length_set]; omega
      · have := insF_len' (lbF dst (fs.eraseIdx (lbF frm fs))) (dst, (fs.getD (lbF frm fs) ([], [], [])).2) (fs.eraseIdx (lbF frm fs))
        omega
    · simp
  · simp
theorem stepR_len (F : List Fl → List Fl × Int) (h : ∀ fs, (F fs).1.length ≤ fs.length + 1) (fs : List Fl) (f : Int) : (stepR F fs f).1.length ≤ fs.length + 1 := by
  unfold stepR
  split
  · split
    · simp
    · split
      · exact h fs
      · simp
  · simp
theorem steps_mid {wa w1 w2 w4 : World} {A1 A2 : Option Addr} {n n2 cap1 cap2 : Nat} {f u : Int} {gs fs : List Fl} (g1 : Gr wa w1) (ho : w2.ownsRow (w1.alloc (.cells #[.slice none 0 0, .int .i64 0] 43)).heap.size 89 3 (.slice A1 n cap1) n (fs.flatMap fileC)) (g2 : Gr (w1.alloc (.cells #[.slice none 0 0, .int .i64 0] 43)) w2) (g3 : Gr (w2.alloc (.cells #[.slice A1 n cap1, .int .i64 f] 43)) w4)
    (hrow : (A2 = A1 ∧ n2 = n ∧ cap2 = cap1 ∧ gs = fs) ∨ w4.ownsRow (w2.alloc (.cells #[.slice A1 n cap1, .int .i64 f] 43)).heap.size 89 3 (.slice A2 n2 cap2) n2 (gs.flatMap fileC)) :
    Blk w4 w1.heap.size 43 #[.slice none 0 0, .int .i64 0] ∧ Gr wa ((w4.setCell ⟨w1.heap.size, 0, none⟩ (.slice A2 n2 cap2)).setCell ⟨w1.heap.size, 1, none⟩ (.int .i64 u)) ∧ FRow ((w4.setCell ⟨w1.heap.size, 0, none⟩ (.slice A2 n2 cap2)).setCell ⟨w1.heap.size, 1, none⟩ (.int .i64 u)) A1 n fs ∧ FRow ((w4.setCell ⟨w1.heap.size, 0, none⟩ (.slice A2 n2 cap2)).setCell ⟨w1.heap.size, 1, none⟩ (.int .i64 u)) A2 n2 gs ∧
      Blk ((w4.setCell ⟨w1.heap.size, 0, none⟩ (.slice A2 n2 cap2)).setCell ⟨w1.heap.size, 1, none⟩ (.int .i64 u)) w1.heap.size 43 #[.slice A2 n2 cap2, .int .i64 u] ∧ Blk ((w4.setCell ⟨w1.heap.size, 0, none⟩ (.slice A2 n2 cap2)).setCell ⟨w1.heap.size, 1, none⟩ (.int .i64 u)) w2.heap.size 43 #[.slice A1 n cap1, .int .i64 f] := by
  have hz : (w1.alloc (.cells #[.slice none 0 0, .int .i64 0] 43)).heap.size = w1.heap.size + 1 := by simp
  have hg14 : Gr (w1.alloc (.cells #[.slice none 0 0, .int .i64 0] 43)) w4 := (g2.alloc _).trans g3
  have hpa := (Blk.new w1 43 #[.slice none 0 0, .int .i64 0]).gr hg14
  have ho4 := own_gr (own_gr ho ((Gr.refl w2).alloc (.cells #[.slice A1 n cap1, .int .i64 f] 43))) g3
  have hne1 : (Value.slice A1 n cap1).ownBlock ≠ some w1.heap.size := fun e => by have := (ho4.lt _ e).1; omega
  have hr1 : FRow ((w4.setCell ⟨w1.heap.size, 0, none⟩ (.slice A2 n2 cap2)).setCell ⟨w1.heap.size, 1, none⟩ (.int .i64 u)) A1 n fs := Row.own (ownsRow_setCell_other (ownsRow_setCell_other ho4 (a := ⟨w1.heap.size, 0, none⟩) hne1 _) (a := ⟨w1.heap.size, 1, none⟩) hne1 _)
  have hs2 := g2.size
  have hs3 : (w2.alloc (.cells #[.slice A1 n cap1, .int .i64 f] 43)).heap.size = w2.heap.size + 1 := by simp
  refine ⟨hpa, ((g1.trans (((Gr.refl w1).alloc _).trans hg14)).setCell (p := ⟨w1.heap.size, 0, none⟩) g1.size _).setCell (p := ⟨w1.heap.size, 1, none⟩) g1.size _, hr1, ?_, (hpa.set_ 0 _).set_ 1 _, (((Blk.new w2 43 #[.slice A1 n cap1, .int .i64 f]).gr g3).far (p := ⟨w1.heap.size, 0, none⟩) (by show w2.heap.size ≠ w1.heap.size; omega) _).far (p := ⟨w1.heap.size, 1, none⟩) (by show w2.heap.size ≠ w1.heap.size; omega) _⟩
  rcases hrow with ⟨rfl, rfl, rfl, rfl⟩ | h
  · exact hr1
  · have hne2 : (Value.slice A2 n2 cap2).ownBlock ≠ some w1.heap.size := fun e => by have := (h.lt _ e).1; omega
    exact Row.own (ownsRow_setCell_other (ownsRow_setCell_other h (a := ⟨w1.heap.size, 0, none⟩) hne2 _) (a := ⟨w1.heap.size, 1, none⟩) hne2 _)
end Go.Proofs.YtmgpllakpgjicaaDoor

namespace Go.Proofs.YtmgpllakpgjicaaDoor
open Go.RowKit
set_option linter.unusedVariables false
structure SaveSt (w0 : World) (p : Nat) (A0 : Option Addr) (n0 cap0 : Nat) (fs0 : List Fl) (w : World) (A : Option Addr) (n cap : Nat) (f : Int) (fs : List Fl) : Prop where
  g : Gr w0 w
  bp : Blk w p 43 #[.slice A n cap, .int .i64 f]
  bq : Blk w (p + 1) 43 #[.slice none 0 0, .int .i64 0]
  nil : A = none → n = 0 ∧ cap = 0
  le : n ≤ cap
  alt : (A = A0 ∧ n = n0 ∧ cap = cap0 ∧ fs = fs0) ∨ w.ownsRow (p + 2) 89 3 (.slice A n cap) n (fs.flatMap fileC)
theorem SaveSt.row {w0 w : World} {p n0 cap0 n cap : Nat} {A0 A : Option Addr} {f : Int} {fs0 fs : List Fl} (h : SaveSt w0 p A0 n0 cap0 fs0 w A n cap f fs) (hx : FRow w0 A0 n0 fs0) : FRow w A n fs := by
  rcases h.alt with ⟨rfl, rfl, _, rfl⟩ | h1
  · exact hx.gr h.g
  · exact Row.own h1
theorem SaveSt.gr {w0 w w' : World} {p n0 cap0 n cap : Nat} {A0 A : Option Addr} {f : Int} {fs0 fs : List Fl} (h : SaveSt w0 p A0 n0 cap0 fs0 w A n cap f fs) (hg : Gr w w') : SaveSt w0 p A0 n0 cap0 fs0 w' A n cap f fs :=
  ⟨h.g.trans hg, h.bp.gr hg, h.bq.gr hg, h.nil, h.le, h.alt.elim .inl (fun h1 => .inr (own_gr h1 hg))⟩
theorem SaveSt.facts {w0 w : World} {p n0 cap0 n cap : Nat} {A0 A : Option Addr} {f : Int} {fs0 fs : List Fl} (h : SaveSt w0 p A0 n0 cap0 fs0 w A n cap f fs) :
    w.cell? ⟨p, 0, none⟩ = some (.slice A n cap) ∧ w.cell? ⟨p, 1, none⟩ = some (.int .i64 f) ∧ w.frozen? ⟨p, 0, none⟩ = false ∧ w.frozen? ⟨p, 1, none⟩ = false ∧
    w.cell? ⟨p + 1, 0, none⟩ = some (.slice none 0 0) ∧ w.cell? ⟨p + 1, 1, none⟩ = some (.int .i64 0) ∧ w.frozen? ⟨p + 1, 0, none⟩ = false ∧ w.frozen? ⟨p + 1, 1, none⟩ = false :=
  ⟨h.bp.cell 0, h.bp.cell 1, h.bp.frozen 0, h.bp.frozen 1, h.bq.cell 0, h.bq.cell 1, h.bq.frozen 0, h.bq.frozen 1⟩
/-- a step's answer in the variable -/
theorem SaveSt.next {w0 w w' : World} {p n0 cap0 n cap n' cap' : Nat} {A0 A A' : Option Addr} {f u : Int} {fs0 fs gs : List Fl} (h : SaveSt w0 p A0 n0 cap0 fs0 w A n cap f fs) (hp : p = w0.heap.size) (hg : Gr w w') (hA' : A' = none → n' = 0 ∧ cap' = 0)
    (hr : (A' = A ∧ n' = n ∧ cap' = cap ∧ gs = fs) ∨ w'.ownsRow w.heap.size 89 3 (.slice A' n' cap') n' (gs.flatMap fileC)) :
    SaveSt w0 p A0 n0 cap0 fs0 ((w'.setCell ⟨p, 0, none⟩ (.slice A' n' cap')).setCell ⟨p, 1, none⟩ (.int .i64 u)) A' n' cap' u gs := by
  have hpp : w0.heap.size ≤ p := by omega
  have hq := h.bq.lt
  refine ⟨((h.g.trans hg).setCell (p := ⟨p, 0, none⟩) hpp _).setCell (p := ⟨p, 1, none⟩) hpp _, ((h.bp.gr hg).set_ 0 _).set_ 1 _, ((h.bq.gr hg).far (p := ⟨p, 0, none⟩) (by show p + 1 ≠ p; omega) _).far (p := ⟨p, 1, none⟩) (by show p + 1 ≠ p; omega) _, hA', StepPost.cap (r := (gs, u, 0)) h.le hr, ?_⟩
  have hown : ∀ B, p + 2 ≤ B → w'.ownsRow B 89 3 (.slice A' n' cap') n' (gs.flatMap fileC) → ((w'.setCell ⟨p, 0, none⟩ (.slice A' n' cap')).setCell ⟨p, 1, none⟩ (.int .i64 u)).ownsRow (p + 2) 89 3 (.slice A' n' cap') n' (gs.flatMap fileC) := fun B hB ho => by
    have hne : (Value.slice A' n' cap').ownBlock ≠ some p := fun e => by have := (ho.lt _ e).1; omega
    exact own_low (ownsRow_setCell_other (ownsRow_setCell_other ho (a := ⟨p, 0, none⟩) hne _) (a := ⟨p, 1, none⟩) hne _) hB
  rcases hr with ⟨rfl, rfl, rfl, rfl⟩ | hr
  · rcases h.alt with h1 | h1
    · exact .inl h1
    · exact .inr (hown _ (Nat.le_refl _) (own_gr h1 hg))
  · exact .inr (hown _ (by omega) hr)
/-- the answer, in the result's cell -/
theorem SaveSt.done {w0 w : World} {p n0 cap0 n cap : Nat} {A0 A : Option Addr} {f : Int} {fs0 fs : List Fl} (h : SaveSt w0 p A0 n0 cap0 fs0 w A n cap f fs) (hp : p = w0.heap.size) :
    Blk ((w.setCell ⟨p + 1, 0, none⟩ (.slice A n cap)).setCell ⟨p + 1, 1, none⟩ (.int .i64 f)) (p + 1) 43 #[.slice A n cap, .int .i64 f] ∧
    Gr w0 ((w.setCell ⟨p + 1, 0, none⟩ (.slice A n cap)).setCell ⟨p + 1, 1, none⟩ (.int .i64 f)) ∧ (A = none → n = 0 ∧ cap = 0) ∧
    ((A = A0 ∧ n = n0 ∧ cap = cap0 ∧ fs = fs0) ∨ ((w.setCell ⟨p + 1, 0, none⟩ (.slice A n cap)).setCell ⟨p + 1, 1, none⟩ (.int .i64 f)).ownsRow w0.heap.size 89 3 (.slice A n cap) n (fs.flatMap fileC)) := by
  have hpp : w0.heap.size ≤ p + 1 := by omega
  refine ⟨(h.bq.set_ 0 _).set_ 1 _, (h.g.setCell (p := ⟨p + 1, 0, none⟩) hpp _).setCell (p := ⟨p + 1, 1, none⟩) hpp _, h.nil, ?_⟩
  rcases h.alt with h1 | h1
  · exact .inl h1
  · have hne : (Value.slice A n cap).ownBlock ≠ some (p + 1) := fun e => by have := (h1.lt _ e).1; omega
    exact .inr (own_low (ownsRow_setCell_other (ownsRow_setCell_other h1 (a := ⟨p + 1, 0, none⟩) hne _) (a := ⟨p + 1, 1, none⟩) hne _) (by omega))
/-- the last step's answer, in the result's cell -/
theorem SaveSt.last {w0 w w' : World} {p n0 cap0 n cap n' cap' : Nat} {A0 A A' : Option Addr} {f u : Int} {fs0 fs gs : List Fl} (h : SaveSt w0 p A0 n0 cap0 fs0 w A n cap f fs) (hp : p = w0.heap.size) (hg : Gr w w') (hA' : A' = none → n' = 0 ∧ cap' = 0)
    (hr : (A' = A ∧ n' = n ∧ cap' = cap ∧ gs = fs) ∨ w'.ownsRow w.heap.size 89 3 (.slice A' n' cap') n' (gs.flatMap fileC)) :
    Blk ((w'.setCell ⟨p + 1, 0, none⟩ (.slice A' n' cap')).setCell ⟨p + 1, 1, none⟩ (.int .i64 u)) (p + 1) 43 #[.slice A' n' cap', .int .i64 u] ∧
    Gr w0 ((w'.setCell ⟨p + 1, 0, none⟩ (.slice A' n' cap')).setCell ⟨p + 1, 1, none⟩ (.int .i64 u)) ∧ (A' = none → n' = 0 ∧ cap' = 0) ∧
    ((A' = A0 ∧ n' = n0 ∧ cap' = cap0 ∧ gs = fs0) ∨ ((w'.setCell ⟨p + 1, 0, none⟩ (.slice A' n' cap')).setCell ⟨p + 1, 1, none⟩ (.int .i64 u)).ownsRow w0.heap.size 89 3 (.slice A' n' cap') n' (gs.flatMap fileC)) := by
  have hpp : w0.heap.size ≤ p + 1 := by omega
  have hq := h.bq.lt
  refine ⟨((h.bq.gr hg).set_ 0 _).set_ 1 _, ((h.g.trans hg).setCell (p := ⟨p + 1, 0, none⟩) hpp _).setCell (p := ⟨p + 1, 1, none⟩) hpp _, hA', ?_⟩
  have hown : ∀ B, p + 2 ≤ B → w'.ownsRow B 89 3 (.slice A' n' cap') n' (gs.flatMap fileC) → ((w'.setCell ⟨p + 1, 0, none⟩ (.slice A' n' cap')).setCell ⟨p + 1, 1, none⟩ (.int .i64 u)).ownsRow w0.heap.size 89 3 (.slice A' n' cap') n' (gs.flatMap fileC) := fun B hB ho => by
    have hne : (Value.slice A' n' cap').ownBlock ≠ some (p + 1) := fun e => by have := (ho.lt _ e).1; omega
    exact own_low (ownsRow_setCell_other (ownsRow_setCell_other ho (a := ⟨p + 1, 0, none⟩) hne _) (a := ⟨p + 1, 1, none⟩) hne _) (by omega)
  rcases hr with ⟨rfl, rfl, rfl, rfl⟩ | hr
  · rcases h.alt with h1 | h1
    · exact .inl h1
    · exact .inr (hown _ (Nat.le_refl _) (own_gr h1 hg))
  · exact .inr (hown _ (by omega) hr)

/-! ### sizes -/
def Sz (fs : List Fl) : Prop := fs.length ≤ 1048576 ∧ ∀ f ∈ fs, f.1.length ≤ 1099511627776 ∧ f.2.1.length ≤ 1099511627776 ∧ f.2.2.length ≤ 1099511627776
theorem namedB_len {s : List UInt8} (h : namedB s = true) : s.length ≤ 80 := by
  unfold namedB at h
  simp only [Bool.and_eq_true, decide_eq_true_eq] at h
  omega
theorem good_sz {fs : List Fl} (h : goodFs fs = true) : fs.length ≤ 400 ∧ ∀ f ∈ fs, f.1.length ≤ 80 ∧ f.2.1.length ≤ 1048576 ∧ f.2.2.length ≤ 1048576 := by
  refine ⟨goodFs_len h, fun f hf => ?_⟩
  have := goodFs_ok h f hf
  exact ⟨namedB_len this.1, this.2.1, by omega⟩
theorem stepR_sz {F : List Fl → List Fl × Int} (hF : ∀ fs, goodFs fs = true → Sz (F fs).1) {fs : List Fl} (f : Int) (h : Sz fs) : Sz (stepR F fs f).1 := by
  unfold stepR
  cases hg : goodFs fs with
  | false => exact h
  | true =>
    simp only [if_true]
    split
    · exact h
    · split
      · exact hF fs hg
      · exact h
theorem stepR_fuse {F : List Fl → List Fl × Int} {fs : List Fl} {f : Int} (h : -9223372036854775808 ≤ f ∧ f ≤ 9223372036854775807) : -9223372036854775808 ≤ (stepR F fs f).2.1 ∧ (stepR F fs f).2.1 ≤ 9223372036854775807 := by
  unfold stepR
  split
  · split
    · exact h
    · split
      · simp only
        split <;> omega
      · exact h
  · exact h
theorem sz_of {fs gs : List Fl} (h : goodFs fs = true) (hl : gs.length ≤ fs.length + 1) (hm : ∀ f ∈ gs, f ∈ fs ∨ (f.1.length ≤ 1099511627776 ∧ f.2.1.length ≤ 1099511627776 ∧ f.2.2.length ≤ 1099511627776)) : Sz gs := by
  obtain ⟨h1, h2⟩ := good_sz h
  refine ⟨by omega, fun f hf => ?_⟩
  rcases hm f hf with h3 | h3
  · have := h2 f h3; omega
  · exact h3
theorem insF_mem {i : Nat} {f x : Fl} {fs : List Fl} (h : x ∈ insF i f fs) : x ∈ fs ∨ x = f := by
  unfold insF at h
  rcases List.mem_append.1 h with h | h
  · exact .inl (List.mem_of_mem_take h)
  · rcases List.mem_cons.1 h with h | h
    · exact .inr h
    · exact .inl (List.mem_of_mem_drop h)
theorem getD_sz {fs : List Fl} (h : goodFs fs = true) (i : Nat) : (fs.getD i ([], [], [])).1.length ≤ 80 ∧ (fs.getD i ([], [], [])).2.1.length ≤ 1048576 ∧ (fs.getD i ([], [], [])).2.2.length ≤ 1048576 := by
  rw [List.getD_eq_getElem?_getD]
  cases he : fs[i]? with
  | none => simp
  | some x => exact (good_sz h).2 x (List.mem_of_getElem? he)
theorem rmF_sz (name : List UInt8) (fs : List Fl) (h : goodFs fs = true) : Sz (rmF name fs).1 :=
  sz_of h (rmF_len name fs) (fun f hf => by
    unfold rmF at hf
    split at hf
    · exact .inl ((List.eraseIdx_sublist fs _).subset hf)
    · exact .inl hf)
theorem syF_sz (name : List UInt8) (fs : List Fl) (h : goodFs fs = true) : Sz (syF name fs).1 :=
  sz_of h (syF_len name fs) (fun f hf => by
    unfold syF at hf
    split at hf
    · rcases List.mem_or_eq_of_mem_set hf with h1 | h1
      · exact .inl h1
      · have := getD_sz h (lbF name fs)
        rw [h1]
        exact .inr ⟨by simp only; omega, by simp only [List.length_append]; omega, by simp⟩
    · exact .inl hf)
theorem rnF_sz (frm dst : List UInt8) (hd : dst.length ≤ 1099511627776) (fs : List Fl) (h : goodFs fs = true) : Sz (rnF frm dst fs).1 :=
  sz_of h (rnF_len frm dst fs) (fun f hf => by
    have hg := getD_sz h (lbF frm fs)
    unfold rnF at hf
    split at hf
    · split at hf
      · simp only at hf
        unfold rnTo at hf
        split at hf
        · rcases List.mem_or_eq_of_mem_set hf with h1 | h1
          · exact .inl ((List.eraseIdx_sublist fs _).subset h1)
          · rw [h1]
            exact .inr ⟨hd, by simp only; omega, by simp only; omega⟩
        · rcases insF_mem hf with h1 | h1
          · exact .inl ((List.eraseIdx_sublist fs _).subset h1)
          · rw [h1]
            exact .inr ⟨hd, by simp only; omega, by simp only; omega⟩
      · exact .inl hf
    · exact .inl hf)
theorem wrF_sz (name s : List UInt8) (hd : name.length ≤ 1099511627776) (fs : List Fl) (h : goodFs fs = true) : Sz (wrF name s fs).1 :=
  sz_of h (wrF_len name s fs) (fun f hf => by
    have hpre : ∀ x ∈ wrPre name fs, x ∈ fs ∨ (x.1.length ≤ 1099511627776 ∧ x.2.1.length ≤ 1099511627776 ∧ x.2.2.length ≤ 1099511627776) := fun x hx => by
      unfold wrPre at hx
      split at hx
      · exact .inl hx
      · rcases insF_mem hx with h1 | h1
        · exact .inl h1
        · rw [h1]; exact .inr ⟨hd, by simp, by simp⟩
    unfold wrF at hf
    split at hf
    · split at hf
      · exact .inl hf
      · split at hf
        · rename_i hle
          rcases List.mem_or_eq_of_mem_set hf with h1 | h1
          · exact hpre f h1
          · obtain ⟨hk, hnm, _⟩ := wrPre_at name fs h
            have hgd : (wrPre name fs).getD (lbF name fs) ([], [], []) = (wrPre name fs)[lbF name fs] := by
              rw [List.getD_eq_getElem?_getD, List.getElem?_eq_getElem hk]; rfl
            rw [hgd] at hle h1
            rw [h1]
            refine .inr ⟨by simp only; rw [hnm]; exact hd, by simp only; omega, by simp only [List.length_append]; omega⟩
        · exact .inl hf
    · exact .inl hf)
/-! ### what Save answers -/
def dotNew : List UInt8 := [46, 110, 101, 119]
def save0 (fs : List Fl) (f : Int) (name : List UInt8) : List Fl × Int × Int := if hasF (name ++ dotNew) fs then stepR (rmF (name ++ dotNew)) fs f else (fs, f, 0)
def save1 (fs : List Fl) (f : Int) (name s : List UInt8) : List Fl × Int × Int :=
  if (save0 fs f name).2.2 = 0 then stepR (wrF (name ++ dotNew) s) (save0 fs f name).1 (save0 fs f name).2.1 else save0 fs f name
def save2 (fs : List Fl) (f : Int) (name s : List UInt8) : List Fl × Int × Int :=
  if (save1 fs f name s).2.2 = 0 then stepR (syF (name ++ dotNew)) (save1 fs f name s).1 (save1 fs f name s).2.1 else save1 fs f name s
def save3 (fs : List Fl) (f : Int) (name s : List UInt8) : List Fl × Int × Int :=
  if (save2 fs f name s).2.2 = 0 then stepR (rnF (name ++ dotNew) name) (save2 fs f name s).1 (save2 fs f name s).2.1 else save2 fs f name s
/-- P6.8 -/
def saveR (fs : List Fl) (f : Int) (name s : List UInt8) : List Fl × Int × Int :=
  if goodFs fs then (if namedB name && namedB (name ++ dotNew) then save3 fs f name s else (fs, f, 2)) else (fs, f, 3)
end Go.Proofs.YtmgpllakpgjicaaDoor

namespace Go.Proofs.YtmgpllakpgjicaaDoor
open Go.RowKit
set_option linter.unusedVariables false
theorem saveR_sz (fs : List Fl) (f : Int) (name s : List UInt8) (hl : name.length ≤ 1048576) (hz : Sz fs) : Sz (saveR fs f name s).1 := by
  have hd : (name ++ dotNew).length ≤ 1099511627776 := by rw [List.length_append]; simp only [dotNew, List.length_cons, List.length_nil]; omega
  have h0 : Sz (save0 fs f name).1 := by
    unfold save0
    split
    · exact stepR_sz (rmF_sz _) _ hz
    · exact hz
  have h1 : Sz (save1 fs f name s).1 := by
    unfold save1
    split
    · exact stepR_sz (wrF_sz _ _ hd) _ h0
    · exact h0
  have h2 : Sz (save2 fs f name s).1 := by
    unfold save2
    split
    · exact stepR_sz (syF_sz _) _ h1
    · exact h1
  have h3 : Sz (save3 fs f name s).1 := by
    unfold save3
    split
    · exact stepR_sz (rnF_sz _ _ (by omega)) _ h2
    · exact h2
  unfold saveR
  split
  · split
    · exact h3
    · exact hz
  · exact hz

end Go.Proofs.YtmgpllakpgjicaaDoor

namespace Go.Proofs.YtmgpllakpgjicaaDoor
open Go.RowKit
set_option linter.unusedVariables false
/-- the file of an id -/
def fileN (id : List UInt8) : List UInt8 := 111 :: hexOf id
theorem fileN_len (id : List UInt8) : (fileN id).length = 2 * id.length + 1 := by unfold fileN; rw [List.length_cons, hexOf_len]
/-- P7.1 -/
def getR (fs : List Fl) (id : List UInt8) : List UInt8 × Int :=
  if id.length = 32 then (if (readR fs (fileN id)).2 = 0 then (if sha (readR fs (fileN id)).1 = id then ((readR fs (fileN id)).1, 0) else ([], 5)) else ([], (readR fs (fileN id)).2)) else ([], 2)
/-- P7.2: the disk, its fuse, the id, the error -/
def putR (fs : List Fl) (f : Int) (s : List UInt8) : List Fl × Int × List UInt8 × Int :=
  if (obD s).2 = 0 then
    (if (getR fs (sha s)).2 = 0 then (fs, f, sha s, 0)
     else if (saveR fs f (fileN (sha s)) s).2.2 = 0 then ((saveR fs f (fileN (sha s)) s).1, (saveR fs f (fileN (sha s)) s).2.1, sha s, 0)
     else ((saveR fs f (fileN (sha s)) s).1, (saveR fs f (fileN (sha s)) s).2.1, [], (saveR fs f (fileN (sha s)) s).2.2))
  else (fs, f, [], (obD s).2)
/-- a file's id, if an object of this id is read there -/
def idOf (fs : List Fl) (nm : List UInt8) : Option (List UInt8) :=
  if nm.head? = some 111 then (match unhex (nm.drop 1) with | none => none | some id => if (getR fs id).2 = 0 then some id else none) else none
/-- P7.3 -/
def idsR (fs : List Fl) : List (List UInt8) := fs.filterMap fun f => idOf fs f.1
def allR (fs : List Fl) : List (List UInt8) := (idsR fs).map fun id => (getR fs id).1

theorem readR_le (fs : List Fl) (name : List UInt8) : (readR fs name).1.length ≤ 1048576 := by
  unfold readR
  split
  · rename_i h
    split
    · rename_i h2
      obtain ⟨hi, _⟩ := hasF_lt (goodFs_sorted h) h2
      have := goodFs_ok h _ (List.getElem_mem hi)
      simp only [List.getD_eq_getElem?_getD, List.getElem?_eq_getElem hi, Option.getD_some, List.length_append]
      omega
    · simp
  · simp
theorem getR_le (fs : List Fl) (id : List UInt8) : (getR fs id).1.length ≤ 1048576 := by
  have := readR_le fs (fileN id)
  unfold getR
  split
  · split
    · split
      · exact this
      · simp
    · simp
  · simp
theorem getR_id {fs : List Fl} {id : List UInt8} (h : (getR fs id).2 = 0) : id.length = 32 ∧ sha (getR fs id).1 = id := by
  unfold getR at h ⊢
  split at h
  · rename_i h1
    split at h
    · rename_i h2
      split at h
      · rename_i h3
        rw [if_pos h1, if_pos h2, if_pos h3]
        exact ⟨h1, h3⟩
      · cases h
    · rename_i h2; exact absurd h h2
  · cases h
theorem readR_err (fs : List Fl) (name : List UInt8) : (readR fs name).2 = 0 ∨ (readR fs name).2 = 7 ∨ (readR fs name).2 = 3 := by
  unfold readR
  split
  · split
    · exact .inl rfl
    · exact .inr (.inl rfl)
  · exact .inr (.inr rfl)
theorem putR_sz (fs : List Fl) (f : Int) (s : List UInt8) (hz : Sz fs) : Sz (putR fs f s).1 := by
  have h := saveR_sz fs f (fileN (sha s)) s (by rw [fileN_len, sha_len]; omega) hz
  unfold putR
  split
  · split
    · exact hz
    · split
      · exact h
      · exact h
  · exact hz
theorem unhex_len : ∀ (n : Nat) (s : List UInt8), s.length ≤ n → ∀ {r : List UInt8}, unhex s = some r → s.length = 2 * r.length
  | _, [], _, r, h => by simp only [unhex, Option.some.injEq] at h; subst h; rfl
  | _, [_], _, r, h => by cases h
  | 0, a :: b :: t, hn, r, h => by simp at hn
  | n + 1, a :: b :: t, hn, r, h => by
    rw [unhex] at h
    split at h
    · cases ht : unhex t with
      | none => rw [ht] at h; cases h
      | some u =>
        rw [ht] at h
        simp only [Option.map_some, Option.some.injEq] at h
        subst h
        have := unhex_len n t (by simp only [List.length_cons] at hn; omega) ht
        simp only [List.length_cons]
        omega
    · cases h
theorem idsR_take (fs l : List Fl) (i : Nat) (h : i < l.length) : (l.take (i + 1)).filterMap (fun f => idOf fs f.1) = (l.take i).filterMap (fun f => idOf fs f.1) ++ (match idOf fs l[i].1 with | none => [] | some id => [id]) := by
  rw [List.take_succ_eq_append_getElem h, List.filterMap_append]
  congr 1
  simp only [List.filterMap_cons, List.filterMap_nil]
  cases idOf fs l[i].1 <;> rfl
theorem idsR_len (fs : List Fl) : (idsR fs).length ≤ fs.length := List.length_filterMap_le _ _
theorem idsR_32 {fs : List Fl} {id : List UInt8} (h : id ∈ idsR fs) : (getR fs id).2 = 0 := by
  unfold idsR at h
  obtain ⟨f, _, hf⟩ := List.mem_filterMap.1 h
  unfold idOf at hf
  split at hf
  · split at hf
    · cases hf
    · split at hf
      · injection hf with hf; subst hf; assumption
      · cases hf
  · cases hf
end Go.Proofs.YtmgpllakpgjicaaDoor

namespace Go.Proofs.YtmgpllakpgjicaaDoor
open Go.RowKit
set_option linter.unusedVariables false
theorem goodB_start : goodB [] 0 = true := by decide
theorem goodB_rest (b : List UInt8) (h : b.length < 1152921504606846976) : goodB (restOf b) (b.length : Int) = true := by
  rw [goodB_iff, restOf_len]
  omega

set_option maxRecDepth 100000 in
set_option maxHeartbeats 1000000 in
theorem sum_any (b : List UInt8) (w : World) (hT : TabK w) (hb : b.length ≤ 576460752303423488) :
    Calls Tryd.prog 43 #[.string (bs b)] w fun e w' => e = .returned (.string (bs (sha b))) ∧ Gr w w' := by
  have HG := sec (goodB_rest b (by omega))
  have HS : Sec (sha b = endOf (overS startS b) (restOf b) b.length) := sec rfl
  have HZ := sec (show (0 : Int) + (b.length : Int) < 1152921504606846976 by omega)
  have HA : Sec (([] : List UInt8) ++ b = b) := sec rfl
  have HN : Sec ((0 : Int) + (b.length : Int) = (b.length : Int)) := sec (by omega)
  obtain ⟨S, hS⟩ : ∃ S, S = overS startS b := ⟨_, rfl⟩
  obtain ⟨R, hR⟩ : ∃ R, R = restOf b := ⟨_, rfl⟩
  rw [← hS, ← hR] at HS
  rw [← hR] at HG
  have HSS := sec hS
  have HRR := sec hR
  clear hS hR
  go_enter Tryd.func43, Tryd.ntmps43
  go_wp2_with (first
    | (refine wpList_store_blk rfl 103 (.tmp 3) (.tmp 11) rfl (g := w2.heap.size) rfl rfl (Blk.new w2 _ _) A.state rfl (stCells_one _ _ _) ?_; intro w3 h3 hg3; have gg3 : Gr w w3 := Gr.only (g2.alloc _) hg3 g2.size; clear hg3)
    | (refine wpList_load_blk rfl 103 (.tmp 3) rfl (g := w2.heap.size) rfl h3 A.state ?_)
    | (go_at_call 76; refine (begin_any _).mono ?_; rintro e w1 ⟨rfl, g1⟩)
    | (go_at_call 75; refine (add_ok startS [] 0 b _ (hT.gr g1) goodB_start hb HZ.out).mono ?_; rw [HA.out, HN.out, ← HSS.out, ← HRR.out]; rintro e w2 ⟨rfl, g2'⟩; have g2 := g1.trans g2'; clear g2' g1)
    | (go_at_call 77; refine (end_ok S R b.length _ (hT.gr gg3) HG.out).mono ?_; rw [← HS.out]; rintro e w4 ⟨rfl, g4⟩))
  go_ret
  exact ⟨rfl, gg3.trans g4⟩
end Go.Proofs.YtmgpllakpgjicaaDoor

namespace Go.Proofs.YtmgpllakpgjicaaDoor
set_option maxRecDepth 100000
open Go.RowKit
set_option linter.unusedVariables false
theorem objId_any (b : List UInt8) (w : World) (hT : TabK w) (hb : b.length ≤ 576460752303423488) :
    Calls Tryd.prog 11 #[.string (bs b)] w fun e w' => e = .returned (.string (bs (sha b))) ∧ Gr w w' := by
  have HS := sec (sum_any b w hT hb)
  clear hT
  go_enter Tryd.func11, Tryd.ntmps11
  go_wp2_with (go_at_call 43; (with_reducible refine Calls.mono HS.out ?_); rintro e w1 ⟨rfl, g1⟩)
  go_ret
  exact ⟨rfl, g1⟩
theorem own_nilP {w : World} {k e size n cap : Nat} {A : Option Addr} {xs : List Value} (h : w.ownsRow k e size (.slice A n cap) n xs) : A = none → n = 0 ∧ cap = 0 := by
  intro e
  rcases h.2 with ⟨h, h0⟩ | ⟨g, _, _, h, _⟩
  · injection h with _ h2 h3
    exact ⟨h0, h3⟩
  · subst e; injection h with h; cases h
theorem own_capP {w : World} {k e size n cap : Nat} {A : Option Addr} {xs : List Value} (h : w.ownsRow k e size (.slice A n cap) n xs) : n ≤ cap := by
  rcases h.2 with ⟨h, h0⟩ | ⟨g, cap', cur, h, _, _, hle, _⟩
  · omega
  · injection h with _ _ h3
    subst h3
    exact hle
theorem sV_addP (G : List (List UInt8)) (x : List UInt8) : G.map strV ++ [Value.string (bs x)] = (G ++ [x]).map strV := by simp [strV]
/-- a row of the call's own lies in no older block -/
theorem own_neP {w : World} {B e size n cap : Nat} {A : Option Addr} {xs : List Value} (h : w.ownsRow B e size (.slice A n cap) n xs) {m : Nat} (hm : m < B) : some m ≠ (Value.slice A n cap).ownBlock := by
  intro he
  have := (h.lt m he.symm).1
  omega
theorem own_atP {w : World} {B e size n cap : Nat} {A : Option Addr} {xs : List Value} (h : w.ownsRow B e size (.slice A n cap) n xs) {m : Nat} (hm : m < B) : ∀ b off, A = some ⟨b, off, none⟩ → b ≠ m := by
  intro b off hA hb
  have hbk : (Value.slice A n cap).ownBlock = some b := by rw [hA]; rfl
  have := (h.lt b hbk).1
  omega
end Go.Proofs.YtmgpllakpgjicaaDoor

namespace Go.Proofs.YtmgpllakpgjicaaDoor.Abc
set_option maxRecDepth 100000
def msg : List UInt8 := [97, 98, 99, 128, 0, 0, 0, 0, 0, 0, 0, 0, 0, 0, 0, 0, 0, 0, 0, 0, 0, 0, 0, 0, 0, 0, 0, 0, 0, 0, 0, 0, 0, 0, 0, 0, 0, 0, 0, 0, 0, 0, 0, 0, 0, 0, 0, 0, 0, 0, 0, 0, 0, 0, 0, 0, 0, 0, 0, 0, 0, 0, 0, 24]
theorem w0 : wSched msg 0 = 1633837952 := (wSched_lo (by decide)).trans (by kernel_rfl)
theorem w1 : wSched msg 1 = 0 := (wSched_lo (by decide)).trans (by kernel_rfl)
theorem w2 : wSched msg 2 = 0 := (wSched_lo (by decide)).trans (by kernel_rfl)
theorem w3 : wSched msg 3 = 0 := (wSched_lo (by decide)).trans (by kernel_rfl)
theorem w4 : wSched msg 4 = 0 := (wSched_lo (by decide)).trans (by kernel_rfl)
theorem w5 : wSched msg 5 = 0 := (wSched_lo (by decide)).trans (by kernel_rfl)
theorem w6 : wSched msg 6 = 0 := (wSched_lo (by decide)).trans (by kernel_rfl)
theorem w7 : wSched msg 7 = 0 := (wSched_lo (by decide)).trans (by kernel_rfl)
theorem w8 : wSched msg 8 = 0 := (wSched_lo (by decide)).trans (by kernel_rfl)
theorem w9 : wSched msg 9 = 0 := (wSched_lo (by decide)).trans (by kernel_rfl)
theorem w10 : wSched msg 10 = 0 := (wSched_lo (by decide)).trans (by kernel_rfl)
theorem w11 : wSched msg 11 = 0 := (wSched_lo (by decide)).trans (by kernel_rfl)
theorem w12 : wSched msg 12 = 0 := (wSched_lo (by decide)).trans (by kernel_rfl)
theorem w13 : wSched msg 13 = 0 := (wSched_lo (by decide)).trans (by kernel_rfl)
theorem w14 : wSched msg 14 = 0 := (wSched_lo (by decide)).trans (by kernel_rfl)
theorem w15 : wSched msg 15 = 24 := (wSched_lo (by decide)).trans (by kernel_rfl)
theorem w16 : wSched msg 16 = 1633837952 := (wSched_hi (by decide)).trans (by rw [show 16 - 16 = 0 from rfl, show 16 - 15 = 1 from rfl, show 16 - 7 = 9 from rfl, show 16 - 2 = 14 from rfl, w0, w1, w9, w14]; kernel_rfl)
theorem w17 : wSched msg 17 = 983040 := (wSched_hi (by decide)).trans (by rw [show 17 - 16 = 1 from rfl, show 17 - 15 = 2 from rfl, show 17 - 7 = 10 from rfl, show 17 - 2 = 15 from rfl, w1, w2, w10, w15]; kernel_rfl)
theorem w18 : wSched msg 18 = 2108187653 := (wSched_hi (by decide)).trans (by rw [show 18 - 16 = 2 from rfl, show 18 - 15 = 3 from rfl, show 18 - 7 = 11 from rfl, show 18 - 2 = 16 from rfl, w2, w3, w11, w16]; kernel_rfl)
theorem w19 : wSched msg 19 = 1610613702 := (wSched_hi (by decide)).trans (by rw [show 19 - 16 = 3 from rfl, show 19 - 15 = 4 from rfl, show 19 - 7 = 12 from rfl, show 19 - 2 = 17 from rfl, w3, w4, w12, w17]; kernel_rfl)
theorem w20 : wSched msg 20 = 1050508152 := (wSched_hi (by decide)).trans (by rw [show 20 - 16 = 4 from rfl, show 20 - 15 = 5 from rfl, show 20 - 7 = 13 from rfl, show 20 - 2 = 18 from rfl, w4, w5, w13, w18]; kernel_rfl)
theorem w21 : wSched msg 21 = 25426944 := (wSched_hi (by decide)).trans (by rw [show 21 - 16 = 5 from rfl, show 21 - 15 = 6 from rfl, show 21 - 7 = 14 from rfl, show 21 - 2 = 19 from rfl, w5, w6, w14, w19]; kernel_rfl)
theorem w22 : wSched msg 22 = 316456923 := (wSched_hi (by decide)).trans (by rw [show 22 - 16 = 6 from rfl, show 22 - 15 = 7 from rfl, show 22 - 7 = 15 from rfl, show 22 - 2 = 20 from rfl, w6, w7, w15, w20]; kernel_rfl)
theorem w23 : wSched msg 23 = 3806512014 := (wSched_hi (by decide)).trans (by rw [show 23 - 16 = 7 from rfl, show 23 - 15 = 8 from rfl, show 23 - 7 = 16 from rfl, show 23 - 2 = 21 from rfl, w7, w8, w16, w21]; kernel_rfl)
theorem w24 : wSched msg 24 = 3357629466 := (wSched_hi (by decide)).trans (by rw [show 24 - 16 = 8 from rfl, show 24 - 15 = 9 from rfl, show 24 - 7 = 17 from rfl, show 24 - 2 = 22 from rfl, w8, w9, w17, w22]; kernel_rfl)
theorem w25 : wSched msg 25 = 3073800610 := (wSched_hi (by decide)).trans (by rw [show 25 - 16 = 9 from rfl, show 25 - 15 = 10 from rfl, show 25 - 7 = 18 from rfl, show 25 - 2 = 23 from rfl, w9, w10, w18, w23]; kernel_rfl)
theorem w26 : wSched msg 26 = 3854317833 := (wSched_hi (by decide)).trans (by rw [show 26 - 16 = 10 from rfl, show 26 - 15 = 11 from rfl, show 26 - 7 = 19 from rfl, show 26 - 2 = 24 from rfl, w10, w11, w19, w24]; kernel_rfl)
theorem w27 : wSched msg 27 = 845560923 := (wSched_hi (by decide)).trans (by rw [show 27 - 16 = 11 from rfl, show 27 - 15 = 12 from rfl, show 27 - 7 = 20 from rfl, show 27 - 2 = 25 from rfl, w11, w12, w20, w25]; kernel_rfl)
theorem w28 : wSched msg 28 = 2636160359 := (wSched_hi (by decide)).trans (by rw [show 28 - 16 = 12 from rfl, show 28 - 15 = 13 from rfl, show 28 - 7 = 21 from rfl, show 28 - 2 = 26 from rfl, w12, w13, w21, w26]; kernel_rfl)
theorem w29 : wSched msg 29 = 3968280267 := (wSched_hi (by decide)).trans (by rw [show 29 - 16 = 13 from rfl, show 29 - 15 = 14 from rfl, show 29 - 7 = 22 from rfl, show 29 - 2 = 27 from rfl, w13, w14, w22, w27]; kernel_rfl)
theorem w30 : wSched msg 30 = 1881225380 := (wSched_hi (by decide)).trans (by rw [show 30 - 16 = 14 from rfl, show 30 - 15 = 15 from rfl, show 30 - 7 = 23 from rfl, show 30 - 2 = 28 from rfl, w14, w15, w23, w28]; kernel_rfl)
theorem w31 : wSched msg 31 = 3552024379 := (wSched_hi (by decide)).trans (by rw [show 31 - 16 = 15 from rfl, show 31 - 15 = 16 from rfl, show 31 - 7 = 24 from rfl, show 31 - 2 = 29 from rfl, w15, w16, w24, w29]; kernel_rfl)
theorem w32 : wSched msg 32 = 2482346367 := (wSched_hi (by decide)).trans (by rw [show 32 - 16 = 16 from rfl, show 32 - 15 = 17 from rfl, show 32 - 7 = 25 from rfl, show 32 - 2 = 30 from rfl, w16, w17, w25, w30]; kernel_rfl)
theorem w33 : wSched msg 33 = 996719219 := (wSched_hi (by decide)).trans (by rw [show 33 - 16 = 17 from rfl, show 33 - 15 = 18 from rfl, show 33 - 7 = 26 from rfl, show 33 - 2 = 31 from rfl, w17, w18, w26, w31]; kernel_rfl)
theorem w34 : wSched msg 34 = 2952069057 := (wSched_hi (by decide)).trans (by rw [show 34 - 16 = 18 from rfl, show 34 - 15 = 19 from rfl, show 34 - 7 = 27 from rfl, show 34 - 2 = 32 from rfl, w18, w19, w27, w32]; kernel_rfl)
theorem w35 : wSched msg 35 = 4043988066 := (wSched_hi (by decide)).trans (by rw [show 35 - 16 = 19 from rfl, show 35 - 15 = 20 from rfl, show 35 - 7 = 28 from rfl, show 35 - 2 = 33 from rfl, w19, w20, w28, w33]; kernel_rfl)
theorem w36 : wSched msg 36 = 176896406 := (wSched_hi (by decide)).trans (by rw [show 36 - 16 = 20 from rfl, show 36 - 15 = 21 from rfl, show 36 - 7 = 29 from rfl, show 36 - 2 = 34 from rfl, w20, w21, w29, w34]; kernel_rfl)
theorem w37 : wSched msg 37 = 1924104970 := (wSched_hi (by decide)).trans (by rw [show 37 - 16 = 21 from rfl, show 37 - 15 = 22 from rfl, show 37 - 7 = 30 from rfl, show 37 - 2 = 35 from rfl, w21, w22, w30, w35]; kernel_rfl)
theorem w38 : wSched msg 38 = 2483675966 := (wSched_hi (by decide)).trans (by rw [show 38 - 16 = 22 from rfl, show 38 - 15 = 23 from rfl, show 38 - 7 = 31 from rfl, show 38 - 2 = 36 from rfl, w22, w23, w31, w36]; kernel_rfl)
theorem w39 : wSched msg 39 = 610538786 := (wSched_hi (by decide)).trans (by rw [show 39 - 16 = 23 from rfl, show 39 - 15 = 24 from rfl, show 39 - 7 = 32 from rfl, show 39 - 2 = 37 from rfl, w23, w24, w32, w37]; kernel_rfl)
theorem w40 : wSched msg 40 = 2672279444 := (wSched_hi (by decide)).trans (by rw [show 40 - 16 = 24 from rfl, show 40 - 15 = 25 from rfl, show 40 - 7 = 33 from rfl, show 40 - 2 = 38 from rfl, w24, w25, w33, w38]; kernel_rfl)
theorem w41 : wSched msg 41 = 4037431130 := (wSched_hi (by decide)).trans (by rw [show 41 - 16 = 25 from rfl, show 41 - 15 = 26 from rfl, show 41 - 7 = 34 from rfl, show 41 - 2 = 39 from rfl, w25, w26, w34, w39]; kernel_rfl)
theorem w42 : wSched msg 42 = 1042573945 := (wSched_hi (by decide)).trans (by rw [show 42 - 16 = 26 from rfl, show 42 - 15 = 27 from rfl, show 42 - 7 = 35 from rfl, show 42 - 2 = 40 from rfl, w26, w27, w35, w40]; kernel_rfl)
theorem w43 : wSched msg 43 = 657669027 := (wSched_hi (by decide)).trans (by rw [show 43 - 16 = 27 from rfl, show 43 - 15 = 28 from rfl, show 43 - 7 = 36 from rfl, show 43 - 2 = 41 from rfl, w27, w28, w36, w41]; kernel_rfl)
theorem w44 : wSched msg 44 = 206005234 := (wSched_hi (by decide)).trans (by rw [show 44 - 16 = 28 from rfl, show 44 - 15 = 29 from rfl, show 44 - 7 = 37 from rfl, show 44 - 2 = 42 from rfl, w28, w29, w37, w42]; kernel_rfl)
theorem w45 : wSched msg 45 = 2215296807 := (wSched_hi (by decide)).trans (by rw [show 45 - 16 = 29 from rfl, show 45 - 15 = 30 from rfl, show 45 - 7 = 38 from rfl, show 45 - 2 = 43 from rfl, w29, w30, w38, w43]; kernel_rfl)
theorem w46 : wSched msg 46 = 2049510749 := (wSched_hi (by decide)).trans (by rw [show 46 - 16 = 30 from rfl, show 46 - 15 = 31 from rfl, show 46 - 7 = 39 from rfl, show 46 - 2 = 44 from rfl, w30, w31, w39, w44]; kernel_rfl)
theorem w47 : wSched msg 47 = 106709978 := (wSched_hi (by decide)).trans (by rw [show 47 - 16 = 31 from rfl, show 47 - 15 = 32 from rfl, show 47 - 7 = 40 from rfl, show 47 - 2 = 45 from rfl, w31, w32, w40, w45]; kernel_rfl)
theorem w48 : wSched msg 48 = 4215179723 := (wSched_hi (by decide)).trans (by rw [show 48 - 16 = 32 from rfl, show 48 - 15 = 33 from rfl, show 48 - 7 = 41 from rfl, show 48 - 2 = 46 from rfl, w32, w33, w41, w46]; kernel_rfl)
theorem w49 : wSched msg 49 = 3430291419 := (wSched_hi (by decide)).trans (by rw [show 49 - 16 = 33 from rfl, show 49 - 15 = 34 from rfl, show 49 - 7 = 42 from rfl, show 49 - 2 = 47 from rfl, w33, w34, w42, w47]; kernel_rfl)
theorem w50 : wSched msg 50 = 3118885940 := (wSched_hi (by decide)).trans (by rw [show 50 - 16 = 34 from rfl, show 50 - 15 = 35 from rfl, show 50 - 7 = 43 from rfl, show 50 - 2 = 48 from rfl, w34, w35, w43, w48]; kernel_rfl)
theorem w51 : wSched msg 51 = 2845390439 := (wSched_hi (by decide)).trans (by rw [show 51 - 16 = 35 from rfl, show 51 - 15 = 36 from rfl, show 51 - 7 = 44 from rfl, show 51 - 2 = 49 from rfl, w35, w36, w44, w49]; kernel_rfl)
theorem w52 : wSched msg 52 = 2226839261 := (wSched_hi (by decide)).trans (by rw [show 52 - 16 = 36 from rfl, show 52 - 15 = 37 from rfl, show 52 - 7 = 45 from rfl, show 52 - 2 = 50 from rfl, w36, w37, w45, w50]; kernel_rfl)
theorem w53 : wSched msg 53 = 3256115900 := (wSched_hi (by decide)).trans (by rw [show 53 - 16 = 37 from rfl, show 53 - 15 = 38 from rfl, show 53 - 7 = 46 from rfl, show 53 - 2 = 51 from rfl, w37, w38, w46, w51]; kernel_rfl)
theorem w54 : wSched msg 54 = 344409900 := (wSched_hi (by decide)).trans (by rw [show 54 - 16 = 38 from rfl, show 54 - 15 = 39 from rfl, show 54 - 7 = 47 from rfl, show 54 - 2 = 52 from rfl, w38, w39, w47, w52]; kernel_rfl)
theorem w55 : wSched msg 55 = 2987358873 := (wSched_hi (by decide)).trans (by rw [show 55 - 16 = 39 from rfl, show 55 - 15 = 40 from rfl, show 55 - 7 = 48 from rfl, show 55 - 2 = 53 from rfl, w39, w40, w48, w53]; kernel_rfl)
theorem w56 : wSched msg 56 = 4015503821 := (wSched_hi (by decide)).trans (by rw [show 56 - 16 = 40 from rfl, show 56 - 15 = 41 from rfl, show 56 - 7 = 49 from rfl, show 56 - 2 = 54 from rfl, w40, w41, w49, w54]; kernel_rfl)
theorem w57 : wSched msg 57 = 3957764664 := (wSched_hi (by decide)).trans (by rw [show 57 - 16 = 41 from rfl, show 57 - 15 = 42 from rfl, show 57 - 7 = 50 from rfl, show 57 - 2 = 55 from rfl, w41, w42, w50, w55]; kernel_rfl)
theorem w58 : wSched msg 58 = 2682456414 := (wSched_hi (by decide)).trans (by rw [show 58 - 16 = 42 from rfl, show 58 - 15 = 43 from rfl, show 58 - 7 = 51 from rfl, show 58 - 2 = 56 from rfl, w42, w43, w51, w56]; kernel_rfl)
theorem w59 : wSched msg 59 = 2025622859 := (wSched_hi (by decide)).trans (by rw [show 59 - 16 = 43 from rfl, show 59 - 15 = 44 from rfl, show 59 - 7 = 52 from rfl, show 59 - 2 = 57 from rfl, w43, w44, w52, w57]; kernel_rfl)
theorem w60 : wSched msg 60 = 2755645205 := (wSched_hi (by decide)).trans (by rw [show 60 - 16 = 44 from rfl, show 60 - 15 = 45 from rfl, show 60 - 7 = 53 from rfl, show 60 - 2 = 58 from rfl, w44, w45, w53, w58]; kernel_rfl)
theorem w61 : wSched msg 61 = 1720397816 := (wSched_hi (by decide)).trans (by rw [show 61 - 16 = 45 from rfl, show 61 - 15 = 46 from rfl, show 61 - 7 = 54 from rfl, show 61 - 2 = 59 from rfl, w45, w46, w54, w59]; kernel_rfl)
theorem w62 : wSched msg 62 = 4004225740 := (wSched_hi (by decide)).trans (by rw [show 62 - 16 = 46 from rfl, show 62 - 15 = 47 from rfl, show 62 - 7 = 55 from rfl, show 62 - 2 = 60 from rfl, w46, w47, w55, w60]; kernel_rfl)
theorem w63 : wSched msg 63 = 313650667 := (wSched_hi (by decide)).trans (by rw [show 63 - 16 = 47 from rfl, show 63 - 15 = 48 from rfl, show 63 - 7 = 56 from rfl, show 63 - 2 = 61 from rfl, w47, w48, w56, w61]; kernel_rfl)
theorem r0 : rounds msg startS 0 = ⟨1779033703, 3144134277, 1013904242, 2773480762, 1359893119, 2600822924, 528734635, 1541459225⟩ := by kernel_rfl
theorem r1 : rounds msg startS 1 = ⟨1567288269, 1779033703, 3144134277, 1013904242, 4197074466, 1359893119, 2600822924, 528734635⟩ := (show rounds msg startS 1 = round (kAt 0) (wSched msg 0) (rounds msg startS 0) from rfl).trans (by rw [w0, r0]; kernel_rfl)
theorem r2 : rounds msg startS 2 = ⟨1516951981, 1567288269, 1779033703, 3144134277, 2026797449, 4197074466, 1359893119, 2600822924⟩ := (show rounds msg startS 2 = round (kAt 1) (wSched msg 1) (rounds msg startS 1) from rfl).trans (by rw [w1, r1]; kernel_rfl)
theorem r3 : rounds msg startS 3 = ⟨3368241063, 1516951981, 1567288269, 1779033703, 4180228587, 2026797449, 4197074466, 1359893119⟩ := (show rounds msg startS 3 = round (kAt 2) (wSched msg 2) (rounds msg startS 2) from rfl).trans (by rw [w2, r2]; kernel_rfl)
theorem r4 : rounds msg startS 4 = ⟨3578852966, 3368241063, 1516951981, 1567288269, 618661968, 4180228587, 2026797449, 4197074466⟩ := (show rounds msg startS 4 = round (kAt 3) (wSched msg 3) (rounds msg startS 3) from rfl).trans (by rw [w3, r3]; kernel_rfl)
theorem r5 : rounds msg startS 5 = ⟨71342698, 3578852966, 3368241063, 1516951981, 1135452741, 618661968, 4180228587, 2026797449⟩ := (show rounds msg startS 5 = round (kAt 4) (wSched msg 4) (rounds msg startS 4) from rfl).trans (by rw [w4, r4]; kernel_rfl)
theorem r6 : rounds msg startS 6 = ⟨725748213, 71342698, 3578852966, 3368241063, 1900175533, 1135452741, 618661968, 4180228587⟩ := (show rounds msg startS 6 = round (kAt 5) (wSched msg 5) (rounds msg startS 5) from rfl).trans (by rw [w5, r5]; kernel_rfl)
theorem r7 : rounds msg startS 7 = ⟨3842179968, 725748213, 71342698, 3578852966, 2603066369, 1900175533, 1135452741, 618661968⟩ := (show rounds msg startS 7 = round (kAt 6) (wSched msg 6) (rounds msg startS 6) from rfl).trans (by rw [w6, r6]; kernel_rfl)
theorem r8 : rounds msg startS 8 = ⟨2241887071, 3842179968, 725748213, 71342698, 207977081, 2603066369, 1900175533, 1135452741⟩ := (show rounds msg startS 8 = round (kAt 7) (wSched msg 7) (rounds msg startS 7) from rfl).trans (by rw [w7, r7]; kernel_rfl)
theorem r9 : rounds msg startS 9 = ⟨2382687417, 2241887071, 3842179968, 725748213, 852110732, 207977081, 2603066369, 1900175533⟩ := (show rounds msg startS 9 = round (kAt 8) (wSched msg 8) (rounds msg startS 8) from rfl).trans (by rw [w8, r8]; kernel_rfl)
theorem r10 : rounds msg startS 10 = ⟨2357671019, 2382687417, 2241887071, 3842179968, 482944406, 852110732, 207977081, 2603066369⟩ := (show rounds msg startS 10 = round (kAt 9) (wSched msg 9) (rounds msg startS 9) from rfl).trans (by rw [w9, r9]; kernel_rfl)
theorem r11 : rounds msg startS 11 = ⟨1201185780, 2357671019, 2382687417, 2241887071, 1131095016, 482944406, 852110732, 207977081⟩ := (show rounds msg startS 11 = round (kAt 10) (wSched msg 10) (rounds msg startS 10) from rfl).trans (by rw [w10, r10]; kernel_rfl)
theorem r12 : rounds msg startS 12 = ⟨4146054569, 1201185780, 2357671019, 2382687417, 2171590377, 1131095016, 482944406, 852110732⟩ := (show rounds msg startS 12 = round (kAt 11) (wSched msg 11) (rounds msg startS 11) from rfl).trans (by rw [w11, r11]; kernel_rfl)
theorem r13 : rounds msg startS 13 = ⟨2274437520, 4146054569, 1201185780, 2357671019, 509051416, 2171590377, 1131095016, 482944406⟩ := (show rounds msg startS 13 = round (kAt 12) (wSched msg 12) (rounds msg startS 12) from rfl).trans (by rw [w12, r12]; kernel_rfl)
theorem r14 : rounds msg startS 14 = ⟨3643992854, 2274437520, 4146054569, 1201185780, 1952073950, 509051416, 2171590377, 1131095016⟩ := (show rounds msg startS 14 = round (kAt 13) (wSched msg 13) (rounds msg startS 13) from rfl).trans (by rw [w13, r13]; kernel_rfl)
theorem r15 : rounds msg startS 15 = ⟨3227803614, 3643992854, 2274437520, 4146054569, 194179596, 1952073950, 509051416, 2171590377⟩ := (show rounds msg startS 15 = round (kAt 14) (wSched msg 14) (rounds msg startS 14) from rfl).trans (by rw [w14, r14]; kernel_rfl)
theorem r16 : rounds msg startS 16 = ⟨2969183118, 3227803614, 3643992854, 2274437520, 123276749, 194179596, 1952073950, 509051416⟩ := (show rounds msg startS 16 = round (kAt 15) (wSched msg 15) (rounds msg startS 15) from rfl).trans (by rw [w15, r15]; kernel_rfl)
theorem r17 : rounds msg startS 17 = ⟨567974555, 2969183118, 3227803614, 3643992854, 2150900380, 123276749, 194179596, 1952073950⟩ := (show rounds msg startS 17 = round (kAt 16) (wSched msg 16) (rounds msg startS 16) from rfl).trans (by rw [w16, r16]; kernel_rfl)
theorem r18 : rounds msg startS 18 = ⟨3271285201, 567974555, 2969183118, 3227803614, 2221859924, 2150900380, 123276749, 194179596⟩ := (show rounds msg startS 18 = round (kAt 17) (wSched msg 17) (rounds msg startS 17) from rfl).trans (by rw [w17, r17]; kernel_rfl)
theorem r19 : rounds msg startS 19 = ⟨4269243327, 3271285201, 567974555, 2969183118, 3431569761, 2221859924, 2150900380, 123276749⟩ := (show rounds msg startS 19 = round (kAt 18) (wSched msg 18) (rounds msg startS 18) from rfl).trans (by rw [w18, r18]; kernel_rfl)
theorem r20 : rounds msg startS 20 = ⟨3790736435, 4269243327, 3271285201, 567974555, 2959311225, 3431569761, 2221859924, 2150900380⟩ := (show rounds msg startS 20 = round (kAt 19) (wSched msg 19) (rounds msg startS 19) from rfl).trans (by rw [w19, r19]; kernel_rfl)
theorem r21 : rounds msg startS 21 = ⟨2647034723, 3790736435, 4269243327, 3271285201, 2329577776, 2959311225, 3431569761, 2221859924⟩ := (show rounds msg startS 21 = round (kAt 20) (wSched msg 20) (rounds msg startS 20) from rfl).trans (by rw [w20, r20]; kernel_rfl)
theorem r22 : rounds msg startS 22 = ⟨3261099373, 2647034723, 3790736435, 4269243327, 3777329520, 2329577776, 2959311225, 3431569761⟩ := (show rounds msg startS 22 = round (kAt 21) (wSched msg 21) (rounds msg startS 21) from rfl).trans (by rw [w21, r21]; kernel_rfl)
theorem r23 : rounds msg startS 23 = ⟨2812502591, 3261099373, 2647034723, 3790736435, 1240797514, 3777329520, 2329577776, 2959311225⟩ := (show rounds msg startS 23 = round (kAt 22) (wSched msg 22) (rounds msg startS 22) from rfl).trans (by rw [w22, r22]; kernel_rfl)
theorem r24 : rounds msg startS 24 = ⟨3319086477, 2812502591, 3261099373, 2647034723, 2856829767, 1240797514, 3777329520, 2329577776⟩ := (show rounds msg startS 24 = round (kAt 23) (wSched msg 23) (rounds msg startS 23) from rfl).trans (by rw [w23, r23]; kernel_rfl)
theorem r25 : rounds msg startS 25 = ⟨472655928, 3319086477, 2812502591, 3261099373, 673443729, 2856829767, 1240797514, 3777329520⟩ := (show rounds msg startS 25 = round (kAt 24) (wSched msg 24) (rounds msg startS 24) from rfl).trans (by rw [w24, r24]; kernel_rfl)
theorem r26 : rounds msg startS 26 = ⟨3454534525, 472655928, 3319086477, 2812502591, 339230094, 673443729, 2856829767, 1240797514⟩ := (show rounds msg startS 26 = round (kAt 25) (wSched msg 25) (rounds msg startS 25) from rfl).trans (by rw [w25, r25]; kernel_rfl)
theorem r27 : rounds msg startS 27 = ⟨3056518332, 3454534525, 472655928, 3319086477, 3343672598, 339230094, 673443729, 2856829767⟩ := (show rounds msg startS 27 = round (kAt 26) (wSched msg 26) (rounds msg startS 26) from rfl).trans (by rw [w26, r26]; kernel_rfl)
theorem r28 : rounds msg startS 28 = ⟨2010346792, 3056518332, 3454534525, 472655928, 3992961016, 3343672598, 339230094, 673443729⟩ := (show rounds msg startS 28 = round (kAt 27) (wSched msg 27) (rounds msg startS 27) from rfl).trans (by rw [w27, r27]; kernel_rfl)
theorem r29 : rounds msg startS 29 = ⟨909411017, 2010346792, 3056518332, 3454534525, 1628611511, 3992961016, 3343672598, 339230094⟩ := (show rounds msg startS 29 = round (kAt 28) (wSched msg 28) (rounds msg startS 28) from rfl).trans (by rw [w28, r28]; kernel_rfl)
theorem r30 : rounds msg startS 30 = ⟨2684750640, 909411017, 2010346792, 3056518332, 2917635127, 1628611511, 3992961016, 3343672598⟩ := (show rounds msg startS 30 = round (kAt 29) (wSched msg 29) (rounds msg startS 29) from rfl).trans (by rw [w29, r29]; kernel_rfl)
theorem r31 : rounds msg startS 31 = ⟨3935906338, 2684750640, 909411017, 2010346792, 17410874, 2917635127, 1628611511, 3992961016⟩ := (show rounds msg startS 31 = round (kAt 30) (wSched msg 30) (rounds msg startS 30) from rfl).trans (by rw [w30, r30]; kernel_rfl)
theorem r32 : rounds msg startS 32 = ⟨1941126133, 3935906338, 2684750640, 909411017, 3126399250, 17410874, 2917635127, 1628611511⟩ := (show rounds msg startS 32 = round (kAt 31) (wSched msg 31) (rounds msg startS 31) from rfl).trans (by rw [w31, r31]; kernel_rfl)
theorem r33 : rounds msg startS 33 = ⟨2564891911, 1941126133, 3935906338, 2684750640, 2631529974, 3126399250, 17410874, 2917635127⟩ := (show rounds msg startS 33 = round (kAt 32) (wSched msg 32) (rounds msg startS 32) from rfl).trans (by rw [w32, r32]; kernel_rfl)
theorem r34 : rounds msg startS 34 = ⟨4267724277, 2564891911, 1941126133, 3935906338, 1495571923, 2631529974, 3126399250, 17410874⟩ := (show rounds msg startS 34 = round (kAt 33) (wSched msg 33) (rounds msg startS 33) from rfl).trans (by rw [w33, r33]; kernel_rfl)
theorem r35 : rounds msg startS 35 = ⟨2846323596, 4267724277, 2564891911, 1941126133, 140458035, 1495571923, 2631529974, 3126399250⟩ := (show rounds msg startS 35 = round (kAt 34) (wSched msg 34) (rounds msg startS 34) from rfl).trans (by rw [w34, r34]; kernel_rfl)
theorem r36 : rounds msg startS 36 = ⟨1705037796, 2846323596, 4267724277, 2564891911, 4105175766, 140458035, 1495571923, 2631529974⟩ := (show rounds msg startS 36 = round (kAt 35) (wSched msg 35) (rounds msg startS 35) from rfl).trans (by rw [w35, r35]; kernel_rfl)
theorem r37 : rounds msg startS 37 = ⟨1101421745, 1705037796, 2846323596, 4267724277, 124953195, 4105175766, 140458035, 1495571923⟩ := (show rounds msg startS 37 = round (kAt 36) (wSched msg 36) (rounds msg startS 36) from rfl).trans (by rw [w36, r36]; kernel_rfl)
theorem r38 : rounds msg startS 38 = ⟨887035396, 1101421745, 1705037796, 2846323596, 2768741693, 124953195, 4105175766, 140458035⟩ := (show rounds msg startS 38 = round (kAt 37) (wSched msg 37) (rounds msg startS 37) from rfl).trans (by rw [w37, r37]; kernel_rfl)
theorem r39 : rounds msg startS 39 = ⟨1841658506, 887035396, 1101421745, 1705037796, 4034403272, 2768741693, 124953195, 4105175766⟩ := (show rounds msg startS 39 = round (kAt 38) (wSched msg 38) (rounds msg startS 38) from rfl).trans (by rw [w38, r38]; kernel_rfl)
theorem r40 : rounds msg startS 40 = ⟨2045405306, 1841658506, 887035396, 1101421745, 519815328, 4034403272, 2768741693, 124953195⟩ := (show rounds msg startS 40 = round (kAt 39) (wSched msg 39) (rounds msg startS 39) from rfl).trans (by rw [w39, r39]; kernel_rfl)
theorem r41 : rounds msg startS 41 = ⟨3597076326, 2045405306, 1841658506, 887035396, 641019235, 519815328, 4034403272, 2768741693⟩ := (show rounds msg startS 41 = round (kAt 40) (wSched msg 40) (rounds msg startS 40) from rfl).trans (by rw [w40, r40]; kernel_rfl)
theorem r42 : rounds msg startS 42 = ⟨3745932591, 3597076326, 2045405306, 1841658506, 2206934801, 641019235, 519815328, 4034403272⟩ := (show rounds msg startS 42 = round (kAt 41) (wSched msg 41) (rounds msg startS 41) from rfl).trans (by rw [w41, r41]; kernel_rfl)
theorem r43 : rounds msg startS 43 = ⟨397020670, 3745932591, 3597076326, 2045405306, 3737995029, 2206934801, 641019235, 519815328⟩ := (show rounds msg startS 43 = round (kAt 42) (wSched msg 42) (rounds msg startS 42) from rfl).trans (by rw [w42, r42]; kernel_rfl)
theorem r44 : rounds msg startS 44 = ⟨2638983059, 397020670, 3745932591, 3597076326, 4255271982, 3737995029, 2206934801, 641019235⟩ := (show rounds msg startS 44 = round (kAt 43) (wSched msg 43) (rounds msg startS 43) from rfl).trans (by rw [w43, r43]; kernel_rfl)
theorem r45 : rounds msg startS 45 = ⟨643991573, 2638983059, 397020670, 3745932591, 2819559920, 4255271982, 3737995029, 2206934801⟩ := (show rounds msg startS 45 = round (kAt 44) (wSched msg 44) (rounds msg startS 44) from rfl).trans (by rw [w44, r44]; kernel_rfl)
theorem r46 : rounds msg startS 46 = ⟨1923828625, 643991573, 2638983059, 397020670, 3077922209, 2819559920, 4255271982, 3737995029⟩ := (show rounds msg startS 46 = round (kAt 45) (wSched msg 45) (rounds msg startS 45) from rfl).trans (by rw [w45, r45]; kernel_rfl)
theorem r47 : rounds msg startS 47 = ⟨2706117808, 1923828625, 643991573, 2638983059, 3581645993, 3077922209, 2819559920, 4255271982⟩ := (show rounds msg startS 47 = round (kAt 46) (wSched msg 46) (rounds msg startS 46) from rfl).trans (by rw [w46, r46]; kernel_rfl)
theorem r48 : rounds msg startS 48 = ⟨1098003085, 2706117808, 1923828625, 643991573, 4274981830, 3581645993, 3077922209, 2819559920⟩ := (show rounds msg startS 48 = round (kAt 47) (wSched msg 47) (rounds msg startS 47) from rfl).trans (by rw [w47, r47]; kernel_rfl)
theorem r49 : rounds msg startS 49 = ⟨91585771, 1098003085, 2706117808, 1923828625, 3178315832, 4274981830, 3581645993, 3077922209⟩ := (show rounds msg startS 49 = round (kAt 48) (wSched msg 48) (rounds msg startS 48) from rfl).trans (by rw [w48, r48]; kernel_rfl)
theorem r50 : rounds msg startS 50 = ⟨4045142696, 91585771, 1098003085, 2706117808, 1851537676, 3178315832, 4274981830, 3581645993⟩ := (show rounds msg startS 50 = round (kAt 49) (wSched msg 49) (rounds msg startS 49) from rfl).trans (by rw [w49, r49]; kernel_rfl)
theorem r51 : rounds msg startS 51 = ⟨2047150241, 4045142696, 91585771, 1098003085, 1391578359, 1851537676, 3178315832, 4274981830⟩ := (show rounds msg startS 51 = round (kAt 50) (wSched msg 50) (rounds msg startS 50) from rfl).trans (by rw [w50, r50]; kernel_rfl)
theorem r52 : rounds msg startS 52 = ⟨2288941602, 2047150241, 4045142696, 91585771, 1227037726, 1391578359, 1851537676, 3178315832⟩ := (show rounds msg startS 52 = round (kAt 51) (wSched msg 51) (rounds msg startS 51) from rfl).trans (by rw [w51, r51]; kernel_rfl)
theorem r53 : rounds msg startS 53 = ⟨270520975, 2288941602, 2047150241, 4045142696, 1386118400, 1227037726, 1391578359, 1851537676⟩ := (show rounds msg startS 53 = round (kAt 52) (wSched msg 52) (rounds msg startS 52) from rfl).trans (by rw [w52, r52]; kernel_rfl)
theorem r54 : rounds msg startS 54 = ⟨4117770203, 270520975, 2288941602, 2047150241, 2672265155, 1386118400, 1227037726, 1391578359⟩ := (show rounds msg startS 54 = round (kAt 53) (wSched msg 53) (rounds msg startS 53) from rfl).trans (by rw [w53, r53]; kernel_rfl)
theorem r55 : rounds msg startS 55 = ⟨1053056219, 4117770203, 270520975, 2288941602, 3842906959, 2672265155, 1386118400, 1227037726⟩ := (show rounds msg startS 55 = round (kAt 54) (wSched msg 54) (rounds msg startS 54) from rfl).trans (by rw [w54, r54]; kernel_rfl)
theorem r56 : rounds msg startS 56 = ⟨952932627, 1053056219, 4117770203, 270520975, 1422599787, 3842906959, 2672265155, 1386118400⟩ := (show rounds msg startS 56 = round (kAt 55) (wSched msg 55) (rounds msg startS 55) from rfl).trans (by rw [w55, r55]; kernel_rfl)
theorem r57 : rounds msg startS 57 = ⟨4241590395, 952932627, 1053056219, 4117770203, 2606665836, 1422599787, 3842906959, 2672265155⟩ := (show rounds msg startS 57 = round (kAt 56) (wSched msg 56) (rounds msg startS 56) from rfl).trans (by rw [w56, r56]; kernel_rfl)
theorem r58 : rounds msg startS 58 = ⟨3227702383, 4241590395, 952932627, 1053056219, 2118385806, 2606665836, 1422599787, 3842906959⟩ := (show rounds msg startS 58 = round (kAt 57) (wSched msg 57) (rounds msg startS 57) from rfl).trans (by rw [w57, r57]; kernel_rfl)
theorem r59 : rounds msg startS 59 = ⟨4290184306, 3227702383, 4241590395, 952932627, 1837350854, 2118385806, 2606665836, 1422599787⟩ := (show rounds msg startS 59 = round (kAt 58) (wSched msg 58) (rounds msg startS 58) from rfl).trans (by rw [w58, r58]; kernel_rfl)
theorem r60 : rounds msg startS 60 = ⟨3064893439, 4290184306, 3227702383, 4241590395, 2988158269, 1837350854, 2118385806, 2606665836⟩ := (show rounds msg startS 60 = round (kAt 59) (wSched msg 59) (rounds msg startS 59) from rfl).trans (by rw [w59, r59]; kernel_rfl)
theorem r61 : rounds msg startS 61 = ⟨3093179625, 3064893439, 4290184306, 3227702383, 2518632596, 2988158269, 1837350854, 2118385806⟩ := (show rounds msg startS 61 = round (kAt 60) (wSched msg 60) (rounds msg startS 60) from rfl).trans (by rw [w60, r60]; kernel_rfl)
theorem r62 : rounds msg startS 62 = ⟨80891244, 3093179625, 3064893439, 4290184306, 2492278198, 2518632596, 2988158269, 1837350854⟩ := (show rounds msg startS 62 = round (kAt 61) (wSched msg 61) (rounds msg startS 61) from rfl).trans (by rw [w61, r61]; kernel_rfl)
theorem r63 : rounds msg startS 63 = ⟨3550093669, 80891244, 3093179625, 3064893439, 4212265488, 2492278198, 2518632596, 2988158269⟩ := (show rounds msg startS 63 = round (kAt 62) (wSched msg 62) (rounds msg startS 62) from rfl).trans (by rw [w62, r62]; kernel_rfl)
theorem r64 : rounds msg startS 64 = ⟨1349398616, 3550093669, 80891244, 3093179625, 1593118500, 4212265488, 2492278198, 2518632596⟩ := (show rounds msg startS 64 = round (kAt 63) (wSched msg 63) (rounds msg startS 63) from rfl).trans (by rw [w63, r63]; kernel_rfl)
theorem block : blockS startS msg = ⟨3128432319, 2399260650, 1094795486, 1571693091, 2953011619, 2518121116, 3021012833, 4060091821⟩ := by unfold blockS; rw [r64]; kernel_rfl
theorem pad : padTo [97, 98, 99] 3 = msg := by kernel_rfl
theorem over : overS startS msg = ⟨3128432319, 2399260650, 1094795486, 1571693091, 2953011619, 2518121116, 3021012833, 4060091821⟩ := by rw [overS_hi (by decide), show msg.take 64 = msg from rfl, show msg.drop 64 = [] from rfl, overS_lo (by decide), block]
theorem hex : hexOf (sha [97, 98, 99]) = [98, 97, 55, 56, 49, 54, 98, 102, 56, 102, 48, 49, 99, 102, 101, 97, 52, 49, 52, 49, 52, 48, 100, 101, 53, 100, 97, 101, 50, 50, 50, 51, 98, 48, 48, 51, 54, 49, 97, 51, 57, 54, 49, 55, 55, 97, 57, 99, 98, 52, 49, 48, 102, 102, 54, 49, 102, 50, 48, 48, 49, 53, 97, 100] := by
  unfold sha endOf
  rw [restOf_lo (b := [97, 98, 99]) (by decide), show ([97, 98, 99] : List UInt8).length = 3 from rfl, pad, overS_lo (b := [97, 98, 99]) (by decide), over]
  kernel_rfl
end Go.Proofs.YtmgpllakpgjicaaDoor.Abc

namespace Go.Proofs.YtmgpllakpgjicaaDoor
open Go.RowKit
set_option linter.unusedVariables false
/-- append of one piece that was just built, at a step of a region that draws its order -/
theorem step_append_new {ops : Array Oper} {o : Oper} {a : Act} {K : Act → World → Prop} {Q : Exit → Act → World → Prop} {X : Prop} {w : World} {t e : TypeId} {z : Value} {size bytes : Nat}
    (E : ElemOk t e z size bytes) (hgd : o.guard = none) (s x : Operand) (ho : o.op = .call { callee := .builtin .append, args := #[s, x], argTypes := #[t, t] })
    {A : Option Addr} {B n cap : Nat} {xs : List Value} (hs : a.eval s = .slice A n cap) (hown : w.ownsRow B e size (.slice A n cap) n xs)
    {cs : Array Value} {m c : Nat} (hx : a.eval x = .slice (some ⟨w.heap.size, 0, none⟩) m c) (hl : cs.size = m * size) (h1 : ∀ u ∈ cs.toList, u.oneCell' = true) (hm : 0 < m)
    (hbytes : (n + m) * bytes ≤ 140737488355328) (h63 : n + m ≤ maxLen) (hB : B ≤ w.heap.size)
    (h : ∀ g cap' w', w'.ownsRow B e size (.slice (some ⟨g, 0, none⟩) (n + m) cap') (n + m) (xs ++ cs.toList) → w.grownBy w' (Value.ownBlock (.slice A n cap)) → (Value.ownBlock (.slice A n cap) = some g ∨ w.heap.size ≤ g) →
      K (a.put o.dst (.slice (some ⟨g, 0, none⟩) (n + m) cap')) w') :
    if Region.wanted o (yielded ops a.tmps) = true then Oper.wp Tryd.prog o a (w.alloc (.cells cs e)) K Q else X := by
  obtain ⟨i0, hi0, hz0, hz1, hz2⟩ := info_parts E.info
  refine step_append_lies _ hgd s x t ho B e i0 z size bytes E.under hi0 hz0 hz1 hz2 E.zcells E.pos _ n xs hs (hown.alloc _) ⟨w.heap.size, 0, none⟩ m c cs.toList hx (by simpa using hl) ?_ h1 hm h63 hbytes (by simp; omega) _ rfl ?_
  · intro j u hu
    have hc : (w.alloc (.cells cs e)).cell? ⟨w.heap.size, j, none⟩ = cs[j]? := World.cell?_alloc_mark w cs e (0, 0) j
    rw [add_zero_block, hc]
    simpa using hu
  · intro g cap' w' hown' hg hat _
    refine h g cap' w' hown' ⟨hg.os, hg.tape, hg.output, by have := hg.size; simp at this; omega, fun k hk hne => (hg.block k (by simp; omega) hne).trans (Below.heap_alloc w _ k hk)⟩ ?_
    rcases hat with h | h
    · exact .inl h
    · right; simp at h; omega
theorem digit_at (n : Nat) (h : n < 16) (k : Int) (hk : k = (n : Int)) (w : World) :
    (Instr.index 9 (.string (bs [48, 49, 50, 51, 52, 53, 54, 55, 56, 57, 97, 98, 99, 100, 101, 102])) (.int .u8 k)).run Tryd.prog w = .ok (byteV (hexD n)) w := by
  subst hk
  rw [run_index_string w 9 _ _ _ Tryd.underlying9]
  have h16 : (n : Int) < 16 := by omega
  simp only [bs_size, List.length_cons, List.length_nil]
  rw [dif_pos ⟨by omega, by omega⟩]
  simp [bs_get, hexD, hexL, byteV, List.getD, h]
theorem and15 (c : UInt8) : bits .and .u8 (c.toNat : Int) 15 = ((c.toNat % 16 : Nat) : Int) := by
  have := c.toNat_lt
  exact (u8_and_nat c.toNat 15 (by omega) (by omega)).trans (congrArg _ (Nat.and_two_pow_sub_one_eq_mod c.toNat 4))

set_option maxRecDepth 100000 in
set_option maxHeartbeats 1000000 in
theorem hex_any (b : List UInt8) (w : World) (hb : b.length ≤ 17592186044416) :
    Calls Tryd.prog 91 #[.string (bs b)] w fun e w' => e = .returned (.string (bs (hexOf b))) ∧ Gr w w' := by
  obtain ⟨i0, hi0, hz0, hz1, hz2⟩ := info_parts E.u8.info
  obtain ⟨w1, hmk, hown, hgr⟩ := run_make_own (P := Tryd.prog) w w.heap.size 77 5 i0 (.int .u8 0) 1 Tryd.underlying77 hi0 hz0 hz1 .i64 .i64 (2 * b.length) (by rw [hz2]; omega) (by unfold maxLen; omega) (Nat.le_refl _)
  have hg1 : Gr w w1 := (Gr.refl w).grown hgr (by rintro k hk; cases hk)
  have e2 : ((2 * b.length : Nat) : Int) = 2 * (b.length : Int) := by simp
  rw [e2] at hmk
  obtain ⟨w2, cap, hcv, hg2, hB⟩ := conv_brow Tryd.underlying9 Tryd.underlying77 Tryd.underlying5 w1 b (by unfold maxLen; omega)
  have hown2 := own_gr hown hg2
  have hmsz := (hown.lt w.heap.size rfl).2
  have hgt := hg1.trans hg2
  have hb1 : w.heap.size ≤ w1.heap.size := hg1.size
  clear hgr hg1 hg2 hown e2 hi0 hz0 hz1 hz2
  go_enter Tryd.func91, Tryd.ntmps91
  go_wp2_with fail
  obtain ⟨g1, hg1⟩ : ∃ g1, g1 = w1.heap.size := ⟨_, rfl⟩
  rw [← hg1] at hB
  rw [← hg1]
  have hne : w.heap.size ≠ g1 := by
    have := (hown2.lt w.heap.size rfl).2
    have : g1 = w1.heap.size := hg1
    have h1 := hmsz
    omega
  have hB0 : BRow w2 w.heap.size g1 cap b := ⟨by omega, hB.lt, hB.le, hB.max, hB.there, hB.at_⟩
  clear hB hg1 hb1 hmsz hmk hcv
  rw [show ({ data := #[] } : ByteArray) = bs [] from rfl]
  go_loopw [3, 13, 5] (fun v iv _ wr => ∃ (j n : Nat) (ad : Option Addr) (cap2 : Nat), iv = .int .i64 j ∧ j ≤ b.length ∧ v = .slice ad n cap2 ∧ n = 2 * j ∧ wr.ownsRow w.heap.size 5 1 (.slice ad n cap2) n ((hexOf (b.take j)).map byteV) ∧ Value.ownBlock (.slice ad n cap2) ≠ some g1 ∧ BRow wr w.heap.size g1 cap b ∧ Gr w wr)
    (fun _ iv _ _ => b.length - (intOf iv).toNat)
  case atStart => exact ⟨0, 0, _, _, rfl, by omega, rfl, rfl, hown2, by simp [Value.ownBlock]; exact hne, hB0, hgt⟩
  case round =>
    clear hown2 hB0 hgt hne
    obtain ⟨j, n, ad, cap2, rfl, hj, rfl, hn, hown, hne, hB, hg⟩ := hrel
    by_cases hlt : j < b.length
    · have hji : (j : Int) < (b.length : Int) := by omega
      have hbc : wr.cell? ⟨g1, j, none⟩ = some (.int .u8 (b[j].toNat : Int)) := hB.at_ j _ (by simp [hlt, byteV])
      obtain ⟨c, hc⟩ : ∃ c, c = b[j] := ⟨_, rfl⟩
      rw [← hc] at hbc
      have HC := sec hc
      have hn2 : n + 2 ≤ 140737488355328 := by omega
      have hn3 : n + 2 ≤ maxLen := by unfold maxLen; omega
      have HH : Sec ((hexOf (b.take (j + 1))) = hexOf (b.take j) ++ [hexD (c.toNat / 16), hexD (c.toNat % 16)]) := sec (by
        rw [hc, List.take_succ_eq_append_getElem hlt, hexOf_snoc])
      have i1 := digit_at (c.toNat / 16) (by have := c.toNat_lt; omega) ((c.toNat : Int) / 16) (by simp)
      have i2 := digit_at (c.toNat % 16) (by omega) ((c.toNat : Int) % 16) (by simp)
      have a15 := and15 c
      rw [show ((c.toNat % 16 : Nat) : Int) = (c.toNat : Int) % 16 by simp] at a15
      have HN := sec hn
      clear hc hn
      unfold byteV at i1 i2
      go_wp2_with fail
      go_region_law ((refine step_append_new E.u8 rfl (.tmp 17) (.tmp 24) rfl rfl (w := wr.drew) hown.drew rfl rfl (by simp [Value.oneCell']) (by omega) (by omega) hn3 hg.size ?_; intro g' cap' w' hown' hgn hat))
      all_goals
        go_wp2_with fail
        go_roundw
        case rel =>
          refine ⟨j + 1, n + 2, some ⟨g', 0, none⟩, cap', by go_num, by omega, rfl, by have := HN.out; omega, ?_, ?_, ?_, ?_⟩
          · rw [HH.out, List.map_append]
            exact hown'
          · intro e
            have e' : g' = g1 := by simpa [Value.ownBlock] using e
            subst e'
            rcases hat with h | h
            · exact hne h
            · have := hB.lt; simp at h; omega
          · have hb' : w'.heap[g1]? = wr.drew.heap[g1]? := hgn.block g1 hB.lt (fun e => hne e.symm)
            exact ⟨hB.base, Nat.lt_of_lt_of_le hB.lt hgn.size, hB.le, hB.max, fun j hj => by rw [World.cell?_of_block (a := ⟨g1, j, none⟩) hb', World.frozen?_of_block (a := ⟨g1, j, none⟩) hb']; exact hB.there j hj, fun j u hu => by rw [World.cell?_of_block (a := ⟨g1, j, none⟩) hb']; exact hB.at_ j u hu⟩
          · exact hg.drew.grown hgn (fun k hk => (hown.lt k hk).1)
        case measure => simp [intOf]; omega
    · obtain rfl : j = b.length := by omega
      have hcv : (convert 77 9 (.slice ad n cap2)).run Tryd.prog wr = .ok (.string (bs (hexOf b))) wr := by
        have := run_conv_own Tryd.underlying77 Tryd.underlying5 Tryd.underlying9 hown
        rwa [List.take_length] at this
      clear hn
      go_wp2_with fail
      go_ret
      exact ⟨rfl, hg⟩

theorem sha_abc : bs (hexOf (sha [97, 98, 99])) = bs [98, 97, 55, 56, 49, 54, 98, 102, 56, 102, 48, 49, 99, 102, 101, 97, 52, 49, 52, 49, 52, 48, 100, 101, 53, 100, 97, 101, 50, 50, 50, 51, 98, 48, 48, 51, 54, 49, 97, 51, 57, 54, 49, 55, 55, 97, 57, 99, 98, 52, 49, 48, 102, 102, 54, 49, 102, 50, 48, 48, 49, 53, 97, 100] :=
  congrArg bs Abc.hex

end Go.Proofs.YtmgpllakpgjicaaDoor

namespace Go.Proofs.YtmgpllakpgjicaaDoor
open Go.RowKit
set_option linter.unusedVariables false
set_option maxRecDepth 100000 in
set_option maxHeartbeats 1000000 in
theorem digit_any (c : UInt8) (w : World) :
    Calls Tryd.prog 97 #[.int .u8 (c.toNat : Int)] w fun e w' => e = .returned (.int .u8 (unD c : Int)) ∧ w' = w := by
  have hc := c.toNat_lt
  have HU := sec (show unD c = if 48 ≤ c.toNat ∧ c.toNat ≤ 57 then c.toNat - 48 else if 97 ≤ c.toNat ∧ c.toNat ≤ 102 then c.toNat - 87 else 16 from rfl)
  have fin : ∀ (k : Int), k = (unD c : Int) → ∀ w', w' = w → ((Ending.returned (.int .u8 k)) = .returned (.int .u8 (unD c : Int)) ∧ w' = w) := fun k hk w' hg => ⟨by rw [hk], hg⟩
  obtain ⟨n, hn⟩ : ∃ n, n = c.toNat := ⟨_, rfl⟩
  rw [← hn] at HU hc
  rw [← hn]
  clear hn
  by_cases h1 : 48 ≤ n
  · have h1' : (48 : Int) ≤ (n : Int) := by omega
    by_cases h2 : n ≤ 57
    · have h2' : (n : Int) ≤ 57 := by omega
      go_enter Tryd.func97, Tryd.ntmps97
      go_wp2_with fail
      go_ret
      exact fin _ (by rw [HU.out, if_pos ⟨h1, h2⟩]; omega) _ rfl
    · have h2' : ¬ (n : Int) ≤ 57 := by omega
      by_cases h3 : 97 ≤ n
      · have h3' : (97 : Int) ≤ (n : Int) := by omega
        by_cases h4 : n ≤ 102
        · have h4' : (n : Int) ≤ 102 := by omega
          go_enter Tryd.func97, Tryd.ntmps97
          go_wp2_with fail
          go_ret
          exact fin _ (by rw [HU.out, if_neg (fun h => h2 h.2), if_pos ⟨h3, h4⟩]; omega) _ rfl
        · have h4' : ¬ (n : Int) ≤ 102 := by omega
          go_enter Tryd.func97, Tryd.ntmps97
          go_wp2_with fail
          go_ret
          exact fin _ (by rw [HU.out, if_neg (fun h => h2 h.2), if_neg (fun h => h4 h.2)]; rfl) _ rfl
      · have h3' : ¬ (97 : Int) ≤ (n : Int) := by omega
        go_enter Tryd.func97, Tryd.ntmps97
        go_wp2_with fail
        go_ret
        exact fin _ (by rw [HU.out, if_neg (fun h => h2 h.2), if_neg (fun h => h3 h.1)]; rfl) _ rfl
  · have h1' : ¬ (48 : Int) ≤ (n : Int) := by omega
    have h3' : ¬ (97 : Int) ≤ (n : Int) := by omega
    go_enter Tryd.func97, Tryd.ntmps97
    go_wp2_with fail
    go_ret
    exact fin _ (by rw [HU.out, if_neg (fun h => h1 h.1), if_neg (fun h => by omega)]; rfl) _ rfl
end Go.Proofs.YtmgpllakpgjicaaDoor

namespace Go.Proofs.YtmgpllakpgjicaaDoor
set_option maxRecDepth 100000
open Go.RowKit
set_option linter.unusedVariables false
set_option maxHeartbeats 2000000 in
theorem stoFile_any (id : List UInt8) (w : World) (hid : id.length ≤ 1099511627776) :
    Calls Tryd.prog 58 #[.string (bs id)] w fun e w' => e = .returned (.string (bs (fileN id))) ∧ Gr w w' := by
  have HH := sec (hex_any id w (by omega))
  have hl := hexOf_len id
  obtain ⟨X, hX⟩ : ∃ X, X = hexOf id := ⟨_, rfl⟩
  have HF : Sec (fileN id = 111 :: X) := sec (by rw [hX]; rfl)
  rw [← hX] at HH hl
  have hcat : ¬ 9223372036854775807 < 1 + X.length := by omega
  clear hX hl
  go_enter Tryd.func58, Tryd.ntmps58
  go_wp2_with (go_at_call 91; (with_reducible refine Calls.mono HH.out ?_); rintro e w1 ⟨rfl, g1⟩)
  go_ret
  rw [HF.out]
  exact ⟨rfl, g1⟩

set_option maxHeartbeats 8000000 in
theorem stoGet_any (fs : List Fl) (id : List UInt8) (A : Option Addr) (n cap : Nat) (f : Int) (w : World) (hn : n ≤ 1099511627776) (hx : FRow w A n fs) (hs : ∀ f ∈ fs, f.1.length ≤ 1099511627776 ∧ f.2.1.length ≤ 1099511627776 ∧ f.2.2.length ≤ 1099511627776) (hid : id.length ≤ 1099511627776) (hT : TabK w) :
    Calls Tryd.prog 26 #[diskV A n cap f, .string (bs id)] w fun e w' => e = .returned (.tuple #[.string (bs (getR fs id).1), .int .i64 (getR fs id).2]) ∧ Gr w w' := by
  have hg0 := (Gr.refl w).alloc (.cells #[.slice A n cap, .int .i64 f] 43)
  have hb1 := Blk.new w 43 #[.slice A n cap, .int .i64 f]
  obtain ⟨wa, hwa⟩ : ∃ x, x = w.alloc (.cells #[.slice A n cap, .int .i64 f] 43) := ⟨_, rfl⟩
  rw [← hwa] at hg0 hb1
  obtain ⟨p, hp⟩ : ∃ p, p = w.heap.size := ⟨_, rfl⟩
  rw [← hp] at hb1
  have HRd : Sec (∀ W, Gr wa W → Calls Tryd.prog 61 #[diskV A n cap f, .string (bs (fileN id))] W fun e w' => e = .returned (.tuple #[.string (bs (readR fs (fileN id)).1), .int .i64 (readR fs (fileN id)).2]) ∧ Gr W w') := sec (fun W g => read_any fs (fileN id) A n cap f W hn (hx.gr (hg0.trans g)) hs)
  have HRL := readR_le fs (fileN id)
  obtain ⟨V, hV⟩ : ∃ V, V = getR fs id := ⟨_, rfl⟩
  obtain ⟨⟨r, er⟩, hR⟩ : ∃ R, R = readR fs (fileN id) := ⟨_, rfl⟩
  have HV : Sec (V = if id.length = 32 then (if er = 0 then (if sha r = id then (r, 0) else ([], 5)) else ([], er)) else ([], 2)) := sec (by rw [hV]; unfold getR; rw [← hR])
  rw [← hR] at HRd HRL
  rw [← hV]
  simp only at HRL HRd
  unfold diskV at HRd
  unfold diskV
  have HId : Sec (∀ W, Gr wa W → Calls Tryd.prog 11 #[.string (bs r)] W fun e w' => e = .returned (.string (bs (sha r))) ∧ Gr W w') := sec (fun W g => objId_any r W ((hT.gr hg0).gr g) (by omega))
  have HSK : Sec (∀ W, Gr wa W → W.cell? ⟨p, 0, none⟩ = some (.slice A n cap) ∧ W.cell? ⟨p, 1, none⟩ = some (.int .i64 f) ∧ Gr wa W) := sec (fun W g => ⟨(hb1.gr g).cell 0, (hb1.gr g).cell 1, g⟩)

  have HFi := sec (fun W => stoFile_any id W hid)
  obtain ⟨X, hX⟩ : ∃ X, X = fileN id := ⟨_, rfl⟩
  rw [← hX] at HFi HRd
  clear hX
  obtain ⟨c0, c1, _⟩ := HSK.out wa (Gr.refl _)
  clear hx hs hV hR hb1 hT
  by_cases h32 : id.length = 32
  case neg =>
    have q1 : ((id.length : Int) != 32) = true := by rw [bne_iff_ne]; omega
    have HX : Sec (V = ([], 2)) := sec (by rw [HV.out, if_neg h32])
    clear h32 HV
    go_enter Tryd.func26, Tryd.ntmps26
    go_wp2_with fail
    go_ret2
    rw [HX.out]
    rw [← hwa]
    exact ⟨rfl, hg0⟩
  have q1 : ((id.length : Int) != 32) = false := by rw [bne_eq_false_iff_eq]; omega
  have HV2 : Sec (V = if er = 0 then (if sha r = id then (r, 0) else ([], 5)) else ([], er)) := sec (by rw [HV.out, if_pos h32])
  clear h32 HV
  by_cases her : er = 0
  case neg =>
    have q2 : (er != 0) = true := by rw [bne_iff_ne]; exact her
    have HX : Sec (V = ([], er)) := sec (by rw [HV2.out, if_neg her])
    clear her HV2
    go_enter Tryd.func26, Tryd.ntmps26
    go_upto_region 3 with fail
    rw [← hwa, ← hp]
    clear hwa hp
    have gd : Gr wa wa.drew := (Gr.refl _).drew
    go_region_held3 (fun w' => w'.cell? ⟨p, 0, none⟩ = some (.slice A n cap) ∧ w'.cell? ⟨p, 1, none⟩ = some (.int .i64 f) ∧ Gr wa w')
      (first | with_reducible assumption | with_reducible exact HSK.out _ gd | with_reducible exact HSK.out _ g1 | with_reducible exact HSK.out _ g2 | with_reducible exact HSK.out _ (Gr.refl _) | fail)
      (first
        | (go_at_call 58; (with_reducible refine Calls.mono (HFi.out wa.drew) ?_); rintro e w1 ⟨rfl, g1'⟩; have g1 : Gr wa w1 := Gr.trans gd g1')
        | (go_at_call 61; (with_reducible refine Calls.mono (HRd.out w1 g1) ?_); rintro e w2 ⟨rfl, g2'⟩; have g2 : Gr wa w2 := Gr.trans g1 g2')
        | fail)
    all_goals (go_wp2_with fail; go_ret2; rw [HX.out]; exact ⟨rfl, hg0.trans g2⟩)
  subst her
  cases hq : sha r == id with
  | true =>
    have hq' : sha r = id := by simpa using hq
    have HX : Sec (V = (r, 0)) := sec (by rw [HV2.out, if_pos rfl, if_pos hq'])
    rw [hq'] at HId
    clear hq hq' HV2
    go_enter Tryd.func26, Tryd.ntmps26
    go_upto_region 3 with fail
    rw [← hwa, ← hp]
    clear hwa hp
    have gd : Gr wa wa.drew := (Gr.refl _).drew
    go_region_held3 (fun w' => w'.cell? ⟨p, 0, none⟩ = some (.slice A n cap) ∧ w'.cell? ⟨p, 1, none⟩ = some (.int .i64 f) ∧ Gr wa w')
      (first | with_reducible assumption | with_reducible exact HSK.out _ gd | with_reducible exact HSK.out _ g1 | with_reducible exact HSK.out _ g2 | with_reducible exact HSK.out _ (Gr.refl _) | fail)
      (first
        | (go_at_call 58; (with_reducible refine Calls.mono (HFi.out wa.drew) ?_); rintro e w1 ⟨rfl, g1'⟩; have g1 : Gr wa w1 := Gr.trans gd g1')
        | (go_at_call 61; (with_reducible refine Calls.mono (HRd.out w1 g1) ?_); rintro e w2 ⟨rfl, g2'⟩; have g2 : Gr wa w2 := Gr.trans g1 g2')
        | fail)
    all_goals (go_wp2_with (go_at_call 11; (with_reducible refine Calls.mono (HId.out _ g2) ?_); rintro e w3 ⟨rfl, g3⟩); go_ret2; rw [HX.out]; exact ⟨rfl, (hg0.trans g2).trans g3⟩)
  | false =>
    have hq' : ¬ sha r = id := by simpa using hq
    have HX : Sec (V = ([], 5)) := sec (by rw [HV2.out, if_pos rfl, if_neg hq'])
    obtain ⟨S, hS⟩ : ∃ S, S = sha r := ⟨_, rfl⟩
    rw [← hS] at HId hq
    clear hq' hS HV2
    go_enter Tryd.func26, Tryd.ntmps26
    go_upto_region 3 with fail
    rw [← hwa, ← hp]
    clear hwa hp
    have gd : Gr wa wa.drew := (Gr.refl _).drew
    go_region_held3 (fun w' => w'.cell? ⟨p, 0, none⟩ = some (.slice A n cap) ∧ w'.cell? ⟨p, 1, none⟩ = some (.int .i64 f) ∧ Gr wa w')
      (first | with_reducible assumption | with_reducible exact HSK.out _ gd | with_reducible exact HSK.out _ g1 | with_reducible exact HSK.out _ g2 | with_reducible exact HSK.out _ (Gr.refl _) | fail)
      (first
        | (go_at_call 58; (with_reducible refine Calls.mono (HFi.out wa.drew) ?_); rintro e w1 ⟨rfl, g1'⟩; have g1 : Gr wa w1 := Gr.trans gd g1')
        | (go_at_call 61; (with_reducible refine Calls.mono (HRd.out w1 g1) ?_); rintro e w2 ⟨rfl, g2'⟩; have g2 : Gr wa w2 := Gr.trans g1 g2')
        | fail)
    all_goals (go_wp2_with (go_at_call 11; (with_reducible refine Calls.mono (HId.out _ g2) ?_); rintro e w3 ⟨rfl, g3⟩); go_ret2; rw [HX.out]; exact ⟨rfl, (hg0.trans g2).trans g3⟩)
end Go.Proofs.YtmgpllakpgjicaaDoor

namespace Go.Proofs.YtmgpllakpgjicaaDoor
open Go.RowKit
set_option linter.unusedVariables false
set_option maxRecDepth 100000 in
set_option maxHeartbeats 4000000 in
theorem save_any (name s : List UInt8) (fs : List Fl) (A : Option Addr) (n cap : Nat) (f : Int) (w : World) (hx : FRow w A n fs) (hnc : n ≤ cap) (hA : A = none → n = 0 ∧ cap = 0) (hz : Sz fs)
    (hf : -9223372036854775808 ≤ f ∧ f ≤ 9223372036854775807) (hl1 : name.length ≤ 1048576) (hl2 : s.length ≤ 1099511627776) :
    Calls Tryd.prog 57 #[diskV A n cap f, .string (bs name), .string (bs s)] w (StepPost (saveR fs f name s) A n cap fs w) := by
  have hln := hx.len
  have hz1 := hz.1
  have hS0 : SaveSt w w.heap.size A n cap fs ((w.alloc (.cells #[.slice A n cap, .int .i64 f] 43)).alloc (.cells #[.slice none 0 0, .int .i64 0] 43)) A n cap f fs :=
    ⟨((Gr.refl w).alloc _).alloc _, (Blk.new w _ _).alloc _, Blk.new1 w _ _ _, hA, hnc, .inl ⟨rfl, rfl, rfl, rfl⟩⟩
  obtain ⟨wa, hwa⟩ : ∃ x, x = (w.alloc (.cells #[.slice A n cap, .int .i64 f] 43)).alloc (.cells #[.slice none 0 0, .int .i64 0] 43) := ⟨_, rfl⟩
  obtain ⟨p, hp⟩ : ∃ p, p = w.heap.size := ⟨_, rfl⟩
  rw [← hwa, ← hp] at hS0
  have HG := sec (dgood_any fs A n cap f wa (by omega) (hS0.row hx) hz.2)
  obtain ⟨dst, hdst⟩ : ∃ d, d = name ++ dotNew := ⟨_, rfl⟩
  have hdl : dst.length ≤ 1099511627776 := by rw [hdst, List.length_append]; simp only [dotNew, List.length_cons, List.length_nil]; omega
  have hbd : bs (name ++ [46, 110, 101, 119]) = bs dst := by rw [hdst]; rfl
  have HN1 := sec (fun w => named_any name w (by omega))
  have HN2 := sec (fun w => named_any dst w (by omega))
  have HP := sec hp
  have HX := sec hx
  have HZ := sec hz
  have HFU := sec hf
  have HL1 := sec (show name.length ≤ 1099511627776 by omega)
  have HL2 := sec hl2
  have HLD := sec hdl
  have HDST := sec hdst
  have S0 := sec hS0
  have hpp : p + 1 ≠ p := by omega
  have hl4 : ¬ 9223372036854775807 < name.length + 4 := by omega
  obtain ⟨x1, x2, x3, x4, x5, x6, x7, x8⟩ := hS0.facts
  unfold diskV at HG
  unfold diskV
  clear hx hA hz hz1 hf hl1 hl2 hdl hdst hnc hS0 hln
  cases hgf : goodFs fs with
  | false =>
    have HR : Sec (saveR fs f name s = (fs, f, 3)) := sec (by unfold saveR; rw [hgf]; rfl)
    rw [hgf] at HG
    clear hgf
    go_enter Tryd.func57, Tryd.ntmps57
    go_wp2_with (first | (rw [← hwa, ← hp]; clear hwa hp; go_wp2_with fail) | (go_at_call 84; refine Calls.mono HG.out ?_; rintro e w1 ⟨rfl, g1⟩; have S1 := sec (S0.out.gr g1); obtain ⟨x1, x2, x3, x4, x5, x6, x7, x8⟩ := S1.out.facts))
    obtain ⟨hb9, hg9, hn9, ha9⟩ := S1.out.done HP.out
    refine bodyPost_ret (results_blk_tmp rfl _ rfl hb9 aggDisk) rfl ?_
    rw [HR.out]
    exact ⟨A, n, cap, rfl, hg9, hn9, ha9⟩
  | true =>
    rw [hgf] at HG
    cases hnb1 : namedB name with
    | false =>
      have HR : Sec (saveR fs f name s = (fs, f, 2)) := sec (by unfold saveR; rw [hgf, hnb1]; rfl)
      rw [hnb1] at HN1
      clear hgf hnb1
      go_enter Tryd.func57, Tryd.ntmps57
      go_wp2_with (first | (rw [← hwa, ← hp]; clear hwa hp; go_wp2_with fail) | (go_at_call 84; refine Calls.mono HG.out ?_; rintro e w1 ⟨rfl, g1⟩; have S1 := sec (S0.out.gr g1); obtain ⟨x1, x2, x3, x4, x5, x6, x7, x8⟩ := S1.out.facts) | (go_at_call 85; (with_reducible refine Calls.mono (HN1.out _) ?_); rintro e w2 ⟨rfl, g2⟩; have S2 := sec (S1.out.gr g2); obtain ⟨x1, x2, x3, x4, x5, x6, x7, x8⟩ := S2.out.facts))
      obtain ⟨hb9, hg9, hn9, ha9⟩ := S2.out.done HP.out
      refine bodyPost_ret (results_blk_tmp rfl _ rfl hb9 aggDisk) rfl ?_
      rw [HR.out]
      exact ⟨A, n, cap, rfl, hg9, hn9, ha9⟩
    | true =>
      rw [hnb1] at HN1
      cases hnb2 : namedB dst with
      | false =>
        have HR : Sec (saveR fs f name s = (fs, f, 2)) := sec (by unfold saveR; rw [hgf, hnb1, ← HDST.out, hnb2]; rfl)
        rw [hnb2] at HN2
        clear hgf hnb1 hnb2
        go_enter Tryd.func57, Tryd.ntmps57
        go_wp2_with (first | (rw [← hwa, ← hp]; clear hwa hp; go_wp2_with fail) | (go_at_call 84; refine Calls.mono HG.out ?_; rintro e w1 ⟨rfl, g1⟩; have S1 := sec (S0.out.gr g1); obtain ⟨x1, x2, x3, x4, x5, x6, x7, x8⟩ := S1.out.facts) | (go_at_call 85; (with_reducible refine Calls.mono (HN1.out _) ?_); rintro e w2 ⟨rfl, g2⟩; have S2 := sec (S1.out.gr g2); obtain ⟨x1, x2, x3, x4, x5, x6, x7, x8⟩ := S2.out.facts) | (go_at_call 85; (with_reducible refine Calls.mono (HN2.out _) ?_); rintro e w3 ⟨rfl, g3⟩; have S3 := sec (S2.out.gr g3); obtain ⟨x1, x2, x3, x4, x5, x6, x7, x8⟩ := S3.out.facts))
        obtain ⟨hb9, hg9, hn9, ha9⟩ := S3.out.done HP.out
        refine bodyPost_ret (results_blk_tmp rfl _ rfl hb9 aggDisk) rfl ?_
        rw [HR.out]
        exact ⟨A, n, cap, rfl, hg9, hn9, ha9⟩
      | true =>
        rw [hnb2] at HN2
        have HV : Sec (saveR fs f name s = save3 fs f name s) := sec (by unfold saveR; rw [hgf, hnb1, ← HDST.out, hnb2]; rfl)
        have HSO := sec (goodFs_sorted hgf)
        clear hgf hnb1 hnb2
        cases hhf : hasF dst fs with
        | false =>
          have HHB := sec hhf
          have HAI : Sec (atI dst fs = -1) := sec (by unfold atI; rw [hhf]; rfl)
          have HHF : Sec (hasF dst fs = false) := sec hhf
          clear hhf
          have Z1 := HZ
          have U1 := HFU
          have HQ0 : Sec (save0 fs f name = (fs, f, 0)) := sec (by unfold save0; rw [← HDST.out, HHB.out]; rfl)
          obtain ⟨⟨gs1, u1, er1⟩, hr1⟩ : ∃ x, x = stepR (wrF dst s) fs f := ⟨_, rfl⟩
          have R1 := sec hr1
          have HQ1 : Sec (save1 fs f name s = (gs1, u1, er1)) := sec (by unfold save1; rw [HQ0.out, if_pos rfl, ← HDST.out, R1.out])
          have Z2 : Sec (Sz gs1) := sec (by have := stepR_sz (F := wrF dst s) (wrF_sz dst s HLD.out) f Z1.out; rwa [← hr1] at this)
          have U2 : Sec (-9223372036854775808 ≤ u1 ∧ u1 ≤ 9223372036854775807) := sec (by have := stepR_fuse (F := wrF dst s) (fs := fs) U1.out; rwa [← hr1] at this)
          have HO1 : Sec (∀ w A n cap, FRow w A n fs → n ≤ cap → (A = none → n = 0 ∧ cap = 0) → Calls Tryd.prog 88 #[diskV A n cap f, .string (bs dst), .string (bs s)] w (StepPost (gs1, u1, er1) A n cap fs w)) := sec (fun w A n cap h hc hA => by
            rw [R1.out]; exact write_any dst s fs A n cap f w (by have := h.len; have := Z1.out.1; omega) h hA Z1.out.2 U1.out HLD.out HL2.out)
          unfold StepPost diskV at HO1
          clear hr1
          by_cases he1 : er1 = 0
          · subst he1
            obtain ⟨⟨gs2, u2, er2⟩, hr2⟩ : ∃ x, x = stepR (syF dst) gs1 u1 := ⟨_, rfl⟩
            have R2 := sec hr2
            have HQ2 : Sec (save2 fs f name s = (gs2, u2, er2)) := sec (by unfold save2; rw [HQ1.out, if_pos rfl, ← HDST.out, R2.out])
            have Z3 : Sec (Sz gs2) := sec (by have := stepR_sz (F := syF dst) (syF_sz dst) u1 Z2.out; rwa [← hr2] at this)
            have U3 : Sec (-9223372036854775808 ≤ u2 ∧ u2 ≤ 9223372036854775807) := sec (by have := stepR_fuse (F := syF dst) (fs := gs1) U2.out; rwa [← hr2] at this)
            have HO2 : Sec (∀ w A n cap, FRow w A n gs1 → n ≤ cap → (A = none → n = 0 ∧ cap = 0) → Calls Tryd.prog 89 #[diskV A n cap u1, .string (bs dst)] w (StepPost (gs2, u2, er2) A n cap gs1 w)) := sec (fun w A n cap h hc hA => by
              rw [R2.out]; exact sync_any dst gs1 A n cap u1 w (by have := h.len; have := Z2.out.1; omega) h hA Z2.out.2 U2.out)
            unfold StepPost diskV at HO2
            clear hr2
            by_cases he2 : er2 = 0
            · subst he2
              obtain ⟨⟨gs3, u3, er3⟩, hr3⟩ : ∃ x, x = stepR (rnF dst name) gs2 u2 := ⟨_, rfl⟩
              have R3 := sec hr3
              have HQ3 : Sec (save3 fs f name s = (gs3, u3, er3)) := sec (by unfold save3; rw [HQ2.out, if_pos rfl, ← HDST.out, R3.out])
              have Z4 : Sec (Sz gs3) := sec (by have := stepR_sz (F := rnF dst name) (rnF_sz dst name HL1.out) u2 Z3.out; rwa [← hr3] at this)
              have U4 : Sec (-9223372036854775808 ≤ u3 ∧ u3 ≤ 9223372036854775807) := sec (by have := stepR_fuse (F := rnF dst name) (fs := gs2) U3.out; rwa [← hr3] at this)
              have HO3 : Sec (∀ w A n cap, FRow w A n gs2 → n ≤ cap → (A = none → n = 0 ∧ cap = 0) → Calls Tryd.prog 90 #[diskV A n cap u2, .string (bs dst), .string (bs name)] w (StepPost (gs3, u3, er3) A n cap gs2 w)) := sec (fun w A n cap h hc hA => by
                rw [R3.out]; exact rename_any dst name gs2 A n cap u2 w (by have := h.len; have := Z3.out.1; omega) h hA Z3.out.2 U3.out HL1.out)
              unfold StepPost diskV at HO3
              clear hr3
              have HR : Sec (saveR fs f name s = (gs3, u3, er3)) := sec (by rw [HV.out]; rw [HQ3.out])
              go_enter Tryd.func57, Tryd.ntmps57
              go_wp2_with (first | (rw [← hwa, ← hp]; clear hwa hp; go_wp2_with fail) | (go_at_call 84; refine Calls.mono HG.out ?_; rintro e w1 ⟨rfl, g1⟩; have S1 := sec (S0.out.gr g1); obtain ⟨x1, x2, x3, x4, x5, x6, x7, x8⟩ := S1.out.facts) | (go_at_call 85; (with_reducible refine Calls.mono (HN1.out _) ?_); rintro e w2 ⟨rfl, g2⟩; have S2 := sec (S1.out.gr g2); obtain ⟨x1, x2, x3, x4, x5, x6, x7, x8⟩ := S2.out.facts) | (go_at_call 85; (with_reducible refine Calls.mono (HN2.out _) ?_); rintro e w3 ⟨rfl, g3⟩; have S3 := sec (S2.out.gr g3); obtain ⟨x1, x2, x3, x4, x5, x6, x7, x8⟩ := S3.out.facts) | (go_at_call 86; refine Calls.mono (find_any fs dst A n cap f w3 (by have := FRow.len HX.out; have := HZ.out.1; omega) (S3.out.row HX.out) HSO.out) ?_; rw [HHF.out]; rintro e w4 ⟨rfl, g4⟩; have S4 := sec (S3.out.gr g4); obtain ⟨x1, x2, x3, x4, x5, x6, x7, x8⟩ := S4.out.facts) | (go_at_call 88; (with_reducible refine Calls.mono (HO1.out _ _ _ _ (S4.out.row HX.out) S4.out.le S4.out.nil) ?_); rintro e w6 ⟨A6, n6, cap6, rfl, g6, hA1, hal1⟩; obtain ⟨x1, x2, x3, x4, x5, x6, x7, x8⟩ := (S4.out.gr g6).facts; have T1 := sec (S4.out.next (gs := gs1) (u := u1) HP.out g6 hA1 hal1)) | (go_at_call 89; (with_reducible refine Calls.mono (HO2.out _ _ _ _ (T1.out.row HX.out) T1.out.le T1.out.nil) ?_); rintro e w7 ⟨A7, n7, cap7, rfl, g7, hA2, hal2⟩; obtain ⟨x1, x2, x3, x4, x5, x6, x7, x8⟩ := (T1.out.gr g7).facts; have T2 := sec (T1.out.next (gs := gs2) (u := u2) HP.out g7 hA2 hal2)) | (go_at_call 90; (with_reducible refine Calls.mono (HO3.out _ _ _ _ (T2.out.row HX.out) T2.out.le T2.out.nil) ?_); rintro e w8 ⟨A8, n8, cap8, rfl, g8, hA3, hal3⟩; obtain ⟨x1, x2, x3, x4, x5, x6, x7, x8⟩ := (T2.out.gr g8).facts; have T3 := sec (T2.out.last (gs := gs3) (u := u3) HP.out g8 hA3 hal3)))
              obtain ⟨hb9, hg9, hn9, ha9⟩ := T3.out
              refine bodyPost_ret (results_blk_tmp rfl _ rfl hb9 aggDisk) rfl ?_
              rw [HR.out]
              exact ⟨A8, n8, cap8, rfl, hg9, hn9, ha9⟩
            · have HR : Sec (saveR fs f name s = (gs2, u2, er2)) := sec (by rw [HV.out]; unfold save3; rw [HQ2.out]; simp only [he2, if_false])
              go_enter Tryd.func57, Tryd.ntmps57
              go_wp2_with (first | (rw [← hwa, ← hp]; clear hwa hp; go_wp2_with fail) | (go_at_call 84; refine Calls.mono HG.out ?_; rintro e w1 ⟨rfl, g1⟩; have S1 := sec (S0.out.gr g1); obtain ⟨x1, x2, x3, x4, x5, x6, x7, x8⟩ := S1.out.facts) | (go_at_call 85; (with_reducible refine Calls.mono (HN1.out _) ?_); rintro e w2 ⟨rfl, g2⟩; have S2 := sec (S1.out.gr g2); obtain ⟨x1, x2, x3, x4, x5, x6, x7, x8⟩ := S2.out.facts) | (go_at_call 85; (with_reducible refine Calls.mono (HN2.out _) ?_); rintro e w3 ⟨rfl, g3⟩; have S3 := sec (S2.out.gr g3); obtain ⟨x1, x2, x3, x4, x5, x6, x7, x8⟩ := S3.out.facts) | (go_at_call 86; refine Calls.mono (find_any fs dst A n cap f w3 (by have := FRow.len HX.out; have := HZ.out.1; omega) (S3.out.row HX.out) HSO.out) ?_; rw [HHF.out]; rintro e w4 ⟨rfl, g4⟩; have S4 := sec (S3.out.gr g4); obtain ⟨x1, x2, x3, x4, x5, x6, x7, x8⟩ := S4.out.facts) | (go_at_call 88; (with_reducible refine Calls.mono (HO1.out _ _ _ _ (S4.out.row HX.out) S4.out.le S4.out.nil) ?_); rintro e w6 ⟨A6, n6, cap6, rfl, g6, hA1, hal1⟩; obtain ⟨x1, x2, x3, x4, x5, x6, x7, x8⟩ := (S4.out.gr g6).facts; have T1 := sec (S4.out.next (gs := gs1) (u := u1) HP.out g6 hA1 hal1)) | (go_at_call 89; (with_reducible refine Calls.mono (HO2.out _ _ _ _ (T1.out.row HX.out) T1.out.le T1.out.nil) ?_); rintro e w7 ⟨A7, n7, cap7, rfl, g7, hA2, hal2⟩; obtain ⟨x1, x2, x3, x4, x5, x6, x7, x8⟩ := (T1.out.gr g7).facts; have T2 := sec (T1.out.next (gs := gs2) (u := u2) HP.out g7 hA2 hal2)))
              obtain ⟨hb9, hg9, hn9, ha9⟩ := T2.out.done HP.out
              refine bodyPost_ret (results_blk_tmp rfl _ rfl hb9 aggDisk) rfl ?_
              rw [HR.out]
              exact ⟨A7, n7, cap7, rfl, hg9, hn9, ha9⟩
          · have HR : Sec (saveR fs f name s = (gs1, u1, er1)) := sec (by rw [HV.out]; unfold save3; unfold save2; rw [HQ1.out]; simp only [he1, if_false])
            go_enter Tryd.func57, Tryd.ntmps57
            go_wp2_with (first | (rw [← hwa, ← hp]; clear hwa hp; go_wp2_with fail) | (go_at_call 84; refine Calls.mono HG.out ?_; rintro e w1 ⟨rfl, g1⟩; have S1 := sec (S0.out.gr g1); obtain ⟨x1, x2, x3, x4, x5, x6, x7, x8⟩ := S1.out.facts) | (go_at_call 85; (with_reducible refine Calls.mono (HN1.out _) ?_); rintro e w2 ⟨rfl, g2⟩; have S2 := sec (S1.out.gr g2); obtain ⟨x1, x2, x3, x4, x5, x6, x7, x8⟩ := S2.out.facts) | (go_at_call 85; (with_reducible refine Calls.mono (HN2.out _) ?_); rintro e w3 ⟨rfl, g3⟩; have S3 := sec (S2.out.gr g3); obtain ⟨x1, x2, x3, x4, x5, x6, x7, x8⟩ := S3.out.facts) | (go_at_call 86; refine Calls.mono (find_any fs dst A n cap f w3 (by have := FRow.len HX.out; have := HZ.out.1; omega) (S3.out.row HX.out) HSO.out) ?_; rw [HHF.out]; rintro e w4 ⟨rfl, g4⟩; have S4 := sec (S3.out.gr g4); obtain ⟨x1, x2, x3, x4, x5, x6, x7, x8⟩ := S4.out.facts) | (go_at_call 88; (with_reducible refine Calls.mono (HO1.out _ _ _ _ (S4.out.row HX.out) S4.out.le S4.out.nil) ?_); rintro e w6 ⟨A6, n6, cap6, rfl, g6, hA1, hal1⟩; obtain ⟨x1, x2, x3, x4, x5, x6, x7, x8⟩ := (S4.out.gr g6).facts; have T1 := sec (S4.out.next (gs := gs1) (u := u1) HP.out g6 hA1 hal1)))
            obtain ⟨hb9, hg9, hn9, ha9⟩ := T1.out.done HP.out
            refine bodyPost_ret (results_blk_tmp rfl _ rfl hb9 aggDisk) rfl ?_
            rw [HR.out]
            exact ⟨A6, n6, cap6, rfl, hg9, hn9, ha9⟩
        | true =>
          have HHB := sec hhf
          have HHF : Sec (hasF dst fs = true) := sec hhf
          obtain ⟨k, hk⟩ : ∃ k, k = lbF dst fs := ⟨_, rfl⟩
          have HAI : Sec (atI dst fs = (k : Int)) := sec (by unfold atI; rw [hhf, hk]; rfl)
          clear hhf hk
          have Z0 := HZ
          have U0 := HFU
          obtain ⟨⟨gs0, u0, er0⟩, hr0⟩ : ∃ x, x = stepR (rmF dst) fs f := ⟨_, rfl⟩
          have R0 := sec hr0
          have HQ0 : Sec (save0 fs f name = (gs0, u0, er0)) := sec (by unfold save0; rw [← HDST.out, HHB.out, if_pos rfl, R0.out])
          have Z1 : Sec (Sz gs0) := sec (by have := stepR_sz (F := rmF dst) (rmF_sz dst) f Z0.out; rwa [← hr0] at this)
          have U1 : Sec (-9223372036854775808 ≤ u0 ∧ u0 ≤ 9223372036854775807) := sec (by have := stepR_fuse (F := rmF dst) (fs := fs) U0.out; rwa [← hr0] at this)
          have HO0 : Sec (∀ w A n cap, FRow w A n fs → n ≤ cap → (A = none → n = 0 ∧ cap = 0) → Calls Tryd.prog 87 #[diskV A n cap f, .string (bs dst)] w (StepPost (gs0, u0, er0) A n cap fs w)) := sec (fun w A n cap h hc hA => by
            rw [R0.out]; exact remove_any dst fs A n cap f w (by have := h.len; have := Z0.out.1; omega) h hA Z0.out.2 U0.out)
          unfold StepPost diskV at HO0
          clear hr0
          by_cases he0 : er0 = 0
          · subst he0
            obtain ⟨⟨gs1, u1, er1⟩, hr1⟩ : ∃ x, x = stepR (wrF dst s) gs0 u0 := ⟨_, rfl⟩
            have R1 := sec hr1
            have HQ1 : Sec (save1 fs f name s = (gs1, u1, er1)) := sec (by unfold save1; rw [HQ0.out, if_pos rfl, ← HDST.out, R1.out])
            have Z2 : Sec (Sz gs1) := sec (by have := stepR_sz (F := wrF dst s) (wrF_sz dst s HLD.out) u0 Z1.out; rwa [← hr1] at this)
            have U2 : Sec (-9223372036854775808 ≤ u1 ∧ u1 ≤ 9223372036854775807) := sec (by have := stepR_fuse (F := wrF dst s) (fs := gs0) U1.out; rwa [← hr1] at this)
            have HO1 : Sec (∀ w A n cap, FRow w A n gs0 → n ≤ cap → (A = none → n = 0 ∧ cap = 0) → Calls Tryd.prog 88 #[diskV A n cap u0, .string (bs dst), .string (bs s)] w (StepPost (gs1, u1, er1) A n cap gs0 w)) := sec (fun w A n cap h hc hA => by
              rw [R1.out]; exact write_any dst s gs0 A n cap u0 w (by have := h.len; have := Z1.out.1; omega) h hA Z1.out.2 U1.out HLD.out HL2.out)
            unfold StepPost diskV at HO1
            clear hr1
            by_cases he1 : er1 = 0
            · subst he1
              obtain ⟨⟨gs2, u2, er2⟩, hr2⟩ : ∃ x, x = stepR (syF dst) gs1 u1 := ⟨_, rfl⟩
              have R2 := sec hr2
              have HQ2 : Sec (save2 fs f name s = (gs2, u2, er2)) := sec (by unfold save2; rw [HQ1.out, if_pos rfl, ← HDST.out, R2.out])
              have Z3 : Sec (Sz gs2) := sec (by have := stepR_sz (F := syF dst) (syF_sz dst) u1 Z2.out; rwa [← hr2] at this)
              have U3 : Sec (-9223372036854775808 ≤ u2 ∧ u2 ≤ 9223372036854775807) := sec (by have := stepR_fuse (F := syF dst) (fs := gs1) U2.out; rwa [← hr2] at this)
              have HO2 : Sec (∀ w A n cap, FRow w A n gs1 → n ≤ cap → (A = none → n = 0 ∧ cap = 0) → Calls Tryd.prog 89 #[diskV A n cap u1, .string (bs dst)] w (StepPost (gs2, u2, er2) A n cap gs1 w)) := sec (fun w A n cap h hc hA => by
                rw [R2.out]; exact sync_any dst gs1 A n cap u1 w (by have := h.len; have := Z2.out.1; omega) h hA Z2.out.2 U2.out)
              unfold StepPost diskV at HO2
              clear hr2
              by_cases he2 : er2 = 0
              · subst he2
                obtain ⟨⟨gs3, u3, er3⟩, hr3⟩ : ∃ x, x = stepR (rnF dst name) gs2 u2 := ⟨_, rfl⟩
                have R3 := sec hr3
                have HQ3 : Sec (save3 fs f name s = (gs3, u3, er3)) := sec (by unfold save3; rw [HQ2.out, if_pos rfl, ← HDST.out, R3.out])
                have Z4 : Sec (Sz gs3) := sec (by have := stepR_sz (F := rnF dst name) (rnF_sz dst name HL1.out) u2 Z3.out; rwa [← hr3] at this)
                have U4 : Sec (-9223372036854775808 ≤ u3 ∧ u3 ≤ 9223372036854775807) := sec (by have := stepR_fuse (F := rnF dst name) (fs := gs2) U3.out; rwa [← hr3] at this)
                have HO3 : Sec (∀ w A n cap, FRow w A n gs2 → n ≤ cap → (A = none → n = 0 ∧ cap = 0) → Calls Tryd.prog 90 #[diskV A n cap u2, .string (bs dst), .string (bs name)] w (StepPost (gs3, u3, er3) A n cap gs2 w)) := sec (fun w A n cap h hc hA => by
                  rw [R3.out]; exact rename_any dst name gs2 A n cap u2 w (by have := h.len; have := Z3.out.1; omega) h hA Z3.out.2 U3.out HL1.out)
                unfold StepPost diskV at HO3
                clear hr3
                have HR : Sec (saveR fs f name s = (gs3, u3, er3)) := sec (by rw [HV.out]; rw [HQ3.out])
                go_enter Tryd.func57, Tryd.ntmps57
                go_wp2_with (first | (rw [← hwa, ← hp]; clear hwa hp; go_wp2_with fail) | (go_at_call 84; refine Calls.mono HG.out ?_; rintro e w1 ⟨rfl, g1⟩; have S1 := sec (S0.out.gr g1); obtain ⟨x1, x2, x3, x4, x5, x6, x7, x8⟩ := S1.out.facts) | (go_at_call 85; (with_reducible refine Calls.mono (HN1.out _) ?_); rintro e w2 ⟨rfl, g2⟩; have S2 := sec (S1.out.gr g2); obtain ⟨x1, x2, x3, x4, x5, x6, x7, x8⟩ := S2.out.facts) | (go_at_call 85; (with_reducible refine Calls.mono (HN2.out _) ?_); rintro e w3 ⟨rfl, g3⟩; have S3 := sec (S2.out.gr g3); obtain ⟨x1, x2, x3, x4, x5, x6, x7, x8⟩ := S3.out.facts) | (go_at_call 86; refine Calls.mono (find_any fs dst A n cap f w3 (by have := FRow.len HX.out; have := HZ.out.1; omega) (S3.out.row HX.out) HSO.out) ?_; rw [HHF.out]; rintro e w4 ⟨rfl, g4⟩; have S4 := sec (S3.out.gr g4); obtain ⟨x1, x2, x3, x4, x5, x6, x7, x8⟩ := S4.out.facts) | (go_at_call 87; (with_reducible refine Calls.mono (HO0.out _ _ _ _ (S4.out.row HX.out) S4.out.le S4.out.nil) ?_); rintro e w5 ⟨A5, n5, cap5, rfl, g5, hA0, hal0⟩; obtain ⟨x1, x2, x3, x4, x5, x6, x7, x8⟩ := (S4.out.gr g5).facts; have T0 := sec (S4.out.next (gs := gs0) (u := u0) HP.out g5 hA0 hal0)) | (go_at_call 88; (with_reducible refine Calls.mono (HO1.out _ _ _ _ (T0.out.row HX.out) T0.out.le T0.out.nil) ?_); rintro e w6 ⟨A6, n6, cap6, rfl, g6, hA1, hal1⟩; obtain ⟨x1, x2, x3, x4, x5, x6, x7, x8⟩ := (T0.out.gr g6).facts; have T1 := sec (T0.out.next (gs := gs1) (u := u1) HP.out g6 hA1 hal1)) | (go_at_call 89; (with_reducible refine Calls.mono (HO2.out _ _ _ _ (T1.out.row HX.out) T1.out.le T1.out.nil) ?_); rintro e w7 ⟨A7, n7, cap7, rfl, g7, hA2, hal2⟩; obtain ⟨x1, x2, x3, x4, x5, x6, x7, x8⟩ := (T1.out.gr g7).facts; have T2 := sec (T1.out.next (gs := gs2) (u := u2) HP.out g7 hA2 hal2)) | (go_at_call 90; (with_reducible refine Calls.mono (HO3.out _ _ _ _ (T2.out.row HX.out) T2.out.le T2.out.nil) ?_); rintro e w8 ⟨A8, n8, cap8, rfl, g8, hA3, hal3⟩; obtain ⟨x1, x2, x3, x4, x5, x6, x7, x8⟩ := (T2.out.gr g8).facts; have T3 := sec (T2.out.last (gs := gs3) (u := u3) HP.out g8 hA3 hal3)))
                obtain ⟨hb9, hg9, hn9, ha9⟩ := T3.out
                refine bodyPost_ret (results_blk_tmp rfl _ rfl hb9 aggDisk) rfl ?_
                rw [HR.out]
                exact ⟨A8, n8, cap8, rfl, hg9, hn9, ha9⟩
              · have HR : Sec (saveR fs f name s = (gs2, u2, er2)) := sec (by rw [HV.out]; unfold save3; rw [HQ2.out]; simp only [he2, if_false])
                go_enter Tryd.func57, Tryd.ntmps57
                go_wp2_with (first | (rw [← hwa, ← hp]; clear hwa hp; go_wp2_with fail) | (go_at_call 84; refine Calls.mono HG.out ?_; rintro e w1 ⟨rfl, g1⟩; have S1 := sec (S0.out.gr g1); obtain ⟨x1, x2, x3, x4, x5, x6, x7, x8⟩ := S1.out.facts) | (go_at_call 85; (with_reducible refine Calls.mono (HN1.out _) ?_); rintro e w2 ⟨rfl, g2⟩; have S2 := sec (S1.out.gr g2); obtain ⟨x1, x2, x3, x4, x5, x6, x7, x8⟩ := S2.out.facts) | (go_at_call 85; (with_reducible refine Calls.mono (HN2.out _) ?_); rintro e w3 ⟨rfl, g3⟩; have S3 := sec (S2.out.gr g3); obtain ⟨x1, x2, x3, x4, x5, x6, x7, x8⟩ := S3.out.facts) | (go_at_call 86; refine Calls.mono (find_any fs dst A n cap f w3 (by have := FRow.len HX.out; have := HZ.out.1; omega) (S3.out.row HX.out) HSO.out) ?_; rw [HHF.out]; rintro e w4 ⟨rfl, g4⟩; have S4 := sec (S3.out.gr g4); obtain ⟨x1, x2, x3, x4, x5, x6, x7, x8⟩ := S4.out.facts) | (go_at_call 87; (with_reducible refine Calls.mono (HO0.out _ _ _ _ (S4.out.row HX.out) S4.out.le S4.out.nil) ?_); rintro e w5 ⟨A5, n5, cap5, rfl, g5, hA0, hal0⟩; obtain ⟨x1, x2, x3, x4, x5, x6, x7, x8⟩ := (S4.out.gr g5).facts; have T0 := sec (S4.out.next (gs := gs0) (u := u0) HP.out g5 hA0 hal0)) | (go_at_call 88; (with_reducible refine Calls.mono (HO1.out _ _ _ _ (T0.out.row HX.out) T0.out.le T0.out.nil) ?_); rintro e w6 ⟨A6, n6, cap6, rfl, g6, hA1, hal1⟩; obtain ⟨x1, x2, x3, x4, x5, x6, x7, x8⟩ := (T0.out.gr g6).facts; have T1 := sec (T0.out.next (gs := gs1) (u := u1) HP.out g6 hA1 hal1)) | (go_at_call 89; (with_reducible refine Calls.mono (HO2.out _ _ _ _ (T1.out.row HX.out) T1.out.le T1.out.nil) ?_); rintro e w7 ⟨A7, n7, cap7, rfl, g7, hA2, hal2⟩; obtain ⟨x1, x2, x3, x4, x5, x6, x7, x8⟩ := (T1.out.gr g7).facts; have T2 := sec (T1.out.next (gs := gs2) (u := u2) HP.out g7 hA2 hal2)))
                obtain ⟨hb9, hg9, hn9, ha9⟩ := T2.out.done HP.out
                refine bodyPost_ret (results_blk_tmp rfl _ rfl hb9 aggDisk) rfl ?_
                rw [HR.out]
                exact ⟨A7, n7, cap7, rfl, hg9, hn9, ha9⟩
            · have HR : Sec (saveR fs f name s = (gs1, u1, er1)) := sec (by rw [HV.out]; unfold save3; unfold save2; rw [HQ1.out]; simp only [he1, if_false])
              go_enter Tryd.func57, Tryd.ntmps57
              go_wp2_with (first | (rw [← hwa, ← hp]; clear hwa hp; go_wp2_with fail) | (go_at_call 84; refine Calls.mono HG.out ?_; rintro e w1 ⟨rfl, g1⟩; have S1 := sec (S0.out.gr g1); obtain ⟨x1, x2, x3, x4, x5, x6, x7, x8⟩ := S1.out.facts) | (go_at_call 85; (with_reducible refine Calls.mono (HN1.out _) ?_); rintro e w2 ⟨rfl, g2⟩; have S2 := sec (S1.out.gr g2); obtain ⟨x1, x2, x3, x4, x5, x6, x7, x8⟩ := S2.out.facts) | (go_at_call 85; (with_reducible refine Calls.mono (HN2.out _) ?_); rintro e w3 ⟨rfl, g3⟩; have S3 := sec (S2.out.gr g3); obtain ⟨x1, x2, x3, x4, x5, x6, x7, x8⟩ := S3.out.facts) | (go_at_call 86; refine Calls.mono (find_any fs dst A n cap f w3 (by have := FRow.len HX.out; have := HZ.out.1; omega) (S3.out.row HX.out) HSO.out) ?_; rw [HHF.out]; rintro e w4 ⟨rfl, g4⟩; have S4 := sec (S3.out.gr g4); obtain ⟨x1, x2, x3, x4, x5, x6, x7, x8⟩ := S4.out.facts) | (go_at_call 87; (with_reducible refine Calls.mono (HO0.out _ _ _ _ (S4.out.row HX.out) S4.out.le S4.out.nil) ?_); rintro e w5 ⟨A5, n5, cap5, rfl, g5, hA0, hal0⟩; obtain ⟨x1, x2, x3, x4, x5, x6, x7, x8⟩ := (S4.out.gr g5).facts; have T0 := sec (S4.out.next (gs := gs0) (u := u0) HP.out g5 hA0 hal0)) | (go_at_call 88; (with_reducible refine Calls.mono (HO1.out _ _ _ _ (T0.out.row HX.out) T0.out.le T0.out.nil) ?_); rintro e w6 ⟨A6, n6, cap6, rfl, g6, hA1, hal1⟩; obtain ⟨x1, x2, x3, x4, x5, x6, x7, x8⟩ := (T0.out.gr g6).facts; have T1 := sec (T0.out.next (gs := gs1) (u := u1) HP.out g6 hA1 hal1)))
              obtain ⟨hb9, hg9, hn9, ha9⟩ := T1.out.done HP.out
              refine bodyPost_ret (results_blk_tmp rfl _ rfl hb9 aggDisk) rfl ?_
              rw [HR.out]
              exact ⟨A6, n6, cap6, rfl, hg9, hn9, ha9⟩
          · have HR : Sec (saveR fs f name s = (gs0, u0, er0)) := sec (by rw [HV.out]; unfold save3; unfold save2; unfold save1; rw [HQ0.out]; simp only [he0, if_false])
            go_enter Tryd.func57, Tryd.ntmps57
            go_wp2_with (first | (rw [← hwa, ← hp]; clear hwa hp; go_wp2_with fail) | (go_at_call 84; refine Calls.mono HG.out ?_; rintro e w1 ⟨rfl, g1⟩; have S1 := sec (S0.out.gr g1); obtain ⟨x1, x2, x3, x4, x5, x6, x7, x8⟩ := S1.out.facts) | (go_at_call 85; (with_reducible refine Calls.mono (HN1.out _) ?_); rintro e w2 ⟨rfl, g2⟩; have S2 := sec (S1.out.gr g2); obtain ⟨x1, x2, x3, x4, x5, x6, x7, x8⟩ := S2.out.facts) | (go_at_call 85; (with_reducible refine Calls.mono (HN2.out _) ?_); rintro e w3 ⟨rfl, g3⟩; have S3 := sec (S2.out.gr g3); obtain ⟨x1, x2, x3, x4, x5, x6, x7, x8⟩ := S3.out.facts) | (go_at_call 86; refine Calls.mono (find_any fs dst A n cap f w3 (by have := FRow.len HX.out; have := HZ.out.1; omega) (S3.out.row HX.out) HSO.out) ?_; rw [HHF.out]; rintro e w4 ⟨rfl, g4⟩; have S4 := sec (S3.out.gr g4); obtain ⟨x1, x2, x3, x4, x5, x6, x7, x8⟩ := S4.out.facts) | (go_at_call 87; (with_reducible refine Calls.mono (HO0.out _ _ _ _ (S4.out.row HX.out) S4.out.le S4.out.nil) ?_); rintro e w5 ⟨A5, n5, cap5, rfl, g5, hA0, hal0⟩; obtain ⟨x1, x2, x3, x4, x5, x6, x7, x8⟩ := (S4.out.gr g5).facts; have T0 := sec (S4.out.next (gs := gs0) (u := u0) HP.out g5 hA0 hal0)))
            obtain ⟨hb9, hg9, hn9, ha9⟩ := T0.out.done HP.out
            refine bodyPost_ret (results_blk_tmp rfl _ rfl hb9 aggDisk) rfl ?_
            rw [HR.out]
            exact ⟨A5, n5, cap5, rfl, hg9, hn9, ha9⟩
end Go.Proofs.YtmgpllakpgjicaaDoor

namespace Go.Proofs.YtmgpllakpgjicaaDoor
set_option maxRecDepth 100000
open Go.RowKit
set_option linter.unusedVariables false
/-- what a put hands back -/
def PutPost (r : List Fl × Int × List UInt8 × Int) (A : Option Addr) (n cap : Nat) (fs : List Fl) (w : World) (e : Ending) (w' : World) : Prop :=
  ∃ A' n' cap', e = .returned (.tuple #[diskV A' n' cap' r.2.1, .string (bs r.2.2.1), .int .i64 r.2.2.2]) ∧ Gr w w' ∧ (A' = none → n' = 0 ∧ cap' = 0) ∧
    ((A' = A ∧ n' = n ∧ cap' = cap ∧ r.1 = fs) ∨ w'.ownsRow w.heap.size 89 3 (.slice A' n' cap') n' (r.1.flatMap fileC))
/-- the disk in its cell, behind a save -/
structure PMid (w : World) (p q : Nat) (A : Option Addr) (n cap : Nat) (fs gs : List Fl) (u : Int) (A' : Option Addr) (n' cap' : Nat) (wx : World) : Prop where
  dk : Blk wx p 43 #[.slice A' n' cap', .int .i64 u]
  rs : Blk wx q 43 #[.slice none 0 0, .int .i64 0]
  gr : Gr w wx
  nil : A' = none → n' = 0 ∧ cap' = 0
  row : (A' = A ∧ n' = n ∧ cap' = cap ∧ gs = fs) ∨ wx.ownsRow w.heap.size 89 3 (.slice A' n' cap') n' (gs.flatMap fileC)
theorem own_set2P {w w' : World} {e size n cap p : Nat} {A : Option Addr} {xs : List Value} (h : w'.ownsRow w.heap.size e size (.slice A n cap) n xs) (hp : p < w.heap.size) (u v : Value) :
    ((w'.setCell ⟨p, 0, none⟩ u).setCell ⟨p, 1, none⟩ v).ownsRow w.heap.size e size (.slice A n cap) n xs := by
  have hne : (Value.slice A n cap).ownBlock ≠ some p := fun e => by have := (h.lt _ e).1; omega
  exact ownsRow_setCell_other (ownsRow_setCell_other h (a := ⟨p, 0, none⟩) hne _) (a := ⟨p, 1, none⟩) hne _
theorem pmid {w w4 w5 w6 : World} {p q n cap n' cap' : Nat} {A A' : Option Addr} {fs gs : List Fl} {f u : Int} (k4 : Gr w w4) (k5 : Gr w4 w5) (k6 : Gr w5 w6) (hwp : w.heap.size ≤ p) (hpq : p ≠ q) (hp : p < w4.heap.size)
    (bd : Blk w4 p 43 #[.slice A n cap, .int .i64 f]) (bq : Blk w4 q 43 #[.slice none 0 0, .int .i64 0]) (hn : A' = none → n' = 0 ∧ cap' = 0)
    (h : (A' = A ∧ n' = n ∧ cap' = cap ∧ gs = fs) ∨ w6.ownsRow w5.heap.size 89 3 (.slice A' n' cap') n' (gs.flatMap fileC)) :
    PMid w p q A n cap fs gs u A' n' cap' ((w6.setCell ⟨p, 0, none⟩ (.slice A' n' cap')).setCell ⟨p, 1, none⟩ (.int .i64 u)) := by
  refine ⟨((bd.gr (k5.trans k6)).set_ 0 _).set_ 1 _, ((bq.gr (k5.trans k6)).far (p := ⟨p, 0, none⟩) (fun e => hpq e.symm) _).far (p := ⟨p, 1, none⟩) (fun e => hpq e.symm) _, (((k4.trans k5).trans k6).setCell (p := ⟨p, 0, none⟩) hwp _).setCell (p := ⟨p, 1, none⟩) hwp _, hn, ?_⟩
  rcases h with h | h
  · exact .inl h
  · exact .inr (own_low (own_set2P h (Nat.lt_of_lt_of_le hp k5.size) _ _) (Nat.le_trans k4.size k5.size))
theorem putEndS {w w' : World} {A A' : Option Addr} {n cap n' cap' q : Nat} {fs gs : List Fl} (g : Gr w w') (hwq : w.heap.size ≤ q) (hq : ∀ k, (Value.slice A' n' cap').ownBlock = some k → w'.ownsRow w.heap.size 89 3 (.slice A' n' cap') n' (gs.flatMap fileC) → k ≠ q)
    (h : (A' = A ∧ n' = n ∧ cap' = cap ∧ gs = fs) ∨ w'.ownsRow w.heap.size 89 3 (.slice A' n' cap') n' (gs.flatMap fileC)) (x y : Value) :
    Gr w ((w'.setCell ⟨q, 0, none⟩ x).setCell ⟨q, 1, none⟩ y) ∧ ((A' = A ∧ n' = n ∧ cap' = cap ∧ gs = fs) ∨ ((w'.setCell ⟨q, 0, none⟩ x).setCell ⟨q, 1, none⟩ y).ownsRow w.heap.size 89 3 (.slice A' n' cap') n' (gs.flatMap fileC)) := by
  refine ⟨(g.setCell (p := ⟨q, 0, none⟩) hwq _).setCell (p := ⟨q, 1, none⟩) hwq _, ?_⟩
  rcases h with h | h
  · exact .inl h
  · have hne : (Value.slice A' n' cap').ownBlock ≠ some q := fun e => hq q e h rfl
    exact .inr (ownsRow_setCell_other (ownsRow_setCell_other h (a := ⟨q, 0, none⟩) hne _) (a := ⟨q, 1, none⟩) hne _)

set_option maxHeartbeats 16000000 in
theorem stoPut_any (fs : List Fl) (s : List UInt8) (A : Option Addr) (n cap : Nat) (f : Int) (w : World) (hx : FRow w A n fs) (hnc : n ≤ cap) (hA : A = none → n = 0 ∧ cap = 0) (hz : Sz fs) (hf : -9223372036854775808 ≤ f ∧ f ≤ 9223372036854775807) (hs : s.length ≤ 1099511627775) (hT : TabK w) :
    Calls Tryd.prog 21 #[diskV A n cap f, .string (bs s)] w (PutPost (putR fs f s) A n cap fs w) := by
  have hln := hx.len
  have hn40 : n ≤ 1099511627776 := by have := hz.1; omega
  have hz2 := hz.2
  have hDl : (sha s).length = 32 := sha_len s
  have HDec : Sec (∀ W, Calls Tryd.prog 8 #[.string (bs s)] W (DecPost W (obD s))) := sec (fun W => obDec_any s W hs)
  have HId : Sec (∀ W, Gr w W → Calls Tryd.prog 11 #[.string (bs s)] W fun e w' => e = .returned (.string (bs (sha s))) ∧ Gr W w') := sec (fun W g => objId_any s W (hT.gr g) (by omega))
  have HGet : Sec (∀ W, Gr w W → Calls Tryd.prog 26 #[diskV A n cap f, .string (bs (sha s))] W fun e w' => e = .returned (.tuple #[.string (bs (getR fs (sha s)).1), .int .i64 (getR fs (sha s)).2]) ∧ Gr W w') := sec (fun W g => stoGet_any fs (sha s) A n cap f W hn40 (hx.gr g) hz2 (by rw [hDl]; omega) (hT.gr g))
  have HFi : Sec (∀ W, Calls Tryd.prog 58 #[.string (bs (sha s))] W fun e w' => e = .returned (.string (bs (fileN (sha s)))) ∧ Gr W w') := sec (fun W => stoFile_any (sha s) W (by rw [hDl]; omega))
  have HSv : Sec (∀ W, Gr w W → Calls Tryd.prog 57 #[diskV A n cap f, .string (bs (fileN (sha s))), .string (bs s)] W (StepPost (saveR fs f (fileN (sha s)) s) A n cap fs W)) := sec (fun W g => save_any (fileN (sha s)) s fs A n cap f W (hx.gr g) hnc hA hz hf (by rw [fileN_len, hDl]; omega) (by omega))
  obtain ⟨V, hV⟩ : ∃ V, V = putR fs f s := ⟨_, rfl⟩
  have HV : Sec (V = if (obD s).2 = 0 then (if (getR fs (sha s)).2 = 0 then (fs, f, sha s, 0) else if (saveR fs f (fileN (sha s)) s).2.2 = 0 then ((saveR fs f (fileN (sha s)) s).1, (saveR fs f (fileN (sha s)) s).2.1, sha s, 0) else ((saveR fs f (fileN (sha s)) s).1, (saveR fs f (fileN (sha s)) s).2.1, [], (saveR fs f (fileN (sha s)) s).2.2)) else (fs, f, [], (obD s).2)) := sec hV
  rw [← hV]
  clear hV
  obtain ⟨⟨gs, u, ee⟩, hR⟩ : ∃ R, R = saveR fs f (fileN (sha s)) s := ⟨_, rfl⟩
  rw [← hR] at HSv HV
  obtain ⟨⟨gt, ge⟩, hG⟩ : ∃ R, R = getR fs (sha s) := ⟨_, rfl⟩
  rw [← hG] at HGet HV
  obtain ⟨⟨⟨kd, dt, en, tr, pa, wh, no, ti, ta⟩, E⟩, hE⟩ : ∃ r, r = obD s := ⟨_, rfl⟩
  rw [← hE] at HV HDec
  obtain ⟨D, hD⟩ : ∃ D, D = sha s := ⟨_, rfl⟩
  rw [← hD] at HV HId HGet HFi HSv hDl

  obtain ⟨X, hX⟩ : ∃ X, X = fileN D := ⟨_, rfl⟩
  rw [← hX] at HFi HSv
  clear hX
  unfold DecPost obA at HDec
  unfold StepPost at HSv
  unfold diskV at HGet HSv
  unfold diskV
  simp only at HDec HV HGet HSv
  have G0 : Gr w ((w.alloc (.cells #[.slice A n cap, .int .i64 f] 43)).alloc (.cells #[.slice none 0 0, .int .i64 0] 43)) := ((Gr.refl w).alloc _).alloc _
  have B0 := (Blk.new w 43 #[.slice A n cap, .int .i64 f]).alloc (.cells #[.slice none 0 0, .int .i64 0] 43)
  have Q0 := Blk.new1 w (.cells #[.slice A n cap, .int .i64 f] 43) 43 #[.slice none 0 0, .int .i64 0]
  obtain ⟨wa, hwa⟩ : ∃ x, x = (w.alloc (.cells #[.slice A n cap, .int .i64 f] 43)).alloc (.cells #[.slice none 0 0, .int .i64 0] 43) := ⟨_, rfl⟩
  rw [← hwa] at G0 B0 Q0
  obtain ⟨p, hp⟩ : ∃ p, p = w.heap.size := ⟨_, rfl⟩
  rw [← hp] at B0 Q0
  have hwp : w.heap.size ≤ p := by omega
  have hwq : w.heap.size ≤ p + 1 := by omega
  have hpl := B0.lt
  have hql := Q0.lt
  have HSK : Sec (∀ W, Gr wa W → W.cell? ⟨p, 0, none⟩ = some (.slice A n cap) ∧ W.cell? ⟨p, 1, none⟩ = some (.int .i64 f) ∧ W.cell? ⟨p + 1, 0, none⟩ = some (.slice none 0 0) ∧ W.cell? ⟨p + 1, 1, none⟩ = some (.int .i64 0) ∧ W.frozen? ⟨p, 0, none⟩ = false ∧ W.frozen? ⟨p, 1, none⟩ = false ∧ W.frozen? ⟨p + 1, 0, none⟩ = false ∧ W.frozen? ⟨p + 1, 1, none⟩ = false) := sec (fun W g => ⟨(B0.gr g).cell 0, (B0.gr g).cell 1, (Q0.gr g).cell 0, (Q0.gr g).cell 1, (B0.gr g).frozen 0, (B0.gr g).frozen 1, (Q0.gr g).frozen 0, (Q0.gr g).frozen 1⟩)
  have HQ := sec Q0
  have HB := sec B0
  have HG0 := sec G0
  have HA := sec hA
  clear hx hz hz2 hR hG hE hD hDl hA B0 Q0 G0 hT
  go_enter Tryd.func21, Tryd.ntmps21
  go_upto_region 1 with fail
  rw [← hwa, ← hp]
  clear hwa hp
  go_upto_region 2 with (first
    | (go_at_call 8; (with_reducible refine Calls.mono (HDec.out _) ?_); rintro e w2 ⟨A1, c1, B1, d1, rfl, r2, g2⟩)
    | (refine wpList_store_blk rfl 25 (.tmp 7) (.tmp 16) rfl (g := w2.heap.size) (cs' := obA ⟨kd, dt, en, tr, pa, wh, no, ti, ta⟩ A1 c1 B1 d1) rfl rfl (Blk.new w2 _ _) aggOb rfl (obA_one _ _ _ _ _) ?_; intro w3 h3 hg3))
  have z3 : Gr wa w3 := g2.trans (Gr.only ((Gr.refl w2).alloc _) hg3 (Nat.le_refl _))
  clear h3 hg3 r2 g2
  obtain ⟨c0, c1', q0, q1, f0, f1, y0, y1⟩ := HSK.out w3 z3
  by_cases hE0 : E = 0
  case neg =>
    have qe : (E != 0) = true := by rw [bne_iff_ne]; exact hE0
    have HX : Sec (V = (fs, f, [], E)) := sec (by rw [HV.out, if_neg hE0])
    clear hE0
    go_wp2_with fail
    refine bodyPost_ret (results_blk_tmp2 rfl _ rfl (((HQ.out.gr z3).set_ 0 (.slice A n cap)).set_ 1 (.int .i64 f)) aggDisk) rfl ?_
    rw [HX.out]
    exact ⟨A, n, cap, rfl, ((HG0.out.trans z3).setCell (p := ⟨p + 1, 0, none⟩) hwq _).setCell (p := ⟨p + 1, 1, none⟩) hwq _, HA.out, .inl ⟨rfl, rfl, rfl, rfl⟩⟩
  subst hE0
  have HV2 : Sec (V = if ge = 0 then (fs, f, D, 0) else if ee = 0 then (gs, u, D, 0) else (gs, u, [], ee)) := sec (by rw [HV.out, if_pos rfl])
  clear HV
  by_cases hge : ge = 0
  · subst hge
    have HX : Sec (V = (fs, f, D, 0)) := sec (by rw [HV2.out, if_pos rfl])
    clear HV2
    go_wp2_with (first
      | (go_at_call 11; (with_reducible refine Calls.mono (HId.out _ (HG0.out.trans z3)) ?_); rintro e w4 ⟨rfl, g4⟩; have z4 := z3.trans g4; obtain ⟨c0, c1', q0, q1, f0, f1, y0, y1⟩ := HSK.out w4 z4)
      | (go_at_call 26; (with_reducible refine Calls.mono (HGet.out _ (HG0.out.trans z4)) ?_); rintro e w5 ⟨rfl, g5⟩; have z5 := z4.trans g5; obtain ⟨c0, c1', q0, q1, f0, f1, y0, y1⟩ := HSK.out w5 z5))
    refine bodyPost_ret (results_blk_tmp2 rfl _ rfl (((HQ.out.gr z5).set_ 0 (.slice A n cap)).set_ 1 (.int .i64 f)) aggDisk) rfl ?_
    rw [HX.out]
    exact ⟨A, n, cap, rfl, ((HG0.out.trans z5).setCell (p := ⟨p + 1, 0, none⟩) hwq _).setCell (p := ⟨p + 1, 1, none⟩) hwq _, HA.out, .inl ⟨rfl, rfl, rfl, rfl⟩⟩
  have qg : (ge == 0) = false := by rw [beq_eq_false_iff_ne]; exact hge
  have HV3 : Sec (V = if ee = 0 then (gs, u, D, 0) else (gs, u, [], ee)) := sec (by rw [HV2.out, if_neg hge])
  clear hge HV2
  go_upto_region 8 with (first
    | (go_at_call 11; (with_reducible refine Calls.mono (HId.out _ (HG0.out.trans z3)) ?_); rintro e w4 ⟨rfl, g4⟩; have z4 := z3.trans g4; obtain ⟨c0, c1', q0, q1, f0, f1, y0, y1⟩ := HSK.out w4 z4)
    | (go_at_call 26; (with_reducible refine Calls.mono (HGet.out _ (HG0.out.trans z4)) ?_); rintro e w5 ⟨rfl, g5⟩; have z5 := z4.trans g5; obtain ⟨c0, c1', q0, q1, f0, f1, y0, y1⟩ := HSK.out w5 z5))
  have gd : Gr w5 w5.drew := (Gr.refl _).drew
  have HMID : Sec (∀ w6 w7 A' n' cap', Gr w5 w6 → Gr w6 w7 → (A' = none → n' = 0 ∧ cap' = 0) → ((A' = A ∧ n' = n ∧ cap' = cap ∧ gs = fs) ∨ w7.ownsRow w6.heap.size 89 3 (.slice A' n' cap') n' (gs.flatMap fileC)) → PMid w p (p + 1) A n cap fs gs u A' n' cap' ((w7.setCell ⟨p, 0, none⟩ (.slice A' n' cap')).setCell ⟨p, 1, none⟩ (.int .i64 u))) := sec (fun w6 w7 A' n' cap' k5 k6 h1 h => pmid (HG0.out.trans z5) k5 k6 hwp (by omega) (Nat.lt_of_lt_of_le hpl z5.size) (HB.out.gr z5) (HQ.out.gr z5) h1 h)
  go_cut [12] from 34 to 41 (fun v wx => ∃ (A' : Option Addr) (n' cap' : Nat), v = .int .i64 ee ∧ Sec (PMid w p (p + 1) A n cap fs gs u A' n' cap' wx))
  case first =>
    go_region_with (first
      | (go_at_call 58; (with_reducible refine Calls.mono (HFi.out w5.drew) ?_); rintro e w6 ⟨rfl, g6'⟩; have g6 : Gr w5 w6 := Gr.trans gd g6'; obtain ⟨x0, x1, _, _, xf0, xf1, _, _⟩ := HSK.out w6 (z5.trans g6))
      | (go_at_call 57; (with_reducible refine Calls.mono (HSv.out w6 (HG0.out.trans (z5.trans g6))) ?_); rintro e w7 ⟨A', n', cap', rfl, g7, hA7, ha⟩; obtain ⟨x0, x1, _, _, xf0, xf1, _, _⟩ := HSK.out w7 ((z5.trans g6).trans g7)))
    all_goals (go_wp2_with fail; go_meet; exact ⟨A', n', cap', rfl, HMID.out w6 w7 A' n' cap' g6 g7 hA7 ha |> sec⟩)
  case rest =>
    clear c0 c1' q0 q1 f0 f1 y0 y1
    obtain ⟨A', n', cap', rfl, HM⟩ := hcut
    have c0 := HM.out.dk.cell 0
    have c1 := HM.out.dk.cell 1
    have q0 := HM.out.rs.cell 0
    have q1 := HM.out.rs.cell 1
    have y0 := HM.out.rs.frozen 0
    have y1 := HM.out.rs.frozen 1
    have HNQ : Sec (∀ k, (Value.slice A' n' cap').ownBlock = some k → wc.ownsRow w.heap.size 89 3 (.slice A' n' cap') n' (gs.flatMap fileC) → k ≠ p + 1) := sec (fun k hk h hkp => by
      subst hkp
      exact own_blk_ne h HM.out.rs (by decide) hk)
    by_cases he0 : ee = 0
    · subst he0
      have HX : Sec (V = (gs, u, D, 0)) := sec (by rw [HV3.out, if_pos rfl])
      clear HV3
      go_wp2_with fail
      refine bodyPost_ret (results_blk_tmp2 rfl _ rfl ((HM.out.rs.set_ 0 (.slice A' n' cap')).set_ 1 (.int .i64 u)) aggDisk) rfl ?_
      rw [HX.out]
      obtain ⟨t1, t2⟩ := putEndS (q := p + 1) HM.out.gr hwq HNQ.out HM.out.row (.slice A' n' cap') (.int .i64 u)
      exact ⟨A', n', cap', rfl, t1, HM.out.nil, t2⟩
    · have qe : (ee != 0) = true := by rw [bne_iff_ne]; exact he0
      have HX : Sec (V = (gs, u, [], ee)) := sec (by rw [HV3.out, if_neg he0])
      clear HV3 he0
      go_wp2_with fail
      refine bodyPost_ret (results_blk_tmp2 rfl _ rfl ((HM.out.rs.set_ 0 (.slice A' n' cap')).set_ 1 (.int .i64 u)) aggDisk) rfl ?_
      rw [HX.out]
      obtain ⟨t1, t2⟩ := putEndS (q := p + 1) HM.out.gr hwq HNQ.out HM.out.row (.slice A' n' cap') (.int .i64 u)
      exact ⟨A', n', cap', rfl, t1, HM.out.nil, t2⟩
end Go.Proofs.YtmgpllakpgjicaaDoor

namespace Go.Proofs.YtmgpllakpgjicaaDoor
set_option maxRecDepth 100000
open Go.RowKit
set_option linter.unusedVariables false
theorem hexD_named : ∀ n : Fin 16, nameC (hexD n.val).toNat = true := by decide
theorem hexOf_named (b : List UInt8) : (hexOf b).all (fun c => nameC c.toNat) = true := by
  induction b with
  | nil => rfl
  | cons c r ih =>
    have e : hexOf (c :: r) = [hexD (c.toNat / 16), hexD (c.toNat % 16)] ++ hexOf r := by unfold hexOf; rw [List.flatMap_cons]
    have hc := c.toNat_lt
    rw [e, List.all_append, ih]
    simp only [List.all_cons, List.all_nil, Bool.and_true]
    rw [hexD_named ⟨c.toNat / 16, by omega⟩, hexD_named ⟨c.toNat % 16, by omega⟩]
    rfl
theorem fileN_named (id : List UInt8) (h : id.length = 32) : namedB (fileN id) = true ∧ namedB (fileN id ++ dotNew) = true := by
  have hl := fileN_len id
  have ha := hexOf_named id
  constructor
  · unfold namedB
    rw [decide_eq_true (by omega), Bool.true_and]
    unfold fileN
    rw [List.all_cons, ha]
    rfl
  · unfold namedB
    rw [decide_eq_true (by rw [List.length_append, hl]; simp only [dotNew, List.length_cons, List.length_nil]; omega), Bool.true_and, List.all_append]
    unfold fileN
    rw [List.all_cons, ha]
    rfl
theorem good_one {nm s : List UInt8} {t : List UInt8} (hn : namedB nm = true) (hs : s.length + t.length ≤ 1048576) : goodFs [(nm, s, t)] = true := by
  unfold goodFs goodFrom fileOk goodFrom
  rw [ltB_nil (namedB_ne hn)]
  simp only [List.length_cons, List.length_nil, hn, Bool.true_and, Bool.and_true, Bool.and_eq_true, decide_eq_true_eq]
  omega
theorem lb_one (nm s t : List UInt8) : lbF nm [(nm, s, t)] = 0 := by
  unfold lbF
  rw [List.takeWhile_cons, ltB_irr]
  rfl
theorem has_one (nm s t : List UInt8) : hasF nm [(nm, s, t)] = true := by unfold hasF; simp
theorem save_try (nm s : List UInt8) (h1 : namedB nm = true) (h2 : namedB (nm ++ dotNew) = true) (hs : s.length ≤ 1048576) : saveR [] (-1) nm s = ([(nm, s, [])], -1, 0) := by
  obtain ⟨M, hM⟩ : ∃ M, M = nm ++ dotNew := ⟨_, rfl⟩
  have e0 : save0 [] (-1) nm = ([], -1, 0) := by unfold save0; rfl
  have w1 : wrF M s [] = ([(M, [], s)], 0) := by
    unfold wrF
    rw [hM, if_pos h2, if_neg (by simp), ← hM]
    have hp : wrPre M [] = [(M, [], [])] := rfl
    have hb : lbF M [] = 0 := rfl
    rw [hp, hb]
    simp only [List.getD_cons_zero, List.length_nil, Nat.zero_add]
    rw [if_pos hs]
    rfl
  have e1 : save1 [] (-1) nm s = ([(M, [], s)], -1, 0) := by
    unfold save1
    rw [e0, ← hM]
    simp only [if_true]
    unfold stepR
    rw [w1]
    rfl
  have g1 : goodFs [(M, [], s)] = true := good_one (by rw [hM]; exact h2) (by simpa using hs)
  have s1 : syF M [(M, [], s)] = ([(M, s, [])], 0) := by
    unfold syF
    rw [if_pos (has_one _ _ _), lb_one]
    rfl
  have e2 : save2 [] (-1) nm s = ([(M, s, [])], -1, 0) := by
    unfold save2
    rw [e1, ← hM]
    simp only [if_true]
    unfold stepR
    rw [s1, g1]
    rfl
  have g2 : goodFs [(M, s, [])] = true := good_one (by rw [hM]; exact h2) (by simpa using hs)
  have r1 : rnF M nm [(M, s, [])] = ([(nm, s, [])], 0) := by
    unfold rnF
    rw [if_pos h1, if_pos (has_one _ _ _), lb_one]
    rfl
  have e3 : save3 [] (-1) nm s = ([(nm, s, [])], -1, 0) := by
    unfold save3
    rw [e2, ← hM]
    simp only [if_true]
    unfold stepR
    rw [r1, g2]
    rfl
  unfold saveR
  rw [if_pos (by decide), h1, h2, e3]
  rfl
theorem getR_one (id s : List UInt8) (h : sha s = id) (hs : s.length ≤ 1048576) : getR [(fileN id, s, [])] id = (s, 0) := by
  have hl : id.length = 32 := by rw [← h]; exact sha_len s
  have hr : readR [(fileN id, s, [])] (fileN id) = (s, 0) := by
    unfold readR
    rw [if_pos (good_one (fileN_named id hl).1 (by simpa using hs)), if_pos (has_one _ _ _), lb_one]
    simp
  unfold getR
  rw [if_pos hl, hr, if_pos rfl, if_pos h]
theorem obD_lenT {s : List UInt8} (h : (obD s).2 = 0) : s.length ≤ 8192 := by
  unfold obD at h
  split at h
  · cases h
  · omega
theorem putR_try (s : List UInt8) (hd : (obD s).2 = 0) : putR [] (-1) s = ([(fileN (sha s), s, [])], -1, sha s, 0) := by
  have hl := obD_lenT hd
  have hn := fileN_named (sha s) (sha_len s)
  have hr : readR [] (fileN (sha s)) = ([], 7) := rfl
  have hg : (getR [] (sha s)).2 = 7 := by
    unfold getR
    rw [if_pos (sha_len s), hr]
    rfl
  have hv := save_try (fileN (sha s)) s hn.1 hn.2 (by omega)
  unfold putR
  rw [if_pos hd, if_neg (by rw [hg]; decide), hv, if_pos rfl]

def stoX : List UInt8 := [1, 1, 97]
theorem stoX_dec : (obD stoX).2 = 0 := by decide
set_option maxHeartbeats 4000000 in
theorem stores_any (w : World) (hT : TabK w) : Calls Tryd.prog 25 #[] w fun e w' => e = .returned (.bool true) ∧ Gr w w' := by
  have HP : Sec (Calls Tryd.prog 21 #[.agg #[.slice none 0 0, .int .i64 (-1)], .string (bs [1, 1, 97])] w fun e w' => ∃ A' cap', e = .returned (.tuple #[.agg #[.slice A' 1 cap', .int .i64 (-1)], .string (bs (sha stoX)), .int .i64 0]) ∧ FRow w' A' 1 [(fileN (sha stoX), stoX, [])] ∧ Gr w w') := sec (by
    refine (stoPut_any [] stoX none 0 0 (-1) w (Row.nil _ _ _) (Nat.le_refl _) (fun _ => ⟨rfl, rfl⟩) ⟨by simp, by simp⟩ (by omega) (by decide) hT).mono ?_
    rintro e w' ⟨A', n', cap', rfl, g, _, ha⟩
    rw [putR_try stoX stoX_dec] at ha ⊢
    simp only at ha ⊢
    rcases ha with ⟨_, _, _, h⟩ | h
    · cases h
    · have hr : FRow w' A' n' [(fileN (sha stoX), stoX, [])] := Row.own h
      have hn := hr.len
      simp only [List.length_cons, List.length_nil] at hn
      subst hn
      exact ⟨A', cap', rfl, hr, g⟩)
  have HGt : Sec (∀ A' cap' W, FRow W A' 1 [(fileN (sha stoX), stoX, [])] → Gr w W → Calls Tryd.prog 26 #[.agg #[.slice A' 1 cap', .int .i64 (-1)], .string (bs (sha stoX))] W fun e w' => e = .returned (.tuple #[.string (bs stoX), .int .i64 0]) ∧ Gr W w') := sec (fun A' cap' W h g => by
    have := stoGet_any [(fileN (sha stoX), stoX, [])] (sha stoX) A' 1 cap' (-1) W (by omega) h (by
      intro f hf
      simp only [List.mem_singleton] at hf
      subst hf
      simp only [fileN_len, sha_len, List.length_nil]
      decide) (by rw [sha_len]; omega) (hT.gr g)
    rw [getR_one (sha stoX) stoX rfl (by decide)] at this
    exact this)
  obtain ⟨D, hD⟩ : ∃ D, D = sha stoX := ⟨_, rfl⟩
  obtain ⟨F, hF⟩ : ∃ F, F = [(fileN D, stoX, ([] : List UInt8))] := ⟨_, rfl⟩
  rw [← hD] at HP HGt
  rw [← hF] at HP HGt
  clear hD hF
  go_enter Tryd.func25, Tryd.ntmps25
  go_wp2_with (first
    | (go_at_call 21; (with_reducible refine Calls.mono HP.out ?_); rintro e w2 ⟨A1, c1, rfl, r2, g2⟩; have R2 := r2.gr ((Gr.refl w2).alloc (.cells #[.slice A1 1 c1, .int .i64 (-1)] 43)); have G2 := g2.alloc (.cells #[.slice A1 1 c1, .int .i64 (-1)] 43))
    | (go_at_call 26; (with_reducible refine Calls.mono (HGt.out _ _ _ R2 G2) ?_); rintro e w3 ⟨rfl, g3⟩; have G3 := G2.trans g3))
  go_ret
  exact ⟨rfl, G3⟩
end Go.Proofs.YtmgpllakpgjicaaDoor

namespace Go.Proofs.YtmgpllakpgjicaaDoor
open Go.RowKit
set_option linter.unusedVariables false
def uhV : Option (List UInt8) → Value
  | some o => .tuple #[.string (bs o), .int .i64 0]
  | none => .tuple #[.string (bs []), .int .i64 2]
theorem unhex_odd : ∀ (n : Nat) (s : List UInt8), s.length = 2 * n + 1 → unhex s = none
  | _, [], h => by simp at h
  | _, [_], _ => rfl
  | 0, _ :: _ :: _, h => by simp at h
  | n + 1, a :: b :: r, h => by
    unfold unhex
    rw [unhex_odd n r (by simp at h; omega)]
    split <;> rfl
theorem unhex_step (s : List UInt8) (i : Nat) (h : i + 1 < s.length) : unhex (s.drop i) = if unD s[i] < 16 ∧ unD s[i + 1] < 16 then (unhex (s.drop (i + 2))).map (UInt8.ofNat (unD s[i] * 16 + unD s[i + 1]) :: ·) else none := by
  rw [List.drop_eq_getElem_cons (show i < s.length by omega), List.drop_eq_getElem_cons h]
  rfl
theorem hex_or (x y : Nat) (hx : x < 16) (hy : y < 16) : bits .or .u8 ((x : Int) * 16) (y : Int) = (((UInt8.ofNat (x * 16 + y)).toNat : Nat) : Int) := by
  have h : ∀ x y : Fin 16, bits .or .u8 ((x.val : Int) * 16) (y.val : Int) = (((UInt8.ofNat (x.val * 16 + y.val)).toNat : Nat) : Int) := by decide +kernel
  exact h ⟨x, hx⟩ ⟨y, hy⟩

set_option maxRecDepth 100000 in
set_option maxHeartbeats 1000000 in
theorem unhex_any (s : List UInt8) (w : World) (hs : s.length ≤ 17592186044416) :
    Calls Tryd.prog 64 #[.string (bs s)] w fun e w' => e = .returned (uhV (unhex s)) ∧ Gr w w' := by
  by_cases hev : s.length % 2 = 0
  · have t1 : ((s.length : Int) % 2 == 0) = true := by rw [beq_iff_eq]; omega
    have t2 : ((s.length : Int) % 2 != 0) = false := by rw [bne_eq_false_iff_eq]; omega
    have HEV := sec hev
    clear hev
    go_enter Tryd.func64, Tryd.ntmps64
    go_wp2_with fail
    clear t1 t2
    go_loopw [4, 5, 6, 7] (fun v iv _ _ wr => ∃ (i n : Nat) (ad : Option Addr) (cap : Nat) (o : List UInt8), iv = .int .i64 (i : Int) ∧ i ≤ s.length ∧ Sec (i % 2 = 0) ∧ v = .slice ad n cap ∧ 2 * n ≤ i ∧ wr.ownsRow w.heap.size 5 1 (.slice ad n cap) n (o.map byteV) ∧ Sec (unhex s = (unhex (s.drop i)).map (o ++ ·)) ∧ Gr w wr)
      (fun _ iv _ _ _ => s.length - (intOf iv).toNat)
    case atStart => exact ⟨0, 0, none, 0, [], rfl, by omega, sec rfl, rfl, by omega, World.ownsRow_nil _ _ _ _, sec (by rw [List.drop_zero]; cases unhex s <;> rfl), Gr.refl w⟩
    case round =>
      obtain ⟨i, n, ad, cap, o, rfl, hi, HI, rfl, hn, hown, HU, hg⟩ := hrel
      by_cases hlt : i < s.length
      · have hlt1 : i + 1 < s.length := by have := HI.out; have := HEV.out; omega
        have HL := sec hlt
        have hli : (i : Int) < (s.length : Int) := by omega
        have hli1 : (i : Int) + 1 < (s.length : Int) := by omega
        have hst := unhex_step s i hlt1
        obtain ⟨a, ha⟩ : ∃ a, a = s[i] := ⟨_, rfl⟩
        obtain ⟨b, hb⟩ : ∃ b, b = s[i + 1] := ⟨_, rfl⟩
        rw [← ha, ← hb] at hst
        have HST := sec hst
        have hca : (bs s)[i]'(by rw [bs_size]; exact hlt) = a := by rw [bs_get, ha]
        have hcb : (bs s)[i + 1]'(by rw [bs_size]; exact hlt1) = b := by rw [bs_get, hb]
        clear ha hb hst
        have hua := unD_le a
        have hub := unD_le b
        go_wp2_with fail
        go_quiet (first
          | (with_reducible refine Calls.mono (digit_any a _) ?_; rintro e w1 ⟨rfl, rfl⟩; exact ⟨rfl, _, rfl⟩)
          | (with_reducible refine Calls.mono (digit_any b _) ?_; rintro e w1 ⟨rfl, rfl⟩; exact ⟨rfl, _, rfl⟩))
        clear hca hcb
        obtain ⟨wq, hwq⟩ : ∃ wq, wq = wr.drewN nq := ⟨_, rfl⟩
        have hgq : Gr w wq := by rw [hwq]; exact hg.drewN nq
        have hownq : wq.ownsRow w.heap.size 5 1 (.slice ad n cap) n (o.map byteV) := by rw [hwq]; exact hown
        rw [← hwq]
        clear hwq hown hg
        by_cases h15 : unD a < 16
        · have k15 : ¬ (15 : Int) < (unD a : Int) := by omega
          by_cases h16 : unD b < 16
          · have k16 : ¬ (15 : Int) < (unD b : Int) := by omega
            have hor := hex_or (unD a) (unD b) h15 h16
            obtain ⟨c, hc⟩ : ∃ c, c = UInt8.ofNat (unD a * 16 + unD b) := ⟨_, rfl⟩
            rw [← hc] at hor
            have HC := sec hc
            have H2 := sec (And.intro h15 h16)
            clear hc h15 h16 hua hub hlt1
            go_wp2_with (refine wpList_append_new E.u8 rfl (.tmp 33) (.tmp 38) rfl rfl hownq rfl rfl (by simp [Value.oneCell']) (by omega) (by omega) (by unfold maxLen; omega) hgq ?_; intro g' cap' w' hown' hg')
            go_roundw
            case rel =>
              refine ⟨i + 2, n + 1, some ⟨g', 0, none⟩, cap', o ++ [c], by go_num, by have := HL.out; omega, sec (by have := HI.out; omega), rfl, by omega, ?_, sec ?_, hg'⟩
              · rw [List.map_append]; exact hown'
              · rw [HU.out, HST.out, if_pos H2.out, HC.out]
                cases unhex (s.drop (i + 2)) <;> simp
            case measure => simp [intOf]; have := HL.out; omega
          · have k16 : (15 : Int) < (unD b : Int) := by omega
            have HN : Sec (unhex s = none) := sec (by rw [HU.out, HST.out, if_neg (fun h => h16 h.2)]; rfl)
            clear h15 h16
            go_wp2_with fail
            go_ret2
            exact ⟨by rw [HN.out]; rfl, hgq⟩
        · have k15 : (15 : Int) < (unD a : Int) := by omega
          have HN : Sec (unhex s = none) := sec (by rw [HU.out, HST.out, if_neg (fun h => h15 h.1)]; rfl)
          clear h15
          go_wp2_with fail
          go_ret2
          exact ⟨by rw [HN.out]; rfl, hgq⟩
      · obtain rfl : i = s.length := by omega
        clear hlt hi
        have HR : Sec (unhex s = some o) := sec (by rw [HU.out, List.drop_length]; simp [unhex])
        have hcv : (convert 77 9 (.slice ad n cap)).run Tryd.prog wr = .ok (.string (bs o)) wr := by
          have hn : n = o.length := by have := hown.1; simp at this; exact this.symm
          have := run_conv_own Tryd.underlying77 Tryd.underlying5 Tryd.underlying9 (n := n) (w := wr) (l := o) (by rw [hn] at hown ⊢; exact hown)
          exact this
        go_wp2_with fail
        go_ret2
        exact ⟨by rw [HR.out]; rfl, hg⟩
  · have t1 : ((s.length : Int) % 2 == 0) = false := by rw [beq_eq_false_iff_ne]; omega
    have t2 : ((s.length : Int) % 2 != 0) = true := by rw [bne_iff_ne]; omega
    have HN := sec (unhex_odd (s.length / 2) s (by omega))
    clear hev
    go_enter Tryd.func64, Tryd.ntmps64
    go_wp2_with fail
    go_ret2
    exact ⟨by rw [HN.out]; rfl, Gr.refl w⟩
end Go.Proofs.YtmgpllakpgjicaaDoor

namespace Go.Proofs.YtmgpllakpgjicaaDoor
open Go.RowKit
set_option linter.unusedVariables false
/-- the two digits of a byte -/
def hex2 (c : UInt8) : List UInt8 := [UInt8.ofNat (c.toNat / 16), UInt8.ofNat (c.toNat % 16)]
theorem hexOf_take (b : List UInt8) (j : Nat) (h : j < b.length) : hexOf (b.take (j + 1)) = hexOf (b.take j) ++ [hexD (b[j].toNat / 16), hexD (b[j].toNat % 16)] := by
  rw [List.take_succ_eq_append_getElem h, hexOf_snoc]

set_option maxRecDepth 100000 in
set_option maxHeartbeats 2000000 in
theorem rhex_any (b : List UInt8) (w : World) (hb : b.length ≤ 17592186044416) :
    Calls Tryd.prog 60 #[.string (bs b)] w fun e w' => e = .returned (.string (bs (hexOf b))) ∧ Gr w w' := by
  obtain ⟨w2, cap, hcv, hgt, hB0⟩ := conv_brow Tryd.underlying9 Tryd.underlying77 Tryd.underlying5 w b (by unfold maxLen; omega)
  go_enter Tryd.func60, Tryd.ntmps60
  go_wp2_with fail
  obtain ⟨g1, hg1⟩ : ∃ g1, g1 = w.heap.size := ⟨_, rfl⟩
  have hB1 : BRow w2 w.heap.size g1 cap b := by rw [hg1]; exact hB0
  have hg1' : w.heap.size ≤ g1 := by rw [hg1]; exact Nat.le_refl _
  rw [← hg1]
  clear hg1 hB0 hcv
  rw [show ({ data := #[] } : ByteArray) = bs [] from rfl]
  go_loopw [3, 11, 5, 7] (fun v iv _ _ wr => ∃ (j n : Nat) (ad : Option Addr) (cap2 : Nat), iv = .int .i64 j ∧ j ≤ b.length ∧ v = .slice ad n cap2 ∧ Sec (n = 2 * j) ∧ wr.ownsRow w.heap.size 5 1 (.slice ad n cap2) n ((hexOf (b.take j)).map byteV) ∧ Value.ownBlock (.slice ad n cap2) ≠ some g1 ∧ BRow wr w.heap.size g1 cap b ∧ Gr w wr)
    (fun _ iv _ _ _ => b.length - (intOf iv).toNat)
  case atStart => exact ⟨0, 0, none, 0, rfl, by omega, rfl, sec rfl, World.ownsRow_nil _ _ _ _, by simp [Value.ownBlock], hB1, hgt⟩
  case round =>
    clear hB1 hgt
    obtain ⟨j, n, ad, cap2, rfl, hj, rfl, HN, hown, hne, hB, hg⟩ := hrel
    by_cases hlt : j < b.length
    · have hji : (j : Int) < (b.length : Int) := by omega
      have hbc : wr.cell? ⟨g1, j, none⟩ = some (.int .u8 (b[j].toNat : Int)) := hB.at_ j _ (by simp [hlt, byteV])
      have HH := sec (hexOf_take b j hlt)
      obtain ⟨c, hc⟩ : ∃ c, c = b[j] := ⟨_, rfl⟩
      rw [← hc] at hbc HH
      have hcl := c.toNat_lt
      clear hc
      go_wp2_with fail
      obtain ⟨wo, hwo⟩ : ∃ wo : World, wo = wr := ⟨_, rfl⟩
      rw [← hwo] at hbc hown hB hg
      rw [← hwo]
      clear hwo
      have hq0 : Blk (wo.alloc (.cells #[.int .u8 ((c.toNat : Int) / 16), .int .u8 ((c.toNat : Int) % 16)] 5)) wo.heap.size 5 #[.int .u8 ((c.toNat : Int) / 16), .int .u8 ((c.toNat : Int) % 16)] := Blk.new wo _ _
      have hown0 := hown.alloc (.cells #[.int .u8 ((c.toNat : Int) / 16), .int .u8 ((c.toNat : Int) % 16)] 5)
      have hB0 := hB.gr ((Gr.refl wo).alloc (.cells #[.int .u8 ((c.toNat : Int) / 16), .int .u8 ((c.toNat : Int) % 16)] 5))
      have hg0 := hg.alloc (.cells #[.int .u8 ((c.toNat : Int) / 16), .int .u8 ((c.toNat : Int) % 16)] 5)
      have hne2 : Value.ownBlock (.slice ad n cap2) ≠ some wo.heap.size := by
        intro e
        have := (hown.lt _ e).2
        omega
      obtain ⟨q2, hq2⟩ : ∃ q2, q2 = wo.heap.size := ⟨_, rfl⟩
      have hq2g : g1 ≠ q2 := by rw [hq2]; have := hB.lt; omega
      rw [← hq2] at hq0 hne2
      rw [← hq2]
      have HQ := sec hq0
      have HO := sec hown0
      have HB := sec hB0
      have HG := sec hg0
      clear hq2 hbc hq0 hown0 hB0 hg0 hB hown hg
      go_loopw [3, 21, 7] (fun v kv _ wr => ∃ (k m : Nat) (ad : Option Addr) (cap2 : Nat), kv = .int .i64 k ∧ k ≤ 2 ∧ v = .slice ad m cap2 ∧ Sec (m = n + k) ∧ wr.ownsRow w.heap.size 5 1 (.slice ad m cap2) m ((hexOf (b.take j) ++ [hexD (c.toNat / 16), hexD (c.toNat % 16)].take k).map byteV) ∧ Value.ownBlock (.slice ad m cap2) ≠ some g1 ∧ Value.ownBlock (.slice ad m cap2) ≠ some q2 ∧ BRow wr w.heap.size g1 cap b ∧ Blk wr q2 5 #[.int .u8 ((c.toNat : Int) / 16), .int .u8 ((c.toNat : Int) % 16)] ∧ Gr w wr)
        (fun _ kv _ _ => 2 - (intOf kv).toNat)
      case atStart => exact ⟨0, n, ad, cap2, rfl, by omega, rfl, sec rfl, by rw [List.take_zero, List.append_nil]; exact HO.out, hne, hne2, HB.out, HQ.out, HG.out⟩
      case round =>
        clear HQ HO HB HG hne hne2
        obtain ⟨k, m, ad, cap2, rfl, hk, rfl, HM, hown, hne, hne2, hB, hq, hg⟩ := hrel
        have hnb : n + 2 ≤ 140737488355328 := by have := HN.out; omega
        have hmm : m + 1 ≤ 140737488355328 + k := by have := HM.out; omega
        have hmm2 : m ≤ 140737488355326 + k := by have := HM.out; omega
        have hc0 := hq.cell 0
        have hc1 := hq.cell 1
        simp at hc0 hc1
        have hkk : k = 0 ∨ k = 1 ∨ k = 2 := by omega
        clear hk
        rcases hkk with rfl | rfl | rfl
        · have i1 := digit_at (c.toNat / 16) (by omega) ((c.toNat : Int) / 16) (by simp) wr
          have hmk : m + 1 ≤ 140737488355328 := by omega
          have hm1 : m + 1 ≤ maxLen := by unfold maxLen; omega
          have hq1 : g1 < wr.heap.size := hB.lt
          have hq3 : q2 < wr.heap.size := hq.lt
          unfold byteV at i1
          clear hmm hmm2
          rw [show ((0 : Nat) : Int) = 0 from rfl]
          go_wp2_with (refine wpList_append_oneL E.u8 rfl (.tmp 25) (.tmp 28) rfl rfl hown rfl rfl (by omega) hm1 hg.size ?_; intro g' cap' w' hown' hgn hat)
          go_roundw
          case rel =>
            refine ⟨0 + 1, m + 1, some ⟨g', 0, none⟩, cap', by go_num, by omega, rfl, sec (by have := HM.out; omega), ?_, ?_, ?_, hB.grown hgn hne, hq.grown hgn (fun e => hne2 e.symm), hg.grown hgn (fun k hk => (hown.lt k hk).1)⟩
            · rw [List.map_append] at hown' ⊢
              simpa [byteV] using hown'
            · simpa [Value.ownBlock] using lies_ne hat hne hq1
            · simpa [Value.ownBlock] using lies_ne hat hne2 hq3
          case measure => simp [intOf]
        · have i1 := digit_at (c.toNat % 16) (by omega) ((c.toNat : Int) % 16) (by simp) wr
          have hmk : m + 1 ≤ 140737488355328 := by omega
          have hm1 : m + 1 ≤ maxLen := by unfold maxLen; omega
          have hq1 : g1 < wr.heap.size := hB.lt
          have hq3 : q2 < wr.heap.size := hq.lt
          unfold byteV at i1
          clear hmm hmm2
          rw [show ((1 : Nat) : Int) = 1 from rfl]
          go_wp2_with (refine wpList_append_oneL E.u8 rfl (.tmp 25) (.tmp 28) rfl rfl hown rfl rfl (by omega) hm1 hg.size ?_; intro g' cap' w' hown' hgn hat)
          go_roundw
          case rel =>
            refine ⟨1 + 1, m + 1, some ⟨g', 0, none⟩, cap', by go_num, by omega, rfl, sec (by have := HM.out; omega), ?_, ?_, ?_, hB.grown hgn hne, hq.grown hgn (fun e => hne2 e.symm), hg.grown hgn (fun k hk => (hown.lt k hk).1)⟩
            · rw [List.map_append] at hown' ⊢
              simpa [byteV] using hown'
            · simpa [Value.ownBlock] using lies_ne hat hne hq1
            · simpa [Value.ownBlock] using lies_ne hat hne2 hq3
          case measure => simp [intOf]
        · clear hmm hmm2
          rw [show ((2 : Nat) : Int) = 2 from rfl]
          go_wp2_with fail
          go_roundw
          case rel =>
            refine ⟨j + 1, m, ad, cap2, by go_num, by omega, rfl, sec (by have := HM.out; have := HN.out; omega), ?_, hne, hB, hg⟩
            rw [HH.out]
            exact hown
          case measure => simp [intOf]; omega
    · obtain rfl : j = b.length := by omega
      have hcv : (convert 77 9 (.slice ad n cap2)).run Tryd.prog wr = .ok (.string (bs (hexOf b))) wr := by
        have := run_conv_own Tryd.underlying77 Tryd.underlying5 Tryd.underlying9 hown
        rwa [List.take_length] at this
      clear hlt hj
      go_wp2_with fail
      go_ret
      exact ⟨rfl, hg⟩
end Go.Proofs.YtmgpllakpgjicaaDoor

namespace Go.Proofs.YtmgpllakpgjicaaDoor
open Go.RowKit
set_option linter.unusedVariables false
set_option maxRecDepth 100000 in
set_option maxHeartbeats 1000000 in
theorem start_any (w : World) : Calls Tryd.prog 46 #[] w fun e w' => e = .returned (.agg (s8V startS)) ∧ Gr w w' := by
  go_enter Tryd.func46, Tryd.ntmps46
  go_wp2
  exact bodyPost_ret (v := .agg (s8V startS)) (by simp [results, Tryd.results46, go_sem]; rfl) rfl ⟨rfl, (Gr.refl w).alloc _⟩

theorem be4_len (x : UInt32) : (be4 x).length = 4 := rfl
/-- three bytes and a half: a row of four bytes just built, as a string -/
theorem conv_four (w : World) (x : UInt32) :
    (convert 77 9 (.slice (some ⟨w.heap.size, 0, none⟩) 4 4)).run Tryd.prog (w.alloc (.cells #[.int .u8 ((x.toNat : Int) / 16777216), .int .u8 ((x.toNat : Int) / 65536 % 256), .int .u8 ((x.toNat : Int) / 256 % 256), .int .u8 ((x.toNat : Int) % 256)] 5)) =
      .ok (.string (bs (be4 x))) (w.alloc (.cells #[.int .u8 ((x.toNat : Int) / 16777216), .int .u8 ((x.toNat : Int) / 65536 % 256), .int .u8 ((x.toNat : Int) / 256 % 256), .int .u8 ((x.toNat : Int) % 256)] 5)) := by
  refine run_conv_at Tryd.underlying77 Tryd.underlying5 Tryd.underlying9 _ _ 0 4 (be4 x) ?_
  intro j u hu
  rw [← be4_cells] at hu
  rw [Nat.zero_add, World.cell?_alloc_mark]
  simpa using hu

set_option maxRecDepth 100000 in
set_option maxHeartbeats 1000000 in
theorem rtext_any (S : S8) (w : World) : Calls Tryd.prog 44 #[.agg (s8V S)] w fun e w' => e = .returned (.string (bs (text8 S))) ∧ Gr w w' := by
  go_enter Tryd.func44, Tryd.ntmps44
  go_wp2_with (refine wpList_load_blk rfl 65 (.tmp 1) rfl (g := w.heap.size) rfl (Blk.new w _ _) A.u8 ?_)
  go_loopw [3, 7, 5] (fun v iv _ wr => ∃ (j : Nat) (l : List UInt8), iv = .int .i64 j ∧ j ≤ 8 ∧ v = .string (bs l) ∧ l.length ≤ 4 * j ∧ Sec (l = (S.list.take j).flatMap be4) ∧ Gr w wr)
    (fun _ iv _ _ => 8 - (intOf iv).toNat)
  case atStart => exact ⟨0, [], rfl, by omega, rfl, by simp, sec rfl, (Gr.refl w).alloc _⟩
  case round =>
    obtain ⟨j, l, rfl, hj, rfl, hll, HL, hg⟩ := hrel
    have hcase : j = 0 ∨ j = 1 ∨ j = 2 ∨ j = 3 ∨ j = 4 ∨ j = 5 ∨ j = 6 ∨ j = 7 ∨ j = 8 := by omega
    clear hj
    unfold s8V
    rcases hcase with rfl | rfl | rfl | rfl | rfl | rfl | rfl | rfl | rfl
    · have i0 := index_s8_0 S
      have hx := S.a.toNat_lt
      have hcv := conv_four wr S.a
      have h63 : ¬ 9223372036854775807 < l.length + (be4 S.a).length := by rw [be4_len]; omega
      go_wp2_with fail
      go_roundw
      case rel => exact ⟨1, l ++ be4 S.a, rfl, by omega, rfl, by rw [List.length_append, be4_len]; omega, sec (by rw [HL.out]; rfl), hg.alloc _⟩
      case measure => simp [intOf]
    · have i0 := index_s8_1 S
      have hx := S.b.toNat_lt
      have hcv := conv_four wr S.b
      have h63 : ¬ 9223372036854775807 < l.length + (be4 S.b).length := by rw [be4_len]; omega
      go_wp2_with fail
      go_roundw
      case rel => exact ⟨2, l ++ be4 S.b, rfl, by omega, rfl, by rw [List.length_append, be4_len]; omega, sec (by rw [HL.out]; rfl), hg.alloc _⟩
      case measure => simp [intOf]
    · have i0 := index_s8_2 S
      have hx := S.c.toNat_lt
      have hcv := conv_four wr S.c
      have h63 : ¬ 9223372036854775807 < l.length + (be4 S.c).length := by rw [be4_len]; omega
      go_wp2_with fail
      go_roundw
      case rel => exact ⟨3, l ++ be4 S.c, rfl, by omega, rfl, by rw [List.length_append, be4_len]; omega, sec (by rw [HL.out]; rfl), hg.alloc _⟩
      case measure => simp [intOf]
    · have i0 := index_s8_3 S
      have hx := S.d.toNat_lt
      have hcv := conv_four wr S.d
      have h63 : ¬ 9223372036854775807 < l.length + (be4 S.d).length := by rw [be4_len]; omega
      go_wp2_with fail
      go_roundw
      case rel => exact ⟨4, l ++ be4 S.d, rfl, by omega, rfl, by rw [List.length_append, be4_len]; omega, sec (by rw [HL.out]; rfl), hg.alloc _⟩
      case measure => simp [intOf]
    · have i0 := index_s8_4 S
      have hx := S.e.toNat_lt
      have hcv := conv_four wr S.e
      have h63 : ¬ 9223372036854775807 < l.length + (be4 S.e).length := by rw [be4_len]; omega
      go_wp2_with fail
      go_roundw
      case rel => exact ⟨5, l ++ be4 S.e, rfl, by omega, rfl, by rw [List.length_append, be4_len]; omega, sec (by rw [HL.out]; rfl), hg.alloc _⟩
      case measure => simp [intOf]
    · have i0 := index_s8_5 S
      have hx := S.f.toNat_lt
      have hcv := conv_four wr S.f
      have h63 : ¬ 9223372036854775807 < l.length + (be4 S.f).length := by rw [be4_len]; omega
      go_wp2_with fail
      go_roundw
      case rel => exact ⟨6, l ++ be4 S.f, rfl, by omega, rfl, by rw [List.length_append, be4_len]; omega, sec (by rw [HL.out]; rfl), hg.alloc _⟩
      case measure => simp [intOf]
    · have i0 := index_s8_6 S
      have hx := S.g.toNat_lt
      have hcv := conv_four wr S.g
      have h63 : ¬ 9223372036854775807 < l.length + (be4 S.g).length := by rw [be4_len]; omega
      go_wp2_with fail
      go_roundw
      case rel => exact ⟨7, l ++ be4 S.g, rfl, by omega, rfl, by rw [List.length_append, be4_len]; omega, sec (by rw [HL.out]; rfl), hg.alloc _⟩
      case measure => simp [intOf]
    · have i0 := index_s8_7 S
      have hx := S.h.toNat_lt
      have hcv := conv_four wr S.h
      have h63 : ¬ 9223372036854775807 < l.length + (be4 S.h).length := by rw [be4_len]; omega
      go_wp2_with fail
      go_roundw
      case rel => exact ⟨8, l ++ be4 S.h, rfl, by omega, rfl, by rw [List.length_append, be4_len]; omega, sec (by rw [HL.out]; rfl), hg.alloc _⟩
      case measure => simp [intOf]
    · go_wp2_with fail
      go_ret
      exact ⟨by rw [HL.out]; rfl, hg⟩

set_option maxRecDepth 100000 in
set_option maxHeartbeats 1000000 in
theorem over_any (s : S8) (b : List UInt8) (w : World) (hb : b.length < 4611686018427387904) (hm : b.length % 64 = 0) :
    Calls Tryd.prog 45 #[.agg (s8V s), .string (bs b)] w fun e w' => e = .returned (.agg (s8V (overS s b))) ∧ Gr w w' := by
  have HM := sec hm
  clear hm
  have hz : Blk ((w.alloc (.cells (s8V s) 65)).alloc (.cells zero8 65)) (w.heap.size + 1) 65 zero8 := Blk.new1 w _ _ _
  have hx : Blk ((w.alloc (.cells (s8V s) 65)).alloc (.cells zero8 65)) w.heap.size 65 (s8V s) := (Blk.new w _ _).alloc _
  have HZ := sec hz
  have HX := sec hx
  clear hz hx
  go_enter Tryd.func45, Tryd.ntmps45
  go_wp2_with fail
  go_loopw [5] (fun v wr => ∃ (i : Nat) (S : S8), v = .int .i64 (64 * (i : Int)) ∧ 64 * i ≤ b.length ∧ Sec (overS S (b.drop (64 * i)) = overS s b) ∧ Blk wr w.heap.size 65 (s8V S) ∧ Blk wr (w.heap.size + 1) 65 zero8 ∧ Gr w wr)
    (fun v _ => b.length - (intOf v).toNat)
  case atStart => exact ⟨0, s, rfl, by omega, sec (by rw [Nat.mul_zero, List.drop_zero]), HX.out, HZ.out, ((Gr.refl w).alloc _).alloc _⟩
  case round =>
    obtain ⟨i, S, rfl, hi, HO, hS, hZ, hg⟩ := hrel
    by_cases hlt : 64 * i < b.length
    · have hlt' : 64 * i + 64 ≤ b.length := by have := HM.out; omega
      have q64 : IntKind.i64.wrap (64 * (i : Int) + 64) = 64 * (i : Int) + 64 := IntWalk.i64_in _ (by omega)
      have hli : 64 * (i : Int) < (b.length : Int) := by omega
      have hl2 : 64 * (i : Int) + 64 ≤ (b.length : Int) := by omega
      have hi0 : (0 : Int) ≤ 64 * (i : Int) := by omega
      have hi1 : (0 : Int) ≤ 64 * (i : Int) + 64 := by omega
      have hi2 : 64 * (i : Int) ≤ 64 * (i : Int) + 64 := by omega
      have ht1 : (64 * (i : Int)).toNat = 64 * i := by omega
      have ht2 : (64 * (i : Int) + 64).toNat = 64 * i + 64 := by omega
      go_wp2_with fail
      refine region_still_tail_w 6 (by kernel_rfl) (by kernel_rfl) ?_
      simp only [List.take_succ_cons, List.take_zero, List.drop_succ_cons, List.drop_zero]
      intro wd hwd
      have D2 : Blk wd w.heap.size 65 (s8V S) := by subst hwd; exact hS.drew
      have D4 : Blk wd (w.heap.size + 1) 65 zero8 := by subst hwd; exact hZ.drew
      have Dg : Gr w wd := by subst hwd; exact hg.drew
      clear hwd hS hZ hg
      have c0 : wd.cell? ⟨w.heap.size, 0, none⟩ = some (.int .u32 (S.a.toNat : Int)) := D2.cell 0
      have c1 : wd.cell? ⟨w.heap.size, 1, none⟩ = some (.int .u32 (S.b.toNat : Int)) := D2.cell 1
      have c2 : wd.cell? ⟨w.heap.size, 2, none⟩ = some (.int .u32 (S.c.toNat : Int)) := D2.cell 2
      have c3 : wd.cell? ⟨w.heap.size, 3, none⟩ = some (.int .u32 (S.d.toNat : Int)) := D2.cell 3
      have c4 : wd.cell? ⟨w.heap.size, 4, none⟩ = some (.int .u32 (S.e.toNat : Int)) := D2.cell 4
      have c5 : wd.cell? ⟨w.heap.size, 5, none⟩ = some (.int .u32 (S.f.toNat : Int)) := D2.cell 5
      have c6 : wd.cell? ⟨w.heap.size, 6, none⟩ = some (.int .u32 (S.g.toNat : Int)) := D2.cell 6
      have c7 : wd.cell? ⟨w.heap.size, 7, none⟩ = some (.int .u32 (S.h.toNat : Int)) := D2.cell 7
      repeat still_step
      refine wpStill_nil ?_
      clear c0 c1 c2 c3 c4 c5 c6 c7
      have hsub : sub b (64 * i) (64 * i + 64) = (b.drop (64 * i)).take 64 := by unfold sub; congr 1; omega
      have hsl : (sub b (64 * i) (64 * i + 64)).length = 64 := by rw [sub_len _ _ _ hlt']; omega
      obtain ⟨B, hB⟩ : ∃ B, B = sub b (64 * i) (64 * i + 64) := ⟨_, rfl⟩
      rw [← hB] at hsub hsl ⊢
      obtain ⟨R, hR⟩ : ∃ R, R = blockS S B := ⟨_, rfl⟩
      have HO2 : Sec (overS R (b.drop (64 * (i + 1))) = overS s b) := sec (by
        rw [← HO.out, overS_hi (b := b.drop (64 * i)) (by rw [List.length_drop]; omega), ← hsub, ← hR, List.drop_drop, Nat.mul_add])
      have HSL := sec hsl
      clear hB hsub hsl
      go_wp2_with (first
        | (refine wpList_store_blk rfl 65 (.tmp 2) (.tmp 18) rfl (g := w.heap.size) rfl rfl E2 A.u8 rfl (s8V_one R) ?_; intro w4 h4 hg4)
        | (go_at_call 78; refine (rblock_any S B _ HSL.out).mono ?_; rw [← hR]; rintro e w3 ⟨rfl, g3⟩; clear hR; have E2 := D2.gr g3; have E4 := D4.gr g3; have Eg := Dg.trans g3; clear g3))
      go_roundw
      case rel => exact ⟨i + 1, R, by go_num, by omega, HO2, h4, E4.only hg4 (by omega), Eg.only hg4 (Nat.le_refl _)⟩
      case measure => simp [intOf]; omega
    · have hnl : b.drop (64 * i) = [] := List.drop_eq_nil_of_le (by omega)
      have HE : Sec (S = overS s b) := sec (by rw [← HO.out, hnl, overS_lo (by simp)])
      have hli : ¬ 64 * (i : Int) < (b.length : Int) := by omega
      clear hnl HO
      go_wp2_with (first
        | (refine wpList_load_blk rfl 65 (.tmp 2) rfl (g := w.heap.size) rfl hS A.u8 ?_)
        | (refine wpList_store_blk rfl 65 (.tmp 4) (.tmp 19) rfl (g := w.heap.size + 1) rfl rfl hZ A.u8 rfl (s8V_one S) ?_; intro w4 h4 hg4))
      refine bodyPost_ret (results_blk rfl _ rfl h4 A.u8) rfl ?_
      rw [HE.out]
      exact ⟨rfl, hg.only hg4 (by omega)⟩
end Go.Proofs.YtmgpllakpgjicaaDoor

namespace Go.Proofs.YtmgpllakpgjicaaDoor
open Go.RowKit
set_option linter.unusedVariables false
/-- the eight bytes while they are filled, from behind -/
def pByte (m e : Nat) : Value := .int .u8 ((8 * m / 256 ^ e % 256 : Nat) : Int)
def pArr (m j : Nat) : Array Value := ((List.range 8).map fun i => if 8 - j ≤ i then pByte m (7 - i) else .int .u8 0).toArray
theorem pArr_size (m j : Nat) : (pArr m j).size = 8 := by unfold pArr; simp
theorem pArr_zero (m : Nat) : pArr m 0 = #[.int .u8 0, .int .u8 0, .int .u8 0, .int .u8 0, .int .u8 0, .int .u8 0, .int .u8 0, .int .u8 0] := by kernel_rfl
theorem pArr_set (m j : Nat) (hj : j < 8) : (pArr m j).setIfInBounds (7 - j) (pByte m j) = pArr m (j + 1) := by
  unfold pArr
  rw [List.setIfInBounds_toArray]
  congr 1
  apply List.ext_getElem
  · simp
  · intro i h1 h2
    rw [List.getElem_set]
    simp only [List.getElem_map, List.getElem_range, List.length_set, List.length_map, List.length_range] at h1 ⊢
    by_cases e : 7 - j = i
    · subst e
      rw [if_pos rfl, if_pos (by omega), show 7 - (7 - j) = j by omega]
    · rw [if_neg e]
      by_cases h : 8 - j ≤ i
      · rw [if_pos h, if_pos (by omega)]
      · rw [if_neg h, if_neg (by omega)]
theorem pArr_full (m : Nat) : (pArr m 8).toList = (be8 (8 * m)).map byteV := by
  simp [pArr, List.range_succ, be8, byteV, pByte]

set_option maxRecDepth 100000 in
set_option maxHeartbeats 2000000 in
theorem padded_any (r : List UInt8) (m : Nat) (w : World) (hr : r.length < 1152921504606846976) (hm : m < 1152921504606846976) :
    Calls Tryd.prog 47 #[.string (bs r), .int .i64 m] w fun e w' => e = .returned (.string (bs (padTo r m))) ∧ Gr w w' := by
  have hr1 : ¬ 9223372036854775807 < r.length + 1 := by omega
  have hz := Blk.new w 109 (pArr m 0)
  rw [pArr_zero] at hz
  have HZ := sec hz
  clear hz
  go_enter Tryd.func47, Tryd.ntmps47
  go_wp2_with fail
  go_loop [5] (fun v => ∃ (i : Nat) (l : List UInt8), v = .string (bs l) ∧ i ≤ zerosFor r.length ∧ Sec (l = r ++ [128] ++ List.replicate i 0))
    (fun v => 1152921504606847200 - lenOf v)
  case atStart => exact ⟨0, r ++ [128], rfl, Nat.zero_le _, sec (by simp)⟩
  case round =>
    obtain ⟨i, l, rfl, hi, HL⟩ := hrel
    have hz : zerosFor r.length = (119 - r.length % 64) % 64 := rfl
    have hll : l.length = r.length + 1 + i := by rw [HL.out]; simp; omega
    by_cases hlt : i < zerosFor r.length
    · have t1 : ((l.length : Int) % 64 == 56) = false := by rw [beq_eq_false_iff_ne]; omega
      have t2 : ((l.length : Int) % 64 != 56) = true := by rw [bne_iff_ne]; omega
      have hl200 : l.length < 1152921504606847190 := by omega
      have h63 : ¬ 9223372036854775807 < l.length + 1 := by omega
      have HI := sec hlt
      clear hz hll hlt hi
      go_wp2_with fail
      go_round
      case rel =>
        exact ⟨i + 1, l ++ [0], rfl, HI.out, sec (by rw [HL.out, List.append_assoc, ← List.replicate_succ'])⟩
      case measure => simp [lenOf, bs_size]; omega
    · obtain rfl : i = zerosFor r.length := by omega
      have t1 : ((l.length : Int) % 64 == 56) = true := by rw [beq_iff_eq]; omega
      have t2 : ((l.length : Int) % 64 != 56) = false := by rw [bne_eq_false_iff_eq]; omega
      have hl63 : ¬ 9223372036854775807 < l.length + 8 := by omega
      clear hz hll hlt hi
      have hm8 : (m : Int) * 8 < 18446744073709551616 := by omega
      go_wp2_with fail
      clear t1 t2
      have hl8 : m * 8 = 8 * m / 256 ^ 0 := by omega
      have HN0 : Sec (m * 8 = 8 * m / 256 ^ 0) := sec hl8
      clear hl8
      go_loopw [7, 8] (fun v k wr => ∃ (j N : Nat) (K : Int), v = .int .u64 (N : Int) ∧ k = .int .i64 K ∧ Sec (K = 7 - (j : Int)) ∧ j ≤ 8 ∧ Sec (N = 8 * m / 256 ^ j) ∧ N < 18446744073709551616 ∧ Blk wr w.heap.size 109 (pArr m j) ∧ Gr w wr)
        (fun _ k _ => (intOf k + 1).toNat)
      case atStart => exact ⟨0, m * 8, 7, by simp, rfl, sec (by omega), by omega, HN0, by omega, by rw [pArr_zero]; exact HZ.out, (Gr.refl w).alloc _⟩
      case round =>
        obtain ⟨j, N, K, rfl, rfl, HK, hj, HN, hN, hB, hg⟩ := hrel
        by_cases hlt : j < 8
        · have hK0 : 0 ≤ K := by have := HK.out; omega
          have hK8 : K < 8 := by have := HK.out; omega
          have hKt : K.toNat = 7 - j := by have := HK.out; omega
          have hc : ∃ v, wr.cell? ⟨w.heap.size, 7 - j, none⟩ = some v := ⟨_, (hB.cell _).trans (Array.getElem?_eq_getElem (by rw [pArr_size]; omega))⟩
          obtain ⟨v, hc⟩ := hc
          have hf := hB.frozen (7 - j)
          have HD : Sec (N / 256 = 8 * m / 256 ^ (j + 1)) := sec (by rw [HN.out, Nat.div_div_eq_div_mul, Nat.pow_succ])
          have HP : Sec (pByte m j = .int .u8 ((N : Int) % 256)) := sec (by unfold pByte; rw [← HN.out]; simp)
          go_wp2_with fail
          go_roundw
          case rel => exact ⟨j + 1, N / 256, K - 1, by simp, rfl, sec (by have := HK.out; omega), by omega, HD, by omega, by rw [← pArr_set m j hlt, HP.out]; exact hB.set_ _ _, hg.setCell (Nat.le_refl _) _⟩
          case measure => simp [intOf]; omega
        · obtain rfl : j = 8 := by omega
          obtain rfl : K = -1 := by have := HK.out; omega
          have hcv : (convert 77 9 (.slice (some ⟨w.heap.size, 0, none⟩) 8 8)).run Tryd.prog wr = .ok (.string (bs (be8 (8 * m)))) wr :=
            run_conv_at Tryd.underlying77 Tryd.underlying5 Tryd.underlying9 wr w.heap.size 0 8 (be8 (8 * m)) (fun j u hu => by
              rw [Nat.zero_add, hB.cell, ← pArr_full] at *
              simpa using hu)
          have hl63' : ¬ 9223372036854775807 < l.length + (be8 (8 * m)).length := by rw [be8_len]; exact hl63
          go_wp2_with fail
          go_ret
          exact ⟨by rw [HL.out]; rfl, hg⟩
end Go.Proofs.YtmgpllakpgjicaaDoor

namespace Go.Proofs.YtmgpllakpgjicaaDoor
open Go.RowKit
set_option linter.unusedVariables false
set_option maxRecDepth 100000 in
set_option maxHeartbeats 4000000 in
theorem rsum_any (b : List UInt8) (w : World) (hb : b.length ≤ 576460752303423488) :
    Calls Tryd.prog 12 #[.string (bs b)] w fun e w' => e = .returned (.string (bs (sha b))) ∧ Gr w w' := by
  have e1 : ((b.length : Int) - (b.length : Int) % 64) = ((b.length / 64 * 64 : Nat) : Int) := by omega
  obtain ⟨k, hk⟩ : ∃ k, k = b.length / 64 * 64 := ⟨_, rfl⟩
  rw [← hk] at e1
  have hk1 : k ≤ b.length := by omega
  have hk2 : (k : Int) ≤ (b.length : Int) := by omega
  have hk3 : k % 64 = 0 := by omega
  have HD : Sec (b.drop k = restOf b) := sec (by rw [hk]; rfl)
  have HT : Sec (overS startS (b.take k) = overS startS b) := sec (by rw [hk]; exact overS_take _ _ _ rfl)
  have hl : (b.take k).length = k := by rw [List.length_take]; omega
  have HL := sec hl
  have H3 := sec hk3
  have hrl : (restOf b).length < 1152921504606846976 := by rw [restOf_len]; omega
  have HRL := sec hrl
  have hbl : b.length < 1152921504606846976 := by omega
  clear hk hl hk3 hrl
  have HP : Sec ((padTo (restOf b) b.length).length % 64 = 0) := sec (padTo_mod _ _)
  have HQ : Sec ((padTo (restOf b) b.length).length < 4611686018427387904) := sec (by rw [padTo_len, restOf_len]; unfold zerosFor; omega)
  have HS : Sec (sha b = text8 (overS (overS startS b) (padTo (restOf b) b.length))) := sec rfl
  have HM : Sec (k < 4611686018427387904) := sec (by omega)
  obtain ⟨R, hR⟩ : ∃ R, R = restOf b := ⟨_, rfl⟩
  rw [← hR] at HD HRL HP HQ HS
  obtain ⟨S, hS⟩ : ∃ S, S = overS startS b := ⟨_, rfl⟩
  rw [← hS] at HT HS
  clear hR hS
  go_enter Tryd.func12, Tryd.ntmps12
  go_wp2_with fail
  go_region_held3 (fun w' => Gr w w') (first | assumption | exact (Gr.refl _).drew | exact Gr.refl _)
    (first
      | (go_at_call 46; refine (start_any _).mono ?_; rintro e w1 ⟨rfl, g1⟩; have gg1 : Gr w w1 := Gr.trans (by assumption) g1)
      | (go_at_call 47; rw [HD.out]; refine (padded_any R b.length _ HRL.out hbl).mono ?_; rintro e w3 ⟨rfl, g3⟩; have gg3 : Gr w w3 := Gr.trans (by assumption) g3)
      | (go_at_call 44; refine (rtext_any _ _).mono ?_; rintro e w5 ⟨rfl, g5⟩; have gg5 : Gr w w5 := Gr.trans (by assumption) g5)
      | (go_at_call 45; with_reducible refine Calls.mono (over_any startS (b.take k) _ (by rw [HL.out]; exact HM.out) (by rw [HL.out]; exact H3.out)) ?_; rw [HT.out]; rintro e w2 ⟨rfl, g2⟩; have gg2 : Gr w w2 := Gr.trans (by assumption) g2)
      | (go_at_call 45; refine (over_any S (padTo R b.length) _ HQ.out HP.out).mono ?_; rintro e w4 ⟨rfl, g4⟩; have gg4 : Gr w w4 := Gr.trans (by assumption) g4))
  go_wp2_with fail
  go_ret
  exact ⟨by rw [HS.out]; rfl, gg5⟩
end Go.Proofs.YtmgpllakpgjicaaDoor

namespace Go.Proofs.YtmgpllakpgjicaaDoor
set_option maxRecDepth 100000
open Go.RowKit
set_option linter.unusedVariables false
set_option maxHeartbeats 8000000 in
theorem rstoGet_any (fs : List Fl) (id : List UInt8) (A : Option Addr) (n cap : Nat) (f : Int) (w : World) (hn : n ≤ 1099511627776) (hx : FRow w A n fs) (hs : ∀ f ∈ fs, f.1.length ≤ 1099511627776 ∧ f.2.1.length ≤ 1099511627776 ∧ f.2.2.length ≤ 1099511627776) (hid : id.length ≤ 1099511627776) :
    Calls Tryd.prog 27 #[diskV A n cap f, .string (bs id)] w fun e w' => e = .returned (.tuple #[.string (bs (getR fs id).1), .int .i64 (getR fs id).2]) ∧ Gr w w' := by
  have hg0 := (Gr.refl w).alloc (.cells #[.slice A n cap, .int .i64 f] 43)
  have hb1 := Blk.new w 43 #[.slice A n cap, .int .i64 f]
  obtain ⟨wa, hwa⟩ : ∃ x, x = w.alloc (.cells #[.slice A n cap, .int .i64 f] 43) := ⟨_, rfl⟩
  rw [← hwa] at hg0 hb1
  obtain ⟨p, hp⟩ : ∃ p, p = w.heap.size := ⟨_, rfl⟩
  rw [← hp] at hb1
  have HRd : Sec (∀ W, Gr wa W → Calls Tryd.prog 62 #[diskV A n cap f, .string (bs (fileN id))] W fun e w' => e = .returned (.tuple #[.string (bs (readR fs (fileN id)).1), .int .i64 (readR fs (fileN id)).2]) ∧ Gr W w') := sec (fun W g => rread_any fs (fileN id) A n cap f W hn (hx.gr (hg0.trans g)) hs)
  have HRL := readR_le fs (fileN id)
  obtain ⟨V, hV⟩ : ∃ V, V = getR fs id := ⟨_, rfl⟩
  obtain ⟨⟨r, er⟩, hR⟩ : ∃ R, R = readR fs (fileN id) := ⟨_, rfl⟩
  have HV : Sec (V = if id.length = 32 then (if er = 0 then (if sha r = id then (r, 0) else ([], 5)) else ([], er)) else ([], 2)) := sec (by rw [hV]; unfold getR; rw [← hR])
  rw [← hR] at HRd HRL
  rw [← hV]
  simp only at HRL HRd
  unfold diskV at HRd
  unfold diskV
  have HId : Sec (∀ W, Gr wa W → Calls Tryd.prog 12 #[.string (bs r)] W fun e w' => e = .returned (.string (bs (sha r))) ∧ Gr W w') := sec (fun W g => rsum_any r W (by omega))
  have HSK : Sec (∀ W, Gr wa W → W.cell? ⟨p, 0, none⟩ = some (.slice A n cap) ∧ W.cell? ⟨p, 1, none⟩ = some (.int .i64 f) ∧ Gr wa W) := sec (fun W g => ⟨(hb1.gr g).cell 0, (hb1.gr g).cell 1, g⟩)

  have hxl := hexOf_len id
  have HHx := sec (fun W => rhex_any id W (by omega))
  obtain ⟨X, hX⟩ : ∃ X, X = hexOf id := ⟨_, rfl⟩
  rw [← hX] at HHx hxl
  rw [show fileN id = 111 :: X by rw [hX]; rfl] at HRd
  have hcat : ¬ 9223372036854775807 < 1 + X.length := by omega
  clear hX hxl
  obtain ⟨c0, c1, _⟩ := HSK.out wa (Gr.refl _)
  clear hx hs hV hR hb1
  by_cases h32 : id.length = 32
  case neg =>
    have q1 : ((id.length : Int) != 32) = true := by rw [bne_iff_ne]; omega
    have HX : Sec (V = ([], 2)) := sec (by rw [HV.out, if_neg h32])
    clear h32 HV
    go_enter Tryd.func27, Tryd.ntmps27
    go_wp2_with fail
    go_ret2
    rw [HX.out]
    rw [← hwa]
    exact ⟨rfl, hg0⟩
  have q1 : ((id.length : Int) != 32) = false := by rw [bne_eq_false_iff_eq]; omega
  have HV2 : Sec (V = if er = 0 then (if sha r = id then (r, 0) else ([], 5)) else ([], er)) := sec (by rw [HV.out, if_pos h32])
  clear h32 HV
  by_cases her : er = 0
  case neg =>
    have q2 : (er != 0) = true := by rw [bne_iff_ne]; exact her
    have HX : Sec (V = ([], er)) := sec (by rw [HV2.out, if_neg her])
    clear her HV2
    go_enter Tryd.func27, Tryd.ntmps27
    go_upto_region 3 with fail
    rw [← hwa, ← hp]
    clear hwa hp
    have gd : Gr wa wa.drew := (Gr.refl _).drew
    go_region_held3 (fun w' => w'.cell? ⟨p, 0, none⟩ = some (.slice A n cap) ∧ w'.cell? ⟨p, 1, none⟩ = some (.int .i64 f) ∧ Gr wa w')
      (first | with_reducible assumption | with_reducible exact HSK.out _ gd | with_reducible exact HSK.out _ g1 | with_reducible exact HSK.out _ g2 | with_reducible exact HSK.out _ (Gr.refl _) | fail)
      (first
        | (go_at_call 60; (with_reducible refine Calls.mono (HHx.out wa.drew) ?_); rintro e w1 ⟨rfl, g1'⟩; have g1 : Gr wa w1 := Gr.trans gd g1')
        | (go_at_call 62; (with_reducible refine Calls.mono (HRd.out w1 g1) ?_); rintro e w2 ⟨rfl, g2'⟩; have g2 : Gr wa w2 := Gr.trans g1 g2')
        | fail)
    all_goals (go_wp2_with fail; go_ret2; rw [HX.out]; exact ⟨rfl, hg0.trans g2⟩)
  subst her
  cases hq : sha r == id with
  | true =>
    have hq' : sha r = id := by simpa using hq
    have HX : Sec (V = (r, 0)) := sec (by rw [HV2.out, if_pos rfl, if_pos hq'])
    rw [hq'] at HId
    clear hq hq' HV2
    go_enter Tryd.func27, Tryd.ntmps27
    go_upto_region 3 with fail
    rw [← hwa, ← hp]
    clear hwa hp
    have gd : Gr wa wa.drew := (Gr.refl _).drew
    go_region_held3 (fun w' => w'.cell? ⟨p, 0, none⟩ = some (.slice A n cap) ∧ w'.cell? ⟨p, 1, none⟩ = some (.int .i64 f) ∧ Gr wa w')
      (first | with_reducible assumption | with_reducible exact HSK.out _ gd | with_reducible exact HSK.out _ g1 | with_reducible exact HSK.out _ g2 | with_reducible exact HSK.out _ (Gr.refl _) | fail)
      (first
        | (go_at_call 60; (with_reducible refine Calls.mono (HHx.out wa.drew) ?_); rintro e w1 ⟨rfl, g1'⟩; have g1 : Gr wa w1 := Gr.trans gd g1')
        | (go_at_call 62; (with_reducible refine Calls.mono (HRd.out w1 g1) ?_); rintro e w2 ⟨rfl, g2'⟩; have g2 : Gr wa w2 := Gr.trans g1 g2')
        | fail)
    all_goals (go_wp2_with (go_at_call 12; (with_reducible refine Calls.mono (HId.out _ g2) ?_); rintro e w3 ⟨rfl, g3⟩); go_ret2; rw [HX.out]; exact ⟨rfl, (hg0.trans g2).trans g3⟩)
  | false =>
    have hq' : ¬ sha r = id := by simpa using hq
    have HX : Sec (V = ([], 5)) := sec (by rw [HV2.out, if_pos rfl, if_neg hq'])
    obtain ⟨S, hS⟩ : ∃ S, S = sha r := ⟨_, rfl⟩
    rw [← hS] at HId hq
    clear hq' hS HV2
    go_enter Tryd.func27, Tryd.ntmps27
    go_upto_region 3 with fail
    rw [← hwa, ← hp]
    clear hwa hp
    have gd : Gr wa wa.drew := (Gr.refl _).drew
    go_region_held3 (fun w' => w'.cell? ⟨p, 0, none⟩ = some (.slice A n cap) ∧ w'.cell? ⟨p, 1, none⟩ = some (.int .i64 f) ∧ Gr wa w')
      (first | with_reducible assumption | with_reducible exact HSK.out _ gd | with_reducible exact HSK.out _ g1 | with_reducible exact HSK.out _ g2 | with_reducible exact HSK.out _ (Gr.refl _) | fail)
      (first
        | (go_at_call 60; (with_reducible refine Calls.mono (HHx.out wa.drew) ?_); rintro e w1 ⟨rfl, g1'⟩; have g1 : Gr wa w1 := Gr.trans gd g1')
        | (go_at_call 62; (with_reducible refine Calls.mono (HRd.out w1 g1) ?_); rintro e w2 ⟨rfl, g2'⟩; have g2 : Gr wa w2 := Gr.trans g1 g2')
        | fail)
    all_goals (go_wp2_with (go_at_call 12; (with_reducible refine Calls.mono (HId.out _ g2) ?_); rintro e w3 ⟨rfl, g3⟩); go_ret2; rw [HX.out]; exact ⟨rfl, (hg0.trans g2).trans g3⟩)
end Go.Proofs.YtmgpllakpgjicaaDoor

namespace Go.Proofs.YtmgpllakpgjicaaDoor
open Go.RowKit
set_option linter.unusedVariables false
set_option maxRecDepth 100000 in
set_option maxHeartbeats 4000000 in
theorem rsave_any (name s : List UInt8) (fs : List Fl) (A : Option Addr) (n cap : Nat) (f : Int) (w : World) (hx : FRow w A n fs) (hnc : n ≤ cap) (hA : A = none → n = 0 ∧ cap = 0) (hz : Sz fs)
    (hf : -9223372036854775808 ≤ f ∧ f ≤ 9223372036854775807) (hl1 : name.length ≤ 1048576) (hl2 : s.length ≤ 1099511627776) :
    Calls Tryd.prog 59 #[diskV A n cap f, .string (bs name), .string (bs s)] w (StepPost (saveR fs f name s) A n cap fs w) := by
  have hln := hx.len
  have hz1 := hz.1
  have hS0 : SaveSt w w.heap.size A n cap fs ((w.alloc (.cells #[.slice A n cap, .int .i64 f] 43)).alloc (.cells #[.slice none 0 0, .int .i64 0] 43)) A n cap f fs :=
    ⟨((Gr.refl w).alloc _).alloc _, (Blk.new w _ _).alloc _, Blk.new1 w _ _ _, hA, hnc, .inl ⟨rfl, rfl, rfl, rfl⟩⟩
  obtain ⟨wa, hwa⟩ : ∃ x, x = (w.alloc (.cells #[.slice A n cap, .int .i64 f] 43)).alloc (.cells #[.slice none 0 0, .int .i64 0] 43) := ⟨_, rfl⟩
  obtain ⟨p, hp⟩ : ∃ p, p = w.heap.size := ⟨_, rfl⟩
  rw [← hwa, ← hp] at hS0
  have HG := sec (drgood_any fs A n cap f wa (by omega) (hS0.row hx) hz.2)
  obtain ⟨dst, hdst⟩ : ∃ d, d = name ++ dotNew := ⟨_, rfl⟩
  have hdl : dst.length ≤ 1099511627776 := by rw [hdst, List.length_append]; simp only [dotNew, List.length_cons, List.length_nil]; omega
  have hbd : bs (name ++ [46, 110, 101, 119]) = bs dst := by rw [hdst]; rfl
  have HN1 := sec (fun w => fileName_any name w (by omega))
  have HN2 := sec (fun w => fileName_any dst w (by omega))
  have HP := sec hp
  have HX := sec hx
  have HZ := sec hz
  have HFU := sec hf
  have HL1 := sec (show name.length ≤ 1099511627776 by omega)
  have HL2 := sec hl2
  have HLD := sec hdl
  have HDST := sec hdst
  have S0 := sec hS0
  have hpp : p + 1 ≠ p := by omega
  have hl4 : ¬ 9223372036854775807 < name.length + 4 := by omega
  obtain ⟨x1, x2, x3, x4, x5, x6, x7, x8⟩ := hS0.facts
  unfold diskV at HG
  unfold diskV
  clear hx hA hz hz1 hf hl1 hl2 hdl hdst hnc hS0 hln
  cases hgf : goodFs fs with
  | false =>
    have HR : Sec (saveR fs f name s = (fs, f, 3)) := sec (by unfold saveR; rw [hgf]; rfl)
    rw [hgf] at HG
    clear hgf
    go_enter Tryd.func59, Tryd.ntmps59
    go_wp2_with (first | (rw [← hwa, ← hp]; clear hwa hp; go_wp2_with fail) | (go_at_call 92; refine Calls.mono HG.out ?_; rintro e w1 ⟨rfl, g1⟩; have S1 := sec (S0.out.gr g1); obtain ⟨x1, x2, x3, x4, x5, x6, x7, x8⟩ := S1.out.facts))
    obtain ⟨hb9, hg9, hn9, ha9⟩ := S1.out.done HP.out
    refine bodyPost_ret (results_blk_tmp rfl _ rfl hb9 aggDisk) rfl ?_
    rw [HR.out]
    exact ⟨A, n, cap, rfl, hg9, hn9, ha9⟩
  | true =>
    rw [hgf] at HG
    cases hnb1 : namedB name with
    | false =>
      have HR : Sec (saveR fs f name s = (fs, f, 2)) := sec (by unfold saveR; rw [hgf, hnb1]; rfl)
      rw [hnb1] at HN1
      clear hgf hnb1
      go_enter Tryd.func59, Tryd.ntmps59
      go_wp2_with (first | (rw [← hwa, ← hp]; clear hwa hp; go_wp2_with fail) | (go_at_call 92; refine Calls.mono HG.out ?_; rintro e w1 ⟨rfl, g1⟩; have S1 := sec (S0.out.gr g1); obtain ⟨x1, x2, x3, x4, x5, x6, x7, x8⟩ := S1.out.facts) | (go_at_call 93; (with_reducible refine Calls.mono (HN1.out _) ?_); rintro e w2 ⟨rfl, g2⟩; have S2 := sec (S1.out.gr g2); obtain ⟨x1, x2, x3, x4, x5, x6, x7, x8⟩ := S2.out.facts))
      obtain ⟨hb9, hg9, hn9, ha9⟩ := S2.out.done HP.out
      refine bodyPost_ret (results_blk_tmp rfl _ rfl hb9 aggDisk) rfl ?_
      rw [HR.out]
      exact ⟨A, n, cap, rfl, hg9, hn9, ha9⟩
    | true =>
      rw [hnb1] at HN1
      cases hnb2 : namedB dst with
      | false =>
        have HR : Sec (saveR fs f name s = (fs, f, 2)) := sec (by unfold saveR; rw [hgf, hnb1, ← HDST.out, hnb2]; rfl)
        rw [hnb2] at HN2
        clear hgf hnb1 hnb2
        go_enter Tryd.func59, Tryd.ntmps59
        go_wp2_with (first | (rw [← hwa, ← hp]; clear hwa hp; go_wp2_with fail) | (go_at_call 92; refine Calls.mono HG.out ?_; rintro e w1 ⟨rfl, g1⟩; have S1 := sec (S0.out.gr g1); obtain ⟨x1, x2, x3, x4, x5, x6, x7, x8⟩ := S1.out.facts) | (go_at_call 93; (with_reducible refine Calls.mono (HN1.out _) ?_); rintro e w2 ⟨rfl, g2⟩; have S2 := sec (S1.out.gr g2); obtain ⟨x1, x2, x3, x4, x5, x6, x7, x8⟩ := S2.out.facts) | (go_at_call 93; (with_reducible refine Calls.mono (HN2.out _) ?_); rintro e w3 ⟨rfl, g3⟩; have S3 := sec (S2.out.gr g3); obtain ⟨x1, x2, x3, x4, x5, x6, x7, x8⟩ := S3.out.facts))
        obtain ⟨hb9, hg9, hn9, ha9⟩ := S3.out.done HP.out
        refine bodyPost_ret (results_blk_tmp rfl _ rfl hb9 aggDisk) rfl ?_
        rw [HR.out]
        exact ⟨A, n, cap, rfl, hg9, hn9, ha9⟩
      | true =>
        rw [hnb2] at HN2
        have HV : Sec (saveR fs f name s = save3 fs f name s) := sec (by unfold saveR; rw [hgf, hnb1, ← HDST.out, hnb2]; rfl)
        have HSO := sec (goodFs_sorted hgf)
        clear hgf hnb1 hnb2
        cases hhf : hasF dst fs with
        | false =>
          have HHB := sec hhf
          have HAI : Sec (atI dst fs = -1) := sec (by unfold atI; rw [hhf]; rfl)
          have HHF : Sec (hasF dst fs = false) := sec hhf
          clear hhf
          have Z1 := HZ
          have U1 := HFU
          have HQ0 : Sec (save0 fs f name = (fs, f, 0)) := sec (by unfold save0; rw [← HDST.out, HHB.out]; rfl)
          obtain ⟨⟨gs1, u1, er1⟩, hr1⟩ : ∃ x, x = stepR (wrF dst s) fs f := ⟨_, rfl⟩
          have R1 := sec hr1
          have HQ1 : Sec (save1 fs f name s = (gs1, u1, er1)) := sec (by unfold save1; rw [HQ0.out, if_pos rfl, ← HDST.out, R1.out])
          have Z2 : Sec (Sz gs1) := sec (by have := stepR_sz (F := wrF dst s) (wrF_sz dst s HLD.out) f Z1.out; rwa [← hr1] at this)
          have U2 : Sec (-9223372036854775808 ≤ u1 ∧ u1 ≤ 9223372036854775807) := sec (by have := stepR_fuse (F := wrF dst s) (fs := fs) U1.out; rwa [← hr1] at this)
          have HO1 : Sec (∀ w A n cap, FRow w A n fs → n ≤ cap → (A = none → n = 0 ∧ cap = 0) → Calls Tryd.prog 95 #[.int .i64 0, diskV A n cap f, .string (bs dst), .string (bs s)] w (StepPost (gs1, u1, er1) A n cap fs w)) := sec (fun w A n cap h hc hA => by
            rw [R1.out]; exact do0_any dst s fs A n cap f w (by have := h.len; have := Z1.out.1; omega) hc h hA Z1.out.2 U1.out HLD.out HL2.out)
          unfold StepPost diskV at HO1
          clear hr1
          by_cases he1 : er1 = 0
          · subst he1
            obtain ⟨⟨gs2, u2, er2⟩, hr2⟩ : ∃ x, x = stepR (syF dst) gs1 u1 := ⟨_, rfl⟩
            have R2 := sec hr2
            have HQ2 : Sec (save2 fs f name s = (gs2, u2, er2)) := sec (by unfold save2; rw [HQ1.out, if_pos rfl, ← HDST.out, R2.out])
            have Z3 : Sec (Sz gs2) := sec (by have := stepR_sz (F := syF dst) (syF_sz dst) u1 Z2.out; rwa [← hr2] at this)
            have U3 : Sec (-9223372036854775808 ≤ u2 ∧ u2 ≤ 9223372036854775807) := sec (by have := stepR_fuse (F := syF dst) (fs := gs1) U2.out; rwa [← hr2] at this)
            have HO2 : Sec (∀ w A n cap, FRow w A n gs1 → n ≤ cap → (A = none → n = 0 ∧ cap = 0) → Calls Tryd.prog 95 #[.int .i64 1, diskV A n cap u1, .string (bs dst), .string (bs [])] w (StepPost (gs2, u2, er2) A n cap gs1 w)) := sec (fun w A n cap h hc hA => by
              rw [R2.out]; exact do1_any dst [] gs1 A n cap u1 w (by have := h.len; have := Z2.out.1; omega) hc h hA Z2.out.2 U2.out HLD.out (by simp))
            unfold StepPost diskV at HO2
            clear hr2
            by_cases he2 : er2 = 0
            · subst he2
              obtain ⟨⟨gs3, u3, er3⟩, hr3⟩ : ∃ x, x = stepR (rnF dst name) gs2 u2 := ⟨_, rfl⟩
              have R3 := sec hr3
              have HQ3 : Sec (save3 fs f name s = (gs3, u3, er3)) := sec (by unfold save3; rw [HQ2.out, if_pos rfl, ← HDST.out, R3.out])
              have Z4 : Sec (Sz gs3) := sec (by have := stepR_sz (F := rnF dst name) (rnF_sz dst name HL1.out) u2 Z3.out; rwa [← hr3] at this)
              have U4 : Sec (-9223372036854775808 ≤ u3 ∧ u3 ≤ 9223372036854775807) := sec (by have := stepR_fuse (F := rnF dst name) (fs := gs2) U3.out; rwa [← hr3] at this)
              have HO3 : Sec (∀ w A n cap, FRow w A n gs2 → n ≤ cap → (A = none → n = 0 ∧ cap = 0) → Calls Tryd.prog 95 #[.int .i64 2, diskV A n cap u2, .string (bs dst), .string (bs name)] w (StepPost (gs3, u3, er3) A n cap gs2 w)) := sec (fun w A n cap h hc hA => by
                rw [R3.out]; exact do2_any dst name gs2 A n cap u2 w (by have := h.len; have := Z3.out.1; omega) hc h hA Z3.out.2 U3.out HLD.out HL1.out)
              unfold StepPost diskV at HO3
              clear hr3
              have HR : Sec (saveR fs f name s = (gs3, u3, er3)) := sec (by rw [HV.out]; rw [HQ3.out])
              go_enter Tryd.func59, Tryd.ntmps59
              go_wp2_with (first | (rw [← hwa, ← hp]; clear hwa hp; go_wp2_with fail) | (go_at_call 92; refine Calls.mono HG.out ?_; rintro e w1 ⟨rfl, g1⟩; have S1 := sec (S0.out.gr g1); obtain ⟨x1, x2, x3, x4, x5, x6, x7, x8⟩ := S1.out.facts) | (go_at_call 93; (with_reducible refine Calls.mono (HN1.out _) ?_); rintro e w2 ⟨rfl, g2⟩; have S2 := sec (S1.out.gr g2); obtain ⟨x1, x2, x3, x4, x5, x6, x7, x8⟩ := S2.out.facts) | (go_at_call 93; (with_reducible refine Calls.mono (HN2.out _) ?_); rintro e w3 ⟨rfl, g3⟩; have S3 := sec (S2.out.gr g3); obtain ⟨x1, x2, x3, x4, x5, x6, x7, x8⟩ := S3.out.facts) | (go_at_call 94; refine Calls.mono (at_any fs dst A n cap f w3 (by have := FRow.len HX.out; have := HZ.out.1; omega) (S3.out.row HX.out) HSO.out) ?_; rw [HAI.out]; rintro e w4 ⟨rfl, g4⟩; have S4 := sec (S3.out.gr g4); obtain ⟨x1, x2, x3, x4, x5, x6, x7, x8⟩ := S4.out.facts) | (go_at_call 95; (with_reducible refine Calls.mono (HO1.out _ _ _ _ (S4.out.row HX.out) S4.out.le S4.out.nil) ?_); rintro e w6 ⟨A6, n6, cap6, rfl, g6, hA1, hal1⟩; obtain ⟨x1, x2, x3, x4, x5, x6, x7, x8⟩ := (S4.out.gr g6).facts; have T1 := sec (S4.out.next (gs := gs1) (u := u1) HP.out g6 hA1 hal1)) | (go_at_call 95; (with_reducible refine Calls.mono (HO2.out _ _ _ _ (T1.out.row HX.out) T1.out.le T1.out.nil) ?_); rintro e w7 ⟨A7, n7, cap7, rfl, g7, hA2, hal2⟩; obtain ⟨x1, x2, x3, x4, x5, x6, x7, x8⟩ := (T1.out.gr g7).facts; have T2 := sec (T1.out.next (gs := gs2) (u := u2) HP.out g7 hA2 hal2)) | (go_at_call 95; (with_reducible refine Calls.mono (HO3.out _ _ _ _ (T2.out.row HX.out) T2.out.le T2.out.nil) ?_); rintro e w8 ⟨A8, n8, cap8, rfl, g8, hA3, hal3⟩; obtain ⟨x1, x2, x3, x4, x5, x6, x7, x8⟩ := (T2.out.gr g8).facts; have T3 := sec (T2.out.next (gs := gs3) (u := u3) HP.out g8 hA3 hal3)))
              obtain ⟨hb9, hg9, hn9, ha9⟩ := T3.out.done HP.out
              refine bodyPost_ret (results_blk_tmp rfl _ rfl hb9 aggDisk) rfl ?_
              rw [HR.out]
              exact ⟨A8, n8, cap8, rfl, hg9, hn9, ha9⟩
            · have HR : Sec (saveR fs f name s = (gs2, u2, er2)) := sec (by rw [HV.out]; unfold save3; rw [HQ2.out]; simp only [he2, if_false])
              go_enter Tryd.func59, Tryd.ntmps59
              go_wp2_with (first | (rw [← hwa, ← hp]; clear hwa hp; go_wp2_with fail) | (go_at_call 92; refine Calls.mono HG.out ?_; rintro e w1 ⟨rfl, g1⟩; have S1 := sec (S0.out.gr g1); obtain ⟨x1, x2, x3, x4, x5, x6, x7, x8⟩ := S1.out.facts) | (go_at_call 93; (with_reducible refine Calls.mono (HN1.out _) ?_); rintro e w2 ⟨rfl, g2⟩; have S2 := sec (S1.out.gr g2); obtain ⟨x1, x2, x3, x4, x5, x6, x7, x8⟩ := S2.out.facts) | (go_at_call 93; (with_reducible refine Calls.mono (HN2.out _) ?_); rintro e w3 ⟨rfl, g3⟩; have S3 := sec (S2.out.gr g3); obtain ⟨x1, x2, x3, x4, x5, x6, x7, x8⟩ := S3.out.facts) | (go_at_call 94; refine Calls.mono (at_any fs dst A n cap f w3 (by have := FRow.len HX.out; have := HZ.out.1; omega) (S3.out.row HX.out) HSO.out) ?_; rw [HAI.out]; rintro e w4 ⟨rfl, g4⟩; have S4 := sec (S3.out.gr g4); obtain ⟨x1, x2, x3, x4, x5, x6, x7, x8⟩ := S4.out.facts) | (go_at_call 95; (with_reducible refine Calls.mono (HO1.out _ _ _ _ (S4.out.row HX.out) S4.out.le S4.out.nil) ?_); rintro e w6 ⟨A6, n6, cap6, rfl, g6, hA1, hal1⟩; obtain ⟨x1, x2, x3, x4, x5, x6, x7, x8⟩ := (S4.out.gr g6).facts; have T1 := sec (S4.out.next (gs := gs1) (u := u1) HP.out g6 hA1 hal1)) | (go_at_call 95; (with_reducible refine Calls.mono (HO2.out _ _ _ _ (T1.out.row HX.out) T1.out.le T1.out.nil) ?_); rintro e w7 ⟨A7, n7, cap7, rfl, g7, hA2, hal2⟩; obtain ⟨x1, x2, x3, x4, x5, x6, x7, x8⟩ := (T1.out.gr g7).facts; have T2 := sec (T1.out.next (gs := gs2) (u := u2) HP.out g7 hA2 hal2)))
              obtain ⟨hb9, hg9, hn9, ha9⟩ := T2.out.done HP.out
              refine bodyPost_ret (results_blk_tmp rfl _ rfl hb9 aggDisk) rfl ?_
              rw [HR.out]
              exact ⟨A7, n7, cap7, rfl, hg9, hn9, ha9⟩
          · have HR : Sec (saveR fs f name s = (gs1, u1, er1)) := sec (by rw [HV.out]; unfold save3; unfold save2; rw [HQ1.out]; simp only [he1, if_false])
            go_enter Tryd.func59, Tryd.ntmps59
            go_wp2_with (first | (rw [← hwa, ← hp]; clear hwa hp; go_wp2_with fail) | (go_at_call 92; refine Calls.mono HG.out ?_; rintro e w1 ⟨rfl, g1⟩; have S1 := sec (S0.out.gr g1); obtain ⟨x1, x2, x3, x4, x5, x6, x7, x8⟩ := S1.out.facts) | (go_at_call 93; (with_reducible refine Calls.mono (HN1.out _) ?_); rintro e w2 ⟨rfl, g2⟩; have S2 := sec (S1.out.gr g2); obtain ⟨x1, x2, x3, x4, x5, x6, x7, x8⟩ := S2.out.facts) | (go_at_call 93; (with_reducible refine Calls.mono (HN2.out _) ?_); rintro e w3 ⟨rfl, g3⟩; have S3 := sec (S2.out.gr g3); obtain ⟨x1, x2, x3, x4, x5, x6, x7, x8⟩ := S3.out.facts) | (go_at_call 94; refine Calls.mono (at_any fs dst A n cap f w3 (by have := FRow.len HX.out; have := HZ.out.1; omega) (S3.out.row HX.out) HSO.out) ?_; rw [HAI.out]; rintro e w4 ⟨rfl, g4⟩; have S4 := sec (S3.out.gr g4); obtain ⟨x1, x2, x3, x4, x5, x6, x7, x8⟩ := S4.out.facts) | (go_at_call 95; (with_reducible refine Calls.mono (HO1.out _ _ _ _ (S4.out.row HX.out) S4.out.le S4.out.nil) ?_); rintro e w6 ⟨A6, n6, cap6, rfl, g6, hA1, hal1⟩; obtain ⟨x1, x2, x3, x4, x5, x6, x7, x8⟩ := (S4.out.gr g6).facts; have T1 := sec (S4.out.next (gs := gs1) (u := u1) HP.out g6 hA1 hal1)))
            obtain ⟨hb9, hg9, hn9, ha9⟩ := T1.out.done HP.out
            refine bodyPost_ret (results_blk_tmp rfl _ rfl hb9 aggDisk) rfl ?_
            rw [HR.out]
            exact ⟨A6, n6, cap6, rfl, hg9, hn9, ha9⟩
        | true =>
          have HHB := sec hhf
          have HHF : Sec (hasF dst fs = true) := sec hhf
          obtain ⟨k, hk⟩ : ∃ k, k = lbF dst fs := ⟨_, rfl⟩
          have HAI : Sec (atI dst fs = (k : Int)) := sec (by unfold atI; rw [hhf, hk]; rfl)
          clear hhf hk
          have Z0 := HZ
          have U0 := HFU
          obtain ⟨⟨gs0, u0, er0⟩, hr0⟩ : ∃ x, x = stepR (rmF dst) fs f := ⟨_, rfl⟩
          have R0 := sec hr0
          have HQ0 : Sec (save0 fs f name = (gs0, u0, er0)) := sec (by unfold save0; rw [← HDST.out, HHB.out, if_pos rfl, R0.out])
          have Z1 : Sec (Sz gs0) := sec (by have := stepR_sz (F := rmF dst) (rmF_sz dst) f Z0.out; rwa [← hr0] at this)
          have U1 : Sec (-9223372036854775808 ≤ u0 ∧ u0 ≤ 9223372036854775807) := sec (by have := stepR_fuse (F := rmF dst) (fs := fs) U0.out; rwa [← hr0] at this)
          have HO0 : Sec (∀ w A n cap, FRow w A n fs → n ≤ cap → (A = none → n = 0 ∧ cap = 0) → Calls Tryd.prog 95 #[.int .i64 3, diskV A n cap f, .string (bs dst), .string (bs [])] w (StepPost (gs0, u0, er0) A n cap fs w)) := sec (fun w A n cap h hc hA => by
            rw [R0.out]; exact do3_any dst [] fs A n cap f w (by have := h.len; have := Z0.out.1; omega) hc h hA Z0.out.2 U0.out HLD.out (by simp))
          unfold StepPost diskV at HO0
          clear hr0
          by_cases he0 : er0 = 0
          · subst he0
            obtain ⟨⟨gs1, u1, er1⟩, hr1⟩ : ∃ x, x = stepR (wrF dst s) gs0 u0 := ⟨_, rfl⟩
            have R1 := sec hr1
            have HQ1 : Sec (save1 fs f name s = (gs1, u1, er1)) := sec (by unfold save1; rw [HQ0.out, if_pos rfl, ← HDST.out, R1.out])
            have Z2 : Sec (Sz gs1) := sec (by have := stepR_sz (F := wrF dst s) (wrF_sz dst s HLD.out) u0 Z1.out; rwa [← hr1] at this)
            have U2 : Sec (-9223372036854775808 ≤ u1 ∧ u1 ≤ 9223372036854775807) := sec (by have := stepR_fuse (F := wrF dst s) (fs := gs0) U1.out; rwa [← hr1] at this)
            have HO1 : Sec (∀ w A n cap, FRow w A n gs0 → n ≤ cap → (A = none → n = 0 ∧ cap = 0) → Calls Tryd.prog 95 #[.int .i64 0, diskV A n cap u0, .string (bs dst), .string (bs s)] w (StepPost (gs1, u1, er1) A n cap gs0 w)) := sec (fun w A n cap h hc hA => by
              rw [R1.out]; exact do0_any dst s gs0 A n cap u0 w (by have := h.len; have := Z1.out.1; omega) hc h hA Z1.out.2 U1.out HLD.out HL2.out)
            unfold StepPost diskV at HO1
            clear hr1
            by_cases he1 : er1 = 0
            · subst he1
              obtain ⟨⟨gs2, u2, er2⟩, hr2⟩ : ∃ x, x = stepR (syF dst) gs1 u1 := ⟨_, rfl⟩
              have R2 := sec hr2
              have HQ2 : Sec (save2 fs f name s = (gs2, u2, er2)) := sec (by unfold save2; rw [HQ1.out, if_pos rfl, ← HDST.out, R2.out])
              have Z3 : Sec (Sz gs2) := sec (by have := stepR_sz (F := syF dst) (syF_sz dst) u1 Z2.out; rwa [← hr2] at this)
              have U3 : Sec (-9223372036854775808 ≤ u2 ∧ u2 ≤ 9223372036854775807) := sec (by have := stepR_fuse (F := syF dst) (fs := gs1) U2.out; rwa [← hr2] at this)
              have HO2 : Sec (∀ w A n cap, FRow w A n gs1 → n ≤ cap → (A = none → n = 0 ∧ cap = 0) → Calls Tryd.prog 95 #[.int .i64 1, diskV A n cap u1, .string (bs dst), .string (bs [])] w (StepPost (gs2, u2, er2) A n cap gs1 w)) := sec (fun w A n cap h hc hA => by
                rw [R2.out]; exact do1_any dst [] gs1 A n cap u1 w (by have := h.len; have := Z2.out.1; omega) hc h hA Z2.out.2 U2.out HLD.out (by simp))
              unfold StepPost diskV at HO2
              clear hr2
              by_cases he2 : er2 = 0
              · subst he2
                obtain ⟨⟨gs3, u3, er3⟩, hr3⟩ : ∃ x, x = stepR (rnF dst name) gs2 u2 := ⟨_, rfl⟩
                have R3 := sec hr3
                have HQ3 : Sec (save3 fs f name s = (gs3, u3, er3)) := sec (by unfold save3; rw [HQ2.out, if_pos rfl, ← HDST.out, R3.out])
                have Z4 : Sec (Sz gs3) := sec (by have := stepR_sz (F := rnF dst name) (rnF_sz dst name HL1.out) u2 Z3.out; rwa [← hr3] at this)
                have U4 : Sec (-9223372036854775808 ≤ u3 ∧ u3 ≤ 9223372036854775807) := sec (by have := stepR_fuse (F := rnF dst name) (fs := gs2) U3.out; rwa [← hr3] at this)
                have HO3 : Sec (∀ w A n cap, FRow w A n gs2 → n ≤ cap → (A = none → n = 0 ∧ cap = 0) → Calls Tryd.prog 95 #[.int .i64 2, diskV A n cap u2, .string (bs dst), .string (bs name)] w (StepPost (gs3, u3, er3) A n cap gs2 w)) := sec (fun w A n cap h hc hA => by
                  rw [R3.out]; exact do2_any dst name gs2 A n cap u2 w (by have := h.len; have := Z3.out.1; omega) hc h hA Z3.out.2 U3.out HLD.out HL1.out)
                unfold StepPost diskV at HO3
                clear hr3
                have HR : Sec (saveR fs f name s = (gs3, u3, er3)) := sec (by rw [HV.out]; rw [HQ3.out])
                go_enter Tryd.func59, Tryd.ntmps59
                go_wp2_with (first | (rw [← hwa, ← hp]; clear hwa hp; go_wp2_with fail) | (go_at_call 92; refine Calls.mono HG.out ?_; rintro e w1 ⟨rfl, g1⟩; have S1 := sec (S0.out.gr g1); obtain ⟨x1, x2, x3, x4, x5, x6, x7, x8⟩ := S1.out.facts) | (go_at_call 93; (with_reducible refine Calls.mono (HN1.out _) ?_); rintro e w2 ⟨rfl, g2⟩; have S2 := sec (S1.out.gr g2); obtain ⟨x1, x2, x3, x4, x5, x6, x7, x8⟩ := S2.out.facts) | (go_at_call 93; (with_reducible refine Calls.mono (HN2.out _) ?_); rintro e w3 ⟨rfl, g3⟩; have S3 := sec (S2.out.gr g3); obtain ⟨x1, x2, x3, x4, x5, x6, x7, x8⟩ := S3.out.facts) | (go_at_call 94; refine Calls.mono (at_any fs dst A n cap f w3 (by have := FRow.len HX.out; have := HZ.out.1; omega) (S3.out.row HX.out) HSO.out) ?_; rw [HAI.out]; rintro e w4 ⟨rfl, g4⟩; have S4 := sec (S3.out.gr g4); obtain ⟨x1, x2, x3, x4, x5, x6, x7, x8⟩ := S4.out.facts) | (go_at_call 95; (with_reducible refine Calls.mono (HO0.out _ _ _ _ (S4.out.row HX.out) S4.out.le S4.out.nil) ?_); rintro e w5 ⟨A5, n5, cap5, rfl, g5, hA0, hal0⟩; obtain ⟨x1, x2, x3, x4, x5, x6, x7, x8⟩ := (S4.out.gr g5).facts; have T0 := sec (S4.out.next (gs := gs0) (u := u0) HP.out g5 hA0 hal0)) | (go_at_call 95; (with_reducible refine Calls.mono (HO1.out _ _ _ _ (T0.out.row HX.out) T0.out.le T0.out.nil) ?_); rintro e w6 ⟨A6, n6, cap6, rfl, g6, hA1, hal1⟩; obtain ⟨x1, x2, x3, x4, x5, x6, x7, x8⟩ := (T0.out.gr g6).facts; have T1 := sec (T0.out.next (gs := gs1) (u := u1) HP.out g6 hA1 hal1)) | (go_at_call 95; (with_reducible refine Calls.mono (HO2.out _ _ _ _ (T1.out.row HX.out) T1.out.le T1.out.nil) ?_); rintro e w7 ⟨A7, n7, cap7, rfl, g7, hA2, hal2⟩; obtain ⟨x1, x2, x3, x4, x5, x6, x7, x8⟩ := (T1.out.gr g7).facts; have T2 := sec (T1.out.next (gs := gs2) (u := u2) HP.out g7 hA2 hal2)) | (go_at_call 95; (with_reducible refine Calls.mono (HO3.out _ _ _ _ (T2.out.row HX.out) T2.out.le T2.out.nil) ?_); rintro e w8 ⟨A8, n8, cap8, rfl, g8, hA3, hal3⟩; obtain ⟨x1, x2, x3, x4, x5, x6, x7, x8⟩ := (T2.out.gr g8).facts; have T3 := sec (T2.out.next (gs := gs3) (u := u3) HP.out g8 hA3 hal3)))
                obtain ⟨hb9, hg9, hn9, ha9⟩ := T3.out.done HP.out
                refine bodyPost_ret (results_blk_tmp rfl _ rfl hb9 aggDisk) rfl ?_
                rw [HR.out]
                exact ⟨A8, n8, cap8, rfl, hg9, hn9, ha9⟩
              · have HR : Sec (saveR fs f name s = (gs2, u2, er2)) := sec (by rw [HV.out]; unfold save3; rw [HQ2.out]; simp only [he2, if_false])
                go_enter Tryd.func59, Tryd.ntmps59
                go_wp2_with (first | (rw [← hwa, ← hp]; clear hwa hp; go_wp2_with fail) | (go_at_call 92; refine Calls.mono HG.out ?_; rintro e w1 ⟨rfl, g1⟩; have S1 := sec (S0.out.gr g1); obtain ⟨x1, x2, x3, x4, x5, x6, x7, x8⟩ := S1.out.facts) | (go_at_call 93; (with_reducible refine Calls.mono (HN1.out _) ?_); rintro e w2 ⟨rfl, g2⟩; have S2 := sec (S1.out.gr g2); obtain ⟨x1, x2, x3, x4, x5, x6, x7, x8⟩ := S2.out.facts) | (go_at_call 93; (with_reducible refine Calls.mono (HN2.out _) ?_); rintro e w3 ⟨rfl, g3⟩; have S3 := sec (S2.out.gr g3); obtain ⟨x1, x2, x3, x4, x5, x6, x7, x8⟩ := S3.out.facts) | (go_at_call 94; refine Calls.mono (at_any fs dst A n cap f w3 (by have := FRow.len HX.out; have := HZ.out.1; omega) (S3.out.row HX.out) HSO.out) ?_; rw [HAI.out]; rintro e w4 ⟨rfl, g4⟩; have S4 := sec (S3.out.gr g4); obtain ⟨x1, x2, x3, x4, x5, x6, x7, x8⟩ := S4.out.facts) | (go_at_call 95; (with_reducible refine Calls.mono (HO0.out _ _ _ _ (S4.out.row HX.out) S4.out.le S4.out.nil) ?_); rintro e w5 ⟨A5, n5, cap5, rfl, g5, hA0, hal0⟩; obtain ⟨x1, x2, x3, x4, x5, x6, x7, x8⟩ := (S4.out.gr g5).facts; have T0 := sec (S4.out.next (gs := gs0) (u := u0) HP.out g5 hA0 hal0)) | (go_at_call 95; (with_reducible refine Calls.mono (HO1.out _ _ _ _ (T0.out.row HX.out) T0.out.le T0.out.nil) ?_); rintro e w6 ⟨A6, n6, cap6, rfl, g6, hA1, hal1⟩; obtain ⟨x1, x2, x3, x4, x5, x6, x7, x8⟩ := (T0.out.gr g6).facts; have T1 := sec (T0.out.next (gs := gs1) (u := u1) HP.out g6 hA1 hal1)) | (go_at_call 95; (with_reducible refine Calls.mono (HO2.out _ _ _ _ (T1.out.row HX.out) T1.out.le T1.out.nil) ?_); rintro e w7 ⟨A7, n7, cap7, rfl, g7, hA2, hal2⟩; obtain ⟨x1, x2, x3, x4, x5, x6, x7, x8⟩ := (T1.out.gr g7).facts; have T2 := sec (T1.out.next (gs := gs2) (u := u2) HP.out g7 hA2 hal2)))
                obtain ⟨hb9, hg9, hn9, ha9⟩ := T2.out.done HP.out
                refine bodyPost_ret (results_blk_tmp rfl _ rfl hb9 aggDisk) rfl ?_
                rw [HR.out]
                exact ⟨A7, n7, cap7, rfl, hg9, hn9, ha9⟩
            · have HR : Sec (saveR fs f name s = (gs1, u1, er1)) := sec (by rw [HV.out]; unfold save3; unfold save2; rw [HQ1.out]; simp only [he1, if_false])
              go_enter Tryd.func59, Tryd.ntmps59
              go_wp2_with (first | (rw [← hwa, ← hp]; clear hwa hp; go_wp2_with fail) | (go_at_call 92; refine Calls.mono HG.out ?_; rintro e w1 ⟨rfl, g1⟩; have S1 := sec (S0.out.gr g1); obtain ⟨x1, x2, x3, x4, x5, x6, x7, x8⟩ := S1.out.facts) | (go_at_call 93; (with_reducible refine Calls.mono (HN1.out _) ?_); rintro e w2 ⟨rfl, g2⟩; have S2 := sec (S1.out.gr g2); obtain ⟨x1, x2, x3, x4, x5, x6, x7, x8⟩ := S2.out.facts) | (go_at_call 93; (with_reducible refine Calls.mono (HN2.out _) ?_); rintro e w3 ⟨rfl, g3⟩; have S3 := sec (S2.out.gr g3); obtain ⟨x1, x2, x3, x4, x5, x6, x7, x8⟩ := S3.out.facts) | (go_at_call 94; refine Calls.mono (at_any fs dst A n cap f w3 (by have := FRow.len HX.out; have := HZ.out.1; omega) (S3.out.row HX.out) HSO.out) ?_; rw [HAI.out]; rintro e w4 ⟨rfl, g4⟩; have S4 := sec (S3.out.gr g4); obtain ⟨x1, x2, x3, x4, x5, x6, x7, x8⟩ := S4.out.facts) | (go_at_call 95; (with_reducible refine Calls.mono (HO0.out _ _ _ _ (S4.out.row HX.out) S4.out.le S4.out.nil) ?_); rintro e w5 ⟨A5, n5, cap5, rfl, g5, hA0, hal0⟩; obtain ⟨x1, x2, x3, x4, x5, x6, x7, x8⟩ := (S4.out.gr g5).facts; have T0 := sec (S4.out.next (gs := gs0) (u := u0) HP.out g5 hA0 hal0)) | (go_at_call 95; (with_reducible refine Calls.mono (HO1.out _ _ _ _ (T0.out.row HX.out) T0.out.le T0.out.nil) ?_); rintro e w6 ⟨A6, n6, cap6, rfl, g6, hA1, hal1⟩; obtain ⟨x1, x2, x3, x4, x5, x6, x7, x8⟩ := (T0.out.gr g6).facts; have T1 := sec (T0.out.next (gs := gs1) (u := u1) HP.out g6 hA1 hal1)))
              obtain ⟨hb9, hg9, hn9, ha9⟩ := T1.out.done HP.out
              refine bodyPost_ret (results_blk_tmp rfl _ rfl hb9 aggDisk) rfl ?_
              rw [HR.out]
              exact ⟨A6, n6, cap6, rfl, hg9, hn9, ha9⟩
          · have HR : Sec (saveR fs f name s = (gs0, u0, er0)) := sec (by rw [HV.out]; unfold save3; unfold save2; unfold save1; rw [HQ0.out]; simp only [he0, if_false])
            go_enter Tryd.func59, Tryd.ntmps59
            go_wp2_with (first | (rw [← hwa, ← hp]; clear hwa hp; go_wp2_with fail) | (go_at_call 92; refine Calls.mono HG.out ?_; rintro e w1 ⟨rfl, g1⟩; have S1 := sec (S0.out.gr g1); obtain ⟨x1, x2, x3, x4, x5, x6, x7, x8⟩ := S1.out.facts) | (go_at_call 93; (with_reducible refine Calls.mono (HN1.out _) ?_); rintro e w2 ⟨rfl, g2⟩; have S2 := sec (S1.out.gr g2); obtain ⟨x1, x2, x3, x4, x5, x6, x7, x8⟩ := S2.out.facts) | (go_at_call 93; (with_reducible refine Calls.mono (HN2.out _) ?_); rintro e w3 ⟨rfl, g3⟩; have S3 := sec (S2.out.gr g3); obtain ⟨x1, x2, x3, x4, x5, x6, x7, x8⟩ := S3.out.facts) | (go_at_call 94; refine Calls.mono (at_any fs dst A n cap f w3 (by have := FRow.len HX.out; have := HZ.out.1; omega) (S3.out.row HX.out) HSO.out) ?_; rw [HAI.out]; rintro e w4 ⟨rfl, g4⟩; have S4 := sec (S3.out.gr g4); obtain ⟨x1, x2, x3, x4, x5, x6, x7, x8⟩ := S4.out.facts) | (go_at_call 95; (with_reducible refine Calls.mono (HO0.out _ _ _ _ (S4.out.row HX.out) S4.out.le S4.out.nil) ?_); rintro e w5 ⟨A5, n5, cap5, rfl, g5, hA0, hal0⟩; obtain ⟨x1, x2, x3, x4, x5, x6, x7, x8⟩ := (S4.out.gr g5).facts; have T0 := sec (S4.out.next (gs := gs0) (u := u0) HP.out g5 hA0 hal0)))
            obtain ⟨hb9, hg9, hn9, ha9⟩ := T0.out.done HP.out
            refine bodyPost_ret (results_blk_tmp rfl _ rfl hb9 aggDisk) rfl ?_
            rw [HR.out]
            exact ⟨A5, n5, cap5, rfl, hg9, hn9, ha9⟩
end Go.Proofs.YtmgpllakpgjicaaDoor

namespace Go.Proofs.YtmgpllakpgjicaaDoor
set_option maxRecDepth 100000
open Go.RowKit
set_option linter.unusedVariables false
set_option maxHeartbeats 16000000 in
theorem rstoPut_any (fs : List Fl) (s : List UInt8) (A : Option Addr) (n cap : Nat) (f : Int) (w : World) (hx : FRow w A n fs) (hnc : n ≤ cap) (hA : A = none → n = 0 ∧ cap = 0) (hz : Sz fs) (hf : -9223372036854775808 ≤ f ∧ f ≤ 9223372036854775807) (hs : s.length ≤ 1099511627775) :
    Calls Tryd.prog 23 #[diskV A n cap f, .string (bs s)] w (PutPost (putR fs f s) A n cap fs w) := by
  have hln := hx.len
  have hn40 : n ≤ 1099511627776 := by have := hz.1; omega
  have hz2 := hz.2
  have hDl : (sha s).length = 32 := sha_len s
  have HDec : Sec (∀ W, Calls Tryd.prog 9 #[.string (bs s)] W (DecPost W (obD s))) := sec (fun W => robDec_any s W hs)
  have HId : Sec (∀ W, Gr w W → Calls Tryd.prog 12 #[.string (bs s)] W fun e w' => e = .returned (.string (bs (sha s))) ∧ Gr W w') := sec (fun W g => rsum_any s W (by omega))
  have HGet : Sec (∀ W, Gr w W → Calls Tryd.prog 27 #[diskV A n cap f, .string (bs (sha s))] W fun e w' => e = .returned (.tuple #[.string (bs (getR fs (sha s)).1), .int .i64 (getR fs (sha s)).2]) ∧ Gr W w') := sec (fun W g => rstoGet_any fs (sha s) A n cap f W hn40 (hx.gr g) hz2 (by rw [hDl]; omega))
  have HFi : Sec (∀ W, Calls Tryd.prog 60 #[.string (bs (sha s))] W fun e w' => e = .returned (.string (bs (hexOf (sha s)))) ∧ Gr W w') := sec (fun W => rhex_any (sha s) W (by rw [hDl]; omega))
  have HSv : Sec (∀ W, Gr w W → Calls Tryd.prog 59 #[diskV A n cap f, .string (bs (fileN (sha s))), .string (bs s)] W (StepPost (saveR fs f (fileN (sha s)) s) A n cap fs W)) := sec (fun W g => rsave_any (fileN (sha s)) s fs A n cap f W (hx.gr g) hnc hA hz hf (by rw [fileN_len, hDl]; omega) (by omega))
  obtain ⟨V, hV⟩ : ∃ V, V = putR fs f s := ⟨_, rfl⟩
  have HV : Sec (V = if (obD s).2 = 0 then (if (getR fs (sha s)).2 = 0 then (fs, f, sha s, 0) else if (saveR fs f (fileN (sha s)) s).2.2 = 0 then ((saveR fs f (fileN (sha s)) s).1, (saveR fs f (fileN (sha s)) s).2.1, sha s, 0) else ((saveR fs f (fileN (sha s)) s).1, (saveR fs f (fileN (sha s)) s).2.1, [], (saveR fs f (fileN (sha s)) s).2.2)) else (fs, f, [], (obD s).2)) := sec hV
  rw [← hV]
  clear hV
  obtain ⟨⟨gs, u, ee⟩, hR⟩ : ∃ R, R = saveR fs f (fileN (sha s)) s := ⟨_, rfl⟩
  rw [← hR] at HSv HV
  obtain ⟨⟨gt, ge⟩, hG⟩ : ∃ R, R = getR fs (sha s) := ⟨_, rfl⟩
  rw [← hG] at HGet HV
  obtain ⟨⟨⟨kd, dt, en, tr, pa, wh, no, ti, ta⟩, E⟩, hE⟩ : ∃ r, r = obD s := ⟨_, rfl⟩
  rw [← hE] at HV HDec
  obtain ⟨D, hD⟩ : ∃ D, D = sha s := ⟨_, rfl⟩
  rw [← hD] at HV HId HGet HFi HSv hDl

  have hxl := hexOf_len D
  obtain ⟨X, hX⟩ : ∃ X, X = hexOf D := ⟨_, rfl⟩
  rw [← hX] at HFi hxl
  rw [show fileN D = 111 :: X by rw [hX]; rfl] at HSv
  have hcat : ¬ 9223372036854775807 < 1 + X.length := by omega
  clear hX hxl
  unfold DecPost obA at HDec
  unfold StepPost at HSv
  unfold diskV at HGet HSv
  unfold diskV
  simp only at HDec HV HGet HSv
  have G0 : Gr w ((w.alloc (.cells #[.slice A n cap, .int .i64 f] 43)).alloc (.cells #[.slice none 0 0, .int .i64 0] 43)) := ((Gr.refl w).alloc _).alloc _
  have B0 := (Blk.new w 43 #[.slice A n cap, .int .i64 f]).alloc (.cells #[.slice none 0 0, .int .i64 0] 43)
  have Q0 := Blk.new1 w (.cells #[.slice A n cap, .int .i64 f] 43) 43 #[.slice none 0 0, .int .i64 0]
  obtain ⟨wa, hwa⟩ : ∃ x, x = (w.alloc (.cells #[.slice A n cap, .int .i64 f] 43)).alloc (.cells #[.slice none 0 0, .int .i64 0] 43) := ⟨_, rfl⟩
  rw [← hwa] at G0 B0 Q0
  obtain ⟨p, hp⟩ : ∃ p, p = w.heap.size := ⟨_, rfl⟩
  rw [← hp] at B0 Q0
  have hwp : w.heap.size ≤ p := by omega
  have hwq : w.heap.size ≤ p + 1 := by omega
  have hpl := B0.lt
  have hql := Q0.lt
  have HSK : Sec (∀ W, Gr wa W → W.cell? ⟨p, 0, none⟩ = some (.slice A n cap) ∧ W.cell? ⟨p, 1, none⟩ = some (.int .i64 f) ∧ W.cell? ⟨p + 1, 0, none⟩ = some (.slice none 0 0) ∧ W.cell? ⟨p + 1, 1, none⟩ = some (.int .i64 0) ∧ W.frozen? ⟨p, 0, none⟩ = false ∧ W.frozen? ⟨p, 1, none⟩ = false ∧ W.frozen? ⟨p + 1, 0, none⟩ = false ∧ W.frozen? ⟨p + 1, 1, none⟩ = false) := sec (fun W g => ⟨(B0.gr g).cell 0, (B0.gr g).cell 1, (Q0.gr g).cell 0, (Q0.gr g).cell 1, (B0.gr g).frozen 0, (B0.gr g).frozen 1, (Q0.gr g).frozen 0, (Q0.gr g).frozen 1⟩)
  have HQ := sec Q0
  have HB := sec B0
  have HG0 := sec G0
  have HA := sec hA
  clear hx hz hz2 hR hG hE hD hDl hA B0 Q0 G0
  go_enter Tryd.func23, Tryd.ntmps23
  go_upto_region 1 with fail
  rw [← hwa, ← hp]
  clear hwa hp
  go_upto_region 2 with (first
    | (go_at_call 9; (with_reducible refine Calls.mono (HDec.out _) ?_); rintro e w2 ⟨A1, c1, B1, d1, rfl, r2, g2⟩)
    | (refine wpList_store_blk rfl 25 (.tmp 7) (.tmp 13) rfl (g := w2.heap.size) (cs' := obA ⟨kd, dt, en, tr, pa, wh, no, ti, ta⟩ A1 c1 B1 d1) rfl rfl (Blk.new w2 _ _) aggOb rfl (obA_one _ _ _ _ _) ?_; intro w3 h3 hg3))
  have z3 : Gr wa w3 := g2.trans (Gr.only ((Gr.refl w2).alloc _) hg3 (Nat.le_refl _))
  clear h3 hg3 r2 g2
  obtain ⟨c0, c1', q0, q1, f0, f1, y0, y1⟩ := HSK.out w3 z3
  by_cases hE0 : E = 0
  case neg =>
    have qe : (E != 0) = true := by rw [bne_iff_ne]; exact hE0
    have HX : Sec (V = (fs, f, [], E)) := sec (by rw [HV.out, if_neg hE0])
    clear hE0
    go_wp2_with fail
    refine bodyPost_ret (results_blk_tmp2 rfl _ rfl (((HQ.out.gr z3).set_ 0 (.slice A n cap)).set_ 1 (.int .i64 f)) aggDisk) rfl ?_
    rw [HX.out]
    exact ⟨A, n, cap, rfl, ((HG0.out.trans z3).setCell (p := ⟨p + 1, 0, none⟩) hwq _).setCell (p := ⟨p + 1, 1, none⟩) hwq _, HA.out, .inl ⟨rfl, rfl, rfl, rfl⟩⟩
  subst hE0
  have HV2 : Sec (V = if ge = 0 then (fs, f, D, 0) else if ee = 0 then (gs, u, D, 0) else (gs, u, [], ee)) := sec (by rw [HV.out, if_pos rfl])
  clear HV
  by_cases hge : ge = 0
  · subst hge
    have HX : Sec (V = (fs, f, D, 0)) := sec (by rw [HV2.out, if_pos rfl])
    clear HV2
    go_wp2_with (first
      | (go_at_call 12; (with_reducible refine Calls.mono (HId.out _ (HG0.out.trans z3)) ?_); rintro e w4 ⟨rfl, g4⟩; have z4 := z3.trans g4; obtain ⟨c0, c1', q0, q1, f0, f1, y0, y1⟩ := HSK.out w4 z4)
      | (go_at_call 27; (with_reducible refine Calls.mono (HGet.out _ (HG0.out.trans z4)) ?_); rintro e w5 ⟨rfl, g5⟩; have z5 := z4.trans g5; obtain ⟨c0, c1', q0, q1, f0, f1, y0, y1⟩ := HSK.out w5 z5))
    refine bodyPost_ret (results_blk_tmp2 rfl _ rfl (((HQ.out.gr z5).set_ 0 (.slice A n cap)).set_ 1 (.int .i64 f)) aggDisk) rfl ?_
    rw [HX.out]
    exact ⟨A, n, cap, rfl, ((HG0.out.trans z5).setCell (p := ⟨p + 1, 0, none⟩) hwq _).setCell (p := ⟨p + 1, 1, none⟩) hwq _, HA.out, .inl ⟨rfl, rfl, rfl, rfl⟩⟩
  have qg : (ge == 0) = false := by rw [beq_eq_false_iff_ne]; exact hge
  have HV3 : Sec (V = if ee = 0 then (gs, u, D, 0) else (gs, u, [], ee)) := sec (by rw [HV2.out, if_neg hge])
  clear hge HV2
  go_upto_region 8 with (first
    | (go_at_call 12; (with_reducible refine Calls.mono (HId.out _ (HG0.out.trans z3)) ?_); rintro e w4 ⟨rfl, g4⟩; have z4 := z3.trans g4; obtain ⟨c0, c1', q0, q1, f0, f1, y0, y1⟩ := HSK.out w4 z4)
    | (go_at_call 27; (with_reducible refine Calls.mono (HGet.out _ (HG0.out.trans z4)) ?_); rintro e w5 ⟨rfl, g5⟩; have z5 := z4.trans g5; obtain ⟨c0, c1', q0, q1, f0, f1, y0, y1⟩ := HSK.out w5 z5))
  have gd : Gr w5 w5.drew := (Gr.refl _).drew
  have HMID : Sec (∀ w6 w7 A' n' cap', Gr w5 w6 → Gr w6 w7 → (A' = none → n' = 0 ∧ cap' = 0) → ((A' = A ∧ n' = n ∧ cap' = cap ∧ gs = fs) ∨ w7.ownsRow w6.heap.size 89 3 (.slice A' n' cap') n' (gs.flatMap fileC)) → PMid w p (p + 1) A n cap fs gs u A' n' cap' ((w7.setCell ⟨p, 0, none⟩ (.slice A' n' cap')).setCell ⟨p, 1, none⟩ (.int .i64 u))) := sec (fun w6 w7 A' n' cap' k5 k6 h1 h => pmid (HG0.out.trans z5) k5 k6 hwp (by omega) (Nat.lt_of_lt_of_le hpl z5.size) (HB.out.gr z5) (HQ.out.gr z5) h1 h)
  go_cut [8] from 31 to 39 (fun v wx => ∃ (A' : Option Addr) (n' cap' : Nat), v = .int .i64 ee ∧ Sec (PMid w p (p + 1) A n cap fs gs u A' n' cap' wx))
  case first =>
    go_region_with (first
      | (go_at_call 60; (with_reducible refine Calls.mono (HFi.out w5.drew) ?_); rintro e w6 ⟨rfl, g6'⟩; have g6 : Gr w5 w6 := Gr.trans gd g6'; obtain ⟨x0, x1, _, _, xf0, xf1, _, _⟩ := HSK.out w6 (z5.trans g6))
      | (go_at_call 59; (with_reducible refine Calls.mono (HSv.out w6 (HG0.out.trans (z5.trans g6))) ?_); rintro e w7 ⟨A', n', cap', rfl, g7, hA7, ha⟩; obtain ⟨x0, x1, _, _, xf0, xf1, _, _⟩ := HSK.out w7 ((z5.trans g6).trans g7)))
    all_goals (go_wp2_with fail; go_meet; exact ⟨A', n', cap', rfl, HMID.out w6 w7 A' n' cap' g6 g7 hA7 ha |> sec⟩)
  case rest =>
    clear c0 c1' q0 q1 f0 f1 y0 y1
    obtain ⟨A', n', cap', rfl, HM⟩ := hcut
    have c0 := HM.out.dk.cell 0
    have c1 := HM.out.dk.cell 1
    have q0 := HM.out.rs.cell 0
    have q1 := HM.out.rs.cell 1
    have y0 := HM.out.rs.frozen 0
    have y1 := HM.out.rs.frozen 1
    have HNQ : Sec (∀ k, (Value.slice A' n' cap').ownBlock = some k → wc.ownsRow w.heap.size 89 3 (.slice A' n' cap') n' (gs.flatMap fileC) → k ≠ p + 1) := sec (fun k hk h hkp => by
      subst hkp
      exact own_blk_ne h HM.out.rs (by decide) hk)
    by_cases he0 : ee = 0
    · subst he0
      have HX : Sec (V = (gs, u, D, 0)) := sec (by rw [HV3.out, if_pos rfl])
      clear HV3
      go_wp2_with fail
      refine bodyPost_ret (results_blk_tmp2 rfl _ rfl ((HM.out.rs.set_ 0 (.slice A' n' cap')).set_ 1 (.int .i64 u)) aggDisk) rfl ?_
      rw [HX.out]
      obtain ⟨t1, t2⟩ := putEndS (q := p + 1) HM.out.gr hwq HNQ.out HM.out.row (.slice A' n' cap') (.int .i64 u)
      exact ⟨A', n', cap', rfl, t1, HM.out.nil, t2⟩
    · have qe : (ee != 0) = true := by rw [bne_iff_ne]; exact he0
      have HX : Sec (V = (gs, u, [], ee)) := sec (by rw [HV3.out, if_neg he0])
      clear HV3 he0
      go_wp2_with fail
      refine bodyPost_ret (results_blk_tmp2 rfl _ rfl ((HM.out.rs.set_ 0 (.slice A' n' cap')).set_ 1 (.int .i64 u)) aggDisk) rfl ?_
      rw [HX.out]
      obtain ⟨t1, t2⟩ := putEndS (q := p + 1) HM.out.gr hwq HNQ.out HM.out.row (.slice A' n' cap') (.int .i64 u)
      exact ⟨A', n', cap', rfl, t1, HM.out.nil, t2⟩
end Go.Proofs.YtmgpllakpgjicaaDoor

namespace Go.Proofs.YtmgpllakpgjicaaDoor
set_option maxRecDepth 100000
open Go.RowKit
set_option linter.unusedVariables false
theorem PutPost.row {r : List Fl × Int × List UInt8 × Int} {A A' : Option Addr} {n n' cap cap' : Nat} {fs : List Fl} {w w' : World} (hx : FRow w A n fs) (hg : Gr w w')
    (h : (A' = A ∧ n' = n ∧ cap' = cap ∧ r.1 = fs) ∨ w'.ownsRow w.heap.size 89 3 (.slice A' n' cap') n' (r.1.flatMap fileC)) : FRow w' A' n' r.1 := by
  rcases h with ⟨rfl, rfl, _, h⟩ | h
  · rw [h]; exact hx.gr hg
  · exact Row.own h
set_option maxHeartbeats 8000000 in
theorem storePuts_walk (A : Option Addr) (cap : Nat) (fs : List Fl) (f : Int) (s : List UInt8) (W : World) (hd : DiskIn W A cap fs f) (hsl : s.length ≤ 1048576) (hT : TabK W) :
    Calls Tryd.prog 6 #[diskV A fs.length cap f, .string (bs s)] W fun e W' => e = .returned (.bool true) ∧ Gr W W' := by
  obtain ⟨hrow, hlen, hsize, hnil, hfuse, hcap⟩ := hd
  have hs : ∀ f ∈ fs, f.1.length ≤ 1099511627776 ∧ f.2.1.length ≤ 1099511627776 ∧ f.2.2.length ≤ 1099511627776 := fun x hx => by have := hsize x hx; omega
  have hz : Sz fs := ⟨hlen, hs⟩
  obtain ⟨n, hn⟩ : ∃ n, n = fs.length := ⟨_, rfl⟩
  rw [← hn] at hrow hlen hnil hcap
  rw [← hn]
  have hn40 : n ≤ 1099511627776 := by omega
  have hg0 := (Gr.refl W).alloc (.cells #[.slice A n cap, .int .i64 f] 43)
  have hb1 := Blk.new W 43 #[.slice A n cap, .int .i64 f]
  have hrow1 := hrow.gr hg0
  have hT1 := hT.gr hg0
  obtain ⟨wa, hwa⟩ : ∃ x, x = W.alloc (.cells #[.slice A n cap, .int .i64 f] 43) := ⟨_, rfl⟩
  rw [← hwa] at hg0 hb1 hrow1 hT1
  obtain ⟨p, hp⟩ : ∃ p, p = W.heap.size := ⟨_, rfl⟩
  rw [← hp] at hb1
  have hRz := (putR_sz fs f s hz).1
  obtain ⟨R, hR⟩ : ∃ R, R = putR fs f s := ⟨_, rfl⟩
  rw [← hR] at hRz
  have HCp : Sec (∀ w, Gr wa w → Calls Tryd.prog 22 #[diskV A n cap f] w fun e w' => ∃ A' cap', e = .returned (diskV A' n cap' f) ∧ FRow w' A' n fs ∧ n ≤ cap' ∧ (A' = none → n = 0 ∧ cap' = 0) ∧ Gr w w') := sec (fun w g => by
    refine (copyDisk_any fs A n cap f w hn40 (hrow1.gr g) hnil).mono ?_
    rintro e w' ⟨A', cap', rfl, ho, hA', g'⟩
    exact ⟨A', cap', rfl, Row.own ho, own_ncap ho, hA', g'⟩)
  have HP1 : Sec (∀ w A' cap', FRow w A' n fs → n ≤ cap' → (A' = none → n = 0 ∧ cap' = 0) → Gr wa w → Calls Tryd.prog 21 #[diskV A' n cap' f, .string (bs s)] w fun e w' => ∃ A2 n2 cap2, e = .returned (.tuple #[diskV A2 n2 cap2 R.2.1, .string (bs R.2.2.1), .int .i64 R.2.2.2]) ∧ FRow w' A2 n2 R.1 ∧ Gr w w') := sec (fun w A' cap' h hc hA g => by
    rw [hR]
    refine (stoPut_any fs s A' n cap' f w h hc hA hz hfuse (by omega) (hT1.gr g)).mono ?_
    rintro e w' ⟨A2, n2, cap2, rfl, g', _, ha⟩
    exact ⟨A2, n2, cap2, rfl, PutPost.row h g' ha, g'⟩)
  have HP2 : Sec (∀ w, Gr wa w → Calls Tryd.prog 23 #[diskV A n cap f, .string (bs s)] w fun e w' => ∃ A2 n2 cap2, e = .returned (.tuple #[diskV A2 n2 cap2 R.2.1, .string (bs R.2.2.1), .int .i64 R.2.2.2]) ∧ FRow w' A2 n2 R.1 ∧ Gr w w') := sec (fun w g => by
    rw [hR]
    refine (rstoPut_any fs s A n cap f w (hrow1.gr g) hcap hnil hz hfuse (by omega)).mono ?_
    rintro e w' ⟨A2, n2, cap2, rfl, g', _, ha⟩
    exact ⟨A2, n2, cap2, rfl, PutPost.row (hrow1.gr g) g' ha, g'⟩)
  obtain ⟨gs, u, id, e2⟩ := R
  have HSd : Sec (∀ w A1 n1 cap1 A2 n2 cap2, FRow w A1 n1 gs → FRow w A2 n2 gs → Calls Tryd.prog 24 #[diskV A1 n1 cap1 u, diskV A2 n2 cap2 u] w fun e w' => e = .returned (.bool true) ∧ Gr w w') := sec (fun w A1 n1 cap1 A2 n2 cap2 h1 h2 => by
    have e1 := h1.len
    have e2 := h2.len
    obtain rfl : n1 = n2 := by omega
    simp only at hRz
    exact sameDisk_any gs A1 A2 n1 cap1 cap2 u w (by omega) h1 h2)
  have HSt : Sec (∀ w, Gr wa w → Calls Tryd.prog 25 #[] w fun e w' => e = .returned (.bool true) ∧ Gr w w') := sec (fun w g => stores_any w (hT1.gr g))
  have HSK : Sec (∀ w, Gr wa w → w.cell? ⟨p, 0, none⟩ = some (.slice A n cap) ∧ w.cell? ⟨p, 1, none⟩ = some (.int .i64 f)) := sec (fun w g => ⟨(hb1.gr g).cell 0, (hb1.gr g).cell 1⟩)
  obtain ⟨c0, c1⟩ := HSK.out wa (Gr.refl _)
  clear hs hz hsize hrow hrow1 hb1 hnil hn hlen hR hsl hRz hcap hfuse hT hT1
  unfold diskV at HCp HP1 HP2 HSd
  unfold diskV
  simp only at HP1 HP2
  go_enter Tryd.func6, Tryd.ntmps6
  go_upto_region 1 with fail
  rw [← hwa, ← hp]
  clear hwa hp
  go_wp2_with (first
    | (go_at_call 22; (with_reducible refine Calls.mono (HCp.out _ (Gr.refl _)) ?_); rintro e w1 ⟨A1, cap1, rfl, h1, hc1, hA1, g1⟩)
    | (go_at_call 21; (with_reducible refine Calls.mono (HP1.out _ _ _ h1 hc1 hA1 g1) ?_); rintro e w5 ⟨A5, n5, cap5, rfl, h5, g5⟩; have gg5 : Gr wa w5 := g1.trans g5; obtain ⟨c05, c15⟩ := HSK.out _ (gg5.alloc (.cells #[.slice A5 n5 cap5, .int .i64 u] 43)); have hq5 := Blk.new w5 43 #[.slice A5 n5 cap5, .int .i64 u]; have h5' := h5.gr ((Gr.refl w5).alloc (.cells #[.slice A5 n5 cap5, .int .i64 u] 43)))
    | (go_at_call 23; (with_reducible refine Calls.mono (HP2.out _ (gg5.alloc _)) ?_); rintro e w6 ⟨A6, n6, cap6, rfl, h6, g6⟩; have gg6 : Gr wa (w6.alloc (.cells #[.slice A6 n6 cap6, .int .i64 u] 43)) := ((gg5.alloc _).trans g6).alloc _; have d0 : (w6.alloc (.cells #[.slice A6 n6 cap6, .int .i64 u] 43)).cell? ⟨w5.heap.size, 0, none⟩ = some (.slice A5 n5 cap5) := ((hq5.gr g6).alloc _).cell 0; have d1 : (w6.alloc (.cells #[.slice A6 n6 cap6, .int .i64 u] 43)).cell? ⟨w5.heap.size, 1, none⟩ = some (.int .i64 u) := ((hq5.gr g6).alloc _).cell 1; have h5'' := (h5'.gr g6).gr ((Gr.refl w6).alloc (.cells #[.slice A6 n6 cap6, .int .i64 u] 43)); have h6' := h6.gr ((Gr.refl w6).alloc (.cells #[.slice A6 n6 cap6, .int .i64 u] 43)))
    | (go_at_call 24; (with_reducible refine Calls.mono (HSd.out _ _ _ _ _ _ _ h5'' h6') ?_); rintro e w7 ⟨rfl, g7⟩; have gg7 := gg6.trans g7)
    | (go_at_call 25; (with_reducible refine Calls.mono (HSt.out _ gg7) ?_); rintro e w8 ⟨rfl, g8⟩))
  go_ret
  exact ⟨rfl, hg0.trans (gg7.trans g8)⟩
end Go.Proofs.YtmgpllakpgjicaaDoor

namespace Go.Proofs.YtmgpllakpgjicaaDoor
open Go.RowKit Go.ChangeShapes Go.WideShapes Go.ChangeAt
set_option linter.unusedVariables false
theorem gTab : Tryd.prog.globalNamed "cartulary/sum.table" = some 0 := by kernel_rfl
theorem gTabType : (Tryd.prog.globals[0]?).map (·.type) = some 124 := by kernel_rfl
theorem cellsTab : Tryd.prog.cellsOf 124 = 64 := by kernel_rfl
theorem cellsU32 : Tryd.prog.cellsOf 64 = 1 := by kernel_rfl
def kInts : List Int := kTab.map fun x => (x.toNat : Int)
theorem table_of {W : World} {rest : List (String × DataW Unit)} (h : laidMet Tryd.prog (("cartulary/sum.table", Rows.laid_cartulary_sum_table) :: rest) W) : TabK W := by
  have ht : Lib.TabIs Tryd.prog W "cartulary/sum.table" .u32 kInts :=
    Lib.tabIs_of_head (rest := rest) gTab gTabType Tryd.underlying124 Tryd.underlying64 cellsU32 cellsTab h
  refine ⟨fun i hi => ?_⟩
  have hl : i < kInts.length := by unfold kInts; rw [List.length_map, kTab_len]; exact hi
  have := ht.cell gTab i hl
  rw [this]
  have : i < kTab.length := by rw [kTab_len]; exact hi
  simp [kInts, kAt, u32V, this]

/-- the numbers of a listed variable, flat -/
def flatW : Nat → DataW Unit → List Value
  | 0, _ => []
  | _ + 1, .lit (.int k z) => [.int k z]
  | n + 1, .agg xs => xs.flatMap (flatW n)
  | _ + 1, _ => []
noncomputable def laidHeap (l : List (String × DataW Unit)) (h : Array Obj) : Array Obj :=
  l.foldl (fun h x => match Tryd.prog.globalNamed x.1 with
    | some g => h.modify g fun
      | .cells _ t frozen => .cells (flatW 8 x.2).toArray t frozen
      | o => o
    | none => h) h
noncomputable def laidWorld (l : List (String × DataW Unit)) (os : Os) : World :=
  { World.holding Tryd.prog os ⟨#[], #[], []⟩ with heap := laidHeap l (World.holding Tryd.prog os ⟨#[], #[], []⟩).heap }
end Go.Proofs.YtmgpllakpgjicaaDoor

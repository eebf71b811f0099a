/-
  object.Good by its contract.
-/
import Derived.Test.YtoamnifnfkgbiaaGreatDoorObS
import Derived.Test.YtoamnifnfkgbiaaGreatDoorContS
import Derived.Test.YtoamnifnfkgbiaaGreatDoorDiskG
import Derived.BigQuiet
import Derived.Test.YtoamnifnfkgbiaaGreatDoorHeadStill
namespace Go.Proofs.YtoamnifnfkgbiaaGreatDoor
set_option maxRecDepth 100000
open Go.RowKit
set_option linter.unusedVariables false
set_option maxHeartbeats 16000000 in
theorem obGood_any (o : Ob) (A : Option Addr) (c : Nat) (B : Option Addr) (d : Nat) (w : World) (hR : ObR w o A c B d) (hz : ObSz 1099511627776 o) :
    Calls Tryz.prog 95 #[.agg (obA o A c B d)] w fun e w' => e = .returned (.int .i64 (obE o)) ∧ Gr w w' := by
  have hel := hz.ents
  have hpl := hz.pars
  obtain ⟨wa, hwa⟩ : ∃ x, x = w.alloc (.cells (obA o A c B d) 91) := ⟨_, rfl⟩
  have hb : Blk wa w.heap.size 91 (obA o A c B d) := by rw [hwa]; exact Blk.new w _ _
  have hg0 : Gr w wa := by rw [hwa]; exact (Gr.refl w).alloc _
  have HEN := sec (hR.ents.gr hg0)
  have HPA := sec (hR.pars.gr hg0)
  have HPC := sec hR.pc
  obtain ⟨p, hp⟩ : ∃ p, p = w.heap.size := ⟨_, rfl⟩
  rw [← hp] at hb
  have HEM : Sec (1 ≤ o.kind ∧ o.kind ≤ 4 → ∀ W, Gr wa W → Calls Tryz.prog 143 #[.agg (obA o A c B d)] W fun e w' => e = .returned (.bool (obEmp o)) ∧ Gr W w') := sec (fun hk W _ => obEmpty_any o A c B d W hk)
  have HNA : Sec (∀ (x : Ent), x ∈ o.ents → ∀ W, Calls Tryz.prog 144 #[.string (bs x.nm)] W fun e w' => e = .returned (.bool (entB x.nm)) ∧ Gr W w') := sec (fun x hx W => entNamed_any x.nm W (by have := (hz.each x hx).1; omega))
  have HL1 : Sec (∀ W, Calls Tryz.prog 145 #[.string (bs o.who)] W fun e w' => e = .returned (.bool (decide (o.who.length ≤ 4096) && lineC o.who)) ∧ Gr W w') := sec (fun W => obLine_any o.who W (by have := hz.who; omega))
  have HL2 : Sec (∀ W, Calls Tryz.prog 145 #[.string (bs o.note)] W fun e w' => e = .returned (.bool (decide (o.note.length ≤ 4096) && lineC o.note)) ∧ Gr W w') := sec (fun W => obLine_any o.note W (by have := hz.note; omega))
  have HCT : Sec (∀ s W k b off, k ≤ o.pars.length → B = some ⟨b, off, none⟩ → Gr wa W → Calls Tryz.prog 67 #[.slice (some ⟨b, off, none⟩) k d, .string (bs s)] W fun e w' => e = .returned (.bool (decide (s ∈ o.pars.take k))) ∧ Gr W w') := sec (fun s W k b off hk hB g => by
    refine sliceContains_any (o.pars.take k) s (some ⟨b, off, none⟩) k d W ?_ (by omega)
    have h1 := (HPA.out.gr g)
    refine ⟨by rw [List.length_map, List.length_take, Nat.min_eq_left hk, Nat.mul_one], fun hk0 => ⟨b, off, rfl, fun i v hv => ?_⟩⟩
    obtain ⟨b', off', e, hc⟩ := h1.at_ (by omega)
    rw [hB] at e
    injection e with e; injection e with e1 e2 _
    subst e1 e2
    refine hc i v ?_
    rw [List.getElem?_map] at hv ⊢
    rw [List.getElem?_take] at hv
    split at hv
    · exact hv
    · cases hv)
  obtain ⟨V, hV⟩ : ∃ V : Int, V = obE o := ⟨_, rfl⟩
  have HV := sec hV
  rw [← hV]
  clear hV hz hR
  obtain ⟨kd, dt, en, tr, pa, wh, no, ti, ta⟩ := o
  simp only at HEN HPA HPC HEM HNA HL1 HL2 HCT hel hpl
  unfold obA at hb hwa HEM
  unfold obA
  simp only at hb hwa HEM ⊢
  have HCELL : Sec (∀ w', Gr wa w' → w'.cell? ⟨p, 0, none⟩ = some (.int .i64 kd) ∧ w'.cell? ⟨p, 1, none⟩ = some (.string (bs dt)) ∧ w'.cell? ⟨p, 2, none⟩ = some (.slice A en.length c) ∧ w'.cell? ⟨p, 3, none⟩ = some (.string (bs tr)) ∧ w'.cell? ⟨p, 4, none⟩ = some (.slice B pa.length d) ∧ w'.cell? ⟨p, 5, none⟩ = some (.string (bs wh)) ∧ w'.cell? ⟨p, 6, none⟩ = some (.string (bs no)) ∧ w'.cell? ⟨p, 7, none⟩ = some (.int .i64 ti) ∧ w'.cell? ⟨p, 8, none⟩ = some (.string (bs ta))) := sec (fun w' g => ⟨(hb.gr g).cell 0, (hb.gr g).cell 1, (hb.gr g).cell 2, (hb.gr g).cell 3, (hb.gr g).cell 4, (hb.gr g).cell 5, (hb.gr g).cell 6, (hb.gr g).cell 7, (hb.gr g).cell 8⟩)
  clear hb
  go_enter Tryz.func95, Tryz.ntmps95
  go_upto_region 1 with fail
  rw [← hwa, ← hp]
  clear hwa hp
  obtain ⟨c0, c1, c2, c3, c4, c5, c6, c7, c8⟩ := HCELL.out wa (Gr.refl _)
  by_cases hk1 : kd < 1
  · have HX : Sec (V = 4) := sec (by rw [HV.out]; unfold obE; rw [if_pos (Or.inl hk1)])
    clear HEM
    go_wp2_with fail
    go_ret
    exact ⟨by rw [HX.out]; rfl, hg0⟩
  by_cases hk2 : 4 < kd
  · have HX : Sec (V = 4) := sec (by rw [HV.out]; unfold obE; rw [if_pos (Or.inr hk2)])
    clear HEM
    go_wp2_with fail
    go_ret
    exact ⟨by rw [HX.out]; rfl, hg0⟩
  have HEM2 := sec (HEM.out ⟨by omega, by omega⟩)
  have HV1 : Sec (V = if obEmp ⟨kd, dt, en, tr, pa, wh, no, ti, ta⟩ = true then obN ⟨kd, dt, en, tr, pa, wh, no, ti, ta⟩ else 2) := sec (by rw [HV.out]; unfold obE; rw [if_neg (by simp only; omega)])
  clear HEM HV
  obtain ⟨bE, hbE⟩ : ∃ b, b = obEmp ⟨kd, dt, en, tr, pa, wh, no, ti, ta⟩ := ⟨_, rfl⟩
  rw [← hbE] at HEM2 HV1
  clear hbE
  cases bE
  · have HX : Sec (V = 2) := sec (by rw [HV1.out]; rfl)
    go_wp2_with (go_at_call 143; (with_reducible refine Calls.mono (HEM2.out _ (Gr.refl _)) ?_); rintro e w1 ⟨rfl, g1⟩)
    go_ret
    exact ⟨by rw [HX.out]; rfl, hg0.trans g1⟩
  have HV2 : Sec (V = obN ⟨kd, dt, en, tr, pa, wh, no, ti, ta⟩) := sec (by rw [HV1.out, if_pos rfl])
  clear HV1
  go_upto_region 5 with (go_at_call 143; (with_reducible refine Calls.mono (HEM2.out _ (Gr.refl _)) ?_); rintro e w1 ⟨rfl, g1⟩)
  clear c0 c1 c2 c3 c4 c5 c6 c7 c8 HEM2
  obtain ⟨c0, c1, c2, c3, c4, c5, c6, c7, c8⟩ := HCELL.out w1 g1
  by_cases x1 : 4096 < dt.length
  · have q : (4096 : Int) < (dt.length : Int) := by omega
    have HX : Sec (V = 1) := sec (by rw [HV2.out]; unfold obN; rw [if_pos (by simp only; omega)])
    clear HEN HPA
    go_wp2_with fail
    go_ret
    exact ⟨by rw [HX.out]; rfl, hg0.trans g1⟩
  have qx1 : ¬ (4096 : Int) < (dt.length : Int) := by omega
  by_cases x2 : 4096 < wh.length
  · have q : (4096 : Int) < (wh.length : Int) := by omega
    have HX : Sec (V = 1) := sec (by rw [HV2.out]; unfold obN; rw [if_pos (by simp only; omega)])
    clear HEN HPA
    go_wp2_with fail
    go_ret
    exact ⟨by rw [HX.out]; rfl, hg0.trans g1⟩
  have qx2 : ¬ (4096 : Int) < (wh.length : Int) := by omega
  by_cases x3 : 4096 < no.length
  · have q : (4096 : Int) < (no.length : Int) := by omega
    have HX : Sec (V = 1) := sec (by rw [HV2.out]; unfold obN; rw [if_pos (by simp only; omega)])
    clear HEN HPA
    go_wp2_with fail
    go_ret
    exact ⟨by rw [HX.out]; rfl, hg0.trans g1⟩
  have qx3 : ¬ (4096 : Int) < (no.length : Int) := by omega
  have HV3 : Sec (V = if 64 < en.length ∨ 4 < pa.length then 6 else if enF [] en = true then obP ⟨kd, dt, en, tr, pa, wh, no, ti, ta⟩ else 2) := sec (by rw [HV2.out]; unfold obN; rw [if_neg (by simp only; omega)])
  clear HV2
  by_cases y1 : 64 < en.length
  · have q : (64 : Int) < (en.length : Int) := by omega
    have HX : Sec (V = 6) := sec (by rw [HV3.out, if_pos (by omega)])
    clear HEN HPA
    go_wp2_with fail
    go_ret
    exact ⟨by rw [HX.out]; rfl, hg0.trans g1⟩
  have qy1 : ¬ (64 : Int) < (en.length : Int) := by omega
  by_cases y2 : 4 < pa.length
  · have q : (4 : Int) < (pa.length : Int) := by omega
    have HX : Sec (V = 6) := sec (by rw [HV3.out, if_pos (by omega)])
    clear HEN HPA
    go_wp2_with fail
    go_ret
    exact ⟨by rw [HX.out]; rfl, hg0.trans g1⟩
  have qy2 : ¬ (4 : Int) < (pa.length : Int) := by omega
  have HV4 : Sec (V = if enF [] en = true then obP ⟨kd, dt, en, tr, pa, wh, no, ti, ta⟩ else 2) := sec (by rw [HV3.out, if_neg (by omega)])
  clear HV3
  go_upto_region 9 with fail
  clear qx1 qx2 qx3 qy1 qy2
  go_wp2_with fail
  clear c0 c1 c2 c3 c4 c5 c6 c7 c8
  go_loopg [47, 3, 4] en.length (fun fuel iv _ _ wr => ∃ i : Nat, iv = .int .i64 (i : Int) ∧ en.length ≤ i + fuel ∧ i ≤ en.length ∧ Sec (enF [] en = enF (enLast en i) (en.drop i)) ∧ Gr wa wr)
  case atStart => exact ⟨0, rfl, by omega, by omega, sec rfl, g1⟩
  case round =>
    clear g1
    obtain ⟨i, rfl, hik, hi, HST, gw⟩ := hrel
    obtain ⟨c0, c1, c2, c3, c4, c5, c6, c7, c8⟩ := HCELL.out wr gw
    by_cases hlt : i < en.length
    · have hii : (i : Int) < (en.length : Int) := by omega
      obtain ⟨b, off, rfl, e0, e1, e2⟩ := (HEN.out.gr gw).cell hlt
      have HHERE := sec (HST.out.trans (enF_at en i hlt))
      have HNXT := sec (enLast_succ en i hlt)
      have HNi := sec (HNA.out en[i] (List.getElem_mem hlt))
      have HPREV : Sec (∀ w', Gr wa w' → ∀ j, i = j + 1 → w'.cell? ⟨b, off + j * 3, none⟩ = some (.string (bs (enLast en i)))) := sec (fun w' g j hj => by
        obtain ⟨b', off', e, h0, _⟩ := (HEN.out.gr g).cell (i := j) (by omega)
        injection e with e; injection e with e3 e4 _
        subst e3 e4
        subst hj
        rw [enLast_succ en j (by omega)]; exact h0)
      have HZERO : Sec (i = 0 → enLast en i = []) := sec (fun h => by rw [h]; rfl)
      obtain ⟨last, hlast⟩ : ∃ l, l = enLast en i := ⟨_, rfl⟩
      rw [← hlast] at HHERE HPREV HZERO HST
      obtain ⟨x, hxx⟩ : ∃ x, x = en[i] := ⟨_, rfl⟩
      rw [← hxx] at e0 e1 e2 HHERE HNXT HNi
      have HLT := sec hlt
      clear hxx hlt hlast
      obtain ⟨nm, dr, id⟩ := x
      simp only at e0 e1 e2 HHERE HNXT HNi
      go_upto_region 12 with fail
      have hFB := Blk.new wr 128 #[.string (bs nm), .bool dr, .string (bs id)]
      have hgx := gw.alloc (.cells #[.string (bs nm), .bool dr, .string (bs id)] 128)
      obtain ⟨wx, hwx⟩ : ∃ x, x = wr.alloc (.cells #[.string (bs nm), .bool dr, .string (bs id)] 128) := ⟨_, rfl⟩
      obtain ⟨q, hq⟩ : ∃ q, q = wr.heap.size := ⟨_, rfl⟩
      rw [← hwx] at hFB hgx
      rw [← hq] at hFB
      rw [← hwx, ← hq]
      have HSK : Sec (∀ w', Gr wx w' → w'.cell? ⟨q, 0, none⟩ = some (.string (bs nm)) ∧ w'.cell? ⟨q, 2, none⟩ = some (.string (bs id)) ∧ w'.cell? ⟨p, 2, none⟩ = some (.slice (some ⟨b, off, none⟩) en.length c) ∧ Gr wx w') := sec (fun w' g => ⟨(hFB.gr g).cell 0, (hFB.gr g).cell 2, (HCELL.out w' (hgx.trans g)).2.2.1, g⟩)
      clear hwx hq hFB e0 e1 e2 gw c0 c1 c2 c3 c4 c5 c6 c7 c8
      obtain ⟨ok, hok⟩ : ∃ ok : Bool, ok = (entB nm && (decide (id.length = 32) && ltB last nm)) := ⟨_, rfl⟩
      go_cut [77] from 52 to 77 (fun v wc => v = .bool (!ok) ∧ Gr wx wc)
      case first =>
        have HOK : Sec (ok = (entB nm && (decide (id.length = 32) && ltB last nm))) := sec hok
        clear hok HHERE HNXT
        cases hnb : entB nm with
        | false =>
          have HXX : Sec (ok = false) := sec (by rw [HOK.out, hnb]; rfl)
          rw [hnb] at HNi
          clear hnb hii
          refine region_head_quiet 3 (by kernel_rfl) (by decide) (by kernel_rfl) (fun wd hwd => ?_)
          simp only [List.take_succ_cons, List.take_zero, List.drop_succ_cons, List.drop_zero]
          have gd : Gr wx wd := by rw [hwd]; exact (Gr.refl _).drew
          clear hwd
          have c0d := (HSK.out wd gd).1
          go_wp2_with (go_at_call 144; (with_reducible refine Calls.mono (HNi.out _) ?_); rintro e w1 ⟨rfl, g1⟩; have gg1 : Gr wx w1 := gd.trans g1)
          obtain ⟨c0y, c1y, c2y, -⟩ := HSK.out w1 gg1
          simp only [OnQ]
          clear g1 gd c0d
          repeat (go_big_quiet_step (fail))
          refine wpQuiet_nil ?_
          intro _ hw'
          obtain ⟨nq, hw''⟩ := hw'
          subst hw''
          have gg2 : Gr wx (w1.drewN nq) := Gr.drewN gg1 nq
          go_wp2_with fail
          go_meet
          exact ⟨by rw [HXX.out]; rfl, gg2⟩
        | true =>
          have hne := entB_ne hnb
          have hbn : ltB [] nm = true := ltB_nil hne
          rw [hnb] at HNi HOK
          clear hne hnb
          by_cases h32 : id.length = 32
          · have q3 : ((id.length : Int) != 32) = false := by rw [bne_eq_false_iff_eq]; omega
            have HOK2 : Sec (ok = ltB last nm) := sec (by rw [HOK.out, decide_eq_true h32]; rfl)
            clear h32 HOK
            by_cases hi0 : i = 0
            · have HXX : Sec (ok = true) := sec (by rw [HOK2.out, HZERO.out hi0]; exact hbn)
              have hi1 : ¬ 0 < i := by omega
              clear hi0 hbn
              refine region_head_quiet 3 (by kernel_rfl) (by decide) (by kernel_rfl) (fun wd hwd => ?_)
              simp only [List.take_succ_cons, List.take_zero, List.drop_succ_cons, List.drop_zero]
              have gd : Gr wx wd := by rw [hwd]; exact (Gr.refl _).drew
              clear hwd
              have c0d := (HSK.out wd gd).1
              go_wp2_with (go_at_call 144; (with_reducible refine Calls.mono (HNi.out _) ?_); rintro e w1 ⟨rfl, g1⟩; have gg1 : Gr wx w1 := gd.trans g1)
              obtain ⟨c0y, c1y, c2y, -⟩ := HSK.out w1 gg1
              simp only [OnQ]
              clear g1 gd c0d
              repeat (go_big_quiet_step (fail))
              refine wpQuiet_nil ?_
              intro _ hw'
              obtain ⟨nq, hw''⟩ := hw'
              subst hw''
              have gg2 : Gr wx (w1.drewN nq) := Gr.drewN gg1 nq
              go_wp2_with fail
              go_meet
              exact ⟨by rw [HXX.out]; rfl, gg2⟩
            · obtain ⟨j, hj⟩ : ∃ j, i = j + 1 := ⟨i - 1, by omega⟩
              have HSJ : Sec (∀ w', Gr wx w' → w'.cell? ⟨q, 0, none⟩ = some (.string (bs nm)) ∧ w'.cell? ⟨q, 2, none⟩ = some (.string (bs id)) ∧ w'.cell? ⟨p, 2, none⟩ = some (.slice (some ⟨b, off, none⟩) en.length c) ∧ w'.cell? ⟨b, off + j * 3, none⟩ = some (.string (bs last)) ∧ Gr wx w') := sec (fun w' g => ⟨(HSK.out w' g).1, (HSK.out w' g).2.1, (HSK.out w' g).2.2.1, HPREV.out w' (hgx.trans g) j hj, g⟩)
              have hij : (i : Int) - 1 = (j : Int) := by omega
              have hi1 : 0 < i := by omega
              have hjk : (j : Int) < (en.length : Int) := by omega
              clear hi0 hbn hj
              cases hlb : ltB last nm with
              | false =>
                have HXX : Sec (ok = false) := sec (by rw [HOK2.out, hlb])
                have q5 : Op.bytesLess last nm = false := hlb
                clear hlb
                refine region_head_quiet 3 (by kernel_rfl) (by decide) (by kernel_rfl) (fun wd hwd => ?_)
                simp only [List.take_succ_cons, List.take_zero, List.drop_succ_cons, List.drop_zero]
                have gd : Gr wx wd := by rw [hwd]; exact (Gr.refl _).drew
                clear hwd
                have c0d := (HSK.out wd gd).1
                go_wp2_with (go_at_call 144; (with_reducible refine Calls.mono (HNi.out _) ?_); rintro e w1 ⟨rfl, g1⟩; have gg1 : Gr wx w1 := gd.trans g1)
                obtain ⟨c0y, c1y, c2y, c3y, -⟩ := HSJ.out w1 gg1
                simp only [OnQ]
                clear g1 gd c0d
                repeat (go_big_quiet_step (fail))
                refine wpQuiet_nil ?_
                intro _ hw'
                obtain ⟨nq, hw''⟩ := hw'
                subst hw''
                have gg2 : Gr wx (w1.drewN nq) := Gr.drewN gg1 nq
                go_wp2_with fail
                go_meet
                exact ⟨by rw [HXX.out]; rfl, gg2⟩
              | true =>
                have HXX : Sec (ok = true) := sec (by rw [HOK2.out, hlb])
                have q5 : Op.bytesLess last nm = true := hlb
                clear hlb
                refine region_head_quiet 3 (by kernel_rfl) (by decide) (by kernel_rfl) (fun wd hwd => ?_)
                simp only [List.take_succ_cons, List.take_zero, List.drop_succ_cons, List.drop_zero]
                have gd : Gr wx wd := by rw [hwd]; exact (Gr.refl _).drew
                clear hwd
                have c0d := (HSK.out wd gd).1
                go_wp2_with (go_at_call 144; (with_reducible refine Calls.mono (HNi.out _) ?_); rintro e w1 ⟨rfl, g1⟩; have gg1 : Gr wx w1 := gd.trans g1)
                obtain ⟨c0y, c1y, c2y, c3y, -⟩ := HSJ.out w1 gg1
                simp only [OnQ]
                clear g1 gd c0d
                repeat (go_big_quiet_step (fail))
                refine wpQuiet_nil ?_
                intro _ hw'
                obtain ⟨nq, hw''⟩ := hw'
                subst hw''
                have gg2 : Gr wx (w1.drewN nq) := Gr.drewN gg1 nq
                go_wp2_with fail
                go_meet
                exact ⟨by rw [HXX.out]; rfl, gg2⟩
          · have q3 : ((id.length : Int) != 32) = true := by rw [bne_iff_ne]; omega
            have HXX : Sec (ok = false) := sec (by rw [HOK.out, decide_eq_false h32]; rfl)
            clear h32 hbn
            refine region_head_quiet 3 (by kernel_rfl) (by decide) (by kernel_rfl) (fun wd hwd => ?_)
            simp only [List.take_succ_cons, List.take_zero, List.drop_succ_cons, List.drop_zero]
            have gd : Gr wx wd := by rw [hwd]; exact (Gr.refl _).drew
            clear hwd
            have c0d := (HSK.out wd gd).1
            go_wp2_with (go_at_call 144; (with_reducible refine Calls.mono (HNi.out _) ?_); rintro e w1 ⟨rfl, g1⟩; have gg1 : Gr wx w1 := gd.trans g1)
            obtain ⟨c0y, c1y, c2y, -⟩ := HSK.out w1 gg1
            simp only [OnQ]
            clear g1 gd c0d
            repeat (go_big_quiet_step (fail))
            refine wpQuiet_nil ?_
            intro _ hw'
            obtain ⟨nq, hw''⟩ := hw'
            subst hw''
            have gg2 : Gr wx (w1.drewN nq) := Gr.drewN gg1 nq
            go_wp2_with fail
            go_meet
            exact ⟨by rw [HXX.out]; rfl, gg2⟩
      case rest =>
        obtain ⟨rfl, gc⟩ := hcut
        have HOK : Sec (ok = (entB nm && (decide (id.length = 32) && ltB last nm))) := sec hok
        clear hok
        cases ok with
        | true =>
          have HEN2 : Sec (enF [] en = enF (enLast en (i + 1)) (en.drop (i + 1))) := sec (by
            have h1 := HOK.out.symm
            simp only [Bool.and_eq_true] at h1
            rw [HHERE.out, h1.1, h1.2.1, h1.2.2]; rfl)
          clear hii
          go_wp2_with fail
          go_roundg (gk - 1)
          case rel => exact ⟨i + 1, by go_num, by have := HLT.out; omega, HLT.out, HEN2, hgx.trans gc⟩
          case measure => have := HLT.out; omega
        | false =>
          have HX : Sec (V = 2) := sec (by
            have h2 : enF [] en = false := by
              have h1 := HOK.out.symm
              rw [HHERE.out]
              generalize entB nm = a at h1 ⊢
              generalize decide (id.length = 32) = b' at h1 ⊢
              generalize ltB last nm = c' at h1 ⊢
              cases a <;> cases b' <;> cases c' <;> simp_all
            rw [HV4.out, h2]; rfl)
          clear hii
          go_wp2_with fail
          go_ret
          exact ⟨by rw [HX.out]; rfl, hg0.trans (hgx.trans gc)⟩
    · have HV5 : Sec (V = obP ⟨kd, dt, en, tr, pa, wh, no, ti, ta⟩) := sec (by rw [HV4.out, HST.out, enF_end _ _ _ (by omega), if_pos rfl])
      have hii : ¬ (i : Int) < (en.length : Int) := by omega
      have q : decide (i < en.length) = false := decide_eq_false hlt
      clear hlt hik HST HV4 HEN HNA
      go_wp2_with fail
      clear c0 c1 c2 c3 c4 c5 c6 c7 c8 q hii
      go_loopg [82, 5, 6] pa.length (fun fuel iv _ _ wr => ∃ k : Nat, iv = .int .i64 (k : Int) ∧ pa.length ≤ k + fuel ∧ k ≤ pa.length ∧ Sec (paF [] pa = paF (pa.take k) (pa.drop k)) ∧ Gr wa wr)
      case atStart => exact ⟨0, rfl, by omega, by omega, sec rfl, gw⟩
      case round =>
        clear gw hi
        obtain ⟨k, rfl, hkk, hk, HST, gw⟩ := hrel
        obtain ⟨c0, c1, c2, c3, c4, c5, c6, c7, c8⟩ := HCELL.out wr gw
        by_cases hlt : k < pa.length
        · have hii : (k : Int) < (pa.length : Int) := by omega
          have hkd : (k : Int) ≤ (d : Int) := by have := HPC.out; omega
          have hkd2 : k ≤ d := by have := HPC.out; omega
          obtain ⟨b, off, rfl, e0⟩ := (HPA.out.gr gw).cell hlt
          have HHERE := sec (HST.out.trans (paF_at pa k hlt))
          have HCi := sec (HCT.out pa[k] wr k b off hk rfl gw)
          obtain ⟨x, hxx⟩ : ∃ x, x = pa[k] := ⟨_, rfl⟩
          rw [← hxx] at e0 HHERE HCi
          have HLT := sec hlt
          clear hxx hlt
          by_cases h32 : x.length = 32
          · have q3 : ((x.length : Int) != 32) = false := by rw [bne_eq_false_iff_eq]; omega
            obtain ⟨m, hm⟩ : ∃ m, m = decide (x ∈ pa.take k) := ⟨_, rfl⟩
            rw [← hm] at HCi
            have HM := sec hm
            clear hm
            cases m with
            | true =>
              have HX : Sec (V = 8) := sec (by
                have h1 : x ∈ pa.take k := of_decide_eq_true HM.out.symm
                rw [HV5.out]; unfold obP; simp only; rw [HHERE.out, if_pos h32, if_pos h1]; rfl)
              clear h32 hk hkk
              go_wp2_with (go_at_call 67; (with_reducible refine Calls.mono HCi.out ?_); rintro e w1 ⟨rfl, g1⟩)
              go_ret
              exact ⟨by rw [HX.out]; rfl, hg0.trans (gw.trans g1)⟩
            | false =>
              have HS2 : Sec (paF [] pa = paF (pa.take (k + 1)) (pa.drop (k + 1))) := sec (by
                have h1 : ¬ x ∈ pa.take k := of_decide_eq_false HM.out.symm
                rw [HHERE.out, if_pos h32, if_neg h1])
              clear h32 hk
              go_wp2_with (go_at_call 67; (with_reducible refine Calls.mono HCi.out ?_); rintro e w1 ⟨rfl, g1⟩)
              go_roundg (gk - 1)
              case rel => exact ⟨k + 1, by go_num, by omega, HLT.out, HS2, gw.trans g1⟩
              case measure => have := HLT.out; omega
          · have q3 : ((x.length : Int) != 32) = true := by rw [bne_iff_ne]; omega
            have HX : Sec (V = 2) := sec (by rw [HV5.out]; unfold obP; simp only; rw [HHERE.out, if_neg h32]; rfl)
            clear h32 hk hkk
            go_wp2_with fail
            go_ret
            exact ⟨by rw [HX.out]; rfl, hg0.trans gw⟩
        · have HV6 : Sec (V = obL ⟨kd, dt, en, tr, pa, wh, no, ti, ta⟩) := sec (by rw [HV5.out]; unfold obP; simp only; rw [HST.out, paF_end _ _ _ (by omega)]; rfl)
          have hii : ¬ (k : Int) < (pa.length : Int) := by omega
          have q : decide (k < pa.length) = false := decide_eq_false hlt
          clear hlt hkk HST HV5 HPA HCT HPC hk
          have HLW : decide (wh.length ≤ 4096) = true := decide_eq_true (by omega)
          have HLN : decide (no.length ≤ 4096) = true := decide_eq_true (by omega)
          rw [HLW] at HL1
          rw [HLN] at HL2
          clear HLW HLN
          obtain ⟨ok, hok⟩ : ∃ ok : Bool, ok = obIds ⟨kd, dt, en, tr, pa, wh, no, ti, ta⟩ := ⟨_, rfl⟩
          have HOK := sec hok
          clear hok
          go_upto_region 23 with fail
          clear q hii
          obtain ⟨b1, hb1⟩ : ∃ b, b = lineC wh := ⟨_, rfl⟩
          obtain ⟨b2, hb2⟩ : ∃ b, b = lineC no := ⟨_, rfl⟩
          rw [← hb1] at HL1
          rw [← hb2] at HL2
          have HOK1 : Sec (ok = ((!decide (kd = 3) || decide (tr.length = 32)) && ((!decide (kd = 4) || decide (ta.length = 32)) && (b1 && b2)))) := sec (by rw [HOK.out, hb1, hb2]; rfl)
          clear hb1 hb2
          by_cases k3 : kd = 3
          · subst k3
            have z4 : ((3 : Int) == 4) = false := rfl
            by_cases h32 : tr.length = 32
            · have q3 : ((tr.length : Int) != 32) = false := by rw [bne_eq_false_iff_eq]; omega
              cases b1
              · skip
                have HX : Sec (V = 2) := sec (by rw [HV6.out]; unfold obL; rw [← HOK.out, HOK1.out]; simp [h32])
                clear HOK HOK1 HV6
                go_wp2_with (go_at_call 145; (with_reducible refine Calls.mono (HL1.out _) ?_); rintro e w1 ⟨rfl, g1⟩; obtain ⟨d0, d1, d2, d3, d4, d5, d6, d7, d8⟩ := HCELL.out w1 (gw.trans g1))
                go_ret
                exact ⟨by rw [HX.out]; rfl, hg0.trans (gw.trans g1)⟩
              cases b2
              · skip
                have HX : Sec (V = 2) := sec (by rw [HV6.out]; unfold obL; rw [← HOK.out, HOK1.out]; simp [h32])
                clear HOK HOK1 HV6
                go_wp2_with (first | (go_at_call 145; (with_reducible refine Calls.mono (HL1.out _) ?_); rintro e w1 ⟨rfl, g1⟩; obtain ⟨d0, d1, d2, d3, d4, d5, d6, d7, d8⟩ := HCELL.out w1 (gw.trans g1)) | (go_at_call 145; (with_reducible refine Calls.mono (HL2.out _) ?_); rintro e w2 ⟨rfl, g2⟩; obtain ⟨e0, e1, e2, e3, e4, e5, e6, e7, e8⟩ := HCELL.out w2 (gw.trans (g1.trans g2))))
                go_ret
                exact ⟨by rw [HX.out]; rfl, hg0.trans (gw.trans (g1.trans g2))⟩
              have HV7 : Sec (V = if ti < 0 ∨ 1099511627776 ≤ ti then 3 else 0) := sec (by rw [HV6.out]; unfold obL; rw [← HOK.out, HOK1.out]; simp [h32])
              clear HOK HOK1 HV6
              by_cases t1 : ti < 0
              · have HX : Sec (V = 3) := sec (by rw [HV7.out, if_pos (by omega)])
                clear HV7
                go_wp2_with (first | (go_at_call 145; (with_reducible refine Calls.mono (HL1.out _) ?_); rintro e w1 ⟨rfl, g1⟩; obtain ⟨d0, d1, d2, d3, d4, d5, d6, d7, d8⟩ := HCELL.out w1 (gw.trans g1)) | (go_at_call 145; (with_reducible refine Calls.mono (HL2.out _) ?_); rintro e w2 ⟨rfl, g2⟩; obtain ⟨e0, e1, e2, e3, e4, e5, e6, e7, e8⟩ := HCELL.out w2 (gw.trans (g1.trans g2))))
                go_ret
                exact ⟨by rw [HX.out]; rfl, hg0.trans (gw.trans (g1.trans g2))⟩
              by_cases t2 : 1099511627776 ≤ ti
              · have HX : Sec (V = 3) := sec (by rw [HV7.out, if_pos (by omega)])
                clear HV7
                go_wp2_with (first | (go_at_call 145; (with_reducible refine Calls.mono (HL1.out _) ?_); rintro e w1 ⟨rfl, g1⟩; obtain ⟨d0, d1, d2, d3, d4, d5, d6, d7, d8⟩ := HCELL.out w1 (gw.trans g1)) | (go_at_call 145; (with_reducible refine Calls.mono (HL2.out _) ?_); rintro e w2 ⟨rfl, g2⟩; obtain ⟨e0, e1, e2, e3, e4, e5, e6, e7, e8⟩ := HCELL.out w2 (gw.trans (g1.trans g2))))
                go_ret
                exact ⟨by rw [HX.out]; rfl, hg0.trans (gw.trans (g1.trans g2))⟩
              have HX : Sec (V = 0) := sec (by rw [HV7.out, if_neg (by omega)])
              clear HV7
              go_wp2_with (first | (go_at_call 145; (with_reducible refine Calls.mono (HL1.out _) ?_); rintro e w1 ⟨rfl, g1⟩; obtain ⟨d0, d1, d2, d3, d4, d5, d6, d7, d8⟩ := HCELL.out w1 (gw.trans g1)) | (go_at_call 145; (with_reducible refine Calls.mono (HL2.out _) ?_); rintro e w2 ⟨rfl, g2⟩; obtain ⟨e0, e1, e2, e3, e4, e5, e6, e7, e8⟩ := HCELL.out w2 (gw.trans (g1.trans g2))))
              go_ret
              exact ⟨by rw [HX.out]; rfl, hg0.trans (gw.trans (g1.trans g2))⟩
            · have q3 : ((tr.length : Int) != 32) = true := by rw [bne_iff_ne]; omega
              have HX : Sec (V = 2) := sec (by rw [HV6.out]; unfold obL; rw [← HOK.out, HOK1.out]; simp [h32])
              clear HOK HOK1 HV6
              go_wp2_with fail
              go_ret
              exact ⟨by rw [HX.out]; rfl, hg0.trans gw⟩
          have z3 : (kd == 3) = false := by rw [beq_eq_false_iff_ne]; exact k3
          by_cases k4 : kd = 4
          · subst k4
            by_cases h32 : ta.length = 32
            · have q3 : ((ta.length : Int) != 32) = false := by rw [bne_eq_false_iff_eq]; omega
              cases b1
              · skip
                have HX : Sec (V = 2) := sec (by rw [HV6.out]; unfold obL; rw [← HOK.out, HOK1.out]; simp [h32])
                clear HOK HOK1 HV6
                go_wp2_with (go_at_call 145; (with_reducible refine Calls.mono (HL1.out _) ?_); rintro e w1 ⟨rfl, g1⟩; obtain ⟨d0, d1, d2, d3, d4, d5, d6, d7, d8⟩ := HCELL.out w1 (gw.trans g1))
                go_ret
                exact ⟨by rw [HX.out]; rfl, hg0.trans (gw.trans g1)⟩
              cases b2
              · skip
                have HX : Sec (V = 2) := sec (by rw [HV6.out]; unfold obL; rw [← HOK.out, HOK1.out]; simp [h32])
                clear HOK HOK1 HV6
                go_wp2_with (first | (go_at_call 145; (with_reducible refine Calls.mono (HL1.out _) ?_); rintro e w1 ⟨rfl, g1⟩; obtain ⟨d0, d1, d2, d3, d4, d5, d6, d7, d8⟩ := HCELL.out w1 (gw.trans g1)) | (go_at_call 145; (with_reducible refine Calls.mono (HL2.out _) ?_); rintro e w2 ⟨rfl, g2⟩; obtain ⟨e0, e1, e2, e3, e4, e5, e6, e7, e8⟩ := HCELL.out w2 (gw.trans (g1.trans g2))))
                go_ret
                exact ⟨by rw [HX.out]; rfl, hg0.trans (gw.trans (g1.trans g2))⟩
              have HV7 : Sec (V = if ti < 0 ∨ 1099511627776 ≤ ti then 3 else 0) := sec (by rw [HV6.out]; unfold obL; rw [← HOK.out, HOK1.out]; simp [h32])
              clear HOK HOK1 HV6
              by_cases t1 : ti < 0
              · have HX : Sec (V = 3) := sec (by rw [HV7.out, if_pos (by omega)])
                clear HV7
                go_wp2_with (first | (go_at_call 145; (with_reducible refine Calls.mono (HL1.out _) ?_); rintro e w1 ⟨rfl, g1⟩; obtain ⟨d0, d1, d2, d3, d4, d5, d6, d7, d8⟩ := HCELL.out w1 (gw.trans g1)) | (go_at_call 145; (with_reducible refine Calls.mono (HL2.out _) ?_); rintro e w2 ⟨rfl, g2⟩; obtain ⟨e0, e1, e2, e3, e4, e5, e6, e7, e8⟩ := HCELL.out w2 (gw.trans (g1.trans g2))))
                go_ret
                exact ⟨by rw [HX.out]; rfl, hg0.trans (gw.trans (g1.trans g2))⟩
              by_cases t2 : 1099511627776 ≤ ti
              · have HX : Sec (V = 3) := sec (by rw [HV7.out, if_pos (by omega)])
                clear HV7
                go_wp2_with (first | (go_at_call 145; (with_reducible refine Calls.mono (HL1.out _) ?_); rintro e w1 ⟨rfl, g1⟩; obtain ⟨d0, d1, d2, d3, d4, d5, d6, d7, d8⟩ := HCELL.out w1 (gw.trans g1)) | (go_at_call 145; (with_reducible refine Calls.mono (HL2.out _) ?_); rintro e w2 ⟨rfl, g2⟩; obtain ⟨e0, e1, e2, e3, e4, e5, e6, e7, e8⟩ := HCELL.out w2 (gw.trans (g1.trans g2))))
                go_ret
                exact ⟨by rw [HX.out]; rfl, hg0.trans (gw.trans (g1.trans g2))⟩
              have HX : Sec (V = 0) := sec (by rw [HV7.out, if_neg (by omega)])
              clear HV7
              go_wp2_with (first | (go_at_call 145; (with_reducible refine Calls.mono (HL1.out _) ?_); rintro e w1 ⟨rfl, g1⟩; obtain ⟨d0, d1, d2, d3, d4, d5, d6, d7, d8⟩ := HCELL.out w1 (gw.trans g1)) | (go_at_call 145; (with_reducible refine Calls.mono (HL2.out _) ?_); rintro e w2 ⟨rfl, g2⟩; obtain ⟨e0, e1, e2, e3, e4, e5, e6, e7, e8⟩ := HCELL.out w2 (gw.trans (g1.trans g2))))
              go_ret
              exact ⟨by rw [HX.out]; rfl, hg0.trans (gw.trans (g1.trans g2))⟩
            · have q3 : ((ta.length : Int) != 32) = true := by rw [bne_iff_ne]; omega
              have HX : Sec (V = 2) := sec (by rw [HV6.out]; unfold obL; rw [← HOK.out, HOK1.out]; simp [h32])
              clear HOK HOK1 HV6
              go_wp2_with fail
              go_ret
              exact ⟨by rw [HX.out]; rfl, hg0.trans gw⟩
          have z4 : (kd == 4) = false := by rw [beq_eq_false_iff_ne]; exact k4
          cases b1
          · skip
            have HX : Sec (V = 2) := sec (by rw [HV6.out]; unfold obL; rw [← HOK.out, HOK1.out]; simp [k3, k4])
            clear HOK HOK1 HV6
            go_wp2_with (go_at_call 145; (with_reducible refine Calls.mono (HL1.out _) ?_); rintro e w1 ⟨rfl, g1⟩; obtain ⟨d0, d1, d2, d3, d4, d5, d6, d7, d8⟩ := HCELL.out w1 (gw.trans g1))
            go_ret
            exact ⟨by rw [HX.out]; rfl, hg0.trans (gw.trans g1)⟩
          cases b2
          · skip
            have HX : Sec (V = 2) := sec (by rw [HV6.out]; unfold obL; rw [← HOK.out, HOK1.out]; simp [k3, k4])
            clear HOK HOK1 HV6
            go_wp2_with (first | (go_at_call 145; (with_reducible refine Calls.mono (HL1.out _) ?_); rintro e w1 ⟨rfl, g1⟩; obtain ⟨d0, d1, d2, d3, d4, d5, d6, d7, d8⟩ := HCELL.out w1 (gw.trans g1)) | (go_at_call 145; (with_reducible refine Calls.mono (HL2.out _) ?_); rintro e w2 ⟨rfl, g2⟩; obtain ⟨e0, e1, e2, e3, e4, e5, e6, e7, e8⟩ := HCELL.out w2 (gw.trans (g1.trans g2))))
            go_ret
            exact ⟨by rw [HX.out]; rfl, hg0.trans (gw.trans (g1.trans g2))⟩
          have HV7 : Sec (V = if ti < 0 ∨ 1099511627776 ≤ ti then 3 else 0) := sec (by rw [HV6.out]; unfold obL; rw [← HOK.out, HOK1.out]; simp [k3, k4])
          clear HOK HOK1 HV6
          by_cases t1 : ti < 0
          · have HX : Sec (V = 3) := sec (by rw [HV7.out, if_pos (by omega)])
            clear HV7
            go_wp2_with (first | (go_at_call 145; (with_reducible refine Calls.mono (HL1.out _) ?_); rintro e w1 ⟨rfl, g1⟩; obtain ⟨d0, d1, d2, d3, d4, d5, d6, d7, d8⟩ := HCELL.out w1 (gw.trans g1)) | (go_at_call 145; (with_reducible refine Calls.mono (HL2.out _) ?_); rintro e w2 ⟨rfl, g2⟩; obtain ⟨e0, e1, e2, e3, e4, e5, e6, e7, e8⟩ := HCELL.out w2 (gw.trans (g1.trans g2))))
            go_ret
            exact ⟨by rw [HX.out]; rfl, hg0.trans (gw.trans (g1.trans g2))⟩
          by_cases t2 : 1099511627776 ≤ ti
          · have HX : Sec (V = 3) := sec (by rw [HV7.out, if_pos (by omega)])
            clear HV7
            go_wp2_with (first | (go_at_call 145; (with_reducible refine Calls.mono (HL1.out _) ?_); rintro e w1 ⟨rfl, g1⟩; obtain ⟨d0, d1, d2, d3, d4, d5, d6, d7, d8⟩ := HCELL.out w1 (gw.trans g1)) | (go_at_call 145; (with_reducible refine Calls.mono (HL2.out _) ?_); rintro e w2 ⟨rfl, g2⟩; obtain ⟨e0, e1, e2, e3, e4, e5, e6, e7, e8⟩ := HCELL.out w2 (gw.trans (g1.trans g2))))
            go_ret
            exact ⟨by rw [HX.out]; rfl, hg0.trans (gw.trans (g1.trans g2))⟩
          have HX : Sec (V = 0) := sec (by rw [HV7.out, if_neg (by omega)])
          clear HV7
          go_wp2_with (first | (go_at_call 145; (with_reducible refine Calls.mono (HL1.out _) ?_); rintro e w1 ⟨rfl, g1⟩; obtain ⟨d0, d1, d2, d3, d4, d5, d6, d7, d8⟩ := HCELL.out w1 (gw.trans g1)) | (go_at_call 145; (with_reducible refine Calls.mono (HL2.out _) ?_); rintro e w2 ⟨rfl, g2⟩; obtain ⟨e0, e1, e2, e3, e4, e5, e6, e7, e8⟩ := HCELL.out w2 (gw.trans (g1.trans g2))))
          go_ret
          exact ⟨by rw [HX.out]; rfl, hg0.trans (gw.trans (g1.trans g2))⟩
end Go.Proofs.YtoamnifnfkgbiaaGreatDoor

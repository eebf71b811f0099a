/-
  refs.Good, cartularyref.GoodRefs by their contracts.
-/
import Derived.Test.YtebbeapfjahgdaaDoorRefsFind
import Derived.Test.YtebbeapfjahgdaaDoorRefN
import Derived.Test.YtebbeapfjahgdaaDoorRRefN
import Derived.Test.YtebbeapfjahgdaaDoorHeadStill
namespace Go.Proofs.YtebbeapfjahgdaaDoor
set_option maxRecDepth 100000
open Go.RowKit
set_option linter.unusedVariables false
theorem ltB_no {a b : List UInt8} (h : ltB a b = true) : ltB b a = false := by
  cases hb : ltB b a
  · rfl
  · have := ltB_trans a b a h hb
    rw [ltB_irr] at this
    cases this
theorem goodR_of (fs : List Rf) (b : Bool) (h : rgFrom [] fs = b) : goodR fs = (decide (fs.length ≤ 32) && b) := by
  unfold goodR; rw [h]
set_option maxHeartbeats 8000000 in
theorem rgoodL_any (fs : List Rf) (A : Option Addr) (n cap : Nat) (w : World) (hn : n ≤ 1099511627776) (hx : RfRow w A n fs) (hs : ∀ f ∈ fs, f.1.length ≤ 1099511627776 ∧ f.2.length ≤ 1099511627776) :
    Calls Tryd.prog 11 #[.slice A n cap] w fun e w' => e = .returned (.bool (goodR fs)) ∧ Gr w w' := by
  have hl := hx.len
  have HX := sec hx
  have HSZ := sec hs
  obtain ⟨V, hV⟩ : ∃ V, V = goodR fs := ⟨_, rfl⟩
  rw [← hV]
  have HV := sec hV
  clear hx hs hV
  go_enter Tryd.func11, Tryd.ntmps11
  go_wp2_with fail
  go_loopg [7, 3, 4] n (fun fuel iv _ _ wr => ∃ (i : Nat) (last : List UInt8), iv = .int .i64 (i : Int) ∧ n ≤ i + fuel ∧ i ≤ n ∧ Sec (rgSeen fs i last) ∧ Gr w wr)
  case atStart => exact ⟨0, [], rfl, by omega, by omega, sec (rgSeen0 _), Gr.refl _⟩
  case round =>
    obtain ⟨i, last, rfl, hik, hi, HST, hg⟩ := hrel
    by_cases hlt : i < n
    · have hif : i < fs.length := by omega
      have hii : (i : Int) < (n : Int) := by omega
      obtain ⟨b, off, rfl, e0, e1⟩ := (HX.out.gr hg).cell hif
      have HHERE := sec (HST.out.here hif)
      have HNEXT := sec (fun h1 h2 => HST.out.next hif h1 h2)
      have HPREV : Sec (∀ w', Gr w w' → ∀ j, i = j + 1 → w'.cell? ⟨b, off + j * 2, none⟩ = some (.string (bs last))) := sec (fun w' g j hj => by
        obtain ⟨b', off', e, h0, _⟩ := (HX.out.gr g).cell (i := j) (by omega)
        injection e with e; injection e with e3 e4 _
        subst e3 e4
        have := HST.out.2.2 ⟨by omega, Nat.le_of_lt hif⟩
        subst hj
        rw [this]; exact h0)
      have HZERO : Sec (i = 0 → last = []) := sec HST.out.2.1
      have hsz := HSZ.out fs[i] (List.getElem_mem hif)
      obtain ⟨x, hxx⟩ : ∃ x, x = fs[i] := ⟨_, rfl⟩
      rw [← hxx] at e0 e1 HHERE HNEXT hsz
      have HIF := sec hif
      clear hxx hif
      obtain ⟨nm, id⟩ := x
      simp only at e0 e1 HHERE HNEXT hsz
      have HN := sec (fun w => refNamed_any nm w hsz.1)
      have hidl := hsz.2
      clear hsz
      go_upto_region 4 with fail
      have hFB := Blk.new wr 42 #[.string (bs nm), .string (bs id)]
      have hgx := hg.alloc (.cells #[.string (bs nm), .string (bs id)] 42)
      obtain ⟨wx, hwx⟩ : ∃ x, x = wr.alloc (.cells #[.string (bs nm), .string (bs id)] 42) := ⟨_, rfl⟩
      obtain ⟨q, hq⟩ : ∃ q, q = wr.heap.size := ⟨_, rfl⟩
      rw [← hwx] at hFB hgx
      rw [← hq] at hFB
      rw [← hwx, ← hq]
      have HSK : Sec (∀ w', Gr wx w' → w'.cell? ⟨q, 0, none⟩ = some (.string (bs nm)) ∧ w'.cell? ⟨q, 1, none⟩ = some (.string (bs id)) ∧ Gr wx w') := sec (fun w' g => ⟨(hFB.gr g).cell 0, (hFB.gr g).cell 1, g⟩)
      clear hwx hq hFB e0 e1 hg
      obtain ⟨ok, hok⟩ : ∃ ok : Bool, ok = (rfOk (nm, id) && ltB last nm) := ⟨_, rfl⟩
      go_cut [36] from 12 to 36 (fun v wc => v = .bool (!ok) ∧ Gr wx wc)
      case first =>
        have HOK : Sec (ok = (refB nm && decide (id.length = 32) && ltB last nm)) := sec hok
        clear hok HHERE HNEXT
        cases hnb : refB nm with
        | false =>
          have HXX : Sec (ok = false) := sec (by rw [HOK.out, hnb]; rfl)
          rw [hnb] at HN
          clear hnb hii hlt
          refine region_head_quiet 3 (by kernel_rfl) (by decide) (by kernel_rfl) (fun wd hwd => ?_)
          simp only [List.take_succ_cons, List.take_zero, List.drop_succ_cons, List.drop_zero]
          have gd : Gr wx wd := by rw [hwd]; exact (Gr.refl _).drew
          clear hwd
          have c0d := (HSK.out wd gd).1
          go_wp2_with (go_at_call 5; refine (HN.out _).mono ?_; rintro e w1 ⟨rfl, g1⟩; have gg1 : Gr wx w1 := gd.trans g1)
          obtain ⟨c0y, c1y, -⟩ := HSK.out w1 gg1
          simp only [OnQ]
          clear g1 gd c0d
          repeat (go_big_quiet_step (fail))
          refine wpQuiet_nil ?_
          intro _ hw'
          obtain ⟨nq, hw''⟩ := hw'
          subst hw''
          have gg2 : Gr wx (w1.drewN nq) := Gr.drewN gg1 nq
          go_wp2_with fail
          go_meet
          exact ⟨by rw [HXX.out]; rfl, gg2⟩
        | true =>
          have hne := refB_ne hnb
          have hbn : ltB [] nm = true := ltB_nil' hne
          rw [hnb] at HN HOK
          clear hne hnb
          by_cases h32 : id.length = 32
          · have q3 : ((id.length : Int) != 32) = false := by rw [bne_eq_false_iff_eq]; omega
            have HOK2 : Sec (ok = ltB last nm) := sec (by rw [HOK.out, decide_eq_true h32]; rfl)
            clear h32 HOK
            by_cases hi0 : i = 0
            · have HXX : Sec (ok = true) := sec (by rw [HOK2.out, HZERO.out hi0]; exact hbn)
              have hi1 : ¬ 0 < i := by omega
              clear hi0 hbn
              refine region_head_quiet 3 (by kernel_rfl) (by decide) (by kernel_rfl) (fun wd hwd => ?_)
              simp only [List.take_succ_cons, List.take_zero, List.drop_succ_cons, List.drop_zero]
              have gd : Gr wx wd := by rw [hwd]; exact (Gr.refl _).drew
              clear hwd
              have c0d := (HSK.out wd gd).1
              go_wp2_with (go_at_call 5; refine (HN.out _).mono ?_; rintro e w1 ⟨rfl, g1⟩; have gg1 : Gr wx w1 := gd.trans g1)
              obtain ⟨c0y, c1y, -⟩ := HSK.out w1 gg1
              simp only [OnQ]
              clear g1 gd c0d
              repeat (go_big_quiet_step (fail))
              refine wpQuiet_nil ?_
              intro _ hw'
              obtain ⟨nq, hw''⟩ := hw'
              subst hw''
              have gg2 : Gr wx (w1.drewN nq) := Gr.drewN gg1 nq
              go_wp2_with fail
              go_meet
              exact ⟨by rw [HXX.out]; rfl, gg2⟩
            · obtain ⟨j, hj⟩ : ∃ j, i = j + 1 := ⟨i - 1, by omega⟩
              have HSJ : Sec (∀ w', Gr wx w' → w'.cell? ⟨q, 0, none⟩ = some (.string (bs nm)) ∧ w'.cell? ⟨q, 1, none⟩ = some (.string (bs id)) ∧ w'.cell? ⟨b, off + j * 2, none⟩ = some (.string (bs last)) ∧ Gr wx w') := sec (fun w' g => ⟨(HSK.out w' g).1, (HSK.out w' g).2.1, HPREV.out w' (hgx.trans g) j hj, g⟩)
              have hij : (i : Int) - 1 = (j : Int) := by omega
              have hi1 : 0 < i := by omega
              have hjk : (j : Int) < (n : Int) := by omega
              clear hi0 hbn hj
              cases hlb : ltB last nm with
              | false =>
                have HXX : Sec (ok = false) := sec (by rw [HOK2.out, hlb])
                have q5 : Op.bytesLess last nm = false := hlb
                clear hlb
                refine region_head_quiet 3 (by kernel_rfl) (by decide) (by kernel_rfl) (fun wd hwd => ?_)
                simp only [List.take_succ_cons, List.take_zero, List.drop_succ_cons, List.drop_zero]
                have gd : Gr wx wd := by rw [hwd]; exact (Gr.refl _).drew
                clear hwd
                have c0d := (HSK.out wd gd).1
                go_wp2_with (go_at_call 5; refine (HN.out _).mono ?_; rintro e w1 ⟨rfl, g1⟩; have gg1 : Gr wx w1 := gd.trans g1)
                obtain ⟨c0y, c1y, c2y, -⟩ := HSJ.out w1 gg1
                simp only [OnQ]
                clear g1 gd c0d
                repeat (go_big_quiet_step (fail))
                refine wpQuiet_nil ?_
                intro _ hw'
                obtain ⟨nq, hw''⟩ := hw'
                subst hw''
                have gg2 : Gr wx (w1.drewN nq) := Gr.drewN gg1 nq
                go_wp2_with fail
                go_meet
                exact ⟨by rw [HXX.out]; rfl, gg2⟩
              | true =>
                have HXX : Sec (ok = true) := sec (by rw [HOK2.out, hlb])
                have q5 : Op.bytesLess last nm = true := hlb
                clear hlb
                refine region_head_quiet 3 (by kernel_rfl) (by decide) (by kernel_rfl) (fun wd hwd => ?_)
                simp only [List.take_succ_cons, List.take_zero, List.drop_succ_cons, List.drop_zero]
                have gd : Gr wx wd := by rw [hwd]; exact (Gr.refl _).drew
                clear hwd
                have c0d := (HSK.out wd gd).1
                go_wp2_with (go_at_call 5; refine (HN.out _).mono ?_; rintro e w1 ⟨rfl, g1⟩; have gg1 : Gr wx w1 := gd.trans g1)
                obtain ⟨c0y, c1y, c2y, -⟩ := HSJ.out w1 gg1
                simp only [OnQ]
                clear g1 gd c0d
                repeat (go_big_quiet_step (fail))
                refine wpQuiet_nil ?_
                intro _ hw'
                obtain ⟨nq, hw''⟩ := hw'
                subst hw''
                have gg2 : Gr wx (w1.drewN nq) := Gr.drewN gg1 nq
                go_wp2_with fail
                go_meet
                exact ⟨by rw [HXX.out]; rfl, gg2⟩
          · have q3 : ((id.length : Int) != 32) = true := by rw [bne_iff_ne]; omega
            have HXX : Sec (ok = false) := sec (by rw [HOK.out, decide_eq_false h32]; rfl)
            clear h32 hbn
            refine region_head_quiet 3 (by kernel_rfl) (by decide) (by kernel_rfl) (fun wd hwd => ?_)
            simp only [List.take_succ_cons, List.take_zero, List.drop_succ_cons, List.drop_zero]
            have gd : Gr wx wd := by rw [hwd]; exact (Gr.refl _).drew
            clear hwd
            have c0d := (HSK.out wd gd).1
            go_wp2_with (go_at_call 5; refine (HN.out _).mono ?_; rintro e w1 ⟨rfl, g1⟩; have gg1 : Gr wx w1 := gd.trans g1)
            obtain ⟨c0y, c1y, -⟩ := HSK.out w1 gg1
            simp only [OnQ]
            clear g1 gd c0d
            repeat (go_big_quiet_step (fail))
            refine wpQuiet_nil ?_
            intro _ hw'
            obtain ⟨nq, hw''⟩ := hw'
            subst hw''
            have gg2 : Gr wx (w1.drewN nq) := Gr.drewN gg1 nq
            go_wp2_with fail
            go_meet
            exact ⟨by rw [HXX.out]; rfl, gg2⟩
      case rest =>
        obtain ⟨rfl, gc⟩ := hcut
        cases ok with
        | true =>
          have h1 := hok.symm
          rw [Bool.and_eq_true] at h1
          have HEN := sec (HNEXT.out h1.1 h1.2)
          clear h1 hok hii
          go_wp2_with fail
          go_roundg (gk - 1)
          case rel => exact ⟨i + 1, nm, by go_num, by omega, by omega, HEN, hgx.trans gc⟩
          case measure => omega
        | false =>
          have HF : Sec (V = false) := sec (by rw [HV.out, goodR_of fs false (by rw [HHERE.out, ← hok]; rfl), Bool.and_false])
          clear hok hii
          go_wp2_with fail
          go_ret
          exact ⟨by rw [HF.out]; rfl, hgx.trans gc⟩
    · have HF : Sec (V = decide ((i : Int) ≤ 32)) := sec (by
        rw [HV.out, goodR_of fs true (HST.out.done (by omega)), Bool.and_true]
        exact decide_eq_decide.2 (by omega))
      obtain rfl : i = n := by omega
      clear hlt hi hik
      go_wp2_with fail
      all_goals
        go_ret
        exact ⟨by rw [HF.out]; simp, hg⟩
set_option maxHeartbeats 8000000 in
theorem rrgoodL_any (fs : List Rf) (A : Option Addr) (n cap : Nat) (w : World) (hn : n ≤ 1099511627776) (hx : RfRow w A n fs) (hs : ∀ f ∈ fs, f.1.length ≤ 1099511627776 ∧ f.2.length ≤ 1099511627776) :
    Calls Tryd.prog 12 #[.slice A n cap] w fun e w' => e = .returned (.bool (goodR fs)) ∧ Gr w w' := by
  have hl := hx.len
  have HX := sec hx
  have HSZ := sec hs
  obtain ⟨V, hV⟩ : ∃ V, V = goodR fs := ⟨_, rfl⟩
  rw [← hV]
  have HV := sec hV
  clear hx hs hV
  go_enter Tryd.func12, Tryd.ntmps12
  go_wp2_with fail
  try rw [show ({ data := #[] } : ByteArray) = bs [] from rfl]
  go_loopg [3, 8, 5] n (fun fuel v iv _ wr => ∃ (i : Nat) (last : List UInt8), v = .string (bs last) ∧ iv = .int .i64 (i : Int) ∧ n ≤ i + fuel ∧ i ≤ n ∧ Sec (rgSeen fs i last) ∧ Gr w wr)
  case atStart => exact ⟨0, [], rfl, rfl, by omega, by omega, sec (rgSeen0 _), Gr.refl _⟩
  case round =>
    obtain ⟨i, last, rfl, rfl, hik, hi, HST, hg⟩ := hrel
    by_cases hlt : i < n
    · have hif : i < fs.length := by omega
      have hii : (i : Int) < (n : Int) := by omega
      obtain ⟨b, off, rfl, e0, e1⟩ := (HX.out.gr hg).cell hif
      have HHERE := sec (HST.out.here hif)
      have HNEXT := sec (fun h1 h2 => HST.out.next hif h1 h2)
      have hsz := HSZ.out fs[i] (List.getElem_mem hif)
      obtain ⟨x, hxx⟩ : ∃ x, x = fs[i] := ⟨_, rfl⟩
      rw [← hxx] at e0 e1 HHERE HNEXT hsz
      have HIF := sec hif
      clear hxx hif
      obtain ⟨nm, id⟩ := x
      simp only at e0 e1 HHERE HNEXT hsz
      have HN := sec (fun w => refName_any nm w hsz.1)
      have hidl := hsz.2
      have hgx := hg.alloc (.cells #[.string (bs nm), .string (bs id)] 42)
      have HFB := sec (Blk.new wr 42 #[.string (bs nm), .string (bs id)])
      clear hsz
      cases hnb : refB nm with
      | false =>
        have HF : Sec (V = false) := sec (by rw [HV.out, goodR_of fs false (by rw [HHERE.out]; unfold rfOk; rw [hnb]; rfl), Bool.and_false])
        rw [hnb] at HN
        clear hnb
        go_wp2_with (go_at_call 6; refine Calls.mono (HN.out _) ?_; rintro e w1 ⟨rfl, g1⟩)
        go_ret
        exact ⟨by rw [HF.out]; rfl, hgx.trans g1⟩
      | true =>
        rw [hnb] at HN
        by_cases h32 : id.length = 32
        · have q3 : ((id.length : Int) != 32) = false := by rw [bne_eq_false_iff_eq]; omega
          have hok : rfOk (nm, id) = true := by unfold rfOk; rw [hnb]; simpa using h32
          clear hnb h32
          cases hlb : ltB last nm with
          | false =>
            have q1 : (Op.bytesLess nm last || nm == last) = true := by
              cases h : Op.bytesLess nm last
              · rw [ltB_tri nm last h hlb]; simp
              · rfl
            have HF : Sec (V = false) := sec (by rw [HV.out, goodR_of fs false (by rw [HHERE.out, hlb]; simp), Bool.and_false])
            clear hlb hok
            go_wp2_with (go_at_call 6; refine Calls.mono (HN.out _) ?_; rintro e w1 ⟨rfl, g1⟩; have c0 := (HFB.out.gr g1).cell 0; have c1 := (HFB.out.gr g1).cell 1; simp at c0 c1)
            go_ret
            exact ⟨by rw [HF.out]; rfl, hgx.trans g1⟩
          | true =>
            have q1 : Op.bytesLess nm last = false := ltB_no hlb
            have q2 : (nm == last) = false := by
              rw [beq_eq_false_iff_ne]
              intro e; subst e; rw [ltB_irr] at hlb; cases hlb
            have HEN := sec (HNEXT.out hok hlb)
            clear hlb hok
            go_wp2_with (go_at_call 6; refine Calls.mono (HN.out _) ?_; rintro e w1 ⟨rfl, g1⟩; have c0 := (HFB.out.gr g1).cell 0; have c1 := (HFB.out.gr g1).cell 1; simp at c0 c1)
            go_roundg (gk - 1)
            case rel => exact ⟨i + 1, nm, rfl, by go_num, by omega, by omega, HEN, hgx.trans g1⟩
            case measure => omega
        · have q3 : ((id.length : Int) != 32) = true := by rw [bne_iff_ne]; omega
          have HF : Sec (V = false) := sec (by rw [HV.out, goodR_of fs false (by rw [HHERE.out]; unfold rfOk; rw [decide_eq_false h32]; simp), Bool.and_false])
          clear hnb h32
          go_wp2_with (go_at_call 6; refine Calls.mono (HN.out _) ?_; rintro e w1 ⟨rfl, g1⟩; have c0 := (HFB.out.gr g1).cell 0; have c1 := (HFB.out.gr g1).cell 1; simp at c0 c1)
          go_ret
          exact ⟨by rw [HF.out]; rfl, hgx.trans g1⟩
    · have HF : Sec (V = decide ((i : Int) ≤ 32)) := sec (by
        rw [HV.out, goodR_of fs true (HST.out.done (by omega)), Bool.and_true]
        exact decide_eq_decide.2 (by omega))
      obtain rfl : i = n := by omega
      clear hlt hi hik
      go_wp2_with fail
      all_goals
        go_ret
        exact ⟨by rw [HF.out]; simp, hg⟩
end Go.Proofs.YtebbeapfjahgdaaDoor

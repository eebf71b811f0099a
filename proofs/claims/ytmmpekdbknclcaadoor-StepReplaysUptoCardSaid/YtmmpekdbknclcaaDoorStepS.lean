/-
  step.Sign by its contract.
-/
import Derived.Test.YtmmpekdbknclcaaDoorPkB
import Derived.Deep.CutBlock
namespace Go.Proofs.YtmmpekdbknclcaaDoor
set_option maxRecDepth 100000
open Go.RowKit
set_option linter.unusedVariables false
set_option maxHeartbeats 16000000 in
theorem sign_any (s : Stp) (at_ x : Int) (key : List UInt8) (A : Option Addr) (c : Nat) (B : Option Addr) (d : Nat) (w : World) (hR : StR w s A c B d) (hz : StSz 1099511627776 s) (hPA : PlainA A) (hPB : PlainA B) (hT : TabK w) (hkey : key.length ≤ 1099511627776) :
    Calls Tryd.prog 16 #[.agg (stepA s A c B d), .int .i64 at_, .int .i64 x, .string (bs key)] w fun e w' => ∃ A' c' B' d', e = .returned (.tuple #[.agg (stepA (stSg s at_ x key).1 A' c' B' d'), .int .i64 (stSg s at_ x key).2]) ∧ StR w' (stSg s at_ x key).1 A' c' B' d' ∧ Gr w w' := by
  obtain ⟨wa, hwa⟩ : ∃ y, y = (w.alloc (.cells (stepA s A c B d) 37)).alloc (.cells (stepA stpZ none 0 none 0) 37) := ⟨_, rfl⟩
  have hb : Blk wa w.heap.size 37 (stepA s A c B d) := by rw [hwa]; exact (Blk.new w _ _).alloc _
  have hr : Blk wa (w.heap.size + 1) 37 (stepA stpZ none 0 none 0) := by rw [hwa]; exact Blk.new1 w _ _ _
  have hg0 : Gr w wa := by rw [hwa]; exact ((Gr.refl w).alloc _).alloc _
  obtain ⟨p, hp⟩ : ∃ p, p = w.heap.size := ⟨_, rfl⟩
  rw [← hp] at hb hr
  have hwp : w.heap.size ≤ p := by omega
  have hwp1 : w.heap.size ≤ p + 1 := by omega
  have HGo : Sec (Calls Tryd.prog 17 #[.agg (stepA s A c B d)] wa fun e w' => e = .returned (.int .i64 (stE s)) ∧ Gr wa w') := sec (stGood_any s A c B d wa (hR.gr hg0) hz)
  have HBo : Sec (∀ W, Calls Tryd.prog 18 #[.int .i64 at_, .agg (stepA s A c B d)] W fun e w' => e = .returned (.tuple #[.string (bs (bodyR at_ s).1), .int .i64 (bodyR at_ s).2]) ∧ Gr W w') := sec (fun W => stBody_any at_ s A c B d W hz)
  have HBL := sec (bodyR_len at_ s)
  have HSe : Sec (∀ w', Gr w w' → Calls Tryd.prog 19 #[.string (bs key), .string (bs (bodyR at_ s).1)] w' fun e w'' => e = .returned (.string (bs (seal' key (bodyR at_ s).1))) ∧ Gr w' w'') := sec (fun w' g => seal_any key _ w' (hT.gr g) (by omega) (by have := HBL.out; omega))
  have HRW := sec hR
  have HSE := sec (fun h => stE_zero (s := s) h)
  obtain ⟨V, hV⟩ : ∃ V, V = stSg s at_ x key := ⟨_, rfl⟩
  rw [← hV]
  have HV := sec hV
  obtain ⟨E, hE⟩ : ∃ E, E = stE s := ⟨_, rfl⟩
  rw [← hE] at HGo HSE
  have HE := sec hE
  obtain ⟨b, hbb⟩ : ∃ b, b = (bodyR at_ s).1 := ⟨_, rfl⟩
  obtain ⟨be, hbe⟩ : ∃ b, b = (bodyR at_ s).2 := ⟨_, rfl⟩
  rw [← hbb, ← hbe] at HBo
  rw [← hbb] at HSe
  have HVV : Sec (V = if E = 0 then (if be = 0 then (if x < 0 ∨ 7 < x then (stpZ, 3) else if s.who[kx s.who x]? = some x then (stpZ, 8) else (⟨s.r, s.o, s.n, insL (kx s.who x) x s.who, insL (kx s.who x) (seal' key b) s.seals⟩, 0)) else (stpZ, be)) else (stpZ, E)) := sec (by rw [HV.out, hbb, hbe, hE]; rfl)
  clear hV hE hbb hbe HV HE HBL
  have HB := sec hb
  have HZ := sec hr
  obtain ⟨r, o, n, who, seals⟩ := s
  unfold stepA stpZ at hwa
  unfold stepA at hb HGo HBo HB
  simp only [List.length_nil] at hwa
  simp only at hb HGo HBo HVV HSE HB
  unfold stepA
  have HCELL : Sec (∀ w', Gr wa w' → w'.cell? ⟨p, 0, none⟩ = some (.string (bs r)) ∧ w'.cell? ⟨p, 1, none⟩ = some (.string (bs o)) ∧ w'.cell? ⟨p, 2, none⟩ = some (.string (bs n)) ∧ w'.cell? ⟨p, 3, none⟩ = some (.slice A who.length c) ∧ w'.cell? ⟨p, 4, none⟩ = some (.slice B seals.length d)) := sec (fun w' g => ⟨(hb.gr g).cell 0, (hb.gr g).cell 1, (hb.gr g).cell 2, (hb.gr g).cell 3, (hb.gr g).cell 4⟩)
  clear hb hr hR hz hT
  obtain ⟨u0, u1, u2, u3, u4⟩ := HCELL.out wa (Gr.refl _)
  by_cases h0 : E = 0
  · obtain ⟨-, -, -, -, z4, z5, z6, z7, -⟩ := HSE.out h0
    try simp only at z4 z5 z6 z7
    subst h0
    by_cases h1 : be = 0
    · subst h1
      by_cases hx : x < 0 ∨ 7 < x
      · have HV3 : Sec (V = (stpZ, 3)) := sec (by rw [HVV.out, if_pos rfl, if_pos rfl, if_pos hx])
        by_cases hx0 : x < 0
        · have x0 : decide (x < 0) = true := decide_eq_true hx0
          clear HVV HSE hx z4 z5 z6 z7
          go_enter Tryd.func16, Tryd.ntmps16
          go_upto_region 1 with fail
          rw [← hwa, ← hp]
          clear hwa hp
          go_wp2_with (first
            | (go_at_call 17; refine Calls.mono HGo.out ?_; rintro e w1 ⟨rfl, g1⟩; obtain ⟨v0, v1, v2, v3, v4⟩ := HCELL.out w1 g1)
            | (go_at_call 18; refine Calls.mono (HBo.out _) ?_; rintro e w2 ⟨rfl, g2'⟩; have g2 : Gr wa w2 := Gr.trans g1 g2')
            | (refine wpList_store_blk rfl 37 (.tmp 8) _ rfl (g := p + 1) (cs' := stepA stpZ none 0 none 0) rfl rfl (HZ.out.gr g2) aggStep rfl (stepA_one _ _ _ _ _) ?_; intro w9 h9 hg9))
          refine bodyPost_ret (results_blk_tmp rfl _ rfl h9 aggStep) rfl ?_
          rw [HV3.out]
          exact ⟨none, 0, none, 0, rfl, StR.zero _, Gr.only (hg0.trans g2) hg9 hwp1⟩
        · have x0 : decide (x < 0) = false := decide_eq_false hx0
          have x1 : decide (8 ≤ x) = true := decide_eq_true (by omega)
          clear HVV HSE hx z4 z5 z6 z7
          go_enter Tryd.func16, Tryd.ntmps16
          go_upto_region 1 with fail
          rw [← hwa, ← hp]
          clear hwa hp
          go_wp2_with (first
            | (go_at_call 17; refine Calls.mono HGo.out ?_; rintro e w1 ⟨rfl, g1⟩; obtain ⟨v0, v1, v2, v3, v4⟩ := HCELL.out w1 g1)
            | (go_at_call 18; refine Calls.mono (HBo.out _) ?_; rintro e w2 ⟨rfl, g2'⟩; have g2 : Gr wa w2 := Gr.trans g1 g2')
            | (refine wpList_store_blk rfl 37 (.tmp 8) _ rfl (g := p + 1) (cs' := stepA stpZ none 0 none 0) rfl rfl (HZ.out.gr g2) aggStep rfl (stepA_one _ _ _ _ _) ?_; intro w9 h9 hg9))
          refine bodyPost_ret (results_blk_tmp rfl _ rfl h9 aggStep) rfl ?_
          rw [HV3.out]
          exact ⟨none, 0, none, 0, rfl, StR.zero _, Gr.only (hg0.trans g2) hg9 hwp1⟩
      · have HV2 : Sec (V = if who[kx who x]? = some x then (stpZ, 8) else (⟨r, o, n, insL (kx who x) x who, insL (kx who x) (seal' key b) seals⟩, 0)) := sec (by rw [HVV.out, if_pos rfl, if_pos rfl, if_neg hx])
        have x0 : decide (x < 0) = false := decide_eq_false (by omega)
        have x1 : decide (8 ≤ x) = false := decide_eq_false (by omega)
        have HSL := sec z5
        clear HVV HSE z5 z6 z7 hx
        go_enter Tryd.func16, Tryd.ntmps16
        go_upto_region 1 with fail
        rw [← hwa, ← hp]
        clear hwa hp
        go_upto_block 0 with (first
          | (go_at_call 17; refine Calls.mono HGo.out ?_; rintro e w1 ⟨rfl, g1⟩; obtain ⟨v0, v1, v2, v3, v4⟩ := HCELL.out w1 g1)
          | (go_at_call 18; refine Calls.mono (HBo.out _) ?_; rintro e w2 ⟨rfl, g2'⟩; have g2 : Gr wa w2 := Gr.trans g1 g2'))
        clear u0 u1 u2 u3 u4 v0 v1 v2 v3 v4
        go_cut [13] from 37 to 52 (fun kv wx => ∃ k : Nat, kv = .int .i64 (k : Int) ∧ k ≤ who.length ∧ Sec (kx who x = k) ∧ Gr wa wx)
        case first =>
          go_wp2_with fail
          go_loopg [13] who.length (fun fuel kv wr => ∃ k : Nat, kv = .int .i64 (k : Int) ∧ who.length ≤ k + fuel ∧ k ≤ who.length ∧ Sec (∀ j (h : j < who.length), j < k → who[j] < x) ∧ Gr wa wr)
          case atStart => exact ⟨0, rfl, by omega, by omega, sec (fun j h h' => absurd h' (by omega)), g2⟩
          case round =>
            clear g1 g2 g2'
            obtain ⟨k, rfl, hik, hk, HLT, gw⟩ := hrel
            obtain ⟨y0, y1, y2, y3, y4⟩ := HCELL.out wr gw
            by_cases hlt : k < who.length
            · have hii : (k : Int) < (who.length : Int) := by omega
              obtain ⟨bk, off, rfl, e0⟩ := (HRW.out.who.gr (hg0.trans gw)).cell hlt
              simp only at e0
              obtain ⟨mw, hmw⟩ : ∃ y, y = who[k] := ⟨_, rfl⟩
              rw [← hmw] at e0
              by_cases hmx : mw < x
              · have q2 : decide (mw < x) = true := decide_eq_true hmx
                have HN : Sec (∀ j (h : j < who.length), j < k + 1 → who[j] < x) := sec (fun j h h' => by
                  by_cases e : j = k
                  · subst e; rw [← hmw]; exact hmx
                  · exact HLT.out j h (by omega))
                clear hmw hmx
                go_wp2_with fail
                go_roundg (gk - 1)
                case rel => exact ⟨k + 1, by go_num, by omega, by omega, HN, gw⟩
                case measure => omega
              · have q2 : decide (mw < x) = false := decide_eq_false hmx
                have HKX := sec (kx_of x who k hk HLT.out (fun h => by rw [← hmw]; exact hmx))
                clear hmw hmx
                go_wp2_with fail
                go_meet
                exact ⟨k, rfl, hk, HKX, gw⟩
            · have q1 : decide (k < who.length) = false := decide_eq_false hlt
              have HKX := sec (kx_of x who k hk HLT.out (fun h => absurd h hlt))
              go_wp2_with fail
              go_meet
              exact ⟨k, rfl, hk, HKX, gw⟩
        case rest =>
          obtain ⟨k, rfl, hk, HKX, gw⟩ := hcut
          have HV3 : Sec (V = if who[k]? = some x then (stpZ, 8) else (⟨r, o, n, insL k x who, insL k (seal' key b) seals⟩, 0)) := sec (by rw [HV2.out, HKX.out])
          obtain ⟨bad, hbad⟩ : ∃ bad : Bool, bad = decide (who[k]? = some x) := ⟨_, rfl⟩
          have HBAD := sec hbad
          clear hbad
          go_upto_region 12 with fail
          go_cut [66] from 53 to 66 (fun v66 wx => v66 = .bool bad ∧ Gr wa wx)
          case first =>
            obtain ⟨y0, y1, y2, y3, y4⟩ := HCELL.out wc gw
            by_cases hlt : k < who.length
            · have hii : (k : Int) < (who.length : Int) := by omega
              obtain ⟨bk, off, rfl, e0⟩ := (HRW.out.who.gr (hg0.trans gw)).cell hlt
              simp only at e0
              have hget : who[k]? = some who[k] := List.getElem?_eq_getElem hlt
              obtain ⟨mw, hmw⟩ : ∃ y, y = who[k] := ⟨_, rfl⟩
              rw [← hmw] at e0 hget
              have hb : bad = decide (mw = x) := by rw [HBAD.out, hget]; simp
              by_cases hme : mw = x
              · have q4 : (mw == x) = true := by rw [beq_iff_eq]; exact hme
                have HX : Sec (bad = true) := sec (by rw [hb]; exact decide_eq_true hme)
                clear hget hmw hb hme
                go_wp2_with fail
                go_meet
                exact ⟨by rw [HX.out], gw⟩
              · have q4 : (mw == x) = false := by rw [beq_eq_false_iff_ne]; exact hme
                have HX : Sec (bad = false) := sec (by rw [hb]; exact decide_eq_false hme)
                clear hget hmw hb hme
                go_wp2_with fail
                go_meet
                exact ⟨by rw [HX.out], gw⟩
            · have q1 : decide (k < who.length) = false := decide_eq_false hlt
              have HX : Sec (bad = false) := sec (by rw [HBAD.out, List.getElem?_eq_none (by omega)]; rfl)
              clear hlt
              go_wp2_with fail
              go_meet
              exact ⟨by rw [HX.out], gw⟩
          case rest =>
            clear gw
            obtain ⟨rfl, gw⟩ := hcut
            cases bad
            · have HVK : Sec (V = (⟨r, o, n, insL k x who, insL k (seal' key b) seals⟩, 0)) := sec (by rw [HV3.out, if_neg (of_decide_eq_false HBAD.out.symm)])
              have HT : Sec (∀ W, Gr w W → Row W 1 A k ((who.map iV).take k)) := sec (fun W g => (HRW.out.who.gr g).take1 k (by simp only; omega))
              have hlc := HRW.out.wc
              simp only at hlc
              go_upto_region 14 with fail
              go_cut [] from 68 to 81 (fun wx => SgMid w p r o n (who.length + 1) (insL k x who) B seals.length d wx)
              case first =>
                have HC : Sec (∀ W, Gr wc W → W.cell? ⟨p, 3, none⟩ = some (.slice A who.length c) ∧ W.frozen? ⟨p, 3, none⟩ = false ∧ p + 1 < W.heap.size) := sec (fun W g => ⟨((HB.out.gr gw).gr g).cell 3, ((HB.out.gr gw).gr g).frozen 3, ((HZ.out.gr gw).gr g).lt⟩)
                have GD : Gr wc wc.drew := (Gr.refl _).drew
                have GW := hg0.trans gw
                have GE : Gr wc (wc.alloc (.cells #[.int .i64 x] 3)).drew := ((Gr.refl wc).alloc _).drew
                obtain ⟨l0, l1, l2⟩ := HC.out _ GE
                obtain ⟨l3, l4, l5⟩ := HC.out _ (Gr.refl _)
                have hkl' : (k : Int) ≤ (who.length : Int) := by omega
                cases A with
                | none =>
                  have HNIL := HRW.out.wn rfl
                  simp only at HNIL
                  obtain ⟨hl0, rfl⟩ := HNIL
                  obtain rfl : who = [] := List.eq_nil_of_length_eq_zero hl0
                  obtain rfl : k = 0 := by simp at hk; omega
                  clear hl0
                  go_region_law (first
                    | (refine step_append_row (B := wc.heap.size) (A0 := none) (n0 := 0) (cap0 := 0) (xs := []) (A := none) (n := 0) (c := 0) (vs := (([] : List Int).map iV).take 0) E.ints rfl (.const (.slice none 0 0)) (.tmp 71) rfl ?hd (World.ownsRow_nil _ _ _ _) ?hx (HT.out _ (GW.trans (by first | with_reducible assumption | exact GE))) (fun _ => ⟨rfl, rfl⟩) (fun u hu => iV_one u (List.mem_of_mem_take hu)) ?hb ?hm (Gr.size (by first | with_reducible assumption | exact GE)) ?_; (case hd => rfl); (case hx => simp [Act.eval, Act.put]; try omega); (case hb => omega); (case hm => unfold maxLen; omega); intro A5 k5 w9 o9 h9; have G9 : Gr wc w9 := Gr.grown (by first | with_reducible assumption | exact GE) h9 (fun k hk => by simp [Value.ownBlock] at hk); obtain ⟨s0, s1, s2⟩ := HC.out w9 G9; obtain ⟨s3, s4, s5⟩ := HC.out (w9.alloc (.cells #[.int .i64 x] 3)) (G9.alloc _); try (have hbk : Blk w9 wc.heap.size 3 #[.int .i64 x] := Blk.gr (Blk.drew (Blk.new wc 3 #[.int .i64 x])) (Gr.grown (Gr.refl _) h9 (fun k hk => by simp [Value.ownBlock] at hk))))
                    | (refine step_append_oneS (w := w9) (A := A5) (B := wc.heap.size) (n := 0 + 0) (cap := k5) (u := .int .i64 x) (c := 1) E.ints rfl (.tmp 72) (.tmp 74) rfl ?hd o9 ?hx rfl ?hb ?hm ?hB ?_; (case hd => simp [Act.eval, Act.put]); (case hx => simp [Act.eval, Act.put]); (case hb => omega); (case hm => unfold maxLen; omega); (case hB => exact G9.size); intro g8 k8 w8 o8 h8; have G8 : Gr wc w8 := Gr.grown G9 h8 (fun k hk => by have := (o9.lt k hk).1; omega); obtain ⟨r0, r1, r2⟩ := HC.out w8 G8)
                    | (refine step_append_row (w := w9) (B := wc.heap.size) (A := some ⟨wc.heap.size, 0, none⟩) (n := 1) (c := 1) (vs := [.int .i64 x]) E.ints rfl (.tmp 72) (.tmp 74) rfl ?hd o9 ?hx (row1 hbk) (fun h => by cases h) (fun u hu => by simp at hu; subst hu; rfl) ?hb ?hm G9.size ?_; (case hd => simp [Act.eval, Act.put]); (case hx => simp [Act.eval, Act.put]); (case hb => omega); (case hm => unfold maxLen; omega); intro Q8 k8 w8 o8 h8; have G8 : Gr wc w8 := Gr.grown G9 h8 (fun k hk => by have := (o9.lt k hk).1; omega); obtain ⟨r0, r1, r2⟩ := HC.out w8 G8)
                    | (refine step_append_row (w := w8) (B := wc.heap.size) (A := none) (n := 0) (c := 0) (vs := (([] : List Int).map iV).drop 0) E.ints rfl (.tmp 75) (.tmp 79) rfl ?hd o8 ?hx (Row.none1 0 (by simp)) (fun _ => ⟨rfl, rfl⟩) (fun u hu => iV_one u (List.mem_of_mem_drop hu)) ?hb ?hm G8.size ?_; (case hd => simp [Act.eval, Act.put]); (case hx => simp [Act.eval, Act.put]; try omega); (case hb => omega); (case hm => unfold maxLen; omega); intro A6 k6 w6 o6 h6; have G6 : Gr wc w6 := Gr.grown G8 h6 (fun k hk => by have := (o8.lt k hk).1; omega); obtain ⟨t0, t1, t2⟩ := HC.out w6 G6))
                  all_goals
                    have hN : 0 + 0 + 1 + (0) = List.length ([] : List Int) + 1 := by simp
                    have o7 := own_lowS o6 (show p + 1 + 1 ≤ wc.heap.size from (HC.out wc (Gr.refl _)).2.2)
                    rw [hN, List.nil_append] at o7
                    have o8' : w6.ownsRow (p + 1 + 1) 3 1 (.slice A6 (List.length ([] : List Int) + 1) k6) (List.length ([] : List Int) + 1) ((insL 0 x ([] : List Int)).map iV) := by rw [ins_map]; exact o7
                    have hM := sgMid_set (w := w) (r := r) (o := o) (n := n) (B := B) (m := seals.length) (d := d) ((HB.out.gr gw).gr G6) ((HZ.out.gr gw).gr G6) (GW.trans G6) hwp o8'
                    have hN' : 0 + 1 + (0) = List.length ([] : List Int) + 1 := by simp
                    clear o7 o8' hN
                    go_wp2_with fail
                    go_meet
                    first | exact hM | (rw [hN']; exact hM) | simpa using hM
                | some ad =>
                  obtain ⟨bk, off, rfl⟩ := hPA ad rfl
                  have hkc' : (k : Int) ≤ (c : Int) := by omega
                  by_cases hkc : k = c
                  · subst hkc
                    go_region_law (first
                      | (refine step_append_row (B := wc.heap.size) (A0 := none) (n0 := 0) (cap0 := 0) (xs := []) (A := some ⟨bk, off, none⟩) (n := k) (c := k) (vs := (who.map iV).take k) E.ints rfl (.const (.slice none 0 0)) (.tmp 71) rfl ?hd (World.ownsRow_nil _ _ _ _) ?hx (HT.out _ (GW.trans (by first | with_reducible assumption | exact GE))) (fun h => by cases h) (fun u hu => iV_one u (List.mem_of_mem_take hu)) ?hb ?hm (Gr.size (by first | with_reducible assumption | exact GE)) ?_; (case hd => rfl); (case hx => simp [Act.eval, Act.put]; try omega); (case hb => omega); (case hm => unfold maxLen; omega); intro A5 k5 w9 o9 h9; have G9 : Gr wc w9 := Gr.grown (by first | with_reducible assumption | exact GE) h9 (fun k hk => by simp [Value.ownBlock] at hk); obtain ⟨s0, s1, s2⟩ := HC.out w9 G9; obtain ⟨s3, s4, s5⟩ := HC.out (w9.alloc (.cells #[.int .i64 x] 3)) (G9.alloc _); try (have hbk : Blk w9 wc.heap.size 3 #[.int .i64 x] := Blk.gr (Blk.drew (Blk.new wc 3 #[.int .i64 x])) (Gr.grown (Gr.refl _) h9 (fun k hk => by simp [Value.ownBlock] at hk))))
                      | (refine step_append_oneS (w := w9) (A := A5) (B := wc.heap.size) (n := 0 + k) (cap := k5) (u := .int .i64 x) (c := 1) E.ints rfl (.tmp 72) (.tmp 74) rfl ?hd o9 ?hx rfl ?hb ?hm ?hB ?_; (case hd => simp [Act.eval, Act.put]); (case hx => simp [Act.eval, Act.put]); (case hb => omega); (case hm => unfold maxLen; omega); (case hB => exact G9.size); intro g8 k8 w8 o8 h8; have G8 : Gr wc w8 := Gr.grown G9 h8 (fun k hk => by have := (o9.lt k hk).1; omega); obtain ⟨r0, r1, r2⟩ := HC.out w8 G8)
                      | (refine step_append_row (w := w9) (B := wc.heap.size) (A := some ⟨wc.heap.size, 0, none⟩) (n := 1) (c := 1) (vs := [.int .i64 x]) E.ints rfl (.tmp 72) (.tmp 74) rfl ?hd o9 ?hx (row1 hbk) (fun h => by cases h) (fun u hu => by simp at hu; subst hu; rfl) ?hb ?hm G9.size ?_; (case hd => simp [Act.eval, Act.put]); (case hx => simp [Act.eval, Act.put]); (case hb => omega); (case hm => unfold maxLen; omega); intro Q8 k8 w8 o8 h8; have G8 : Gr wc w8 := Gr.grown G9 h8 (fun k hk => by have := (o9.lt k hk).1; omega); obtain ⟨r0, r1, r2⟩ := HC.out w8 G8)
                      | (refine step_append_row (w := w8) (B := wc.heap.size) (A := some ⟨bk, off, none⟩) (n := 0) (c := 0) (vs := (who.map iV).drop k) E.ints rfl (.tmp 75) (.tmp 79) rfl ?hd o8 ?hx (Row.none1 k (by rw [List.length_map]; omega)) (fun h => by cases h) (fun u hu => iV_one u (List.mem_of_mem_drop hu)) ?hb ?hm G8.size ?_; (case hd => simp [Act.eval, Act.put]); (case hx => simp [Act.eval, Act.put]; try omega); (case hb => omega); (case hm => unfold maxLen; omega); intro A6 k6 w6 o6 h6; have G6 : Gr wc w6 := Gr.grown G8 h6 (fun k hk => by have := (o8.lt k hk).1; omega); obtain ⟨t0, t1, t2⟩ := HC.out w6 G6))
                    all_goals
                      have hN : 0 + k + 1 + (0) = who.length + 1 := by omega
                      have o7 := own_lowS o6 (show p + 1 + 1 ≤ wc.heap.size from (HC.out wc (Gr.refl _)).2.2)
                      rw [hN, List.nil_append] at o7
                      have o8' : w6.ownsRow (p + 1 + 1) 3 1 (.slice A6 (who.length + 1) k6) (who.length + 1) ((insL k x who).map iV) := by rw [ins_map]; exact o7
                      have hM := sgMid_set (w := w) (r := r) (o := o) (n := n) (B := B) (m := seals.length) (d := d) ((HB.out.gr gw).gr G6) ((HZ.out.gr gw).gr G6) (GW.trans G6) hwp o8'
                      have hN' : k + 1 + (0) = who.length + 1 := by omega
                      clear o7 o8' hN
                      go_wp2_with fail
                      go_meet
                      first | exact hM | (rw [hN']; exact hM)
                  · have hkc1 : k < c := by omega
                    have HD : Sec (∀ W, Gr w W → Row W 1 (some ⟨bk, off + k, none⟩) (who.length - k) ((who.map iV).drop k)) := sec (fun W g => (HRW.out.who.gr g).drop1 k (by simp only; omega))
                    go_region_law (first
                      | (refine step_append_row (B := wc.heap.size) (A0 := none) (n0 := 0) (cap0 := 0) (xs := []) (A := some ⟨bk, off, none⟩) (n := k) (c := c) (vs := (who.map iV).take k) E.ints rfl (.const (.slice none 0 0)) (.tmp 71) rfl ?hd (World.ownsRow_nil _ _ _ _) ?hx (HT.out _ (GW.trans (by first | with_reducible assumption | exact GE))) (fun h => by cases h) (fun u hu => iV_one u (List.mem_of_mem_take hu)) ?hb ?hm (Gr.size (by first | with_reducible assumption | exact GE)) ?_; (case hd => rfl); (case hx => simp [Act.eval, Act.put]; try omega); (case hb => omega); (case hm => unfold maxLen; omega); intro A5 k5 w9 o9 h9; have G9 : Gr wc w9 := Gr.grown (by first | with_reducible assumption | exact GE) h9 (fun k hk => by simp [Value.ownBlock] at hk); obtain ⟨s0, s1, s2⟩ := HC.out w9 G9; obtain ⟨s3, s4, s5⟩ := HC.out (w9.alloc (.cells #[.int .i64 x] 3)) (G9.alloc _); try (have hbk : Blk w9 wc.heap.size 3 #[.int .i64 x] := Blk.gr (Blk.drew (Blk.new wc 3 #[.int .i64 x])) (Gr.grown (Gr.refl _) h9 (fun k hk => by simp [Value.ownBlock] at hk))))
                      | (refine step_append_oneS (w := w9) (A := A5) (B := wc.heap.size) (n := 0 + k) (cap := k5) (u := .int .i64 x) (c := 1) E.ints rfl (.tmp 72) (.tmp 74) rfl ?hd o9 ?hx rfl ?hb ?hm ?hB ?_; (case hd => simp [Act.eval, Act.put]); (case hx => simp [Act.eval, Act.put]); (case hb => omega); (case hm => unfold maxLen; omega); (case hB => exact G9.size); intro g8 k8 w8 o8 h8; have G8 : Gr wc w8 := Gr.grown G9 h8 (fun k hk => by have := (o9.lt k hk).1; omega); obtain ⟨r0, r1, r2⟩ := HC.out w8 G8)
                      | (refine step_append_row (w := w9) (B := wc.heap.size) (A := some ⟨wc.heap.size, 0, none⟩) (n := 1) (c := 1) (vs := [.int .i64 x]) E.ints rfl (.tmp 72) (.tmp 74) rfl ?hd o9 ?hx (row1 hbk) (fun h => by cases h) (fun u hu => by simp at hu; subst hu; rfl) ?hb ?hm G9.size ?_; (case hd => simp [Act.eval, Act.put]); (case hx => simp [Act.eval, Act.put]); (case hb => omega); (case hm => unfold maxLen; omega); intro Q8 k8 w8 o8 h8; have G8 : Gr wc w8 := Gr.grown G9 h8 (fun k hk => by have := (o9.lt k hk).1; omega); obtain ⟨r0, r1, r2⟩ := HC.out w8 G8)
                      | (refine step_append_row (w := w8) (B := wc.heap.size) (A := some ⟨bk, off + k, none⟩) (n := who.length - k) (c := c - k) (vs := (who.map iV).drop k) E.ints rfl (.tmp 75) (.tmp 79) rfl ?hd o8 ?hx (HD.out _ (GW.trans G8)) (fun h => by cases h) (fun u hu => iV_one u (List.mem_of_mem_drop hu)) ?hb ?hm G8.size ?_; (case hd => simp [Act.eval, Act.put]); (case hx => simp [Act.eval, Act.put]; try omega); (case hb => omega); (case hm => unfold maxLen; omega); intro A6 k6 w6 o6 h6; have G6 : Gr wc w6 := Gr.grown G8 h6 (fun k hk => by have := (o8.lt k hk).1; omega); obtain ⟨t0, t1, t2⟩ := HC.out w6 G6))
                    all_goals
                      have hN : 0 + k + 1 + (who.length - k) = who.length + 1 := by omega
                      have o7 := own_lowS o6 (show p + 1 + 1 ≤ wc.heap.size from (HC.out wc (Gr.refl _)).2.2)
                      rw [hN, List.nil_append] at o7
                      have o8' : w6.ownsRow (p + 1 + 1) 3 1 (.slice A6 (who.length + 1) k6) (who.length + 1) ((insL k x who).map iV) := by rw [ins_map]; exact o7
                      have hM := sgMid_set (w := w) (r := r) (o := o) (n := n) (B := B) (m := seals.length) (d := d) ((HB.out.gr gw).gr G6) ((HZ.out.gr gw).gr G6) (GW.trans G6) hwp o8'
                      have hN' : k + 1 + (who.length - k) = who.length + 1 := by omega
                      clear o7 o8' hN
                      go_wp2_with fail
                      go_meet
                      first | exact hM | (rw [hN']; exact hM)
              case rest =>
                clear gw
                obtain ⟨⟨A1, c1, bM, oM⟩, zM, gM⟩ := hcut
                obtain ⟨SV, hSV⟩ : ∃ SV, SV = seal' key b := ⟨_, rfl⟩
                rw [← hSV] at HVK HSe
                clear hSV HT hlc
                have HSL2 : Sec (seals.length + 1 = who.length + 1) := sec (by have := HSL.out; omega)
                have HT : Sec (∀ W, Gr w W → Row W 1 B k ((seals.map strV).take k)) := sec (fun W g => (HRW.out.seals.gr g).take1 k (by simp only; have := HSL.out; omega))
                have hlc := HRW.out.sc
                have hkl2 : k ≤ seals.length := by have := HSL.out; omega
                have hs8 : seals.length ≤ 8 := by have := HSL.out; omega
                simp only at hlc
                have HSE2 : Sec (∀ (W : World) (A6 : Option Addr) (k6 : Nat), Gr wc W → W.ownsRow (p + 1 + 1) 9 1 (.slice A6 (seals.length + 1) k6) (seals.length + 1) ((insL k SV seals).map strV) → SgEnd w p r o n (who.length + 1) (insL k x who) (insL k SV seals) (W.setCell ⟨p, 4, none⟩ (.slice A6 (seals.length + 1) k6))) := sec (fun W A6 k6 g ho => by
                  rw [HSL2.out] at ho ⊢
                  exact sgEnd_set (bM.gr g) (zM.gr g) (gM.trans g) hwp (own_gr oM g) ho)
                have HC : Sec (∀ W, Gr wc W → W.cell? ⟨p, 4, none⟩ = some (.slice B seals.length d) ∧ W.frozen? ⟨p, 4, none⟩ = false ∧ p + 1 < W.heap.size) := sec (fun W g => ⟨(bM.gr g).cell 4, (bM.gr g).frozen 4, (zM.gr g).lt⟩)
                go_upto_region 15 with fail
                go_cut [] from 82 to 97 (fun wx => SgEnd w p r o n (who.length + 1) (insL k x who) (insL k SV seals) wx)
                case first =>
                  have GD : Gr wc wc.drew := (Gr.refl _).drew
                  have GW := gM
                  obtain ⟨l0, l1, l2⟩ := HC.out _ GD
                  obtain ⟨l3, l4, l5⟩ := HC.out _ (Gr.refl _)
                  have hkl' : (k : Int) ≤ (seals.length : Int) := by omega
                  clear bM oM zM hk
                  cases B with
                  | none =>
                    have HNIL := HRW.out.sn rfl
                    simp only at HNIL
                    obtain ⟨hl0, rfl⟩ := HNIL
                    obtain rfl : seals = [] := List.eq_nil_of_length_eq_zero hl0
                    obtain rfl : k = 0 := by simp at hkl2; omega
                    clear hl0
                    go_region_law (first
                      | (refine step_append_row (B := wc.heap.size) (A0 := none) (n0 := 0) (cap0 := 0) (xs := []) (A := none) (n := 0) (c := 0) (vs := (([] : List (List UInt8)).map strV).take 0) E.str rfl (.const (.slice none 0 0)) (.tmp 85) rfl ?hd (World.ownsRow_nil _ _ _ _) ?hx (HT.out _ (GW.trans (by first | with_reducible assumption | exact GS.alloc _))) (fun _ => ⟨rfl, rfl⟩) (fun u hu => sV_one u (List.mem_of_mem_take hu)) ?hb ?hm (Gr.size (by first | with_reducible assumption | exact GS.alloc _)) ?_; (case hd => rfl); (case hx => simp [Act.eval, Act.put]; try omega); (case hb => omega); (case hm => unfold maxLen; omega); intro A5 k5 w9 o9 h9; have G9 : Gr wc w9 := Gr.grown (by first | with_reducible assumption | exact GS.alloc _) h9 (fun k hk => by simp [Value.ownBlock] at hk); obtain ⟨s0, s1, s2⟩ := HC.out w9 G9; obtain ⟨s3, s4, s5⟩ := HC.out (w9.alloc (.cells #[.string (bs SV)] 9)) (G9.alloc _); try (have hbk : Blk w9 wS.heap.size 9 #[.string (bs SV)] := Blk.gr (Blk.new wS 9 #[.string (bs SV)]) (Gr.grown (Gr.refl _) h9 (fun k hk => by simp [Value.ownBlock] at hk))))
                      | (refine step_append_oneS (w := w9) (A := A5) (B := wc.heap.size) (n := 0 + 0) (cap := k5) (u := .string (bs SV)) (c := 1) E.str rfl (.tmp 86) (.tmp 90) rfl ?hd o9 ?hx rfl ?hb ?hm ?hB ?_; (case hd => simp [Act.eval, Act.put]); (case hx => simp [Act.eval, Act.put]); (case hb => omega); (case hm => unfold maxLen; omega); (case hB => exact G9.size); intro g8 k8 w8 o8 h8; have G8 : Gr wc w8 := Gr.grown G9 h8 (fun k hk => by have := (o9.lt k hk).1; omega); obtain ⟨r0, r1, r2⟩ := HC.out w8 G8)
                      | (refine step_append_oneS (w := wS) (A := A5) (B := wc.heap.size) (n := 0 + 0) (cap := k5) (u := .string (bs SV)) (c := 1) E.str rfl (.tmp 86) (.tmp 90) rfl ?hd o9S ?hx rfl ?hb ?hm ?hB ?_; (case hd => simp [Act.eval, Act.put]); (case hx => simp [Act.eval, Act.put]); (case hb => omega); (case hm => unfold maxLen; omega); (case hB => exact GS.size); intro g8 k8 w8 o8 h8; have G8 : Gr wc w8 := Gr.grown GS h8 (fun k hk => by have := (o9.lt k hk).1; omega); obtain ⟨r0, r1, r2⟩ := HC.out w8 G8)
                      | (refine step_append_row (w := w9) (B := wc.heap.size) (A := some ⟨wS.heap.size, 0, none⟩) (n := 1) (c := 1) (vs := [.string (bs SV)]) E.str rfl (.tmp 86) (.tmp 90) rfl ?hd o9 ?hx (row1 hbk) (fun h => by cases h) (fun u hu => by simp at hu; subst hu; rfl) ?hb ?hm G9.size ?_; (case hd => simp [Act.eval, Act.put]); (case hx => simp [Act.eval, Act.put]); (case hb => omega); (case hm => unfold maxLen; omega); intro Q8 k8 w8 o8 h8; have G8 : Gr wc w8 := Gr.grown G9 h8 (fun k hk => by have := (o9.lt k hk).1; omega); obtain ⟨r0, r1, r2⟩ := HC.out w8 G8)
                      | (refine step_append_row (w := w8) (B := wc.heap.size) (A := none) (n := 0) (c := 0) (vs := (([] : List (List UInt8)).map strV).drop 0) E.str rfl (.tmp 91) (.tmp 95) rfl ?hd o8 ?hx (Row.none1 0 (by simp)) (fun _ => ⟨rfl, rfl⟩) (fun u hu => sV_one u (List.mem_of_mem_drop hu)) ?hb ?hm G8.size ?_; (case hd => simp [Act.eval, Act.put]); (case hx => simp [Act.eval, Act.put]; try omega); (case hb => omega); (case hm => unfold maxLen; omega); intro A6 k6 w6 o6 h6; have G6 : Gr wc w6 := Gr.grown G8 h6 (fun k hk => by have := (o8.lt k hk).1; omega); obtain ⟨t0, t1, t2⟩ := HC.out w6 G6)
                      | (go_simp; go_at_call 19; (refine Calls.mono (HSe.out _ (GW.trans (by first | with_reducible assumption))) ?_); rintro e wS ⟨rfl, gS⟩; have GS : Gr wc wS := Gr.trans (by first | with_reducible assumption) gS; obtain ⟨m0, m1, m2⟩ := HC.out wS GS; obtain ⟨m3, m4, m5⟩ := HC.out (wS.alloc (.cells #[.string (bs SV)] 9)) (GS.alloc _); try (have o9S := own_gr o9 gS)))
                    all_goals
                      have hN : 0 + 0 + 1 + (0) = List.length ([] : List (List UInt8)) + 1 := by simp
                      have o7 := own_lowS o6 (show p + 1 + 1 ≤ wc.heap.size from (HC.out wc (Gr.refl _)).2.2)
                      rw [hN, List.nil_append] at o7
                      have o8' : w6.ownsRow (p + 1 + 1) 9 1 (.slice A6 (List.length ([] : List (List UInt8)) + 1) k6) (List.length ([] : List (List UInt8)) + 1) ((insL 0 SV ([] : List (List UInt8))).map strV) := by rw [ins_map]; exact o7
                      have hM := HSE2.out _ _ _ G6 o8'
                      have hN' : 0 + 1 + (0) = List.length ([] : List (List UInt8)) + 1 := by simp
                      clear o7 o8' hN
                      go_wp2_with fail
                      go_meet
                      first | exact hM | (rw [hN']; exact hM) | simpa using hM
                  | some ad =>
                    obtain ⟨bk, off, rfl⟩ := hPB ad rfl
                    have hkc' : (k : Int) ≤ (d : Int) := by omega
                    by_cases hkc : k = d
                    · subst hkc
                      go_region_law (first
                        | (refine step_append_row (B := wc.heap.size) (A0 := none) (n0 := 0) (cap0 := 0) (xs := []) (A := some ⟨bk, off, none⟩) (n := k) (c := k) (vs := (seals.map strV).take k) E.str rfl (.const (.slice none 0 0)) (.tmp 85) rfl ?hd (World.ownsRow_nil _ _ _ _) ?hx (HT.out _ (GW.trans (by first | with_reducible assumption | exact GS.alloc _))) (fun h => by cases h) (fun u hu => sV_one u (List.mem_of_mem_take hu)) ?hb ?hm (Gr.size (by first | with_reducible assumption | exact GS.alloc _)) ?_; (case hd => rfl); (case hx => simp [Act.eval, Act.put]; try omega); (case hb => omega); (case hm => unfold maxLen; omega); intro A5 k5 w9 o9 h9; have G9 : Gr wc w9 := Gr.grown (by first | with_reducible assumption | exact GS.alloc _) h9 (fun k hk => by simp [Value.ownBlock] at hk); obtain ⟨s0, s1, s2⟩ := HC.out w9 G9; obtain ⟨s3, s4, s5⟩ := HC.out (w9.alloc (.cells #[.string (bs SV)] 9)) (G9.alloc _); try (have hbk : Blk w9 wS.heap.size 9 #[.string (bs SV)] := Blk.gr (Blk.new wS 9 #[.string (bs SV)]) (Gr.grown (Gr.refl _) h9 (fun k hk => by simp [Value.ownBlock] at hk))))
                        | (refine step_append_oneS (w := w9) (A := A5) (B := wc.heap.size) (n := 0 + k) (cap := k5) (u := .string (bs SV)) (c := 1) E.str rfl (.tmp 86) (.tmp 90) rfl ?hd o9 ?hx rfl ?hb ?hm ?hB ?_; (case hd => simp [Act.eval, Act.put]); (case hx => simp [Act.eval, Act.put]); (case hb => omega); (case hm => unfold maxLen; omega); (case hB => exact G9.size); intro g8 k8 w8 o8 h8; have G8 : Gr wc w8 := Gr.grown G9 h8 (fun k hk => by have := (o9.lt k hk).1; omega); obtain ⟨r0, r1, r2⟩ := HC.out w8 G8)
                        | (refine step_append_oneS (w := wS) (A := A5) (B := wc.heap.size) (n := 0 + k) (cap := k5) (u := .string (bs SV)) (c := 1) E.str rfl (.tmp 86) (.tmp 90) rfl ?hd o9S ?hx rfl ?hb ?hm ?hB ?_; (case hd => simp [Act.eval, Act.put]); (case hx => simp [Act.eval, Act.put]); (case hb => omega); (case hm => unfold maxLen; omega); (case hB => exact GS.size); intro g8 k8 w8 o8 h8; have G8 : Gr wc w8 := Gr.grown GS h8 (fun k hk => by have := (o9.lt k hk).1; omega); obtain ⟨r0, r1, r2⟩ := HC.out w8 G8)
                        | (refine step_append_row (w := w9) (B := wc.heap.size) (A := some ⟨wS.heap.size, 0, none⟩) (n := 1) (c := 1) (vs := [.string (bs SV)]) E.str rfl (.tmp 86) (.tmp 90) rfl ?hd o9 ?hx (row1 hbk) (fun h => by cases h) (fun u hu => by simp at hu; subst hu; rfl) ?hb ?hm G9.size ?_; (case hd => simp [Act.eval, Act.put]); (case hx => simp [Act.eval, Act.put]); (case hb => omega); (case hm => unfold maxLen; omega); intro Q8 k8 w8 o8 h8; have G8 : Gr wc w8 := Gr.grown G9 h8 (fun k hk => by have := (o9.lt k hk).1; omega); obtain ⟨r0, r1, r2⟩ := HC.out w8 G8)
                        | (refine step_append_row (w := w8) (B := wc.heap.size) (A := some ⟨bk, off, none⟩) (n := 0) (c := 0) (vs := (seals.map strV).drop k) E.str rfl (.tmp 91) (.tmp 95) rfl ?hd o8 ?hx (Row.none1 k (by rw [List.length_map]; omega)) (fun h => by cases h) (fun u hu => sV_one u (List.mem_of_mem_drop hu)) ?hb ?hm G8.size ?_; (case hd => simp [Act.eval, Act.put]); (case hx => simp [Act.eval, Act.put]; try omega); (case hb => omega); (case hm => unfold maxLen; omega); intro A6 k6 w6 o6 h6; have G6 : Gr wc w6 := Gr.grown G8 h6 (fun k hk => by have := (o8.lt k hk).1; omega); obtain ⟨t0, t1, t2⟩ := HC.out w6 G6)
                        | (go_simp; go_at_call 19; (refine Calls.mono (HSe.out _ (GW.trans (by first | with_reducible assumption))) ?_); rintro e wS ⟨rfl, gS⟩; have GS : Gr wc wS := Gr.trans (by first | with_reducible assumption) gS; obtain ⟨m0, m1, m2⟩ := HC.out wS GS; obtain ⟨m3, m4, m5⟩ := HC.out (wS.alloc (.cells #[.string (bs SV)] 9)) (GS.alloc _); try (have o9S := own_gr o9 gS)))
                      all_goals
                        have hN : 0 + k + 1 + (0) = seals.length + 1 := by omega
                        have o7 := own_lowS o6 (show p + 1 + 1 ≤ wc.heap.size from (HC.out wc (Gr.refl _)).2.2)
                        rw [hN, List.nil_append] at o7
                        have o8' : w6.ownsRow (p + 1 + 1) 9 1 (.slice A6 (seals.length + 1) k6) (seals.length + 1) ((insL k SV seals).map strV) := by rw [ins_map]; exact o7
                        have hM := HSE2.out _ _ _ G6 o8'
                        have hN' : k + 1 + (0) = seals.length + 1 := by omega
                        clear o7 o8' hN
                        go_wp2_with fail
                        go_meet
                        first | exact hM | (rw [hN']; exact hM) | simpa using hM
                    · have hkc1 : k < d := by omega
                      have HD : Sec (∀ W, Gr w W → Row W 1 (some ⟨bk, off + k, none⟩) (seals.length - k) ((seals.map strV).drop k)) := sec (fun W g => (HRW.out.seals.gr g).drop1 k (by simp only; omega))
                      go_region_law (first
                        | (refine step_append_row (B := wc.heap.size) (A0 := none) (n0 := 0) (cap0 := 0) (xs := []) (A := some ⟨bk, off, none⟩) (n := k) (c := d) (vs := (seals.map strV).take k) E.str rfl (.const (.slice none 0 0)) (.tmp 85) rfl ?hd (World.ownsRow_nil _ _ _ _) ?hx (HT.out _ (GW.trans (by first | with_reducible assumption | exact GS.alloc _))) (fun h => by cases h) (fun u hu => sV_one u (List.mem_of_mem_take hu)) ?hb ?hm (Gr.size (by first | with_reducible assumption | exact GS.alloc _)) ?_; (case hd => rfl); (case hx => simp [Act.eval, Act.put]; try omega); (case hb => omega); (case hm => unfold maxLen; omega); intro A5 k5 w9 o9 h9; have G9 : Gr wc w9 := Gr.grown (by first | with_reducible assumption | exact GS.alloc _) h9 (fun k hk => by simp [Value.ownBlock] at hk); obtain ⟨s0, s1, s2⟩ := HC.out w9 G9; obtain ⟨s3, s4, s5⟩ := HC.out (w9.alloc (.cells #[.string (bs SV)] 9)) (G9.alloc _); try (have hbk : Blk w9 wS.heap.size 9 #[.string (bs SV)] := Blk.gr (Blk.new wS 9 #[.string (bs SV)]) (Gr.grown (Gr.refl _) h9 (fun k hk => by simp [Value.ownBlock] at hk))))
                        | (refine step_append_oneS (w := w9) (A := A5) (B := wc.heap.size) (n := 0 + k) (cap := k5) (u := .string (bs SV)) (c := 1) E.str rfl (.tmp 86) (.tmp 90) rfl ?hd o9 ?hx rfl ?hb ?hm ?hB ?_; (case hd => simp [Act.eval, Act.put]); (case hx => simp [Act.eval, Act.put]); (case hb => omega); (case hm => unfold maxLen; omega); (case hB => exact G9.size); intro g8 k8 w8 o8 h8; have G8 : Gr wc w8 := Gr.grown G9 h8 (fun k hk => by have := (o9.lt k hk).1; omega); obtain ⟨r0, r1, r2⟩ := HC.out w8 G8)
                        | (refine step_append_oneS (w := wS) (A := A5) (B := wc.heap.size) (n := 0 + k) (cap := k5) (u := .string (bs SV)) (c := 1) E.str rfl (.tmp 86) (.tmp 90) rfl ?hd o9S ?hx rfl ?hb ?hm ?hB ?_; (case hd => simp [Act.eval, Act.put]); (case hx => simp [Act.eval, Act.put]); (case hb => omega); (case hm => unfold maxLen; omega); (case hB => exact GS.size); intro g8 k8 w8 o8 h8; have G8 : Gr wc w8 := Gr.grown GS h8 (fun k hk => by have := (o9.lt k hk).1; omega); obtain ⟨r0, r1, r2⟩ := HC.out w8 G8)
                        | (refine step_append_row (w := w9) (B := wc.heap.size) (A := some ⟨wS.heap.size, 0, none⟩) (n := 1) (c := 1) (vs := [.string (bs SV)]) E.str rfl (.tmp 86) (.tmp 90) rfl ?hd o9 ?hx (row1 hbk) (fun h => by cases h) (fun u hu => by simp at hu; subst hu; rfl) ?hb ?hm G9.size ?_; (case hd => simp [Act.eval, Act.put]); (case hx => simp [Act.eval, Act.put]); (case hb => omega); (case hm => unfold maxLen; omega); intro Q8 k8 w8 o8 h8; have G8 : Gr wc w8 := Gr.grown G9 h8 (fun k hk => by have := (o9.lt k hk).1; omega); obtain ⟨r0, r1, r2⟩ := HC.out w8 G8)
                        | (refine step_append_row (w := w8) (B := wc.heap.size) (A := some ⟨bk, off + k, none⟩) (n := seals.length - k) (c := d - k) (vs := (seals.map strV).drop k) E.str rfl (.tmp 91) (.tmp 95) rfl ?hd o8 ?hx (HD.out _ (GW.trans G8)) (fun h => by cases h) (fun u hu => sV_one u (List.mem_of_mem_drop hu)) ?hb ?hm G8.size ?_; (case hd => simp [Act.eval, Act.put]); (case hx => simp [Act.eval, Act.put]; try omega); (case hb => omega); (case hm => unfold maxLen; omega); intro A6 k6 w6 o6 h6; have G6 : Gr wc w6 := Gr.grown G8 h6 (fun k hk => by have := (o8.lt k hk).1; omega); obtain ⟨t0, t1, t2⟩ := HC.out w6 G6)
                        | (go_simp; go_at_call 19; (refine Calls.mono (HSe.out _ (GW.trans (by first | with_reducible assumption))) ?_); rintro e wS ⟨rfl, gS⟩; have GS : Gr wc wS := Gr.trans (by first | with_reducible assumption) gS; obtain ⟨m0, m1, m2⟩ := HC.out wS GS; obtain ⟨m3, m4, m5⟩ := HC.out (wS.alloc (.cells #[.string (bs SV)] 9)) (GS.alloc _); try (have o9S := own_gr o9 gS)))
                      all_goals
                        have hN : 0 + k + 1 + (seals.length - k) = seals.length + 1 := by omega
                        have o7 := own_lowS o6 (show p + 1 + 1 ≤ wc.heap.size from (HC.out wc (Gr.refl _)).2.2)
                        rw [hN, List.nil_append] at o7
                        have o8' : w6.ownsRow (p + 1 + 1) 9 1 (.slice A6 (seals.length + 1) k6) (seals.length + 1) ((insL k SV seals).map strV) := by rw [ins_map]; exact o7
                        have hM := HSE2.out _ _ _ G6 o8'
                        have hN' : k + 1 + (seals.length - k) = seals.length + 1 := by omega
                        clear o7 o8' hN
                        go_wp2_with fail
                        go_meet
                        first | exact hM | (rw [hN']; exact hM) | simpa using hM
                case rest =>
                  obtain ⟨⟨A2, c2, B2, d2, bE, oE, oE2⟩, zE, gE⟩ := hcut
                  have hL1 : (insL k x who).length = who.length + 1 := insL_len _ _ _
                  have hL2 : (insL k SV seals).length = who.length + 1 := by rw [insL_len]; exact HSL2.out
                  clear HSe HT HSE2 HC bM oM zM
                  go_wp2_with (first
                    | (refine wpList_load_blk rfl 37 (.tmp 4) rfl (g := p) rfl bE aggStep ?_)
                    | (refine wpList_store_blk rfl 37 (.tmp 8) (.tmp 98) rfl (g := p + 1) (cs' := #[.string (bs r), .string (bs o), .string (bs n), .slice A2 (who.length + 1) c2, .slice B2 (who.length + 1) d2]) rfl rfl zE aggStep rfl (by simp [Value.oneCell']) ?_; intro w9 h9 hg9))
                  refine bodyPost_ret (results_blk_tmp rfl _ rfl h9 aggStep) rfl ?_
                  have r1 : IntRow w9 A2 (insL k x who).length (insL k x who) := by rw [hL1]; exact Row.only (Row.own oE) hg9 (fun h0 b off e => by have := (oE.lt b (by rw [e]; rfl)).1; omega)
                  have r2 : StrRow w9 B2 (insL k SV seals).length (insL k SV seals) := by rw [hL2]; exact Row.only (Row.own oE2) hg9 (fun h0 b off e => by have := (oE2.lt b (by rw [e]; rfl)).1; omega)
                  rw [HVK.out]
                  refine ⟨A2, c2, B2, d2, ?_, ⟨r1, r2, fun e => ?_, fun e => ?_, ?_, ?_⟩, Gr.only gE hg9 hwp1⟩
                  · simp only [hL1, hL2]; rfl
                  · simp only [hL1]; exact own_nil oE e
                  · simp only [hL2]; exact own_nil oE2 e
                  · simp only [hL1]; exact own_cap oE
                  · simp only [hL2]; exact own_cap oE2
            · have HV8 : Sec (V = (stpZ, 8)) := sec (by rw [HV3.out, if_pos (of_decide_eq_true HBAD.out.symm)])
              go_wp2_with (refine wpList_store_blk rfl 37 (.tmp 8) _ rfl (g := p + 1) (cs' := stepA stpZ none 0 none 0) rfl rfl (HZ.out.gr gw) aggStep rfl (stepA_one _ _ _ _ _) ?_; intro w9 h9 hg9)
              refine bodyPost_ret (results_blk_tmp rfl _ rfl h9 aggStep) rfl ?_
              rw [HV8.out]
              exact ⟨none, 0, none, 0, rfl, StR.zero _, Gr.only (hg0.trans gw) hg9 hwp1⟩
    · have HVB : Sec (V = (stpZ, be)) := sec (by rw [HVV.out, if_pos rfl, if_neg h1])
      have m0 : (be != 0) = true := by simpa using h1
      clear HVV HSE z4 z5 z6 z7
      go_enter Tryd.func16, Tryd.ntmps16
      go_upto_region 1 with fail
      rw [← hwa, ← hp]
      clear hwa hp
      go_wp2_with (first
        | (go_at_call 17; refine Calls.mono HGo.out ?_; rintro e w1 ⟨rfl, g1⟩; obtain ⟨v0, v1, v2, v3, v4⟩ := HCELL.out w1 g1)
        | (go_at_call 18; refine Calls.mono (HBo.out _) ?_; rintro e w2 ⟨rfl, g2'⟩; have g2 : Gr wa w2 := Gr.trans g1 g2')
        | (refine wpList_store_blk rfl 37 (.tmp 8) _ rfl (g := p + 1) (cs' := stepA stpZ none 0 none 0) rfl rfl (HZ.out.gr g2) aggStep rfl (stepA_one _ _ _ _ _) ?_; intro w9 h9 hg9))
      refine bodyPost_ret (results_blk_tmp rfl _ rfl h9 aggStep) rfl ?_
      rw [HVB.out]
      exact ⟨none, 0, none, 0, rfl, StR.zero _, Gr.only (hg0.trans g2) hg9 hwp1⟩
  · have HVE : Sec (V = (stpZ, E)) := sec (by rw [HVV.out, if_neg h0])
    have m0 : (E != 0) = true := by simpa using h0
    clear HVV HSE
    go_enter Tryd.func16, Tryd.ntmps16
    go_upto_region 1 with fail
    rw [← hwa, ← hp]
    clear hwa hp
    go_wp2_with (first
      | (go_at_call 17; refine Calls.mono HGo.out ?_; rintro e w1 ⟨rfl, g1⟩; obtain ⟨v0, v1, v2, v3, v4⟩ := HCELL.out w1 g1)
      | (refine wpList_store_blk rfl 37 (.tmp 8) _ rfl (g := p + 1) (cs' := stepA stpZ none 0 none 0) rfl rfl (HZ.out.gr g1) aggStep rfl (stepA_one _ _ _ _ _) ?_; intro w9 h9 hg9))
    refine bodyPost_ret (results_blk_tmp rfl _ rfl h9 aggStep) rfl ?_
    rw [HVE.out]
    exact ⟨none, 0, none, 0, rfl, StR.zero _, Gr.only (hg0.trans g1) hg9 hwp1⟩
end Go.Proofs.YtmmpekdbknclcaaDoor

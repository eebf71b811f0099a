/-
  StepChecksP: contracts and plain laws joined (3 texts). No conditions but those that each states.
-/
import Derived.Test.YtkgmimmneeppgaaDoorStepBase
import Derived.Test.YtkgmimmneeppgaaDoorStepS
namespace Go.Proofs.YtkgmimmneeppgaaDoor
set_option maxRecDepth 100000
open Go.RowKit
set_option linter.unusedVariables false

set_option maxHeartbeats 8000000 in
theorem rstCheck_any (A0 : Option Addr) (m c0 : Nat) (B0 : Option Addr) (m' d0 : Nat) (need : Int) (ss : List (List UInt8)) (at_ : Int) (s : Stp) (A : Option Addr) (c : Nat) (B : Option Addr) (d : Nat) (w : World)
    (hK : StrRow w A0 m ss) (hm : m ≤ 1099511627776) (hss : ∀ x ∈ ss, x.length ≤ 1099511627776) (hR : StR w s A c B d) (hz : StSz 1099511627776 s) (hT : TabK w) :
    Calls Tryd.prog 34 #[.agg (keysA A0 m c0 B0 m' d0 need), .int .i64 at_, .agg (stepA s A c B d)] w fun e w' => e = .returned (.int .i64 (stCk ss need at_ s)) ∧ Gr w w' := by
  obtain ⟨wa, hwa⟩ : ∃ x, x = (w.alloc (.cells (keysA A0 m c0 B0 m' d0 need) 24)).alloc (.cells (stepA s A c B d) 46) := ⟨_, rfl⟩
  have hk : Blk wa w.heap.size 24 (keysA A0 m c0 B0 m' d0 need) := by rw [hwa]; exact (Blk.new w _ _).alloc _
  have hb : Blk wa (w.heap.size + 1) 46 (stepA s A c B d) := by rw [hwa]; exact Blk.new1 w _ _ _
  have hg0 : Gr w wa := by rw [hwa]; exact ((Gr.refl w).alloc _).alloc _
  obtain ⟨p, hp⟩ : ∃ p, p = w.heap.size := ⟨_, rfl⟩
  rw [← hp] at hk hb
  have HGo : Sec (Calls Tryd.prog 26 #[.agg (stepA s A c B d)] wa fun e w' => e = .returned (.int .i64 (stE s)) ∧ Gr wa w') := sec (rstGood_any s A c B d wa (hR.gr hg0) hz)
  have HBo : Sec (∀ W, Calls Tryd.prog 24 #[.int .i64 at_, .agg (stepA s A c B d)] W fun e w' => e = .returned (.tuple #[.string (bs (bodyR at_ s).1), .int .i64 (bodyR at_ s).2]) ∧ Gr W w') := sec (fun W => rstBody_any at_ s A c B d W hz)
  have HBL := sec (bodyR_len at_ s)
  have HSe : Sec (∀ key : List UInt8, key.length ≤ 1099511627776 → ∀ w', Gr wa w' → Calls Tryd.prog 39 #[.string (bs key), .string (bs (bodyR at_ s).1)] w' fun e w'' => e = .returned (.string (bs (seal' key (bodyR at_ s).1))) ∧ Gr w' w'') := sec (fun key hkey w' g => rseal_any key _ w' (by omega) (by have := HBL.out; omega))
  have HW := sec (hR.who.gr hg0)
  have HS := sec (hR.seals.gr hg0)
  have HKR := sec (hK.gr hg0)
  have HKL := sec (StrRow.len hK)
  have HSS := sec hss
  have hwl := hz.who
  have hsl := hz.seals
  have HSE := sec (fun h => stE_zero (s := s) h)
  obtain ⟨V, hV⟩ : ∃ V : Int, V = stCk ss need at_ s := ⟨_, rfl⟩
  rw [← hV]
  have HV := sec hV
  obtain ⟨E, hE⟩ : ∃ E, E = stE s := ⟨_, rfl⟩
  rw [← hE] at HGo HSE
  have HE := sec hE
  obtain ⟨b, hbb⟩ : ∃ b, b = (bodyR at_ s).1 := ⟨_, rfl⟩
  obtain ⟨be, hbe⟩ : ∃ b, b = (bodyR at_ s).2 := ⟨_, rfl⟩
  rw [← hbb, ← hbe] at HBo
  rw [← hbb] at HSe
  have HVV : Sec (V = if E = 0 then (if be = 0 then (if (rgL ss b s).all id = true ∧ need ≤ (s.who.length : Int) then 0 else 13) else be) else E) := sec (by rw [HV.out, hbb, hbe, hE]; rfl)
  clear hV hE hbb hbe HV HE HBL
  obtain ⟨r, o, n, who, seals⟩ := s
  unfold stepA at hb hwa HGo HBo
  unfold keysA at hk hwa
  unfold stepA keysA
  simp only at hb hwa hwl hsl HW HS HGo HBo HVV HSE ⊢
  have HCELL : Sec (∀ w', Gr wa w' → w'.cell? ⟨p, 0, none⟩ = some (.slice A0 m c0) ∧ w'.cell? ⟨p, 2, none⟩ = some (.int .i64 need) ∧ w'.cell? ⟨p + 1, 0, none⟩ = some (.string (bs r)) ∧ w'.cell? ⟨p + 1, 1, none⟩ = some (.string (bs o)) ∧ w'.cell? ⟨p + 1, 2, none⟩ = some (.string (bs n)) ∧ w'.cell? ⟨p + 1, 3, none⟩ = some (.slice A who.length c) ∧ w'.cell? ⟨p + 1, 4, none⟩ = some (.slice B seals.length d)) := sec (fun w' g => ⟨(hk.gr g).cell 0, (hk.gr g).cell 2, (hb.gr g).cell 0, (hb.gr g).cell 1, (hb.gr g).cell 2, (hb.gr g).cell 3, (hb.gr g).cell 4⟩)
  clear hb hk hK hss hR hz hT
  obtain ⟨u0, u1, u2, u3, u4, u5, u6⟩ := HCELL.out wa (Gr.refl _)
  by_cases h0 : E = 0
  · obtain ⟨-, -, -, -, z4, z5, z6, z7, -⟩ := HSE.out h0
    try simp only at z4 z5 z6 z7
    have HV1 : Sec (V = if be = 0 then (if (rgL ss b ⟨r, o, n, who, seals⟩).all id = true ∧ need ≤ (who.length : Int) then 0 else 13) else be) := sec (by rw [HVV.out, if_pos h0])
    subst h0
    by_cases h1 : be = 0
    · have HV2 : Sec (V = if (rgL ss b ⟨r, o, n, who, seals⟩).all id = true ∧ need ≤ (who.length : Int) then 0 else 13) := sec (by rw [HV1.out, if_pos h1])
      have HSL := sec z5
      have HZ7 := sec z7
      have HRL : Sec ((rgL ss b ⟨r, o, n, who, seals⟩).length = who.length) := sec (rgL_len (s := ⟨r, o, n, who, seals⟩) z5)
      subst h1
      clear HVV HV1 HSE z5 z6 z7
      go_enter Tryd.func34, Tryd.ntmps34
      go_upto_region 1 with fail
      rw [← hwa, ← hp]
      clear hwa hp
      go_wp2_with (first
        | (go_at_call 26; refine Calls.mono HGo.out ?_; rintro e w1 ⟨rfl, g1⟩; obtain ⟨v0, v1, v2, v3, v4, v5, v6⟩ := HCELL.out w1 g1)
        | (go_at_call 24; refine Calls.mono (HBo.out _) ?_; rintro e w2 ⟨rfl, g2'⟩; have g2 : Gr wa w2 := Gr.trans g1 g2'; obtain ⟨t0, t1, t2, t3, t4, t5, t6⟩ := HCELL.out w2 g2))
      clear u0 u1 u2 u3 u4 u5 u6 v0 v1 v2 v3 v4 v5 v6 t0 t1 t2 t3 t4 t5 t6
      go_loopg [30, 10, 11, 12] who.length (fun fuel iv rv _ _ wr => ∃ i rt : Nat, iv = .int .i64 (i : Int) ∧ rv = .int .i64 (rt : Int) ∧ rt ≤ i ∧ who.length ≤ i + fuel ∧ i ≤ who.length ∧ Sec (((rgL ss b ⟨r, o, n, who, seals⟩).take i).count true = rt) ∧ Gr wa wr)
      case atStart => exact ⟨0, 0, rfl, rfl, by omega, by omega, by omega, sec rfl, g2⟩
      case round =>
        clear g1 g2 g2'
        obtain ⟨i, rt, rfl, rfl, hrt, hik, hi, HAL, gw⟩ := hrel
        by_cases hlt : i < who.length
        · have hsl2 : i < seals.length := by have := HSL.out; omega
          have hii : (i : Int) < (who.length : Int) := by omega
          have hjj : (i : Int) < (seals.length : Int) := by omega
          have hrl : i < (rgL ss b ⟨r, o, n, who, seals⟩).length := by rw [HRL.out]; exact hlt
          have HGET := sec (rgL_get (ss := ss) (b := b) (s := ⟨r, o, n, who, seals⟩) hlt hsl2 hrl)
          have HCT := sec (count_take _ i hrl)
          have hwz := HZ7.out _ (List.getElem_mem hlt)
          obtain ⟨bk, off, rfl, e0⟩ := (HW.out.gr gw).cell hlt
          obtain ⟨bk2, off2, rfl, -⟩ := (HS.out.gr gw).cell hsl2
          have HX1 : Sec (∀ W, Gr wa W → W.cell? ⟨p, 0, none⟩ = some (.slice A0 m c0) ∧ W.cell? ⟨p + 1, 4, none⟩ = some (.slice (some ⟨bk2, off2, none⟩) seals.length d) ∧ W.cell? ⟨bk2, off2 + i, none⟩ = some (.string (bs seals[i])) ∧ Gr wa W) := sec (fun W g => by
            obtain ⟨b', o', e', h'⟩ := (HS.out.gr g).cell hsl2
            injection e' with e'; injection e' with e3 e4 _
            subst e3 e4
            exact ⟨(HCELL.out W g).1, (HCELL.out W g).2.2.2.2.2.2, h', g⟩)
          obtain ⟨mw, hmw⟩ : ∃ x, x = who[i] := ⟨_, rfl⟩
          obtain ⟨sl, hslx⟩ : ∃ x, x = seals[i] := ⟨_, rfl⟩
          try simp only at HGET
          rw [← hmw, ← hslx] at HGET
          rw [← hmw] at e0 hwz
          rw [← hslx] at HX1
          obtain ⟨a, rfl⟩ : ∃ a : Nat, mw = (a : Int) := ⟨mw.toNat, by omega⟩
          have HII := sec hlt
          have hkl := HKL.out
          clear hmw hslx hsl2 hwz
          obtain ⟨y0, y1, y2, -⟩ := HX1.out wr gw
          by_cases ham : a < m
          · have haw : a < ss.length := by omega
            have hgd : ss.getD (a : Int).toNat [] = ss[a] := by rw [Int.toNat_natCast, List.getD_eq_getElem?_getD, List.getElem?_eq_getElem haw]; rfl
            have HRG : Sec (rgB ss b (a : Int) sl = (seal' ss[a] b == sl)) := sec (by unfold rgB; rw [decide_eq_true (show (a : Int) < (ss.length : Int) by omega), hgd]; rfl)
            obtain ⟨bk3, off3, rfl, -⟩ := (HKR.out.gr gw).cell haw
            have hwsz := HSS.out ss[a] (List.getElem_mem haw)
            have HKP0 : Sec (∀ W, Gr wa W → W.cell? ⟨bk3, off3 + a, none⟩ = some (.string (bs ss[a]))) := sec (fun W g => by
              obtain ⟨b', o', e', h'⟩ := (HKR.out.gr g).cell haw
              injection e' with e'; injection e' with e3 e4 _
              subst e3 e4
              exact h')
            obtain ⟨key, hkey⟩ : ∃ key, key = ss[a] := ⟨_, rfl⟩
            rw [← hkey] at hwsz HRG HKP0
            have HSk := sec (fun W (g : Gr wa W) => HSe.out key hwsz W g)
            obtain ⟨sv, hsv⟩ : ∃ sv, sv = seal' key b := ⟨_, rfl⟩
            rw [← hsv] at HSk HRG
            have q0 : decide (a < m) = true := decide_eq_true ham
            have ham' : (a : Int) < (m : Int) := by omega
            have HKP : Sec (∀ W, Gr wa W → W.cell? ⟨p, 0, none⟩ = some (.slice (some ⟨bk3, off3, none⟩) m c0) ∧ W.cell? ⟨p + 1, 4, none⟩ = some (.slice (some ⟨bk2, off2, none⟩) seals.length d) ∧ W.cell? ⟨bk2, off2 + i, none⟩ = some (.string (bs sl)) ∧ W.cell? ⟨bk3, off3 + a, none⟩ = some (.string (bs key)) ∧ Gr wa W) := sec (fun W g => ⟨(HX1.out W g).1, (HX1.out W g).2.1, (HX1.out W g).2.2.1, HKP0.out W g, g⟩)
            have gd : Gr wa wr.drew := gw.drew
            clear hkey hsv hwsz hgd haw ham hkl
            by_cases hsl3 : sv = sl
            · have HNX : Sec (((rgL ss b ⟨r, o, n, who, seals⟩).take (i + 1)).count true = rt + 1) := sec (by rw [HCT.out, HAL.out, HGET.out, HRG.out, hsl3, if_pos (by simp)])
              subst hsl3
              go_wp2_with fail
              go_region_held3 (fun W => W.cell? ⟨p, 0, none⟩ = some (.slice (some ⟨bk3, off3, none⟩) m c0) ∧ W.cell? ⟨p + 1, 4, none⟩ = some (.slice (some ⟨bk2, off2, none⟩) seals.length d) ∧ W.cell? ⟨bk2, off2 + i, none⟩ = some (.string (bs sv)) ∧ W.cell? ⟨bk3, off3 + a, none⟩ = some (.string (bs key)) ∧ Gr wa W)
                (first | with_reducible assumption | with_reducible exact HKP.out _ gd | with_reducible exact HKP.out _ g4 | fail)
                (first
                  | (go_at_call 39; (with_reducible refine Calls.mono (HSk.out wr.drew gd) ?_); rintro e w4 ⟨rfl, g4'⟩; have g4 : Gr wa w4 := Gr.trans gd g4')
                  | fail)
              all_goals
                go_wp2_with fail
                go_roundg (gk - 1)
                case rel => exact ⟨i + 1, rt + 1, by go_num, by go_num, by omega, by omega, HII.out, HNX, g4⟩
                case measure => have := HII.out; omega
            · have hne : (sv == sl) = false := by rw [beq_eq_false_iff_ne]; exact hsl3
              have HNX : Sec (((rgL ss b ⟨r, o, n, who, seals⟩).take (i + 1)).count true = rt) := sec (by rw [HCT.out, HAL.out, HGET.out, HRG.out, hne]; rfl)
              clear hsl3
              go_wp2_with fail
              go_region_held3 (fun W => W.cell? ⟨p, 0, none⟩ = some (.slice (some ⟨bk3, off3, none⟩) m c0) ∧ W.cell? ⟨p + 1, 4, none⟩ = some (.slice (some ⟨bk2, off2, none⟩) seals.length d) ∧ W.cell? ⟨bk2, off2 + i, none⟩ = some (.string (bs sl)) ∧ W.cell? ⟨bk3, off3 + a, none⟩ = some (.string (bs key)) ∧ Gr wa W)
                (first | with_reducible assumption | with_reducible exact HKP.out _ gd | with_reducible exact HKP.out _ g4 | fail)
                (first
                  | (go_at_call 39; (with_reducible refine Calls.mono (HSk.out wr.drew gd) ?_); rintro e w4 ⟨rfl, g4'⟩; have g4 : Gr wa w4 := Gr.trans gd g4')
                  | fail)
              all_goals
                go_wp2_with fail
                go_roundg (gk - 1)
                case rel => exact ⟨i + 1, rt, by go_num, rfl, by omega, by omega, HII.out, HNX, g4⟩
                case measure => have := HII.out; omega
          · have HRG : Sec (rgB ss b (a : Int) sl = false) := sec (by unfold rgB; rw [decide_eq_false (show ¬ (a : Int) < (ss.length : Int) by omega)]; rfl)
            have HNX : Sec (((rgL ss b ⟨r, o, n, who, seals⟩).take (i + 1)).count true = rt) := sec (by rw [HCT.out, HAL.out, HGET.out, HRG.out]; rfl)
            have q0 : decide (a < m) = false := decide_eq_false ham
            clear ham hkl
            go_wp2_with fail
            go_quiet (fail)
            go_wp2_with fail
            go_roundg (gk - 1)
            case rel => exact ⟨i + 1, rt, by go_num, rfl, by omega, by omega, HII.out, HNX, Gr.drewN gw _⟩
            case measure => have := HII.out; omega
        · have HCA : Sec (rt < who.length ↔ (rgL ss b ⟨r, o, n, who, seals⟩).all id = false) := sec (by
            have h := HAL.out
            rw [List.take_of_length_le (by rw [HRL.out]; omega)] at h
            rw [← h, ← HRL.out]
            exact count_all _)
          obtain hE2 : i = who.length := by omega
          obtain ⟨y0, y1, y2, y3, y4, y5, y6⟩ := HCELL.out wr gw
          have q : decide (i < who.length) = false := decide_eq_false hlt
          have hrw : rt ≤ who.length := by omega
          clear hE2 hlt hik
          by_cases hr : rt < who.length
          · have q1 : decide (rt < who.length) = true := decide_eq_true hr
            have HV0 : Sec (V = 13) := sec (by rw [HV2.out, HCA.out.1 hr, if_neg (by simp)])
            clear hr
            go_wp2_with fail
            go_ret
            exact ⟨by rw [HV0.out]; rfl, hg0.trans gw⟩
          · have q1 : decide (rt < who.length) = false := decide_eq_false hr
            have HALL : Sec ((rgL ss b ⟨r, o, n, who, seals⟩).all id = true) := sec (by
              cases h : (rgL ss b ⟨r, o, n, who, seals⟩).all id
              · exact absurd (HCA.out.2 h) hr
              · rfl)
            by_cases hn : need ≤ (rt : Int)
            · have q2 : decide ((rt : Int) < need) = false := decide_eq_false (by omega)
              have HV0 : Sec (V = 0) := sec (by rw [HV2.out, if_pos ⟨HALL.out, by omega⟩])
              clear hr hn
              go_wp2_with fail
              go_ret
              exact ⟨by rw [HV0.out]; rfl, hg0.trans gw⟩
            · have q2 : decide ((rt : Int) < need) = true := decide_eq_true (by omega)
              have HV0 : Sec (V = 13) := sec (by rw [HV2.out, if_neg (fun h => by have := h.2; omega)])
              clear hr hn
              go_wp2_with fail
              go_ret
              exact ⟨by rw [HV0.out]; rfl, hg0.trans gw⟩
    · have HV0 : Sec (V = be) := sec (by rw [HV1.out, if_neg h1])
      have m0 : (be != 0) = true := by simpa using h1
      clear HVV HV1 HSE z4 z5 z6 z7
      go_enter Tryd.func34, Tryd.ntmps34
      go_upto_region 1 with fail
      rw [← hwa, ← hp]
      clear hwa hp
      go_wp2_with (first
        | (go_at_call 26; refine Calls.mono HGo.out ?_; rintro e w1 ⟨rfl, g1⟩; obtain ⟨v0, v1, v2, v3, v4, v5, v6⟩ := HCELL.out w1 g1)
        | (go_at_call 24; refine Calls.mono (HBo.out _) ?_; rintro e w2 ⟨rfl, g2'⟩))
      go_ret
      exact ⟨by rw [HV0.out]; rfl, hg0.trans (g1.trans g2')⟩
  · have HV0 : Sec (V = E) := sec (by rw [HVV.out, if_neg h0])
    have m0 : (E != 0) = true := by simpa using h0
    clear HVV HSE
    go_enter Tryd.func34, Tryd.ntmps34
    go_upto_region 1 with fail
    rw [← hwa, ← hp]
    clear hwa hp
    go_wp2_with (go_at_call 26; refine Calls.mono HGo.out ?_; rintro e w1 ⟨rfl, g1⟩)
    go_ret
    exact ⟨by rw [HV0.out]; rfl, hg0.trans g1⟩
end Go.Proofs.YtkgmimmneeppgaaDoor

namespace Go.Proofs.YtkgmimmneeppgaaDoor
set_option maxRecDepth 100000
open Go.RowKit Go.ChangeShapes Go.WideShapes
set_option linter.unusedVariables false

def n32 : List UInt8 := [48, 49, 50, 51, 52, 53, 54, 55, 56, 57, 97, 98, 99, 100, 101, 102, 48, 49, 50, 51, 52, 53, 54, 55, 56, 57, 97, 98, 99, 100, 101, 102]
def st0 : Stp := ⟨[97], [], n32, [], []⟩
def st1 (x : List UInt8) : Stp := ⟨[97], [], n32, [1], [x]⟩
theorem st0_sz : StSz 1099511627776 st0 := ⟨by decide, by decide, by decide, by decide, by decide, fun x h => by cases h⟩
theorem seal32 (key b : List UInt8) : (seal' key b).length = 32 := rfl
theorem st1_sz (x : List UInt8) (h : x.length = 32) : StSz 1099511627776 (st1 x) := ⟨st0_sz.r, st0_sz.o, st0_sz.n, by show (1 : Nat) ≤ _; omega, by show (1 : Nat) ≤ _; omega, fun y hy => by
  have : y = x := by simpa [st1] using hy
  subst this
  omega⟩
theorem st0_b : stB st0 = true := by decide
theorem st0_e : stE st0 = 0 := by decide
theorem st1_e (x : List UInt8) (h : x.length = 32) : stE (st1 x) = 0 := by
  have hb : stB (st1 x) = true := st0_b
  unfold stE
  rw [if_pos hb, if_neg (by show ¬ (8 < 1 ∨ ¬ 1 = 1); omega)]
  show stF (-1) [1] [x] = 0
  rw [stF_cons, if_neg (by omega), if_pos h]
  rfl
theorem st0_body : (bodyR 0 st0).2 = 0 := by
  unfold bodyR
  rw [if_neg (by omega), if_neg (by decide)]
theorem st1_body (x : List UInt8) : bodyR 0 (st1 x) = bodyR 0 st0 := rfl
theorem st0_sg : stSg st0 0 1 [107] = (st1 (seal' [107] (bodyR 0 st0).1), 0) := by
  unfold stSg
  rw [if_pos st0_e, if_pos st0_body, if_neg (by omega), if_neg (by decide)]
  rfl
theorem st1_rg (b x : List UInt8) (hx : x = seal' [107] b) : rgB [[], [107]] b 1 x = true := by
  have e : ([[], [107]] : List (List UInt8)).getD (1 : Int).toNat [] = [107] := rfl
  unfold rgB
  rw [e, hx, beq_self_eq_true]
  rfl
theorem st1_ck (b x : List UInt8) (hl : x.length = 32) (hb : (bodyR 0 st0).1 = b) (hx : x = seal' [107] b) : stCk [[], [107]] 1 0 (st1 x) = 0 := by
  have h1 := st1_rg b x hx
  clear hx
  unfold stCk
  rw [if_pos (st1_e _ hl), st1_body, if_pos st0_body, hb, if_pos]
  have e : rgL [[], [107]] b (st1 x) = [rgB [[], [107]] b 1 x] := rfl
  rw [e, h1]
  exact ⟨rfl, by show (1 : Int) ≤ ((1 : Nat) : Int); omega⟩
theorem row2 {W : World} {g : Nat} {T : TypeId} {u v : Value} (h : Blk W g T #[u, v]) : Row W 1 (some ⟨g, 0, none⟩) 2 [u, v] := by
  refine ⟨by simp, fun _ => ⟨g, 0, rfl, fun i v hi => ?_⟩⟩
  have := h.cell i
  rw [Nat.zero_add, this]
  simpa using hi
theorem k2_len : ∀ y ∈ ([[], [107]] : List (List UInt8)), y.length ≤ 1099511627776 := by
  intro y hy
  simp only [List.mem_cons, List.not_mem_nil, or_false] at hy
  rcases hy with rfl | rfl <;> decide
set_option maxHeartbeats 4000000 in
theorem steps_any (w : World) (hT : TabK w) : Calls Tryd.prog 27 #[] w fun e w' => e = .returned (.bool true) ∧ Gr w w' := by
  obtain ⟨x, hx⟩ : ∃ x, x = seal' [107] (bodyR 0 st0).1 := ⟨_, rfl⟩
  have hl : x.length = 32 := by rw [hx]; exact seal32 _ _
  have hck := st1_ck (bodyR 0 st0).1 x hl rfl hx
  have HSg := sec (sign_any st0 0 1 [107] none 0 none 0 w ⟨Row.nil w 1 none, Row.nil w 1 none, fun _ => ⟨rfl, rfl⟩, fun _ => ⟨rfl, rfl⟩, Nat.le_refl _, Nat.le_refl _⟩ st0_sz (fun ad h => by cases h) (fun ad h => by cases h) hT (by decide))
  rw [st0_sg, ← hx] at HSg
  have HCk : Sec (∀ (W : World) (A0 : Option Addr) (m' c0 d0 : Nat) (A : Option Addr) (c : Nat) (B : Option Addr) (d : Nat), Gr w W → StrRow W A0 2 [[], [107]] → StR W (st1 x) A c B d → Calls Tryd.prog 33 #[.agg (keysA A0 2 c0 none 0 d0 1), .int .i64 0, .agg (stepA (st1 x) A c B d)] W fun e w' => e = .returned (.int .i64 0) ∧ Gr W w') := sec (fun W A0 m' c0 d0 A c B d g hK hR => by
    have := stCheck_any A0 2 c0 none 0 d0 1 [[], [107]] 0 (st1 x) A c B d W hK (by omega) k2_len hR (st1_sz x hl) (hT.gr g)
    rwa [hck] at this)
  clear hck hx hl hT
  unfold keysA at HCk
  unfold st0 at HSg
  have e1 : ∀ A c B d, stepA (st1 x) A c B d = #[.string (bs [97]), .string (bs []), .string (bs n32), .slice A 1 c, .slice B 1 d] := fun _ _ _ _ => rfl
  go_enter Tryd.func27, Tryd.ntmps27
  go_upto_region 2 with (first
    | (go_at_call 31; refine Calls.mono HSg.out ?_; rintro e w1 ⟨A1, c1, B1, d1, rfl, R1, g1⟩)
    | (refine wpList_store_blk rfl 46 (.tmp 1) (.tmp 6) rfl (g := w1.heap.size) (cs' := stepA (st1 x) A1 c1 B1 d1) rfl rfl (Blk.new w1 _ _) aggStep rfl (stepA_one _ _ _ _ _) ?_; intro w2 h2 hg2))
  have G2 : Gr w w2 := Gr.only (g1.alloc _) hg2 g1.size
  have R2 : StR w2 (st1 x) A1 c1 B1 d1 := R1.gr (Gr.only ((Gr.refl w1).alloc _) hg2 (Nat.le_refl _))
  obtain ⟨p, hp⟩ : ∃ p, p = w1.heap.size := ⟨_, rfl⟩
  rw [← hp] at h2
  rw [← hp]
  have HSK : Sec (∀ w', Gr w2 w' → w'.cell? ⟨p, 0, none⟩ = some (.string (bs [97])) ∧ w'.cell? ⟨p, 1, none⟩ = some (.string (bs [])) ∧ w'.cell? ⟨p, 2, none⟩ = some (.string (bs n32)) ∧ w'.cell? ⟨p, 3, none⟩ = some (.slice A1 1 c1) ∧ w'.cell? ⟨p, 4, none⟩ = some (.slice B1 1 d1) ∧ Gr w2 w') := sec (fun w' g => ⟨(h2.gr g).cell 0, (h2.gr g).cell 1, (h2.gr g).cell 2, (h2.gr g).cell 3, (h2.gr g).cell 4, g⟩)
  have HC : Sec (∀ (W : World) (A0 : Option Addr) (m' c0 d0 : Nat), Gr w2 W → StrRow W A0 2 [[], [107]] → Calls Tryd.prog 33 #[.agg #[.slice A0 2 c0, .slice none 0 d0, .int .i64 1], .int .i64 0, .agg #[.string (bs [97]), .string (bs []), .string (bs n32), .slice A1 1 c1, .slice B1 1 d1]] W fun e w' => e = .returned (.int .i64 0) ∧ Gr W w') := sec (fun W A0 m' c0 d0 g hK => HCk.out W A0 m' c0 d0 A1 c1 B1 d1 (G2.trans g) hK (R2.gr g))
  have HG2 := sec G2
  have HB := sec h2
  clear h2 hg2 R1 R2 g1 hp G2 HCk HSg e1
  have gd : Gr w2 w2 := Gr.refl _
  obtain ⟨x0, x1, x2, x3, x4, _⟩ := HSK.out _ gd
  have hlt : p < w2.heap.size := HB.out.lt
  go_wp2_with (first
      | (go_at_call 33; (refine Calls.mono (HC.out _ _ 0 _ _ (gd.alloc _) (row2 (Blk.new _ _ _))) ?_); rintro e w3 ⟨rfl, g3⟩; have G3 : Gr w2 w3 := Gr.trans (gd.alloc _) g3)
      | fail)
  go_ret
  exact ⟨rfl, HG2.out.trans G3⟩
end Go.Proofs.YtkgmimmneeppgaaDoor

namespace Go.Proofs.YtkgmimmneeppgaaDoor
set_option maxRecDepth 100000
open Go.RowKit Go.ChangeShapes Go.WideShapes
set_option linter.unusedVariables false

set_option maxHeartbeats 8000000 in
theorem stepChecks_walk (A0 : Option Addr) (c0 : Nat) (B0 : Option Addr) (d0 : Nat) (need : Int) (ss ws : List (List UInt8)) (at_ : Int) (s : Stp) (A : Option Addr) (c : Nat) (B : Option Addr) (d : Nat) (W : World)
    (hK : StrsIn W A0 c0 ss ∧ StrsIn W B0 d0 ws) (hS : StepIn W s A c B d) (hT : TabK W) :
    Calls Tryd.prog 8 #[.agg (keysA A0 ss.length c0 B0 ws.length d0 need), .int .i64 at_, .agg (stepA s A c B d)] W fun e W' => e = .returned (.bool true) ∧ Gr W W' := by
  obtain ⟨h1, h2⟩ := hK
  have hl1 := h1.len
  have hl2 := h2.len
  obtain ⟨hR, hz⟩ := hS
  have hz := hz.up (k' := 1099511627776) (by omega)
  obtain ⟨wa, hwa⟩ : ∃ x, x = (W.alloc (.cells (keysA A0 ss.length c0 B0 ws.length d0 need) 24)).alloc (.cells (stepA s A c B d) 46) := ⟨_, rfl⟩
  have hk : Blk wa W.heap.size 24 (keysA A0 ss.length c0 B0 ws.length d0 need) := by rw [hwa]; exact (Blk.new W _ _).alloc _
  have hb : Blk wa (W.heap.size + 1) 46 (stepA s A c B d) := by rw [hwa]; exact Blk.new1 W _ _ _
  have hg0 : Gr W wa := by rw [hwa]; exact ((Gr.refl W).alloc _).alloc _
  obtain ⟨p, hp⟩ : ∃ p, p = W.heap.size := ⟨_, rfl⟩
  rw [← hp] at hk hb
  have HKy : Sec (∀ w', Gr wa w' → Calls Tryd.prog 10 #[.agg (keysA A0 ss.length c0 B0 ws.length d0 need)] w' fun e w'' => ∃ A' c' B' d', e = .returned (.agg (keysA A' ss.length c' B' ws.length d' need)) ∧ StrRow w'' A' ss.length ss ∧ Gr w' w'') := sec (fun w' g => (keys_any A0 ss.length c0 B0 ws.length d0 need ss ws w' (by omega) (by omega) ((h1.row.gr hg0).gr g) h1.nil ((h2.row.gr hg0).gr g) h2.nil).mono fun e w'' ⟨A', c', B', d', he, hr1, _, _, _, hg⟩ => ⟨A', c', B', d', he, hr1, hg⟩)
  have HCp : Sec (∀ w', Gr wa w' → Calls Tryd.prog 21 #[.agg (stepA s A c B d)] w' fun e w'' => ∃ A' c' B' d', e = .returned (.agg (stepA s A' c' B' d')) ∧ StR w'' s A' c' B' d' ∧ Gr w' w'') := sec (fun w' g => (copyStep_any s A c B d w' ((hR.gr hg0).gr g) hz).mono fun e w'' ⟨A', c', B', d', he, h1, _, _, h2⟩ => ⟨A', c', B', d', he, h1, h2⟩)
  have HCk : Sec (∀ w' A1 c1 B1 d1 A' c' B' d', Gr wa w' → StrRow w' A1 ss.length ss → StR w' s A' c' B' d' → Calls Tryd.prog 33 #[.agg (keysA A1 ss.length c1 B1 ws.length d1 need), .int .i64 at_, .agg (stepA s A' c' B' d')] w' fun e w'' => e = .returned (.int .i64 (stCk ss need at_ s)) ∧ Gr w' w'') := sec (fun w' A1 c1 B1 d1 A' c' B' d' g hy hx => stCheck_any A1 ss.length c1 B1 ws.length d1 need ss at_ s A' c' B' d' w' hy (by omega) (fun x hx => by have := h1.size x hx; omega) hx hz ((hT.gr hg0).gr g))
  have HRk : Sec (∀ w', Gr wa w' → Calls Tryd.prog 34 #[.agg (keysA A0 ss.length c0 B0 ws.length d0 need), .int .i64 at_, .agg (stepA s A c B d)] w' fun e w'' => e = .returned (.int .i64 (stCk ss need at_ s)) ∧ Gr w' w'') := sec (fun w' g => rstCheck_any A0 ss.length c0 B0 ws.length d0 need ss at_ s A c B d w' ((h1.row.gr hg0).gr g) (by omega) (fun x hx => by have := h1.size x hx; omega) ((hR.gr hg0).gr g) hz ((hT.gr hg0).gr g))
  have HSt : Sec (∀ w', Gr wa w' → Calls Tryd.prog 27 #[] w' fun e w'' => e = .returned (.bool true) ∧ Gr w' w'') := sec (fun w' g => steps_any w' ((hT.gr hg0).gr g))
  obtain ⟨E, hE⟩ : ∃ E, E = stCk ss need at_ s := ⟨_, rfl⟩
  rw [← hE] at HCk HRk
  obtain ⟨n, hn'⟩ : ∃ n, n = ss.length := ⟨_, rfl⟩
  obtain ⟨m, hm'⟩ : ∃ m, m = ws.length := ⟨_, rfl⟩
  rw [← hn', ← hm'] at HCk HRk HKy hk hwa
  rw [← hn', ← hm']
  have HSK : Sec (∀ w', Gr wa w' → w'.cell? ⟨p, 0, none⟩ = some (.slice A0 n c0) ∧ w'.cell? ⟨p, 1, none⟩ = some (.slice B0 m d0) ∧ w'.cell? ⟨p, 2, none⟩ = some (.int .i64 need) ∧ w'.cell? ⟨p + 1, 0, none⟩ = some (.string (bs s.r)) ∧ w'.cell? ⟨p + 1, 1, none⟩ = some (.string (bs s.o)) ∧ w'.cell? ⟨p + 1, 2, none⟩ = some (.string (bs s.n)) ∧ w'.cell? ⟨p + 1, 3, none⟩ = some (.slice A s.who.length c) ∧ w'.cell? ⟨p + 1, 4, none⟩ = some (.slice B s.seals.length d) ∧ Gr wa w') := sec (fun w' g => ⟨(hk.gr g).cell 0, (hk.gr g).cell 1, (hk.gr g).cell 2, (hb.gr g).cell 0, (hb.gr g).cell 1, (hb.gr g).cell 2, (hb.gr g).cell 3, (hb.gr g).cell 4, g⟩)
  clear hE hn' hm' hk hb hR hz hT h1 h2 hl1 hl2
  unfold keysA stepA at hwa HCk HRk
  unfold keysA at HKy
  unfold stepA at HCp
  unfold keysA stepA
  obtain ⟨r, o, nn, who, seals⟩ := s
  go_enter Tryd.func8, Tryd.ntmps8
  go_upto_region 1 with fail
  rw [← hwa, ← hp]
  clear hwa hp
  have gd : Gr wa wa.drew := (Gr.refl _).drew
  go_region_held3 (fun w' => w'.cell? ⟨p, 0, none⟩ = some (.slice A0 n c0) ∧ w'.cell? ⟨p, 1, none⟩ = some (.slice B0 m d0) ∧ w'.cell? ⟨p, 2, none⟩ = some (.int .i64 need) ∧ w'.cell? ⟨p + 1, 0, none⟩ = some (.string (bs r)) ∧ w'.cell? ⟨p + 1, 1, none⟩ = some (.string (bs o)) ∧ w'.cell? ⟨p + 1, 2, none⟩ = some (.string (bs nn)) ∧ w'.cell? ⟨p + 1, 3, none⟩ = some (.slice A who.length c) ∧ w'.cell? ⟨p + 1, 4, none⟩ = some (.slice B seals.length d) ∧ Gr wa w')
    (first | with_reducible assumption | with_reducible exact HSK.out _ gd | with_reducible exact HSK.out _ G1 | with_reducible exact HSK.out _ G2 | with_reducible exact HSK.out _ G3 | with_reducible exact HSK.out _ G4 | with_reducible exact HSK.out _ G5 | fail)
    (first
      | (go_at_call 10; (with_reducible refine Calls.mono (HKy.out _ gd) ?_); rintro e w1 ⟨A1, c1, B1, d1, rfl, r1, g1⟩; have G1 : Gr wa w1 := Gr.trans gd g1)
      | (go_at_call 21; (with_reducible refine Calls.mono (HCp.out _ G1) ?_); rintro e w2 ⟨A2, c2, B2, d2, rfl, r2, g2⟩; have G2 : Gr wa w2 := Gr.trans G1 g2)
      | (go_at_call 33; (with_reducible refine Calls.mono (HCk.out _ _ _ _ _ _ _ _ _ G2 (r1.gr g2) r2) ?_); rintro e w3 ⟨rfl, g3⟩; have G3 : Gr wa w3 := Gr.trans G2 g3)
      | (go_at_call 34; (with_reducible refine Calls.mono (HRk.out _ G3) ?_); rintro e w4 ⟨rfl, g4⟩; have G4 : Gr wa w4 := Gr.trans G3 g4)
      | (go_at_call 27; (with_reducible refine Calls.mono (HSt.out _ G4) ?_); rintro e w5 ⟨rfl, g5⟩; have G5 : Gr wa w5 := Gr.trans G4 g5)
      | fail)
  all_goals (go_wp2_with fail; go_ret; exact ⟨rfl, hg0.trans G5⟩)
end Go.Proofs.YtkgmimmneeppgaaDoor

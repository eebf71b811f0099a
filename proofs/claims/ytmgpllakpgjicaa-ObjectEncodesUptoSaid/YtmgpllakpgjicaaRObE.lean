/-
  cartularyref.Encode by its contract.
-/
import Derived.Test.YtmgpllakpgjicaaObE
import Derived.Test.YtmgpllakpgjicaaRObG
import Derived.Test.YtmgpllakpgjicaaWireA
import Derived.Deep.RegionHeld3
namespace Go.Proofs.Ytmgpllakpgjicaa
set_option maxRecDepth 100000
open Go.RowKit
set_option linter.unusedVariables false
set_option maxHeartbeats 32000000 in
theorem robEncode_any (o : Ob) (A : Option Addr) (c : Nat) (B : Option Addr) (d : Nat) (w : World) (hR : ObR w o A c B d) (hz : ObSz 1099511627776 o) :
    Calls Try.prog 6 #[.agg (obA o A c B d)] w fun e w' => e = .returned (.tuple #[.string (bs (obEnc o).1), .int .i64 (obEnc o).2]) ∧ Gr w w' := by
  have hel := hz.ents
  have hpl := hz.pars
  obtain ⟨wa, hwa⟩ : ∃ x, x = w.alloc (.cells (obA o A c B d) 25) := ⟨_, rfl⟩
  have hb : Blk wa w.heap.size 25 (obA o A c B d) := by rw [hwa]; exact Blk.new w _ _
  have hg0 : Gr w wa := by rw [hwa]; exact (Gr.refl w).alloc _
  have HEN := sec (hR.ents.gr hg0)
  have HPA := sec (hR.pars.gr hg0)
  obtain ⟨p, hp⟩ : ∃ p, p = w.heap.size := ⟨_, rfl⟩
  rw [← hp] at hb
  have HGo : Sec (Calls Try.prog 8 #[.agg (obA o A c B d)] wa fun e w' => e = .returned (.int .i64 (obE o)) ∧ Gr wa w') := sec (robGood_any o A c B d wa (hR.gr hg0) hz)
  by_cases hE : obE o = 0
  · have hok := obE_zero hE
    have HR : Sec (obEnc o = if 8192 < (obS o).length then ([], 1) else (obS o, 0)) := sec (by unfold obEnc; rw [if_pos hE])
    have hlen := obS_le hok
    have HEB := sec hok.each
    have HPB := sec hok.peach
    have hk1 := hok.kind
    rw [hE] at HGo
    have HNk := sec (fun w => number_any o.kind w)
    have HTd := sec (fun w => text_any o.data w (by have := hok.data; omega))
    have HNe := sec (fun w => number_any (o.ents.length : Int) w)
    have HNp := sec (fun w => number_any (o.pars.length : Int) w)
    have HTw := sec (fun w => text_any o.who w (by have := hok.who; omega))
    have HNt := sec (fun w => number_any o.time w)
    have HTn := sec (fun w => text_any o.note w (by have := hok.note; omega))
    have HX : Sec (∀ x ∈ o.ents, (∀ w, Calls Try.prog 18 #[.string (bs x.nm)] w fun e w' => e = .returned (.string (bs (txt x.nm))) ∧ Gr w w')) := sec (fun x hx w => text_any x.nm w (by have := (hok.each x hx).1; omega))
    have HN01 := sec (fun (n : Int) w => number_any n w)
    have l1 := numS_le (n := o.kind)
    have l2 := txt_le o.data (by have := hok.data; omega)
    have l3 := numS_le (n := (o.ents.length : Int))
    have l4 := hok.tree
    have l5 := numS_le (n := (o.pars.length : Int))
    have l6 := txt_le o.who (by have := hok.who; omega)
    have l7 := numS_le (n := o.time)
    have l8 := txt_le o.note (by have := hok.note; omega)
    have l9 := hok.target
    have la := hok.data
    have lb := hok.who
    have lc := hok.note
    have LEN : Sec (∀ i, (enSs (o.ents.take i)).length ≤ 7040) := sec (fun i => by
      have h1 := enSs_le (o.ents.take i) (fun x hx => hok.each x (List.mem_of_mem_take hx))
      have h2 : (o.ents.take i).length ≤ 64 := by rw [List.length_take]; have := hok.ents; omega
      omega)
    have LPN : Sec (∀ i, ((o.pars.take i).flatten).length ≤ 128) := sec (fun i => by
      have h1 := flat32_le (o.pars.take i) (fun x hx => hok.peach x (List.mem_of_mem_take hx))
      have h2 : (o.pars.take i).length ≤ 4 := by rw [List.length_take]; have := hok.pars; omega
      omega)
    obtain ⟨V, hV⟩ : ∃ V, V = obEnc o := ⟨_, rfl⟩
    rw [← hV] at HR ⊢
    clear hV hE hz hR hok
    obtain ⟨kd, dt, en, tr, pa, wh, no, ti, ta⟩ := o
    simp only at HEN HPA HNk HTd HNe HNp HTw HNt HTn HX l1 l2 l3 l4 l5 l6 l7 l8 l9 la lb lc LEN LPN HEB HPB hel hpl hk1
    unfold obA at hb hwa HGo
    unfold obA
    simp only at hb hwa HGo ⊢
    have HCELL : Sec (∀ w', Gr wa w' → w'.cell? ⟨p, 0, none⟩ = some (.int .i64 kd) ∧ w'.cell? ⟨p, 1, none⟩ = some (.string (bs dt)) ∧ w'.cell? ⟨p, 2, none⟩ = some (.slice A en.length c) ∧ w'.cell? ⟨p, 3, none⟩ = some (.string (bs tr)) ∧ w'.cell? ⟨p, 4, none⟩ = some (.slice B pa.length d) ∧ w'.cell? ⟨p, 5, none⟩ = some (.string (bs wh)) ∧ w'.cell? ⟨p, 6, none⟩ = some (.string (bs no)) ∧ w'.cell? ⟨p, 7, none⟩ = some (.int .i64 ti) ∧ w'.cell? ⟨p, 8, none⟩ = some (.string (bs ta))) := sec (fun w' g => ⟨(hb.gr g).cell 0, (hb.gr g).cell 1, (hb.gr g).cell 2, (hb.gr g).cell 3, (hb.gr g).cell 4, (hb.gr g).cell 5, (hb.gr g).cell 6, (hb.gr g).cell 7, (hb.gr g).cell 8⟩)
    clear hb
    go_enter Try.func6, Try.ntmps6
    go_upto_region 1 with fail
    rw [← hwa, ← hp]
    clear hwa hp
    obtain ⟨c0, c1, c2, c3, c4, c5, c6, c7, c8⟩ := HCELL.out wa (Gr.refl _)
    have HRS : Sec (obS ⟨kd, dt, en, tr, pa, wh, no, ti, ta⟩ = numS kd ++ obB ⟨kd, dt, en, tr, pa, wh, no, ti, ta⟩) := sec rfl
    obtain ⟨S, hS⟩ : ∃ S, S = obS ⟨kd, dt, en, tr, pa, wh, no, ti, ta⟩ := ⟨_, rfl⟩
    rw [← hS] at HR HRS hlen
    have HB1 : Sec (kd = 1 → S = numS kd ++ txt dt) := sec (fun h => by rw [HRS.out]; unfold obB; rw [if_pos h])
    have HB2 : Sec (kd = 2 → S = numS kd ++ (numS (en.length : Int) ++ enSs en)) := sec (fun h => by rw [HRS.out]; unfold obB; rw [if_neg (by simp only; omega), if_pos h])
    have HB3 : Sec (kd = 3 → S = numS kd ++ (tr ++ (numS (pa.length : Int) ++ (pa.flatten ++ (txt wh ++ (numS ti ++ txt no)))))) := sec (fun h => by rw [HRS.out]; unfold obB; rw [if_neg (by simp only; omega), if_neg (by simp only; omega), if_pos h])
    have HB4 : Sec (kd = 4 → S = numS kd ++ (ta ++ (txt wh ++ txt no))) := sec (fun h => by rw [HRS.out]; unfold obB; rw [if_neg (by simp only; omega), if_neg (by simp only; omega), if_neg (by simp only; omega)])
    clear hS HRS
    obtain ⟨N0, h0⟩ : ∃ x, x = numS kd := ⟨_, rfl⟩
    rw [← h0] at HNk l1 HB1 HB2 HB3 HB4
    obtain ⟨T1, h1⟩ : ∃ x, x = txt dt := ⟨_, rfl⟩
    rw [← h1] at HTd l2 HB1
    obtain ⟨N2, h2⟩ : ∃ x, x = numS (en.length : Int) := ⟨_, rfl⟩
    rw [← h2] at HNe l3 HB2
    obtain ⟨N3, h3⟩ : ∃ x, x = numS (pa.length : Int) := ⟨_, rfl⟩
    rw [← h3] at HNp l5 HB3
    obtain ⟨T2, h4⟩ : ∃ x, x = txt wh := ⟨_, rfl⟩
    rw [← h4] at HTw l6 HB3 HB4
    obtain ⟨N4, h5⟩ : ∃ x, x = numS ti := ⟨_, rfl⟩
    rw [← h5] at HNt l7 HB3
    obtain ⟨T3, h6⟩ : ∃ x, x = txt no := ⟨_, rfl⟩
    rw [← h6] at HTn l8 HB3 HB4
    clear h0 h1 h2 h3 h4 h5 h6
    go_upto_region 5 with (first
      | (go_at_call 8; (with_reducible refine Calls.mono HGo.out ?_); rintro e w1 ⟨rfl, g1⟩; obtain ⟨v0, v1, v2, v3, v4, v5, v6, v7, v8⟩ := HCELL.out w1 g1)
      | (go_at_call 17; (with_reducible refine Calls.mono (HNk.out _) ?_); rintro e w2 ⟨rfl, g2'⟩; have g2 : Gr wa w2 := Gr.trans g1 g2'))
    clear c0 c1 c2 c3 c4 c5 c6 c7 c8 v0 v1 v2 v3 v4 v5 v6 v7 v8 HGo g1 g2'
    obtain ⟨c0, c1, c2, c3, c4, c5, c6, c7, c8⟩ := HCELL.out w2 g2
    rcases (by omega : kd = 1 ∨ kd = 2 ∨ kd = 3 ∨ kd = 4) with rfl | rfl | rfl | rfl
    · have HSL := HB1.out (by trivial)
      have m0 : ¬ 9223372036854775807 < N0.length + T1.length := by omega
      rw [HSL] at HR
      by_cases h8 : 8192 < (N0 ++ T1).length
      · exfalso
        simp only [List.length_append] at h8
        omega
      · skip
        have HV1 : Sec (V = (N0 ++ T1, 0)) := sec (by rw [HR.out, if_neg h8])
        have q8 : ¬ (8192 : Int) < ((N0 ++ T1).length : Int) := by omega
        simp only [List.length_append, Int.natCast_add] at q8
        have q9 : ¬ 8192 < (N0 ++ T1).length := h8
        simp only [List.length_append] at q9
        clear h8 HR
        go_wp2_with (go_at_call 18; (with_reducible refine Calls.mono (HTd.out _) ?_); rintro e w3 ⟨rfl, w3x⟩; have g3 : Gr wa w3 := Gr.trans g2 w3x)
        go_ret2
        exact ⟨by rw [HV1.out]; rfl, hg0.trans g3⟩
    · have HSL := HB2.out (by trivial)
      have m0 : ¬ 9223372036854775807 < N0.length + N2.length := by omega
      go_upto_region 11 with (go_at_call 17; (with_reducible refine Calls.mono (HNe.out _) ?_); rintro e w3 ⟨rfl, w3x⟩; have g3 : Gr wa w3 := Gr.trans g2 w3x)
      clear c0 c1 c2 c3 c4 c5 c6 c7 c8
      obtain ⟨c0, c1, c2, c3, c4, c5, c6, c7, c8⟩ := HCELL.out w3 g3
      go_wp2_with fail
      clear c0 c1 c2 c3 c4 c5 c6 c7 c8
      go_loopg [51, 5, 7, 8] en.length (fun fuel iv sv _ _ wr => ∃ i : Nat, iv = .int .i64 (i : Int) ∧ sv = .string (bs (N0 ++ (N2 ++ enSs (en.take i)))) ∧ en.length ≤ i + fuel ∧ i ≤ en.length ∧ Gr wa wr)
      case atStart => exact ⟨0, rfl, by simp [enSs], by omega, by omega, g3⟩
      case round =>
        clear g2 g3 w3x
        obtain ⟨i, rfl, rfl, hik, hi, gw⟩ := hrel
        obtain ⟨c0, c1, c2, c3, c4, c5, c6, c7, c8⟩ := HCELL.out wr gw
        by_cases hlt : i < en.length
        · have hii : (i : Int) < (en.length : Int) := by omega
          obtain ⟨b, off, rfl, e0, e1, e2⟩ := (HEN.out.gr gw).cell hlt
          have HSU := sec (enSs_take en i hlt)
          have HXi := HX.out _ (List.getElem_mem hlt)
          have hxb := HEB.out _ (List.getElem_mem hlt)
          have hln := LEN.out i
          obtain ⟨x, hxx⟩ : ∃ x, x = en[i] := ⟨_, rfl⟩
          rw [← hxx] at e0 e1 e2 HSU HXi hxb
          obtain ⟨L, hL⟩ : ∃ L, L = enSs (en.take i) := ⟨_, rfl⟩
          rw [← hL] at HSU hln ⊢
          have HLT := sec hlt
          clear hxx hlt hL
          obtain ⟨nm, dr, id⟩ := x
          simp only at e0 e1 e2 HSU HXi hxb
          have HX1 := sec HXi
          have lx1 := txt_le nm (by omega)
          have lx3 : id.length ≤ 32 := by omega
          have lx4 : nm.length ≤ 60 := hxb.1
          clear HXi hxb
          obtain ⟨E1, hE1⟩ : ∃ x, x = txt nm := ⟨_, rfl⟩
          have HSU1 : Sec (enSs (en.take (i + 1)) = L ++ (E1 ++ (numS (if dr then 1 else 0) ++ id))) := sec (by rw [HSU.out, hE1]; rfl)
          rw [← hE1] at HX1 lx1
          clear hE1 HSU
          go_upto_region 14 with fail
          have hFB := Blk.new wr 42 #[.string (bs nm), .bool dr, .string (bs id)]
          have gx := gw.alloc (.cells #[.string (bs nm), .bool dr, .string (bs id)] 42)
          obtain ⟨wx, hwx⟩ : ∃ x, x = wr.alloc (.cells #[.string (bs nm), .bool dr, .string (bs id)] 42) := ⟨_, rfl⟩
          obtain ⟨q, hq⟩ : ∃ q, q = wr.heap.size := ⟨_, rfl⟩
          rw [← hwx] at hFB gx
          rw [← hq] at hFB
          rw [← hwx, ← hq]
          have HXC : Sec (∀ w', Gr wx w' → w'.cell? ⟨q, 0, none⟩ = some (.string (bs nm)) ∧ w'.cell? ⟨q, 2, none⟩ = some (.string (bs id)) ∧ Gr wx w') := sec (fun w' g => ⟨(hFB.gr g).cell 0, (hFB.gr g).cell 2, g⟩)
          have x1 := hFB.cell 1
          clear hwx hq e0 e1 e2 gw hFB c0 c1 c2 c3 c4 c5 c6 c7 c8
          cases dr with
          | true =>
            have HN1 := sec (HN01.out (1 : Int))
            have lx2 : (numS (1 : Int)).length ≤ 9 := numS_le
            have HSU2 : Sec (enSs (en.take (i + 1)) = L ++ (E1 ++ (numS (1 : Int) ++ id))) := sec HSU1.out
            obtain ⟨E2, hE2⟩ : ∃ x, x = numS (1 : Int) := ⟨_, rfl⟩
            rw [← hE2] at HN1 lx2 HSU2
            clear HSU1 hE2
            have m0 : ¬ 9223372036854775807 < E1.length + E2.length := by omega
            have m1 : ¬ 9223372036854775807 < E1.length + E2.length + id.length := by omega
            have m2 : ¬ 9223372036854775807 < E1.length + (E2.length + id.length) := by omega
            have m3 : ¬ 9223372036854775807 < N0.length + (N2.length + L.length) + (E1.length + (E2.length + id.length)) := by omega
            have m4 : ¬ 9223372036854775807 < N0.length + (N2.length + (L.length + (E1.length + (E2.length + id.length)))) := by omega
            have m5 : ¬ 9223372036854775807 < N0.length + (N2.length + L.length) + (E1.length + E2.length + id.length) := by omega
            go_upto_region 17 with fail
            have gd : Gr wx wx.drew := (Gr.refl _).drew
            clear x1
            go_region_held3 (fun w' => w'.cell? ⟨q, 0, none⟩ = some (.string (bs nm)) ∧ w'.cell? ⟨q, 2, none⟩ = some (.string (bs id)) ∧ Gr wx w')
              (first | with_reducible assumption | with_reducible exact HXC.out _ gd | with_reducible exact HXC.out _ G1 | with_reducible exact HXC.out _ G2 | fail)
              (first
                | (go_at_call 18; (with_reducible refine Calls.mono (HX1.out _) ?_); rintro e w5 ⟨rfl, f5⟩; have G1 : Gr wx w5 := Gr.trans gd f5)
                | (go_at_call 17; (with_reducible refine Calls.mono (HN1.out _) ?_); rintro e w6 ⟨rfl, f6⟩; have G2 : Gr wx w6 := Gr.trans G1 f6)
                | fail)
            all_goals
              go_wp2_with fail
              go_roundg (gk - 1)
              case rel => exact ⟨i + 1, by go_num, by rw [HSU2.out], by have := HLT.out; omega, HLT.out, gx.trans G2⟩
              case measure => have := HLT.out; omega
          | false =>
            have HN1 := sec (HN01.out (0 : Int))
            have lx2 : (numS (0 : Int)).length ≤ 9 := numS_le
            have HSU2 : Sec (enSs (en.take (i + 1)) = L ++ (E1 ++ (numS (0 : Int) ++ id))) := sec HSU1.out
            obtain ⟨E2, hE2⟩ : ∃ x, x = numS (0 : Int) := ⟨_, rfl⟩
            rw [← hE2] at HN1 lx2 HSU2
            clear HSU1 hE2
            have m0 : ¬ 9223372036854775807 < E1.length + E2.length := by omega
            have m1 : ¬ 9223372036854775807 < E1.length + E2.length + id.length := by omega
            have m2 : ¬ 9223372036854775807 < E1.length + (E2.length + id.length) := by omega
            have m3 : ¬ 9223372036854775807 < N0.length + (N2.length + L.length) + (E1.length + (E2.length + id.length)) := by omega
            have m4 : ¬ 9223372036854775807 < N0.length + (N2.length + (L.length + (E1.length + (E2.length + id.length)))) := by omega
            have m5 : ¬ 9223372036854775807 < N0.length + (N2.length + L.length) + (E1.length + E2.length + id.length) := by omega
            go_upto_region 17 with fail
            have gd : Gr wx wx.drew := (Gr.refl _).drew
            clear x1
            go_region_held3 (fun w' => w'.cell? ⟨q, 0, none⟩ = some (.string (bs nm)) ∧ w'.cell? ⟨q, 2, none⟩ = some (.string (bs id)) ∧ Gr wx w')
              (first | with_reducible assumption | with_reducible exact HXC.out _ gd | with_reducible exact HXC.out _ G1 | with_reducible exact HXC.out _ G2 | fail)
              (first
                | (go_at_call 18; (with_reducible refine Calls.mono (HX1.out _) ?_); rintro e w5 ⟨rfl, f5⟩; have G1 : Gr wx w5 := Gr.trans gd f5)
                | (go_at_call 17; (with_reducible refine Calls.mono (HN1.out _) ?_); rintro e w6 ⟨rfl, f6⟩; have G2 : Gr wx w6 := Gr.trans G1 f6)
                | fail)
            all_goals
              go_wp2_with fail
              go_roundg (gk - 1)
              case rel => exact ⟨i + 1, by go_num, by rw [HSU2.out], by have := HLT.out; omega, HLT.out, gx.trans G2⟩
              case measure => have := HLT.out; omega
        · have hE : i = en.length := by omega
          have hii : ¬ (i : Int) < (en.length : Int) := by omega
          have q : decide (i < en.length) = false := decide_eq_false hlt
          rw [List.take_of_length_le (by omega : en.length ≤ i)]
          have hln := LEN.out en.length
          rw [List.take_length] at hln
          obtain ⟨L, hL⟩ : ∃ L, L = enSs en := ⟨_, rfl⟩
          rw [← hL] at HSL hln ⊢
          rw [HSL] at HR
          clear hlt hik hi hL HX HEN hE
          by_cases h8 : 8192 < (N0 ++ (N2 ++ L)).length
          · skip
            have HV1 : Sec (V = ([], 1)) := sec (by rw [HR.out, if_pos h8])
            have q8 : (8192 : Int) < ((N0 ++ (N2 ++ L)).length : Int) := by omega
            simp only [List.length_append, Int.natCast_add] at q8
            have q9 : 8192 < (N0 ++ (N2 ++ L)).length := h8
            simp only [List.length_append] at q9
            clear h8 HR
            go_wp2_with fail
            go_ret2
            exact ⟨by rw [HV1.out]; rfl, hg0.trans gw⟩
          · skip
            have HV1 : Sec (V = (N0 ++ (N2 ++ L), 0)) := sec (by rw [HR.out, if_neg h8])
            have q8 : ¬ (8192 : Int) < ((N0 ++ (N2 ++ L)).length : Int) := by omega
            simp only [List.length_append, Int.natCast_add] at q8
            have q9 : ¬ 8192 < (N0 ++ (N2 ++ L)).length := h8
            simp only [List.length_append] at q9
            clear h8 HR
            go_wp2_with fail
            go_ret2
            exact ⟨by rw [HV1.out]; rfl, hg0.trans gw⟩
    · have HSL := HB3.out (by trivial)
      have m0 : ¬ 9223372036854775807 < tr.length + N3.length := by omega
      have m1 : ¬ 9223372036854775807 < N0.length + (tr.length + N3.length) := by omega
      go_upto_region 20 with fail
      have gd : Gr wa w2.drew := g2.drew
      have HC2 : Sec (∀ w', Gr wa w' → w'.cell? ⟨p, 3, none⟩ = some (.string (bs tr)) ∧ w'.cell? ⟨p, 4, none⟩ = some (.slice B pa.length d) ∧ Gr wa w') := sec (fun w' g => ⟨(HCELL.out w' g).2.2.2.1, (HCELL.out w' g).2.2.2.2.1, g⟩)
      clear c0 c1 c2 c3 c4 c5 c6 c7 c8
      go_region_held3 (fun w' => w'.cell? ⟨p, 3, none⟩ = some (.string (bs tr)) ∧ w'.cell? ⟨p, 4, none⟩ = some (.slice B pa.length d) ∧ Gr wa w')
        (first | with_reducible assumption | with_reducible exact HC2.out _ gd | with_reducible exact HC2.out _ G1 | fail)
        (first
          | (go_at_call 17; (with_reducible refine Calls.mono (HNp.out _) ?_); rintro e w3 ⟨rfl, f3⟩; have G1 : Gr wa w3 := Gr.trans gd f3)
          | fail)
      all_goals
        obtain ⟨c0, c1, c2, c3, c4, c5, c6, c7, c8⟩ := HCELL.out w3 G1
        go_wp2_with fail
        clear c0 c1 c2 c3 c4 c5 c6 c7 c8
        go_loopg [83, 5, 10] pa.length (fun fuel iv sv _ wr => ∃ i : Nat, iv = .int .i64 (i : Int) ∧ sv = .string (bs (N0 ++ (tr ++ (N3 ++ (pa.take i).flatten)))) ∧ pa.length ≤ i + fuel ∧ i ≤ pa.length ∧ Gr wa wr)
        case atStart => exact ⟨0, rfl, by simp, by omega, by omega, G1⟩
        case round =>
          clear g2 gd G1 f3
          obtain ⟨i, rfl, rfl, hik, hi, gw⟩ := hrel
          obtain ⟨c0, c1, c2, c3, c4, c5, c6, c7, c8⟩ := HCELL.out wr gw
          by_cases hlt : i < pa.length
          · have hii : (i : Int) < (pa.length : Int) := by omega
            obtain ⟨b, off, rfl, e0⟩ := (HPA.out.gr gw).cell hlt
            have HSU := sec (flat_snoc pa i hlt)
            have hxb := HPB.out _ (List.getElem_mem hlt)
            have hln := LPN.out i
            obtain ⟨x, hxx⟩ : ∃ x, x = pa[i] := ⟨_, rfl⟩
            rw [← hxx] at e0 HSU hxb
            obtain ⟨L, hL⟩ : ∃ L, L = (pa.take i).flatten := ⟨_, rfl⟩
            rw [← hL] at HSU hln ⊢
            have HLT := sec hlt
            clear hxx hlt hL
            have m0 : ¬ 9223372036854775807 < N0.length + (tr.length + (N3.length + L.length)) + x.length := by omega
            have m1 : ¬ 9223372036854775807 < N0.length + (tr.length + (N3.length + (L.length + x.length))) := by omega
            go_wp2_with fail
            go_roundg (gk - 1)
            case rel => exact ⟨i + 1, by go_num, by rw [HSU.out], by have := HLT.out; omega, HLT.out, gw⟩
            case measure => have := HLT.out; omega
          · have hE : i = pa.length := by omega
            have hii : ¬ (i : Int) < (pa.length : Int) := by omega
            have q : decide (i < pa.length) = false := decide_eq_false hlt
            rw [List.take_of_length_le (by omega : pa.length ≤ i)]
            have hln := LPN.out pa.length
            rw [List.take_length] at hln
            obtain ⟨L, hL⟩ : ∃ L, L = pa.flatten := ⟨_, rfl⟩
            rw [← hL] at HSL hln ⊢
            rw [HSL] at HR
            clear hlt hik hi hL HPA hE
            have m0 : ¬ 9223372036854775807 < T2.length + N4.length := by omega
            have m1 : ¬ 9223372036854775807 < T2.length + N4.length + T3.length := by omega
            have m2 : ¬ 9223372036854775807 < T2.length + (N4.length + T3.length) := by omega
            have m3 : ¬ 9223372036854775807 < N0.length + (tr.length + (N3.length + L.length)) + (T2.length + N4.length + T3.length) := by omega
            have m4 : ¬ 9223372036854775807 < N0.length + (tr.length + (N3.length + L.length)) + (T2.length + (N4.length + T3.length)) := by omega
            have m5 : ¬ 9223372036854775807 < N0.length + (tr.length + (N3.length + (L.length + (T2.length + (N4.length + T3.length))))) := by omega
            go_upto_region 26 with fail
            have gd : Gr wa wr.drew := gw.drew
            have HC3 : Sec (∀ w', Gr wa w' → w'.cell? ⟨p, 5, none⟩ = some (.string (bs wh)) ∧ w'.cell? ⟨p, 6, none⟩ = some (.string (bs no)) ∧ w'.cell? ⟨p, 7, none⟩ = some (.int .i64 ti) ∧ Gr wa w') := sec (fun w' g => ⟨(HCELL.out w' g).2.2.2.2.2.1, (HCELL.out w' g).2.2.2.2.2.2.1, (HCELL.out w' g).2.2.2.2.2.2.2.1, g⟩)
            clear c0 c1 c2 c3 c4 c5 c6 c7 c8
            go_region_held3 (fun w' => w'.cell? ⟨p, 5, none⟩ = some (.string (bs wh)) ∧ w'.cell? ⟨p, 6, none⟩ = some (.string (bs no)) ∧ w'.cell? ⟨p, 7, none⟩ = some (.int .i64 ti) ∧ Gr wa w')
              (first | with_reducible assumption | with_reducible exact HC3.out _ gd | with_reducible exact HC3.out _ G1 | with_reducible exact HC3.out _ G2 | with_reducible exact HC3.out _ G3 | fail)
              (first
                | (go_at_call 18; (with_reducible refine Calls.mono (HTw.out wr.drew) ?_); rintro e w4 ⟨rfl, f4⟩; have G1 : Gr wa w4 := Gr.trans gd f4)
                | (go_at_call 17; (with_reducible refine Calls.mono (HNt.out _) ?_); rintro e w5 ⟨rfl, f5⟩; have G2 : Gr wa w5 := Gr.trans G1 f5)
                | (go_at_call 18; (with_reducible refine Calls.mono (HTn.out w5) ?_); rintro e w6 ⟨rfl, f6⟩; have G3 : Gr wa w6 := Gr.trans G2 f6)
                | fail)
            all_goals
              by_cases h8 : 8192 < (N0 ++ (tr ++ (N3 ++ (L ++ (T2 ++ (N4 ++ T3)))))).length
              · skip
                have HV1 : Sec (V = ([], 1)) := sec (by rw [HR.out, if_pos h8])
                have q8 : (8192 : Int) < ((N0 ++ (tr ++ (N3 ++ (L ++ (T2 ++ (N4 ++ T3)))))).length : Int) := by omega
                simp only [List.length_append, Int.natCast_add] at q8
                have q9 : 8192 < (N0 ++ (tr ++ (N3 ++ (L ++ (T2 ++ (N4 ++ T3)))))).length := h8
                simp only [List.length_append] at q9
                clear h8 HR
                go_wp2_with fail
                go_ret2
                exact ⟨by rw [HV1.out]; rfl, hg0.trans G3⟩
              · skip
                have HV1 : Sec (V = (N0 ++ (tr ++ (N3 ++ (L ++ (T2 ++ (N4 ++ T3))))), 0)) := sec (by rw [HR.out, if_neg h8])
                have q8 : ¬ (8192 : Int) < ((N0 ++ (tr ++ (N3 ++ (L ++ (T2 ++ (N4 ++ T3)))))).length : Int) := by omega
                simp only [List.length_append, Int.natCast_add] at q8
                have q9 : ¬ 8192 < (N0 ++ (tr ++ (N3 ++ (L ++ (T2 ++ (N4 ++ T3)))))).length := h8
                simp only [List.length_append] at q9
                clear h8 HR
                go_wp2_with fail
                go_ret2
                exact ⟨by rw [HV1.out]; rfl, hg0.trans G3⟩
    · have HSL := HB4.out (by trivial)
      rw [HSL] at HR
      have m0 : ¬ 9223372036854775807 < ta.length + T2.length := by omega
      have m1 : ¬ 9223372036854775807 < ta.length + T2.length + T3.length := by omega
      have m2 : ¬ 9223372036854775807 < ta.length + (T2.length + T3.length) := by omega
      have m3 : ¬ 9223372036854775807 < N0.length + (ta.length + T2.length + T3.length) := by omega
      have m4 : ¬ 9223372036854775807 < N0.length + (ta.length + (T2.length + T3.length)) := by omega
      go_upto_region 6 with fail
      have gd : Gr wa w2.drew := g2.drew
      have HC3 : Sec (∀ w', Gr wa w' → w'.cell? ⟨p, 5, none⟩ = some (.string (bs wh)) ∧ w'.cell? ⟨p, 6, none⟩ = some (.string (bs no)) ∧ w'.cell? ⟨p, 8, none⟩ = some (.string (bs ta)) ∧ Gr wa w') := sec (fun w' g => ⟨(HCELL.out w' g).2.2.2.2.2.1, (HCELL.out w' g).2.2.2.2.2.2.1, (HCELL.out w' g).2.2.2.2.2.2.2.2, g⟩)
      clear c0 c1 c2 c3 c4 c5 c6 c7 c8
      go_region_held3 (fun w' => w'.cell? ⟨p, 5, none⟩ = some (.string (bs wh)) ∧ w'.cell? ⟨p, 6, none⟩ = some (.string (bs no)) ∧ w'.cell? ⟨p, 8, none⟩ = some (.string (bs ta)) ∧ Gr wa w')
        (first | with_reducible assumption | with_reducible exact HC3.out _ gd | with_reducible exact HC3.out _ G1 | with_reducible exact HC3.out _ G2 | fail)
        (first
          | (go_at_call 18; (with_reducible refine Calls.mono (HTw.out w2.drew) ?_); rintro e w4 ⟨rfl, f4⟩; have G1 : Gr wa w4 := Gr.trans gd f4)
          | (go_at_call 18; (with_reducible refine Calls.mono (HTn.out w4) ?_); rintro e w5 ⟨rfl, f5⟩; have G2 : Gr wa w5 := Gr.trans G1 f5)
          | fail)
      all_goals
        by_cases h8 : 8192 < (N0 ++ (ta ++ (T2 ++ T3))).length
        · skip
          have HV1 : Sec (V = ([], 1)) := sec (by rw [HR.out, if_pos h8])
          have q8 : (8192 : Int) < ((N0 ++ (ta ++ (T2 ++ T3))).length : Int) := by omega
          simp only [List.length_append, Int.natCast_add] at q8
          have q9 : 8192 < (N0 ++ (ta ++ (T2 ++ T3))).length := h8
          simp only [List.length_append] at q9
          clear h8 HR
          go_wp2_with fail
          go_ret2
          exact ⟨by rw [HV1.out]; rfl, hg0.trans G2⟩
        · skip
          have HV1 : Sec (V = (N0 ++ (ta ++ (T2 ++ T3)), 0)) := sec (by rw [HR.out, if_neg h8])
          have q8 : ¬ (8192 : Int) < ((N0 ++ (ta ++ (T2 ++ T3))).length : Int) := by omega
          simp only [List.length_append, Int.natCast_add] at q8
          have q9 : ¬ 8192 < (N0 ++ (ta ++ (T2 ++ T3))).length := h8
          simp only [List.length_append] at q9
          clear h8 HR
          go_wp2_with fail
          go_ret2
          exact ⟨by rw [HV1.out]; rfl, hg0.trans G2⟩
  · have HR : Sec (obEnc o = ([], obE o)) := sec (by unfold obEnc; rw [if_neg hE])
    rw [HR.out]
    obtain ⟨E, hEE⟩ : ∃ E, E = obE o := ⟨_, rfl⟩
    rw [← hEE] at HGo hE
    rw [← hEE]
    have m0 : (E != 0) = true := by simpa using hE
    have HCELL : Sec (∀ w', Gr wa w' → w'.cell? ⟨p, 0, none⟩ = some (.int .i64 o.kind) ∧ w'.cell? ⟨p, 1, none⟩ = some (.string (bs o.data)) ∧ w'.cell? ⟨p, 2, none⟩ = some (.slice A o.ents.length c) ∧ w'.cell? ⟨p, 3, none⟩ = some (.string (bs o.tree)) ∧ w'.cell? ⟨p, 4, none⟩ = some (.slice B o.pars.length d) ∧ w'.cell? ⟨p, 5, none⟩ = some (.string (bs o.who)) ∧ w'.cell? ⟨p, 6, none⟩ = some (.string (bs o.note)) ∧ w'.cell? ⟨p, 7, none⟩ = some (.int .i64 o.time) ∧ w'.cell? ⟨p, 8, none⟩ = some (.string (bs o.target))) := sec (fun w' g => ⟨(hb.gr g).cell 0, (hb.gr g).cell 1, (hb.gr g).cell 2, (hb.gr g).cell 3, (hb.gr g).cell 4, (hb.gr g).cell 5, (hb.gr g).cell 6, (hb.gr g).cell 7, (hb.gr g).cell 8⟩)
    clear hEE HR hz
    unfold obA at hwa HGo hb
    unfold obA
    go_enter Try.func6, Try.ntmps6
    go_upto_region 1 with fail
    rw [← hwa, ← hp]
    clear hwa hp
    obtain ⟨c0, c1, c2, c3, c4, c5, c6, c7, c8⟩ := HCELL.out wa (Gr.refl _)
    go_wp2_with (go_at_call 8; (with_reducible refine Calls.mono HGo.out ?_); rintro e w1 ⟨rfl, g1⟩)
    go_ret2
    exact ⟨rfl, hg0.trans g1⟩
end Go.Proofs.Ytmgpllakpgjicaa

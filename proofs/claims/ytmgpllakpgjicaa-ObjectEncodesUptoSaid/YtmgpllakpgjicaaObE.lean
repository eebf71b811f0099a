/-
  object.Encode by its contract.
-/
import Derived.Test.YtmgpllakpgjicaaObG
import Derived.Test.YtmgpllakpgjicaaWriter
namespace Go.Proofs.Ytmgpllakpgjicaa
set_option maxRecDepth 100000
open Go.RowKit
set_option linter.unusedVariables false
/-- a writer's piece put behind what it holds -/
abbrev Puts (f : FuncId) (v : Value) (P : List UInt8) : Prop := ∀ B g w l, l.length ≤ 20000 → WrAt w B g (l, 0) → Calls Try.prog f #[.pointer (some ⟨g, 0, none⟩), v] w fun e w' => e = .returned (.tuple #[]) ∧ WrAt w' B g (l ++ P, 0) ∧ Below B w w' ∧ KeepT g w w'
theorem puts_num (n : Int) (h : 0 ≤ n ∧ n < 4611686018427387904) : Puts 13 (.int .i64 n) (numS n) := fun B g w l hl hd => by
  have := wrNumber B g (l, 0) n w hd (by simp only; omega)
  have e : wNum n (l, 0) = (l ++ numS n, 0) := by unfold wNum; rw [if_pos rfl, if_pos h]
  rwa [e] at this
theorem puts_txt (t : List UInt8) (h : t.length ≤ 4096) : Puts 14 (.string (bs t)) (txt t) := fun B g w l hl hd => by
  have := wrText B g (l, 0) t w hd (by simp only; omega)
  have e : wTxt t (l, 0) = (l ++ txt t, 0) := by unfold wTxt; rw [if_pos rfl, if_pos h]
  rwa [e] at this
theorem puts_byt (t : List UInt8) (h : t.length ≤ 20000) : Puts 15 (.string (bs t)) t := fun B g w l hl hd => by
  have := wrBytes B g (l, 0) t w hd (by simp only; omega)
  have e : wByt t (l, 0) = (l ++ t, 0) := by unfold wByt; rw [if_pos rfl]
  rwa [e] at this

set_option maxHeartbeats 32000000 in
theorem obEncode_any (o : Ob) (A : Option Addr) (c : Nat) (B : Option Addr) (d : Nat) (w : World) (hR : ObR w o A c B d) (hz : ObSz 1099511627776 o) :
    Calls Try.prog 4 #[.agg (obA o A c B d)] w fun e w' => e = .returned (.tuple #[.string (bs (obEnc o).1), .int .i64 (obEnc o).2]) ∧ Gr w w' := by
  have hel := hz.ents
  have hpl := hz.pars
  obtain ⟨wa, hwa⟩ : ∃ x, x = w.alloc (.cells (obA o A c B d) 25) := ⟨_, rfl⟩
  have hb : Blk wa w.heap.size 25 (obA o A c B d) := by rw [hwa]; exact Blk.new w _ _
  have hg0 : Gr w wa := by rw [hwa]; exact (Gr.refl w).alloc _
  have HEN := sec (hR.ents.gr hg0)
  have HPA := sec (hR.pars.gr hg0)
  obtain ⟨p, hp⟩ : ∃ p, p = w.heap.size := ⟨_, rfl⟩
  rw [← hp] at hb
  have HGo : Sec (Calls Try.prog 7 #[.agg (obA o A c B d)] wa fun e w' => e = .returned (.int .i64 (obE o)) ∧ Gr wa w') := sec (obGood_any o A c B d wa (hR.gr hg0) hz)
  have HW0 : Sec (∀ w1 : World, WrAt (w1.alloc (.cells #[.slice none 0 0, .int .i64 0] 38)) w1.heap.size w1.heap.size ([], 0)) := sec (fun w1 => ⟨⟨none, 0, Blk.new w1 _ _, World.ownsRow_nil _ _ _ _⟩, Nat.le_refl _, by simp⟩)
  have HDn : Sec (∀ S B g w l, WrAt w B g (l, 0) → l = S → Calls Try.prog 16 #[.pointer (some ⟨g, 0, none⟩)] w fun e w' => e = .returned (.tuple #[.string (bs S), .int .i64 0]) ∧ Gr w w') := sec (fun S B g w l h e => by subst e; exact wrDone B g (l, 0) w h)
  by_cases hE : obE o = 0
  · have hok := obE_zero hE
    have HOK := sec hok
    have HR : Sec (obEnc o = if 8192 < (obS o).length then ([], 1) else (obS o, 0)) := sec (by unfold obEnc; rw [if_pos hE])
    have hlen := obS_le hok
    have HEB := sec hok.each
    have HPB := sec hok.peach
    have hk1 := hok.kind
    rw [hE] at HGo
    have HNk := sec (puts_num o.kind ⟨by omega, by omega⟩)
    have HTd := sec (puts_txt o.data hok.data)
    have HNe := sec (puts_num (o.ents.length : Int) ⟨by omega, by have := hok.ents; omega⟩)
    have HBt := sec (puts_byt o.tree (by have := hok.tree; omega))
    have HNp := sec (puts_num (o.pars.length : Int) ⟨by omega, by have := hok.pars; omega⟩)
    have HTw := sec (puts_txt o.who hok.who)
    have HNt := sec (puts_num o.time ⟨hok.time.1, by have := hok.time.2; omega⟩)
    have HTn := sec (puts_txt o.note hok.note)
    have HBg := sec (puts_byt o.target (by have := hok.target; omega))
    have HX : Sec (∀ x ∈ o.ents, Puts 14 (.string (bs x.nm)) (txt x.nm) ∧ Puts 13 (.int .i64 (if x.dir then 1 else 0)) (numS (if x.dir then 1 else 0)) ∧ Puts 15 (.string (bs x.id)) x.id) := sec (fun x hx => ⟨puts_txt _ (by have := (hok.each x hx).1; omega), puts_num _ (by split <;> omega), puts_byt _ (by have := (hok.each x hx).2; omega)⟩)
    have HP : Sec (∀ x ∈ o.pars, Puts 15 (.string (bs x)) x) := sec (fun x hx => puts_byt _ (by have := hok.peach x hx; omega))
    have l1 := numS_le (n := o.kind)
    have l2 := txt_le o.data (by have := hok.data; omega)
    have l3 := numS_le (n := (o.ents.length : Int))
    have l4 := hok.tree
    have l5 := numS_le (n := (o.pars.length : Int))
    have l6 := txt_le o.who (by have := hok.who; omega)
    have l7 := numS_le (n := o.time)
    have l8 := txt_le o.note (by have := hok.note; omega)
    have l9 := hok.target
    have la := hok.data
    have lb := hok.who
    have lc := hok.note
    have LEN : Sec (∀ i, (enSs (o.ents.take i)).length ≤ 7040) := sec (fun i => by
      have h1 := enSs_le (o.ents.take i) (fun x hx => hok.each x (List.mem_of_mem_take hx))
      have h2 : (o.ents.take i).length ≤ 64 := by rw [List.length_take]; have := hok.ents; omega
      omega)
    have LPN : Sec (∀ i, ((o.pars.take i).flatten).length ≤ 128) := sec (fun i => by
      have h1 := flat32_le (o.pars.take i) (fun x hx => hok.peach x (List.mem_of_mem_take hx))
      have h2 : (o.pars.take i).length ≤ 4 := by rw [List.length_take]; have := hok.pars; omega
      omega)
    obtain ⟨V, hV⟩ : ∃ V, V = obEnc o := ⟨_, rfl⟩
    rw [← hV] at HR ⊢
    clear hV hE hz hR hok
    obtain ⟨kd, dt, en, tr, pa, wh, no, ti, ta⟩ := o
    simp only at HEN HPA HNk HTd HNe HBt HNp HTw HNt HTn HBg HX HP l1 l2 l3 l4 l5 l6 l7 l8 l9 la lb lc LEN LPN HEB HPB hel hpl hk1
    unfold obA at hb hwa HGo
    unfold obA
    simp only at hb hwa HGo ⊢
    have HCELL : Sec (∀ w', Gr wa w' → w'.cell? ⟨p, 0, none⟩ = some (.int .i64 kd) ∧ w'.cell? ⟨p, 1, none⟩ = some (.string (bs dt)) ∧ w'.cell? ⟨p, 2, none⟩ = some (.slice A en.length c) ∧ w'.cell? ⟨p, 3, none⟩ = some (.string (bs tr)) ∧ w'.cell? ⟨p, 4, none⟩ = some (.slice B pa.length d) ∧ w'.cell? ⟨p, 5, none⟩ = some (.string (bs wh)) ∧ w'.cell? ⟨p, 6, none⟩ = some (.string (bs no)) ∧ w'.cell? ⟨p, 7, none⟩ = some (.int .i64 ti) ∧ w'.cell? ⟨p, 8, none⟩ = some (.string (bs ta))) := sec (fun w' g => ⟨(hb.gr g).cell 0, (hb.gr g).cell 1, (hb.gr g).cell 2, (hb.gr g).cell 3, (hb.gr g).cell 4, (hb.gr g).cell 5, (hb.gr g).cell 6, (hb.gr g).cell 7, (hb.gr g).cell 8⟩)
    clear hb
    go_enter Try.func4, Try.ntmps4
    go_upto_region 1 with fail
    rw [← hwa, ← hp]
    clear hwa hp
    obtain ⟨c0, c1, c2, c3, c4, c5, c6, c7, c8⟩ := HCELL.out wa (Gr.refl _)
    have HRS : Sec (obS ⟨kd, dt, en, tr, pa, wh, no, ti, ta⟩ = numS kd ++ obB ⟨kd, dt, en, tr, pa, wh, no, ti, ta⟩) := sec rfl
    obtain ⟨S, hS⟩ : ∃ S, S = obS ⟨kd, dt, en, tr, pa, wh, no, ti, ta⟩ := ⟨_, rfl⟩
    rw [← hS] at HR HRS hlen
    have HB1 : Sec (kd = 1 → S = numS kd ++ txt dt) := sec (fun h => by rw [HRS.out]; unfold obB; rw [if_pos h])
    have HB2 : Sec (kd = 2 → S = numS kd ++ (numS (en.length : Int) ++ enSs en)) := sec (fun h => by rw [HRS.out]; unfold obB; rw [if_neg (by simp only; omega), if_pos h])
    have HB3 : Sec (kd = 3 → S = numS kd ++ (tr ++ (numS (pa.length : Int) ++ (pa.flatten ++ (txt wh ++ (numS ti ++ txt no)))))) := sec (fun h => by rw [HRS.out]; unfold obB; rw [if_neg (by simp only; omega), if_neg (by simp only; omega), if_pos h])
    have HB4 : Sec (kd = 4 → S = numS kd ++ (ta ++ (txt wh ++ txt no))) := sec (fun h => by rw [HRS.out]; unfold obB; rw [if_neg (by simp only; omega), if_neg (by simp only; omega), if_neg (by simp only; omega)])
    clear hS HRS
    obtain ⟨N0, h0⟩ : ∃ x, x = numS kd := ⟨_, rfl⟩
    rw [← h0] at HNk l1 HB1 HB2 HB3 HB4
    obtain ⟨T1, h1⟩ : ∃ x, x = txt dt := ⟨_, rfl⟩
    rw [← h1] at HTd l2 HB1
    obtain ⟨N2, h2⟩ : ∃ x, x = numS (en.length : Int) := ⟨_, rfl⟩
    rw [← h2] at HNe l3 HB2
    obtain ⟨N3, h3⟩ : ∃ x, x = numS (pa.length : Int) := ⟨_, rfl⟩
    rw [← h3] at HNp l5 HB3
    obtain ⟨T2, h4⟩ : ∃ x, x = txt wh := ⟨_, rfl⟩
    rw [← h4] at HTw l6 HB3 HB4
    obtain ⟨N4, h5⟩ : ∃ x, x = numS ti := ⟨_, rfl⟩
    rw [← h5] at HNt l7 HB3
    obtain ⟨T3, h6⟩ : ∃ x, x = txt no := ⟨_, rfl⟩
    rw [← h6] at HTn l8 HB3 HB4
    clear h0 h1 h2 h3 h4 h5 h6
    go_upto_region 5 with (go_at_call 7; (with_reducible refine Calls.mono HGo.out ?_); rintro e w1 ⟨rfl, g1⟩)
    clear c0 c1 c2 c3 c4 c5 c6 c7 c8 HGo
    have d1 := HW0.out w1
    have g2 : Gr wa (w1.alloc (.cells #[.slice none 0 0, .int .i64 0] 38)) := g1.alloc _
    obtain ⟨w2, hw2⟩ : ∃ x, x = w1.alloc (.cells #[.slice none 0 0, .int .i64 0] 38) := ⟨_, rfl⟩
    have hgle : wa.heap.size ≤ w1.heap.size := g1.size
    obtain ⟨g, hg⟩ : ∃ g, g = w1.heap.size := ⟨_, rfl⟩
    rw [← hw2, ← hg] at d1
    rw [← hw2] at g2
    rw [← hg] at hgle
    rw [← hw2, ← hg]
    clear hw2 hg HW0 g1
    obtain ⟨c0, c1, c2, c3, c4, c5, c6, c7, c8⟩ := HCELL.out w2 g2
    rcases (by omega : kd = 1 ∨ kd = 2 ∨ kd = 3 ∨ kd = 4) with rfl | rfl | rfl | rfl
    · skip
      have HSL : Sec ([] ++ N0 ++ T1 = S) := sec (by rw [HB1.out (by trivial)]; simp)
      by_cases h8 : 8192 < S.length
      · have q8 : (8192 : Int) < (S.length : Int) := by omega
        have HV1 : Sec (V = ([], 1)) := sec (by rw [HR.out, if_pos h8])
        clear h8 HR
        go_wp2_with (first
        | (go_at_call 13; (with_reducible refine Calls.mono (HNk.out _ _ _ _ (by first | (simp; done) | (simp; omega)) d1) ?_); rintro e w3 ⟨rfl, d3, kw3, -⟩; have g3 : Gr wa w3 := Below.trans g2 (Below.mono kw3 hgle); obtain ⟨w3c0, w3c1, w3c2, w3c3, w3c4, w3c5, w3c6, w3c7, w3c8⟩ := HCELL.out w3 g3)
        | (go_at_call 14; (with_reducible refine Calls.mono (HTd.out _ _ _ _ (by first | (simp; done) | (simp; omega)) d3) ?_); rintro e w4 ⟨rfl, d4, kw4, -⟩; have g4 : Gr wa w4 := Below.trans g3 (Below.mono kw4 hgle))
        | (go_at_call 16; (with_reducible refine Calls.mono (HDn.out S _ _ _ _ d4 HSL.out) ?_); rintro e wz ⟨rfl, gz⟩))
        go_ret2
        exact ⟨by rw [HV1.out]; rfl, hg0.trans (g4.trans gz)⟩
      · have q8 : ¬ (8192 : Int) < (S.length : Int) := by omega
        have HV1 : Sec (V = (S, 0)) := sec (by rw [HR.out, if_neg h8])
        clear h8 HR
        go_wp2_with (first
        | (go_at_call 13; (with_reducible refine Calls.mono (HNk.out _ _ _ _ (by first | (simp; done) | (simp; omega)) d1) ?_); rintro e w3 ⟨rfl, d3, kw3, -⟩; have g3 : Gr wa w3 := Below.trans g2 (Below.mono kw3 hgle); obtain ⟨w3c0, w3c1, w3c2, w3c3, w3c4, w3c5, w3c6, w3c7, w3c8⟩ := HCELL.out w3 g3)
        | (go_at_call 14; (with_reducible refine Calls.mono (HTd.out _ _ _ _ (by first | (simp; done) | (simp; omega)) d3) ?_); rintro e w4 ⟨rfl, d4, kw4, -⟩; have g4 : Gr wa w4 := Below.trans g3 (Below.mono kw4 hgle))
        | (go_at_call 16; (with_reducible refine Calls.mono (HDn.out S _ _ _ _ d4 HSL.out) ?_); rintro e wz ⟨rfl, gz⟩))
        go_ret2
        exact ⟨by rw [HV1.out]; rfl, hg0.trans (g4.trans gz)⟩
    · skip
      go_upto_region 11 with (first
      | (go_at_call 13; (with_reducible refine Calls.mono (HNk.out _ _ _ _ (by first | (simp; done) | (simp; omega)) d1) ?_); rintro e w3 ⟨rfl, d3, kw3, -⟩; have g3 : Gr wa w3 := Below.trans g2 (Below.mono kw3 hgle); obtain ⟨w3c0, w3c1, w3c2, w3c3, w3c4, w3c5, w3c6, w3c7, w3c8⟩ := HCELL.out w3 g3)
      | (go_at_call 13; (with_reducible refine Calls.mono (HNe.out _ _ _ _ (by first | (simp; done) | (simp; omega)) d3) ?_); rintro e w4 ⟨rfl, d4, kw4, -⟩; have g4 : Gr wa w4 := Below.trans g3 (Below.mono kw4 hgle); obtain ⟨w4c0, w4c1, w4c2, w4c3, w4c4, w4c5, w4c6, w4c7, w4c8⟩ := HCELL.out w4 g4))
      go_wp2_with fail
      clear c0 c1 c2 c3 c4 c5 c6 c7 c8 w3c0 w3c1 w3c2 w3c3 w3c4 w3c5 w3c6 w3c7 w3c8 w4c0 w4c1 w4c2 w4c3 w4c4 w4c5 w4c6 w4c7 w4c8
      go_loopg [42, 7, 8] en.length (fun fuel iv _ _ wr => ∃ i : Nat, iv = .int .i64 (i : Int) ∧ en.length ≤ i + fuel ∧ i ≤ en.length ∧ WrAt wr g g ([] ++ N0 ++ N2 ++ enSs (en.take i), 0) ∧ Gr wa wr)
      case atStart => exact ⟨0, rfl, by omega, by omega, by simpa [enSs] using d4, g4⟩
      case round =>
        clear d1 d3 d4 g2 g3 g4 kw3 kw4
        obtain ⟨i, rfl, hik, hi, dw, gw⟩ := hrel
        obtain ⟨c0, c1, c2, c3, c4, c5, c6, c7, c8⟩ := HCELL.out wr gw
        by_cases hlt : i < en.length
        · have hii : (i : Int) < (en.length : Int) := by omega
          obtain ⟨b, off, rfl, e0, e1, e2⟩ := (HEN.out.gr gw).cell hlt
          have HSU := sec (enSs_take en i hlt)
          have HXi := HX.out _ (List.getElem_mem hlt)
          have hxb := HEB.out _ (List.getElem_mem hlt)
          have hln := LEN.out i
          obtain ⟨x, hxx⟩ : ∃ x, x = en[i] := ⟨_, rfl⟩
          rw [← hxx] at e0 e1 e2 HSU HXi hxb
          obtain ⟨L, hL⟩ : ∃ L, L = enSs (en.take i) := ⟨_, rfl⟩
          rw [← hL] at dw HSU hln
          have HLT := sec hlt
          clear hxx hlt hL
          obtain ⟨nm, dr, id⟩ := x
          simp only at e0 e1 e2 HSU HXi hxb
          obtain ⟨hx1, hx2, hx3⟩ := HXi
          have HX1 := sec hx1
          have HX2 := sec hx2
          have HX3 := sec hx3
          have lx1 := txt_le nm (by omega)
          have lx2 := numS_le (n := if dr then 1 else 0)
          have lx3 : id.length ≤ 32 := by omega
          have lx4 : nm.length ≤ 60 := hxb.1
          have hgw : g < wr.heap.size := by obtain ⟨_, _, hb, _⟩ := dw.ex; exact hb.lt
          clear hx1 hx2 hx3 hxb
          obtain ⟨E1, hE1⟩ : ∃ x, x = txt nm := ⟨_, rfl⟩
          have HSU1 : Sec (enSs (en.take (i + 1)) = L ++ (E1 ++ (numS (if dr then 1 else 0) ++ id))) := sec (by rw [HSU.out, hE1]; rfl)
          rw [← hE1] at HX1 lx1
          clear hE1 HSU
          go_upto_region 14 with fail
          have hFB := Blk.new wr 42 #[.string (bs nm), .bool dr, .string (bs id)]
          have gx := gw.alloc (.cells #[.string (bs nm), .bool dr, .string (bs id)] 42)
          have dx := dw.gr ((Gr.refl wr).alloc (.cells #[.string (bs nm), .bool dr, .string (bs id)] 42))
          obtain ⟨wx, hwx⟩ : ∃ x, x = wr.alloc (.cells #[.string (bs nm), .bool dr, .string (bs id)] 42) := ⟨_, rfl⟩
          obtain ⟨q, hq⟩ : ∃ q, q = wr.heap.size := ⟨_, rfl⟩
          have hqg : q ≠ g := by omega
          rw [← hwx] at hFB gx dx
          rw [← hq] at hFB
          rw [← hwx, ← hq]
          clear hwx hq e0 e1 e2 dw gw hgw c0 c1 c2 c3 c4 c5 c6 c7 c8
          have x0 := hFB.cell 0
          have x1 := hFB.cell 1
          have x2 := hFB.cell 2
          cases dr with
          | true =>
            have HX2' : Sec (Puts 13 (.int .i64 1) (numS 1)) := sec HX2.out
            have lx2' : (numS 1).length ≤ 9 := numS_le
            have HSU2 : Sec (enSs (en.take (i + 1)) = L ++ (E1 ++ (numS 1 ++ id))) := sec HSU1.out
            obtain ⟨E2, hE2⟩ : ∃ x, x = numS 1 := ⟨_, rfl⟩
            rw [← hE2] at HX2' lx2' HSU2
            clear HX2 lx2 HSU1 hE2
            go_wp2_with (first
            | (go_at_call 14; (with_reducible refine Calls.mono (HX1.out _ _ _ _ (by first | (simp; done) | (simp; omega)) dx) ?_); rintro e w5 ⟨rfl, d5, kw5, ktw5⟩; have g5 : Gr wa w5 := Below.trans gx (Below.mono kw5 hgle); have b5 := ktw5 q _ 42 hqg (by decide) hFB; have w5x0 := b5.cell 0; have w5x1 := b5.cell 1; have w5x2 := b5.cell 2)
            | (go_at_call 13; (with_reducible refine Calls.mono (HX2'.out _ _ _ _ (by first | (simp; done) | (simp; omega)) d5) ?_); rintro e w6 ⟨rfl, d6, kw6, ktw6⟩; have g6 : Gr wa w6 := Below.trans g5 (Below.mono kw6 hgle); have b6 := ktw6 q _ 42 hqg (by decide) b5; have w6x0 := b6.cell 0; have w6x1 := b6.cell 1; have w6x2 := b6.cell 2)
            | (go_at_call 15; (with_reducible refine Calls.mono (HX3.out _ _ _ _ (by first | (simp; done) | (simp; omega)) d6) ?_); rintro e w7 ⟨rfl, d7, kw7, ktw7⟩; have g7 : Gr wa w7 := Below.trans g6 (Below.mono kw7 hgle); have b7 := ktw7 q _ 42 hqg (by decide) b6; have w7x0 := b7.cell 0; have w7x1 := b7.cell 1; have w7x2 := b7.cell 2))
            go_roundg (gk - 1)
            case rel => exact ⟨i + 1, by go_num, by have := HLT.out; omega, HLT.out, by rw [HSU2.out]; simpa using d7, g7⟩
            case measure => have := HLT.out; omega
          | false =>
            have HX2' : Sec (Puts 13 (.int .i64 0) (numS 0)) := sec HX2.out
            have lx2' : (numS 0).length ≤ 9 := numS_le
            have HSU2 : Sec (enSs (en.take (i + 1)) = L ++ (E1 ++ (numS 0 ++ id))) := sec HSU1.out
            obtain ⟨E2, hE2⟩ : ∃ x, x = numS 0 := ⟨_, rfl⟩
            rw [← hE2] at HX2' lx2' HSU2
            clear HX2 lx2 HSU1 hE2
            go_wp2_with (first
            | (go_at_call 14; (with_reducible refine Calls.mono (HX1.out _ _ _ _ (by first | (simp; done) | (simp; omega)) dx) ?_); rintro e w5 ⟨rfl, d5, kw5, ktw5⟩; have g5 : Gr wa w5 := Below.trans gx (Below.mono kw5 hgle); have b5 := ktw5 q _ 42 hqg (by decide) hFB; have w5x0 := b5.cell 0; have w5x1 := b5.cell 1; have w5x2 := b5.cell 2)
            | (go_at_call 13; (with_reducible refine Calls.mono (HX2'.out _ _ _ _ (by first | (simp; done) | (simp; omega)) d5) ?_); rintro e w6 ⟨rfl, d6, kw6, ktw6⟩; have g6 : Gr wa w6 := Below.trans g5 (Below.mono kw6 hgle); have b6 := ktw6 q _ 42 hqg (by decide) b5; have w6x0 := b6.cell 0; have w6x1 := b6.cell 1; have w6x2 := b6.cell 2)
            | (go_at_call 15; (with_reducible refine Calls.mono (HX3.out _ _ _ _ (by first | (simp; done) | (simp; omega)) d6) ?_); rintro e w7 ⟨rfl, d7, kw7, ktw7⟩; have g7 : Gr wa w7 := Below.trans g6 (Below.mono kw7 hgle); have b7 := ktw7 q _ 42 hqg (by decide) b6; have w7x0 := b7.cell 0; have w7x1 := b7.cell 1; have w7x2 := b7.cell 2))
            go_roundg (gk - 1)
            case rel => exact ⟨i + 1, by go_num, by have := HLT.out; omega, HLT.out, by rw [HSU2.out]; simpa using d7, g7⟩
            case measure => have := HLT.out; omega
        · have hii : ¬ (i : Int) < (en.length : Int) := by omega
          have q : decide (i < en.length) = false := decide_eq_false hlt
          have dz : WrAt wr g g ([] ++ N0 ++ N2 ++ enSs en, 0) := by rw [List.take_of_length_le (by omega)] at dw; exact dw
          have hln := LEN.out en.length
          rw [List.take_length] at hln
          obtain ⟨L, hL⟩ : ∃ L, L = enSs en := ⟨_, rfl⟩
          have HLL := sec hL
          rw [← hL] at dz hln
          clear hlt hik hi dw hL HX HEN
          have HSL : Sec ([] ++ N0 ++ N2 ++ L = S) := sec (by rw [HB2.out (by trivial), HLL.out]; simp)
          by_cases h8 : 8192 < S.length
          · have q8 : (8192 : Int) < (S.length : Int) := by omega
            have HV1 : Sec (V = ([], 1)) := sec (by rw [HR.out, if_pos h8])
            clear h8 HR
            go_wp2_with (first
            | (go_at_call 16; (with_reducible refine Calls.mono (HDn.out S _ _ _ _ dz HSL.out) ?_); rintro e wz ⟨rfl, gz⟩))
            go_ret2
            exact ⟨by rw [HV1.out]; rfl, hg0.trans (gw.trans gz)⟩
          · have q8 : ¬ (8192 : Int) < (S.length : Int) := by omega
            have HV1 : Sec (V = (S, 0)) := sec (by rw [HR.out, if_neg h8])
            clear h8 HR
            go_wp2_with (first
            | (go_at_call 16; (with_reducible refine Calls.mono (HDn.out S _ _ _ _ dz HSL.out) ?_); rintro e wz ⟨rfl, gz⟩))
            go_ret2
            exact ⟨by rw [HV1.out]; rfl, hg0.trans (gw.trans gz)⟩
    · skip
      go_upto_region 24 with (first
      | (go_at_call 13; (with_reducible refine Calls.mono (HNk.out _ _ _ _ (by first | (simp; done) | (simp; omega)) d1) ?_); rintro e w3 ⟨rfl, d3, kw3, -⟩; have g3 : Gr wa w3 := Below.trans g2 (Below.mono kw3 hgle); obtain ⟨w3c0, w3c1, w3c2, w3c3, w3c4, w3c5, w3c6, w3c7, w3c8⟩ := HCELL.out w3 g3)
      | (go_at_call 15; (with_reducible refine Calls.mono (HBt.out _ _ _ _ (by first | (simp; done) | (simp; omega)) d3) ?_); rintro e w4 ⟨rfl, d4, kw4, -⟩; have g4 : Gr wa w4 := Below.trans g3 (Below.mono kw4 hgle); obtain ⟨w4c0, w4c1, w4c2, w4c3, w4c4, w4c5, w4c6, w4c7, w4c8⟩ := HCELL.out w4 g4)
      | (go_at_call 13; (with_reducible refine Calls.mono (HNp.out _ _ _ _ (by first | (simp; done) | (simp; omega)) d4) ?_); rintro e w5 ⟨rfl, d5, kw5, -⟩; have g5 : Gr wa w5 := Below.trans g4 (Below.mono kw5 hgle); obtain ⟨w5c0, w5c1, w5c2, w5c3, w5c4, w5c5, w5c6, w5c7, w5c8⟩ := HCELL.out w5 g5))
      go_wp2_with fail
      clear c0 c1 c2 c3 c4 c5 c6 c7 c8 w3c0 w3c1 w3c2 w3c3 w3c4 w3c5 w3c6 w3c7 w3c8 w4c0 w4c1 w4c2 w4c3 w4c4 w4c5 w4c6 w4c7 w4c8 w5c0 w5c1 w5c2 w5c3 w5c4 w5c5 w5c6 w5c7 w5c8
      go_loopg [74, 10] pa.length (fun fuel iv _ wr => ∃ i : Nat, iv = .int .i64 (i : Int) ∧ pa.length ≤ i + fuel ∧ i ≤ pa.length ∧ WrAt wr g g ([] ++ N0 ++ tr ++ N3 ++ (pa.take i).flatten, 0) ∧ Gr wa wr)
      case atStart => exact ⟨0, rfl, by omega, by omega, by simpa using d5, g5⟩
      case round =>
        clear d1 d3 d4 d5 g2 g3 g4 g5 kw3 kw4 kw5
        obtain ⟨i, rfl, hik, hi, dw, gw⟩ := hrel
        obtain ⟨c0, c1, c2, c3, c4, c5, c6, c7, c8⟩ := HCELL.out wr gw
        by_cases hlt : i < pa.length
        · have hii : (i : Int) < (pa.length : Int) := by omega
          obtain ⟨b, off, rfl, e0⟩ := (HPA.out.gr gw).cell hlt
          have HSU := sec (flat_snoc pa i hlt)
          have HXi := sec (HP.out _ (List.getElem_mem hlt))
          have hxb := HPB.out _ (List.getElem_mem hlt)
          have hln := LPN.out i
          obtain ⟨x, hxx⟩ : ∃ x, x = pa[i] := ⟨_, rfl⟩
          rw [← hxx] at e0 HSU HXi hxb
          obtain ⟨L, hL⟩ : ∃ L, L = (pa.take i).flatten := ⟨_, rfl⟩
          rw [← hL] at dw HSU hln
          have HLT := sec hlt
          clear hxx hlt hL
          go_wp2_with (go_at_call 15; (with_reducible refine Calls.mono (HXi.out _ _ _ _ (by first | (simp; done) | (simp; omega)) dw) ?_); rintro e w6 ⟨rfl, d6, kw6, -⟩; have g6 : Gr wa w6 := Below.trans gw (Below.mono kw6 hgle))
          go_roundg (gk - 1)
          case rel => exact ⟨i + 1, by go_num, by have := HLT.out; omega, HLT.out, by rw [HSU.out]; simpa using d6, g6⟩
          case measure => have := HLT.out; omega
        · have hii : ¬ (i : Int) < (pa.length : Int) := by omega
          have q : decide (i < pa.length) = false := decide_eq_false hlt
          have dz : WrAt wr g g ([] ++ N0 ++ tr ++ N3 ++ pa.flatten, 0) := by rw [List.take_of_length_le (by omega)] at dw; exact dw
          have hln := LPN.out pa.length
          rw [List.take_length] at hln
          obtain ⟨L, hL⟩ : ∃ L, L = pa.flatten := ⟨_, rfl⟩
          have HLL := sec hL
          rw [← hL] at dz hln
          clear hlt hik hi dw hL HP HPA
          have HSL : Sec ([] ++ N0 ++ tr ++ N3 ++ L ++ T2 ++ N4 ++ T3 = S) := sec (by rw [HB3.out (by trivial), HLL.out]; simp)
          by_cases h8 : 8192 < S.length
          · have q8 : (8192 : Int) < (S.length : Int) := by omega
            have HV1 : Sec (V = ([], 1)) := sec (by rw [HR.out, if_pos h8])
            clear h8 HR
            go_wp2_with (first
            | (go_at_call 14; (with_reducible refine Calls.mono (HTw.out _ _ _ _ (by first | (simp; done) | (simp; omega)) dz) ?_); rintro e w6 ⟨rfl, d6, kw6, -⟩; have g6 : Gr wa w6 := Below.trans gw (Below.mono kw6 hgle); obtain ⟨w6c0, w6c1, w6c2, w6c3, w6c4, w6c5, w6c6, w6c7, w6c8⟩ := HCELL.out w6 g6)
            | (go_at_call 13; (with_reducible refine Calls.mono (HNt.out _ _ _ _ (by first | (simp; done) | (simp; omega)) d6) ?_); rintro e w7 ⟨rfl, d7, kw7, -⟩; have g7 : Gr wa w7 := Below.trans g6 (Below.mono kw7 hgle); obtain ⟨w7c0, w7c1, w7c2, w7c3, w7c4, w7c5, w7c6, w7c7, w7c8⟩ := HCELL.out w7 g7)
            | (go_at_call 14; (with_reducible refine Calls.mono (HTn.out _ _ _ _ (by first | (simp; done) | (simp; omega)) d7) ?_); rintro e w8 ⟨rfl, d8, kw8, -⟩; have g8 : Gr wa w8 := Below.trans g7 (Below.mono kw8 hgle))
            | (go_at_call 16; (with_reducible refine Calls.mono (HDn.out S _ _ _ _ d8 HSL.out) ?_); rintro e wz ⟨rfl, gz⟩))
            go_ret2
            exact ⟨by rw [HV1.out]; rfl, hg0.trans (g8.trans gz)⟩
          · have q8 : ¬ (8192 : Int) < (S.length : Int) := by omega
            have HV1 : Sec (V = (S, 0)) := sec (by rw [HR.out, if_neg h8])
            clear h8 HR
            go_wp2_with (first
            | (go_at_call 14; (with_reducible refine Calls.mono (HTw.out _ _ _ _ (by first | (simp; done) | (simp; omega)) dz) ?_); rintro e w6 ⟨rfl, d6, kw6, -⟩; have g6 : Gr wa w6 := Below.trans gw (Below.mono kw6 hgle); obtain ⟨w6c0, w6c1, w6c2, w6c3, w6c4, w6c5, w6c6, w6c7, w6c8⟩ := HCELL.out w6 g6)
            | (go_at_call 13; (with_reducible refine Calls.mono (HNt.out _ _ _ _ (by first | (simp; done) | (simp; omega)) d6) ?_); rintro e w7 ⟨rfl, d7, kw7, -⟩; have g7 : Gr wa w7 := Below.trans g6 (Below.mono kw7 hgle); obtain ⟨w7c0, w7c1, w7c2, w7c3, w7c4, w7c5, w7c6, w7c7, w7c8⟩ := HCELL.out w7 g7)
            | (go_at_call 14; (with_reducible refine Calls.mono (HTn.out _ _ _ _ (by first | (simp; done) | (simp; omega)) d7) ?_); rintro e w8 ⟨rfl, d8, kw8, -⟩; have g8 : Gr wa w8 := Below.trans g7 (Below.mono kw8 hgle))
            | (go_at_call 16; (with_reducible refine Calls.mono (HDn.out S _ _ _ _ d8 HSL.out) ?_); rintro e wz ⟨rfl, gz⟩))
            go_ret2
            exact ⟨by rw [HV1.out]; rfl, hg0.trans (g8.trans gz)⟩
    · skip
      have HSL : Sec ([] ++ N0 ++ ta ++ T2 ++ T3 = S) := sec (by rw [HB4.out (by trivial)]; simp)
      by_cases h8 : 8192 < S.length
      · have q8 : (8192 : Int) < (S.length : Int) := by omega
        have HV1 : Sec (V = ([], 1)) := sec (by rw [HR.out, if_pos h8])
        clear h8 HR
        go_wp2_with (first
        | (go_at_call 13; (with_reducible refine Calls.mono (HNk.out _ _ _ _ (by first | (simp; done) | (simp; omega)) d1) ?_); rintro e w3 ⟨rfl, d3, kw3, -⟩; have g3 : Gr wa w3 := Below.trans g2 (Below.mono kw3 hgle); obtain ⟨w3c0, w3c1, w3c2, w3c3, w3c4, w3c5, w3c6, w3c7, w3c8⟩ := HCELL.out w3 g3)
        | (go_at_call 15; (with_reducible refine Calls.mono (HBg.out _ _ _ _ (by first | (simp; done) | (simp; omega)) d3) ?_); rintro e w4 ⟨rfl, d4, kw4, -⟩; have g4 : Gr wa w4 := Below.trans g3 (Below.mono kw4 hgle); obtain ⟨w4c0, w4c1, w4c2, w4c3, w4c4, w4c5, w4c6, w4c7, w4c8⟩ := HCELL.out w4 g4)
        | (go_at_call 14; (with_reducible refine Calls.mono (HTw.out _ _ _ _ (by first | (simp; done) | (simp; omega)) d4) ?_); rintro e w5 ⟨rfl, d5, kw5, -⟩; have g5 : Gr wa w5 := Below.trans g4 (Below.mono kw5 hgle); obtain ⟨w5c0, w5c1, w5c2, w5c3, w5c4, w5c5, w5c6, w5c7, w5c8⟩ := HCELL.out w5 g5)
        | (go_at_call 14; (with_reducible refine Calls.mono (HTn.out _ _ _ _ (by first | (simp; done) | (simp; omega)) d5) ?_); rintro e w6 ⟨rfl, d6, kw6, -⟩; have g6 : Gr wa w6 := Below.trans g5 (Below.mono kw6 hgle))
        | (go_at_call 16; (with_reducible refine Calls.mono (HDn.out S _ _ _ _ d6 HSL.out) ?_); rintro e wz ⟨rfl, gz⟩))
        go_ret2
        exact ⟨by rw [HV1.out]; rfl, hg0.trans (g6.trans gz)⟩
      · have q8 : ¬ (8192 : Int) < (S.length : Int) := by omega
        have HV1 : Sec (V = (S, 0)) := sec (by rw [HR.out, if_neg h8])
        clear h8 HR
        go_wp2_with (first
        | (go_at_call 13; (with_reducible refine Calls.mono (HNk.out _ _ _ _ (by first | (simp; done) | (simp; omega)) d1) ?_); rintro e w3 ⟨rfl, d3, kw3, -⟩; have g3 : Gr wa w3 := Below.trans g2 (Below.mono kw3 hgle); obtain ⟨w3c0, w3c1, w3c2, w3c3, w3c4, w3c5, w3c6, w3c7, w3c8⟩ := HCELL.out w3 g3)
        | (go_at_call 15; (with_reducible refine Calls.mono (HBg.out _ _ _ _ (by first | (simp; done) | (simp; omega)) d3) ?_); rintro e w4 ⟨rfl, d4, kw4, -⟩; have g4 : Gr wa w4 := Below.trans g3 (Below.mono kw4 hgle); obtain ⟨w4c0, w4c1, w4c2, w4c3, w4c4, w4c5, w4c6, w4c7, w4c8⟩ := HCELL.out w4 g4)
        | (go_at_call 14; (with_reducible refine Calls.mono (HTw.out _ _ _ _ (by first | (simp; done) | (simp; omega)) d4) ?_); rintro e w5 ⟨rfl, d5, kw5, -⟩; have g5 : Gr wa w5 := Below.trans g4 (Below.mono kw5 hgle); obtain ⟨w5c0, w5c1, w5c2, w5c3, w5c4, w5c5, w5c6, w5c7, w5c8⟩ := HCELL.out w5 g5)
        | (go_at_call 14; (with_reducible refine Calls.mono (HTn.out _ _ _ _ (by first | (simp; done) | (simp; omega)) d5) ?_); rintro e w6 ⟨rfl, d6, kw6, -⟩; have g6 : Gr wa w6 := Below.trans g5 (Below.mono kw6 hgle))
        | (go_at_call 16; (with_reducible refine Calls.mono (HDn.out S _ _ _ _ d6 HSL.out) ?_); rintro e wz ⟨rfl, gz⟩))
        go_ret2
        exact ⟨by rw [HV1.out]; rfl, hg0.trans (g6.trans gz)⟩
  · have HR : Sec (obEnc o = ([], obE o)) := sec (by unfold obEnc; rw [if_neg hE])
    rw [HR.out]
    obtain ⟨E, hEE⟩ : ∃ E, E = obE o := ⟨_, rfl⟩
    rw [← hEE] at HGo hE
    rw [← hEE]
    have m0 : (E != 0) = true := by simpa using hE
    have HCELL : Sec (∀ w', Gr wa w' → w'.cell? ⟨p, 0, none⟩ = some (.int .i64 o.kind) ∧ w'.cell? ⟨p, 1, none⟩ = some (.string (bs o.data)) ∧ w'.cell? ⟨p, 2, none⟩ = some (.slice A o.ents.length c) ∧ w'.cell? ⟨p, 3, none⟩ = some (.string (bs o.tree)) ∧ w'.cell? ⟨p, 4, none⟩ = some (.slice B o.pars.length d) ∧ w'.cell? ⟨p, 5, none⟩ = some (.string (bs o.who)) ∧ w'.cell? ⟨p, 6, none⟩ = some (.string (bs o.note)) ∧ w'.cell? ⟨p, 7, none⟩ = some (.int .i64 o.time) ∧ w'.cell? ⟨p, 8, none⟩ = some (.string (bs o.target))) := sec (fun w' g => ⟨(hb.gr g).cell 0, (hb.gr g).cell 1, (hb.gr g).cell 2, (hb.gr g).cell 3, (hb.gr g).cell 4, (hb.gr g).cell 5, (hb.gr g).cell 6, (hb.gr g).cell 7, (hb.gr g).cell 8⟩)
    clear hEE HR hz
    unfold obA at hwa HGo hb
    unfold obA
    go_enter Try.func4, Try.ntmps4
    go_upto_region 1 with fail
    rw [← hwa, ← hp]
    clear hwa hp
    obtain ⟨c0, c1, c2, c3, c4, c5, c6, c7, c8⟩ := HCELL.out wa (Gr.refl _)
    go_wp2_with (go_at_call 7; (with_reducible refine Calls.mono HGo.out ?_); rintro e w1 ⟨rfl, g1⟩)
    go_ret2
    exact ⟨rfl, hg0.trans g1⟩
end Go.Proofs.Ytmgpllakpgjicaa

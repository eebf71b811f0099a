/-
  PkT: contracts and plain laws joined (10 texts). No conditions but those that each states.
-/
import Derived.Test.YtmgpllakpgjicaaDoorNumber
import Derived.Test.YtmgpllakpgjicaaDoorWireN
import Derived.Test.YtmgpllakpgjicaaDoorElems
import Derived.Lib.AppendStr
import Derived.Test.YtmgpllakpgjicaaDoorWrtC
import Derived.Test.YtmgpllakpgjicaaDoorObG
import Derived.Test.YtmgpllakpgjicaaDoorObL
import Derived.Deep.CutBlock
import Derived.Deep.QuietTactic
import Derived.BigQuiet
import Derived.Test.YtmgpllakpgjicaaDoorEnd
import Derived.Test.YtmgpllakpgjicaaDoorRBlock
import Derived.Deep.RegionHeld3
import Derived.Test.YtmgpllakpgjicaaDoorObD
import Derived.Test.YtmgpllakpgjicaaDoorRObD
namespace Go.Proofs.YtmgpllakpgjicaaDoor
open Go.RowKit
set_option maxRecDepth 100000 in
theorem wrText (B g : Nat) (q : St2) (t : List UInt8) (w : World) (h : WrAt w B g q) (hlen : q.1.length ≤ 35184372080000) :
    Calls Tryd.prog 55 #[.pointer (some ⟨g, 0, none⟩), .string (bs t)] w fun e w' => e = .returned (.tuple #[]) ∧ WrAt w' B g (wTxt t q) ∧ Below B w w' ∧ KeepT g w w' := by
  obtain ⟨l, er⟩ := q
  obtain ⟨A, cap, hb, ho⟩ := h.ex
  have hg := h.base
  have hB : B ≤ w.heap.size := by have := hb.lt; omega
  simp only at hb ho hlen
  have hc0 : w.cell? ⟨g, 0, none⟩ = some (.slice A l.length cap) := hb.cell 0
  have hc1 : w.cell? ⟨g, 1, none⟩ = some (.int .i64 (er : Int)) := hb.cell 1
  by_cases he : er = 0
  · subst he
    by_cases hn : t.length ≤ 4096
    · have h9 := num_len9 (n := t.length) (by omega)
      have hx : (txt t).length = (num t.length).length + t.length := by simp [txt]
      have hx' : (txt t).length ≤ 4105 := by omega
      clear hx h9
      go_enter Tryd.func55, Tryd.ntmps55
      go_wp2_with (first
        | (go_at_call 83; refine (puttext_ok [] _ _ (by simp) hn).mono ?_; rintro e w1 ⟨rfl, g1⟩; rw [List.nil_append]; have hb1 := hb.gr g1; have c0 : w1.cell? ⟨g, 0, none⟩ = some (.slice A l.length cap) := hb1.cell 0; have ho1 := own_gr ho g1; have hB1 : B ≤ w1.heap.size := by have := g1.size; omega)
        | (at_builtin; refine wpList_append_str E.u8 Tryd.underlying9 rfl (.tmp 25) (.tmp 26) rfl rfl ho1 rfl (by first | omega | (simp; omega)) hB1 ?_; intro A2 cap2 w2 ho2 hg2; have hb2 := blk_own hb1 ho1 (by decide) hg2; have d0 : w2.cell? ⟨g, 0, none⟩ = some (.slice A l.length cap) := hb2.cell 0; have d1 : w2.cell? ⟨g, 1, none⟩ = some (.int .i64 ((0 : Nat) : Int)) := hb2.cell 1; have f0 := hb2.frozen 0; have f1 := hb2.frozen 1))
      first | go_end0 | refine bodyPost_ret (results_none rfl _ _ _) rfl ?_
      obtain ⟨r1, r2, r3⟩ := wr_done (e' := 0) hg hb1 ho1 ho2 hg2 hB1 (by first | omega | (simp; omega))
      exact ⟨rfl, by simpa [wTxt, hn] using r1, (g1.below.mono hB).trans (by simpa using r2), (KeepT.gr g1).trans (by simpa using r3)⟩
    · go_enter Tryd.func55, Tryd.ntmps55
      go_wp2_with (first
        | (go_at_call 83; refine (puttext_long [] _ _ (by omega)).mono ?_; rintro e w1 ⟨rfl, rfl⟩; have hb1 := hb; have ho1 := ho; have hB1 := hB)
        | (at_builtin; refine wpList_append_str (s := []) E.u8 Tryd.underlying9 rfl (.tmp 25) (.tmp 26) rfl rfl ho1 rfl (by first | omega | (simp; omega)) hB1 ?_; intro A2 cap2 w2 ho2 hg2; rw [List.append_nil] at ho2; have hb2 := blk_own hb1 ho1 (by decide) hg2; have d0 : w2.cell? ⟨g, 0, none⟩ = some (.slice A l.length cap) := hb2.cell 0; have d1 : w2.cell? ⟨g, 1, none⟩ = some (.int .i64 ((0 : Nat) : Int)) := hb2.cell 1; have f0 := hb2.frozen 0; have f1 := hb2.frozen 1))
      first | go_end0 | refine bodyPost_ret (results_none rfl _ _ _) rfl ?_
      obtain ⟨r1, r2, r3⟩ := wr_done (e' := 1) hg hb1 ho1 ho2 hg2 hB1 (by first | omega | (simp; omega))
      exact ⟨rfl, by simpa [wTxt, hn] using r1, by first | exact r2 | simpa using r2, by first | exact r3 | simpa using r3⟩
  · have he' : ((er : Int) == 0) = false := by simpa using he
    have he2 : ((er : Int) != 0) = true := by simpa using he
    go_enter Tryd.func55, Tryd.ntmps55
    go_wp2
    first | go_end0 | refine bodyPost_ret (results_none rfl _ _ _) rfl ?_
    exact ⟨rfl, by simpa [wTxt, he] using h, Below.refl _ _, KeepT.refl _ _⟩

end Go.Proofs.YtmgpllakpgjicaaDoor

namespace Go.Proofs.YtmgpllakpgjicaaDoor
set_option maxRecDepth 100000
open Go.RowKit
set_option linter.unusedVariables false
/-- a writer's piece put behind what it holds -/
abbrev Puts (f : FuncId) (v : Value) (P : List UInt8) : Prop := ∀ B g w l, l.length ≤ 20000 → WrAt w B g (l, 0) → Calls Tryd.prog f #[.pointer (some ⟨g, 0, none⟩), v] w fun e w' => e = .returned (.tuple #[]) ∧ WrAt w' B g (l ++ P, 0) ∧ Below B w w' ∧ KeepT g w w'
theorem puts_num (n : Int) (h : 0 ≤ n ∧ n < 4611686018427387904) : Puts 53 (.int .i64 n) (numS n) := fun B g w l hl hd => by
  have := wrNumber B g (l, 0) n w hd (by simp only; omega)
  have e : wNum n (l, 0) = (l ++ numS n, 0) := by unfold wNum; rw [if_pos rfl, if_pos h]
  rwa [e] at this
theorem puts_txt (t : List UInt8) (h : t.length ≤ 4096) : Puts 55 (.string (bs t)) (txt t) := fun B g w l hl hd => by
  have := wrText B g (l, 0) t w hd (by simp only; omega)
  have e : wTxt t (l, 0) = (l ++ txt t, 0) := by unfold wTxt; rw [if_pos rfl, if_pos h]
  rwa [e] at this
theorem puts_byt (t : List UInt8) (h : t.length ≤ 20000) : Puts 52 (.string (bs t)) t := fun B g w l hl hd => by
  have := wrBytes B g (l, 0) t w hd (by simp only; omega)
  have e : wByt t (l, 0) = (l ++ t, 0) := by unfold wByt; rw [if_pos rfl]
  rwa [e] at this

set_option maxHeartbeats 32000000 in
theorem obEncode_any (o : Ob) (A : Option Addr) (c : Nat) (B : Option Addr) (d : Nat) (w : World) (hR : ObR w o A c B d) (hz : ObSz 1099511627776 o) :
    Calls Tryd.prog 48 #[.agg (obA o A c B d)] w fun e w' => e = .returned (.tuple #[.string (bs (obEnc o).1), .int .i64 (obEnc o).2]) ∧ Gr w w' := by
  have hel := hz.ents
  have hpl := hz.pars
  obtain ⟨wa, hwa⟩ : ∃ x, x = w.alloc (.cells (obA o A c B d) 25) := ⟨_, rfl⟩
  have hb : Blk wa w.heap.size 25 (obA o A c B d) := by rw [hwa]; exact Blk.new w _ _
  have hg0 : Gr w wa := by rw [hwa]; exact (Gr.refl w).alloc _
  have HEN := sec (hR.ents.gr hg0)
  have HPA := sec (hR.pars.gr hg0)
  obtain ⟨p, hp⟩ : ∃ p, p = w.heap.size := ⟨_, rfl⟩
  rw [← hp] at hb
  have HGo : Sec (Calls Tryd.prog 38 #[.agg (obA o A c B d)] wa fun e w' => e = .returned (.int .i64 (obE o)) ∧ Gr wa w') := sec (obGood_any o A c B d wa (hR.gr hg0) hz)
  have HW0 : Sec (∀ w1 : World, WrAt (w1.alloc (.cells #[.slice none 0 0, .int .i64 0] 79)) w1.heap.size w1.heap.size ([], 0)) := sec (fun w1 => ⟨⟨none, 0, Blk.new w1 _ _, World.ownsRow_nil _ _ _ _⟩, Nat.le_refl _, by simp⟩)
  have HDn : Sec (∀ S B g w l, WrAt w B g (l, 0) → l = S → Calls Tryd.prog 56 #[.pointer (some ⟨g, 0, none⟩)] w fun e w' => e = .returned (.tuple #[.string (bs S), .int .i64 0]) ∧ Gr w w') := sec (fun S B g w l h e => by subst e; exact wrDone B g (l, 0) w h)
  by_cases hE : obE o = 0
  · have hok := obE_zero hE
    have HOK := sec hok
    have HR : Sec (obEnc o = if 8192 < (obS o).length then ([], 1) else (obS o, 0)) := sec (by unfold obEnc; rw [if_pos hE])
    have hlen := obS_le hok
    have HEB := sec hok.each
    have HPB := sec hok.peach
    have hk1 := hok.kind
    rw [hE] at HGo
    have HNk := sec (puts_num o.kind ⟨by omega, by omega⟩)
    have HTd := sec (puts_txt o.data hok.data)
    have HNe := sec (puts_num (o.ents.length : Int) ⟨by omega, by have := hok.ents; omega⟩)
    have HBt := sec (puts_byt o.tree (by have := hok.tree; omega))
    have HNp := sec (puts_num (o.pars.length : Int) ⟨by omega, by have := hok.pars; omega⟩)
    have HTw := sec (puts_txt o.who hok.who)
    have HNt := sec (puts_num o.time ⟨hok.time.1, by have := hok.time.2; omega⟩)
    have HTn := sec (puts_txt o.note hok.note)
    have HBg := sec (puts_byt o.target (by have := hok.target; omega))
    have HX : Sec (∀ x ∈ o.ents, Puts 55 (.string (bs x.nm)) (txt x.nm) ∧ Puts 53 (.int .i64 (if x.dir then 1 else 0)) (numS (if x.dir then 1 else 0)) ∧ Puts 52 (.string (bs x.id)) x.id) := sec (fun x hx => ⟨puts_txt _ (by have := (hok.each x hx).1; omega), puts_num _ (by split <;> omega), puts_byt _ (by have := (hok.each x hx).2; omega)⟩)
    have HP : Sec (∀ x ∈ o.pars, Puts 52 (.string (bs x)) x) := sec (fun x hx => puts_byt _ (by have := hok.peach x hx; omega))
    have l1 := numS_le (n := o.kind)
    have l2 := txt_le o.data (by have := hok.data; omega)
    have l3 := numS_le (n := (o.ents.length : Int))
    have l4 := hok.tree
    have l5 := numS_le (n := (o.pars.length : Int))
    have l6 := txt_le o.who (by have := hok.who; omega)
    have l7 := numS_le (n := o.time)
    have l8 := txt_le o.note (by have := hok.note; omega)
    have l9 := hok.target
    have la := hok.data
    have lb := hok.who
    have lc := hok.note
    have LEN : Sec (∀ i, (enSs (o.ents.take i)).length ≤ 7040) := sec (fun i => by
      have h1 := enSs_le (o.ents.take i) (fun x hx => hok.each x (List.mem_of_mem_take hx))
      have h2 : (o.ents.take i).length ≤ 64 := by rw [List.length_take]; have := hok.ents; omega
      omega)
    have LPN : Sec (∀ i, ((o.pars.take i).flatten).length ≤ 128) := sec (fun i => by
      have h1 := flat32_le (o.pars.take i) (fun x hx => hok.peach x (List.mem_of_mem_take hx))
      have h2 : (o.pars.take i).length ≤ 4 := by rw [List.length_take]; have := hok.pars; omega
      omega)
    obtain ⟨V, hV⟩ : ∃ V, V = obEnc o := ⟨_, rfl⟩
    rw [← hV] at HR ⊢
    clear hV hE hz hR hok
    obtain ⟨kd, dt, en, tr, pa, wh, no, ti, ta⟩ := o
    simp only at HEN HPA HNk HTd HNe HBt HNp HTw HNt HTn HBg HX HP l1 l2 l3 l4 l5 l6 l7 l8 l9 la lb lc LEN LPN HEB HPB hel hpl hk1
    unfold obA at hb hwa HGo
    unfold obA
    simp only at hb hwa HGo ⊢
    have HCELL : Sec (∀ w', Gr wa w' → w'.cell? ⟨p, 0, none⟩ = some (.int .i64 kd) ∧ w'.cell? ⟨p, 1, none⟩ = some (.string (bs dt)) ∧ w'.cell? ⟨p, 2, none⟩ = some (.slice A en.length c) ∧ w'.cell? ⟨p, 3, none⟩ = some (.string (bs tr)) ∧ w'.cell? ⟨p, 4, none⟩ = some (.slice B pa.length d) ∧ w'.cell? ⟨p, 5, none⟩ = some (.string (bs wh)) ∧ w'.cell? ⟨p, 6, none⟩ = some (.string (bs no)) ∧ w'.cell? ⟨p, 7, none⟩ = some (.int .i64 ti) ∧ w'.cell? ⟨p, 8, none⟩ = some (.string (bs ta))) := sec (fun w' g => ⟨(hb.gr g).cell 0, (hb.gr g).cell 1, (hb.gr g).cell 2, (hb.gr g).cell 3, (hb.gr g).cell 4, (hb.gr g).cell 5, (hb.gr g).cell 6, (hb.gr g).cell 7, (hb.gr g).cell 8⟩)
    clear hb
    go_enter Tryd.func48, Tryd.ntmps48
    go_upto_region 1 with fail
    rw [← hwa, ← hp]
    clear hwa hp
    obtain ⟨c0, c1, c2, c3, c4, c5, c6, c7, c8⟩ := HCELL.out wa (Gr.refl _)
    have HRS : Sec (obS ⟨kd, dt, en, tr, pa, wh, no, ti, ta⟩ = numS kd ++ obB ⟨kd, dt, en, tr, pa, wh, no, ti, ta⟩) := sec rfl
    obtain ⟨S, hS⟩ : ∃ S, S = obS ⟨kd, dt, en, tr, pa, wh, no, ti, ta⟩ := ⟨_, rfl⟩
    rw [← hS] at HR HRS hlen
    have HB1 : Sec (kd = 1 → S = numS kd ++ txt dt) := sec (fun h => by rw [HRS.out]; unfold obB; rw [if_pos h])
    have HB2 : Sec (kd = 2 → S = numS kd ++ (numS (en.length : Int) ++ enSs en)) := sec (fun h => by rw [HRS.out]; unfold obB; rw [if_neg (by simp only; omega), if_pos h])
    have HB3 : Sec (kd = 3 → S = numS kd ++ (tr ++ (numS (pa.length : Int) ++ (pa.flatten ++ (txt wh ++ (numS ti ++ txt no)))))) := sec (fun h => by rw [HRS.out]; unfold obB; rw [if_neg (by simp only; omega), if_neg (by simp only; omega), if_pos h])
    have HB4 : Sec (kd = 4 → S = numS kd ++ (ta ++ (txt wh ++ txt no))) := sec (fun h => by rw [HRS.out]; unfold obB; rw [if_neg (by simp only; omega), if_neg (by simp only; omega), if_neg (by simp only; omega)])
    clear hS HRS
    obtain ⟨N0, h0⟩ : ∃ x, x = numS kd := ⟨_, rfl⟩
    rw [← h0] at HNk l1 HB1 HB2 HB3 HB4
    obtain ⟨T1, h1⟩ : ∃ x, x = txt dt := ⟨_, rfl⟩
    rw [← h1] at HTd l2 HB1
    obtain ⟨N2, h2⟩ : ∃ x, x = numS (en.length : Int) := ⟨_, rfl⟩
    rw [← h2] at HNe l3 HB2
    obtain ⟨N3, h3⟩ : ∃ x, x = numS (pa.length : Int) := ⟨_, rfl⟩
    rw [← h3] at HNp l5 HB3
    obtain ⟨T2, h4⟩ : ∃ x, x = txt wh := ⟨_, rfl⟩
    rw [← h4] at HTw l6 HB3 HB4
    obtain ⟨N4, h5⟩ : ∃ x, x = numS ti := ⟨_, rfl⟩
    rw [← h5] at HNt l7 HB3
    obtain ⟨T3, h6⟩ : ∃ x, x = txt no := ⟨_, rfl⟩
    rw [← h6] at HTn l8 HB3 HB4
    clear h0 h1 h2 h3 h4 h5 h6
    go_upto_region 5 with (go_at_call 38; (with_reducible refine Calls.mono HGo.out ?_); rintro e w1 ⟨rfl, g1⟩)
    clear c0 c1 c2 c3 c4 c5 c6 c7 c8 HGo
    have d1 := HW0.out w1
    have g2 : Gr wa (w1.alloc (.cells #[.slice none 0 0, .int .i64 0] 79)) := g1.alloc _
    obtain ⟨w2, hw2⟩ : ∃ x, x = w1.alloc (.cells #[.slice none 0 0, .int .i64 0] 79) := ⟨_, rfl⟩
    have hgle : wa.heap.size ≤ w1.heap.size := g1.size
    obtain ⟨g, hg⟩ : ∃ g, g = w1.heap.size := ⟨_, rfl⟩
    rw [← hw2, ← hg] at d1
    rw [← hw2] at g2
    rw [← hg] at hgle
    rw [← hw2, ← hg]
    clear hw2 hg HW0 g1
    obtain ⟨c0, c1, c2, c3, c4, c5, c6, c7, c8⟩ := HCELL.out w2 g2
    rcases (by omega : kd = 1 ∨ kd = 2 ∨ kd = 3 ∨ kd = 4) with rfl | rfl | rfl | rfl
    · skip
      have HSL : Sec ([] ++ N0 ++ T1 = S) := sec (by rw [HB1.out (by trivial)]; simp)
      by_cases h8 : 8192 < S.length
      · have q8 : (8192 : Int) < (S.length : Int) := by omega
        have HV1 : Sec (V = ([], 1)) := sec (by rw [HR.out, if_pos h8])
        clear h8 HR
        go_wp2_with (first
        | (go_at_call 53; (with_reducible refine Calls.mono (HNk.out _ _ _ _ (by first | (simp; done) | (simp; omega)) d1) ?_); rintro e w3 ⟨rfl, d3, kw3, -⟩; have g3 : Gr wa w3 := Below.trans g2 (Below.mono kw3 hgle); obtain ⟨w3c0, w3c1, w3c2, w3c3, w3c4, w3c5, w3c6, w3c7, w3c8⟩ := HCELL.out w3 g3)
        | (go_at_call 55; (with_reducible refine Calls.mono (HTd.out _ _ _ _ (by first | (simp; done) | (simp; omega)) d3) ?_); rintro e w4 ⟨rfl, d4, kw4, -⟩; have g4 : Gr wa w4 := Below.trans g3 (Below.mono kw4 hgle))
        | (go_at_call 56; (with_reducible refine Calls.mono (HDn.out S _ _ _ _ d4 HSL.out) ?_); rintro e wz ⟨rfl, gz⟩))
        go_ret2
        exact ⟨by rw [HV1.out]; rfl, hg0.trans (g4.trans gz)⟩
      · have q8 : ¬ (8192 : Int) < (S.length : Int) := by omega
        have HV1 : Sec (V = (S, 0)) := sec (by rw [HR.out, if_neg h8])
        clear h8 HR
        go_wp2_with (first
        | (go_at_call 53; (with_reducible refine Calls.mono (HNk.out _ _ _ _ (by first | (simp; done) | (simp; omega)) d1) ?_); rintro e w3 ⟨rfl, d3, kw3, -⟩; have g3 : Gr wa w3 := Below.trans g2 (Below.mono kw3 hgle); obtain ⟨w3c0, w3c1, w3c2, w3c3, w3c4, w3c5, w3c6, w3c7, w3c8⟩ := HCELL.out w3 g3)
        | (go_at_call 55; (with_reducible refine Calls.mono (HTd.out _ _ _ _ (by first | (simp; done) | (simp; omega)) d3) ?_); rintro e w4 ⟨rfl, d4, kw4, -⟩; have g4 : Gr wa w4 := Below.trans g3 (Below.mono kw4 hgle))
        | (go_at_call 56; (with_reducible refine Calls.mono (HDn.out S _ _ _ _ d4 HSL.out) ?_); rintro e wz ⟨rfl, gz⟩))
        go_ret2
        exact ⟨by rw [HV1.out]; rfl, hg0.trans (g4.trans gz)⟩
    · skip
      go_upto_region 11 with (first
      | (go_at_call 53; (with_reducible refine Calls.mono (HNk.out _ _ _ _ (by first | (simp; done) | (simp; omega)) d1) ?_); rintro e w3 ⟨rfl, d3, kw3, -⟩; have g3 : Gr wa w3 := Below.trans g2 (Below.mono kw3 hgle); obtain ⟨w3c0, w3c1, w3c2, w3c3, w3c4, w3c5, w3c6, w3c7, w3c8⟩ := HCELL.out w3 g3)
      | (go_at_call 53; (with_reducible refine Calls.mono (HNe.out _ _ _ _ (by first | (simp; done) | (simp; omega)) d3) ?_); rintro e w4 ⟨rfl, d4, kw4, -⟩; have g4 : Gr wa w4 := Below.trans g3 (Below.mono kw4 hgle); obtain ⟨w4c0, w4c1, w4c2, w4c3, w4c4, w4c5, w4c6, w4c7, w4c8⟩ := HCELL.out w4 g4))
      go_wp2_with fail
      clear c0 c1 c2 c3 c4 c5 c6 c7 c8 w3c0 w3c1 w3c2 w3c3 w3c4 w3c5 w3c6 w3c7 w3c8 w4c0 w4c1 w4c2 w4c3 w4c4 w4c5 w4c6 w4c7 w4c8
      go_loopg [42, 7, 8] en.length (fun fuel iv _ _ wr => ∃ i : Nat, iv = .int .i64 (i : Int) ∧ en.length ≤ i + fuel ∧ i ≤ en.length ∧ WrAt wr g g ([] ++ N0 ++ N2 ++ enSs (en.take i), 0) ∧ Gr wa wr)
      case atStart => exact ⟨0, rfl, by omega, by omega, by simpa [enSs] using d4, g4⟩
      case round =>
        clear d1 d3 d4 g2 g3 g4 kw3 kw4
        obtain ⟨i, rfl, hik, hi, dw, gw⟩ := hrel
        obtain ⟨c0, c1, c2, c3, c4, c5, c6, c7, c8⟩ := HCELL.out wr gw
        by_cases hlt : i < en.length
        · have hii : (i : Int) < (en.length : Int) := by omega
          obtain ⟨b, off, rfl, e0, e1, e2⟩ := (HEN.out.gr gw).cell hlt
          have HSU := sec (enSs_take en i hlt)
          have HXi := HX.out _ (List.getElem_mem hlt)
          have hxb := HEB.out _ (List.getElem_mem hlt)
          have hln := LEN.out i
          obtain ⟨x, hxx⟩ : ∃ x, x = en[i] := ⟨_, rfl⟩
          rw [← hxx] at e0 e1 e2 HSU HXi hxb
          obtain ⟨L, hL⟩ : ∃ L, L = enSs (en.take i) := ⟨_, rfl⟩
          rw [← hL] at dw HSU hln
          have HLT := sec hlt
          clear hxx hlt hL
          obtain ⟨nm, dr, id⟩ := x
          simp only at e0 e1 e2 HSU HXi hxb
          obtain ⟨hx1, hx2, hx3⟩ := HXi
          have HX1 := sec hx1
          have HX2 := sec hx2
          have HX3 := sec hx3
          have lx1 := txt_le nm (by omega)
          have lx2 := numS_le (n := if dr then 1 else 0)
          have lx3 : id.length ≤ 32 := by omega
          have lx4 : nm.length ≤ 60 := hxb.1
          have hgw : g < wr.heap.size := by obtain ⟨_, _, hb, _⟩ := dw.ex; exact hb.lt
          clear hx1 hx2 hx3 hxb
          obtain ⟨E1, hE1⟩ : ∃ x, x = txt nm := ⟨_, rfl⟩
          have HSU1 : Sec (enSs (en.take (i + 1)) = L ++ (E1 ++ (numS (if dr then 1 else 0) ++ id))) := sec (by rw [HSU.out, hE1]; rfl)
          rw [← hE1] at HX1 lx1
          clear hE1 HSU
          go_upto_region 14 with fail
          have hFB := Blk.new wr 57 #[.string (bs nm), .bool dr, .string (bs id)]
          have gx := gw.alloc (.cells #[.string (bs nm), .bool dr, .string (bs id)] 57)
          have dx := dw.gr ((Gr.refl wr).alloc (.cells #[.string (bs nm), .bool dr, .string (bs id)] 57))
          obtain ⟨wx, hwx⟩ : ∃ x, x = wr.alloc (.cells #[.string (bs nm), .bool dr, .string (bs id)] 57) := ⟨_, rfl⟩
          obtain ⟨q, hq⟩ : ∃ q, q = wr.heap.size := ⟨_, rfl⟩
          have hqg : q ≠ g := by omega
          rw [← hwx] at hFB gx dx
          rw [← hq] at hFB
          rw [← hwx, ← hq]
          clear hwx hq e0 e1 e2 dw gw hgw c0 c1 c2 c3 c4 c5 c6 c7 c8
          have x0 := hFB.cell 0
          have x1 := hFB.cell 1
          have x2 := hFB.cell 2
          cases dr with
          | true =>
            have HX2' : Sec (Puts 53 (.int .i64 1) (numS 1)) := sec HX2.out
            have lx2' : (numS 1).length ≤ 9 := numS_le
            have HSU2 : Sec (enSs (en.take (i + 1)) = L ++ (E1 ++ (numS 1 ++ id))) := sec HSU1.out
            obtain ⟨E2, hE2⟩ : ∃ x, x = numS 1 := ⟨_, rfl⟩
            rw [← hE2] at HX2' lx2' HSU2
            clear HX2 lx2 HSU1 hE2
            go_wp2_with (first
            | (go_at_call 55; (with_reducible refine Calls.mono (HX1.out _ _ _ _ (by first | (simp; done) | (simp; omega)) dx) ?_); rintro e w5 ⟨rfl, d5, kw5, ktw5⟩; have g5 : Gr wa w5 := Below.trans gx (Below.mono kw5 hgle); have b5 := ktw5 q _ 57 hqg (by decide) hFB; have w5x0 := b5.cell 0; have w5x1 := b5.cell 1; have w5x2 := b5.cell 2)
            | (go_at_call 53; (with_reducible refine Calls.mono (HX2'.out _ _ _ _ (by first | (simp; done) | (simp; omega)) d5) ?_); rintro e w6 ⟨rfl, d6, kw6, ktw6⟩; have g6 : Gr wa w6 := Below.trans g5 (Below.mono kw6 hgle); have b6 := ktw6 q _ 57 hqg (by decide) b5; have w6x0 := b6.cell 0; have w6x1 := b6.cell 1; have w6x2 := b6.cell 2)
            | (go_at_call 52; (with_reducible refine Calls.mono (HX3.out _ _ _ _ (by first | (simp; done) | (simp; omega)) d6) ?_); rintro e w7 ⟨rfl, d7, kw7, ktw7⟩; have g7 : Gr wa w7 := Below.trans g6 (Below.mono kw7 hgle); have b7 := ktw7 q _ 57 hqg (by decide) b6; have w7x0 := b7.cell 0; have w7x1 := b7.cell 1; have w7x2 := b7.cell 2))
            go_roundg (gk - 1)
            case rel => exact ⟨i + 1, by go_num, by have := HLT.out; omega, HLT.out, by rw [HSU2.out]; simpa using d7, g7⟩
            case measure => have := HLT.out; omega
          | false =>
            have HX2' : Sec (Puts 53 (.int .i64 0) (numS 0)) := sec HX2.out
            have lx2' : (numS 0).length ≤ 9 := numS_le
            have HSU2 : Sec (enSs (en.take (i + 1)) = L ++ (E1 ++ (numS 0 ++ id))) := sec HSU1.out
            obtain ⟨E2, hE2⟩ : ∃ x, x = numS 0 := ⟨_, rfl⟩
            rw [← hE2] at HX2' lx2' HSU2
            clear HX2 lx2 HSU1 hE2
            go_wp2_with (first
            | (go_at_call 55; (with_reducible refine Calls.mono (HX1.out _ _ _ _ (by first | (simp; done) | (simp; omega)) dx) ?_); rintro e w5 ⟨rfl, d5, kw5, ktw5⟩; have g5 : Gr wa w5 := Below.trans gx (Below.mono kw5 hgle); have b5 := ktw5 q _ 57 hqg (by decide) hFB; have w5x0 := b5.cell 0; have w5x1 := b5.cell 1; have w5x2 := b5.cell 2)
            | (go_at_call 53; (with_reducible refine Calls.mono (HX2'.out _ _ _ _ (by first | (simp; done) | (simp; omega)) d5) ?_); rintro e w6 ⟨rfl, d6, kw6, ktw6⟩; have g6 : Gr wa w6 := Below.trans g5 (Below.mono kw6 hgle); have b6 := ktw6 q _ 57 hqg (by decide) b5; have w6x0 := b6.cell 0; have w6x1 := b6.cell 1; have w6x2 := b6.cell 2)
            | (go_at_call 52; (with_reducible refine Calls.mono (HX3.out _ _ _ _ (by first | (simp; done) | (simp; omega)) d6) ?_); rintro e w7 ⟨rfl, d7, kw7, ktw7⟩; have g7 : Gr wa w7 := Below.trans g6 (Below.mono kw7 hgle); have b7 := ktw7 q _ 57 hqg (by decide) b6; have w7x0 := b7.cell 0; have w7x1 := b7.cell 1; have w7x2 := b7.cell 2))
            go_roundg (gk - 1)
            case rel => exact ⟨i + 1, by go_num, by have := HLT.out; omega, HLT.out, by rw [HSU2.out]; simpa using d7, g7⟩
            case measure => have := HLT.out; omega
        · have hii : ¬ (i : Int) < (en.length : Int) := by omega
          have q : decide (i < en.length) = false := decide_eq_false hlt
          have dz : WrAt wr g g ([] ++ N0 ++ N2 ++ enSs en, 0) := by rw [List.take_of_length_le (by omega)] at dw; exact dw
          have hln := LEN.out en.length
          rw [List.take_length] at hln
          obtain ⟨L, hL⟩ : ∃ L, L = enSs en := ⟨_, rfl⟩
          have HLL := sec hL
          rw [← hL] at dz hln
          clear hlt hik hi dw hL HX HEN
          have HSL : Sec ([] ++ N0 ++ N2 ++ L = S) := sec (by rw [HB2.out (by trivial), HLL.out]; simp)
          by_cases h8 : 8192 < S.length
          · have q8 : (8192 : Int) < (S.length : Int) := by omega
            have HV1 : Sec (V = ([], 1)) := sec (by rw [HR.out, if_pos h8])
            clear h8 HR
            go_wp2_with (first
            | (go_at_call 56; (with_reducible refine Calls.mono (HDn.out S _ _ _ _ dz HSL.out) ?_); rintro e wz ⟨rfl, gz⟩))
            go_ret2
            exact ⟨by rw [HV1.out]; rfl, hg0.trans (gw.trans gz)⟩
          · have q8 : ¬ (8192 : Int) < (S.length : Int) := by omega
            have HV1 : Sec (V = (S, 0)) := sec (by rw [HR.out, if_neg h8])
            clear h8 HR
            go_wp2_with (first
            | (go_at_call 56; (with_reducible refine Calls.mono (HDn.out S _ _ _ _ dz HSL.out) ?_); rintro e wz ⟨rfl, gz⟩))
            go_ret2
            exact ⟨by rw [HV1.out]; rfl, hg0.trans (gw.trans gz)⟩
    · skip
      go_upto_region 24 with (first
      | (go_at_call 53; (with_reducible refine Calls.mono (HNk.out _ _ _ _ (by first | (simp; done) | (simp; omega)) d1) ?_); rintro e w3 ⟨rfl, d3, kw3, -⟩; have g3 : Gr wa w3 := Below.trans g2 (Below.mono kw3 hgle); obtain ⟨w3c0, w3c1, w3c2, w3c3, w3c4, w3c5, w3c6, w3c7, w3c8⟩ := HCELL.out w3 g3)
      | (go_at_call 52; (with_reducible refine Calls.mono (HBt.out _ _ _ _ (by first | (simp; done) | (simp; omega)) d3) ?_); rintro e w4 ⟨rfl, d4, kw4, -⟩; have g4 : Gr wa w4 := Below.trans g3 (Below.mono kw4 hgle); obtain ⟨w4c0, w4c1, w4c2, w4c3, w4c4, w4c5, w4c6, w4c7, w4c8⟩ := HCELL.out w4 g4)
      | (go_at_call 53; (with_reducible refine Calls.mono (HNp.out _ _ _ _ (by first | (simp; done) | (simp; omega)) d4) ?_); rintro e w5 ⟨rfl, d5, kw5, -⟩; have g5 : Gr wa w5 := Below.trans g4 (Below.mono kw5 hgle); obtain ⟨w5c0, w5c1, w5c2, w5c3, w5c4, w5c5, w5c6, w5c7, w5c8⟩ := HCELL.out w5 g5))
      go_wp2_with fail
      clear c0 c1 c2 c3 c4 c5 c6 c7 c8 w3c0 w3c1 w3c2 w3c3 w3c4 w3c5 w3c6 w3c7 w3c8 w4c0 w4c1 w4c2 w4c3 w4c4 w4c5 w4c6 w4c7 w4c8 w5c0 w5c1 w5c2 w5c3 w5c4 w5c5 w5c6 w5c7 w5c8
      go_loopg [74, 10] pa.length (fun fuel iv _ wr => ∃ i : Nat, iv = .int .i64 (i : Int) ∧ pa.length ≤ i + fuel ∧ i ≤ pa.length ∧ WrAt wr g g ([] ++ N0 ++ tr ++ N3 ++ (pa.take i).flatten, 0) ∧ Gr wa wr)
      case atStart => exact ⟨0, rfl, by omega, by omega, by simpa using d5, g5⟩
      case round =>
        clear d1 d3 d4 d5 g2 g3 g4 g5 kw3 kw4 kw5
        obtain ⟨i, rfl, hik, hi, dw, gw⟩ := hrel
        obtain ⟨c0, c1, c2, c3, c4, c5, c6, c7, c8⟩ := HCELL.out wr gw
        by_cases hlt : i < pa.length
        · have hii : (i : Int) < (pa.length : Int) := by omega
          obtain ⟨b, off, rfl, e0⟩ := (HPA.out.gr gw).cell hlt
          have HSU := sec (flat_snoc pa i hlt)
          have HXi := sec (HP.out _ (List.getElem_mem hlt))
          have hxb := HPB.out _ (List.getElem_mem hlt)
          have hln := LPN.out i
          obtain ⟨x, hxx⟩ : ∃ x, x = pa[i] := ⟨_, rfl⟩
          rw [← hxx] at e0 HSU HXi hxb
          obtain ⟨L, hL⟩ : ∃ L, L = (pa.take i).flatten := ⟨_, rfl⟩
          rw [← hL] at dw HSU hln
          have HLT := sec hlt
          clear hxx hlt hL
          go_wp2_with (go_at_call 52; (with_reducible refine Calls.mono (HXi.out _ _ _ _ (by first | (simp; done) | (simp; omega)) dw) ?_); rintro e w6 ⟨rfl, d6, kw6, -⟩; have g6 : Gr wa w6 := Below.trans gw (Below.mono kw6 hgle))
          go_roundg (gk - 1)
          case rel => exact ⟨i + 1, by go_num, by have := HLT.out; omega, HLT.out, by rw [HSU.out]; simpa using d6, g6⟩
          case measure => have := HLT.out; omega
        · have hii : ¬ (i : Int) < (pa.length : Int) := by omega
          have q : decide (i < pa.length) = false := decide_eq_false hlt
          have dz : WrAt wr g g ([] ++ N0 ++ tr ++ N3 ++ pa.flatten, 0) := by rw [List.take_of_length_le (by omega)] at dw; exact dw
          have hln := LPN.out pa.length
          rw [List.take_length] at hln
          obtain ⟨L, hL⟩ : ∃ L, L = pa.flatten := ⟨_, rfl⟩
          have HLL := sec hL
          rw [← hL] at dz hln
          clear hlt hik hi dw hL HP HPA
          have HSL : Sec ([] ++ N0 ++ tr ++ N3 ++ L ++ T2 ++ N4 ++ T3 = S) := sec (by rw [HB3.out (by trivial), HLL.out]; simp)
          by_cases h8 : 8192 < S.length
          · have q8 : (8192 : Int) < (S.length : Int) := by omega
            have HV1 : Sec (V = ([], 1)) := sec (by rw [HR.out, if_pos h8])
            clear h8 HR
            go_wp2_with (first
            | (go_at_call 55; (with_reducible refine Calls.mono (HTw.out _ _ _ _ (by first | (simp; done) | (simp; omega)) dz) ?_); rintro e w6 ⟨rfl, d6, kw6, -⟩; have g6 : Gr wa w6 := Below.trans gw (Below.mono kw6 hgle); obtain ⟨w6c0, w6c1, w6c2, w6c3, w6c4, w6c5, w6c6, w6c7, w6c8⟩ := HCELL.out w6 g6)
            | (go_at_call 53; (with_reducible refine Calls.mono (HNt.out _ _ _ _ (by first | (simp; done) | (simp; omega)) d6) ?_); rintro e w7 ⟨rfl, d7, kw7, -⟩; have g7 : Gr wa w7 := Below.trans g6 (Below.mono kw7 hgle); obtain ⟨w7c0, w7c1, w7c2, w7c3, w7c4, w7c5, w7c6, w7c7, w7c8⟩ := HCELL.out w7 g7)
            | (go_at_call 55; (with_reducible refine Calls.mono (HTn.out _ _ _ _ (by first | (simp; done) | (simp; omega)) d7) ?_); rintro e w8 ⟨rfl, d8, kw8, -⟩; have g8 : Gr wa w8 := Below.trans g7 (Below.mono kw8 hgle))
            | (go_at_call 56; (with_reducible refine Calls.mono (HDn.out S _ _ _ _ d8 HSL.out) ?_); rintro e wz ⟨rfl, gz⟩))
            go_ret2
            exact ⟨by rw [HV1.out]; rfl, hg0.trans (g8.trans gz)⟩
          · have q8 : ¬ (8192 : Int) < (S.length : Int) := by omega
            have HV1 : Sec (V = (S, 0)) := sec (by rw [HR.out, if_neg h8])
            clear h8 HR
            go_wp2_with (first
            | (go_at_call 55; (with_reducible refine Calls.mono (HTw.out _ _ _ _ (by first | (simp; done) | (simp; omega)) dz) ?_); rintro e w6 ⟨rfl, d6, kw6, -⟩; have g6 : Gr wa w6 := Below.trans gw (Below.mono kw6 hgle); obtain ⟨w6c0, w6c1, w6c2, w6c3, w6c4, w6c5, w6c6, w6c7, w6c8⟩ := HCELL.out w6 g6)
            | (go_at_call 53; (with_reducible refine Calls.mono (HNt.out _ _ _ _ (by first | (simp; done) | (simp; omega)) d6) ?_); rintro e w7 ⟨rfl, d7, kw7, -⟩; have g7 : Gr wa w7 := Below.trans g6 (Below.mono kw7 hgle); obtain ⟨w7c0, w7c1, w7c2, w7c3, w7c4, w7c5, w7c6, w7c7, w7c8⟩ := HCELL.out w7 g7)
            | (go_at_call 55; (with_reducible refine Calls.mono (HTn.out _ _ _ _ (by first | (simp; done) | (simp; omega)) d7) ?_); rintro e w8 ⟨rfl, d8, kw8, -⟩; have g8 : Gr wa w8 := Below.trans g7 (Below.mono kw8 hgle))
            | (go_at_call 56; (with_reducible refine Calls.mono (HDn.out S _ _ _ _ d8 HSL.out) ?_); rintro e wz ⟨rfl, gz⟩))
            go_ret2
            exact ⟨by rw [HV1.out]; rfl, hg0.trans (g8.trans gz)⟩
    · skip
      have HSL : Sec ([] ++ N0 ++ ta ++ T2 ++ T3 = S) := sec (by rw [HB4.out (by trivial)]; simp)
      by_cases h8 : 8192 < S.length
      · have q8 : (8192 : Int) < (S.length : Int) := by omega
        have HV1 : Sec (V = ([], 1)) := sec (by rw [HR.out, if_pos h8])
        clear h8 HR
        go_wp2_with (first
        | (go_at_call 53; (with_reducible refine Calls.mono (HNk.out _ _ _ _ (by first | (simp; done) | (simp; omega)) d1) ?_); rintro e w3 ⟨rfl, d3, kw3, -⟩; have g3 : Gr wa w3 := Below.trans g2 (Below.mono kw3 hgle); obtain ⟨w3c0, w3c1, w3c2, w3c3, w3c4, w3c5, w3c6, w3c7, w3c8⟩ := HCELL.out w3 g3)
        | (go_at_call 52; (with_reducible refine Calls.mono (HBg.out _ _ _ _ (by first | (simp; done) | (simp; omega)) d3) ?_); rintro e w4 ⟨rfl, d4, kw4, -⟩; have g4 : Gr wa w4 := Below.trans g3 (Below.mono kw4 hgle); obtain ⟨w4c0, w4c1, w4c2, w4c3, w4c4, w4c5, w4c6, w4c7, w4c8⟩ := HCELL.out w4 g4)
        | (go_at_call 55; (with_reducible refine Calls.mono (HTw.out _ _ _ _ (by first | (simp; done) | (simp; omega)) d4) ?_); rintro e w5 ⟨rfl, d5, kw5, -⟩; have g5 : Gr wa w5 := Below.trans g4 (Below.mono kw5 hgle); obtain ⟨w5c0, w5c1, w5c2, w5c3, w5c4, w5c5, w5c6, w5c7, w5c8⟩ := HCELL.out w5 g5)
        | (go_at_call 55; (with_reducible refine Calls.mono (HTn.out _ _ _ _ (by first | (simp; done) | (simp; omega)) d5) ?_); rintro e w6 ⟨rfl, d6, kw6, -⟩; have g6 : Gr wa w6 := Below.trans g5 (Below.mono kw6 hgle))
        | (go_at_call 56; (with_reducible refine Calls.mono (HDn.out S _ _ _ _ d6 HSL.out) ?_); rintro e wz ⟨rfl, gz⟩))
        go_ret2
        exact ⟨by rw [HV1.out]; rfl, hg0.trans (g6.trans gz)⟩
      · have q8 : ¬ (8192 : Int) < (S.length : Int) := by omega
        have HV1 : Sec (V = (S, 0)) := sec (by rw [HR.out, if_neg h8])
        clear h8 HR
        go_wp2_with (first
        | (go_at_call 53; (with_reducible refine Calls.mono (HNk.out _ _ _ _ (by first | (simp; done) | (simp; omega)) d1) ?_); rintro e w3 ⟨rfl, d3, kw3, -⟩; have g3 : Gr wa w3 := Below.trans g2 (Below.mono kw3 hgle); obtain ⟨w3c0, w3c1, w3c2, w3c3, w3c4, w3c5, w3c6, w3c7, w3c8⟩ := HCELL.out w3 g3)
        | (go_at_call 52; (with_reducible refine Calls.mono (HBg.out _ _ _ _ (by first | (simp; done) | (simp; omega)) d3) ?_); rintro e w4 ⟨rfl, d4, kw4, -⟩; have g4 : Gr wa w4 := Below.trans g3 (Below.mono kw4 hgle); obtain ⟨w4c0, w4c1, w4c2, w4c3, w4c4, w4c5, w4c6, w4c7, w4c8⟩ := HCELL.out w4 g4)
        | (go_at_call 55; (with_reducible refine Calls.mono (HTw.out _ _ _ _ (by first | (simp; done) | (simp; omega)) d4) ?_); rintro e w5 ⟨rfl, d5, kw5, -⟩; have g5 : Gr wa w5 := Below.trans g4 (Below.mono kw5 hgle); obtain ⟨w5c0, w5c1, w5c2, w5c3, w5c4, w5c5, w5c6, w5c7, w5c8⟩ := HCELL.out w5 g5)
        | (go_at_call 55; (with_reducible refine Calls.mono (HTn.out _ _ _ _ (by first | (simp; done) | (simp; omega)) d5) ?_); rintro e w6 ⟨rfl, d6, kw6, -⟩; have g6 : Gr wa w6 := Below.trans g5 (Below.mono kw6 hgle))
        | (go_at_call 56; (with_reducible refine Calls.mono (HDn.out S _ _ _ _ d6 HSL.out) ?_); rintro e wz ⟨rfl, gz⟩))
        go_ret2
        exact ⟨by rw [HV1.out]; rfl, hg0.trans (g6.trans gz)⟩
  · have HR : Sec (obEnc o = ([], obE o)) := sec (by unfold obEnc; rw [if_neg hE])
    rw [HR.out]
    obtain ⟨E, hEE⟩ : ∃ E, E = obE o := ⟨_, rfl⟩
    rw [← hEE] at HGo hE
    rw [← hEE]
    have m0 : (E != 0) = true := by simpa using hE
    have HCELL : Sec (∀ w', Gr wa w' → w'.cell? ⟨p, 0, none⟩ = some (.int .i64 o.kind) ∧ w'.cell? ⟨p, 1, none⟩ = some (.string (bs o.data)) ∧ w'.cell? ⟨p, 2, none⟩ = some (.slice A o.ents.length c) ∧ w'.cell? ⟨p, 3, none⟩ = some (.string (bs o.tree)) ∧ w'.cell? ⟨p, 4, none⟩ = some (.slice B o.pars.length d) ∧ w'.cell? ⟨p, 5, none⟩ = some (.string (bs o.who)) ∧ w'.cell? ⟨p, 6, none⟩ = some (.string (bs o.note)) ∧ w'.cell? ⟨p, 7, none⟩ = some (.int .i64 o.time) ∧ w'.cell? ⟨p, 8, none⟩ = some (.string (bs o.target))) := sec (fun w' g => ⟨(hb.gr g).cell 0, (hb.gr g).cell 1, (hb.gr g).cell 2, (hb.gr g).cell 3, (hb.gr g).cell 4, (hb.gr g).cell 5, (hb.gr g).cell 6, (hb.gr g).cell 7, (hb.gr g).cell 8⟩)
    clear hEE HR hz
    unfold obA at hwa HGo hb
    unfold obA
    go_enter Tryd.func48, Tryd.ntmps48
    go_upto_region 1 with fail
    rw [← hwa, ← hp]
    clear hwa hp
    obtain ⟨c0, c1, c2, c3, c4, c5, c6, c7, c8⟩ := HCELL.out wa (Gr.refl _)
    go_wp2_with (go_at_call 38; (with_reducible refine Calls.mono HGo.out ?_); rintro e w1 ⟨rfl, g1⟩)
    go_ret2
    exact ⟨rfl, hg0.trans g1⟩
end Go.Proofs.YtmgpllakpgjicaaDoor

namespace Go.Proofs.YtmgpllakpgjicaaDoor
set_option maxRecDepth 100000
open Go.RowKit
set_option linter.unusedVariables false
def obTry : Ob := ⟨1, [97], [], [], [], [], [], 0, []⟩
theorem obTry_enc : obEnc obTry = ([1, 1, 97], 0) := by
  have h1 : obE obTry = 0 := by decide
  have h2 : obS obTry = [1, 1, 97] := by
    have e1 : numS (1 : Int) = [1] := by rw [numS_in (by omega) (by omega)]; exact num_small (by decide)
    have e2 : txt [97] = [1, 97] := by unfold txt; rw [num_small (by decide)]; rfl
    show numS 1 ++ txt [97] = _
    rw [e1, e2]; rfl
  unfold obEnc
  rw [if_pos h1, h2]
  rfl
set_option maxHeartbeats 4000000 in
theorem objects_any (w : World) : Calls Tryd.prog 13 #[] w fun e w' => e = .returned (.bool true) ∧ Gr w w' := by
  have HE : Sec (∀ w, Calls Tryd.prog 48 #[.agg #[.int .i64 1, .string (bs [97]), .slice none 0 0, .string (bs []), .slice none 0 0, .string (bs []), .string (bs []), .int .i64 0, .string (bs [])]] w fun e w' => e = .returned (.tuple #[.string (bs [1, 1, 97]), .int .i64 0]) ∧ Gr w w') := sec (fun w => by
    have := obEncode_any obTry none 0 none 0 w ⟨Row.nil _ _ _, Row.nil _ _ _, fun _ => ⟨rfl, rfl⟩, fun _ => ⟨rfl, rfl⟩, Nat.le_refl _, Nat.le_refl _⟩ ⟨by decide, by decide, by simp [obTry], by decide, by decide, by simp [obTry], by decide, by decide, by decide⟩
    rw [obTry_enc] at this
    exact this)
  go_enter Tryd.func13, Tryd.ntmps13
  go_wp2_with (go_at_call 48; (with_reducible refine Calls.mono (HE.out _) ?_); rintro e w1 ⟨rfl, g1⟩)
  go_ret
  exact ⟨rfl, g1⟩
end Go.Proofs.YtmgpllakpgjicaaDoor

namespace Go.Proofs.YtmgpllakpgjicaaDoor
open Go.RowKit
set_option maxRecDepth 100000 in
set_option maxHeartbeats 1000000 in
theorem sameStrings_any (A A' : Option Addr) (n n' c c' : Nat) (xs ys : List (List UInt8)) (w : World) (hx : StrRow w A n xs) (hy : StrRow w A' n' ys) (hn : n ≤ 140737488355328) (hn' : n' ≤ 140737488355328) :
    Calls Tryd.prog 18 #[.slice A n c, .slice A' n' c'] w fun e w' => e = .returned (.bool (decide (xs = ys))) ∧ Gr w w' := by
  have hlx := hx.len
  have hly := hy.len
  subst hlx hly
  by_cases hne : xs.length = ys.length
  · have hb1 : ((xs.length : Int) != (ys.length : Int)) = false := by simp [hne]
    have HN := sec hne
    clear hne
    go_enter Tryd.func18, Tryd.ntmps18
    go_wp2_with fail
    go_loopw [5, 13] (fun _ iv wr => ∃ i : Nat, iv = .int .i64 i ∧ i ≤ xs.length ∧ Sec (xs.take i = ys.take i) ∧ Gr w wr)
      (fun _ iv _ => xs.length - (intOf iv).toNat)
    case atStart => exact ⟨0, rfl, by omega, ⟨by simp⟩, Gr.refl _⟩
    case round =>
      obtain ⟨i, rfl, hi, he, hg⟩ := hrel
      by_cases hlt : i < xs.length
      · have hlty : i < ys.length := by have := HN.out; omega
        obtain ⟨b, off, rfl, hc⟩ := (hx.gr hg).cell hlt
        obtain ⟨b', off', rfl, hc'⟩ := (hy.gr hg).cell hlty
        obtain ⟨x, hxe⟩ : ∃ x, x = xs[i] := ⟨_, rfl⟩
        obtain ⟨y, hye⟩ : ∃ y, y = ys[i] := ⟨_, rfl⟩
        rw [← hxe] at hc
        rw [← hye] at hc'
        have HX := sec hxe
        have HY := sec hye
        clear hxe hye
        have q1 : (i : Int) < (xs.length : Int) := by omega
        have q2 : (i : Int) < (ys.length : Int) := by omega
        by_cases hxy : x = y
        · subst hxy
          go_wp2
          go_quiet (fail)
          go_wp2
          go_roundw
          case rel =>
            refine ⟨i + 1, by go_num, by omega, ⟨?_⟩, hg.drewN _⟩
            rw [List.take_succ_eq_append_getElem hlt, List.take_succ_eq_append_getElem hlty, he.out, ← HX.out, ← HY.out]
          case measure => simp [intOf]; omega
        · have hxy' : (x == y) = false := by simpa using hxy
          have HXY := sec hxy
          clear hxy
          go_wp2
          go_quiet (fail)
          go_wp2
          go_ret
          refine ⟨?_, hg.drewN _⟩
          have : ¬ (xs = ys) := by
            intro e
            apply HXY.out
            rw [HX.out, HY.out]
            simp [e]
          simp [this]
      · go_wp2
        go_ret
        refine ⟨?_, hg⟩
        have : xs = ys := by
          have h1 := he.out
          rw [List.take_of_length_le (by omega), List.take_of_length_le (by have := HN.out; omega)] at h1
          exact h1
        simp [this]
  · have hb1 : ((xs.length : Int) != (ys.length : Int)) = true := by rw [bne_iff_ne]; omega
    have : ¬ (xs = ys) := fun e => hne (by rw [e])
    have HN := sec this
    clear this hne
    go_enter Tryd.func18, Tryd.ntmps18
    go_wp2
    go_ret
    exact ⟨by simp [HN.out], Gr.refl _⟩
end Go.Proofs.YtmgpllakpgjicaaDoor

namespace Go.Proofs.YtmgpllakpgjicaaDoor
set_option maxRecDepth 100000
open Go.RowKit
set_option linter.unusedVariables false
set_option maxHeartbeats 16000000 in
theorem sameOb_any (o : Ob) (A : Option Addr) (c : Nat) (B : Option Addr) (d : Nat) (A' : Option Addr) (c' : Nat) (B' : Option Addr) (d' : Nat) (w : World) (hR : ObR w o A c B d) (hR' : ObR w o A' c' B' d') (hz : ObSz 1099511627776 o) :
    Calls Tryd.prog 10 #[.agg (obA o A c B d), .agg (obA o A' c' B' d')] w fun e w' => e = .returned (.bool true) ∧ Gr w w' := by
  have hwl := hz.ents
  have hsl := hz.pars
  obtain ⟨wa, hwa⟩ : ∃ x, x = (w.alloc (.cells (obA o A c B d) 25)).alloc (.cells (obA o A' c' B' d') 25) := ⟨_, rfl⟩
  have hb : Blk wa w.heap.size 25 (obA o A c B d) := by rw [hwa]; exact (Blk.new w _ _).alloc _
  have hr : Blk wa (w.heap.size + 1) 25 (obA o A' c' B' d') := by rw [hwa]; exact Blk.new1 w _ _ _
  have hg0 : Gr w wa := by rw [hwa]; exact ((Gr.refl w).alloc _).alloc _
  obtain ⟨p, hp⟩ : ∃ p, p = w.heap.size := ⟨_, rfl⟩
  rw [← hp] at hb hr
  have HX := sec (hR.ents.gr hg0)
  have HY := sec (hR'.ents.gr hg0)
  have HSS : Sec (∀ w', Gr wa w' → Calls Tryd.prog 18 #[.slice B o.pars.length d, .slice B' o.pars.length d'] w' fun e w'' => e = .returned (.bool true) ∧ Gr w' w'') := sec (fun w' g => by
    have := sameStrings_any B B' o.pars.length o.pars.length d d' o.pars o.pars w' ((hR.pars.gr hg0).gr g) ((hR'.pars.gr hg0).gr g) (by omega) (by omega)
    rwa [decide_eq_true rfl] at this)
  clear hR hR' hz
  obtain ⟨kd, dt, en, tr, pa, wh, no, ti, ta⟩ := o
  simp only at HX HY HSS hwl hsl
  unfold obA at hwa hb hr
  unfold obA
  simp only at hwa hb hr ⊢
  have HSK : Sec (∀ w', Gr wa w' → w'.cell? ⟨p, 0, none⟩ = some (.int .i64 kd) ∧ w'.cell? ⟨p, 1, none⟩ = some (.string (bs dt)) ∧ w'.cell? ⟨p, 2, none⟩ = some (.slice A en.length c) ∧ w'.cell? ⟨p, 3, none⟩ = some (.string (bs tr)) ∧ w'.cell? ⟨p, 4, none⟩ = some (.slice B pa.length d) ∧ w'.cell? ⟨p, 5, none⟩ = some (.string (bs wh)) ∧ w'.cell? ⟨p, 6, none⟩ = some (.string (bs no)) ∧ w'.cell? ⟨p, 7, none⟩ = some (.int .i64 ti) ∧ w'.cell? ⟨p, 8, none⟩ = some (.string (bs ta))) := sec (fun w' g => ⟨(hb.gr g).cell 0, (hb.gr g).cell 1, (hb.gr g).cell 2, (hb.gr g).cell 3, (hb.gr g).cell 4, (hb.gr g).cell 5, (hb.gr g).cell 6, (hb.gr g).cell 7, (hb.gr g).cell 8⟩)
  have HSL : Sec (∀ w', Gr wa w' → w'.cell? ⟨p + 1, 0, none⟩ = some (.int .i64 kd) ∧ w'.cell? ⟨p + 1, 1, none⟩ = some (.string (bs dt)) ∧ w'.cell? ⟨p + 1, 2, none⟩ = some (.slice A' en.length c') ∧ w'.cell? ⟨p + 1, 3, none⟩ = some (.string (bs tr)) ∧ w'.cell? ⟨p + 1, 4, none⟩ = some (.slice B' pa.length d') ∧ w'.cell? ⟨p + 1, 5, none⟩ = some (.string (bs wh)) ∧ w'.cell? ⟨p + 1, 6, none⟩ = some (.string (bs no)) ∧ w'.cell? ⟨p + 1, 7, none⟩ = some (.int .i64 ti) ∧ w'.cell? ⟨p + 1, 8, none⟩ = some (.string (bs ta))) := sec (fun w' g => ⟨(hr.gr g).cell 0, (hr.gr g).cell 1, (hr.gr g).cell 2, (hr.gr g).cell 3, (hr.gr g).cell 4, (hr.gr g).cell 5, (hr.gr g).cell 6, (hr.gr g).cell 7, (hr.gr g).cell 8⟩)
  clear hb hr
  obtain ⟨a0, a1, a2, a3, a4, a5, a6, a7, a8⟩ := HSK.out wa (Gr.refl _)
  obtain ⟨b0, b1, b2, b3, b4, b5, b6, b7, b8⟩ := HSL.out wa (Gr.refl _)
  go_enter Tryd.func10, Tryd.ntmps10
  go_upto_region 1 with fail
  rw [← hwa, ← hp]
  clear hwa hp
  go_wp2_with fail
  clear a0 a1 a2 a3 a4 a5 a6 a7 a8 b0 b1 b2 b3 b4 b5 b6 b7 b8
  go_loopg [16, 5] en.length (fun fuel iv _ wr => ∃ i : Nat, iv = .int .i64 (i : Int) ∧ en.length ≤ i + fuel ∧ i ≤ en.length ∧ Gr wa wr)
  case atStart => exact ⟨0, rfl, by omega, by omega, Gr.refl _⟩
  case round =>
    obtain ⟨i, rfl, hik, hi, gw⟩ := hrel
    obtain ⟨a0, a1, a2, a3, a4, a5, a6, a7, a8⟩ := HSK.out wr gw
    obtain ⟨b0, b1, b2, b3, b4, b5, b6, b7, b8⟩ := HSL.out wr gw
    by_cases hlt : i < en.length
    · have hii : (i : Int) < (en.length : Int) := by omega
      obtain ⟨b, off, rfl, x0, x1, x2⟩ := (HX.out.gr gw).cell hlt
      obtain ⟨b', off', rfl, y0, y1, y2⟩ := (HY.out.gr gw).cell hlt
      obtain ⟨mw, hmw⟩ : ∃ x, x = en[i] := ⟨_, rfl⟩
      rw [← hmw] at x0 x1 x2 y0 y1 y2
      have HII := sec hlt
      clear hmw hlt a0 a1 a3 a4 a5 a6 a7 a8 b0 b1 b3 b4 b5 b6 b7 b8
      go_wp2_with fail
      go_quiet (fail)
      go_wp2_with fail
      go_roundg (gk - 1)
      case rel => exact ⟨i + 1, by go_num, by omega, HII.out, Gr.drewN gw _⟩
      case measure => have := HII.out; omega
    · obtain hE2 : i = en.length := by omega
      have hii : ¬ (i : Int) < (en.length : Int) := by omega
      have q : decide (i < en.length) = false := decide_eq_false hlt
      clear hE2 hlt hik
      go_upto_region 9 with fail
      go_wp2_with (go_at_call 18; refine Calls.mono (HSS.out _ gw) ?_; rintro e w1 ⟨rfl, g1⟩; clear a0 a1 a2 a3 a4 a5 a6 a7 a8 b0 b1 b2 b3 b4 b5 b6 b7 b8; obtain ⟨a0, a1, a2, a3, a4, a5, a6, a7, a8⟩ := HSK.out w1 (gw.trans g1); obtain ⟨b0, b1, b2, b3, b4, b5, b6, b7, b8⟩ := HSL.out w1 (gw.trans g1))
      go_ret
      exact ⟨rfl, hg0.trans (gw.trans g1)⟩
end Go.Proofs.YtmgpllakpgjicaaDoor

namespace Go.Proofs.YtmgpllakpgjicaaDoor
open Go.RowKit
set_option linter.unusedVariables false
theorem goodB_start : goodB [] 0 = true := by decide
theorem goodB_rest (b : List UInt8) (h : b.length < 1152921504606846976) : goodB (restOf b) (b.length : Int) = true := by
  rw [goodB_iff, restOf_len]
  omega

set_option maxRecDepth 100000 in
set_option maxHeartbeats 1000000 in
theorem sum_any (b : List UInt8) (w : World) (hT : TabK w) (hb : b.length ≤ 576460752303423488) :
    Calls Tryd.prog 43 #[.string (bs b)] w fun e w' => e = .returned (.string (bs (sha b))) ∧ Gr w w' := by
  have HG := sec (goodB_rest b (by omega))
  have HS : Sec (sha b = endOf (overS startS b) (restOf b) b.length) := sec rfl
  have HZ := sec (show (0 : Int) + (b.length : Int) < 1152921504606846976 by omega)
  have HA : Sec (([] : List UInt8) ++ b = b) := sec rfl
  have HN : Sec ((0 : Int) + (b.length : Int) = (b.length : Int)) := sec (by omega)
  obtain ⟨S, hS⟩ : ∃ S, S = overS startS b := ⟨_, rfl⟩
  obtain ⟨R, hR⟩ : ∃ R, R = restOf b := ⟨_, rfl⟩
  rw [← hS, ← hR] at HS
  rw [← hR] at HG
  have HSS := sec hS
  have HRR := sec hR
  clear hS hR
  go_enter Tryd.func43, Tryd.ntmps43
  go_wp2_with (first
    | (refine wpList_store_blk rfl 103 (.tmp 3) (.tmp 11) rfl (g := w2.heap.size) rfl rfl (Blk.new w2 _ _) A.state rfl (stCells_one _ _ _) ?_; intro w3 h3 hg3; have gg3 : Gr w w3 := Gr.only (g2.alloc _) hg3 g2.size; clear hg3)
    | (refine wpList_load_blk rfl 103 (.tmp 3) rfl (g := w2.heap.size) rfl h3 A.state ?_)
    | (go_at_call 76; refine (begin_any _).mono ?_; rintro e w1 ⟨rfl, g1⟩)
    | (go_at_call 75; refine (add_ok startS [] 0 b _ (hT.gr g1) goodB_start hb HZ.out).mono ?_; rw [HA.out, HN.out, ← HSS.out, ← HRR.out]; rintro e w2 ⟨rfl, g2'⟩; have g2 := g1.trans g2'; clear g2' g1)
    | (go_at_call 77; refine (end_ok S R b.length _ (hT.gr gg3) HG.out).mono ?_; rw [← HS.out]; rintro e w4 ⟨rfl, g4⟩))
  go_ret
  exact ⟨rfl, gg3.trans g4⟩
end Go.Proofs.YtmgpllakpgjicaaDoor

namespace Go.Proofs.YtmgpllakpgjicaaDoor
open Go.RowKit
set_option linter.unusedVariables false
set_option maxRecDepth 100000 in
set_option maxHeartbeats 1000000 in
theorem start_any (w : World) : Calls Tryd.prog 46 #[] w fun e w' => e = .returned (.agg (s8V startS)) ∧ Gr w w' := by
  go_enter Tryd.func46, Tryd.ntmps46
  go_wp2
  exact bodyPost_ret (v := .agg (s8V startS)) (by simp [results, Tryd.results46, go_sem]; rfl) rfl ⟨rfl, (Gr.refl w).alloc _⟩

theorem be4_len (x : UInt32) : (be4 x).length = 4 := rfl
/-- three bytes and a half: a row of four bytes just built, as a string -/
theorem conv_four (w : World) (x : UInt32) :
    (convert 77 9 (.slice (some ⟨w.heap.size, 0, none⟩) 4 4)).run Tryd.prog (w.alloc (.cells #[.int .u8 ((x.toNat : Int) / 16777216), .int .u8 ((x.toNat : Int) / 65536 % 256), .int .u8 ((x.toNat : Int) / 256 % 256), .int .u8 ((x.toNat : Int) % 256)] 5)) =
      .ok (.string (bs (be4 x))) (w.alloc (.cells #[.int .u8 ((x.toNat : Int) / 16777216), .int .u8 ((x.toNat : Int) / 65536 % 256), .int .u8 ((x.toNat : Int) / 256 % 256), .int .u8 ((x.toNat : Int) % 256)] 5)) := by
  refine run_conv_at Tryd.underlying77 Tryd.underlying5 Tryd.underlying9 _ _ 0 4 (be4 x) ?_
  intro j u hu
  rw [← be4_cells] at hu
  rw [Nat.zero_add, World.cell?_alloc_mark]
  simpa using hu

set_option maxRecDepth 100000 in
set_option maxHeartbeats 1000000 in
theorem rtext_any (S : S8) (w : World) : Calls Tryd.prog 44 #[.agg (s8V S)] w fun e w' => e = .returned (.string (bs (text8 S))) ∧ Gr w w' := by
  go_enter Tryd.func44, Tryd.ntmps44
  go_wp2_with (refine wpList_load_blk rfl 65 (.tmp 1) rfl (g := w.heap.size) rfl (Blk.new w _ _) A.u8 ?_)
  go_loopw [3, 7, 5] (fun v iv _ wr => ∃ (j : Nat) (l : List UInt8), iv = .int .i64 j ∧ j ≤ 8 ∧ v = .string (bs l) ∧ l.length ≤ 4 * j ∧ Sec (l = (S.list.take j).flatMap be4) ∧ Gr w wr)
    (fun _ iv _ _ => 8 - (intOf iv).toNat)
  case atStart => exact ⟨0, [], rfl, by omega, rfl, by simp, sec rfl, (Gr.refl w).alloc _⟩
  case round =>
    obtain ⟨j, l, rfl, hj, rfl, hll, HL, hg⟩ := hrel
    have hcase : j = 0 ∨ j = 1 ∨ j = 2 ∨ j = 3 ∨ j = 4 ∨ j = 5 ∨ j = 6 ∨ j = 7 ∨ j = 8 := by omega
    clear hj
    unfold s8V
    rcases hcase with rfl | rfl | rfl | rfl | rfl | rfl | rfl | rfl | rfl
    · have i0 := index_s8_0 S
      have hx := S.a.toNat_lt
      have hcv := conv_four wr S.a
      have h63 : ¬ 9223372036854775807 < l.length + (be4 S.a).length := by rw [be4_len]; omega
      go_wp2_with fail
      go_roundw
      case rel => exact ⟨1, l ++ be4 S.a, rfl, by omega, rfl, by rw [List.length_append, be4_len]; omega, sec (by rw [HL.out]; rfl), hg.alloc _⟩
      case measure => simp [intOf]
    · have i0 := index_s8_1 S
      have hx := S.b.toNat_lt
      have hcv := conv_four wr S.b
      have h63 : ¬ 9223372036854775807 < l.length + (be4 S.b).length := by rw [be4_len]; omega
      go_wp2_with fail
      go_roundw
      case rel => exact ⟨2, l ++ be4 S.b, rfl, by omega, rfl, by rw [List.length_append, be4_len]; omega, sec (by rw [HL.out]; rfl), hg.alloc _⟩
      case measure => simp [intOf]
    · have i0 := index_s8_2 S
      have hx := S.c.toNat_lt
      have hcv := conv_four wr S.c
      have h63 : ¬ 9223372036854775807 < l.length + (be4 S.c).length := by rw [be4_len]; omega
      go_wp2_with fail
      go_roundw
      case rel => exact ⟨3, l ++ be4 S.c, rfl, by omega, rfl, by rw [List.length_append, be4_len]; omega, sec (by rw [HL.out]; rfl), hg.alloc _⟩
      case measure => simp [intOf]
    · have i0 := index_s8_3 S
      have hx := S.d.toNat_lt
      have hcv := conv_four wr S.d
      have h63 : ¬ 9223372036854775807 < l.length + (be4 S.d).length := by rw [be4_len]; omega
      go_wp2_with fail
      go_roundw
      case rel => exact ⟨4, l ++ be4 S.d, rfl, by omega, rfl, by rw [List.length_append, be4_len]; omega, sec (by rw [HL.out]; rfl), hg.alloc _⟩
      case measure => simp [intOf]
    · have i0 := index_s8_4 S
      have hx := S.e.toNat_lt
      have hcv := conv_four wr S.e
      have h63 : ¬ 9223372036854775807 < l.length + (be4 S.e).length := by rw [be4_len]; omega
      go_wp2_with fail
      go_roundw
      case rel => exact ⟨5, l ++ be4 S.e, rfl, by omega, rfl, by rw [List.length_append, be4_len]; omega, sec (by rw [HL.out]; rfl), hg.alloc _⟩
      case measure => simp [intOf]
    · have i0 := index_s8_5 S
      have hx := S.f.toNat_lt
      have hcv := conv_four wr S.f
      have h63 : ¬ 9223372036854775807 < l.length + (be4 S.f).length := by rw [be4_len]; omega
      go_wp2_with fail
      go_roundw
      case rel => exact ⟨6, l ++ be4 S.f, rfl, by omega, rfl, by rw [List.length_append, be4_len]; omega, sec (by rw [HL.out]; rfl), hg.alloc _⟩
      case measure => simp [intOf]
    · have i0 := index_s8_6 S
      have hx := S.g.toNat_lt
      have hcv := conv_four wr S.g
      have h63 : ¬ 9223372036854775807 < l.length + (be4 S.g).length := by rw [be4_len]; omega
      go_wp2_with fail
      go_roundw
      case rel => exact ⟨7, l ++ be4 S.g, rfl, by omega, rfl, by rw [List.length_append, be4_len]; omega, sec (by rw [HL.out]; rfl), hg.alloc _⟩
      case measure => simp [intOf]
    · have i0 := index_s8_7 S
      have hx := S.h.toNat_lt
      have hcv := conv_four wr S.h
      have h63 : ¬ 9223372036854775807 < l.length + (be4 S.h).length := by rw [be4_len]; omega
      go_wp2_with fail
      go_roundw
      case rel => exact ⟨8, l ++ be4 S.h, rfl, by omega, rfl, by rw [List.length_append, be4_len]; omega, sec (by rw [HL.out]; rfl), hg.alloc _⟩
      case measure => simp [intOf]
    · go_wp2_with fail
      go_ret
      exact ⟨by rw [HL.out]; rfl, hg⟩

set_option maxRecDepth 100000 in
set_option maxHeartbeats 1000000 in
theorem over_any (s : S8) (b : List UInt8) (w : World) (hb : b.length < 4611686018427387904) (hm : b.length % 64 = 0) :
    Calls Tryd.prog 45 #[.agg (s8V s), .string (bs b)] w fun e w' => e = .returned (.agg (s8V (overS s b))) ∧ Gr w w' := by
  have HM := sec hm
  clear hm
  have hz : Blk ((w.alloc (.cells (s8V s) 65)).alloc (.cells zero8 65)) (w.heap.size + 1) 65 zero8 := Blk.new1 w _ _ _
  have hx : Blk ((w.alloc (.cells (s8V s) 65)).alloc (.cells zero8 65)) w.heap.size 65 (s8V s) := (Blk.new w _ _).alloc _
  have HZ := sec hz
  have HX := sec hx
  clear hz hx
  go_enter Tryd.func45, Tryd.ntmps45
  go_wp2_with fail
  go_loopw [5] (fun v wr => ∃ (i : Nat) (S : S8), v = .int .i64 (64 * (i : Int)) ∧ 64 * i ≤ b.length ∧ Sec (overS S (b.drop (64 * i)) = overS s b) ∧ Blk wr w.heap.size 65 (s8V S) ∧ Blk wr (w.heap.size + 1) 65 zero8 ∧ Gr w wr)
    (fun v _ => b.length - (intOf v).toNat)
  case atStart => exact ⟨0, s, rfl, by omega, sec (by rw [Nat.mul_zero, List.drop_zero]), HX.out, HZ.out, ((Gr.refl w).alloc _).alloc _⟩
  case round =>
    obtain ⟨i, S, rfl, hi, HO, hS, hZ, hg⟩ := hrel
    by_cases hlt : 64 * i < b.length
    · have hlt' : 64 * i + 64 ≤ b.length := by have := HM.out; omega
      have q64 : IntKind.i64.wrap (64 * (i : Int) + 64) = 64 * (i : Int) + 64 := IntWalk.i64_in _ (by omega)
      have hli : 64 * (i : Int) < (b.length : Int) := by omega
      have hl2 : 64 * (i : Int) + 64 ≤ (b.length : Int) := by omega
      have hi0 : (0 : Int) ≤ 64 * (i : Int) := by omega
      have hi1 : (0 : Int) ≤ 64 * (i : Int) + 64 := by omega
      have hi2 : 64 * (i : Int) ≤ 64 * (i : Int) + 64 := by omega
      have ht1 : (64 * (i : Int)).toNat = 64 * i := by omega
      have ht2 : (64 * (i : Int) + 64).toNat = 64 * i + 64 := by omega
      go_wp2_with fail
      refine region_still_tail_w 6 (by kernel_rfl) (by kernel_rfl) ?_
      simp only [List.take_succ_cons, List.take_zero, List.drop_succ_cons, List.drop_zero]
      intro wd hwd
      have D2 : Blk wd w.heap.size 65 (s8V S) := by subst hwd; exact hS.drew
      have D4 : Blk wd (w.heap.size + 1) 65 zero8 := by subst hwd; exact hZ.drew
      have Dg : Gr w wd := by subst hwd; exact hg.drew
      clear hwd hS hZ hg
      have c0 : wd.cell? ⟨w.heap.size, 0, none⟩ = some (.int .u32 (S.a.toNat : Int)) := D2.cell 0
      have c1 : wd.cell? ⟨w.heap.size, 1, none⟩ = some (.int .u32 (S.b.toNat : Int)) := D2.cell 1
      have c2 : wd.cell? ⟨w.heap.size, 2, none⟩ = some (.int .u32 (S.c.toNat : Int)) := D2.cell 2
      have c3 : wd.cell? ⟨w.heap.size, 3, none⟩ = some (.int .u32 (S.d.toNat : Int)) := D2.cell 3
      have c4 : wd.cell? ⟨w.heap.size, 4, none⟩ = some (.int .u32 (S.e.toNat : Int)) := D2.cell 4
      have c5 : wd.cell? ⟨w.heap.size, 5, none⟩ = some (.int .u32 (S.f.toNat : Int)) := D2.cell 5
      have c6 : wd.cell? ⟨w.heap.size, 6, none⟩ = some (.int .u32 (S.g.toNat : Int)) := D2.cell 6
      have c7 : wd.cell? ⟨w.heap.size, 7, none⟩ = some (.int .u32 (S.h.toNat : Int)) := D2.cell 7
      repeat still_step
      refine wpStill_nil ?_
      clear c0 c1 c2 c3 c4 c5 c6 c7
      have hsub : sub b (64 * i) (64 * i + 64) = (b.drop (64 * i)).take 64 := by unfold sub; congr 1; omega
      have hsl : (sub b (64 * i) (64 * i + 64)).length = 64 := by rw [sub_len _ _ _ hlt']; omega
      obtain ⟨B, hB⟩ : ∃ B, B = sub b (64 * i) (64 * i + 64) := ⟨_, rfl⟩
      rw [← hB] at hsub hsl ⊢
      obtain ⟨R, hR⟩ : ∃ R, R = blockS S B := ⟨_, rfl⟩
      have HO2 : Sec (overS R (b.drop (64 * (i + 1))) = overS s b) := sec (by
        rw [← HO.out, overS_hi (b := b.drop (64 * i)) (by rw [List.length_drop]; omega), ← hsub, ← hR, List.drop_drop, Nat.mul_add])
      have HSL := sec hsl
      clear hB hsub hsl
      go_wp2_with (first
        | (refine wpList_store_blk rfl 65 (.tmp 2) (.tmp 18) rfl (g := w.heap.size) rfl rfl E2 A.u8 rfl (s8V_one R) ?_; intro w4 h4 hg4)
        | (go_at_call 78; refine (rblock_any S B _ HSL.out).mono ?_; rw [← hR]; rintro e w3 ⟨rfl, g3⟩; clear hR; have E2 := D2.gr g3; have E4 := D4.gr g3; have Eg := Dg.trans g3; clear g3))
      go_roundw
      case rel => exact ⟨i + 1, R, by go_num, by omega, HO2, h4, E4.only hg4 (by omega), Eg.only hg4 (Nat.le_refl _)⟩
      case measure => simp [intOf]; omega
    · have hnl : b.drop (64 * i) = [] := List.drop_eq_nil_of_le (by omega)
      have HE : Sec (S = overS s b) := sec (by rw [← HO.out, hnl, overS_lo (by simp)])
      have hli : ¬ 64 * (i : Int) < (b.length : Int) := by omega
      clear hnl HO
      go_wp2_with (first
        | (refine wpList_load_blk rfl 65 (.tmp 2) rfl (g := w.heap.size) rfl hS A.u8 ?_)
        | (refine wpList_store_blk rfl 65 (.tmp 4) (.tmp 19) rfl (g := w.heap.size + 1) rfl rfl hZ A.u8 rfl (s8V_one S) ?_; intro w4 h4 hg4))
      refine bodyPost_ret (results_blk rfl _ rfl h4 A.u8) rfl ?_
      rw [HE.out]
      exact ⟨rfl, hg.only hg4 (by omega)⟩
end Go.Proofs.YtmgpllakpgjicaaDoor

namespace Go.Proofs.YtmgpllakpgjicaaDoor
open Go.RowKit
set_option linter.unusedVariables false
/-- the eight bytes while they are filled, from behind -/
def pByte (m e : Nat) : Value := .int .u8 ((8 * m / 256 ^ e % 256 : Nat) : Int)
def pArr (m j : Nat) : Array Value := ((List.range 8).map fun i => if 8 - j ≤ i then pByte m (7 - i) else .int .u8 0).toArray
theorem pArr_size (m j : Nat) : (pArr m j).size = 8 := by unfold pArr; simp
theorem pArr_zero (m : Nat) : pArr m 0 = #[.int .u8 0, .int .u8 0, .int .u8 0, .int .u8 0, .int .u8 0, .int .u8 0, .int .u8 0, .int .u8 0] := by kernel_rfl
theorem pArr_set (m j : Nat) (hj : j < 8) : (pArr m j).setIfInBounds (7 - j) (pByte m j) = pArr m (j + 1) := by
  unfold pArr
  rw [List.setIfInBounds_toArray]
  congr 1
  apply List.ext_getElem
  · simp
  · intro i h1 h2
    rw [List.getElem_set]
    simp only [List.getElem_map, List.getElem_range, List.length_set, List.length_map, List.length_range] at h1 ⊢
    by_cases e : 7 - j = i
    · subst e
      rw [if_pos rfl, if_pos (by omega), show 7 - (7 - j) = j by omega]
    · rw [if_neg e]
      by_cases h : 8 - j ≤ i
      · rw [if_pos h, if_pos (by omega)]
      · rw [if_neg h, if_neg (by omega)]
theorem pArr_full (m : Nat) : (pArr m 8).toList = (be8 (8 * m)).map byteV := by
  simp [pArr, List.range_succ, be8, byteV, pByte]

set_option maxRecDepth 100000 in
set_option maxHeartbeats 2000000 in
theorem padded_any (r : List UInt8) (m : Nat) (w : World) (hr : r.length < 1152921504606846976) (hm : m < 1152921504606846976) :
    Calls Tryd.prog 47 #[.string (bs r), .int .i64 m] w fun e w' => e = .returned (.string (bs (padTo r m))) ∧ Gr w w' := by
  have hr1 : ¬ 9223372036854775807 < r.length + 1 := by omega
  have hz := Blk.new w 109 (pArr m 0)
  rw [pArr_zero] at hz
  have HZ := sec hz
  clear hz
  go_enter Tryd.func47, Tryd.ntmps47
  go_wp2_with fail
  go_loop [5] (fun v => ∃ (i : Nat) (l : List UInt8), v = .string (bs l) ∧ i ≤ zerosFor r.length ∧ Sec (l = r ++ [128] ++ List.replicate i 0))
    (fun v => 1152921504606847200 - lenOf v)
  case atStart => exact ⟨0, r ++ [128], rfl, Nat.zero_le _, sec (by simp)⟩
  case round =>
    obtain ⟨i, l, rfl, hi, HL⟩ := hrel
    have hz : zerosFor r.length = (119 - r.length % 64) % 64 := rfl
    have hll : l.length = r.length + 1 + i := by rw [HL.out]; simp; omega
    by_cases hlt : i < zerosFor r.length
    · have t1 : ((l.length : Int) % 64 == 56) = false := by rw [beq_eq_false_iff_ne]; omega
      have t2 : ((l.length : Int) % 64 != 56) = true := by rw [bne_iff_ne]; omega
      have hl200 : l.length < 1152921504606847190 := by omega
      have h63 : ¬ 9223372036854775807 < l.length + 1 := by omega
      have HI := sec hlt
      clear hz hll hlt hi
      go_wp2_with fail
      go_round
      case rel =>
        exact ⟨i + 1, l ++ [0], rfl, HI.out, sec (by rw [HL.out, List.append_assoc, ← List.replicate_succ'])⟩
      case measure => simp [lenOf, bs_size]; omega
    · obtain rfl : i = zerosFor r.length := by omega
      have t1 : ((l.length : Int) % 64 == 56) = true := by rw [beq_iff_eq]; omega
      have t2 : ((l.length : Int) % 64 != 56) = false := by rw [bne_eq_false_iff_eq]; omega
      have hl63 : ¬ 9223372036854775807 < l.length + 8 := by omega
      clear hz hll hlt hi
      have hm8 : (m : Int) * 8 < 18446744073709551616 := by omega
      go_wp2_with fail
      clear t1 t2
      have hl8 : m * 8 = 8 * m / 256 ^ 0 := by omega
      have HN0 : Sec (m * 8 = 8 * m / 256 ^ 0) := sec hl8
      clear hl8
      go_loopw [7, 8] (fun v k wr => ∃ (j N : Nat) (K : Int), v = .int .u64 (N : Int) ∧ k = .int .i64 K ∧ Sec (K = 7 - (j : Int)) ∧ j ≤ 8 ∧ Sec (N = 8 * m / 256 ^ j) ∧ N < 18446744073709551616 ∧ Blk wr w.heap.size 109 (pArr m j) ∧ Gr w wr)
        (fun _ k _ => (intOf k + 1).toNat)
      case atStart => exact ⟨0, m * 8, 7, by simp, rfl, sec (by omega), by omega, HN0, by omega, by rw [pArr_zero]; exact HZ.out, (Gr.refl w).alloc _⟩
      case round =>
        obtain ⟨j, N, K, rfl, rfl, HK, hj, HN, hN, hB, hg⟩ := hrel
        by_cases hlt : j < 8
        · have hK0 : 0 ≤ K := by have := HK.out; omega
          have hK8 : K < 8 := by have := HK.out; omega
          have hKt : K.toNat = 7 - j := by have := HK.out; omega
          have hc : ∃ v, wr.cell? ⟨w.heap.size, 7 - j, none⟩ = some v := ⟨_, (hB.cell _).trans (Array.getElem?_eq_getElem (by rw [pArr_size]; omega))⟩
          obtain ⟨v, hc⟩ := hc
          have hf := hB.frozen (7 - j)
          have HD : Sec (N / 256 = 8 * m / 256 ^ (j + 1)) := sec (by rw [HN.out, Nat.div_div_eq_div_mul, Nat.pow_succ])
          have HP : Sec (pByte m j = .int .u8 ((N : Int) % 256)) := sec (by unfold pByte; rw [← HN.out]; simp)
          go_wp2_with fail
          go_roundw
          case rel => exact ⟨j + 1, N / 256, K - 1, by simp, rfl, sec (by have := HK.out; omega), by omega, HD, by omega, by rw [← pArr_set m j hlt, HP.out]; exact hB.set_ _ _, hg.setCell (Nat.le_refl _) _⟩
          case measure => simp [intOf]; omega
        · obtain rfl : j = 8 := by omega
          obtain rfl : K = -1 := by have := HK.out; omega
          have hcv : (convert 77 9 (.slice (some ⟨w.heap.size, 0, none⟩) 8 8)).run Tryd.prog wr = .ok (.string (bs (be8 (8 * m)))) wr :=
            run_conv_at Tryd.underlying77 Tryd.underlying5 Tryd.underlying9 wr w.heap.size 0 8 (be8 (8 * m)) (fun j u hu => by
              rw [Nat.zero_add, hB.cell, ← pArr_full] at *
              simpa using hu)
          have hl63' : ¬ 9223372036854775807 < l.length + (be8 (8 * m)).length := by rw [be8_len]; exact hl63
          go_wp2_with fail
          go_ret
          exact ⟨by rw [HL.out]; rfl, hg⟩
end Go.Proofs.YtmgpllakpgjicaaDoor

namespace Go.Proofs.YtmgpllakpgjicaaDoor
open Go.RowKit
set_option linter.unusedVariables false
set_option maxRecDepth 100000 in
set_option maxHeartbeats 4000000 in
theorem rsum_any (b : List UInt8) (w : World) (hb : b.length ≤ 576460752303423488) :
    Calls Tryd.prog 12 #[.string (bs b)] w fun e w' => e = .returned (.string (bs (sha b))) ∧ Gr w w' := by
  have e1 : ((b.length : Int) - (b.length : Int) % 64) = ((b.length / 64 * 64 : Nat) : Int) := by omega
  obtain ⟨k, hk⟩ : ∃ k, k = b.length / 64 * 64 := ⟨_, rfl⟩
  rw [← hk] at e1
  have hk1 : k ≤ b.length := by omega
  have hk2 : (k : Int) ≤ (b.length : Int) := by omega
  have hk3 : k % 64 = 0 := by omega
  have HD : Sec (b.drop k = restOf b) := sec (by rw [hk]; rfl)
  have HT : Sec (overS startS (b.take k) = overS startS b) := sec (by rw [hk]; exact overS_take _ _ _ rfl)
  have hl : (b.take k).length = k := by rw [List.length_take]; omega
  have HL := sec hl
  have H3 := sec hk3
  have hrl : (restOf b).length < 1152921504606846976 := by rw [restOf_len]; omega
  have HRL := sec hrl
  have hbl : b.length < 1152921504606846976 := by omega
  clear hk hl hk3 hrl
  have HP : Sec ((padTo (restOf b) b.length).length % 64 = 0) := sec (padTo_mod _ _)
  have HQ : Sec ((padTo (restOf b) b.length).length < 4611686018427387904) := sec (by rw [padTo_len, restOf_len]; unfold zerosFor; omega)
  have HS : Sec (sha b = text8 (overS (overS startS b) (padTo (restOf b) b.length))) := sec rfl
  have HM : Sec (k < 4611686018427387904) := sec (by omega)
  obtain ⟨R, hR⟩ : ∃ R, R = restOf b := ⟨_, rfl⟩
  rw [← hR] at HD HRL HP HQ HS
  obtain ⟨S, hS⟩ : ∃ S, S = overS startS b := ⟨_, rfl⟩
  rw [← hS] at HT HS
  clear hR hS
  go_enter Tryd.func12, Tryd.ntmps12
  go_wp2_with fail
  go_region_held3 (fun w' => Gr w w') (first | assumption | exact (Gr.refl _).drew | exact Gr.refl _)
    (first
      | (go_at_call 46; refine (start_any _).mono ?_; rintro e w1 ⟨rfl, g1⟩; have gg1 : Gr w w1 := Gr.trans (by assumption) g1)
      | (go_at_call 47; rw [HD.out]; refine (padded_any R b.length _ HRL.out hbl).mono ?_; rintro e w3 ⟨rfl, g3⟩; have gg3 : Gr w w3 := Gr.trans (by assumption) g3)
      | (go_at_call 44; refine (rtext_any _ _).mono ?_; rintro e w5 ⟨rfl, g5⟩; have gg5 : Gr w w5 := Gr.trans (by assumption) g5)
      | (go_at_call 45; with_reducible refine Calls.mono (over_any startS (b.take k) _ (by rw [HL.out]; exact HM.out) (by rw [HL.out]; exact H3.out)) ?_; rw [HT.out]; rintro e w2 ⟨rfl, g2⟩; have gg2 : Gr w w2 := Gr.trans (by assumption) g2)
      | (go_at_call 45; refine (over_any S (padTo R b.length) _ HQ.out HP.out).mono ?_; rintro e w4 ⟨rfl, g4⟩; have gg4 : Gr w w4 := Gr.trans (by assumption) g4))
  go_wp2_with fail
  go_ret
  exact ⟨by rw [HS.out]; rfl, gg5⟩
end Go.Proofs.YtmgpllakpgjicaaDoor

namespace Go.Proofs.YtmgpllakpgjicaaDoor
set_option maxRecDepth 100000
open Go.RowKit
set_option linter.unusedVariables false
theorem obId_any (b : List UInt8) (w : World) (hT : TabK w) (hb : b.length ≤ 576460752303423488) :
    Calls Tryd.prog 11 #[.string (bs b)] w fun e w' => e = .returned (.string (bs (sha b))) ∧ Gr w w' := by
  have HS := sec (sum_any b w hT hb)
  clear hT
  go_enter Tryd.func11, Tryd.ntmps11
  go_wp2_with (go_at_call 43; (with_reducible refine Calls.mono HS.out ?_); rintro e w1 ⟨rfl, g1⟩)
  go_ret
  exact ⟨rfl, g1⟩

set_option maxHeartbeats 16000000 in
theorem objectDecodes_walk (s : List UInt8) (W : World) (hs : s.length ≤ 1048576) (hT : TabK W) :
    Calls Tryd.prog 3 #[.string (bs s)] W fun e W' => e = .returned (.bool true) ∧ Gr W W' := by
  have hz := (obD_sz s (by omega)).1
  have HD : Sec (∀ w', Calls Tryd.prog 8 #[.string (bs s)] w' fun e w'' => ∃ A c B d, e = .returned (.tuple #[.agg (obA (obD s).1 A c B d), .int .i64 (obD s).2]) ∧ ObR w'' (obD s).1 A c B d ∧ Gr w' w'') := sec (fun w' => obDec_any s w' (by omega))
  have HE : Sec (∀ w', Calls Tryd.prog 9 #[.string (bs s)] w' fun e w'' => ∃ A c B d, e = .returned (.tuple #[.agg (obA (obD s).1 A c B d), .int .i64 (obD s).2]) ∧ ObR w'' (obD s).1 A c B d ∧ Gr w' w'') := sec (fun w' => robDec_any s w' (by omega))
  have HSm : Sec (∀ w' A c B d A' c' B' d', ObR w' (obD s).1 A c B d → ObR w' (obD s).1 A' c' B' d' → Calls Tryd.prog 10 #[.agg (obA (obD s).1 A c B d), .agg (obA (obD s).1 A' c' B' d')] w' fun e w'' => e = .returned (.bool true) ∧ Gr w' w'') := sec (fun w' A c B d A' c' B' d' h h' => sameOb_any _ A c B d A' c' B' d' w' h h' hz)
  have HId : Sec (∀ w', Gr W w' → Calls Tryd.prog 11 #[.string (bs s)] w' fun e w'' => e = .returned (.string (bs (sha s))) ∧ Gr w' w'') := sec (fun w' g => obId_any s w' (hT.gr g) (by omega))
  have HSu : Sec (∀ w', Calls Tryd.prog 12 #[.string (bs s)] w' fun e w'' => e = .returned (.string (bs (sha s))) ∧ Gr w' w'') := sec (fun w' => rsum_any s w' (by omega))
  have HOb : Sec (∀ w', Calls Tryd.prog 13 #[] w' fun e w'' => e = .returned (.bool true) ∧ Gr w' w'') := sec objects_any
  obtain ⟨V, hV⟩ : ∃ V, V = (obD s).1 := ⟨_, rfl⟩
  obtain ⟨E, hE⟩ : ∃ E, E = (obD s).2 := ⟨_, rfl⟩
  obtain ⟨X, hX⟩ : ∃ X, X = sha s := ⟨_, rfl⟩
  rw [← hV, ← hE] at HD HE
  rw [← hV] at HSm
  rw [← hX] at HId HSu
  clear hV hE hX hz hT
  obtain ⟨kd, dt, en, tr, pa, wh, no, ti, ta⟩ := V
  unfold obA at HD HE HSm
  simp only at HD HE HSm
  go_enter Tryd.func3, Tryd.ntmps3
  go_upto_region 2 with (first
    | (go_at_call 8; (with_reducible refine Calls.mono (HD.out _) ?_); rintro e w1 ⟨A1, c1, B1, d1, rfl, r1, g1⟩)
    | (refine wpList_store_blk rfl 25 (.tmp 3) (.tmp 10) rfl (g := w1.heap.size) (cs' := obA ⟨kd, dt, en, tr, pa, wh, no, ti, ta⟩ A1 c1 B1 d1) rfl rfl (Blk.new w1 _ _) aggOb rfl (obA_one _ _ _ _ _) ?_; intro w2 h2 hg2))
  obtain ⟨p, hp⟩ : ∃ p, p = w1.heap.size := ⟨_, rfl⟩
  have z12 : Gr w1 w2 := Gr.only ((Gr.refl w1).alloc _) hg2 (Nat.le_refl _)
  rw [← hp] at h2 ⊢
  clear hg2 hp
  have G2 : Gr W w2 := g1.trans z12
  go_upto_region 3 with (first
    | (go_at_call 9; (with_reducible refine Calls.mono (HE.out _) ?_); rintro e w3 ⟨A2, c2, B2, d2, rfl, r2, g3⟩)
    | (refine wpList_store_blk rfl 25 (.tmp 5) (.tmp 15) rfl (g := w3.heap.size) (cs' := obA ⟨kd, dt, en, tr, pa, wh, no, ti, ta⟩ A2 c2 B2 d2) rfl rfl (Blk.new w3 _ _) aggOb rfl (obA_one _ _ _ _ _) ?_; intro w4 h4 hg4))
  obtain ⟨r, hr⟩ : ∃ r, r = w3.heap.size := ⟨_, rfl⟩
  have z34 : Gr w3 w4 := Gr.only ((Gr.refl w3).alloc _) hg4 (Nat.le_refl _)
  rw [← hr] at h4 ⊢
  clear hg4 hr
  have z24 : Gr w2 w4 := g3.trans z34
  have G4 : Gr W w4 := G2.trans z24
  have R1 := sec ((r1.gr z12).gr z24)
  have R2 := sec (r2.gr z34)
  clear r1 r2
  unfold obA at h2 h4
  simp only at h2 h4
  have HSK : Sec (∀ w', Gr w4 w' → w'.cell? ⟨p, 0, none⟩ = some (.int .i64 kd) ∧ w'.cell? ⟨p, 1, none⟩ = some (.string (bs dt)) ∧ w'.cell? ⟨p, 2, none⟩ = some (.slice A1 en.length c1) ∧ w'.cell? ⟨p, 3, none⟩ = some (.string (bs tr)) ∧ w'.cell? ⟨p, 4, none⟩ = some (.slice B1 pa.length d1) ∧ w'.cell? ⟨p, 5, none⟩ = some (.string (bs wh)) ∧ w'.cell? ⟨p, 6, none⟩ = some (.string (bs no)) ∧ w'.cell? ⟨p, 7, none⟩ = some (.int .i64 ti) ∧ w'.cell? ⟨p, 8, none⟩ = some (.string (bs ta)) ∧ w'.cell? ⟨r, 0, none⟩ = some (.int .i64 kd) ∧ w'.cell? ⟨r, 1, none⟩ = some (.string (bs dt)) ∧ w'.cell? ⟨r, 2, none⟩ = some (.slice A2 en.length c2) ∧ w'.cell? ⟨r, 3, none⟩ = some (.string (bs tr)) ∧ w'.cell? ⟨r, 4, none⟩ = some (.slice B2 pa.length d2) ∧ w'.cell? ⟨r, 5, none⟩ = some (.string (bs wh)) ∧ w'.cell? ⟨r, 6, none⟩ = some (.string (bs no)) ∧ w'.cell? ⟨r, 7, none⟩ = some (.int .i64 ti) ∧ w'.cell? ⟨r, 8, none⟩ = some (.string (bs ta)) ∧ Gr W w') := sec (fun w' g => ⟨(h2.gr (z24.trans g)).cell 0, (h2.gr (z24.trans g)).cell 1, (h2.gr (z24.trans g)).cell 2, (h2.gr (z24.trans g)).cell 3, (h2.gr (z24.trans g)).cell 4, (h2.gr (z24.trans g)).cell 5, (h2.gr (z24.trans g)).cell 6, (h2.gr (z24.trans g)).cell 7, (h2.gr (z24.trans g)).cell 8, (h4.gr g).cell 0, (h4.gr g).cell 1, (h4.gr g).cell 2, (h4.gr g).cell 3, (h4.gr g).cell 4, (h4.gr g).cell 5, (h4.gr g).cell 6, (h4.gr g).cell 7, (h4.gr g).cell 8, G4.trans g⟩)
  clear h2 h4
  obtain ⟨x0, x1, x2, x3, x4, x5, x6, x7, x8, y0, y1, y2, y3, y4, y5, y6, y7, y8, g0⟩ := HSK.out w4 (Gr.refl _)
  have gd : Gr w4 w4 := Gr.refl _
  go_wp2_with
    (first
      | (go_at_call 10; (with_reducible refine Calls.mono (HSm.out _ _ _ _ _ _ _ _ _ (R1.out.gr gd) (R2.out.gr gd)) ?_); rintro e v1 ⟨rfl, f1⟩; have F1 : Gr w4 v1 := Gr.trans gd f1)
      | (go_at_call 11; (with_reducible refine Calls.mono (HId.out _ (G4.trans F1)) ?_); rintro e v2 ⟨rfl, f2⟩; have F2 : Gr w4 v2 := Gr.trans F1 f2)
      | (go_at_call 12; (with_reducible refine Calls.mono (HSu.out _) ?_); rintro e v3 ⟨rfl, f3⟩; have F3 : Gr w4 v3 := Gr.trans F2 f3)
      | (go_at_call 13; (with_reducible refine Calls.mono (HOb.out _) ?_); rintro e v4 ⟨rfl, f4⟩; have F4 : Gr w4 v4 := Gr.trans F3 f4)
      | fail)
  go_ret
  exact ⟨rfl, G4.trans F4⟩
end Go.Proofs.YtmgpllakpgjicaaDoor

/-
  PkN3: contracts and plain laws joined (21 texts). No conditions but those that each states.
-/
import Derived.Test.YtoamnifnfkgbiaaGreatDoorNumber
import Derived.Test.YtoamnifnfkgbiaaGreatDoorWireN
import Derived.Test.YtoamnifnfkgbiaaGreatDoorElems
import Derived.Lib.AppendStr
import Derived.Test.YtoamnifnfkgbiaaGreatDoorWrtC
import Derived.Test.YtoamnifnfkgbiaaGreatDoorStepL
import Derived.Deep.RegionHeld3
import Derived.Test.YtoamnifnfkgbiaaGreatDoorRefN
import Derived.Test.YtoamnifnfkgbiaaGreatDoorNum
import Derived.Test.YtoamnifnfkgbiaaGreatDoorAgg
import Derived.Test.YtoamnifnfkgbiaaGreatDoorDiskRead
import Derived.Test.YtoamnifnfkgbiaaGreatDoorSumS
import Derived.Test.YtoamnifnfkgbiaaGreatDoorRSumS
import Derived.Test.YtoamnifnfkgbiaaGreatDoorMerkR
import Derived.Test.YtoamnifnfkgbiaaGreatDoorDiskRCrash
import Derived.Deep.RegionWith
import Derived.Test.YtoamnifnfkgbiaaGreatDoorRowsG
import Derived.ProofKit
import Derived.OpenShut
import Derived.ChangeOld
import Derived.Laws.MakeOwn
import Derived.Laws.BitsLemmas
import Derived.Deep.RegionLaw
namespace Go.Proofs.YtoamnifnfkgbiaaGreatDoor
open Go.RowKit
theorem text_any (t : List UInt8) (w : World) (ht : t.length ≤ 1152921504606846976) :
    Calls Tryz.prog 182 #[.string (bs t)] w fun e w' => e = .returned (.string (bs (txt t))) ∧ Gr w w' := by
  have hl := num_len9 (n := t.length) (by omega)
  have e1 := numS_nat (n := t.length) (by omega)
  have E1 := sec e1
  clear e1
  go_enter Tryz.func182, Tryz.ntmps182
  go_wp2_with (go_at_call 133; refine (number_any _ _).mono ?_; rintro e w1 ⟨rfl, g1⟩; rw [E1.out])
  go_ret
  exact ⟨rfl, g1⟩

end Go.Proofs.YtoamnifnfkgbiaaGreatDoor

namespace Go.Proofs.YtoamnifnfkgbiaaGreatDoor
open Go.RowKit
set_option maxRecDepth 100000 in
theorem wrText (B g : Nat) (q : St2) (t : List UInt8) (w : World) (h : WrAt w B g q) (hlen : q.1.length ≤ 35184372080000) :
    Calls Tryz.prog 174 #[.pointer (some ⟨g, 0, none⟩), .string (bs t)] w fun e w' => e = .returned (.tuple #[]) ∧ WrAt w' B g (wTxt t q) ∧ Below B w w' ∧ KeepT g w w' := by
  obtain ⟨l, er⟩ := q
  obtain ⟨A, cap, hb, ho⟩ := h.ex
  have hg := h.base
  have hB : B ≤ w.heap.size := by have := hb.lt; omega
  simp only at hb ho hlen
  have hc0 : w.cell? ⟨g, 0, none⟩ = some (.slice A l.length cap) := hb.cell 0
  have hc1 : w.cell? ⟨g, 1, none⟩ = some (.int .i64 (er : Int)) := hb.cell 1
  by_cases he : er = 0
  · subst he
    by_cases hn : t.length ≤ 4096
    · have h9 := num_len9 (n := t.length) (by omega)
      have hx : (txt t).length = (num t.length).length + t.length := by simp [txt]
      have hx' : (txt t).length ≤ 4105 := by omega
      clear hx h9
      go_enter Tryz.func174, Tryz.ntmps174
      go_wp2_with (first
        | (go_at_call 203; refine (puttext_ok [] _ _ (by simp) hn).mono ?_; rintro e w1 ⟨rfl, g1⟩; rw [List.nil_append]; have hb1 := hb.gr g1; have c0 : w1.cell? ⟨g, 0, none⟩ = some (.slice A l.length cap) := hb1.cell 0; have ho1 := own_gr ho g1; have hB1 : B ≤ w1.heap.size := by have := g1.size; omega)
        | (at_builtin; refine wpList_append_str E.u8 Tryz.underlying9 rfl (.tmp 25) (.tmp 26) rfl rfl ho1 rfl (by first | omega | (simp; omega)) hB1 ?_; intro A2 cap2 w2 ho2 hg2; have hb2 := blk_own hb1 ho1 (by decide) hg2; have d0 : w2.cell? ⟨g, 0, none⟩ = some (.slice A l.length cap) := hb2.cell 0; have d1 : w2.cell? ⟨g, 1, none⟩ = some (.int .i64 ((0 : Nat) : Int)) := hb2.cell 1; have f0 := hb2.frozen 0; have f1 := hb2.frozen 1))
      first | go_end0 | refine bodyPost_ret (results_none rfl _ _ _) rfl ?_
      obtain ⟨r1, r2, r3⟩ := wr_done (e' := 0) hg hb1 ho1 ho2 hg2 hB1 (by first | omega | (simp; omega))
      exact ⟨rfl, by simpa [wTxt, hn] using r1, (g1.below.mono hB).trans (by simpa using r2), (KeepT.gr g1).trans (by simpa using r3)⟩
    · go_enter Tryz.func174, Tryz.ntmps174
      go_wp2_with (first
        | (go_at_call 203; refine (puttext_long [] _ _ (by omega)).mono ?_; rintro e w1 ⟨rfl, rfl⟩; have hb1 := hb; have ho1 := ho; have hB1 := hB)
        | (at_builtin; refine wpList_append_str (s := []) E.u8 Tryz.underlying9 rfl (.tmp 25) (.tmp 26) rfl rfl ho1 rfl (by first | omega | (simp; omega)) hB1 ?_; intro A2 cap2 w2 ho2 hg2; rw [List.append_nil] at ho2; have hb2 := blk_own hb1 ho1 (by decide) hg2; have d0 : w2.cell? ⟨g, 0, none⟩ = some (.slice A l.length cap) := hb2.cell 0; have d1 : w2.cell? ⟨g, 1, none⟩ = some (.int .i64 ((0 : Nat) : Int)) := hb2.cell 1; have f0 := hb2.frozen 0; have f1 := hb2.frozen 1))
      first | go_end0 | refine bodyPost_ret (results_none rfl _ _ _) rfl ?_
      obtain ⟨r1, r2, r3⟩ := wr_done (e' := 1) hg hb1 ho1 ho2 hg2 hB1 (by first | omega | (simp; omega))
      exact ⟨rfl, by simpa [wTxt, hn] using r1, by first | exact r2 | simpa using r2, by first | exact r3 | simpa using r3⟩
  · have he' : ((er : Int) == 0) = false := by simpa using he
    have he2 : ((er : Int) != 0) = true := by simpa using he
    go_enter Tryz.func174, Tryz.ntmps174
    go_wp2
    first | go_end0 | refine bodyPost_ret (results_none rfl _ _ _) rfl ?_
    exact ⟨rfl, by simpa [wTxt, he] using h, Below.refl _ _, KeepT.refl _ _⟩

end Go.Proofs.YtoamnifnfkgbiaaGreatDoor

namespace Go.Proofs.YtoamnifnfkgbiaaGreatDoor
set_option maxRecDepth 100000
open Go.RowKit
set_option linter.unusedVariables false
/-- what a writer holds behind three texts -/
def tri (s : Stp) (q : St2) : St2 := wTxt s.n (wTxt s.o (wTxt s.r q))
/-- behind i of them -/
def triAt (s : Stp) (q : St2) : Nat → St2
  | 0 => q
  | 1 => wTxt s.r q
  | 2 => wTxt s.o (wTxt s.r q)
  | _ => tri s q
def triX (s : Stp) : Nat → List UInt8
  | 0 => s.r
  | 1 => s.o
  | _ => s.n
theorem triAt_succ (s : Stp) (q : St2) (i : Nat) (h : i < 3) : triAt s q (i + 1) = wTxt (triX s i) (triAt s q i) := by
  match i, h with
  | 0, _ => rfl
  | 1, _ => rfl
  | 2, _ => rfl
theorem wTxt_len (t : List UInt8) (q : St2) : (wTxt t q).1.length ≤ q.1.length + 4105 := by
  unfold wTxt
  split
  · split
    · rename_i h
      have := txt_len t (by omega)
      simp only [List.length_append]
      omega
    · simp only; omega
  · omega
theorem triAt_len (s : Stp) (q : St2) : ∀ i, (triAt s q i).1.length ≤ q.1.length + 12315
  | 0 => by show q.1.length ≤ _; omega
  | 1 => by have := wTxt_len s.r q; show (wTxt s.r q).1.length ≤ _; omega
  | 2 => by
    have h1 := wTxt_len s.r q
    have h2 := wTxt_len s.o (wTxt s.r q)
    show (wTxt s.o (wTxt s.r q)).1.length ≤ _
    omega
  | n + 3 => by
    have h1 := wTxt_len s.r q
    have h2 := wTxt_len s.o (wTxt s.r q)
    have h3 := wTxt_len s.n (wTxt s.o (wTxt s.r q))
    show (wTxt s.n (wTxt s.o (wTxt s.r q))).1.length ≤ _
    omega
theorem body_wr {at_ : Int} (s : Stp) (h0 : 0 ≤ at_) (h1 : at_ ≤ 199) : (if (tri s (numS at_, 0)).2 = 0 then (tri s (numS at_, 0)).1 else [], ((tri s (numS at_, 0)).2 : Int)) = bodyR at_ s := by
  have hB : bodyR at_ s = if 4096 < s.r.length ∨ 4096 < s.o.length ∨ 4096 < s.n.length then ([], 1) else (numS at_ ++ txt s.r ++ txt s.o ++ txt s.n, 0) := by
    unfold bodyR
    rw [if_neg (show ¬ (at_ < 0 ∨ 199 < at_) by omega)]
  have no : ∀ (l t : List UInt8), wTxt t (l, 1) = (l, 1) := fun l t => by unfold wTxt; rw [if_neg (show ¬ (1 : Nat) = 0 by omega)]
  have yes : ∀ (l t : List UInt8), t.length ≤ 4096 → wTxt t (l, 0) = (l ++ txt t, 0) := fun l t h => by unfold wTxt; rw [if_pos rfl, if_pos h]
  have long : ∀ (l t : List UInt8), ¬ t.length ≤ 4096 → wTxt t (l, 0) = (l, 1) := fun l t h => by unfold wTxt; rw [if_pos rfl, if_neg h]
  have bad : ∀ l : List UInt8, (if (l, (1 : Nat)).2 = 0 then (l, (1 : Nat)).1 else ([] : List UInt8), ((l, (1 : Nat)).2 : Int)) = (([] : List UInt8), (1 : Int)) := fun l => rfl
  rw [hB]
  unfold tri
  by_cases a : s.r.length ≤ 4096
  · rw [yes _ _ a]
    by_cases b : s.o.length ≤ 4096
    · rw [yes _ _ b]
      by_cases c : s.n.length ≤ 4096
      · rw [yes _ _ c, if_neg (show ¬ (4096 < s.r.length ∨ 4096 < s.o.length ∨ 4096 < s.n.length) by omega)]; rfl
      · rw [long _ _ c, bad, if_pos (show 4096 < s.r.length ∨ 4096 < s.o.length ∨ 4096 < s.n.length by omega)]
    · rw [long _ _ b, no, bad, if_pos (show 4096 < s.r.length ∨ 4096 < s.o.length ∨ 4096 < s.n.length by omega)]
  · rw [long _ _ a, no, no, bad, if_pos (show 4096 < s.r.length ∨ 4096 < s.o.length ∨ 4096 < s.n.length by omega)]

set_option maxHeartbeats 8000000 in
theorem stBody_any (at_ : Int) (s : Stp) (A : Option Addr) (c : Nat) (B : Option Addr) (d : Nat) (w : World) (hz : StSz 1099511627776 s) :
    Calls Tryz.prog 125 #[.int .i64 at_, .agg (stepA s A c B d)] w fun e w' => e = .returned (.tuple #[.string (bs (bodyR at_ s).1), .int .i64 (bodyR at_ s).2]) ∧ Gr w w' := by
  obtain ⟨wa, hwa⟩ : ∃ x, x = w.alloc (.cells (stepA s A c B d) 69) := ⟨_, rfl⟩
  have hb : Blk wa w.heap.size 69 (stepA s A c B d) := by rw [hwa]; exact Blk.new w _ _
  have hg0 : Gr w wa := by rw [hwa]; exact (Gr.refl w).alloc _
  obtain ⟨p, hp⟩ : ∃ p, p = w.heap.size := ⟨_, rfl⟩
  rw [← hp] at hb
  by_cases hr : at_ < 0 ∨ 199 < at_
  · have HR : Sec (bodyR at_ s = ([], 3)) := sec (by unfold bodyR; rw [if_pos hr])
    rw [HR.out]
    unfold stepA at hwa
    unfold stepA
    by_cases h0 : at_ < 0
    · have q0 : decide (at_ < 0) = true := decide_eq_true h0
      clear hr hb
      go_enter Tryz.func125, Tryz.ntmps125
      go_wp2_with (first | (rw [← hwa, ← hp]; clear hwa hp; go_wp2_with fail))
      go_ret2
      exact ⟨rfl, hg0⟩
    · have q0 : decide (at_ < 0) = false := decide_eq_false h0
      have q1 : decide (200 ≤ at_) = true := decide_eq_true (by omega)
      clear hr hb
      go_enter Tryz.func125, Tryz.ntmps125
      go_wp2_with (first | (rw [← hwa, ← hp]; clear hwa hp; go_wp2_with fail))
      go_ret2
      exact ⟨rfl, hg0⟩
  · have q0 : decide (at_ < 0) = false := decide_eq_false (by omega)
    have q1 : decide (200 ≤ at_) = false := decide_eq_false (by omega)
    have HBW := sec (body_wr (at_ := at_) s (by omega) (by omega))
    have hnl : (numS at_).length ≤ 9 := by rw [numS_in (by omega) (by omega)]; exact num_len9 (by omega)
    have HTL := sec (triAt_len s (numS at_, 0))
    have HTS := sec (triAt_succ s (numS at_, 0))
    have HNu : Sec (∀ B g w, WrAt w B g ([], 0) → Calls Tryz.prog 175 #[.pointer (some ⟨g, 0, none⟩), .int .i64 at_] w fun e w' => e = .returned (.tuple #[]) ∧ WrAt w' B g (triAt s (numS at_, 0) 0) ∧ Below B w w' ∧ KeepT g w w') := sec (fun B g w h => by
      have := wrNumber B g ([], 0) at_ w h (by simp)
      have e : wNum at_ ([], 0) = (numS at_, 0) := by unfold wNum; rw [if_pos rfl, if_pos ⟨by omega, by omega⟩]; rfl
      rwa [e] at this)
    have HTx : Sec (∀ B g w i, i < 3 → WrAt w B g (triAt s (numS at_, 0) i) → Calls Tryz.prog 174 #[.pointer (some ⟨g, 0, none⟩), .string (bs (triX s i))] w fun e w' => e = .returned (.tuple #[]) ∧ WrAt w' B g (triAt s (numS at_, 0) (i + 1)) ∧ Below B w w' ∧ KeepT g w w') := sec (fun B g w i hi h => by
      have := wrText B g _ (triX s i) w h (by have := HTL.out i; simp only at this; omega)
      rwa [← HTS.out i hi] at this)
    have HDn : Sec (∀ B g w, WrAt w B g (triAt s (numS at_, 0) 3) → Calls Tryz.prog 177 #[.pointer (some ⟨g, 0, none⟩)] w fun e w' => e = .returned (.tuple #[.string (bs (bodyR at_ s).1), .int .i64 (bodyR at_ s).2]) ∧ Gr w w') := sec (fun B g w h => by
      have := wrDone B g _ w h
      have e := HBW.out
      have e1 := congrArg Prod.fst e
      have e2 := congrArg Prod.snd e
      simp only at e1 e2
      rw [← e1, ← e2]
      exact this)
    have HW0 : Sec (∀ w1 : World, WrAt (w1.alloc (.cells #[.slice none 0 0, .int .i64 0] 197)) w1.heap.size w1.heap.size ([], 0)) := sec (fun w1 => ⟨⟨none, 0, Blk.new w1 _ _, World.ownsRow_nil _ _ _ _⟩, Nat.le_refl _, by simp⟩)
    obtain ⟨R, hRR⟩ : ∃ R, R = bodyR at_ s := ⟨_, rfl⟩
    rw [← hRR] at HDn
    rw [← hRR]
    obtain ⟨T, hT⟩ : ∃ T, T = triAt s (numS at_, 0) := ⟨_, rfl⟩
    rw [← hT] at HNu HTx HDn
    have HB := sec hb
    clear hr hb HBW hnl HTL HTS hRR hT hz
    unfold stepA at hwa
    unfold stepA
    go_enter Tryz.func125, Tryz.ntmps125
    go_upto_region 3 with fail
    rw [← hwa, ← hp]
    clear hwa hp
    go_wp2_with (go_at_call 175; refine Calls.mono (HNu.out wa.heap.size wa.heap.size _ (HW0.out wa)) ?_; rintro e w2 ⟨rfl, d2, k2, _⟩; have g2 : Gr wa w2 := Below.trans ((Gr.refl wa).alloc _) k2; have y0 : w2.cell? ⟨p, 0, none⟩ = some (.string (bs s.r)) := (HB.out.gr g2).cell 0; have y1 : w2.cell? ⟨p, 1, none⟩ = some (.string (bs s.o)) := (HB.out.gr g2).cell 1; have y2 : w2.cell? ⟨p, 2, none⟩ = some (.string (bs s.n)) := (HB.out.gr g2).cell 2)
    have hv := Blk.new w2 9 #[.string (bs s.r), .string (bs s.o), .string (bs s.n)]
    have dv := d2.gr ((Gr.refl w2).alloc (.cells #[.string (bs s.r), .string (bs s.o), .string (bs s.n)] 9))
    have gv := g2.alloc (.cells #[.string (bs s.r), .string (bs s.o), .string (bs s.n)] 9)
    have hpq : w2.heap.size ≠ wa.heap.size := by have := d2.ex; obtain ⟨_, _, h, _⟩ := this; have := h.lt; omega
    obtain ⟨wb, hwb⟩ : ∃ x, x = w2.alloc (.cells #[.string (bs s.r), .string (bs s.o), .string (bs s.n)] 9) := ⟨_, rfl⟩
    obtain ⟨v, hvv⟩ : ∃ v, v = w2.heap.size := ⟨_, rfl⟩
    obtain ⟨g, hgg⟩ : ∃ g, g = wa.heap.size := ⟨_, rfl⟩
    rw [← hwb] at hv dv gv
    rw [← hvv] at hv hpq
    rw [← hgg] at dv hpq
    rw [← hwb, ← hvv, ← hgg]
    have HG := sec hgg
    clear hwb hvv hgg y0 y1 y2 d2 k2 g2
    go_loopg [28, 8] 3 (fun fuel iv _ wr => ∃ i : Nat, iv = .int .i64 (i : Int) ∧ 3 ≤ i + fuel ∧ i ≤ 3 ∧ WrAt wr g g (T i) ∧ Blk wr v 9 #[.string (bs s.r), .string (bs s.o), .string (bs s.n)] ∧ Gr wa wr)
    case atStart => exact ⟨0, rfl, by omega, by omega, dv, hv, gv⟩
    case round =>
      clear hv dv gv
      obtain ⟨i, rfl, hik, hi, dw, bw, gw⟩ := hrel
      by_cases h3 : i < 3
      · have hTi := HTx.out g g wr i h3 dw
        have hc : wr.cell? ⟨v, i, none⟩ = some (.string (bs (triX s i))) := by
          match i, h3 with
          | 0, _ => exact bw.cell 0
          | 1, _ => exact bw.cell 1
          | 2, _ => exact bw.cell 2
        have HTi := sec hTi
        have hii : (i : Int) < 3 := by omega
        have H3 := sec h3
        clear hTi h3
        go_wp2_with (go_at_call 174; refine Calls.mono HTi.out ?_; rintro e w3 ⟨rfl, d3, k3, kt3⟩)
        go_roundg (gk - 1)
        case rel => exact ⟨i + 1, by go_num, by omega, by have := H3.out; omega, d3, kt3 v _ _ hpq (by decide) bw, by rw [HG.out] at k3; exact Below.trans gw k3⟩
        case measure => have := H3.out; omega
      · obtain rfl : i = 3 := by omega
        clear h3 hik
        go_wp2_with (go_at_call 177; refine Calls.mono (HDn.out _ _ _ dw) ?_; rintro e w4 ⟨rfl, g4⟩)
        go_ret2
        exact ⟨rfl, hg0.trans (gw.trans g4)⟩

set_option maxHeartbeats 8000000 in
theorem rstBody_any (at_ : Int) (s : Stp) (A : Option Addr) (c : Nat) (B : Option Addr) (d : Nat) (w : World) (hz : StSz 1099511627776 s) :
    Calls Tryz.prog 139 #[.int .i64 at_, .agg (stepA s A c B d)] w fun e w' => e = .returned (.tuple #[.string (bs (bodyR at_ s).1), .int .i64 (bodyR at_ s).2]) ∧ Gr w w' := by
  obtain ⟨wa, hwa⟩ : ∃ x, x = w.alloc (.cells (stepA s A c B d) 69) := ⟨_, rfl⟩
  have hb : Blk wa w.heap.size 69 (stepA s A c B d) := by rw [hwa]; exact Blk.new w _ _
  have hg0 : Gr w wa := by rw [hwa]; exact (Gr.refl w).alloc _
  obtain ⟨p, hp⟩ : ∃ p, p = w.heap.size := ⟨_, rfl⟩
  rw [← hp] at hb
  obtain ⟨R, hRR⟩ : ∃ R, R = bodyR at_ s := ⟨_, rfl⟩
  rw [← hRR]
  have HRR := sec hRR
  clear hRR
  obtain ⟨r, o, n, who, seals⟩ := s
  have hr := hz.r
  have ho := hz.o
  have hn := hz.n
  simp only at hr ho hn
  have HT1 := sec (fun w => text_any r w (by omega))
  have HT2 := sec (fun w => text_any o w (by omega))
  have HT3 := sec (fun w => text_any n w (by omega))
  have HN := sec (fun w => number_any at_ w)
  unfold stepA at hwa hb
  unfold stepA
  simp only at hwa hb ⊢
  have HB := sec hb
  have hb0 : wa.cell? ⟨p, 0, none⟩ = some (.string (bs r)) := hb.cell 0
  have hb1 : wa.cell? ⟨p, 1, none⟩ = some (.string (bs o)) := hb.cell 1
  have hb2 : wa.cell? ⟨p, 2, none⟩ = some (.string (bs n)) := hb.cell 2
  clear hb hz
  by_cases hr : at_ < 0 ∨ 199 < at_
  · have HR : Sec (R = ([], 3)) := sec (by rw [HRR.out]; unfold bodyR; rw [if_pos hr])
    by_cases h0 : at_ < 0
    · have q0 : decide (at_ < 0) = true := decide_eq_true h0
      clear hr
      go_enter Tryz.func139, Tryz.ntmps139
      go_wp2_with (first | (rw [← hwa, ← hp]; clear hwa hp; go_wp2_with fail))
      go_ret2
      exact ⟨by rw [HR.out]; rfl, hg0⟩
    · have q0 : decide (at_ < 0) = false := decide_eq_false h0
      have q1 : decide (199 < at_) = true := decide_eq_true (by omega)
      clear hr
      go_enter Tryz.func139, Tryz.ntmps139
      go_wp2_with (first | (rw [← hwa, ← hp]; clear hwa hp; go_wp2_with fail))
      go_ret2
      exact ⟨by rw [HR.out]; rfl, hg0⟩
  · have q0 : decide (at_ < 0) = false := decide_eq_false (by omega)
    have q1 : decide (199 < at_) = false := decide_eq_false (by omega)
    have HR1 : Sec (R = if 4096 < r.length ∨ 4096 < o.length ∨ 4096 < n.length then ([], 1) else (numS at_ ++ txt r ++ txt o ++ txt n, 0)) := sec (by rw [HRR.out]; unfold bodyR; rw [if_neg hr])
    have hnl : (numS at_).length ≤ 9 := by rw [numS_in (by omega) (by omega)]; exact num_len9 (by omega)
    by_cases h4 : 4096 < r.length ∨ 4096 < o.length ∨ 4096 < n.length
    · have HR : Sec (R = ([], 1)) := sec (by rw [HR1.out, if_pos h4])
      clear hnl HT1 HT2 HT3 HN
      by_cases g1 : 4096 < r.length
      · have t1 : (4096 : Int) < (r.length : Int) := by omega
        clear h4 hr
        go_enter Tryz.func139, Tryz.ntmps139
        go_wp2_with (first | (rw [← hwa, ← hp]; clear hwa hp; go_wp2_with fail))
        go_ret2
        exact ⟨by rw [HR.out]; rfl, hg0⟩
      · have t1 : ¬ (4096 : Int) < (r.length : Int) := by omega
        by_cases g2 : 4096 < o.length
        · have t2 : (4096 : Int) < (o.length : Int) := by omega
          clear h4 hr
          go_enter Tryz.func139, Tryz.ntmps139
          go_wp2_with (first | (rw [← hwa, ← hp]; clear hwa hp; go_wp2_with fail))
          go_ret2
          exact ⟨by rw [HR.out]; rfl, hg0⟩
        · have t2 : ¬ (4096 : Int) < (o.length : Int) := by omega
          have t3 : (4096 : Int) < (n.length : Int) := by omega
          clear h4 hr
          go_enter Tryz.func139, Tryz.ntmps139
          go_wp2_with (first | (rw [← hwa, ← hp]; clear hwa hp; go_wp2_with fail))
          go_ret2
          exact ⟨by rw [HR.out]; rfl, hg0⟩
    · have HR : Sec (R = (numS at_ ++ txt r ++ txt o ++ txt n, 0)) := sec (by rw [HR1.out, if_neg h4])
      have t1 : ¬ (4096 : Int) < (r.length : Int) := by omega
      have t2 : ¬ (4096 : Int) < (o.length : Int) := by omega
      have t3 : ¬ (4096 : Int) < (n.length : Int) := by omega
      have l1 := txt_len r (by omega)
      have l2 := txt_len o (by omega)
      have l3 := txt_len n (by omega)
      obtain ⟨N, hN⟩ : ∃ x, x = numS at_ := ⟨_, rfl⟩
      rw [← hN] at hnl HN HR
      obtain ⟨x1, hx1⟩ : ∃ x, x = txt r := ⟨_, rfl⟩
      rw [← hx1] at l1 HT1 HR
      obtain ⟨x2, hx2⟩ : ∃ x, x = txt o := ⟨_, rfl⟩
      rw [← hx2] at l2 HT2 HR
      obtain ⟨x3, hx3⟩ : ∃ x, x = txt n := ⟨_, rfl⟩
      rw [← hx3] at l3 HT3 HR
      have k1 : ¬ 9223372036854775807 < N.length + x1.length := by omega
      have k2 : ¬ 9223372036854775807 < N.length + x1.length + x2.length := by omega
      have k3 : ¬ 9223372036854775807 < N.length + x1.length + x2.length + x3.length := by omega
      have k4 : ¬ 9223372036854775807 < N.length + (x1.length + x2.length) := by omega
      have k5 : ¬ 9223372036854775807 < N.length + (x1.length + x2.length) + x3.length := by omega
      have k6 : ¬ 9223372036854775807 < N.length + (x1.length + (x2.length + x3.length)) := by omega
      clear hN hx1 hx2 hx3 l1 l2 l3 hnl h4 hr HRR HR1
      go_enter Tryz.func139, Tryz.ntmps139
      go_wp2_with (first | (rw [← hwa, ← hp]; clear hwa hp; go_wp2_with fail))
      have HSK : Sec (∀ w', Gr wa w' → w'.cell? ⟨p, 0, none⟩ = some (.string (bs r)) ∧ w'.cell? ⟨p, 1, none⟩ = some (.string (bs o)) ∧ w'.cell? ⟨p, 2, none⟩ = some (.string (bs n)) ∧ Gr wa w') := sec (fun w' g => ⟨(HB.out.gr g).cell 0, (HB.out.gr g).cell 1, (HB.out.gr g).cell 2, g⟩)
      have gd : Gr wa wa.drew := (Gr.refl _).drew
      go_region_held3 (fun w' => w'.cell? ⟨p, 0, none⟩ = some (.string (bs r)) ∧ w'.cell? ⟨p, 1, none⟩ = some (.string (bs o)) ∧ w'.cell? ⟨p, 2, none⟩ = some (.string (bs n)) ∧ Gr wa w')
        (first | with_reducible assumption | with_reducible exact HSK.out _ gd | with_reducible exact HSK.out _ G1 | with_reducible exact HSK.out _ G2 | with_reducible exact HSK.out _ G3 | with_reducible exact HSK.out _ G4 | fail)
        (first
          | (go_at_call 133; (with_reducible refine Calls.mono (HN.out _) ?_); rintro e w1 ⟨rfl, g1⟩; have G1 : Gr wa w1 := Gr.trans gd g1)
          | (go_at_call 182; (with_reducible refine Calls.mono (HT1.out w1) ?_); rintro e w2 ⟨rfl, g2⟩; have G2 : Gr wa w2 := Gr.trans G1 g2)
          | (go_at_call 182; (with_reducible refine Calls.mono (HT2.out w2) ?_); rintro e w3 ⟨rfl, g3⟩; have G3 : Gr wa w3 := Gr.trans G2 g3)
          | (go_at_call 182; (with_reducible refine Calls.mono (HT3.out w3) ?_); rintro e w4 ⟨rfl, g4⟩; have G4 : Gr wa w4 := Gr.trans G3 g4)
          | fail)
      all_goals
        go_wp2_with fail
        go_ret2
        exact ⟨by rw [HR.out]; simp only [List.append_assoc]; rfl, hg0.trans G4⟩
end Go.Proofs.YtoamnifnfkgbiaaGreatDoor

namespace Go.Proofs.YtoamnifnfkgbiaaGreatDoor
set_option maxRecDepth 100000
open Go.RowKit
set_option linter.unusedVariables false
set_option maxHeartbeats 8000000 in
theorem stGood_any (s : Stp) (A : Option Addr) (c : Nat) (B : Option Addr) (d : Nat) (w : World) (hR : StR w s A c B d) (hz : StSz 1099511627776 s) :
    Calls Tryz.prog 80 #[.agg (stepA s A c B d)] w fun e w' => e = .returned (.int .i64 (stE s)) ∧ Gr w w' := by
  have HNa := sec (fun w => refNamed_any s.r w hz.r)
  obtain ⟨wa, hwa⟩ : ∃ x, x = w.alloc (.cells (stepA s A c B d) 69) := ⟨_, rfl⟩
  have hb : Blk wa w.heap.size 69 (stepA s A c B d) := by rw [hwa]; exact Blk.new w _ _
  have hg0 : Gr w wa := by rw [hwa]; exact (Gr.refl w).alloc _
  obtain ⟨p, hp⟩ : ∃ p, p = w.heap.size := ⟨_, rfl⟩
  rw [← hp] at hb
  have HW := sec (hR.who.gr hg0)
  have HS := sec (hR.seals.gr hg0)
  have hwl := hz.who
  have hsl := hz.seals
  obtain ⟨V, hV⟩ : ∃ V : Int, V = stE s := ⟨_, rfl⟩
  rw [← hV]
  have HV := sec hV
  obtain ⟨r, o, n, who, seals⟩ := s
  simp only at HNa hwl hsl HW HS
  unfold stepA at hb hwa
  unfold stepA
  simp only at hb hwa ⊢
  have HCELL : Sec (∀ w', Gr wa w' → w'.cell? ⟨p, 0, none⟩ = some (.string (bs r)) ∧ w'.cell? ⟨p, 1, none⟩ = some (.string (bs o)) ∧ w'.cell? ⟨p, 2, none⟩ = some (.string (bs n)) ∧ w'.cell? ⟨p, 3, none⟩ = some (.slice A who.length c) ∧ w'.cell? ⟨p, 4, none⟩ = some (.slice B seals.length d)) := sec (fun w' g => ⟨(hb.gr g).cell 0, (hb.gr g).cell 1, (hb.gr g).cell 2, (hb.gr g).cell 3, (hb.gr g).cell 4⟩)
  clear hb hV hR hz
  obtain ⟨ok, hok⟩ : ∃ ok : Bool, ok = stB ⟨r, o, n, who, seals⟩ := ⟨_, rfl⟩
  have HOK := sec hok
  clear hok
  go_enter Tryz.func80, Tryz.ntmps80
  go_upto_region 1 with fail
  rw [← hwa, ← hp]
  clear hwa hp
  obtain ⟨c0, c1, c2, c3, c4⟩ := HCELL.out wa (Gr.refl _)
  go_cut [39] from 5 to 39 (fun v39 wc => v39 = .bool (!ok) ∧ Gr wa wc)
  case first =>
    obtain ⟨rb, hrb⟩ : ∃ b, b = refB r := ⟨_, rfl⟩
    rw [← hrb] at HNa
    have hok : ok = (rb && (mayB o && (mayB n && !(o == n)))) := by rw [HOK.out, hrb]; rfl
    clear hrb
    cases rb
    · have HX : Sec (ok = false) := sec (by rw [hok]; rfl)
      clear hok
      go_wp2_with (go_at_call 123; refine Calls.mono (HNa.out _) ?_; rintro e w1 ⟨rfl, g1⟩; obtain ⟨d0, d1, d2, d3, d4⟩ := HCELL.out w1 g1)
      go_meet
      exact ⟨by rw [HX.out]; rfl, g1⟩
    · rcases may_cases o with ⟨a1, a2⟩ | ⟨a1, a2, a3⟩ | ⟨a1, a2, a3⟩
      · rw [a2] at hok
        clear a2
        rcases may_cases n with ⟨b1, b2⟩ | ⟨b1, b2, b3⟩ | ⟨b1, b2, b3⟩
        · rw [b2] at hok
          clear b2
          cases heq : (o == n)
          · have HX : Sec (ok = true) := sec (by rw [hok, heq]; rfl)
            clear hok
            go_wp2_with (go_at_call 123; refine Calls.mono (HNa.out _) ?_; rintro e w1 ⟨rfl, g1⟩; obtain ⟨d0, d1, d2, d3, d4⟩ := HCELL.out w1 g1)
            go_meet
            exact ⟨by rw [HX.out]; rfl, g1⟩
          · have HX : Sec (ok = false) := sec (by rw [hok, heq]; rfl)
            clear hok
            go_wp2_with (go_at_call 123; refine Calls.mono (HNa.out _) ?_; rintro e w1 ⟨rfl, g1⟩; obtain ⟨d0, d1, d2, d3, d4⟩ := HCELL.out w1 g1)
            go_meet
            exact ⟨by rw [HX.out]; rfl, g1⟩
        · rw [b3] at hok
          clear b3
          cases heq : (o == n)
          · have HX : Sec (ok = true) := sec (by rw [hok, heq]; rfl)
            clear hok
            go_wp2_with (go_at_call 123; refine Calls.mono (HNa.out _) ?_; rintro e w1 ⟨rfl, g1⟩; obtain ⟨d0, d1, d2, d3, d4⟩ := HCELL.out w1 g1)
            go_meet
            exact ⟨by rw [HX.out]; rfl, g1⟩
          · have HX : Sec (ok = false) := sec (by rw [hok, heq]; rfl)
            clear hok
            go_wp2_with (go_at_call 123; refine Calls.mono (HNa.out _) ?_; rintro e w1 ⟨rfl, g1⟩; obtain ⟨d0, d1, d2, d3, d4⟩ := HCELL.out w1 g1)
            go_meet
            exact ⟨by rw [HX.out]; rfl, g1⟩
        · have HX : Sec (ok = false) := sec (by rw [hok, b3]; simp)
          clear hok b3
          go_wp2_with (go_at_call 123; refine Calls.mono (HNa.out _) ?_; rintro e w1 ⟨rfl, g1⟩; obtain ⟨d0, d1, d2, d3, d4⟩ := HCELL.out w1 g1)
          go_meet
          exact ⟨by rw [HX.out]; rfl, g1⟩
      · rw [a3] at hok
        clear a3
        rcases may_cases n with ⟨b1, b2⟩ | ⟨b1, b2, b3⟩ | ⟨b1, b2, b3⟩
        · rw [b2] at hok
          clear b2
          cases heq : (o == n)
          · have HX : Sec (ok = true) := sec (by rw [hok, heq]; rfl)
            clear hok
            go_wp2_with (go_at_call 123; refine Calls.mono (HNa.out _) ?_; rintro e w1 ⟨rfl, g1⟩; obtain ⟨d0, d1, d2, d3, d4⟩ := HCELL.out w1 g1)
            go_meet
            exact ⟨by rw [HX.out]; rfl, g1⟩
          · have HX : Sec (ok = false) := sec (by rw [hok, heq]; rfl)
            clear hok
            go_wp2_with (go_at_call 123; refine Calls.mono (HNa.out _) ?_; rintro e w1 ⟨rfl, g1⟩; obtain ⟨d0, d1, d2, d3, d4⟩ := HCELL.out w1 g1)
            go_meet
            exact ⟨by rw [HX.out]; rfl, g1⟩
        · rw [b3] at hok
          clear b3
          cases heq : (o == n)
          · have HX : Sec (ok = true) := sec (by rw [hok, heq]; rfl)
            clear hok
            go_wp2_with (go_at_call 123; refine Calls.mono (HNa.out _) ?_; rintro e w1 ⟨rfl, g1⟩; obtain ⟨d0, d1, d2, d3, d4⟩ := HCELL.out w1 g1)
            go_meet
            exact ⟨by rw [HX.out]; rfl, g1⟩
          · have HX : Sec (ok = false) := sec (by rw [hok, heq]; rfl)
            clear hok
            go_wp2_with (go_at_call 123; refine Calls.mono (HNa.out _) ?_; rintro e w1 ⟨rfl, g1⟩; obtain ⟨d0, d1, d2, d3, d4⟩ := HCELL.out w1 g1)
            go_meet
            exact ⟨by rw [HX.out]; rfl, g1⟩
        · have HX : Sec (ok = false) := sec (by rw [hok, b3]; simp)
          clear hok b3
          go_wp2_with (go_at_call 123; refine Calls.mono (HNa.out _) ?_; rintro e w1 ⟨rfl, g1⟩; obtain ⟨d0, d1, d2, d3, d4⟩ := HCELL.out w1 g1)
          go_meet
          exact ⟨by rw [HX.out]; rfl, g1⟩
      · have HX : Sec (ok = false) := sec (by rw [hok, a3]; simp)
        clear hok a3
        go_wp2_with (go_at_call 123; refine Calls.mono (HNa.out _) ?_; rintro e w1 ⟨rfl, g1⟩; obtain ⟨d0, d1, d2, d3, d4⟩ := HCELL.out w1 g1)
        go_meet
        exact ⟨by rw [HX.out]; rfl, g1⟩
  case rest =>
    obtain ⟨rfl, gc⟩ := hcut
    clear c0 c1 c2 c3 c4
    obtain ⟨c0, c1, c2, c3, c4⟩ := HCELL.out wc gc
    cases ok
    · have HV2 : Sec (V = 2) := sec (by rw [HV.out]; unfold stE; rw [← HOK.out]; rfl)
      go_wp2_with fail
      go_ret
      exact ⟨by rw [HV2.out]; rfl, hg0.trans gc⟩
    · have HV1 : Sec (V = if 8 < who.length ∨ ¬ seals.length = who.length then 6 else stF (-1) who seals) := sec (by rw [HV.out]; unfold stE; rw [← HOK.out]; rfl)
      by_cases h8 : 8 < who.length
      · have q8 : (8 : Int) < (who.length : Int) := by omega
        have HV6 : Sec (V = 6) := sec (by rw [HV1.out, if_pos (Or.inl h8)])
        clear h8
        go_wp2_with fail
        go_ret
        exact ⟨by rw [HV6.out]; rfl, hg0.trans gc⟩
      · have q8 : ¬ (8 : Int) < (who.length : Int) := by omega
        by_cases hne : seals.length = who.length
        · have HLEN := sec hne
          have HV0 : Sec (V = stF (-1) who seals) := sec (by rw [HV1.out, if_neg (by omega)])
          have qne : ((who.length : Int) != (seals.length : Int)) = false := by rw [bne_eq_false_iff_eq]; omega
          clear hne h8
          go_wp2_with fail
          clear c0 c1 c2 c3 c4 qne
          go_loopg [56, 3, 4] who.length (fun fuel iv _ _ wr => ∃ (i : Nat) (last : Int), iv = .int .i64 (i : Int) ∧ who.length ≤ i + fuel ∧ i ≤ who.length ∧ Sec (stSeen ⟨r, o, n, who, seals⟩ i last) ∧ Gr wa wr)
          case atStart => exact ⟨0, -1, rfl, by omega, by omega, sec (stSeen0 _), gc⟩
          case round =>
            obtain ⟨i, last, rfl, hik, hi, HST, hg⟩ := hrel
            by_cases hlt : i < who.length
            · have hss : i < seals.length := by have := HLEN.out; omega
              have hii : (i : Int) < (who.length : Int) := by omega
              have hjj : (i : Int) < (seals.length : Int) := by omega
              obtain ⟨b, off, rfl, e0⟩ := (HW.out.gr hg).cell hlt
              obtain ⟨b2, off2, rfl, x0⟩ := (HS.out.gr hg).cell hss
              obtain ⟨c0, c1, c2, c3, c4⟩ := HCELL.out wr hg
              have hhere := HST.out.here (s := ⟨r, o, n, who, seals⟩) hlt hss
              have HNEXT := sec (fun h1 h2 => HST.out.next (s := ⟨r, o, n, who, seals⟩) hlt hss h1 h2)
              have hlow := HST.out.low (s := ⟨r, o, n, who, seals⟩) (Nat.le_of_lt hlt)
              simp only at hhere HNEXT
              have HPREV : Sec (∀ j, i = j + 1 → wr.cell? ⟨b, off + j, none⟩ = some (.int .i64 last)) := sec (fun j hj => by
                obtain ⟨b', off', e, h0⟩ := (HW.out.gr hg).cell (i := j) (by omega)
                injection e with e; injection e with e3 e4 _
                subst e3 e4
                have := (HST.out.2.2 ⟨by omega, Nat.le_of_lt hlt⟩).1
                subst hj
                rw [this]; exact h0)
              have HZERO : Sec (i = 0 → last = -1) := sec HST.out.2.1
              obtain ⟨mw, hmw⟩ : ∃ x, x = who[i] := ⟨_, rfl⟩
              obtain ⟨sl, hslx⟩ : ∃ x, x = seals[i] := ⟨_, rfl⟩
              rw [← hmw, ← hslx] at hhere HNEXT
              rw [← hmw] at e0
              rw [← hslx] at x0
              have HHERE := sec hhere
              have HII := sec (And.intro hss hlt)
              clear hmw hslx hhere hss hlt
              by_cases hbad : mw ≤ last ∨ 7 < mw
              · have HV3 : Sec (V = 3) := sec (by rw [HV0.out, HHERE.out, if_pos hbad])
                by_cases g0 : mw < 0
                · have q0 : decide (mw < 0) = true := decide_eq_true g0
                  clear hbad
                  go_wp2_with fail
                  go_ret
                  exact ⟨by rw [HV3.out]; rfl, hg0.trans hg⟩
                · have q0 : decide (mw < 0) = false := decide_eq_false g0
                  by_cases g1 : 8 ≤ mw
                  · have q1 : decide (8 ≤ mw) = true := decide_eq_true g1
                    clear hbad
                    go_wp2_with fail
                    go_ret
                    exact ⟨by rw [HV3.out]; rfl, hg0.trans hg⟩
                  · have q1 : decide (8 ≤ mw) = false := decide_eq_false g1
                    have hi0 : i ≠ 0 := fun e => by have := HZERO.out e; omega
                    obtain ⟨j, hj⟩ : ∃ j, i = j + 1 := ⟨i - 1, by omega⟩
                    have p0 := HPREV.out j hj
                    have hij : (i : Int) - 1 = (j : Int) := by omega
                    have hi1 : 0 < i := by omega
                    have hjk : (j : Int) < (who.length : Int) := by omega
                    have q2 : decide (mw ≤ last) = true := decide_eq_true (by omega)
                    clear hbad hj hi0
                    go_wp2_with fail
                    go_ret
                    exact ⟨by rw [HV3.out]; rfl, hg0.trans hg⟩
              · have q0 : decide (mw < 0) = false := decide_eq_false (by omega)
                have q1 : decide (8 ≤ mw) = false := decide_eq_false (by omega)
                have q2 : decide (mw ≤ last) = false := decide_eq_false (by omega)
                by_cases hs32 : sl.length = 32
                · have q3 : ((sl.length : Int) != 32) = false := by rw [bne_eq_false_iff_eq]; omega
                  have HEN : Sec (stSeen ⟨r, o, n, who, seals⟩ (i + 1) mw) := sec (HNEXT.out hbad hs32)
                  clear hbad hs32
                  by_cases hi0 : i = 0
                  · have hi1 : ¬ 0 < i := by omega
                    clear hi0
                    go_wp2_with fail
                    go_roundg (gk - 1)
                    case rel => exact ⟨i + 1, mw, by go_num, by omega, by have := HII.out.2; omega, HEN, hg⟩
                    case measure => have := HII.out.2; omega
                  · obtain ⟨j, hj⟩ : ∃ j, i = j + 1 := ⟨i - 1, by omega⟩
                    have p0 := HPREV.out j hj
                    have hij : (i : Int) - 1 = (j : Int) := by omega
                    have hi1 : 0 < i := by omega
                    have hjk : (j : Int) < (who.length : Int) := by omega
                    clear hj hi0
                    go_wp2_with fail
                    go_roundg (gk - 1)
                    case rel => exact ⟨i + 1, mw, by go_num, by omega, by have := HII.out.2; omega, HEN, hg⟩
                    case measure => have := HII.out.2; omega
                · have q3 : ((sl.length : Int) != 32) = true := by rw [bne_iff_ne]; omega
                  have HV2 : Sec (V = 2) := sec (by rw [HV0.out, HHERE.out, if_neg hbad, if_neg hs32])
                  clear hbad hs32
                  by_cases hi0 : i = 0
                  · have hi1 : ¬ 0 < i := by omega
                    clear hi0
                    go_wp2_with fail
                    go_ret
                    exact ⟨by rw [HV2.out]; rfl, hg0.trans hg⟩
                  · obtain ⟨j, hj⟩ : ∃ j, i = j + 1 := ⟨i - 1, by omega⟩
                    have p0 := HPREV.out j hj
                    have hij : (i : Int) - 1 = (j : Int) := by omega
                    have hi1 : 0 < i := by omega
                    have hjk : (j : Int) < (who.length : Int) := by omega
                    clear hj hi0
                    go_wp2_with fail
                    go_ret
                    exact ⟨by rw [HV2.out]; rfl, hg0.trans hg⟩
            · have HE : Sec (V = 0) := sec (by rw [HV0.out]; exact HST.out.done (s := ⟨r, o, n, who, seals⟩) (by simp only; omega))
              obtain rfl : i = who.length := by omega
              clear hlt hik
              go_wp2_with fail
              go_ret
              exact ⟨by rw [HE.out]; rfl, hg0.trans hg⟩
        · have qne : ((who.length : Int) != (seals.length : Int)) = true := by rw [bne_iff_ne]; omega
          have HV6 : Sec (V = 6) := sec (by rw [HV1.out, if_pos (Or.inr hne)])
          clear hne h8
          go_wp2_with fail
          go_ret
          exact ⟨by rw [HV6.out]; rfl, hg0.trans gc⟩
end Go.Proofs.YtoamnifnfkgbiaaGreatDoor

namespace Go.Proofs.YtoamnifnfkgbiaaGreatDoor
/-- from place i on, n read so far -/
def getGo : Nat → Nat → List UInt8 → Option (Nat × Nat)
  | _, _, [] => none
  | i, n, c :: r =>
    if 9 ≤ i then none
    else if i = 8 ∧ 63 < c.toNat then none
    else if c.toNat < 128 then (if 0 < i ∧ c.toNat = 0 then none else some (n + c.toNat % 128 * 128 ^ i, i + 1))
    else getGo (i + 1) (n + c.toNat % 128 * 128 ^ i) r
def get (l : List UInt8) : Option (Nat × Nat) := getGo 0 0 l

theorem drop_cons {α : Type} (l : List α) (i : Nat) (h : i < l.length) : l.drop i = l[i] :: l.drop (i + 1) := List.drop_eq_getElem_cons h
theorem getGo_end (i n : Nat) (l : List UInt8) (h : l.length ≤ i ∨ 9 ≤ i) : getGo i n (l.drop i) = none := by
  by_cases hi : i < l.length
  · rw [drop_cons l i hi, getGo, if_pos (by omega)]
  · rw [List.drop_eq_nil_of_le (by omega), getGo]
theorem getGo_big (i n : Nat) (l : List UInt8) (hi : i < l.length) (h8 : i = 8) (h : 63 < l[i].toNat) : getGo i n (l.drop i) = none := by
  rw [drop_cons l i hi, getGo, if_neg (by omega), if_pos ⟨h8, h⟩]
theorem getGo_zero (i n : Nat) (l : List UInt8) (hi : i < l.length) (h0 : 0 < i) (h : l[i].toNat = 0) (h9 : i < 9) : getGo i n (l.drop i) = none := by
  rw [drop_cons l i hi, getGo, if_neg (by omega), if_neg (by omega), if_pos (by omega), if_pos ⟨h0, h⟩]
theorem getGo_hit (i n : Nat) (l : List UInt8) (hi : i < l.length) (h9 : i < 9) (h8 : ¬ (i = 8 ∧ 63 < l[i].toNat)) (hc : l[i].toNat < 128) (h0 : ¬ (0 < i ∧ l[i].toNat = 0)) :
    getGo i n (l.drop i) = some (n + l[i].toNat % 128 * 128 ^ i, i + 1) := by
  rw [drop_cons l i hi, getGo, if_neg (by omega), if_neg h8, if_pos hc, if_neg h0]
theorem getGo_step (i n : Nat) (l : List UInt8) (hi : i < l.length) (h9 : i < 9) (h8 : ¬ (i = 8 ∧ 63 < l[i].toNat)) (hc : ¬ l[i].toNat < 128) :
    getGo i n (l.drop i) = getGo (i + 1) (n + l[i].toNat % 128 * 128 ^ i) (l.drop (i + 1)) := by
  rw [drop_cons l i hi, getGo, if_neg (by omega), if_neg h8, if_neg hc]

/-- what the bytes of a number come to -/
def valP : List UInt8 → Nat
  | [] => 0
  | c :: r => c.toNat % 128 + 128 * valP r
theorem valP_snoc (p : List UInt8) (c : UInt8) : valP (p ++ [c]) = valP p + c.toNat % 128 * 128 ^ p.length := by
  induction p with
  | nil => simp [valP]
  | cons x r ih =>
    simp only [List.cons_append, valP, ih, List.length_cons, Nat.pow_succ, Nat.mul_add]
    have : 128 * (c.toNat % 128 * 128 ^ r.length) = c.toNat % 128 * (128 ^ r.length * 128) := by
      rw [Nat.mul_left_comm, Nat.mul_comm 128 (128 ^ r.length)]
    omega
theorem valP_take (l : List UInt8) (i : Nat) (h : i < l.length) : valP (l.take (i + 1)) = valP (l.take i) + l[i].toNat % 128 * 128 ^ i := by
  rw [List.take_succ_eq_append_getElem h, valP_snoc, List.length_take, Nat.min_eq_left (by omega)]
theorem valP_lt (p : List UInt8) : valP p < 128 ^ p.length := by
  induction p with
  | nil => simp [valP]
  | cons x r ih =>
    simp only [valP, List.length_cons, Nat.pow_succ]
    omega

/-- a number's bytes, read, are written again (P2.2): exactly where the last is not 0 -/
theorem num_valP (p : List UInt8) (c : UInt8) (hp : ∀ x ∈ p, 128 ≤ x.toNat) (hc : c.toNat < 128) (h0 : p = [] ∨ c.toNat ≠ 0) : num (valP (p ++ [c])) = p ++ [c] := by
  induction p with
  | nil =>
    have : valP ([] ++ [c]) = c.toNat := by simp [valP]; omega
    rw [this, num_small hc]; simp
  | cons x r ih =>
    have hx : 128 ≤ x.toNat := hp x (by simp)
    have hc0 : c.toNat ≠ 0 := by rcases h0 with h | h; · cases h
                                 · exact h
    have hv : 1 ≤ valP (r ++ [c]) := by
      rw [valP_snoc]
      have h1 : 1 ≤ c.toNat % 128 := by omega
      have := Nat.mul_le_mul h1 (Nat.pos_of_ne_zero (n := 128 ^ r.length) (by simp))
      omega
    simp only [List.cons_append, valP]
    rw [num_big (by omega)]
    have hx256 := x.toNat_lt
    have e1 : (x.toNat % 128 + 128 * valP (r ++ [c])) % 128 + 128 = x.toNat := by omega
    have e2 : (x.toNat % 128 + 128 * valP (r ++ [c])) / 128 = valP (r ++ [c]) := by omega
    rw [e1, e2, ih (fun y hy => hp y (by simp [hy])) (.inr hc0)]
    simp
theorem num_last (n : Nat) : ∀ (p : List UInt8) (c : UInt8), num n = p ++ [c] → c.toNat = 0 → p = [] := by
  induction n using Nat.strongRecOn with
  | ind n ih =>
    intro p c h h0
    by_cases hs : n < 128
    · rw [num_small hs] at h
      cases p with
      | nil => rfl
      | cons x r => simp at h
    · rw [num_big hs] at h
      cases p with
      | nil => rfl
      | cons x r =>
        simp only [List.cons_append, List.cons.injEq] at h
        have hr := ih (n / 128) (by omega) r c h.2 h0
        subst hr
        have h2 := h.2
        simp only [List.nil_append] at h2
        by_cases hs2 : n / 128 < 128
        · rw [num_small hs2] at h2
          simp only [List.cons.injEq, and_true] at h2
          have h3 := congrArg UInt8.toNat h2
          simp at h3
          omega
        · rw [num_big hs2] at h2
          have := num_pos (n / 128 / 128)
          simp only [List.cons.injEq] at h2
          rw [h2.2] at this
          simp at this

/-- the document's test at place i -/
theorem num_take (l : List UInt8) (i : Nat) (hi : i < l.length) (hp : ∀ x ∈ l.take i, 128 ≤ x.toNat) (hc : l[i].toNat < 128) :
    (num (valP (l.take (i + 1))) == l.take (i + 1)) = !(decide (0 < i) && decide (l[i].toNat = 0)) := by
  rw [List.take_succ_eq_append_getElem hi]
  by_cases h : 0 < i ∧ l[i].toNat = 0
  · have hne : num (valP (l.take i ++ [l[i]])) ≠ l.take i ++ [l[i]] := by
      intro he
      have := num_last _ _ _ he h.2
      have hl : (l.take i).length = 0 := by rw [this]; rfl
      rw [List.length_take] at hl
      omega
    rw [beq_eq_false_iff_ne.2 hne]
    simp [h.1, h.2]
  · have he := num_valP (l.take i) l[i] hp hc (by
      by_cases hi0 : i = 0
      · left; subst hi0; rfl
      · right; omega)
    rw [he]
    simp only [beq_self_eq_true]
    by_cases h1 : 0 < i <;> simp_all

theorem getGo_le (l : List UInt8) : ∀ (i n m k : Nat), getGo i n l = some (m, k) → k ≤ i + l.length ∧ i < k ∧ k ≤ 9 := by
  induction l with
  | nil => intro i n m k h; simp [getGo] at h
  | cons c r ih =>
    intro i n m k h
    rw [getGo] at h
    split at h
    · cases h
    · split at h
      · cases h
      · split at h
        · split at h
          · cases h
          · simp only [Option.some.injEq, Prod.mk.injEq] at h
            simp; omega
        · have := ih _ _ _ _ h
          simp; omega
theorem getGo_lt (l : List UInt8) : ∀ (i n m k : Nat), n < 128 ^ i → getGo i n l = some (m, k) → m < 4611686018427387904 := by
  induction l with
  | nil => intro i n m k _ h; simp [getGo] at h
  | cons c r ih =>
    intro i n m k hn h
    rw [getGo] at h
    have hd : c.toNat % 128 * 128 ^ i ≤ 127 * 128 ^ i := Nat.mul_le_mul_right _ (by omega)
    have hs : 128 ^ (i + 1) = 128 * 128 ^ i := by rw [Nat.pow_succ, Nat.mul_comm]
    split at h
    · cases h
    · rename_i h9
      split at h
      · cases h
      · rename_i h8
        split at h
        · split at h
          · cases h
          · simp only [Option.some.injEq, Prod.mk.injEq] at h
            by_cases e : i = 8
            · subst e
              have h63 : c.toNat % 128 ≤ 63 := by omega
              have hd2 : c.toNat % 128 * 128 ^ 8 ≤ 63 * 128 ^ 8 := Nat.mul_le_mul_right _ h63
              have e8 : (128 : Nat) ^ 8 = 72057594037927936 := by decide
              rw [e8] at hn hd2 h
              omega
            · have : 128 ^ (i + 1) ≤ 128 ^ 8 := Nat.pow_le_pow_right (by omega) (by omega)
              have e8 : (128 : Nat) ^ 8 = 72057594037927936 := by decide
              omega
        · exact ih _ _ _ _ (by omega) h
theorem get_le {l : List UInt8} {m k : Nat} (h : get l = some (m, k)) : k ≤ l.length ∧ 0 < k ∧ k ≤ 9 := by
  have := getGo_le l 0 0 m k h; omega
theorem get_lt {l : List UInt8} {m k : Nat} (h : get l = some (m, k)) : m < 4611686018427387904 := getGo_lt l 0 0 m k (by simp) h
end Go.Proofs.YtoamnifnfkgbiaaGreatDoor

namespace Go.Proofs.YtoamnifnfkgbiaaGreatDoor
open Go.RowKit
/-- what Get answers -/
def getV (r : Option (Nat × Nat)) : Value := match r with
  | none => .tuple #[.int .i64 0, .int .i64 0, .int .i64 2]
  | some (n, k) => .tuple #[.int .i64 (n : Int), .int .i64 (k : Int), .int .i64 0]

set_option maxHeartbeats 1000000 in
theorem ofInt_i64 (a : Nat) (ha : a < 9223372036854775808) : (BitVec.ofInt 64 (a : Int)).toNat = a := by
  rw [BitVec.ofInt_natCast, BitVec.toNat_ofNat]; exact Nat.mod_eq_of_lt (by omega)
theorem i64_or_nat (a b : Nat) (ha : a < 9223372036854775808) (hb : b < 9223372036854775808) : bits .or .i64 (a : Int) (b : Int) = ((a ||| b : Nat) : Int) := by
  have hx : a ||| b < 2 ^ 63 := Nat.or_lt_two_pow (by omega) (by omega)
  show IntKind.i64.wrap ((BitVec.ofInt 64 (a : Int) ||| BitVec.ofInt 64 (b : Int)).toNat : Int) = _
  rw [BitVec.toNat_or, ofInt_i64 a ha, ofInt_i64 b hb, IntKind.wrap_i64]
  omega
theorem and127 (c : UInt8) : bits .and .u8 (c.toNat : Int) 127 = ((c.toNat % 128 : Nat) : Int) := by
  have h := c.toNat_lt
  rw [show (127 : Int) = ((127 : Nat) : Int) from rfl, u8_and_nat _ _ (by omega) (by omega)]
  congr 1
  exact Nat.and_two_pow_sub_one_eq_mod c.toNat 7

/-- one step of the sum, as the walk spells it -/
theorem step_or (n i : Nat) (c : UInt8) (hi : i < 9) (hn : n < 128 ^ i) (h8 : ¬ (i = 8 ∧ 63 < c.toNat)) :
    bits .or .i64 (n : Int) (wrap64 (wrap64 (bits .and .u8 (c.toNat : Int) 127) * 2 ^ (7 * i))) = ((n + c.toNat % 128 * 128 ^ i : Nat) : Int) ∧ n + c.toNat % 128 * 128 ^ i < 128 ^ (i + 1) := by
  have hp : (128 : Nat) ^ i = 2 ^ (7 * i) := by rw [show (128 : Nat) = 2 ^ 7 from rfl, ← Nat.pow_mul]
  have hd : c.toNat % 128 * 128 ^ i ≤ 127 * 128 ^ i := Nat.mul_le_mul_right _ (by omega)
  have hs : 128 ^ (i + 1) = 128 * 128 ^ i := by rw [Nat.pow_succ, Nat.mul_comm]
  have e8 : (128 : Nat) ^ 8 = 72057594037927936 := by decide
  have hb : n + c.toNat % 128 * 128 ^ i < 4611686018427387904 := by
    by_cases e : i = 8
    · subst e
      have h63 : c.toNat % 128 ≤ 63 := by omega
      have hd2 : c.toNat % 128 * 128 ^ 8 ≤ 63 * 128 ^ 8 := Nat.mul_le_mul_right _ h63
      rw [e8] at hn hd2 ⊢
      omega
    · have : 128 ^ (i + 1) ≤ 128 ^ 8 := Nat.pow_le_pow_right (by omega) (by omega)
      omega
  refine ⟨?_, by omega⟩
  rw [and127, IntWalk.wrap64_in ((c.toNat % 128 : Nat) : Int) (by omega)]
  have hm : ((c.toNat % 128 : Nat) : Int) * 2 ^ (7 * i) = ((c.toNat % 128 * 128 ^ i : Nat) : Int) := by rw [hp]; simp
  rw [hm, IntWalk.wrap64_in _ (by omega), i64_or_nat _ _ (by omega) (by omega)]
  congr 1
  rw [hp] at hn ⊢
  rw [Nat.or_comm, Nat.mul_comm (c.toNat % 128), ← Nat.two_pow_add_eq_or_of_lt hn]
  omega

set_option maxRecDepth 100000 in
set_option maxHeartbeats 1000000 in
theorem wget (l : List UInt8) (w : World) (hl : l.length ≤ 1152921504606846976) :
    Calls Tryz.prog 79 #[.string (bs l)] w fun e w' => e = .returned (getV (get l)) ∧ w = w' := by
  go_enter Tryz.func79, Tryz.ntmps79
  go_wp2_with fail
  go_loop [5, 6, 7] (fun nv iv _ => ∃ (i n : Nat), nv = .int .i64 n ∧ iv = .int .i64 i ∧ i ≤ l.length ∧ i ≤ 9 ∧ Sec (n < 128 ^ i) ∧ Sec (getGo i n (l.drop i) = get l))
    (fun _ iv _ => 9 - (intOf iv).toNat)
  case atStart => exact ⟨0, 0, rfl, rfl, by omega, by omega, ⟨by simp⟩, ⟨rfl⟩⟩
  case round =>
    obtain ⟨i, n, rfl, rfl, hi, h9, hn, hg⟩ := hrel
    by_cases hlt : i < l.length
    · by_cases hi9 : i < 9
      · by_cases h8 : i = 8 ∧ 63 < l[i].toNat
        · obtain ⟨rfl, h63⟩ := h8
          have h63' : (63 : Int) < (l[8].toNat : Int) := by omega
          go_wp2
          go_ret3
          exact ⟨by rw [← hg.out, getGo_big 8 n l hlt rfl h63]; rfl, rfl⟩
        · have hor := step_or n i l[i] hi9 hn.out h8
          have HO := sec hor
          clear hor
          by_cases e8 : i = 8
          · subst e8
            have eP : (2 : Int) ^ (7 * 8) = 72057594037927936 := by decide
            have hor := HO.out
            rw [eP] at hor
            have HO := sec hor
            clear hor eP
            have h63 : (l[8].toNat : Int) ≤ 63 := by omega
            by_cases hc : l[8].toNat < 128
            · by_cases h0 : 0 < 8 ∧ l[8].toNat = 0
              · have hfin := getGo_zero 8 n l hlt h0.1 h0.2 hi9
                have HF := sec hfin
                clear hfin
                have hc1 : ((l[8].toNat : Int) < 128) := by omega
                have hc2 : ((l[8].toNat : Int) == 0) = true := by simp [h0.2]
                clear h0 hc h8
                go_wp2
                all_goals
                  go_ret3
                  exact ⟨by rw [← hg.out, HF.out]; rfl, rfl⟩
              · have hfin := getGo_hit 8 n l hlt hi9 h8 hc h0
                have HF := sec hfin
                clear hfin
                have hc1 : ((l[8].toNat : Int) < 128) := by omega
                have H8 := sec h8
                have H0 := sec h0
                clear h0 hc h8
                go_wp2
                all_goals first
                  | (exfalso; have h8 := H8.out; omega)
                  | (exfalso; have h0 := H0.out; have hz : (l[8].toNat : Int) = 0 := by simpa using ‹((l[8].toNat : Int) == 0) = true›
                     omega)
                  | (go_ret3
                     refine ⟨?_, rfl⟩
                     rw [← hg.out, HF.out, HO.out.1]
                     rfl)
            · have hfin := getGo_step 8 n l hlt hi9 h8 hc
              have HF := sec hfin
              clear hfin
              have hc1 : ((128 : Int) ≤ (l[8].toNat : Int)) := by omega
              have H8 := sec h8
              clear h8 hc
              go_wp2
              all_goals first
                | (exfalso; have h8 := H8.out; omega)
                | (go_round
                   case rel =>
                     refine ⟨9, n + l[8].toNat % 128 * 128 ^ 8, by rw [HO.out.1], by go_num, by omega, by omega, ⟨HO.out.2⟩, ?_⟩
                     exact ⟨HF.out.symm.trans hg.out⟩
                   case measure => simp [intOf]; omega)
          · have hne : ¬ ((i : Int) = 8) := by omega
            have hne' : ((i : Int) == 8) = false := by simpa using hne
            have HE := sec e8
            clear e8 hne
            by_cases hc : l[i].toNat < 128
            · by_cases h0 : 0 < i ∧ l[i].toNat = 0
              · have hfin := getGo_zero i n l hlt h0.1 h0.2 hi9
                have HF := sec hfin
                clear hfin
                have hc1 : ((l[i].toNat : Int) < 128) := by omega
                have hc2 : ((l[i].toNat : Int) == 0) = true := by simp [h0.2]
                have hi0 : (0 : Int) < (i : Int) := by omega
                clear h0 hc h8
                go_wp2
                all_goals
                  go_ret3
                  exact ⟨by rw [← hg.out, HF.out]; rfl, rfl⟩
              · have hfin := getGo_hit i n l hlt hi9 h8 hc h0
                have HF := sec hfin
                clear hfin
                have hc1 : ((l[i].toNat : Int) < 128) := by omega
                have H8 := sec h8
                have H0 := sec h0
                clear h0 hc h8
                go_wp2
                all_goals first
                  | (exfalso; have h8 := H8.out; omega)
                  | (exfalso; have h0 := H0.out; have hz : (l[i].toNat : Int) = 0 := by simpa using ‹((l[i].toNat : Int) == 0) = true›
                     omega)
                  | (go_ret3
                     refine ⟨?_, rfl⟩
                     rw [← hg.out, HF.out, HO.out.1]
                     rfl)
            · have hfin := getGo_step i n l hlt hi9 h8 hc
              have HF := sec hfin
              clear hfin
              have hc1 : ((128 : Int) ≤ (l[i].toNat : Int)) := by omega
              have H8 := sec h8
              clear h8 hc
              go_wp2
              all_goals first
                | (exfalso; have h8 := H8.out; omega)
                | (go_round
                   case rel =>
                     refine ⟨i + 1, n + l[i].toNat % 128 * 128 ^ i, by rw [HO.out.1], by go_num, by omega, by omega, ⟨HO.out.2⟩, ?_⟩
                     exact ⟨HF.out.symm.trans hg.out⟩
                   case measure => simp [intOf]; omega)
      · go_wp2
        go_ret3
        exact ⟨by rw [← hg.out, getGo_end i n l (by omega)]; rfl, rfl⟩
    · go_wp2
      go_ret3
      exact ⟨by rw [← hg.out, getGo_end i n l (by omega)]; rfl, rfl⟩
end Go.Proofs.YtoamnifnfkgbiaaGreatDoor

namespace Go.Proofs.YtoamnifnfkgbiaaGreatDoor
open Go.RowKit
theorem pow_le (i : Nat) (h : i ≤ 8) : 128 ^ i ≤ 72057594037927936 := by
  have : 128 ^ i ≤ 128 ^ 8 := Nat.pow_le_pow_right (by omega) h
  have e8 : (128 : Nat) ^ 8 = 72057594037927936 := by decide
  omega
theorem pow_le7 (i : Nat) (h : i < 8) : 128 ^ i ≤ 562949953421312 := by
  have : 128 ^ i ≤ 128 ^ 7 := Nat.pow_le_pow_right (by omega) (by omega)
  have e8 : (128 : Nat) ^ 7 = 562949953421312 := by decide
  omega

set_option maxRecDepth 100000 in
set_option maxHeartbeats 2000000 in
theorem rget (l : List UInt8) (w : World) (hl : l.length ≤ 1152921504606846976) :
    Calls Tryz.prog 87 #[.string (bs l)] w fun e w' => e = .returned (getV (get l)) ∧ Gr w w' := by
  go_enter Tryz.func87, Tryz.ntmps87
  go_wp2_with fail
  go_loopw [5, 6, 7] (fun nv kv iv wr => ∃ (i n K : Nat), nv = .int .i64 n ∧ kv = .int .i64 K ∧ iv = .int .i64 i ∧ i ≤ l.length ∧ i ≤ 8 ∧ Sec (n = valP (l.take i)) ∧ Sec (K = 128 ^ i) ∧ Sec (∀ x ∈ l.take i, 128 ≤ x.toNat) ∧ Sec (getGo i n (l.drop i) = get l) ∧ Gr w wr)
    (fun _ _ iv _ => 9 - (intOf iv).toNat)
  case atStart => exact ⟨0, 0, 1, rfl, rfl, rfl, by omega, by omega, ⟨by simp [valP]⟩, ⟨by simp⟩, ⟨by simp⟩, ⟨rfl⟩, Gr.refl _⟩
  case round =>
    obtain ⟨i, n, K, rfl, rfl, rfl, hi, h9, hn, hK, hall, hg, hgr⟩ := hrel
    have hK1 : K ≤ 72057594037927936 := by rw [hK.out]; exact pow_le i h9
    have hn1 : n < K := by
      rw [hn.out, hK.out]
      have := valP_lt (l.take i)
      rw [List.length_take, Nat.min_eq_left hi] at this
      exact this
    by_cases hlt : i < l.length
    · have hp0 : 0 ≤ (l[i].toNat : Int) % 128 * (K : Int) := Int.mul_nonneg (by omega) (by omega)
      have hp1 : (l[i].toNat : Int) % 128 * (K : Int) ≤ 127 * (K : Int) := Int.mul_le_mul_of_nonneg_right (by omega) (by omega)
      have hs : n + l[i].toNat % 128 * K = valP (l.take (i + 1)) := by rw [valP_take l i hlt, hn.out, hK.out]
      have HS := sec hs
      clear hs
      by_cases h8 : i = 8 ∧ 63 < l[i].toNat
      · obtain ⟨rfl, h63⟩ := h8
        have hfin := getGo_big 8 n l hlt rfl h63
        have HF := sec hfin
        clear hfin
        have h63' : (64 : Int) ≤ (l[8].toNat : Int) := by omega
        go_wp2
        go_ret3
        exact ⟨by rw [← hg.out, HF.out]; rfl, hgr⟩
      · have hp2 : n + l[i].toNat % 128 * K < 4611686018427387904 := by
          by_cases e8 : i = 8
          · have h63 : l[i].toNat % 128 ≤ 63 := by omega
            have := Nat.mul_le_mul_right K h63
            omega
          · have hK7 : K ≤ 562949953421312 := by rw [hK.out]; exact pow_le7 i (by omega)
            have := Nat.mul_le_mul_right K (show l[i].toNat % 128 ≤ 127 by omega)
            omega
        have hN : numS ((n : Int) + (l[i].toNat : Int) % 128 * (K : Int)) = num (valP (l.take (i + 1))) := by
          have e : (n : Int) + (l[i].toNat : Int) % 128 * (K : Int) = ((n + l[i].toNat % 128 * K : Nat) : Int) := by simp
          rw [e, numS_nat hp2, HS.out]
        have HN := sec hN
        clear hN
        have hpz : ((n + l[i].toNat % 128 * K : Nat) : Int) = (n : Int) + (l[i].toNat : Int) % 128 * (K : Int) := by simp
        have HP := sec hpz
        clear hpz
        by_cases e8 : i = 8
        · subst e8
          have hi8 : (l[8].toNat : Int) < 64 := by omega
          have h64 : (l[8].toNat : Int) < 64 := hi8
          have hc : l[8].toNat < 128 := by omega
          have hc1 : ((l[8].toNat : Int) < 128) := by omega
          have htest := num_take l 8 hlt hall.out hc
          by_cases h0 : 0 < 8 ∧ l[8].toNat = 0
          · have hfin := getGo_zero 8 n l hlt h0.1 h0.2 (by omega)
            have HF := sec hfin
            have ht : (num (valP (l.take (8 + 1))) == l.take (8 + 1)) = false := by rw [htest]; simp [h0.1, h0.2]
            clear hfin htest h0 hc h8 hp2 hi8
            go_wp2
            have q1 : IntKind.i64.wrap 9 = 9 := by decide
            have q3 : 9 ≤ l.length := by omega
            have q4 : (9 : Int) ≤ (l.length : Int) := by omega
            go_region_with (go_at_call 133; refine (number_any _ _).mono ?_; rintro e w1 ⟨rfl, g1⟩; rw [HN.out])
            clear q1 q3 q4
            go_wp2
            go_ret3
            refine ⟨by rw [← hg.out, HF.out]; rfl, ?_⟩
            repeat (first | exact Gr.refl _ | assumption | refine Gr.drew ?_ | refine Gr.trans ?_ (by assumption))
          · have hfin := getGo_hit 8 n l hlt (by omega) h8 hc h0
            have HF := sec hfin
            have ht : (num (valP (l.take (8 + 1))) == l.take (8 + 1)) = true := by
              rw [htest]
              by_cases h1 : 0 < 8
              · have : ¬ l[8].toNat = 0 := fun h => h0 ⟨h1, h⟩
                simp [this]
              · simp [h1]
            clear hfin htest h0 hc h8 hp2 hi8
            go_wp2
            have q1 : IntKind.i64.wrap 9 = 9 := by decide
            have q3 : 9 ≤ l.length := by omega
            have q4 : (9 : Int) ≤ (l.length : Int) := by omega
            go_region_with (go_at_call 133; refine (number_any _ _).mono ?_; rintro e w1 ⟨rfl, g1⟩; rw [HN.out])
            clear q1 q3 q4
            go_wp2
            go_ret3
            refine ⟨?_, ?_⟩
            · rw [← hg.out, HF.out, ← hK.out]
              simp [getV]
            · repeat (first | exact Gr.refl _ | assumption | refine Gr.drew ?_ | refine Gr.trans ?_ (by assumption))
        · have hK7 : K ≤ 562949953421312 := by rw [hK.out]; exact pow_le7 i (by omega)
          have hi7 : i < 8 := by omega
          have hi8 : ¬ ((i : Int) = 8) := by omega
          have hbe : ((i : Int) == 8) = false := by simpa using hi8
          clear e8
          by_cases hc : l[i].toNat < 128
          · have htest := num_take l i hlt hall.out hc
            have hc1 : ((l[i].toNat : Int) < 128) := by omega
            by_cases h0 : 0 < i ∧ l[i].toNat = 0
            · have hfin := getGo_zero i n l hlt h0.1 h0.2 (by omega)
              have HF := sec hfin
              have ht : (num (valP (l.take (i + 1))) == l.take (i + 1)) = false := by rw [htest]; simp [h0.1, h0.2]
              clear hfin htest h0 hc h8 hp2 hi8
              go_wp2
              have q1 : IntKind.i64.wrap ((i : Int) + 1) = (i : Int) + 1 := IntWalk.i64_in _ (by omega)
              have q2 : (0 : Int) ≤ (i : Int) + 1 := by omega
              have q3 : (i : Int) + 1 ≤ (l.length : Int) := by omega
              have q4 : ((i : Int) + 1).toNat = i + 1 := by omega
              go_region_with (go_at_call 133; refine (number_any _ _).mono ?_; rintro e w1 ⟨rfl, g1⟩; rw [HN.out])
              clear q1 q2 q3 q4
              go_wp2
              go_ret3
              refine ⟨by rw [← hg.out, HF.out]; rfl, ?_⟩
              repeat (first | exact Gr.refl _ | assumption | refine Gr.drew ?_ | refine Gr.trans ?_ (by assumption))
            · have hfin := getGo_hit i n l hlt (by omega) h8 hc h0
              have HF := sec hfin
              have ht : (num (valP (l.take (i + 1))) == l.take (i + 1)) = true := by
                rw [htest]
                by_cases h1 : 0 < i
                · have : ¬ l[i].toNat = 0 := fun h => h0 ⟨h1, h⟩
                  simp [this]
                · simp [h1]
              clear hfin htest h0 hc h8 hp2 hi8
              go_wp2
              have q1 : IntKind.i64.wrap ((i : Int) + 1) = (i : Int) + 1 := IntWalk.i64_in _ (by omega)
              have q2 : (0 : Int) ≤ (i : Int) + 1 := by omega
              have q3 : (i : Int) + 1 ≤ (l.length : Int) := by omega
              have q4 : ((i : Int) + 1).toNat = i + 1 := by omega
              go_region_with (go_at_call 133; refine (number_any _ _).mono ?_; rintro e w1 ⟨rfl, g1⟩; rw [HN.out])
              clear q1 q2 q3 q4
              go_wp2
              go_ret3
              refine ⟨?_, ?_⟩
              · rw [← hg.out, HF.out, ← hK.out]
                simp [getV]
              · repeat (first | exact Gr.refl _ | assumption | refine Gr.drew ?_ | refine Gr.trans ?_ (by assumption))
          · have hfin := getGo_step i n l hlt (by omega) h8 hc
            have HF := sec hfin
            have hc1 : ((128 : Int) ≤ (l[i].toNat : Int)) := by omega
            have hall' : ∀ x ∈ l.take (i + 1), 128 ≤ x.toNat := by
              intro x hx
              rw [List.take_succ_eq_append_getElem hlt, List.mem_append] at hx
              rcases hx with hx | hx
              · exact hall.out x hx
              · simp at hx; subst hx; omega
            have HA := sec hall'
            clear hfin hall' hc h8 hp2 hi8
            go_wp2
            go_roundw
            case rel =>
              refine ⟨i + 1, n + l[i].toNat % 128 * K, K * 128, by rw [HP.out], by go_num, by go_num, by omega, by omega, ⟨HS.out⟩, ?_, HA, ?_, hgr⟩
              · exact ⟨by rw [hK.out, Nat.pow_succ]⟩
              · have := HF.out.symm.trans hg.out
                rw [← hK.out] at this
                exact ⟨this⟩
            case measure => simp [intOf]; omega
    · go_wp2
      go_ret3
      exact ⟨by rw [← hg.out, getGo_end i n l (by omega)]; rfl, hgr⟩
end Go.Proofs.YtoamnifnfkgbiaaGreatDoor

namespace Go.Proofs.YtoamnifnfkgbiaaGreatDoor
open Go.RowKit
/-- P2.2: the number, its bytes, the error -/
def gN (l : List UInt8) : Nat := ((get l).map (·.1)).getD 0
def gK (l : List UInt8) : Nat := ((get l).map (·.2)).getD 0
def gE (l : List UInt8) : Nat := if (get l).isSome then 0 else 2
theorem g_none {l : List UInt8} (h : get l = none) : gN l = 0 ∧ gK l = 0 ∧ gE l = 2 := by simp [gN, gK, gE, h]
theorem g_some {l : List UInt8} {n k : Nat} (h : get l = some (n, k)) : gN l = n ∧ gK l = k ∧ gE l = 0 := by simp [gN, gK, gE, h]
theorem getV_eq (l : List UInt8) : getV (get l) = .tuple #[.int .i64 (gN l : Int), .int .i64 (gK l : Int), .int .i64 (gE l : Int)] := by
  rcases h : get l with _ | ⟨n, k⟩
  · simp [getV, g_none h]
  · simp [getV, g_some h]
theorem gK_le (l : List UInt8) : gK l ≤ l.length ∧ gK l ≤ 9 := by
  rcases h : get l with _ | ⟨n, k⟩
  · simp [g_none h]
  · rw [(g_some h).2.1]; have := get_le h; omega
theorem gN_lt (l : List UInt8) : gN l < 4611686018427387904 := by
  rcases h : get l with _ | ⟨n, k⟩
  · simp [g_none h]
  · rw [(g_some h).1]; exact get_lt h
theorem gE_or (l : List UInt8) : gE l = 0 ∨ gE l = 2 := by
  unfold gE; split <;> simp
/-- P2.3 -/
def tOk (l : List UInt8) : Prop := gE l = 0 ∧ gN l ≤ 4096 ∧ gN l ≤ l.length - gK l
instance (l : List UInt8) : Decidable (tOk l) := by unfold tOk; infer_instance
def tS (l : List UInt8) : List UInt8 := if tOk l then sub l (gK l) (gK l + gN l) else []
def tK (l : List UInt8) : Nat := if tOk l then gK l + gN l else 0
def tE (l : List UInt8) : Nat := if gE l ≠ 0 then gE l else if 4096 < gN l then 1 else if l.length - gK l < gN l then 2 else 0
theorem t_ok {l : List UInt8} (h : tOk l) : tS l = sub l (gK l) (gK l + gN l) ∧ tK l = gK l + gN l ∧ tE l = 0 := by
  refine ⟨if_pos h, if_pos h, ?_⟩
  unfold tE; rw [if_neg (by have := h.1; omega), if_neg (by have := h.2.1; omega), if_neg (by have := h.2.2; omega)]
theorem t_no {l : List UInt8} (h : ¬ tOk l) : tS l = [] ∧ tK l = 0 := ⟨if_neg h, if_neg h⟩
theorem tK_le (l : List UInt8) : tK l ≤ l.length := by
  by_cases h : tOk l
  · rw [(t_ok h).2.1]; have := h.2.2; have := gK_le l; omega
  · rw [(t_no h).2]; omega
theorem tS_len (l : List UInt8) : (tS l).length ≤ 4096 ∧ (tS l).length ≤ l.length := by
  by_cases h : tOk l
  · have h1 := gK_le l
    rw [(t_ok h).1, sub_len _ _ _ (by have := h.2.2; omega)]; have := h.2; omega
  · rw [(t_no h).1]; simp
theorem tE_or (l : List UInt8) : tE l = 0 ∨ tE l = 1 ∨ tE l = 2 := by
  have := gE_or l
  unfold tE; split
  · omega
  · split
    · omega
    · split <;> omega

theorem wget_any (l : List UInt8) (w : World) (hl : l.length ≤ 1152921504606846976) :
    Calls Tryz.prog 79 #[.string (bs l)] w fun e w' => e = .returned (.tuple #[.int .i64 (gN l : Int), .int .i64 (gK l : Int), .int .i64 (gE l : Int)]) ∧ w = w' := by
  rw [← getV_eq]; exact wget l w hl
theorem rget_any (l : List UInt8) (w : World) (hl : l.length ≤ 1152921504606846976) :
    Calls Tryz.prog 87 #[.string (bs l)] w fun e w' => e = .returned (.tuple #[.int .i64 (gN l : Int), .int .i64 (gK l : Int), .int .i64 (gE l : Int)]) ∧ Gr w w' := by
  rw [← getV_eq]; exact rget l w hl

end Go.Proofs.YtoamnifnfkgbiaaGreatDoor

namespace Go.Proofs.YtoamnifnfkgbiaaGreatDoor
open Go.RowKit
/-- P2.4: a reader's state: what is left, what went wrong -/
abbrev St := List UInt8 × Nat
def nxtN (q : St) : Nat := if q.2 = 0 then gN q.1 else 0
def aftN (q : St) : St := if q.2 = 0 then (q.1.drop (gK q.1), gE q.1) else q
def nxtT (q : St) : List UInt8 := if q.2 = 0 then tS q.1 else []
def aftT (q : St) : St := if q.2 = 0 then (q.1.drop (tK q.1), tE q.1) else q
def nxtB (n : Int) (q : St) : List UInt8 := if q.2 = 0 ∧ 0 ≤ n ∧ n ≤ q.1.length then q.1.take n.toNat else []
def aftB (n : Int) (q : St) : St := if q.2 = 0 then (if 0 ≤ n ∧ n ≤ q.1.length then (q.1.drop n.toNat, 0) else (q.1, 2)) else q

/-- a reader of state q lies in block g -/
structure RdAt (T : TypeId) (w : World) (g : Nat) (q : St) : Prop where
  blk : Blk w g T #[.string (bs q.1), .int .i64 (q.2 : Int)]
  len : q.1.length ≤ 1152921504606846976
  err : q.2 ≤ 2

theorem RdAt.gr {T : TypeId} {w w' : World} {g : Nat} {q : St} (h : RdAt T w g q) (k : Gr w w') : RdAt T w' g q := ⟨h.blk.below k.below h.blk.lt, h.len, h.err⟩
theorem RdAt.other {T : TypeId} {w w' : World} {g : Nat} {q : St} {row : Option Nat} (h : RdAt T w g q) (k : w.grownBy w' row) (hne : some g ≠ row) : RdAt T w' g q := ⟨h.blk.grown k hne, h.len, h.err⟩
/-- only block g has turned, and what is new -/
theorem only_set2 (w : World) (g : Nat) (u v : Value) : w.grownBy ((w.setCell ⟨g, 0, none⟩ u).setCell ⟨g, 1, none⟩ v) (some g) :=
  ⟨rfl, rfl, rfl, by simp [World.setCell], fun k _ hne => by
    rw [Below.heap_setCell _ _ _ _ (fun e => hne (by rw [e])), Below.heap_setCell _ _ _ _ (fun e => hne (by rw [e]))]⟩
theorem only_set1 (w : World) (g j : Nat) (u : Value) : w.grownBy (w.setCell ⟨g, j, none⟩ u) (some g) :=
  ⟨rfl, rfl, rfl, by simp [World.setCell], fun k _ hne => by
    rw [Below.heap_setCell _ _ _ _ (fun e => hne (by rw [e]))]⟩
theorem only_refl (w : World) (row : Option Nat) : w.grownBy w row := ⟨rfl, rfl, rfl, Nat.le_refl _, fun _ _ _ => rfl⟩

set_option maxRecDepth 100000 in
theorem rdNumber (g : Nat) (q : St) (w : World) (h : RdAt 113 w g q) :
    Calls Tryz.prog 31 #[.pointer (some ⟨g, 0, none⟩)] w fun e w' => e = .returned (.int .i64 (nxtN q : Int)) ∧ RdAt 113 w' g (aftN q) ∧ w.grownBy w' (some g) := by
  obtain ⟨s, er⟩ := q
  have hlen := h.len
  have hc0 : w.cell? ⟨g, 0, none⟩ = some (.string (bs s)) := h.blk.cell 0
  have hc1 : w.cell? ⟨g, 1, none⟩ = some (.int .i64 (er : Int)) := h.blk.cell 1
  have hf0 := h.blk.frozen 0
  have hf1 := h.blk.frozen 1
  have hk := gK_le s
  simp only at hlen
  by_cases he : er = 0
  · subst he
    go_enter Tryz.func31, Tryz.ntmps31
    go_wp2_with (go_at_call 79; refine (wget_any _ _ hlen).mono ?_; rintro e w1 ⟨rfl, rfl⟩)
    go_ret
    refine ⟨by simp [nxtN], ⟨?_, ?_, ?_⟩, only_set2 _ _ _ _⟩
    · have := (h.blk.set_ 0 (.string (bs (s.drop (gK s))))).set_ 1 (.int .i64 (gE s : Int))
      simpa [aftN] using this
    · simp [aftN]; omega
    · simp [aftN]; have := gE_or s; omega
  · have he' : ((er : Int) == 0) = false := by simpa using he
    have he2 : ((er : Int) != 0) = true := by simpa using he
    go_enter Tryz.func31, Tryz.ntmps31
    go_wp2
    go_ret
    exact ⟨by simp [nxtN, he], by simpa [aftN, he] using h, only_refl _ _⟩
theorem only_gr {w w' : World} (h : Gr w w') (row : Option Nat) : w.grownBy w' row := ⟨h.below.os, h.below.tape, h.below.output, h.below.size, fun k hk _ => h.below.block k hk⟩
theorem only_trans {a b c : World} {g : Nat} (h : a.grownBy b (some g)) (k : b.grownBy c (some g)) : a.grownBy c (some g) :=
  ⟨k.os.trans h.os, k.tape.trans h.tape, k.output.trans h.output, Nat.le_trans h.size k.size, fun i hi hne => (k.block i (Nat.lt_of_lt_of_le hi h.size) hne).trans (h.block i hi hne)⟩
theorem gr_only {a b c : World} {g : Nat} (h : Gr a b) (k : b.grownBy c (some g)) (hg : a.heap.size ≤ g) : Gr a c := h.grown k (fun i hi => by injection hi with hi; omega)

set_option maxRecDepth 100000 in
theorem rdBytes (g : Nat) (q : St) (n : Int) (w : World) (h : RdAt 113 w g q) (_hn : -9223372036854775808 ≤ n ∧ n ≤ 9223372036854775807) :
    Calls Tryz.prog 32 #[.pointer (some ⟨g, 0, none⟩), .int .i64 n] w fun e w' => e = .returned (.string (bs (nxtB n q))) ∧ RdAt 113 w' g (aftB n q) ∧ w.grownBy w' (some g) := by
  obtain ⟨s, er⟩ := q
  have hlen := h.len
  have hc0 : w.cell? ⟨g, 0, none⟩ = some (.string (bs s)) := h.blk.cell 0
  have hc1 : w.cell? ⟨g, 1, none⟩ = some (.int .i64 (er : Int)) := h.blk.cell 1
  have hf0 := h.blk.frozen 0
  have hf1 := h.blk.frozen 1
  simp only at hlen
  by_cases he : er = 0
  · subst he
    by_cases hn : 0 ≤ n ∧ n ≤ (s.length : Int)
    · obtain ⟨hn0, hn1⟩ := hn
      go_enter Tryz.func32, Tryz.ntmps32
      go_wp2
      go_ret
      refine ⟨by simp [nxtB, hn0, hn1], ⟨?_, ?_, ?_⟩, only_set1 _ _ _ _⟩
      · have := h.blk.set_ 0 (.string (bs (s.drop n.toNat)))
        simpa [aftB, hn0, hn1] using this
      · simp [aftB, hn0, hn1]; omega
      · simp [aftB, hn0, hn1]
    · have hn' : n < 0 ∨ (s.length : Int) < n := by omega
      rcases hn' with hn' | hn'
      all_goals
        go_enter Tryz.func32, Tryz.ntmps32
        go_wp2
        go_ret
        refine ⟨by simp [nxtB, hn]; try rfl, ⟨?_, ?_, ?_⟩, only_set1 _ _ _ _⟩
        · have := h.blk.set_ 1 (.int .i64 2)
          simpa [aftB, hn] using this
        · simp [aftB, hn]; omega
        · simp [aftB, hn]
  · have he' : ((er : Int) == 0) = false := by simpa using he
    have he2 : ((er : Int) != 0) = true := by simpa using he
    go_enter Tryz.func32, Tryz.ntmps32
    go_wp2
    go_ret
    exact ⟨by simp [nxtB, he]; try rfl, by simpa [aftB, he] using h, only_refl _ _⟩

theorem rdLeft (g : Nat) (q : St) (w : World) (h : RdAt 113 w g q) :
    Calls Tryz.prog 33 #[.pointer (some ⟨g, 0, none⟩)] w fun e w' => e = .returned (.int .i64 (q.1.length : Int)) ∧ w = w' := by
  have hc0 : w.cell? ⟨g, 0, none⟩ = some (.string (bs q.1)) := h.blk.cell 0
  go_enter Tryz.func33, Tryz.ntmps33
  go_wp2
  go_ret
  exact ⟨rfl, rfl⟩

theorem rdBad (g : Nat) (q : St) (w : World) (h : RdAt 113 w g q) :
    Calls Tryz.prog 34 #[.pointer (some ⟨g, 0, none⟩)] w fun e w' => e = .returned (.int .i64 (q.2 : Int)) ∧ w = w' := by
  have hc1 : w.cell? ⟨g, 1, none⟩ = some (.int .i64 (q.2 : Int)) := h.blk.cell 1
  go_enter Tryz.func34, Tryz.ntmps34
  go_wp2
  go_ret
  exact ⟨rfl, rfl⟩

theorem rdRead (l : List UInt8) (w : World) (hl : l.length ≤ 1152921504606846976) :
    Calls Tryz.prog 30 #[.string (bs l)] w fun e w' => e = .returned (.pointer (some ⟨w.heap.size, 0, none⟩)) ∧ RdAt 113 w' w.heap.size (l, 0) ∧ Gr w w' := by
  go_enter Tryz.func30, Tryz.ntmps30
  go_wp2
  go_ret
  exact ⟨rfl, ⟨Blk.new _ _ _, hl, by simp⟩, (Gr.refl _).alloc _⟩

end Go.Proofs.YtoamnifnfkgbiaaGreatDoor

namespace Go.Proofs.YtoamnifnfkgbiaaGreatDoor
open Go.RowKit
set_option linter.unusedVariables false
/-- what is wrong with a head -/
def hdE (n : Int) (r : List UInt8) : Int := if n < 0 ∨ 200 < n then 3 else if r.length = 32 then 0 else 2
/-- the head of bytes: size, root, error -/
def hdRd (b : List UInt8) : Int × List UInt8 × Int :=
  if gE b = 0 ∧ b.length - gK b = 32 then
    (if hdE (gN b : Int) (b.drop (gK b)) = 0 then ((gN b : Int), b.drop (gK b), 0) else (0, [], hdE (gN b : Int) (b.drop (gK b))))
  else (0, [], 2)
theorem hdE_or (n : Int) (r : List UInt8) : hdE n r = 0 ∨ hdE n r = 2 ∨ hdE n r = 3 := by
  unfold hdE
  split
  · simp
  · split <;> simp
theorem rd_yes {b : List UInt8} (h : gE b = 0 ∧ b.length - gK b = 32) : nxtN (b, 0) = gN b ∧ nxtB 32 (aftN (b, 0)) = b.drop (gK b) ∧ aftB 32 (aftN (b, 0)) = ([], 0) := by
  obtain ⟨h1, h2⟩ := h
  have hl : (b.drop (gK b)).length = 32 := by rw [List.length_drop]; exact h2
  have e : aftN (b, 0) = (b.drop (gK b), 0) := by unfold aftN; rw [if_pos rfl, h1]
  refine ⟨by unfold nxtN; rw [if_pos rfl], ?_, ?_⟩
  · rw [e]; unfold nxtB
    rw [if_pos ⟨rfl, by omega, by simp only; rw [hl]; omega⟩]
    exact List.take_of_length_le (by simp only; rw [hl]; decide)
  · rw [e]; unfold aftB
    rw [if_pos rfl, if_pos ⟨by omega, by simp only; rw [hl]; omega⟩]
    simp only [Prod.mk.injEq, and_true]
    exact List.drop_eq_nil_of_le (by rw [hl]; decide)
theorem rd_no {b : List UInt8} (h : ¬ (gE b = 0 ∧ b.length - gK b = 32)) : (aftB 32 (aftN (b, 0))).2 ≠ 0 ∨ 0 < (aftB 32 (aftN (b, 0))).1.length := by
  have e : aftN (b, 0) = (b.drop (gK b), gE b) := by unfold aftN; rw [if_pos rfl]
  rw [e]
  unfold aftB
  by_cases h1 : gE b = 0
  · have h2 : b.length - gK b ≠ 32 := fun h2 => h ⟨h1, h2⟩
    rw [if_pos h1]
    split
    · rename_i h3
      right
      simp only [List.length_drop] at h3 ⊢
      have : (32 : Int).toNat = 32 := rfl
      rw [this]
      omega
    · left; simp
  · rw [if_neg h1]
    exact .inl h1
end Go.Proofs.YtoamnifnfkgbiaaGreatDoor

namespace Go.Proofs.YtoamnifnfkgbiaaGreatDoor
open Go.RowKit
set_option linter.unusedVariables false
theorem A.head : AggOk 26 2 := ⟨⟨_, Tryz.underlying26, rfl⟩, by kernel_rfl⟩
theorem A.disk : AggOk 24 2 := ⟨⟨_, Tryz.underlying24, rfl⟩, by kernel_rfl⟩
theorem A.wit : AggOk 84 6 := ⟨⟨_, Tryz.underlying84, rfl⟩, by kernel_rfl⟩
theorem A.cli : AggOk 30 6 := ⟨⟨_, Tryz.underlying30, rfl⟩, by kernel_rfl⟩
def headC (n : Int) (r : List UInt8) : Array Value := #[.int .i64 n, .string (bs r)]

theorem headC_one (n : Int) (r : List UInt8) : (headC n r).all (·.oneCell') = true := by simp [headC, Value.oneCell']

end Go.Proofs.YtoamnifnfkgbiaaGreatDoor

namespace Go.Proofs.YtoamnifnfkgbiaaGreatDoor
open Go.RowKit
set_option linter.unusedVariables false
end Go.Proofs.YtoamnifnfkgbiaaGreatDoor

namespace Go.Proofs.YtoamnifnfkgbiaaGreatDoor
open Go.RowKit
set_option linter.unusedVariables false
theorem headC_le (r : List UInt8) (h : r.length = 32) : r.length ≤ 1152921504606846976 := by omega

end Go.Proofs.YtoamnifnfkgbiaaGreatDoor

namespace Go.Proofs.YtoamnifnfkgbiaaGreatDoor
open Go.RowKit
set_option linter.unusedVariables false
/-- a file's bytes without the sum behind them -/
def chk (fs : List Fl) (name : List UInt8) : List UInt8 × Int :=
  if (readR fs name).2 = 0 then
    (if 32 ≤ (readR fs name).1.length ∧ sha ((readR fs name).1.take ((readR fs name).1.length - 32)) = (readR fs name).1.drop ((readR fs name).1.length - 32) then ((readR fs name).1.take ((readR fs name).1.length - 32), 0) else ([], 5))
  else ([], (readR fs name).2)
theorem readR_len (fs : List Fl) (name : List UInt8) : (readR fs name).1.length ≤ 1048576 := by
  unfold readR
  cases hg : goodFs fs with
  | false => simp
  | true =>
    cases hh : hasF name fs with
    | false => simp
    | true =>
      obtain ⟨h1, _⟩ := hasF_lt (goodFs_sorted hg) hh
      simp only [if_true]
      rw [List.getD_eq_getElem?_getD, List.getElem?_eq_getElem h1]
      have := (goodFs_ok hg _ (List.getElem_mem h1)).2.2
      simp only [Option.getD_some, List.length_append]
      exact this

set_option maxRecDepth 100000 in
set_option maxHeartbeats 4000000 in
theorem checked_any (fs : List Fl) (name : List UInt8) (A : Option Addr) (n cap : Nat) (f : Int) (w : World) (hn : n ≤ 1099511627776) (hx : FRow w A n fs) (hs : ∀ f ∈ fs, f.1.length ≤ 1099511627776 ∧ f.2.1.length ≤ 1099511627776 ∧ f.2.2.length ≤ 1099511627776) (hT : TabK w) :
    Calls Tryz.prog 28 #[diskV A n cap f, .string (bs name)] w fun e w' => e = .returned (.tuple #[.string (bs (chk fs name).1), .int .i64 (chk fs name).2]) ∧ Gr w w' := by
  have g0 := (Gr.refl w).alloc (.cells #[.slice A n cap, .int .i64 f] 24)
  have HRD := sec (read_any fs name A n cap f _ hn (hx.gr g0) hs)
  have HRL := sec (readR_len fs name)
  obtain ⟨R, hR⟩ : ∃ R, R = readR fs name := ⟨_, rfl⟩
  have HCK : Sec (chk fs name = if R.2 = 0 then (if 32 ≤ R.1.length ∧ sha (R.1.take (R.1.length - 32)) = R.1.drop (R.1.length - 32) then (R.1.take (R.1.length - 32), 0) else ([], 5)) else ([], R.2)) := sec (by rw [hR]; rfl)
  rw [← hR] at HRD HRL
  have HT := sec hT
  have HG0 := sec g0
  clear hR hx hs hT g0
  unfold diskV at HRD
  unfold diskV
  obtain ⟨r, er⟩ := R
  simp only at HCK HRL
  by_cases he : er = 0
  · subst he
    by_cases hl : 32 ≤ r.length
    · obtain ⟨m, hm⟩ : ∃ m, m = r.length - 32 := ⟨_, rfl⟩
      rw [← hm] at HCK
      have hmr : m ≤ r.length := by omega
      have hkm : (r.length : Int) - 32 = (m : Int) := by omega
      have hmi : (m : Int) ≤ (r.length : Int) := by omega
      have hrl : r.length ≤ 1048576 := HRL.out
      have HSU : Sec (∀ W, Gr w W → Calls Tryz.prog 77 #[.string (bs (r.take m))] W fun e w' => e = .returned (.string (bs (sha (r.take m)))) ∧ Gr W w') := sec (fun W g => sum_any (r.take m) W (HT.out.gr g) (by rw [List.length_take]; omega))
      have HL := sec hl
      have hwr : IntKind.i64.wrap ((r.length : Int) - 32) = (m : Int) := by rw [hkm]; exact IntWalk.i64_in _ (by omega)
      have hm0 : decide ((m : Int) < 0) = false := decide_eq_false (by omega)
      clear hm hl hrl hkm
      cases hq : sha (r.take m) == r.drop m with
      | true =>
        have hq' : sha (r.take m) = r.drop m := by simpa using hq
        rw [if_pos rfl, if_pos ⟨HL.out, hq'⟩] at HCK
        rw [HCK.out]
        rw [hq'] at HSU
        clear hq hq'
        go_enter Tryz.func28, Tryz.ntmps28
        go_wp2_with (go_at_call 76; refine Calls.mono HRD.out ?_; rintro e w1 ⟨rfl, g1⟩)
        have gg1 := sec (HG0.out.trans g1)
        have g1d : Gr w1 w1.drew := (Gr.refl _).drew
        go_region_held3 (fun w' => Gr w1 w') (first | with_reducible assumption | exact (Gr.refl _).drew | exact Gr.refl _ | fail)
          (first
            | (go_at_call 77; (with_reducible refine Calls.mono (HSU.out w1.drew gg1.out.drew) ?_); rintro e w2 ⟨rfl, g2⟩; have gg2 : Gr w1 w2 := Gr.trans g1d g2)
            | fail)
        all_goals (go_wp2_with fail; go_ret2; exact ⟨rfl, gg1.out.trans gg2⟩)
      | false =>
        have hq' : ¬ sha (r.take m) = r.drop m := by simpa using hq
        rw [if_pos rfl, if_neg (fun h => hq' h.2)] at HCK
        rw [HCK.out]
        obtain ⟨S, hS⟩ : ∃ S, S = sha (r.take m) := ⟨_, rfl⟩
        rw [← hS] at HSU hq
        clear hq' hS
        go_enter Tryz.func28, Tryz.ntmps28
        go_wp2_with (go_at_call 76; refine Calls.mono HRD.out ?_; rintro e w1 ⟨rfl, g1⟩)
        have gg1 := sec (HG0.out.trans g1)
        have g1d : Gr w1 w1.drew := (Gr.refl _).drew
        go_region_held3 (fun w' => Gr w1 w') (first | with_reducible assumption | exact (Gr.refl _).drew | exact Gr.refl _ | fail)
          (first
            | (go_at_call 77; (with_reducible refine Calls.mono (HSU.out w1.drew gg1.out.drew) ?_); rintro e w2 ⟨rfl, g2⟩; have gg2 : Gr w1 w2 := Gr.trans g1d g2)
            | fail)
        all_goals (go_wp2_with fail; go_ret2; exact ⟨rfl, gg1.out.trans gg2⟩)
    · rw [if_pos rfl, if_neg (fun h => hl h.1)] at HCK
      rw [HCK.out]
      obtain ⟨K, hK⟩ : ∃ K, K = (r.length : Int) - 32 := ⟨_, rfl⟩
      have hwr : IntKind.i64.wrap ((r.length : Int) - 32) = K := by rw [← hK]; exact IntWalk.i64_in _ (by omega)
      have hk0 : decide (K < 0) = true := decide_eq_true (by omega)
      clear hK hl
      go_enter Tryz.func28, Tryz.ntmps28
      go_wp2_with (go_at_call 76; refine Calls.mono HRD.out ?_; rintro e w1 ⟨rfl, g1⟩)
      go_quiet (fail)
      go_wp2_with fail
      go_ret2
      exact ⟨rfl, (HG0.out.trans g1).drewN _⟩
  · rw [if_neg he] at HCK
    rw [HCK.out]
    go_enter Tryz.func28, Tryz.ntmps28
    go_wp2_with (go_at_call 76; refine Calls.mono HRD.out ?_; rintro e w1 ⟨rfl, g1⟩)
    go_ret2
    exact ⟨rfl, HG0.out.trans g1⟩
end Go.Proofs.YtoamnifnfkgbiaaGreatDoor

namespace Go.Proofs.YtoamnifnfkgbiaaGreatDoor
open Go.RowKit
set_option linter.unusedVariables false
set_option maxRecDepth 100000 in
set_option maxHeartbeats 4000000 in
theorem summed_any (fs : List Fl) (name : List UInt8) (A : Option Addr) (n cap : Nat) (f : Int) (w : World) (hn : n ≤ 1099511627776) (hx : FRow w A n fs) (hs : ∀ f ∈ fs, f.1.length ≤ 1099511627776 ∧ f.2.1.length ≤ 1099511627776 ∧ f.2.2.length ≤ 1099511627776) :
    Calls Tryz.prog 41 #[diskV A n cap f, .string (bs name)] w fun e w' => e = .returned (.tuple #[.string (bs (chk fs name).1), .int .i64 (chk fs name).2]) ∧ Gr w w' := by
  have g0 := (Gr.refl w).alloc (.cells #[.slice A n cap, .int .i64 f] 24)
  have HRD := sec (rread_any fs name A n cap f _ hn (hx.gr g0) hs)
  have HRL := sec (readR_len fs name)
  obtain ⟨R, hR⟩ : ∃ R, R = readR fs name := ⟨_, rfl⟩
  have HCK : Sec (chk fs name = if R.2 = 0 then (if 32 ≤ R.1.length ∧ sha (R.1.take (R.1.length - 32)) = R.1.drop (R.1.length - 32) then (R.1.take (R.1.length - 32), 0) else ([], 5)) else ([], R.2)) := sec (by rw [hR]; rfl)
  rw [← hR] at HRD HRL
  have HG0 := sec g0
  clear hR hx hs g0
  unfold diskV at HRD
  unfold diskV
  obtain ⟨r, er⟩ := R
  simp only at HCK HRL
  by_cases he : er = 0
  · subst he
    by_cases hl : 32 ≤ r.length
    · obtain ⟨m, hm⟩ : ∃ m, m = r.length - 32 := ⟨_, rfl⟩
      rw [← hm] at HCK
      have hmr : m ≤ r.length := by omega
      have hkm : (r.length : Int) - 32 = (m : Int) := by omega
      have hmi : (m : Int) ≤ (r.length : Int) := by omega
      have hrl : r.length ≤ 1048576 := HRL.out
      have HSU : Sec (∀ W, Gr w W → Calls Tryz.prog 57 #[.string (bs (r.take m))] W fun e w' => e = .returned (.string (bs (sha (r.take m)))) ∧ Gr W w') := sec (fun W g => rsum_any (r.take m) W (by rw [List.length_take]; omega))
      have HL := sec hl
      have hwr : IntKind.i64.wrap ((r.length : Int) - 32) = (m : Int) := by rw [hkm]; exact IntWalk.i64_in _ (by omega)
      have hm0 : decide ((r.length : Int) < 32) = false := decide_eq_false (by omega)
      clear hm hl hrl hkm
      cases hq : sha (r.take m) == r.drop m with
      | true =>
        have hq' : sha (r.take m) = r.drop m := by simpa using hq
        rw [if_pos rfl, if_pos ⟨HL.out, hq'⟩] at HCK
        rw [HCK.out]
        rw [hq'] at HSU
        clear hq hq'
        go_enter Tryz.func41, Tryz.ntmps41
        go_wp2_with (go_at_call 73; refine Calls.mono HRD.out ?_; rintro e w1 ⟨rfl, g1⟩)
        have gg1 := sec (HG0.out.trans g1)
        have g1d : Gr w1 w1.drew := (Gr.refl _).drew
        go_region_held3 (fun w' => Gr w1 w') (first | with_reducible assumption | exact (Gr.refl _).drew | exact Gr.refl _ | fail)
          (first
            | (go_at_call 57; (with_reducible refine Calls.mono (HSU.out w1.drew gg1.out.drew) ?_); rintro e w2 ⟨rfl, g2⟩; have gg2 : Gr w1 w2 := Gr.trans g1d g2)
            | fail)
        all_goals (go_wp2_with fail; go_ret2; exact ⟨rfl, gg1.out.trans gg2⟩)
      | false =>
        have hq' : ¬ sha (r.take m) = r.drop m := by simpa using hq
        rw [if_pos rfl, if_neg (fun h => hq' h.2)] at HCK
        rw [HCK.out]
        obtain ⟨S, hS⟩ : ∃ S, S = sha (r.take m) := ⟨_, rfl⟩
        rw [← hS] at HSU hq
        clear hq' hS
        go_enter Tryz.func41, Tryz.ntmps41
        go_wp2_with (go_at_call 73; refine Calls.mono HRD.out ?_; rintro e w1 ⟨rfl, g1⟩)
        have gg1 := sec (HG0.out.trans g1)
        have g1d : Gr w1 w1.drew := (Gr.refl _).drew
        go_region_held3 (fun w' => Gr w1 w') (first | with_reducible assumption | exact (Gr.refl _).drew | exact Gr.refl _ | fail)
          (first
            | (go_at_call 57; (with_reducible refine Calls.mono (HSU.out w1.drew gg1.out.drew) ?_); rintro e w2 ⟨rfl, g2⟩; have gg2 : Gr w1 w2 := Gr.trans g1d g2)
            | fail)
        all_goals (go_wp2_with fail; go_ret2; exact ⟨rfl, gg1.out.trans gg2⟩)
    · rw [if_pos rfl, if_neg (fun h => hl h.1)] at HCK
      rw [HCK.out]
      obtain ⟨K, hK⟩ : ∃ K, K = (r.length : Int) - 32 := ⟨_, rfl⟩
      have hwr : IntKind.i64.wrap ((r.length : Int) - 32) = K := by rw [← hK]; exact IntWalk.i64_in _ (by omega)
      have hk0 : decide ((r.length : Int) < 32) = true := decide_eq_true (by omega)
      clear hK hl
      go_enter Tryz.func41, Tryz.ntmps41
      go_wp2_with (go_at_call 73; refine Calls.mono HRD.out ?_; rintro e w1 ⟨rfl, g1⟩)
      go_quiet (fail)
      go_wp2_with fail
      go_ret2
      exact ⟨rfl, (HG0.out.trans g1).drewN _⟩
  · rw [if_neg he] at HCK
    rw [HCK.out]
    go_enter Tryz.func41, Tryz.ntmps41
    go_wp2_with (go_at_call 73; refine Calls.mono HRD.out ?_; rintro e w1 ⟨rfl, g1⟩)
    go_ret2
    exact ⟨rfl, HG0.out.trans g1⟩
end Go.Proofs.YtoamnifnfkgbiaaGreatDoor

namespace Go.Proofs.YtoamnifnfkgbiaaGreatDoor
open Go.RowKit
set_option linter.unusedVariables false
set_option maxRecDepth 100000 in
set_option maxHeartbeats 1000000 in
theorem empty_any (w : World) (hT : TabK w) : Calls Tryz.prog 29 #[] w fun e w' => e = .returned (.agg (headC 0 (sha []))) ∧ Gr w w' := by
  have hR : ∀ w, TabK w → Calls Tryz.prog 78 #[.slice none 0 0] w fun e w' => e = .returned (.string (bs (sha []))) ∧ Gr w w' := by
    intro w hT
    have := root_any 0 [] none 0 0 w (by simp) (by omega) (by omega) ⟨rfl, fun h => absurd h (by omega)⟩ (by intro s h; cases h) hT
    rw [rootL_nil] at this
    exact this
  have HR := sec hR
  clear hR
  go_enter Tryz.func29, Tryz.ntmps29
  go_wp2_with (first
    | (refine wpList_store_blk rfl 26 (.tmp 0) (.tmp 2) rfl (g := w.heap.size) (cs' := headC 0 (sha [])) rfl rfl hB A.head rfl (headC_one _ _) ?_; intro w2 h2 hg2)
    | (go_at_call 78; refine Calls.mono (HR.out _ (hT.gr ((Gr.refl w).alloc _))) ?_; rintro e w1 ⟨rfl, g1⟩; have hB := (Blk.new w 26 (headC 0 [])).gr g1; have gg1 : Gr w w1 := Gr.trans ((Gr.refl w).alloc _) g1))

  refine bodyPost_ret (results_blk rfl _ rfl h2 A.head) rfl ?_
  exact ⟨rfl, Gr.only gg1 hg2 (Nat.le_refl _)⟩
set_option maxRecDepth 100000 in
set_option maxHeartbeats 1000000 in
theorem nohead_any (w : World) : Calls Tryz.prog 42 #[] w fun e w' => e = .returned (.agg (headC 0 (sha []))) ∧ Gr w w' := by
  go_enter Tryz.func42, Tryz.ntmps42
  go_wp2_with (first
    | (refine wpList_store_blk rfl 26 (.tmp 0) (.tmp 2) rfl (g := w.heap.size) (cs' := headC 0 (sha [])) rfl rfl hB A.head rfl (headC_one _ _) ?_; intro w2 h2 hg2)
    | (go_at_call 57; refine (rsum_any [] _ (by simp)).mono ?_; rintro e w1 ⟨rfl, g1⟩; have hB := (Blk.new w 26 (headC 0 [])).gr g1; have gg1 : Gr w w1 := Gr.trans ((Gr.refl w).alloc _) g1))

  refine bodyPost_ret (results_blk rfl _ rfl h2 A.head) rfl ?_
  exact ⟨rfl, Gr.only gg1 hg2 (Nat.le_refl _)⟩


end Go.Proofs.YtoamnifnfkgbiaaGreatDoor

namespace Go.Proofs.YtoamnifnfkgbiaaGreatDoor
open Go.RowKit
set_option linter.unusedVariables false
theorem aggWit : AggOk 84 6 := A.wit
def witA (who : Int) (key : List UInt8) (A : Option Addr) (n cap : Nat) (f sz : Int) (r : List UInt8) : Array Value := #[.int .i64 who, .string (bs key), .slice A n cap, .int .i64 f, .int .i64 sz, .string (bs r)]
theorem witA_one (who : Int) (key : List UInt8) (A : Option Addr) (n cap : Nat) (f sz : Int) (r : List UInt8) : (witA who key A n cap f sz r).all (·.oneCell') = true := by simp [witA, Value.oneCell']
def seenB : List UInt8 := [115, 101, 101, 110]
/-- P12.4: files, fuse, the seen head, the error -/
def wakeR (fs : List Fl) (f keep sz : Int) (r : List UInt8) : List Fl × Int × Int × List UInt8 × Int :=
  if (crashR fs f keep).2.2 = 0 then
    (if (chk (crashR fs f keep).1 seenB).2 = 7 then ((crashR fs f keep).1, (crashR fs f keep).2.1, 0, sha [], 0)
     else if (chk (crashR fs f keep).1 seenB).2 = 0 then
      (if (hdRd (chk (crashR fs f keep).1 seenB).1).2.2 = 0 then ((crashR fs f keep).1, (crashR fs f keep).2.1, (hdRd (chk (crashR fs f keep).1 seenB).1).1, (hdRd (chk (crashR fs f keep).1 seenB).1).2.1, 0) else (fs, f, sz, r, (hdRd (chk (crashR fs f keep).1 seenB).1).2.2))
     else (fs, f, sz, r, (chk (crashR fs f keep).1 seenB).2))
  else (fs, f, sz, r, (crashR fs f keep).2.2)

theorem hdRd_ne7 (b : List UInt8) : (hdRd b).2.2 ≠ 7 := by
  unfold hdRd
  split
  · split
    · simp
    · have := hdE_or (gN b : Int) (b.drop (gK b)); simp only; omega
  · simp
theorem crash_sz {fs : List Fl} {f keep : Int} (hs : ∀ f ∈ fs, f.1.length ≤ 1099511627776 ∧ f.2.1.length ≤ 1099511627776 ∧ f.2.2.length ≤ 1099511627776) : ∀ x ∈ (crashR fs f keep).1, x.1.length ≤ 1099511627776 ∧ x.2.1.length ≤ 1099511627776 ∧ x.2.2.length ≤ 1099511627776 := by
  intro x hx
  unfold crashR at hx
  split at hx
  · rename_i h
    obtain ⟨y, hy, rfl⟩ := List.mem_map.1 hx
    have h1 := goodFs_ok h.1 y hy
    have h2 := hs y hy
    unfold crashF
    simp only [List.length_append, List.length_take, List.length_nil]
    omega
  · exact hs x hx

theorem chk_len (fs : List Fl) (name : List UInt8) : (chk fs name).1.length ≤ 1048576 := by
  have := readR_len fs name
  unfold chk
  split
  · split
    · simp only [List.length_take]; omega
    · simp
  · simp
theorem wake_row {wa w1 : World} {A A1 : Option Addr} {n cap1 p : Nat} {gs : List Fl} (hx : ∀ b off, A = some ⟨b, off, none⟩ → 0 < n → b < p) (hp : p + 1 < wa.heap.size) (hg : Gr wa w1) (h1 : FRow w1 A1 n gs) (ha : A1 = A ∨ w1.ownsRow wa.heap.size 105 3 (.slice A1 n cap1) n (gs.flatMap fileC)) :
    ∀ g, (g = p ∨ g = p + 1 ∨ w1.heap.size ≤ g) → 0 < n → ∀ b off, A1 = some ⟨b, off, none⟩ → b ≠ g := by
  intro g hgg h0 b off e
  have hs := hg.size
  rcases ha with rfl | ha
  · have := hx b off e h0
    rcases hgg with h | h | h <;> omega
  · have := ha.lt b (by rw [e]; rfl)
    rcases hgg with h | h | h <;> omega
theorem wake_set {W : World} {p n cap n' cap1 : Nat} {who : Int} {key r r2 : List UInt8} {A A1 : Option Addr} {f sz u s2 : Int} {z : Array Value} (B : Blk W p 84 (witA who key A n cap f sz r)) (Z : Blk W (p + 1) 84 z) :
    Blk ((((W.setCell ⟨p, 2, none⟩ (.slice A1 n' cap1)).setCell ⟨p, 3, none⟩ (.int .i64 u)).setCell ⟨p, 4, none⟩ (.int .i64 s2)).setCell ⟨p, 5, none⟩ (.string (bs r2))).drew p 84 (witA who key A1 n' cap1 u s2 r2) ∧
    Blk ((((W.setCell ⟨p, 2, none⟩ (.slice A1 n' cap1)).setCell ⟨p, 3, none⟩ (.int .i64 u)).setCell ⟨p, 4, none⟩ (.int .i64 s2)).setCell ⟨p, 5, none⟩ (.string (bs r2))).drew (p + 1) 84 z :=
  ⟨((((B.set_ 2 _).set_ 3 _).set_ 4 _).set_ 5 _).drew, ((((Z.far (p := ⟨p, 2, none⟩) (by show p + 1 ≠ p; omega) _).far (p := ⟨p, 3, none⟩) (by show p + 1 ≠ p; omega) _).far (p := ⟨p, 4, none⟩) (by show p + 1 ≠ p; omega) _).far (p := ⟨p, 5, none⟩) (by show p + 1 ≠ p; omega) _).drew⟩
theorem wake_set0 {W : World} {p n cap n' cap1 : Nat} {who : Int} {key r r2 : List UInt8} {A A1 : Option Addr} {f sz u s2 : Int} {z : Array Value} (B : Blk W p 84 (witA who key A n cap f sz r)) (Z : Blk W (p + 1) 84 z) :
    Blk ((((W.setCell ⟨p, 2, none⟩ (.slice A1 n' cap1)).setCell ⟨p, 3, none⟩ (.int .i64 u)).setCell ⟨p, 4, none⟩ (.int .i64 s2)).setCell ⟨p, 5, none⟩ (.string (bs r2))) p 84 (witA who key A1 n' cap1 u s2 r2) ∧
    Blk ((((W.setCell ⟨p, 2, none⟩ (.slice A1 n' cap1)).setCell ⟨p, 3, none⟩ (.int .i64 u)).setCell ⟨p, 4, none⟩ (.int .i64 s2)).setCell ⟨p, 5, none⟩ (.string (bs r2))) (p + 1) 84 z :=
  ⟨(((B.set_ 2 _).set_ 3 _).set_ 4 _).set_ 5 _, (((Z.far (p := ⟨p, 2, none⟩) (by show p + 1 ≠ p; omega) _).far (p := ⟨p, 3, none⟩) (by show p + 1 ≠ p; omega) _).far (p := ⟨p, 4, none⟩) (by show p + 1 ≠ p; omega) _).far (p := ⟨p, 5, none⟩) (by show p + 1 ≠ p; omega) _⟩
theorem wake_keep {W : World} {p n : Nat} {A1 : Option Addr} {gs : List Fl} (h : FRow W A1 n gs) (hne : 0 < n → ∀ b off, A1 = some ⟨b, off, none⟩ → b ≠ p) (j : Nat) (v : Value) : FRow (W.setCell ⟨p, j, none⟩ v) A1 n gs :=
  Row.only h (grown_setCell W ⟨p, j, none⟩ v) hne

end Go.Proofs.YtoamnifnfkgbiaaGreatDoor

namespace Go.Proofs.YtoamnifnfkgbiaaGreatDoor
open Go.RowKit
set_option linter.unusedVariables false
end Go.Proofs.YtoamnifnfkgbiaaGreatDoor

namespace Go.Proofs.YtoamnifnfkgbiaaGreatDoor
set_option maxRecDepth 100000
open Go.RowKit Go.ChangeShapes Go.WideShapes
/-- a value of type t, k cells, reads as some a (R), of size sz a at most its bulk -/
structure Opens (w : World) (t : TypeId) (k : Nat) {α : Type} (R : List Value → α → Prop) (sz : α → Nat) : Prop where
  cells : Tryz.prog.cellsOf t = k
  open_ : ∀ {H : Type} (enc : TypeId × Value → H) (fuel : Nat) (cs : List Value) (x : DataW H × List MemPlace),
    DataW.trod enc Tryz.prog w 0 (fun _ => true) true fuel t cs = some x → cs.length = k ∧ ∃ a, R cs a ∧ sz a ≤ Rows.uptoBulk x.1

def intR (cs : List Value) (n : Int) : Prop := cs = [.int .i64 n] ∧ -9223372036854775808 ≤ n ∧ n ≤ 9223372036854775807
def strR (cs : List Value) (l : List UInt8) : Prop := cs = [.string (bs l)]
def boolR (cs : List Value) (b : Bool) : Prop := cs = [.bool b]
theorem opens_int {t : TypeId} (ht : Tryz.prog.underlying t = some (.int .i64)) (hc : Tryz.prog.cellsOf t = 1) (w : World) : Opens w t 1 intR (fun _ => 1) :=
  ⟨hc, fun enc fuel cs x h => by
    obtain ⟨n, rfl, rfl, hw⟩ := DataW.trod_int ht h
    exact ⟨rfl, n, ⟨rfl, by simpa [Lit.wf, IntKind.min, IntKind.max, IntKind.signed, IntKind.bits] using hw⟩, by simp [Rows.uptoBulk]⟩⟩
theorem opens_string {t : TypeId} (ht : Tryz.prog.underlying t = some .string) (hc : Tryz.prog.cellsOf t = 1) (w : World) : Opens w t 1 strR (fun l => l.length + 1) :=
  ⟨hc, fun enc fuel cs x h => by
    obtain ⟨s, rfl, rfl, _⟩ := DataW.trod_string ht h
    obtain ⟨l, rfl⟩ := bs_of s
    exact ⟨rfl, l, rfl, by simp [Rows.uptoBulk, bs_data]⟩⟩
theorem opens_bool {t : TypeId} (ht : Tryz.prog.underlying t = some .bool) (hc : Tryz.prog.cellsOf t = 1) (w : World) : Opens w t 1 boolR (fun _ => 1) :=
  ⟨hc, fun enc fuel cs x h => by
    obtain ⟨b, rfl, rfl⟩ := DataW.trod_bool ht h
    exact ⟨rfl, b, rfl, by simp [Rows.uptoBulk]⟩⟩

/-- the reading by other words -/
theorem Opens.map {w : World} {t : TypeId} {k : Nat} {α β : Type} {R : List Value → α → Prop} {sz : α → Nat} (h : Opens w t k R sz) {R' : List Value → β → Prop} {sz' : β → Nat} (f : α → β) (hR : ∀ cs a, R cs a → R' cs (f a)) (hs : ∀ a, sz' (f a) ≤ sz a) : Opens w t k R' sz' :=
  ⟨h.cells, fun enc fuel cs x hx => by
    obtain ⟨hl, a, ha, hb⟩ := h.open_ enc fuel cs x hx
    exact ⟨hl, f a, hR _ _ ha, Nat.le_trans (hs a) hb⟩⟩

/-! ### structs -/
structure OpensF (w : World) (fl : List Field) (off k : Nat) {β : Type} (R : List Value → β → Prop) (sz : β → Nat) : Prop where
  open_ : ∀ {H : Type} (enc : TypeId × Value → H) (n : Nat) (cs : List Value) (ys : List (DataW H × List MemPlace)), ys.length = fl.length →
    (∀ (i : Nat) (f : Field), fl[i]? = some f → DataW.trod enc Tryz.prog w 0 (fun _ => true) true n f.type ((cs.drop f.offset).take (Tryz.prog.cellsOf f.type)) = ys[i]?) →
    cs.length = off + k → ∃ b, R (cs.drop off) b ∧ sz b ≤ Rows.uptoBulkAll (ys.map (·.1))
def nilR (cs : List Value) (_ : Unit) : Prop := cs = []
def consR {α β : Type} (k : Nat) (R : List Value → α → Prop) (R' : List Value → β → Prop) (cs : List Value) (a : α × β) : Prop := ∃ c1 c2, cs = c1 ++ c2 ∧ c1.length = k ∧ R c1 a.1 ∧ R' c2 a.2
theorem opensF_nil (w : World) (off : Nat) : OpensF w [] off 0 nilR (fun _ => 0) :=
  ⟨fun enc n cs ys _ _ hl => ⟨(), List.drop_eq_nil_of_le (by omega), by simp⟩⟩
theorem opensF_cons {w : World} {f : Field} {fl : List Field} {off k k' : Nat} {α β : Type} {R : List Value → α → Prop} {sz : α → Nat} {R' : List Value → β → Prop} {sz' : β → Nat}
    (hf : f.offset = off) (h : Opens w f.type k R sz) (h' : OpensF w fl (off + k) k' R' sz') : OpensF w (f :: fl) off (k + k') (consR k R R') (fun a => sz a.1 + sz' a.2) :=
  ⟨fun enc n cs ys hy hat hl => by
    cases ys with
    | nil => simp at hy
    | cons y ys =>
      have h0 := hat 0 f rfl
      rw [hf, h.cells] at h0
      obtain ⟨hk, a, ha, hb⟩ := h.open_ enc n _ y h0
      obtain ⟨b, hb1, hb2⟩ := h'.open_ enc n cs ys (by simpa using hy) (fun i g hg => hat (i + 1) g (by simpa using hg)) (by omega)
      refine ⟨(a, b), ⟨(cs.drop off).take k, cs.drop (off + k), ?_, hk, ha, hb1⟩, ?_⟩
      · rw [← List.drop_drop]; exact (List.take_append_drop k _).symm
      · simp only [List.map_cons, Rows.uptoBulkAll]; omega⟩
theorem opens_struct {w : World} {t : TypeId} {fs : Array Field} {k : Nat} {β : Type} {R : List Value → β → Prop} {sz : β → Nat} (ht : Tryz.prog.underlying t = some (.struct fs)) (hc : Tryz.prog.cellsOf t = k) (h : OpensF w fs.toList 0 k R sz) : Opens w t k R (fun b => sz b + 1) :=
  ⟨hc, fun enc fuel cs x hx => by
    obtain ⟨xs, n, _, rfl, hl, hxl, hf⟩ := DataW.trod_struct ht hx
    obtain ⟨b, hb, hs⟩ := h.open_ enc n cs xs (by simpa using hxl) (fun i f hi => hf i f (by simpa using hi)) (by rw [hl, hc]; omega)
    exact ⟨hl.trans hc, b, by simpa using hb, by simp only [Rows.uptoBulk]; omega⟩⟩

/-! ### slices -/
def sliceR {α : Type} (w : World) (k : Nat) (R : List Value → α → Prop) (cs : List Value) (xs : List α) : Prop :=
  ∃ A c, cs = [.slice A xs.length c] ∧ xs.length ≤ c ∧ (c ≤ maxLen ∧ (A = none → c = 0)) ∧ (0 < xs.length → ∃ b off, A = some ⟨b, off, none⟩ ∧ ∀ i (h : i < xs.length), ∃ ci, R ci xs[i] ∧ ci.length = k ∧ ∀ j v, ci[j]? = some v → w.cell? ⟨b, off + i * k + j, none⟩ = some v)
def szs {α : Type} (sz : α → Nat) : List α → Nat
  | [] => 0
  | x :: r => sz x + szs sz r

theorem build_list {α : Type} (p : Nat → α → Prop) : ∀ n, (∀ i, i < n → ∃ a, p i a) → ∃ xs : List α, xs.length = n ∧ ∀ i (h : i < xs.length), p i xs[i]
  | 0, _ => ⟨[], rfl, fun i h => absurd h (by simp)⟩
  | n + 1, h => by
    obtain ⟨xs, hl, hx⟩ := build_list p n (fun i hi => h i (by omega))
    obtain ⟨a, ha⟩ := h n (by omega)
    refine ⟨xs ++ [a], by simp [hl], fun i hi => ?_⟩
    by_cases e : i < xs.length
    · rw [List.getElem_append_left e]; exact hx i e
    · have : i = n := by simp at hi; omega
      subst this
      rw [List.getElem_append_right (by omega)]
      simpa [hl] using ha
theorem szs_le {H α : Type} (sz : α → Nat) : ∀ (xs : List α) (ds : List (DataW H)), xs.length = ds.length → (∀ i (h : i < xs.length) (h' : i < ds.length), sz xs[i] ≤ Rows.uptoBulk ds[i]) → szs sz xs ≤ Rows.uptoBulkAll ds
  | [], [], _, _ => by simp [szs]
  | x :: xs, d :: ds, hl, h => by
    have h0 := h 0 (by simp) (by simp)
    have := szs_le sz xs ds (by simpa using hl) (fun i hi hi' => h (i + 1) (by simp; omega) (by simp; omega))
    simp only [szs, Rows.uptoBulkAll]
    simp at h0
    omega
  | [], _ :: _, hl, _ => by simp at hl
  | _ :: _, [], hl, _ => by simp at hl

theorem add_of_add (a : Addr) (i j : Nat) : (a.add i).add j = a.add (i + j) := by
  unfold Addr.add
  by_cases hi : i = 0 <;> by_cases hj : j = 0 <;> simp [hi, hj, Nat.add_assoc]
theorem add_spot {b off i : Nat} : (⟨b, off, none⟩ : Addr).add i = ⟨b, off + i, none⟩ := by unfold Addr.add; split <;> simp_all

theorem opens_slice {w : World} {t e : TypeId} {k : Nat} {α : Type} {R : List Value → α → Prop} {sz : α → Nat} (ht : Tryz.prog.underlying t = some (.slice e)) (hc : Tryz.prog.cellsOf t = 1) (h : Opens w e k R sz) (hk : 0 < k) :
    Opens w t 1 (sliceR w k R) (fun xs => szs sz xs + 1) :=
  ⟨hc, fun {H} enc fuel cs x hx => by
    rcases DataW.trod_slice ht hx with ⟨rfl, rfl⟩ | ⟨a, len, cap, elems, rest, n, _, rfl, rfl, _, hlc, hcm, hlen, hel, _, _⟩
    · exact ⟨rfl, [], ⟨none, 0, rfl, by simp, ⟨by simp [maxLen], fun _ => rfl⟩, fun h0 => absurd h0 (by simp)⟩, by simp [szs, Rows.uptoBulk]⟩
    · have hi : ∀ i, i < len → ∃ y : α × List Value, (∀ (h' : i < elems.length), sz y.1 ≤ Rows.uptoBulk (elems[i].1)) ∧ R y.2 y.1 ∧ y.2.length = k ∧ ∀ j v, y.2[j]? = some v → w.cell? (a.add (i * k + j)) = some v := by
        intro i hi
        have h1 := hel i hi
        have hil : i < elems.length := by omega
        rw [List.getElem?_eq_getElem hil, Option.bind_eq_some_iff] at h1
        obtain ⟨ci, hci, hti⟩ := h1
        obtain ⟨hl, y, hy, hs⟩ := h.open_ enc n ci _ hti
        rw [h.cells] at hci
        obtain ⟨_, _, hcell⟩ := World.cells?_some hci
        refine ⟨(y, ci), fun _ => hs, hy, hl, fun j v hv => ?_⟩
        have hj : j < k := by rw [← hl]; exact (List.getElem?_eq_some_iff.1 hv).1
        rw [← add_of_add, hcell j hj]; exact hv
      obtain ⟨ys, hyl, hys⟩ := build_list (fun i (y : α × List Value) => (∀ (h' : i < elems.length), sz y.1 ≤ Rows.uptoBulk (elems[i].1)) ∧ R y.2 y.1 ∧ y.2.length = k ∧ ∀ j v, y.2[j]? = some v → w.cell? (a.add (i * k + j)) = some v) len hi
      refine ⟨rfl, ys.map (·.1), ⟨some a, cap, by simp [hyl], by simp; omega, ⟨hcm, fun h => by cases h⟩, fun h0 => ?_⟩, ?_⟩
      · obtain ⟨b, off, spot⟩ := a
        have h00 := hys 0 (by simpa using h0)
        obtain ⟨_, _, hl0, hc0⟩ := h00
        have hv := hc0 0 _ (List.getElem?_eq_getElem (by rw [hl0]; exact hk))
        have hsp : spot = none := by simpa [Addr.add] using World.cell?_spot hv
        subst hsp
        refine ⟨b, off, rfl, fun i hi => ?_⟩
        have hi' : i < ys.length := by simpa using hi
        obtain ⟨_, hR, hl, hcell⟩ := hys i hi'
        refine ⟨ys[i].2, by simpa using hR, hl, fun j v hv => ?_⟩
        have := hcell j v hv
        rw [add_spot, ← Nat.add_assoc] at this
        exact this
      · simp only [Rows.uptoBulk]
        have := szs_le (H := H) sz (ys.map (·.1)) (elems.map (·.1)) (by simp; omega) (fun i hi hi' => by
          have hi2 : i < ys.length := by simpa using hi
          have := (hys i hi2).1 (by simpa using hi')
          simpa using this)
        omega⟩

/-- where an element's cells are told by it alone: a row -/
theorem sliceR_row {α : Type} {w : World} {k : Nat} {R : List Value → α → Prop} (f : α → List Value) (hf : ∀ x, (f x).length = k) (hk : 0 < k) (hR : ∀ ci x, R ci x → ci = f x) {cs : List Value} {xs : List α} (h : sliceR w k R cs xs) :
    ∃ A c, cs = [.slice A xs.length c] ∧ xs.length ≤ c ∧ c ≤ maxLen ∧ Row w k A xs.length (xs.flatMap f) := by
  obtain ⟨A, c, hcs, h1, h2, hat⟩ := h
  refine ⟨A, c, hcs, h1, h2.1, flat_len f k hf xs, fun hn => ?_⟩
  obtain ⟨b, off, e, hel⟩ := hat hn
  refine ⟨b, off, e, fun j v hv => ?_⟩
  have hjl : j < xs.length * k := by rw [← flat_len f k hf xs]; exact (List.getElem?_eq_some_iff.1 hv).1
  have hi : j / k < xs.length := (Nat.div_lt_iff_lt_mul hk).2 hjl
  have hr : j % k < k := Nat.mod_lt _ hk
  have ej : j / k * k + j % k = j := by rw [Nat.mul_comm]; exact Nat.div_add_mod j k
  obtain ⟨ci, hci, _, hcell⟩ := hel (j / k) hi
  rw [hR ci _ hci] at hcell
  rw [← ej, flat_at f k hf xs (j / k) hi (j % k) hr] at hv
  have := hcell (j % k) v hv
  rw [Nat.add_assoc, ej] at this
  exact this
theorem szs_len {α : Type} (sz : α → Nat) (h1 : ∀ x, 1 ≤ sz x) : ∀ xs : List α, xs.length ≤ szs sz xs
  | [] => by simp
  | x :: r => by have := szs_len sz h1 r; have := h1 x; simp only [szs, List.length_cons]; omega
theorem szs_mem {α : Type} (sz : α → Nat) {xs : List α} {x : α} (h : x ∈ xs) : sz x ≤ szs sz xs := by
  induction xs with
  | nil => cases h
  | cons y r ih =>
    simp only [szs]
    rcases List.mem_cons.1 h with rfl | h
    · omega
    · have := ih h; omega

/-! ### arguments -/
theorem open_arg {w : World} {t : TypeId} {k : Nat} {α : Type} {R : List Value → α → Prop} {sz : α → Nat} (h : Opens w t k R sz) {H : Type} {enc : TypeId × Value → H} {v : Value} {d : DataW H} {p : List MemPlace}
    (hd : DataW.Trod enc Tryz.prog w 0 (fun _ => true) true t v d p) : ∃ a, R v.cells.toList a ∧ sz a ≤ Rows.uptoBulk d ∧ v.cells.toList.length = k := by
  obtain ⟨fuel, hf⟩ := hd
  obtain ⟨hl, a, ha, hs⟩ := h.open_ enc fuel _ _ hf
  exact ⟨a, ha, hs, hl⟩
theorem open_slice_arg {w : World} {r : Reach} {base : Nat} {t e : TypeId} (ht : Tryz.prog.underlying t = some (.slice e)) {k : Nat} {α : Type} {R : List Value → α → Prop} {sz : List α → Nat} (h : Opens w t 1 (sliceR w k R) sz) {H : Type} {enc : TypeId × Value → H} {v : Value} {d : DataW H} {p : List MemPlace}
    (hv : Value.okWide Tryz.prog w r base t v) (hd : DataW.Trod enc Tryz.prog w 0 (fun _ => true) true t v d p) : ∃ A c xs, v = .slice A xs.length c ∧ sliceR w k R [.slice A xs.length c] xs ∧ sz xs ≤ Rows.uptoBulk d := by
  obtain ⟨a0, n0, c0, rfl⟩ := okWide_slice ht hv
  obtain ⟨xs, hR, hs, _⟩ := open_arg h hd
  have hR' := hR
  obtain ⟨A, c, hcs, _⟩ := hR
  have e : [Value.slice a0 n0 c0] = [.slice A xs.length c] := by simpa [Value.cells] using hcs
  simp only [List.cons.injEq, and_true] at e
  refine ⟨A, c, xs, e, ?_, hs⟩
  rw [← e]
  simpa [Value.cells] using hR'
end Go.Proofs.YtoamnifnfkgbiaaGreatDoor

namespace Go.Proofs.YtoamnifnfkgbiaaGreatDoor
open Go.RowKit
set_option linter.unusedVariables false
/-- 64 bytes while they are filled -/
def kArr (x : UInt8) (K : List UInt8) (n : Nat) : Array Value := ((List.range 64).map fun j => if j < n then byteV (K.getD j 0 ^^^ x) else Value.int .u8 0).toArray
theorem kArr_size (x : UInt8) (K : List UInt8) (n : Nat) : (kArr x K n).size = 64 := by unfold kArr; simp
theorem kArr_set (x : UInt8) (K : List UInt8) (n : Nat) : (kArr x K n).setIfInBounds n (byteV (K.getD n 0 ^^^ x)) = kArr x K (n + 1) := by
  unfold kArr
  rw [List.setIfInBounds_toArray]
  congr 1
  apply List.ext_getElem
  · simp
  · intro i h1 h2
    rw [List.getElem_set]
    simp only [List.getElem_map, List.getElem_range]
    by_cases e : n = i
    · subst e; rw [if_pos rfl, if_pos (by omega)]
    · rw [if_neg e]
      by_cases h : i < n
      · rw [if_pos h, if_pos (by omega)]
      · rw [if_neg h, if_neg (by omega)]
theorem kArr_full (x : UInt8) (K : List UInt8) : (kArr x K 64).toList = (xorPad x K).map byteV := by
  unfold kArr xorPad
  simp only [List.map_map]
  refine List.map_congr_left ?_
  intro j hj
  have : j < 64 := by simpa using hj
  rw [if_pos this]; rfl
def zero64 : Array Value := #[.int .u8 0, .int .u8 0, .int .u8 0, .int .u8 0, .int .u8 0, .int .u8 0, .int .u8 0, .int .u8 0, .int .u8 0, .int .u8 0, .int .u8 0, .int .u8 0, .int .u8 0, .int .u8 0, .int .u8 0, .int .u8 0, .int .u8 0, .int .u8 0, .int .u8 0, .int .u8 0, .int .u8 0, .int .u8 0, .int .u8 0, .int .u8 0, .int .u8 0, .int .u8 0, .int .u8 0, .int .u8 0, .int .u8 0, .int .u8 0, .int .u8 0, .int .u8 0, .int .u8 0, .int .u8 0, .int .u8 0, .int .u8 0, .int .u8 0, .int .u8 0, .int .u8 0, .int .u8 0, .int .u8 0, .int .u8 0, .int .u8 0, .int .u8 0, .int .u8 0, .int .u8 0, .int .u8 0, .int .u8 0, .int .u8 0, .int .u8 0, .int .u8 0, .int .u8 0, .int .u8 0, .int .u8 0, .int .u8 0, .int .u8 0, .int .u8 0, .int .u8 0, .int .u8 0, .int .u8 0, .int .u8 0, .int .u8 0, .int .u8 0, .int .u8 0]
theorem kArr_zero (x : UInt8) (K : List UInt8) : kArr x K 0 = zero64 := by kernel_rfl
theorem x_xor (a c : UInt8) : bits .xor .u8 (a.toNat : Int) (c.toNat : Int) = ((c ^^^ a).toNat : Int) := by
  have h1 := a.toNat_lt
  have h2 := c.toNat_lt
  rw [u8_xor_nat a.toNat c.toNat (by omega) (by omega), UInt8.toNat_xor, Nat.xor_comm]
theorem x_zero (a : UInt8) : (0 : UInt8) ^^^ a = a := by
  apply UInt8.eq_of_toBitVec_eq
  rw [UInt8.toBitVec_xor]; exact BitVec.zero_xor
theorem conv_arr (w : World) {g : Nat} {t : TypeId} {cs : Array Value} {l : List UInt8} (hB : Blk w g t cs) (h : cs.toList = l.map byteV) (n : Nat) (hn : l.length = n) :
    (convert 140 9 (.slice (some ⟨g, 0, none⟩) n n)).run Tryz.prog w = .ok (.string (bs l)) w := by
  subst hn
  refine run_conv_at Tryz.underlying140 Tryz.underlying5 Tryz.underlying9 w g 0 _ l (fun j u hu => ?_)
  rw [Nat.zero_add, hB.cell, ← h] at *
  simpa using hu

set_option maxRecDepth 100000 in
set_option maxHeartbeats 2000000 in
theorem seal_any (key b : List UInt8) (w : World) (hT : TabK w) (hk : key.length ≤ 288230376151711744) (hb : b.length ≤ 288230376151711744) :
    Calls Tryz.prog 126 #[.string (bs key), .string (bs b)] w fun e w' => e = .returned (.string (bs (seal' key b))) ∧ Gr w w' := by
  obtain ⟨K, hK⟩ : ∃ K, K = keyOf key := ⟨_, rfl⟩
  have hKl : K.length ≤ 64 := by rw [hK]; exact keyOf_len key
  have HF : Sec (seal' key b = sha (xorPad 0x5c K ++ sha (xorPad 0x36 K ++ b))) := sec (by rw [hK]; rfl)
  have HK := sec hK
  clear hK
  by_cases hlt : 64 < key.length
  · have HS : Sec (sha key = K) := sec (by rw [HK.out]; unfold keyOf; rw [if_pos hlt])
    have hlti : (64 : Int) < (key.length : Int) := by omega
    go_enter Tryz.func126, Tryz.ntmps126
    go_wp2_with ((go_at_call 77; refine (sum_any key _ hT (by omega)).mono ?_; rw [HS.out]; rintro e w1 ⟨rfl, g1⟩))
    have HZ5 : Sec (Blk ((w1.alloc (.cells zero64 201)).alloc (.cells zero64 201)) w1.heap.size 201 zero64) := sec ((Blk.new w1 _ _).alloc _)
    have HZ6 : Sec (Blk ((w1.alloc (.cells zero64 201)).alloc (.cells zero64 201)) (w1.heap.size + 1) 201 zero64) := sec (Blk.new1 w1 _ _ _)
    have HG : Sec (Gr w ((w1.alloc (.cells zero64 201)).alloc (.cells zero64 201))) := sec ((g1.alloc _).alloc _)
    obtain ⟨q, hq⟩ : ∃ q, q = w1.heap.size := ⟨_, rfl⟩
    have hwb : w.heap.size ≤ q := by rw [hq]; exact g1.size
    rw [← hq] at HZ5 HZ6
    rw [← hq]
    clear hq
    go_loopw [13, 7] (fun iv _ wr => ∃ i : Nat, iv = .int .i64 i ∧ i ≤ 64 ∧ Blk wr q 201 (kArr 0x36 K i) ∧ Blk wr (q + 1) 201 (kArr 0x5c K i) ∧ Gr w wr)
      (fun iv _ _ => 64 - (intOf iv).toNat)
    case atStart => exact ⟨0, rfl, by omega, by rw [kArr_zero]; exact HZ5.out, by rw [kArr_zero]; exact HZ6.out, HG.out⟩
    case round =>
      obtain ⟨i, rfl, hi, hB5, hB6, hg⟩ := hrel
      by_cases h64 : i < 64
      · have hi64 : (i : Int) < 64 := by omega
        have z5 : ∃ v, wr.cell? ⟨q, i, none⟩ = some v := ⟨_, (hB5.cell i).trans (Array.getElem?_eq_getElem (by rw [kArr_size]; omega))⟩
        have z6 : ∃ v, wr.cell? ⟨q + 1, i, none⟩ = some v := ⟨_, (hB6.cell i).trans (Array.getElem?_eq_getElem (by rw [kArr_size]; omega))⟩
        obtain ⟨v5, z5⟩ := z5
        obtain ⟨v6, z6⟩ := z6
        have f5 := hB5.frozen i
        have f6 := hB6.frozen i
        by_cases hik : i < K.length
        · have hiki : (i : Int) < (K.length : Int) := by omega
          obtain ⟨c, hc⟩ : ∃ c, c = K[i] := ⟨_, rfl⟩
          have hgd : K.getD i 0 = c := by rw [hc]; simp [hik]
          have hci : (bs K)[i]'(by rw [bs_size]; exact hik) = c := by rw [bs_get, hc]
          have e5 := kArr_set 0x36 K i
          have e6 := kArr_set 0x5c K i
          rw [hgd] at e5 e6
          have E5 := sec e5
          have E6 := sec e6
          have HC := sec hc
          have x5 : bits .xor .u8 54 (c.toNat : Int) = ((c ^^^ 0x36).toNat : Int) := x_xor 0x36 c
          have x6 : bits .xor .u8 92 (c.toNat : Int) = ((c ^^^ 0x5c).toNat : Int) := x_xor 0x5c c
          clear e5 e6 hc hgd
          go_wp2_with fail
          refine region_still_tail_w 8 (by kernel_rfl) (by kernel_rfl) ?_
          simp only [List.take_succ_cons, List.take_zero, List.drop_succ_cons, List.drop_zero]
          intro wd hwd
          have D5 : Blk wd q 201 ((kArr 0x36 K i).setIfInBounds i (.int .u8 54)) := by subst hwd; exact ((hB5.set_ i (.int .u8 54)).far (by simp) _).drew
          have D6 : Blk wd (q + 1) 201 ((kArr 0x5c K i).setIfInBounds i (.int .u8 92)) := by subst hwd; exact ((hB6.far (by simp) _).set_ i (.int .u8 92)).drew
          have Dg : Gr w wd := by subst hwd; exact ((hg.setCell (by simp; omega) _).setCell (by simp; omega) _).drew
          clear hwd hB5 hB6 hg z5 z6 f5 f6
          have c5 : wd.cell? ⟨q, i, none⟩ = some (.int .u8 54) := (D5.cell i).trans (Array.getElem?_setIfInBounds_self_of_lt (by rw [kArr_size]; exact h64))
          have f5 := D5.frozen i
          repeat still_step
          refine wpStill_nil ?_
          go_wp2_with fail
          clear c5 f5
          refine region_still_tail_w 8 (by kernel_rfl) (by kernel_rfl) ?_
          simp only [List.take_succ_cons, List.take_zero, List.drop_succ_cons, List.drop_zero]
          intro we hwe
          have F5 : Blk we q 201 (kArr 0x36 K (i + 1)) := by
            subst hwe
            have h5 := (D5.set_ i (.int .u8 ((c ^^^ 0x36).toNat : Int))).drew
            rw [Array.setIfInBounds_setIfInBounds, show (kArr 0x36 K i).setIfInBounds i (.int .u8 ((c ^^^ 0x36).toNat : Int)) = kArr 0x36 K (i + 1) from E5.out] at h5
            exact h5
          have F6 : Blk we (q + 1) 201 ((kArr 0x5c K i).setIfInBounds i (.int .u8 92)) := by subst hwe; exact (D6.far (by simp) _).drew
          have Fg : Gr w we := by subst hwe; exact (Dg.setCell (by simp; omega) _).drew
          clear hwe D5 D6 Dg
          have c6 : we.cell? ⟨q + 1, i, none⟩ = some (.int .u8 92) := (F6.cell i).trans (Array.getElem?_setIfInBounds_self_of_lt (by rw [kArr_size]; exact h64))
          have f6 := F6.frozen i
          repeat still_step
          refine wpStill_nil ?_
          go_wp2_with fail
          go_roundw
          case rel =>
            have h6 := F6.set_ i (.int .u8 ((c ^^^ 0x5c).toNat : Int))
            have e6 : ((kArr 0x5c K i).setIfInBounds i (.int .u8 92)).setIfInBounds i (.int .u8 ((c ^^^ 0x5c).toNat : Int)) = kArr 0x5c K (i + 1) := by
              rw [Array.setIfInBounds_setIfInBounds]; exact E6.out
            rw [e6] at h6
            exact ⟨i + 1, by go_num, by omega, F5.far (by simp) _, h6, Fg.setCell (by simp; omega) _⟩
          case measure => simp [intOf]; omega
        · have hiki : ¬ (i : Int) < (K.length : Int) := by omega
          have hgd : K.getD i 0 = 0 := by simp [List.getD]; rw [List.getElem?_eq_none (by omega)]; rfl
          have e5 := kArr_set 0x36 K i
          have e6 := kArr_set 0x5c K i
          rw [hgd, x_zero] at e5 e6
          have E5 := sec e5
          have E6 := sec e6
          clear e5 e6 hgd
          go_wp2_with fail
          go_roundw
          case rel =>
            have h5 := hB5.set_ i (.int .u8 54)
            have h6 := (hB6.far (p := ⟨q, i, none⟩) (by simp) (.int .u8 54)).set_ i (.int .u8 92)
            rw [show (kArr 0x36 K i).setIfInBounds i (.int .u8 54) = kArr 0x36 K (i + 1) from E5.out] at h5
            rw [show (kArr 0x5c K i).setIfInBounds i (.int .u8 92) = kArr 0x5c K (i + 1) from E6.out] at h6
            exact ⟨i + 1, by go_num, by omega, h5.far (by simp) _, h6, (hg.setCell (by simp; omega) _).setCell (by simp; omega) _⟩
          case measure => simp [intOf]; omega
      · obtain rfl : i = 64 := by omega
        clear h64 hi
        rw [show ((64 : Nat) : Int) = 64 from rfl]
        go_wp2_with fail
        have k5 := kArr_full 0x36 K
        have k6 := kArr_full 0x5c K
        have K5 := sec k5
        have K6 := sec k6
        have hP5 : (xorPad 0x36 K).length = 64 := xorPad_len _ _
        have hP6 : (xorPad 0x5c K).length = 64 := xorPad_len _ _
        obtain ⟨P5, hQ5⟩ : ∃ P, P = xorPad 0x36 K := ⟨_, rfl⟩
        obtain ⟨P6, hQ6⟩ : ∃ P, P = xorPad 0x5c K := ⟨_, rfl⟩
        rw [← hQ5, ← hQ6] at HF
        rw [← hQ5] at K5 hP5
        rw [← hQ6] at K6 hP6
        have HP5 := sec hP5
        have HP6 := sec hP6
        have hl5 : ¬ 9223372036854775807 < P5.length + b.length := by omega
        have hl6 : ¬ 9223372036854775807 < P6.length + (sha (P5 ++ b)).length := by rw [sha_len]; omega
        have HL5 : Sec ((P5 ++ b).length ≤ 576460752303423488) := sec (by rw [List.length_append]; omega)
        have HL6 : Sec ((P6 ++ sha (P5 ++ b)).length ≤ 576460752303423488) := sec (by rw [List.length_append, sha_len]; omega)
        clear k5 k6 hQ5 hQ6 hP5 hP6
        go_region_held3 (fun w' => (convert 140 9 (.slice (some ⟨q, 0, none⟩) 64 64)).run Tryz.prog w' = .ok (.string (bs P5)) w' ∧ (convert 140 9 (.slice (some ⟨q + 1, 0, none⟩) 64 64)).run Tryz.prog w' = .ok (.string (bs P6)) w' ∧ Gr w w')
          (first | with_reducible assumption | exact ⟨conv_arr _ hB5.drew K5.out 64 HP5.out, conv_arr _ hB6.drew K6.out 64 HP6.out, hg.drew⟩ | exact ⟨conv_arr _ hB5 K5.out 64 HP5.out, conv_arr _ hB6 K6.out 64 HP6.out, hg⟩ | exact ⟨conv_arr _ e5 K5.out 64 HP5.out, conv_arr _ e6 K6.out 64 HP6.out, eg⟩ | exact ⟨conv_arr _ i5 K5.out 64 HP5.out, conv_arr _ i6 K6.out 64 HP6.out, ig⟩)
          (first
            | (go_at_call 77; with_reducible refine Calls.mono (sum_any (P5 ++ b) _ (hT.gr hg.drew) HL5.out) ?_; rintro e w3 ⟨rfl, k⟩; have e5 := hB5.drew.gr k; have e6 := hB6.drew.gr k; have eg := hg.drew.trans k; clear k)
            | (go_at_call 77; with_reducible refine Calls.mono (sum_any (P6 ++ sha (P5 ++ b)) _ (hT.gr eg) HL6.out) ?_; rintro e w4 ⟨rfl, k⟩; have i5 := e5.gr k; have i6 := e6.gr k; have ig := eg.trans k; clear k))
        all_goals
          go_wp2_with fail
          go_ret
          exact ⟨by rw [HF.out]; rfl, ig⟩
  · have hlti : ¬ (64 : Int) < (key.length : Int) := by omega
    obtain rfl : K = key := by rw [HK.out]; unfold keyOf; rw [if_neg hlt]
    go_enter Tryz.func126, Tryz.ntmps126
    go_wp2_with fail
    have HZ5 : Sec (Blk ((w.alloc (.cells zero64 201)).alloc (.cells zero64 201)) w.heap.size 201 zero64) := sec ((Blk.new w _ _).alloc _)
    have HZ6 : Sec (Blk ((w.alloc (.cells zero64 201)).alloc (.cells zero64 201)) (w.heap.size + 1) 201 zero64) := sec (Blk.new1 w _ _ _)
    have HG : Sec (Gr w ((w.alloc (.cells zero64 201)).alloc (.cells zero64 201))) := sec (((Gr.refl w).alloc _).alloc _)
    obtain ⟨q, hq⟩ : ∃ q, q = w.heap.size := ⟨_, rfl⟩
    have hwb : w.heap.size ≤ q := by rw [hq]; exact Nat.le_refl _
    rw [← hq] at HZ5 HZ6
    rw [← hq]
    clear hq
    go_loopw [13, 7] (fun iv _ wr => ∃ i : Nat, iv = .int .i64 i ∧ i ≤ 64 ∧ Blk wr q 201 (kArr 0x36 K i) ∧ Blk wr (q + 1) 201 (kArr 0x5c K i) ∧ Gr w wr)
      (fun iv _ _ => 64 - (intOf iv).toNat)
    case atStart => exact ⟨0, rfl, by omega, by rw [kArr_zero]; exact HZ5.out, by rw [kArr_zero]; exact HZ6.out, HG.out⟩
    case round =>
      obtain ⟨i, rfl, hi, hB5, hB6, hg⟩ := hrel
      by_cases h64 : i < 64
      · have hi64 : (i : Int) < 64 := by omega
        have z5 : ∃ v, wr.cell? ⟨q, i, none⟩ = some v := ⟨_, (hB5.cell i).trans (Array.getElem?_eq_getElem (by rw [kArr_size]; omega))⟩
        have z6 : ∃ v, wr.cell? ⟨q + 1, i, none⟩ = some v := ⟨_, (hB6.cell i).trans (Array.getElem?_eq_getElem (by rw [kArr_size]; omega))⟩
        obtain ⟨v5, z5⟩ := z5
        obtain ⟨v6, z6⟩ := z6
        have f5 := hB5.frozen i
        have f6 := hB6.frozen i
        by_cases hik : i < K.length
        · have hiki : (i : Int) < (K.length : Int) := by omega
          obtain ⟨c, hc⟩ : ∃ c, c = K[i] := ⟨_, rfl⟩
          have hgd : K.getD i 0 = c := by rw [hc]; simp [hik]
          have hci : (bs K)[i]'(by rw [bs_size]; exact hik) = c := by rw [bs_get, hc]
          have e5 := kArr_set 0x36 K i
          have e6 := kArr_set 0x5c K i
          rw [hgd] at e5 e6
          have E5 := sec e5
          have E6 := sec e6
          have HC := sec hc
          have x5 : bits .xor .u8 54 (c.toNat : Int) = ((c ^^^ 0x36).toNat : Int) := x_xor 0x36 c
          have x6 : bits .xor .u8 92 (c.toNat : Int) = ((c ^^^ 0x5c).toNat : Int) := x_xor 0x5c c
          clear e5 e6 hc hgd
          go_wp2_with fail
          refine region_still_tail_w 8 (by kernel_rfl) (by kernel_rfl) ?_
          simp only [List.take_succ_cons, List.take_zero, List.drop_succ_cons, List.drop_zero]
          intro wd hwd
          have D5 : Blk wd q 201 ((kArr 0x36 K i).setIfInBounds i (.int .u8 54)) := by subst hwd; exact ((hB5.set_ i (.int .u8 54)).far (by simp) _).drew
          have D6 : Blk wd (q + 1) 201 ((kArr 0x5c K i).setIfInBounds i (.int .u8 92)) := by subst hwd; exact ((hB6.far (by simp) _).set_ i (.int .u8 92)).drew
          have Dg : Gr w wd := by subst hwd; exact ((hg.setCell (by simp; omega) _).setCell (by simp; omega) _).drew
          clear hwd hB5 hB6 hg z5 z6 f5 f6
          have c5 : wd.cell? ⟨q, i, none⟩ = some (.int .u8 54) := (D5.cell i).trans (Array.getElem?_setIfInBounds_self_of_lt (by rw [kArr_size]; exact h64))
          have f5 := D5.frozen i
          repeat still_step
          refine wpStill_nil ?_
          go_wp2_with fail
          clear c5 f5
          refine region_still_tail_w 8 (by kernel_rfl) (by kernel_rfl) ?_
          simp only [List.take_succ_cons, List.take_zero, List.drop_succ_cons, List.drop_zero]
          intro we hwe
          have F5 : Blk we q 201 (kArr 0x36 K (i + 1)) := by
            subst hwe
            have h5 := (D5.set_ i (.int .u8 ((c ^^^ 0x36).toNat : Int))).drew
            rw [Array.setIfInBounds_setIfInBounds, show (kArr 0x36 K i).setIfInBounds i (.int .u8 ((c ^^^ 0x36).toNat : Int)) = kArr 0x36 K (i + 1) from E5.out] at h5
            exact h5
          have F6 : Blk we (q + 1) 201 ((kArr 0x5c K i).setIfInBounds i (.int .u8 92)) := by subst hwe; exact (D6.far (by simp) _).drew
          have Fg : Gr w we := by subst hwe; exact (Dg.setCell (by simp; omega) _).drew
          clear hwe D5 D6 Dg
          have c6 : we.cell? ⟨q + 1, i, none⟩ = some (.int .u8 92) := (F6.cell i).trans (Array.getElem?_setIfInBounds_self_of_lt (by rw [kArr_size]; exact h64))
          have f6 := F6.frozen i
          repeat still_step
          refine wpStill_nil ?_
          go_wp2_with fail
          go_roundw
          case rel =>
            have h6 := F6.set_ i (.int .u8 ((c ^^^ 0x5c).toNat : Int))
            have e6 : ((kArr 0x5c K i).setIfInBounds i (.int .u8 92)).setIfInBounds i (.int .u8 ((c ^^^ 0x5c).toNat : Int)) = kArr 0x5c K (i + 1) := by
              rw [Array.setIfInBounds_setIfInBounds]; exact E6.out
            rw [e6] at h6
            exact ⟨i + 1, by go_num, by omega, F5.far (by simp) _, h6, Fg.setCell (by simp; omega) _⟩
          case measure => simp [intOf]; omega
        · have hiki : ¬ (i : Int) < (K.length : Int) := by omega
          have hgd : K.getD i 0 = 0 := by simp [List.getD]; rw [List.getElem?_eq_none (by omega)]; rfl
          have e5 := kArr_set 0x36 K i
          have e6 := kArr_set 0x5c K i
          rw [hgd, x_zero] at e5 e6
          have E5 := sec e5
          have E6 := sec e6
          clear e5 e6 hgd
          go_wp2_with fail
          go_roundw
          case rel =>
            have h5 := hB5.set_ i (.int .u8 54)
            have h6 := (hB6.far (p := ⟨q, i, none⟩) (by simp) (.int .u8 54)).set_ i (.int .u8 92)
            rw [show (kArr 0x36 K i).setIfInBounds i (.int .u8 54) = kArr 0x36 K (i + 1) from E5.out] at h5
            rw [show (kArr 0x5c K i).setIfInBounds i (.int .u8 92) = kArr 0x5c K (i + 1) from E6.out] at h6
            exact ⟨i + 1, by go_num, by omega, h5.far (by simp) _, h6, (hg.setCell (by simp; omega) _).setCell (by simp; omega) _⟩
          case measure => simp [intOf]; omega
      · obtain rfl : i = 64 := by omega
        clear h64 hi
        rw [show ((64 : Nat) : Int) = 64 from rfl]
        go_wp2_with fail
        have k5 := kArr_full 0x36 K
        have k6 := kArr_full 0x5c K
        have K5 := sec k5
        have K6 := sec k6
        have hP5 : (xorPad 0x36 K).length = 64 := xorPad_len _ _
        have hP6 : (xorPad 0x5c K).length = 64 := xorPad_len _ _
        obtain ⟨P5, hQ5⟩ : ∃ P, P = xorPad 0x36 K := ⟨_, rfl⟩
        obtain ⟨P6, hQ6⟩ : ∃ P, P = xorPad 0x5c K := ⟨_, rfl⟩
        rw [← hQ5, ← hQ6] at HF
        rw [← hQ5] at K5 hP5
        rw [← hQ6] at K6 hP6
        have HP5 := sec hP5
        have HP6 := sec hP6
        have hl5 : ¬ 9223372036854775807 < P5.length + b.length := by omega
        have hl6 : ¬ 9223372036854775807 < P6.length + (sha (P5 ++ b)).length := by rw [sha_len]; omega
        have HL5 : Sec ((P5 ++ b).length ≤ 576460752303423488) := sec (by rw [List.length_append]; omega)
        have HL6 : Sec ((P6 ++ sha (P5 ++ b)).length ≤ 576460752303423488) := sec (by rw [List.length_append, sha_len]; omega)
        clear k5 k6 hQ5 hQ6 hP5 hP6
        go_region_held3 (fun w' => (convert 140 9 (.slice (some ⟨q, 0, none⟩) 64 64)).run Tryz.prog w' = .ok (.string (bs P5)) w' ∧ (convert 140 9 (.slice (some ⟨q + 1, 0, none⟩) 64 64)).run Tryz.prog w' = .ok (.string (bs P6)) w' ∧ Gr w w')
          (first | with_reducible assumption | exact ⟨conv_arr _ hB5.drew K5.out 64 HP5.out, conv_arr _ hB6.drew K6.out 64 HP6.out, hg.drew⟩ | exact ⟨conv_arr _ hB5 K5.out 64 HP5.out, conv_arr _ hB6 K6.out 64 HP6.out, hg⟩ | exact ⟨conv_arr _ e5 K5.out 64 HP5.out, conv_arr _ e6 K6.out 64 HP6.out, eg⟩ | exact ⟨conv_arr _ i5 K5.out 64 HP5.out, conv_arr _ i6 K6.out 64 HP6.out, ig⟩)
          (first
            | (go_at_call 77; with_reducible refine Calls.mono (sum_any (P5 ++ b) _ (hT.gr hg.drew) HL5.out) ?_; rintro e w3 ⟨rfl, k⟩; have e5 := hB5.drew.gr k; have e6 := hB6.drew.gr k; have eg := hg.drew.trans k; clear k)
            | (go_at_call 77; with_reducible refine Calls.mono (sum_any (P6 ++ sha (P5 ++ b)) _ (hT.gr eg) HL6.out) ?_; rintro e w4 ⟨rfl, k⟩; have i5 := e5.gr k; have i6 := e6.gr k; have ig := eg.trans k; clear k))
        all_goals
          go_wp2_with fail
          go_ret
          exact ⟨by rw [HF.out]; rfl, ig⟩
end Go.Proofs.YtoamnifnfkgbiaaGreatDoor

namespace Go.Proofs.YtoamnifnfkgbiaaGreatDoor
open Go.RowKit
set_option linter.unusedVariables false
theorem BRow.set {w : World} {B g cap : Nat} {l : List UInt8} (h : BRow w B g cap l) (i : Nat) (hi : i < l.length) (c : UInt8) : BRow (w.setCell ⟨g, i, none⟩ (byteV c)) B g cap (l.set i c) := by
  refine ⟨h.base, by simpa using h.lt, by simpa using h.le, h.max, fun j hj => ⟨?_, by rw [World.frozen?_setCell]; exact (h.there j hj).2⟩, fun j u hu => ?_⟩
  · by_cases e : i = j
    · subst e
      obtain ⟨u, hu⟩ := Option.isSome_iff_exists.1 (h.there i hj).1
      rw [World.cell?_setCell_same w _ _ hu]; rfl
    · rw [World.cell?_setCell_other w _ _ _ (by intro e'; injection e' with _ e2 _; exact e e2)]
      exact (h.there j hj).1
  · by_cases e : i = j
    · subst e
      have : i < cap := Nat.lt_of_lt_of_le hi h.le
      obtain ⟨v, hv⟩ := Option.isSome_iff_exists.1 (h.there i this).1
      rw [World.cell?_setCell_same w _ _ hv]
      rw [← hu]
      simp [hi]
    · rw [World.cell?_setCell_other w _ _ _ (by intro e'; injection e' with _ e2 _; exact e e2)]
      refine h.at_ j u ?_
      rw [← hu]
      simp [e]

/-- the first i bytes turned -/
def mixL (x : UInt8) (K : List UInt8) (i : Nat) : List UInt8 := (K.take i).map (· ^^^ x) ++ K.drop i
theorem mixL_len (x : UInt8) (K : List UInt8) (i : Nat) : (mixL x K i).length = K.length := by
  unfold mixL
  rw [List.length_append, List.length_map, List.length_take, List.length_drop]
  omega
theorem mixL_set (x : UInt8) (K : List UInt8) (i : Nat) (hi : i < K.length) : (mixL x K i).set i (K[i] ^^^ x) = mixL x K (i + 1) := by
  unfold mixL
  have hl : ((K.take i).map (· ^^^ x)).length = i := by rw [List.length_map, List.length_take]; omega
  rw [List.set_append_right _ _ (by omega), hl, Nat.sub_self, List.drop_eq_getElem_cons hi, List.take_succ_eq_append_getElem hi, List.map_append]
  simp only [List.set_cons_zero, List.map_cons, List.map_nil, List.append_assoc, List.cons_append, List.nil_append]
theorem mixL_at (x : UInt8) (K : List UInt8) (i : Nat) (hi : i < K.length) : (mixL x K i)[i]'(by rw [mixL_len]; exact hi) = K[i] := by
  unfold mixL
  have hl : ((K.take i).map (· ^^^ x)).length = i := by rw [List.length_map, List.length_take]; omega
  rw [List.getElem_append_right (by omega)]
  simp only [hl, Nat.sub_self, List.getElem_drop, Nat.add_zero]

set_option maxRecDepth 100000 in
set_option maxHeartbeats 1000000 in
theorem seal1_any (x : UInt8) (q : Nat) (K : List UInt8) (w : World) (hc : w.cell? ⟨q, 0, none⟩ = some (.string (bs K))) (hK : K.length ≤ 4611686018427387904) :
    Calls Tryz.prog 183 #[.int .u8 (x.toNat : Int), .pointer (some ⟨q, 0, none⟩)] w fun e w' => e = .returned (.string (bs (K.map (· ^^^ x)))) ∧ Gr w w' := by
  obtain ⟨w2, cap, hcv, hg2, hB⟩ := conv_brow Tryz.underlying9 Tryz.underlying140 Tryz.underlying5 w K (by unfold maxLen; omega)
  have hM : mixL x K 0 = K := rfl
  go_enter Tryz.func183, Tryz.ntmps183
  go_wp2_with fail
  go_loopw [10, 5] (fun iv _ wr => ∃ i : Nat, iv = .int .i64 (i : Int) ∧ i ≤ K.length ∧ BRow wr w.heap.size w.heap.size cap (mixL x K i) ∧ Gr w wr)
    (fun iv _ _ => K.length - (intOf iv).toNat)
  case atStart => exact ⟨0, rfl, by omega, by rw [hM]; exact hB, hg2⟩
  case round =>
    clear hM hcv hB hg2 hc
    obtain ⟨i, rfl, hi, hB, hg⟩ := hrel
    have hl := mixL_len x K i
    by_cases hlt : i < K.length
    · have hli : (i : Int) < (K.length : Int) := by omega
      have hcl := hB.at_ i (byteV K[i]) (by rw [List.getElem?_map, List.getElem?_eq_getElem (by omega), mixL_at x K i hlt]; rfl)
      have hf := (hB.there i (by have := hB.le; omega)).2
      obtain ⟨c, hcc⟩ : ∃ c, c = K[i] := ⟨_, rfl⟩
      have hset := mixL_set x K i hlt
      rw [← hcc] at hset hcl
      have HS := sec hset
      unfold byteV at hcl
      have HL := sec (show i < (mixL x K i).length by omega)
      have hx : bits .xor .u8 (c.toNat : Int) (x.toNat : Int) = ((c ^^^ x).toNat : Int) := by
        have h1 := c.toNat_lt
        have h2 := x.toNat_lt
        rw [u8_xor_nat c.toNat x.toNat (by omega) (by omega), UInt8.toNat_xor]
      clear hset hcc hl
      go_wp2_with fail
      go_roundw
      case rel =>
        refine ⟨i + 1, by go_num, by omega, ?_, hg.setCell (by simp) _⟩
        rw [← HS.out]
        exact hB.set i HL.out (c ^^^ x)
      case measure => simp [intOf]; omega
    · obtain rfl : i = K.length := by omega
      have he : mixL x K K.length = K.map (· ^^^ x) := by unfold mixL; simp
      have hcv := hB.conv Tryz.underlying140 Tryz.underlying5 Tryz.underlying9
      rw [hl, he] at hcv
      clear hl he hlt hi
      go_wp2_with fail
      go_ret
      exact ⟨rfl, hg⟩

def padK (K : List UInt8) : List UInt8 := K ++ List.replicate (64 - K.length) 0
theorem padK_xor (x : UInt8) (K : List UInt8) (h : K.length ≤ 64) : (padK K).map (· ^^^ x) = xorPad x K := by
  apply List.ext_getElem
  · rw [xorPad_len]; unfold padK; simp; omega
  · intro i h1 h2
    unfold padK xorPad at *
    simp only [List.getElem_map, List.getElem_range]
    by_cases e : i < K.length
    · rw [List.getElem_append_left e]; simp [e]
    · rw [List.getElem_append_right (by omega)]
      simp only [List.getElem_replicate]
      have : K.getD i 0 = 0 := by simp [List.getD]; rw [List.getElem?_eq_none (by omega)]; rfl
      rw [this]

set_option maxRecDepth 100000 in
set_option maxHeartbeats 1000000 in
theorem rseal_any (key b : List UInt8) (w : World) (hk : key.length ≤ 288230376151711744) (hb : b.length ≤ 288230376151711744) :
    Calls Tryz.prog 140 #[.string (bs key), .string (bs b)] w fun e w' => e = .returned (.string (bs (seal' key b))) ∧ Gr w w' := by
  obtain ⟨K, hK⟩ : ∃ K, K = keyOf key := ⟨_, rfl⟩
  have hKl : K.length ≤ 64 := by rw [hK]; exact keyOf_len key
  have HF : Sec (seal' key b = sha (xorPad 0x5c K ++ sha (xorPad 0x36 K ++ b))) := sec (by rw [hK]; rfl)
  have HK := sec hK
  have hmf : ∀ (fn : Fn) (first cap : Array Value) (w : World), (Instr.makeFunc fn first cap).run Tryz.prog w = .ok (.func fn first cap) w := fun _ _ _ _ => rfl
  clear hK
  have K5 := sec (padK_xor 0x5c K hKl)
  have K6 := sec (padK_xor 0x36 K hKl)
  have c5 : ∀ (q : Nat) (w : World), w.cell? ⟨q, 0, none⟩ = some (.string (bs (padK K))) → Calls Tryz.prog 183 #[.int .u8 92, .pointer (some ⟨q, 0, none⟩)] w fun e w' => e = .returned (.string (bs (xorPad 0x5c K))) ∧ Gr w w' := by
    intro q w hc
    rw [← K5.out]
    exact seal1_any 0x5c q (padK K) w hc (by unfold padK; simp; omega)
  have c6 : ∀ (q : Nat) (w : World), w.cell? ⟨q, 0, none⟩ = some (.string (bs (padK K))) → Calls Tryz.prog 183 #[.int .u8 54, .pointer (some ⟨q, 0, none⟩)] w fun e w' => e = .returned (.string (bs (xorPad 0x36 K))) ∧ Gr w w' := by
    intro q w hc
    rw [← K6.out]
    exact seal1_any 0x36 q (padK K) w hc (by unfold padK; simp; omega)
  have C5 := sec c5
  have C6 := sec c6
  clear c5 c6
  by_cases hlt : 64 < key.length
  · have HS : Sec (sha key = K) := sec (by rw [HK.out]; unfold keyOf; rw [if_pos hlt])
    have hlti : (64 : Int) < (key.length : Int) := by omega
    go_enter Tryz.func140, Tryz.ntmps140
    go_wp2_with (go_at_call 57; refine (rsum_any key _ (by omega)).mono ?_; rw [HS.out]; rintro e w1 ⟨rfl, g1⟩; have hb1 := (Blk.new w 9 #[Value.string (bs key)]).gr g1; have hc1 := hb1.cell 0; have hf1 := hb1.frozen 0)
    obtain ⟨q, hq⟩ : ∃ q, q = w.heap.size := ⟨_, rfl⟩
    have hqs : w.heap.size ≤ q := by rw [hq]; exact Nat.le_refl _
    have HB : Sec (Blk (w1.setCell ⟨q, 0, none⟩ (.string (bs K))) q 9 #[.string (bs K)]) := sec (by
      rw [hq]
      exact hb1.set_ 0 (.string (bs K)))
    have HG : Sec (Gr w (w1.setCell ⟨q, 0, none⟩ (.string (bs K)))) := sec ((Gr.trans ((Gr.refl w).alloc _) g1).setCell (by simpa using hqs) _)
    clear hb1 hc1 hf1 g1
    rw [← hq]
    clear hq
    go_loopw [] (fun wr => ∃ j : Nat, j ≤ 64 - K.length ∧ Blk wr q 9 #[.string (bs (K ++ List.replicate j 0))] ∧ Gr w wr)
      (fun wr => 64 - lenOf ((wr.cell? ⟨q, 0, none⟩).getD (.int .i64 0)))
    case atStart => exact ⟨0, by omega, by rw [List.replicate_zero, List.append_nil]; exact HB.out, HG.out⟩
    case round =>
      obtain ⟨j, hj, hB, hg⟩ := hrel
      have hc := hB.cell 0
      have hf := hB.frozen 0
      have hll : (K ++ List.replicate j (0 : UInt8)).length = K.length + j := by simp
      by_cases hjl : j < 64 - K.length
      · obtain ⟨L, hL⟩ : ∃ L, L = K ++ List.replicate j (0 : UInt8) := ⟨_, rfl⟩
        rw [← hL] at hc hB hll
        have hlt : (L.length : Int) < 64 := by omega
        have h63 : ¬ 9223372036854775807 < L.length + 1 := by omega
        have HL := sec hL
        have HJ := sec hjl
        simp at hc
        clear hL hjl hj hll
        go_wp2_with fail
        go_roundw
        case rel => exact ⟨j + 1, by have := HJ.out; omega, by rw [List.replicate_succ', ← List.append_assoc, ← HL.out]; exact hB.set_ 0 _, hg.setCell (by simpa using hqs) _⟩
        case measure =>
          have h2 := (hB.set_ 0 (.string (bs (L ++ [0])))).cell 0
          simp [h2, hc, lenOf, bs_size]
          omega
      · obtain rfl : j = 64 - K.length := by omega
        have hlt : ¬ ((K ++ List.replicate (64 - K.length) (0 : UInt8)).length : Int) < 64 := by omega
        have HP : K ++ List.replicate (64 - K.length) (0 : UInt8) = padK K := rfl
        rw [HP] at hc hB hlt
        simp at hc
        clear hll hj hjl HP
        have hP5 : (xorPad 0x5c K).length = 64 := xorPad_len _ _
        have hP6 : (xorPad 0x36 K).length = 64 := xorPad_len _ _
        obtain ⟨P5, hQ5⟩ : ∃ P, P = xorPad 0x5c K := ⟨_, rfl⟩
        obtain ⟨P6, hQ6⟩ : ∃ P, P = xorPad 0x36 K := ⟨_, rfl⟩
        rw [← hQ5, ← hQ6] at HF
        rw [← hQ5] at hP5 C5
        rw [← hQ6] at hP6 C6
        have hl6 : ¬ 9223372036854775807 < P6.length + b.length := by omega
        have hl5 : ¬ 9223372036854775807 < P5.length + (sha (P6 ++ b)).length := by rw [sha_len]; omega
        have HL6 : Sec ((P6 ++ b).length ≤ 576460752303423488) := sec (by rw [List.length_append]; omega)
        have HL5 : Sec ((P5 ++ sha (P6 ++ b)).length ≤ 576460752303423488) := sec (by rw [List.length_append, sha_len]; omega)
        clear hQ5 hQ6 hP5 hP6
        go_wp2_with (first
          | (go_at_call 183; with_reducible refine Calls.mono (C5.out q _ hc) ?_; rintro e w3 ⟨rfl, g3⟩; have c3 := (hB.gr g3).cell 0; simp at c3; have gg3 := hg.trans g3)
          | (go_at_call 183; with_reducible refine Calls.mono (C6.out q _ c3) ?_; rintro e w4 ⟨rfl, g4⟩; have gg4 := gg3.trans g4)
          | (go_at_call 57; with_reducible refine Calls.mono (rsum_any (P6 ++ b) _ HL6.out) ?_; rintro e w5 ⟨rfl, g5⟩; have gg5 := gg4.trans g5)
          | (go_at_call 57; with_reducible refine Calls.mono (rsum_any (P5 ++ sha (P6 ++ b)) _ HL5.out) ?_; rintro e w6 ⟨rfl, g6⟩; have gg6 := gg5.trans g6))
        go_ret
        exact ⟨by rw [HF.out]; rfl, gg6⟩
  · have hlti : ¬ (64 : Int) < (key.length : Int) := by omega
    obtain rfl : K = key := by rw [HK.out]; unfold keyOf; rw [if_neg hlt]
    go_enter Tryz.func140, Tryz.ntmps140
    go_wp2_with fail
    obtain ⟨q, hq⟩ : ∃ q, q = w.heap.size := ⟨_, rfl⟩
    have hqs : w.heap.size ≤ q := by rw [hq]; exact Nat.le_refl _
    have HB : Sec (Blk (w.alloc (.cells #[.string (bs K)] 9)) q 9 #[.string (bs K)]) := sec (by
      rw [hq]
      exact Blk.new w _ _)
    have HG : Sec (Gr w (w.alloc (.cells #[.string (bs K)] 9))) := sec ((Gr.refl w).alloc _)
    rw [← hq]
    clear hq
    go_loopw [] (fun wr => ∃ j : Nat, j ≤ 64 - K.length ∧ Blk wr q 9 #[.string (bs (K ++ List.replicate j 0))] ∧ Gr w wr)
      (fun wr => 64 - lenOf ((wr.cell? ⟨q, 0, none⟩).getD (.int .i64 0)))
    case atStart => exact ⟨0, by omega, by rw [List.replicate_zero, List.append_nil]; exact HB.out, HG.out⟩
    case round =>
      obtain ⟨j, hj, hB, hg⟩ := hrel
      have hc := hB.cell 0
      have hf := hB.frozen 0
      have hll : (K ++ List.replicate j (0 : UInt8)).length = K.length + j := by simp
      by_cases hjl : j < 64 - K.length
      · obtain ⟨L, hL⟩ : ∃ L, L = K ++ List.replicate j (0 : UInt8) := ⟨_, rfl⟩
        rw [← hL] at hc hB hll
        have hlt : (L.length : Int) < 64 := by omega
        have h63 : ¬ 9223372036854775807 < L.length + 1 := by omega
        have HL := sec hL
        have HJ := sec hjl
        simp at hc
        clear hL hjl hj hll
        go_wp2_with fail
        go_roundw
        case rel => exact ⟨j + 1, by have := HJ.out; omega, by rw [List.replicate_succ', ← List.append_assoc, ← HL.out]; exact hB.set_ 0 _, hg.setCell (by simpa using hqs) _⟩
        case measure =>
          have h2 := (hB.set_ 0 (.string (bs (L ++ [0])))).cell 0
          simp [h2, hc, lenOf, bs_size]
          omega
      · obtain rfl : j = 64 - K.length := by omega
        have hlt : ¬ ((K ++ List.replicate (64 - K.length) (0 : UInt8)).length : Int) < 64 := by omega
        have HP : K ++ List.replicate (64 - K.length) (0 : UInt8) = padK K := rfl
        rw [HP] at hc hB hlt
        simp at hc
        clear hll hj hjl HP
        have hP5 : (xorPad 0x5c K).length = 64 := xorPad_len _ _
        have hP6 : (xorPad 0x36 K).length = 64 := xorPad_len _ _
        obtain ⟨P5, hQ5⟩ : ∃ P, P = xorPad 0x5c K := ⟨_, rfl⟩
        obtain ⟨P6, hQ6⟩ : ∃ P, P = xorPad 0x36 K := ⟨_, rfl⟩
        rw [← hQ5, ← hQ6] at HF
        rw [← hQ5] at hP5 C5
        rw [← hQ6] at hP6 C6
        have hl6 : ¬ 9223372036854775807 < P6.length + b.length := by omega
        have hl5 : ¬ 9223372036854775807 < P5.length + (sha (P6 ++ b)).length := by rw [sha_len]; omega
        have HL6 : Sec ((P6 ++ b).length ≤ 576460752303423488) := sec (by rw [List.length_append]; omega)
        have HL5 : Sec ((P5 ++ sha (P6 ++ b)).length ≤ 576460752303423488) := sec (by rw [List.length_append, sha_len]; omega)
        clear hQ5 hQ6 hP5 hP6
        go_wp2_with (first
          | (go_at_call 183; with_reducible refine Calls.mono (C5.out q _ hc) ?_; rintro e w3 ⟨rfl, g3⟩; have c3 := (hB.gr g3).cell 0; simp at c3; have gg3 := hg.trans g3)
          | (go_at_call 183; with_reducible refine Calls.mono (C6.out q _ c3) ?_; rintro e w4 ⟨rfl, g4⟩; have gg4 := gg3.trans g4)
          | (go_at_call 57; with_reducible refine Calls.mono (rsum_any (P6 ++ b) _ HL6.out) ?_; rintro e w5 ⟨rfl, g5⟩; have gg5 := gg4.trans g5)
          | (go_at_call 57; with_reducible refine Calls.mono (rsum_any (P5 ++ sha (P6 ++ b)) _ HL5.out) ?_; rintro e w6 ⟨rfl, g6⟩; have gg6 := gg5.trans g6))
        go_ret
        exact ⟨by rw [HF.out]; rfl, gg6⟩
end Go.Proofs.YtoamnifnfkgbiaaGreatDoor

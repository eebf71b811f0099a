/-
  StepEncodesP: contracts and plain laws joined (4 texts). No conditions but those that each states.
-/
import Derived.Test.YtkgmimmneeppgaaDoorStepBase
import Derived.Deep.RegionHeld3
import Derived.Test.YtkgmimmneeppgaaDoorStepS
namespace Go.Proofs.YtkgmimmneeppgaaDoor
set_option maxRecDepth 100000
open Go.RowKit
set_option linter.unusedVariables false

/-- the three texts, and how many seal -/
def encP (s : Stp) : List UInt8 := txt s.r ++ txt s.o ++ txt s.n ++ numS s.who.length
/-- what a writer holds behind i of those who seal -/
def encT (s : Stp) (i : Nat) : St2 := (encP s ++ whoS (s.who.take i) (s.seals.take i), 0)
theorem encT_len {s : Stp} (h : stE s = 0) (i : Nat) : (encT s i).1.length ≤ 2048 := by
  obtain ⟨_, h1, h2, h3, h4, h5, h6, _, _⟩ := stE_zero h
  have a := txt_len s.r (by omega)
  have b := txt_len s.o (by omega)
  have c := txt_len s.n (by omega)
  have d := whoS_len (s.who.take i) (s.seals.take i) 32 (fun x hx => by rw [h6 x (List.mem_of_mem_take hx)]; omega)
  have e : (numS s.who.length).length ≤ 9 := by rw [numS_nat (by omega)]; exact num_len9 (by omega)
  have f : (s.who.take i).length * (32 + 9) ≤ 8 * (32 + 9) := Nat.mul_le_mul_right _ (by rw [List.length_take]; omega)
  unfold encT encP
  simp only [List.length_append]
  omega
theorem encT_zero (s : Stp) : encT s 0 = (encP s, 0) := by unfold encT; simp [whoS]
theorem encT_succ {s : Stp} (i : Nat) (hi : i < s.who.length) (hs : i < s.seals.length) : encT s (i + 1) = ((encT s i).1 ++ numS s.who[i] ++ s.seals[i], 0) := by
  unfold encT
  rw [whoS_take _ _ i hi hs]
  simp only [List.append_assoc]
theorem encT_end {s : Stp} (h : stE s = 0) : encR s = ((encT s s.who.length).1, 0) := by
  obtain ⟨_, _, _, _, _, h5, _, _, _⟩ := stE_zero h
  unfold encR
  rw [if_pos h]
  unfold encT encP
  rw [List.take_length, List.take_of_length_le (by omega)]
theorem tri_good {s : Stp} (h : stE s = 0) : tri s ([], 0) = (txt s.r ++ txt s.o ++ txt s.n, 0) := by
  obtain ⟨_, h1, h2, h3, _⟩ := stE_zero h
  have yes : ∀ (l t : List UInt8), t.length ≤ 4096 → wTxt t (l, 0) = (l ++ txt t, 0) := fun l t h => by unfold wTxt; rw [if_pos rfl, if_pos h]
  unfold tri
  rw [yes _ _ (by omega), yes _ _ (by omega), yes _ _ (by omega)]
  simp

set_option maxHeartbeats 8000000 in
theorem stEncode_any (s : Stp) (A : Option Addr) (c : Nat) (B : Option Addr) (d : Nat) (w : World) (hR : StR w s A c B d) (hz : StSz 1099511627776 s) :
    Calls Tryd.prog 20 #[.agg (stepA s A c B d)] w fun e w' => e = .returned (.tuple #[.string (bs (encR s).1), .int .i64 (encR s).2]) ∧ Gr w w' := by
  obtain ⟨wa, hwa⟩ : ∃ x, x = w.alloc (.cells (stepA s A c B d) 46) := ⟨_, rfl⟩
  have hb : Blk wa w.heap.size 46 (stepA s A c B d) := by rw [hwa]; exact Blk.new w _ _
  have hg0 : Gr w wa := by rw [hwa]; exact (Gr.refl w).alloc _
  obtain ⟨p, hp⟩ : ∃ p, p = w.heap.size := ⟨_, rfl⟩
  rw [← hp] at hb
  have HGo : Sec (Calls Tryd.prog 25 #[.agg (stepA s A c B d)] wa fun e w' => e = .returned (.int .i64 (stE s)) ∧ Gr wa w') := sec (stGood_any s A c B d wa (hR.gr hg0) hz)
  have HB := sec hb
  have HCELL : Sec (∀ w', Gr wa w' → w'.cell? ⟨p, 0, none⟩ = some (.string (bs s.r)) ∧ w'.cell? ⟨p, 1, none⟩ = some (.string (bs s.o)) ∧ w'.cell? ⟨p, 2, none⟩ = some (.string (bs s.n)) ∧ w'.cell? ⟨p, 3, none⟩ = some (.slice A s.who.length c) ∧ w'.cell? ⟨p, 4, none⟩ = some (.slice B s.seals.length d)) := sec (fun w' g => ⟨(hb.gr g).cell 0, (hb.gr g).cell 1, (hb.gr g).cell 2, (hb.gr g).cell 3, (hb.gr g).cell 4⟩)
  obtain ⟨c0, c1, c2, c3, c4⟩ := HCELL.out wa (Gr.refl _)
  by_cases hE : stE s = 0
  · obtain ⟨_, z1, z2, z3, z4, z5, z6, z7, _⟩ := stE_zero hE
    have HEND := sec (encT_end hE)
    have HLEN := sec (encT_len hE)
    have HSUC := sec (encT_succ (s := s))
    have HZER := sec (encT_zero s)
    rw [hE] at HGo
    have HTL := sec (triAt_len s ([], 0))
    have HTS := sec (triAt_succ s ([], 0))
    have HTR : Sec (triAt s ([], 0) 3 = (txt s.r ++ txt s.o ++ txt s.n, 0)) := sec (tri_good hE)
    have HTx : Sec (∀ B g w i, i < 3 → WrAt w B g (triAt s ([], 0) i) → Calls Tryd.prog 43 #[.pointer (some ⟨g, 0, none⟩), .string (bs (triX s i))] w fun e w' => e = .returned (.tuple #[]) ∧ WrAt w' B g (triAt s ([], 0) (i + 1)) ∧ Below B w w' ∧ KeepT g w w') := sec (fun B g w i hi h => by
      have := wrText B g _ (triX s i) w h (by have := HTL.out i; simp only [List.length_nil] at this; omega)
      rwa [← HTS.out i hi] at this)
    have HNu : Sec (∀ B g w, WrAt w B g (triAt s ([], 0) 3) → Calls Tryd.prog 44 #[.pointer (some ⟨g, 0, none⟩), .int .i64 (s.who.length : Int)] w fun e w' => e = .returned (.tuple #[]) ∧ WrAt w' B g (encT s 0) ∧ Below B w w' ∧ KeepT g w w') := sec (fun B g w h => by
      have := wrNumber B g _ (s.who.length : Int) w h (by have := HTL.out 3; simp only [List.length_nil] at this; omega)
      rw [HTR.out] at this
      have e : wNum (s.who.length : Int) (txt s.r ++ txt s.o ++ txt s.n, 0) = encT s 0 := by
        rw [HZER.out]; unfold wNum encP; rw [if_pos rfl, if_pos ⟨by omega, by omega⟩]
      rwa [e] at this)
    have HN2 : Sec (∀ B g w i (hi : i < s.who.length), WrAt w B g (encT s i) → Calls Tryd.prog 44 #[.pointer (some ⟨g, 0, none⟩), .int .i64 s.who[i]] w fun e w' => e = .returned (.tuple #[]) ∧ WrAt w' B g ((encT s i).1 ++ numS s.who[i], 0) ∧ Below B w w' ∧ KeepT g w w') := sec (fun B g w i hi h => by
      have hw := z7 _ (List.getElem_mem hi)
      have := wrNumber B g _ s.who[i] w h (by have := HLEN.out i; omega)
      have e : wNum s.who[i] (encT s i) = ((encT s i).1 ++ numS s.who[i], 0) := by
        unfold wNum; rw [if_pos (show (encT s i).2 = 0 from rfl), if_pos ⟨by omega, by omega⟩]
      rwa [e] at this)
    have HB2 : Sec (∀ B g w i (hi : i < s.who.length) (hs : i < s.seals.length), WrAt w B g ((encT s i).1 ++ numS s.who[i], 0) → Calls Tryd.prog 45 #[.pointer (some ⟨g, 0, none⟩), .string (bs s.seals[i])] w fun e w' => e = .returned (.tuple #[]) ∧ WrAt w' B g (encT s (i + 1)) ∧ Below B w w' ∧ KeepT g w w') := sec (fun B g w i hi hs h => by
      have hw := z7 _ (List.getElem_mem hi)
      have hn : (numS s.who[i]).length ≤ 9 := by rw [numS_in (by omega) (by omega)]; exact num_len9 (by omega)
      have hs2 := z6 _ (List.getElem_mem hs)
      have := wrBytes B g _ s.seals[i] w h (by simp only [List.length_append]; have := HLEN.out i; omega)
      rw [HSUC.out i hi hs]
      exact this)
    have HDn : Sec (∀ B g w, WrAt w B g (encT s s.who.length) → Calls Tryd.prog 46 #[.pointer (some ⟨g, 0, none⟩)] w fun e w' => e = .returned (.tuple #[.string (bs (encR s).1), .int .i64 (encR s).2]) ∧ Gr w w') := sec (fun B g w h => by
      have := wrDone B g _ w h
      rw [HEND.out]
      exact this)
    have HW0 : Sec (∀ w1 : World, WrAt (w1.alloc (.cells #[.slice none 0 0, .int .i64 0] 71)) w1.heap.size w1.heap.size (triAt s ([], 0) 0)) := sec (fun w1 => ⟨⟨none, 0, Blk.new w1 _ _, World.ownsRow_nil _ _ _ _⟩, Nat.le_refl _, by simp [triAt]⟩)
    have HW := sec (hR.who.gr hg0)
    have HS := sec (hR.seals.gr hg0)
    have HSL := sec z5
    have hwl : s.who.length ≤ 8 := z4
    obtain ⟨E, hEE⟩ : ∃ E, E = encR s := ⟨_, rfl⟩
    rw [← hEE] at HDn
    rw [← hEE]
    obtain ⟨T, hT⟩ : ∃ T, T = triAt s ([], 0) := ⟨_, rfl⟩
    rw [← hT] at HTx HNu HW0
    obtain ⟨U, hU⟩ : ∃ U, U = encT s := ⟨_, rfl⟩
    rw [← hU] at HNu HN2 HB2 HDn
    clear hb hEE hT hU hE hz hR HEND HLEN HSUC HZER HTL HTS HTR z1 z2 z3 z4 z5 z6 z7
    unfold stepA at hwa HGo
    unfold stepA
    go_enter Tryd.func20, Tryd.ntmps20
    go_upto_region 1 with fail
    rw [← hwa, ← hp]
    clear hwa hp
    go_wp2_with (go_at_call 25; refine Calls.mono HGo.out ?_; rintro e w1 ⟨rfl, g1⟩; obtain ⟨d0, d1, d2, d3, d4⟩ := HCELL.out _ (g1.alloc (.cells #[.slice none 0 0, .int .i64 0] 71)))
    have hv := Blk.new (w1.alloc (.cells #[.slice none 0 0, .int .i64 0] 71)) 9 #[.string (bs s.r), .string (bs s.o), .string (bs s.n)]
    rw [World.size_alloc] at hv
    have dv := (HW0.out w1).gr ((Gr.refl _).alloc (.cells #[.string (bs s.r), .string (bs s.o), .string (bs s.n)] 9))
    have gv := (g1.alloc (.cells #[.slice none 0 0, .int .i64 0] 71)).alloc (.cells #[.string (bs s.r), .string (bs s.o), .string (bs s.n)] 9)
    obtain ⟨wb, hwb⟩ : ∃ x, x = (w1.alloc (.cells #[.slice none 0 0, .int .i64 0] 71)).alloc (.cells #[.string (bs s.r), .string (bs s.o), .string (bs s.n)] 9) := ⟨_, rfl⟩
    obtain ⟨g, hgg⟩ : ∃ g, g = w1.heap.size := ⟨_, rfl⟩
    have hgle : wa.heap.size ≤ g := by have := g1.size; omega
    rw [← hwb] at hv dv gv
    rw [← hgg] at hv dv
    rw [← hwb, ← hgg]
    clear hwb hgg d0 d1 d2 d3 d4
    go_loopg [25, 7] 3 (fun fuel iv _ wr => ∃ i : Nat, iv = .int .i64 (i : Int) ∧ 3 ≤ i + fuel ∧ i ≤ 3 ∧ WrAt wr g g (T i) ∧ Blk wr (g + 1) 9 #[.string (bs s.r), .string (bs s.o), .string (bs s.n)] ∧ Gr wa wr)
    case atStart => exact ⟨0, rfl, by omega, by omega, dv, hv, gv⟩
    case round =>
      clear hv dv gv
      obtain ⟨i, rfl, hik, hi, dw, bw, gw⟩ := hrel
      by_cases h3 : i < 3
      · have hTi := HTx.out g g wr i h3 dw
        have hc : wr.cell? ⟨g + 1, i, none⟩ = some (.string (bs (triX s i))) := by
          match i, h3 with
          | 0, _ => exact bw.cell 0
          | 1, _ => exact bw.cell 1
          | 2, _ => exact bw.cell 2
        have HTi := sec hTi
        have hii : (i : Int) < 3 := by omega
        have H3 := sec h3
        clear hTi h3
        go_wp2_with (go_at_call 43; refine Calls.mono HTi.out ?_; rintro e w3 ⟨rfl, d3, k3, kt3⟩)
        go_roundg (gk - 1)
        case rel => exact ⟨i + 1, by go_num, by omega, by have := H3.out; omega, d3, kt3 (g + 1) _ _ (by omega) (by decide) bw, Below.trans gw (Below.mono k3 hgle)⟩
        case measure => have := H3.out; omega
      · obtain rfl : i = 3 := by omega
        clear h3 hik
        obtain ⟨c0, c1, c2, c3, c4⟩ := HCELL.out wr gw
        go_wp2_with (go_at_call 44; refine Calls.mono (HNu.out _ _ _ dw) ?_; rintro e w3 ⟨rfl, d3, k3, _⟩; have g3 : Gr wa w3 := Below.trans gw (Below.mono k3 hgle); obtain ⟨y0, y1, y2, y3, y4⟩ := HCELL.out w3 g3)
        clear dw bw
        go_loopg [41, 8, 9] s.who.length (fun fuel iv _ _ wr => ∃ i : Nat, iv = .int .i64 (i : Int) ∧ s.who.length ≤ i + fuel ∧ i ≤ s.who.length ∧ WrAt wr g g (U i) ∧ Gr wa wr)
        case atStart => exact ⟨0, rfl, by omega, by omega, d3, g3⟩
        case round =>
          clear d3 g3 k3
          obtain ⟨i, rfl, hik, hi, dw, gw⟩ := hrel
          by_cases hlt : i < s.who.length
          · have hss : i < s.seals.length := by have := HSL.out; omega
            have hii : (i : Int) < (s.who.length : Int) := by omega
            have hjj : (i : Int) < (s.seals.length : Int) := by omega
            have H4 := HN2.out g g wr i hlt dw
            have H5 := sec (fun w h => HB2.out g g w i hlt hss h)
            obtain ⟨b, off, hA, e0⟩ := (HW.out.gr gw).cell hlt
            obtain ⟨b2, off2, hB, x0⟩ := (HS.out.gr gw).cell hss
            have HX0 : Sec (∀ W, Gr wa W → W.cell? ⟨p, 4, none⟩ = some (.slice (some ⟨b2, off2, none⟩) s.seals.length d) ∧ W.cell? ⟨b2, off2 + i, none⟩ = some (.string (bs s.seals[i]))) := sec (fun W g => by
              refine ⟨by rw [← hB]; exact (HCELL.out W g).2.2.2.2, ?_⟩
              obtain ⟨b', o', e', h'⟩ := (HS.out.gr g).cell hss
              rw [hB] at e'
              injection e' with e'; injection e' with e3 e4 _
              subst e3 e4
              exact h')
            subst hA
            obtain ⟨mw, hmw⟩ : ∃ x, x = s.who[i] := ⟨_, rfl⟩
            obtain ⟨sl, hslx⟩ : ∃ x, x = s.seals[i] := ⟨_, rfl⟩
            rw [← hmw] at e0 H4 H5
            rw [← hslx] at HX0 H5
            have H4 := sec H4
            have HII := sec hlt
            clear hmw hslx hss hlt x0 hB
            go_wp2_with (first
              | (go_at_call 44; refine Calls.mono H4.out ?_; rintro e w4 ⟨rfl, d4, k4, _⟩; have g4 : Gr wa w4 := Below.trans gw (Below.mono k4 hgle); obtain ⟨v0, v1⟩ := HX0.out w4 g4)
              | (go_at_call 45; refine Calls.mono (H5.out _ d4) ?_; rintro e w5 ⟨rfl, d5, k5, _⟩; have g5 : Gr wa w5 := Below.trans g4 (Below.mono k5 hgle)))
            go_roundg (gk - 1)
            case rel => exact ⟨i + 1, by go_num, by omega, HII.out, d5, g5⟩
            case measure => have := HII.out; omega
          · obtain hE2 : i = s.who.length := by omega
            rw [hE2] at dw
            have hii : ¬ (i : Int) < (s.who.length : Int) := by omega
            have q : decide (i < s.who.length) = false := decide_eq_false hlt
            clear hE2 hlt hik
            go_wp2_with (go_at_call 46; refine Calls.mono (HDn.out _ _ _ dw) ?_; rintro e w6 ⟨rfl, g6⟩)
            go_ret2
            exact ⟨rfl, hg0.trans (gw.trans g6)⟩
  · have HR : Sec (encR s = ([], stE s)) := sec (by unfold encR; rw [if_neg hE])
    rw [HR.out]
    obtain ⟨E, hEE⟩ : ∃ E, E = stE s := ⟨_, rfl⟩
    rw [← hEE] at HGo hE
    rw [← hEE]
    have m0 : (E != 0) = true := by simpa using hE
    clear hEE HR hb
    unfold stepA at hwa HGo
    unfold stepA
    go_enter Tryd.func20, Tryd.ntmps20
    go_upto_region 1 with fail
    rw [← hwa, ← hp]
    clear hwa hp
    go_wp2_with (go_at_call 25; refine Calls.mono HGo.out ?_; rintro e w1 ⟨rfl, g1⟩)
    go_ret2
    exact ⟨rfl, hg0.trans g1⟩
end Go.Proofs.YtkgmimmneeppgaaDoor

namespace Go.Proofs.YtkgmimmneeppgaaDoor
set_option maxRecDepth 100000
open Go.RowKit
set_option linter.unusedVariables false

set_option maxHeartbeats 8000000 in
theorem rstEncode_any (s : Stp) (A : Option Addr) (c : Nat) (B : Option Addr) (d : Nat) (w : World) (hR : StR w s A c B d) (hz : StSz 1099511627776 s) :
    Calls Tryd.prog 22 #[.agg (stepA s A c B d)] w fun e w' => e = .returned (.tuple #[.string (bs (encR s).1), .int .i64 (encR s).2]) ∧ Gr w w' := by
  obtain ⟨wa, hwa⟩ : ∃ x, x = w.alloc (.cells (stepA s A c B d) 46) := ⟨_, rfl⟩
  have hb : Blk wa w.heap.size 46 (stepA s A c B d) := by rw [hwa]; exact Blk.new w _ _
  have hg0 : Gr w wa := by rw [hwa]; exact (Gr.refl w).alloc _
  obtain ⟨p, hp⟩ : ∃ p, p = w.heap.size := ⟨_, rfl⟩
  rw [← hp] at hb
  have HGo : Sec (Calls Tryd.prog 26 #[.agg (stepA s A c B d)] wa fun e w' => e = .returned (.int .i64 (stE s)) ∧ Gr wa w') := sec (rstGood_any s A c B d wa (hR.gr hg0) hz)
  have HCELL : Sec (∀ w', Gr wa w' → w'.cell? ⟨p, 0, none⟩ = some (.string (bs s.r)) ∧ w'.cell? ⟨p, 1, none⟩ = some (.string (bs s.o)) ∧ w'.cell? ⟨p, 2, none⟩ = some (.string (bs s.n)) ∧ w'.cell? ⟨p, 3, none⟩ = some (.slice A s.who.length c) ∧ w'.cell? ⟨p, 4, none⟩ = some (.slice B s.seals.length d) ∧ Gr wa w') := sec (fun w' g => ⟨(hb.gr g).cell 0, (hb.gr g).cell 1, (hb.gr g).cell 2, (hb.gr g).cell 3, (hb.gr g).cell 4, g⟩)
  obtain ⟨c0, c1, c2, c3, c4, _⟩ := HCELL.out wa (Gr.refl _)
  by_cases hE : stE s = 0
  · obtain ⟨-, z1, z2, z3, z4, z5, z6, z7, -⟩ := stE_zero hE
    have HEND : Sec (encR s = ((encT s s.who.length).1, 0)) := sec (encT_end hE)
    have HLEN : Sec (∀ i, (encT s i).1.length ≤ 2048) := sec (encT_len hE)
    have HSUC : Sec (∀ i (hi : i < s.who.length) (hs : i < s.seals.length), (encT s (i + 1)).1 = (encT s i).1 ++ (numS s.who[i] ++ s.seals[i])) := sec (fun i hi hs => by rw [encT_succ i hi hs, List.append_assoc])
    have HZER : Sec ((encT s 0).1 = txt s.r ++ txt s.o ++ txt s.n ++ numS s.who.length) := sec (by rw [encT_zero]; rfl)
    rw [hE] at HGo
    have HT1 := sec (fun w => text_any s.r w (by omega))
    have HT2 := sec (fun w => text_any s.o w (by omega))
    have HT3 := sec (fun w => text_any s.n w (by omega))
    have HN := sec (fun w => number_any (s.who.length : Int) w)
    have HN2 := sec (fun (n : Int) w => number_any n w)
    have HW := sec (hR.who.gr hg0)
    have HS := sec (hR.seals.gr hg0)
    have HSL := sec z5
    have HZ6 := sec z6
    have HZ7 := sec z7
    have hwl : s.who.length ≤ 8 := z4
    have l1 := txt_len s.r (by omega)
    have l2 := txt_len s.o (by omega)
    have l3 := txt_len s.n (by omega)
    have l4 : (numS s.who.length).length ≤ 9 := by rw [numS_nat (by omega)]; exact num_len9 (by omega)
    obtain ⟨E, hEE⟩ : ∃ E, E = encR s := ⟨_, rfl⟩
    rw [← hEE] at HEND
    rw [← hEE]
    obtain ⟨U, hU⟩ : ∃ U : Nat → List UInt8, U = fun i => (encT s i).1 := ⟨_, rfl⟩
    have hUi : ∀ i, (encT s i).1 = U i := fun i => by rw [hU]
    simp only [hUi] at HEND HLEN HSUC HZER
    obtain ⟨x1, hx1⟩ : ∃ x, x = txt s.r := ⟨_, rfl⟩
    rw [← hx1] at l1 HT1 HZER
    obtain ⟨x2, hx2⟩ : ∃ x, x = txt s.o := ⟨_, rfl⟩
    rw [← hx2] at l2 HT2 HZER
    obtain ⟨x3, hx3⟩ : ∃ x, x = txt s.n := ⟨_, rfl⟩
    rw [← hx3] at l3 HT3 HZER
    obtain ⟨N, hN⟩ : ∃ x, x = numS s.who.length := ⟨_, rfl⟩
    rw [← hN] at l4 HN HZER
    have k1 : ¬ 9223372036854775807 < x1.length + x2.length := by omega
    have k2 : ¬ 9223372036854775807 < x1.length + x2.length + x3.length := by omega
    have k3 : ¬ 9223372036854775807 < x1.length + x2.length + x3.length + N.length := by omega
    have k4 : ¬ 9223372036854775807 < x1.length + (x2.length + x3.length) := by omega
    have k5 : ¬ 9223372036854775807 < x1.length + (x2.length + x3.length) + N.length := by omega
    have k6 : ¬ 9223372036854775807 < x1.length + (x2.length + (x3.length + N.length)) := by omega
    clear hb hEE hU hUi hx1 hx2 hx3 hN hE hz hR l1 l2 l3 l4 z1 z2 z3 z4 z5 z6 z7
    unfold stepA at hwa HGo
    unfold stepA
    go_enter Tryd.func22, Tryd.ntmps22
    go_upto_region 1 with fail
    rw [← hwa, ← hp]
    clear hwa hp
    go_wp2_with (go_at_call 26; refine Calls.mono HGo.out ?_; rintro e w1 ⟨rfl, g1⟩)
    have gd : Gr wa w1.drew := g1.drew
    go_region_held3 (fun w' => w'.cell? ⟨p, 0, none⟩ = some (.string (bs s.r)) ∧ w'.cell? ⟨p, 1, none⟩ = some (.string (bs s.o)) ∧ w'.cell? ⟨p, 2, none⟩ = some (.string (bs s.n)) ∧ w'.cell? ⟨p, 3, none⟩ = some (.slice A s.who.length c) ∧ w'.cell? ⟨p, 4, none⟩ = some (.slice B s.seals.length d) ∧ Gr wa w')
      (first | with_reducible assumption | with_reducible exact HCELL.out _ gd | with_reducible exact HCELL.out _ G1 | with_reducible exact HCELL.out _ G2 | with_reducible exact HCELL.out _ G3 | with_reducible exact HCELL.out _ G4 | fail)
      (first
        | (go_at_call 47; (with_reducible refine Calls.mono (HT1.out w1.drew) ?_); rintro e w2 ⟨rfl, g2⟩; have G1 : Gr wa w2 := Gr.trans gd g2)
        | (go_at_call 47; (with_reducible refine Calls.mono (HT2.out w2) ?_); rintro e w3 ⟨rfl, g3⟩; have G2 : Gr wa w3 := Gr.trans G1 g3)
        | (go_at_call 47; (with_reducible refine Calls.mono (HT3.out w3) ?_); rintro e w4 ⟨rfl, g4⟩; have G3 : Gr wa w4 := Gr.trans G2 g4)
        | (go_at_call 48; (with_reducible refine Calls.mono (HN.out w4) ?_); rintro e w5 ⟨rfl, g5⟩; have G4 : Gr wa w5 := Gr.trans G3 g5)
        | fail)
    all_goals
      clear c0 c1 c2 c3 c4
      obtain ⟨c0, c1, c2, c3, c4, _⟩ := HCELL.out w5 G4
      go_wp2_with fail
      clear c0 c1 c2 c3 c4
      go_loopg [31, 6, 5] s.who.length (fun fuel iv _ bv wr => ∃ i : Nat, iv = .int .i64 (i : Int) ∧ bv = .string (bs (U i)) ∧ s.who.length ≤ i + fuel ∧ i ≤ s.who.length ∧ Gr wa wr)
      case atStart => exact ⟨0, rfl, by rw [HZER.out]; simp only [List.append_assoc], by omega, by omega, G4⟩
      case round =>
        obtain ⟨i, rfl, rfl, hik, hi, gw⟩ := hrel
        clear G1 G2 G3 G4 g1 g2 g3 g4 g5 gd
        by_cases hlt : i < s.who.length
        · have hss : i < s.seals.length := by have := HSL.out; omega
          have hii : (i : Int) < (s.who.length : Int) := by omega
          have hjj : (i : Int) < (s.seals.length : Int) := by omega
          have HU1 := sec (HSUC.out i hlt hss)
          have hul := HLEN.out i
          have hwz := HZ7.out _ (List.getElem_mem hlt)
          have hsz := HZ6.out _ (List.getElem_mem hss)
          have hnl : (numS s.who[i]).length ≤ 9 := by rw [numS_in (by omega) (by omega)]; exact num_len9 (by omega)
          have HNi := sec (HN2.out s.who[i])
          have HX0 : Sec (∀ W, Gr wa W → W.cell? ⟨p, 3, none⟩ = some (.slice A s.who.length c) ∧ W.cell? ⟨p, 4, none⟩ = some (.slice B s.seals.length d) ∧ (∃ b off, A = some ⟨b, off, none⟩ ∧ W.cell? ⟨b, off + i, none⟩ = some (.int .i64 s.who[i])) ∧ (∃ b off, B = some ⟨b, off, none⟩ ∧ W.cell? ⟨b, off + i, none⟩ = some (.string (bs s.seals[i])))) := sec (fun W g => ⟨(HCELL.out W g).2.2.2.1, (HCELL.out W g).2.2.2.2.1, (HW.out.gr g).cell hlt, (HS.out.gr g).cell hss⟩)
          obtain ⟨b, off, rfl, -⟩ := (HW.out.gr gw).cell hlt
          obtain ⟨b2, off2, rfl, -⟩ := (HS.out.gr gw).cell hss
          obtain ⟨mw, hmw⟩ : ∃ x, x = s.who[i] := ⟨_, rfl⟩
          obtain ⟨sl, hslx⟩ : ∃ x, x = s.seals[i] := ⟨_, rfl⟩
          rw [← hmw] at HNi HX0 hnl HU1
          rw [← hslx] at HX0 hsz HU1
          have HX1 : Sec (∀ W, Gr wa W → W.cell? ⟨p, 3, none⟩ = some (.slice (some ⟨b, off, none⟩) s.who.length c) ∧ W.cell? ⟨p, 4, none⟩ = some (.slice (some ⟨b2, off2, none⟩) s.seals.length d) ∧ W.cell? ⟨b, off + i, none⟩ = some (.int .i64 mw) ∧ W.cell? ⟨b2, off2 + i, none⟩ = some (.string (bs sl)) ∧ Gr wa W) := sec (fun W g => by
            obtain ⟨h1, h2, ⟨b', o', e', h3⟩, ⟨b'', o'', e'', h4⟩⟩ := HX0.out W g
            injection e' with e'; injection e' with e3 e4 _
            injection e'' with e''; injection e'' with e5 e6 _
            subst e3 e4 e5 e6
            exact ⟨h1, h2, h3, h4, g⟩)
          obtain ⟨NN, hNN⟩ : ∃ x, x = numS mw := ⟨_, rfl⟩
          rw [← hNN] at HNi hnl HU1
          have m1 : ¬ 9223372036854775807 < NN.length + sl.length := by omega
          have m2 : ¬ 9223372036854775807 < (U i).length + (NN.length + sl.length) := by omega
          have HII := sec hlt
          obtain ⟨y0, y1, y2, y3, _⟩ := HX1.out wr gw
          clear hmw hslx hNN hss hlt hul hwz hsz hnl HX0
          go_wp2_with fail
          have gd : Gr wa wr.drew := gw.drew
          go_region_held3 (fun w' => w'.cell? ⟨p, 3, none⟩ = some (.slice (some ⟨b, off, none⟩) s.who.length c) ∧ w'.cell? ⟨p, 4, none⟩ = some (.slice (some ⟨b2, off2, none⟩) s.seals.length d) ∧ w'.cell? ⟨b, off + i, none⟩ = some (.int .i64 mw) ∧ w'.cell? ⟨b2, off2 + i, none⟩ = some (.string (bs sl)) ∧ Gr wa w')
            (first | with_reducible assumption | with_reducible exact HX1.out _ gd | with_reducible exact HX1.out _ G6 | fail)
            (first
              | (go_at_call 48; (with_reducible refine Calls.mono (HNi.out wr.drew) ?_); rintro e w6 ⟨rfl, g6⟩; have G6 : Gr wa w6 := Gr.trans gd g6)
              | fail)
          all_goals
            go_wp2_with fail
            go_roundg (gk - 1)
            case rel => exact ⟨i + 1, by go_num, by rw [HU1.out], by omega, HII.out, G6⟩
            case measure => have := HII.out; omega
        · obtain hE2 : i = s.who.length := by omega
          have HF : Sec (E = (U i, 0)) := sec (by rw [HEND.out, hE2])
          have hii : ¬ (i : Int) < (s.who.length : Int) := by omega
          have q : decide (i < s.who.length) = false := decide_eq_false hlt
          clear hE2 hlt hik
          go_wp2_with fail
          go_ret2
          exact ⟨by rw [HF.out]; rfl, hg0.trans gw⟩
  · have HR : Sec (encR s = ([], stE s)) := sec (by unfold encR; rw [if_neg hE])
    rw [HR.out]
    obtain ⟨E, hEE⟩ : ∃ E, E = stE s := ⟨_, rfl⟩
    rw [← hEE] at HGo hE
    rw [← hEE]
    have m0 : (E != 0) = true := by simpa using hE
    clear hEE HR hb
    unfold stepA at hwa HGo
    unfold stepA
    go_enter Tryd.func22, Tryd.ntmps22
    go_upto_region 1 with fail
    rw [← hwa, ← hp]
    clear hwa hp
    go_wp2_with (go_at_call 26; refine Calls.mono HGo.out ?_; rintro e w1 ⟨rfl, g1⟩)
    go_ret2
    exact ⟨rfl, hg0.trans g1⟩
end Go.Proofs.YtkgmimmneeppgaaDoor

namespace Go.Proofs.YtkgmimmneeppgaaDoor
set_option maxRecDepth 100000
open Go.RowKit Go.ChangeShapes Go.WideShapes
set_option linter.unusedVariables false

def n32 : List UInt8 := [48, 49, 50, 51, 52, 53, 54, 55, 56, 57, 97, 98, 99, 100, 101, 102, 48, 49, 50, 51, 52, 53, 54, 55, 56, 57, 97, 98, 99, 100, 101, 102]
def st0 : Stp := ⟨[97], [], n32, [], []⟩
def st1 (x : List UInt8) : Stp := ⟨[97], [], n32, [1], [x]⟩
theorem st0_sz : StSz 1099511627776 st0 := ⟨by decide, by decide, by decide, by decide, by decide, fun x h => by cases h⟩
theorem seal32 (key b : List UInt8) : (seal' key b).length = 32 := rfl
theorem st1_sz (x : List UInt8) (h : x.length = 32) : StSz 1099511627776 (st1 x) := ⟨st0_sz.r, st0_sz.o, st0_sz.n, by show (1 : Nat) ≤ _; omega, by show (1 : Nat) ≤ _; omega, fun y hy => by
  have : y = x := by simpa [st1] using hy
  subst this
  omega⟩
theorem st0_b : stB st0 = true := by decide
theorem st0_e : stE st0 = 0 := by decide
theorem st1_e (x : List UInt8) (h : x.length = 32) : stE (st1 x) = 0 := by
  have hb : stB (st1 x) = true := st0_b
  unfold stE
  rw [if_pos hb, if_neg (by show ¬ (8 < 1 ∨ ¬ 1 = 1); omega)]
  show stF (-1) [1] [x] = 0
  rw [stF_cons, if_neg (by omega), if_pos h]
  rfl
theorem st0_body : (bodyR 0 st0).2 = 0 := by
  unfold bodyR
  rw [if_neg (by omega), if_neg (by decide)]
theorem st1_body (x : List UInt8) : bodyR 0 (st1 x) = bodyR 0 st0 := rfl
theorem st0_sg : stSg st0 0 1 [107] = (st1 (seal' [107] (bodyR 0 st0).1), 0) := by
  unfold stSg
  rw [if_pos st0_e, if_pos st0_body, if_neg (by omega), if_neg (by decide)]
  rfl
theorem st1_rg (b x : List UInt8) (hx : x = seal' [107] b) : rgB [[], [107]] b 1 x = true := by
  have e : ([[], [107]] : List (List UInt8)).getD (1 : Int).toNat [] = [107] := rfl
  unfold rgB
  rw [e, hx, beq_self_eq_true]
  rfl
theorem st1_ck (b x : List UInt8) (hl : x.length = 32) (hb : (bodyR 0 st0).1 = b) (hx : x = seal' [107] b) : stCk [[], [107]] 1 0 (st1 x) = 0 := by
  have h1 := st1_rg b x hx
  clear hx
  unfold stCk
  rw [if_pos (st1_e _ hl), st1_body, if_pos st0_body, hb, if_pos]
  have e : rgL [[], [107]] b (st1 x) = [rgB [[], [107]] b 1 x] := rfl
  rw [e, h1]
  exact ⟨rfl, by show (1 : Int) ≤ ((1 : Nat) : Int); omega⟩
theorem row2 {W : World} {g : Nat} {T : TypeId} {u v : Value} (h : Blk W g T #[u, v]) : Row W 1 (some ⟨g, 0, none⟩) 2 [u, v] := by
  refine ⟨by simp, fun _ => ⟨g, 0, rfl, fun i v hi => ?_⟩⟩
  have := h.cell i
  rw [Nat.zero_add, this]
  simpa using hi
theorem k2_len : ∀ y ∈ ([[], [107]] : List (List UInt8)), y.length ≤ 1099511627776 := by
  intro y hy
  simp only [List.mem_cons, List.not_mem_nil, or_false] at hy
  rcases hy with rfl | rfl <;> decide
set_option maxHeartbeats 4000000 in
theorem steps_any (w : World) (hT : TabK w) : Calls Tryd.prog 27 #[] w fun e w' => e = .returned (.bool true) ∧ Gr w w' := by
  obtain ⟨x, hx⟩ : ∃ x, x = seal' [107] (bodyR 0 st0).1 := ⟨_, rfl⟩
  have hl : x.length = 32 := by rw [hx]; exact seal32 _ _
  have hck := st1_ck (bodyR 0 st0).1 x hl rfl hx
  have HSg := sec (sign_any st0 0 1 [107] none 0 none 0 w ⟨Row.nil w 1 none, Row.nil w 1 none, fun _ => ⟨rfl, rfl⟩, fun _ => ⟨rfl, rfl⟩, Nat.le_refl _, Nat.le_refl _⟩ st0_sz (fun ad h => by cases h) (fun ad h => by cases h) hT (by decide))
  rw [st0_sg, ← hx] at HSg
  have HCk : Sec (∀ (W : World) (A0 : Option Addr) (m' c0 d0 : Nat) (A : Option Addr) (c : Nat) (B : Option Addr) (d : Nat), Gr w W → StrRow W A0 2 [[], [107]] → StR W (st1 x) A c B d → Calls Tryd.prog 33 #[.agg (keysA A0 2 c0 none 0 d0 1), .int .i64 0, .agg (stepA (st1 x) A c B d)] W fun e w' => e = .returned (.int .i64 0) ∧ Gr W w') := sec (fun W A0 m' c0 d0 A c B d g hK hR => by
    have := stCheck_any A0 2 c0 none 0 d0 1 [[], [107]] 0 (st1 x) A c B d W hK (by omega) k2_len hR (st1_sz x hl) (hT.gr g)
    rwa [hck] at this)
  clear hck hx hl hT
  unfold keysA at HCk
  unfold st0 at HSg
  have e1 : ∀ A c B d, stepA (st1 x) A c B d = #[.string (bs [97]), .string (bs []), .string (bs n32), .slice A 1 c, .slice B 1 d] := fun _ _ _ _ => rfl
  go_enter Tryd.func27, Tryd.ntmps27
  go_upto_region 2 with (first
    | (go_at_call 31; refine Calls.mono HSg.out ?_; rintro e w1 ⟨A1, c1, B1, d1, rfl, R1, g1⟩)
    | (refine wpList_store_blk rfl 46 (.tmp 1) (.tmp 6) rfl (g := w1.heap.size) (cs' := stepA (st1 x) A1 c1 B1 d1) rfl rfl (Blk.new w1 _ _) aggStep rfl (stepA_one _ _ _ _ _) ?_; intro w2 h2 hg2))
  have G2 : Gr w w2 := Gr.only (g1.alloc _) hg2 g1.size
  have R2 : StR w2 (st1 x) A1 c1 B1 d1 := R1.gr (Gr.only ((Gr.refl w1).alloc _) hg2 (Nat.le_refl _))
  obtain ⟨p, hp⟩ : ∃ p, p = w1.heap.size := ⟨_, rfl⟩
  rw [← hp] at h2
  rw [← hp]
  have HSK : Sec (∀ w', Gr w2 w' → w'.cell? ⟨p, 0, none⟩ = some (.string (bs [97])) ∧ w'.cell? ⟨p, 1, none⟩ = some (.string (bs [])) ∧ w'.cell? ⟨p, 2, none⟩ = some (.string (bs n32)) ∧ w'.cell? ⟨p, 3, none⟩ = some (.slice A1 1 c1) ∧ w'.cell? ⟨p, 4, none⟩ = some (.slice B1 1 d1) ∧ Gr w2 w') := sec (fun w' g => ⟨(h2.gr g).cell 0, (h2.gr g).cell 1, (h2.gr g).cell 2, (h2.gr g).cell 3, (h2.gr g).cell 4, g⟩)
  have HC : Sec (∀ (W : World) (A0 : Option Addr) (m' c0 d0 : Nat), Gr w2 W → StrRow W A0 2 [[], [107]] → Calls Tryd.prog 33 #[.agg #[.slice A0 2 c0, .slice none 0 d0, .int .i64 1], .int .i64 0, .agg #[.string (bs [97]), .string (bs []), .string (bs n32), .slice A1 1 c1, .slice B1 1 d1]] W fun e w' => e = .returned (.int .i64 0) ∧ Gr W w') := sec (fun W A0 m' c0 d0 g hK => HCk.out W A0 m' c0 d0 A1 c1 B1 d1 (G2.trans g) hK (R2.gr g))
  have HG2 := sec G2
  have HB := sec h2
  clear h2 hg2 R1 R2 g1 hp G2 HCk HSg e1
  have gd : Gr w2 w2 := Gr.refl _
  obtain ⟨x0, x1, x2, x3, x4, _⟩ := HSK.out _ gd
  have hlt : p < w2.heap.size := HB.out.lt
  go_wp2_with (first
      | (go_at_call 33; (refine Calls.mono (HC.out _ _ 0 _ _ (gd.alloc _) (row2 (Blk.new _ _ _))) ?_); rintro e w3 ⟨rfl, g3⟩; have G3 : Gr w2 w3 := Gr.trans (gd.alloc _) g3)
      | fail)
  go_ret
  exact ⟨rfl, HG2.out.trans G3⟩
end Go.Proofs.YtkgmimmneeppgaaDoor

namespace Go.Proofs.YtkgmimmneeppgaaDoor
set_option maxRecDepth 100000
open Go.RowKit Go.ChangeShapes Go.WideShapes
set_option linter.unusedVariables false

set_option maxHeartbeats 8000000 in
theorem stepEncodes_walk (s : Stp) (A : Option Addr) (c : Nat) (B : Option Addr) (d : Nat) (at_ : Int) (W : World) (hS : StepIn W s A c B d) (hT : TabK W) :
    Calls Tryd.prog 5 #[.agg (stepA s A c B d), .int .i64 at_] W fun e W' => e = .returned (.bool true) ∧ Gr W W' := by
  obtain ⟨hR, hz⟩ := hS
  have hz := hz.up (k' := 1099511627776) (by omega)
  obtain ⟨wa, hwa⟩ : ∃ x, x = W.alloc (.cells (stepA s A c B d) 46) := ⟨_, rfl⟩
  have hb : Blk wa W.heap.size 46 (stepA s A c B d) := by rw [hwa]; exact Blk.new W _ _
  have hg0 : Gr W wa := by rw [hwa]; exact (Gr.refl W).alloc _
  obtain ⟨p, hp⟩ : ∃ p, p = W.heap.size := ⟨_, rfl⟩
  rw [← hp] at hb
  have HCp : Sec (∀ w', Gr wa w' → Calls Tryd.prog 21 #[.agg (stepA s A c B d)] w' fun e w'' => ∃ A' c' B' d', e = .returned (.agg (stepA s A' c' B' d')) ∧ StR w'' s A' c' B' d' ∧ Gr w' w'') := sec (fun w' g => (copyStep_any s A c B d w' ((hR.gr hg0).gr g) hz).mono fun e w'' ⟨A', c', B', d', he, h1, _, _, h2⟩ => ⟨A', c', B', d', he, h1, h2⟩)
  have HEn : Sec (∀ w' A' c' B' d', StR w' s A' c' B' d' → Calls Tryd.prog 20 #[.agg (stepA s A' c' B' d')] w' fun e w'' => e = .returned (.tuple #[.string (bs (encR s).1), .int .i64 (encR s).2]) ∧ Gr w' w'') := sec (fun w' A' c' B' d' h => stEncode_any s A' c' B' d' w' h hz)
  have HRe : Sec (∀ w', Gr wa w' → Calls Tryd.prog 22 #[.agg (stepA s A c B d)] w' fun e w'' => e = .returned (.tuple #[.string (bs (encR s).1), .int .i64 (encR s).2]) ∧ Gr w' w'') := sec (fun w' g => rstEncode_any s A c B d w' ((hR.gr hg0).gr g) hz)
  have HBo : Sec (∀ w' A' c' B' d', Calls Tryd.prog 23 #[.int .i64 at_, .agg (stepA s A' c' B' d')] w' fun e w'' => e = .returned (.tuple #[.string (bs (bodyR at_ s).1), .int .i64 (bodyR at_ s).2]) ∧ Gr w' w'') := sec (fun w' A' c' B' d' => stBody_any at_ s A' c' B' d' w' hz)
  have HRb : Sec (∀ w' A' c' B' d', Calls Tryd.prog 24 #[.int .i64 at_, .agg (stepA s A' c' B' d')] w' fun e w'' => e = .returned (.tuple #[.string (bs (bodyR at_ s).1), .int .i64 (bodyR at_ s).2]) ∧ Gr w' w'') := sec (fun w' A' c' B' d' => rstBody_any at_ s A' c' B' d' w' hz)
  have HGo : Sec (∀ w' A' c' B' d', StR w' s A' c' B' d' → Calls Tryd.prog 25 #[.agg (stepA s A' c' B' d')] w' fun e w'' => e = .returned (.int .i64 (stE s)) ∧ Gr w' w'') := sec (fun w' A' c' B' d' h => stGood_any s A' c' B' d' w' h hz)
  have HRg : Sec (∀ w', Gr wa w' → Calls Tryd.prog 26 #[.agg (stepA s A c B d)] w' fun e w'' => e = .returned (.int .i64 (stE s)) ∧ Gr w' w'') := sec (fun w' g => rstGood_any s A c B d w' ((hR.gr hg0).gr g) hz)
  have HSt : Sec (∀ w', Gr wa w' → Calls Tryd.prog 27 #[] w' fun e w'' => e = .returned (.bool true) ∧ Gr w' w'') := sec (fun w' g => steps_any w' ((hT.gr hg0).gr g))
  obtain ⟨eb, heb⟩ : ∃ x, x = (encR s).1 := ⟨_, rfl⟩
  obtain ⟨ee, hee⟩ : ∃ x, x = (encR s).2 := ⟨_, rfl⟩
  obtain ⟨bb, hbb⟩ : ∃ x, x = (bodyR at_ s).1 := ⟨_, rfl⟩
  obtain ⟨be, hbe⟩ : ∃ x, x = (bodyR at_ s).2 := ⟨_, rfl⟩
  obtain ⟨E, hE⟩ : ∃ x, x = stE s := ⟨_, rfl⟩
  rw [← heb, ← hee] at HEn HRe
  rw [← hbb, ← hbe] at HBo HRb
  rw [← hE] at HGo HRg
  have HSK : Sec (∀ w', Gr wa w' → w'.cell? ⟨p, 0, none⟩ = some (.string (bs s.r)) ∧ w'.cell? ⟨p, 1, none⟩ = some (.string (bs s.o)) ∧ w'.cell? ⟨p, 2, none⟩ = some (.string (bs s.n)) ∧ w'.cell? ⟨p, 3, none⟩ = some (.slice A s.who.length c) ∧ w'.cell? ⟨p, 4, none⟩ = some (.slice B s.seals.length d) ∧ Gr wa w') := sec (fun w' g => ⟨(hb.gr g).cell 0, (hb.gr g).cell 1, (hb.gr g).cell 2, (hb.gr g).cell 3, (hb.gr g).cell 4, g⟩)
  clear heb hee hbb hbe hE hb hR hz hT
  unfold stepA at hwa HCp HEn HRe HBo HRb HGo HRg
  unfold stepA
  obtain ⟨r, o, n, who, seals⟩ := s
  go_enter Tryd.func5, Tryd.ntmps5
  go_upto_region 1 with fail
  rw [← hwa, ← hp]
  clear hwa hp
  obtain ⟨x0, x1, x2, x3, x4, g0⟩ := HSK.out wa (Gr.refl _)
  go_upto_region 5 with (first
    | (go_at_call 21; (with_reducible refine Calls.mono (HCp.out _ g0) ?_); rintro e w1 ⟨A1, c1, B1, d1, rfl, r1, g1'⟩; have g1 : Gr wa w1 := Gr.trans g0 g1')
    | (go_at_call 20; (with_reducible refine Calls.mono (HEn.out _ _ _ _ _ r1) ?_); rintro e w2 ⟨rfl, g2'⟩; have g2 : Gr wa w2 := Gr.trans g1 g2'; obtain ⟨y0, y1, y2, y3, y4, -⟩ := HSK.out w2 g2)
    | (go_at_call 22; (with_reducible refine Calls.mono (HRe.out _ g2) ?_); rintro e w3 ⟨rfl, g3'⟩; have g3 : Gr wa w3 := Gr.trans g2 g3'; obtain ⟨z0, z1, z2, z3, z4, -⟩ := HSK.out w3 g3)
    | (go_at_call 21; (with_reducible refine Calls.mono (HCp.out _ g3) ?_); rintro e w4 ⟨A4, c4, B4, d4, rfl, r4, g4'⟩; have g4 : Gr wa w4 := Gr.trans g3 g4')
    | (go_at_call 23; (with_reducible refine Calls.mono (HBo.out _ _ _ _ _) ?_); rintro e w5 ⟨rfl, g5'⟩; have g5 : Gr wa w5 := Gr.trans g4 g5'; obtain ⟨u0, u1, u2, u3, u4, -⟩ := HSK.out w5 g5)
    | (go_at_call 24; (with_reducible refine Calls.mono (HRb.out _ _ _ _ _) ?_); rintro e w6 ⟨rfl, g6'⟩; have g6 : Gr wa w6 := Gr.trans g5 g6'))
  clear x0 x1 x2 x3 x4 y0 y1 y2 y3 y4 z0 z1 z2 z3 z4 u0 u1 u2 u3 u4
  have gd : Gr wa w6.drew := g6.drew
  go_region_held3 (fun w' => w'.cell? ⟨p, 0, none⟩ = some (.string (bs r)) ∧ w'.cell? ⟨p, 1, none⟩ = some (.string (bs o)) ∧ w'.cell? ⟨p, 2, none⟩ = some (.string (bs n)) ∧ w'.cell? ⟨p, 3, none⟩ = some (.slice A who.length c) ∧ w'.cell? ⟨p, 4, none⟩ = some (.slice B seals.length d) ∧ Gr wa w')
    (first | with_reducible assumption | with_reducible exact HSK.out _ gd | with_reducible exact HSK.out _ G1 | with_reducible exact HSK.out _ G2 | with_reducible exact HSK.out _ G3 | with_reducible exact HSK.out _ G4 | fail)
    (first
      | (go_at_call 21; (with_reducible refine Calls.mono (HCp.out _ gd) ?_); rintro e v1 ⟨A5, c5, B5, d5, rfl, r5, f1⟩; have G1 : Gr wa v1 := Gr.trans gd f1)
      | (go_at_call 25; (with_reducible refine Calls.mono (HGo.out _ _ _ _ _ r5) ?_); rintro e v2 ⟨rfl, f2⟩; have G2 : Gr wa v2 := Gr.trans G1 f2)
      | (go_at_call 26; (with_reducible refine Calls.mono (HRg.out _ G2) ?_); rintro e v3 ⟨rfl, f3⟩; have G3 : Gr wa v3 := Gr.trans G2 f3)
      | (go_at_call 27; (with_reducible refine Calls.mono (HSt.out _ G3) ?_); rintro e v4 ⟨rfl, f4⟩; have G4 : Gr wa v4 := Gr.trans G3 f4)
      | fail)
  all_goals (go_wp2_with fail; go_ret; exact ⟨rfl, hg0.trans G4⟩)
end Go.Proofs.YtkgmimmneeppgaaDoor

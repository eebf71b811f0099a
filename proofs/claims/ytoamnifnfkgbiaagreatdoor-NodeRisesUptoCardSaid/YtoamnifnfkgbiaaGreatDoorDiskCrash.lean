/-
  disk.Crash, ref.Crash by their contracts.
-/
import Derived.Test.YtoamnifnfkgbiaaGreatDoorDiskRead
import Derived.Test.YtoamnifnfkgbiaaGreatDoorHeadStill
import Derived.StillTailTactics
namespace Go.Proofs.YtoamnifnfkgbiaaGreatDoor
open Go.RowKit
set_option linter.unusedVariables false
/-- P6.7: the files, the fuse, the error -/
def crashR (fs : List Fl) (f keep : Int) : List Fl × Int × Int :=
  if goodFs fs = true ∧ 0 ≤ keep then (fs.map (crashF keep.toNat), -1, 0) else (fs, f, 3)
def crashTo (K i : Nat) (fs : List Fl) : List Fl := (fs.take i).map (crashF K) ++ fs.drop i
theorem crashTo_zero (K : Nat) (fs : List Fl) : crashTo K 0 fs = fs := by simp [crashTo]
theorem crashTo_all (K : Nat) (fs : List Fl) : crashTo K fs.length fs = fs.map (crashF K) := by simp [crashTo]
theorem crashTo_len (K i : Nat) (fs : List Fl) : (crashTo K i fs).length = fs.length := by simp [crashTo]; omega
theorem crashTo_get (K i : Nat) (fs : List Fl) (h : i < fs.length) : (crashTo K i fs)[i]'(by rw [crashTo_len]; exact h) = fs[i] := by
  unfold crashTo
  rw [List.getElem_append_right (by rw [List.length_map, List.length_take]; exact Nat.min_le_left _ _)]
  rw [List.getElem_drop]
  congr 1
  rw [List.length_map, List.length_take]
  omega
theorem crashTo_succ (K i : Nat) (fs : List Fl) (h : i < fs.length) : crashTo K (i + 1) fs = (crashTo K i fs).set i (crashF K fs[i]) := by
  unfold crashTo
  rw [List.set_append_right _ _ (by rw [List.length_map, List.length_take]; exact Nat.min_le_left _ _)]
  rw [List.take_succ_eq_append_getElem h, List.map_append, List.drop_eq_getElem_cons h]
  rw [List.length_map, List.length_take, Nat.min_eq_left (Nat.le_of_lt h), Nat.sub_self, List.set_cons_zero, List.append_assoc]
  rfl

theorem own_low {w : World} {B B' e size n : Nat} {v : Value} {xs : List Value} (h : w.ownsRow B e size v n xs) (hle : B' ≤ B) : w.ownsRow B' e size v n xs := by
  refine ⟨h.1, ?_⟩
  rcases h.2 with h0 | ⟨g, cap, cur, hv, hB, r⟩
  · exact .inl h0
  · exact .inr ⟨g, cap, cur, hv, Nat.le_trans hle hB, r⟩
theorem own_set {w : World} {B e size n cap g : Nat} {xs : List Value} (h : w.ownsRow B e size (.slice (some ⟨g, 0, none⟩) n cap) n xs) (j : Nat) (hj : j < xs.length) (u : Value) :
    (w.setCell ⟨g, j, none⟩ u).ownsRow B e size (.slice (some ⟨g, 0, none⟩) n cap) n (xs.set j u) := by
  have hl := h.1
  refine ⟨by rw [List.length_set]; exact hl, ?_⟩
  rcases h.2 with ⟨h0, _⟩ | ⟨g', cap', cur, hv, hB, hh, hle, hm, hs, ht⟩
  · cases h0
  · injection hv with hv hv2 hv3
    injection hv with hv
    injection hv with hv _ _
    subst hv hv3
    refine .inr ⟨g, cap, cur.setIfInBounds j u, rfl, hB, ?_, hle, hm, by rw [Array.size_setIfInBounds]; exact hs, ?_⟩
    · have : Blk w g e cur := hh
      exact this.set_ j u
    · rw [Array.toList_setIfInBounds, List.take_set, ht]
theorem flat_set (fs : List Fl) : ∀ (i : Nat) (h : i < fs.length) (j : Nat) (u : Value) (f' : Fl), j < 3 → fileC f' = (fileC fs[i]).set j u → (fs.flatMap fileC).set (i * 3 + j) u = (fs.set i f').flatMap fileC := by
  induction fs with
  | nil => intro i h; simp at h
  | cons f r ih =>
    intro i h j u f' hj he
    cases i with
    | zero =>
      simp only [List.getElem_cons_zero] at he
      rw [List.flatMap_cons, List.set_append_left _ _ (by simp [fileC]; omega), Nat.zero_mul, Nat.zero_add, ← he]
      rfl
    | succ i =>
      simp only [List.getElem_cons_succ] at he
      have := ih i (by simpa using h) j u f' hj he
      rw [List.flatMap_cons, List.set_append_right _ _ (by simp [fileC]; omega), List.set_cons_succ, List.flatMap_cons, ← this]
      congr 2
      simp [fileC]; omega

theorem own_file2 {w : World} {B e n cap g : Nat} {fs : List Fl} (h : w.ownsRow B e 3 (.slice (some ⟨g, 0, none⟩) n cap) n (fs.flatMap fileC)) (i : Nat) (nm sf tl s t : List UInt8) (hi : fs[i]? = some (nm, sf, tl)) :
    ((w.setCell ⟨g, i * 3 + 1, none⟩ (.string (bs s))).setCell ⟨g, i * 3 + 2, none⟩ (.string (bs t))).ownsRow B e 3 (.slice (some ⟨g, 0, none⟩) n cap) n ((fs.set i (nm, s, t)).flatMap fileC) := by
  obtain ⟨hl, hg⟩ := List.getElem?_eq_some_iff.1 hi
  have hfl : (fs.flatMap fileC).length = fs.length * 3 := flat_len fileC 3 (fun _ => rfl) fs
  have o1 := own_set h (i * 3 + 1) (by rw [hfl]; omega) (.string (bs s))
  rw [flat_set fs i hl 1 (.string (bs s)) (nm, s, tl) (by omega) (by rw [hg]; rfl)] at o1
  have hfl2 : ((fs.set i (nm, s, tl)).flatMap fileC).length = fs.length * 3 := by rw [flat_len fileC 3 (fun _ => rfl), List.length_set]
  have o2 := own_set o1 (i * 3 + 2) (by rw [hfl2]; omega) (.string (bs t))
  rw [flat_set (fs.set i (nm, s, tl)) i (by rw [List.length_set]; exact hl) 2 (.string (bs t)) (nm, s, t) (by omega) (by rw [List.getElem_set_self]; rfl), List.set_set] at o2
  exact o2

set_option maxRecDepth 100000 in
set_option maxHeartbeats 4000000 in
theorem crash_any (fs : List Fl) (A : Option Addr) (n cap : Nat) (f keep : Int) (w : World) (hn : n ≤ 1099511627776) (hx : FRow w A n fs) (hA : A = none → n = 0 ∧ cap = 0) (hs : ∀ f ∈ fs, f.1.length ≤ 1099511627776 ∧ f.2.1.length ≤ 1099511627776 ∧ f.2.2.length ≤ 1099511627776) :
    Calls Tryz.prog 27 #[diskV A n cap f, .int .i64 keep] w fun e w' => ∃ A' cap', e = .returned (.tuple #[diskV A' n cap' (crashR fs f keep).2.1, .int .i64 (crashR fs f keep).2.2]) ∧ FRow w' A' n (crashR fs f keep).1 ∧ Gr w w' ∧ (A' = A ∨ w'.ownsRow w.heap.size 105 3 (.slice A' n cap') n ((crashR fs f keep).1.flatMap fileC)) := by
  have hg0 := ((Gr.refl w).alloc (.cells #[.slice A n cap, .int .i64 f] 24)).alloc (.cells #[.slice none 0 0, .int .i64 0] 24)
  have hb1 := (Blk.new w 24 #[.slice A n cap, .int .i64 f]).alloc (.cells #[.slice none 0 0, .int .i64 0] 24)
  have hb2 := Blk.new1 w (.cells #[.slice A n cap, .int .i64 f] 24) 24 #[.slice none 0 0, .int .i64 0]
  have HG := sec (dgood_any fs A n cap f _ hn (hx.gr hg0) hs)
  have hl := hx.len
  have HX := sec (hx.gr hg0)
  obtain ⟨wa, hwa⟩ : ∃ x, x = (w.alloc (.cells #[.slice A n cap, .int .i64 f] 24)).alloc (.cells #[.slice none 0 0, .int .i64 0] 24) := ⟨_, rfl⟩
  rw [← hwa] at hg0 hb1 hb2 HG HX
  obtain ⟨p, hp⟩ : ∃ p, p = w.heap.size := ⟨_, rfl⟩
  have hwp : w.heap.size ≤ p := by omega
  rw [← hp] at hb1 hb2
  have c0 : wa.cell? ⟨p, 0, none⟩ = some (.slice A n cap) := hb1.cell 0
  have c1 : wa.cell? ⟨p, 1, none⟩ = some (.int .i64 f) := hb1.cell 1
  have HB := sec hb1
  have HR2 := sec hb2
  have HX0 := sec hx
  clear hb1 hb2 hs hx
  unfold diskV at HG
  unfold diskV
  by_cases hgk : goodFs fs = true ∧ 0 ≤ keep
  · have HR : Sec (crashR fs f keep = (fs.map (crashF keep.toNat), -1, 0)) := sec (by unfold crashR; rw [if_pos hgk])
    rw [HR.out]
    obtain ⟨hgf, hk0⟩ := hgk
    have hsz := goodFs_ok hgf
    rw [hgf] at HG
    have q1 : decide (keep < 0) = false := decide_eq_false (by omega)
    clear hgf
    obtain ⟨K, rfl⟩ : ∃ K : Nat, keep = (K : Int) := ⟨keep.toNat, by omega⟩
    rw [Int.toNat_natCast]
    go_enter Tryz.func27, Tryz.ntmps27
    go_wp2_with (first | (rw [← hwa, ← hp]; clear hwa hp; go_wp2_with fail) | (go_at_call 75; refine Calls.mono HG.out ?_; rintro e w1 ⟨rfl, g1⟩; have c0y : w1.cell? ⟨p, 0, none⟩ = some (.slice A n cap) := (HB.out.gr g1).cell 0) | (go_at_call 64; refine Calls.mono (clone_any fs A n cap _ hn (HX.out.gr g1) hA) ?_; rintro e w2 ⟨A', cap', rfl, hown, g2⟩))
    have hg2 := g1.trans g2
    have hb1 := (HB.out.gr hg2).alloc (.cells #[.slice A' n cap', .int .i64 (-1)] 24)
    have hb2 := (HR2.out.gr hg2).alloc (.cells #[.slice A' n cap', .int .i64 (-1)] 24)
    have hb3 := Blk.new w2 24 #[.slice A' n cap', .int .i64 (-1)]
    have hgb := hg2.alloc (.cells #[.slice A' n cap', .int .i64 (-1)] 24)
    have hown2 := own_gr hown ((Gr.refl w2).alloc (.cells #[.slice A' n cap', .int .i64 (-1)] 24))
    have hwq : w.heap.size ≤ w2.heap.size := Nat.le_trans hg0.size hg2.size
    have hw1 : w.heap.size ≤ w1.heap.size := Nat.le_trans hg0.size g1.size
    obtain ⟨wb, hwb⟩ : ∃ x, x = w2.alloc (.cells #[.slice A' n cap', .int .i64 (-1)] 24) := ⟨_, rfl⟩
    obtain ⟨q, hq⟩ : ∃ q, q = w2.heap.size := ⟨_, rfl⟩
    rw [← hwb] at hb1 hb2 hb3 hgb hown2
    rw [← hq] at hb3 hwq
    rw [← hwb, ← hq]
    have hgB := hg0.trans hgb
    obtain ⟨B1, hB1⟩ : ∃ B1, B1 = w1.heap.size := ⟨_, rfl⟩
    rw [← hB1] at hown2 hw1
    rw [← crashTo_zero K fs] at hown2
    have HO := sec hown2
    have HB2 := sec hb2
    have HB3 := sec hb3
    have HSZ := sec hsz
    clear hown hown2 hb1 hb2 hb3 hwb hq hg2 g1 g2 hgb HX HB c0 c1 c0y hB1 HG hg0 hsz
    go_loopw [24, 7, 8] (fun iv _ _ wr => ∃ i : Nat, iv = .int .i64 (i : Int) ∧ i ≤ n ∧ Sec (wr.ownsRow B1 105 3 (.slice A' n cap') n ((crashTo K i fs).flatMap fileC)) ∧ Sec (Blk wr (p + 1) 24 #[.slice none 0 0, .int .i64 0]) ∧ Sec (Blk wr q 24 #[.slice A' n cap', .int .i64 (-1)]) ∧ Gr w wr) (fun iv _ _ _ => n - (intOf iv).toNat)
    case atStart => exact ⟨0, rfl, by omega, HO, HB2, HB3, hgB⟩
    case round =>
      obtain ⟨i, rfl, hi, HOw, H2, H3, hg⟩ := hrel
      by_cases hlt : i < n
      · have hif : i < fs.length := by omega
        have hii : (i : Int) < (n : Int) := by omega
        obtain ⟨b, off, rfl, e0, e1, e2⟩ := FRow.cell (fs := crashTo K i fs) (Row.own HOw.out) (i := i) (by rw [crashTo_len]; exact hif)
        rw [crashTo_get K i fs hif] at e0 e1 e2
        have hbo : off = 0 ∧ B1 ≤ b := by
          rcases HOw.out.2 with ⟨h, h0⟩ | ⟨g, _, _, h, hB, _⟩
          · injection h with h; cases h
          · injection h with h; injection h with h; injection h with h h'; exact ⟨h', by omega⟩
        obtain ⟨rfl, hBb⟩ := hbo
        have fz : ∀ j, wr.frozen? ⟨b, j, none⟩ = false := fun j => HOw.out.frozenAt j
        have f1 : wr.frozen? ⟨b, 0 + i * 3 + 1, none⟩ = false := fz _
        have f2 : wr.frozen? ⟨b, 0 + i * 3 + 2, none⟩ = false := fz _
        have hsz := HSZ.out fs[i] (List.getElem_mem hif)
        have HSU : Sec (crashTo K (i + 1) fs = (crashTo K i fs).set i (crashF K fs[i])) := sec (crashTo_succ K i fs hif)
        have HGT : Sec ((crashTo K i fs)[i]? = some fs[i]) := sec (by rw [List.getElem?_eq_getElem (by rw [crashTo_len]; exact hif), crashTo_get K i fs hif])
        obtain ⟨x, hxx⟩ : ∃ x, x = fs[i] := ⟨_, rfl⟩
        rw [← hxx] at e0 e1 e2 hsz HSU HGT
        clear hxx hif
        obtain ⟨nm, sf, tl⟩ := x
        simp only [Nat.zero_add] at e0 e1 e2 hsz HSU f1 f2
        obtain ⟨_, hz1, hz2⟩ := hsz
        have hqb : b ≠ q := fun e => by
          have := own_blk_ne HOw.out H3.out (by decide)
          exact this (by rw [e]; rfl)
        have d3 : wr.cell? ⟨q, 0, none⟩ = some (.slice (some ⟨b, 0, none⟩) n cap') := H3.out.cell 0
        have hpb : b ≠ p + 1 := fun e => by
          have := own_blk_ne HOw.out H2.out (by decide)
          exact this (by rw [e]; rfl)
        have hpq : w.heap.size ≤ p + 1 := by omega
        have hwb : w.heap.size ≤ b := by omega
        have hnext : ∀ s : List UInt8, s = sf ++ tl.take K → ((wr.setCell ⟨b, i * 3 + 1, none⟩ (.string (bs s))).setCell ⟨b, i * 3 + 2, none⟩ (.string (bs []))).ownsRow B1 105 3 (.slice (some ⟨b, 0, none⟩) n cap') n ((crashTo K (i + 1) fs).flatMap fileC) := fun s hs => by
          have := own_file2 HOw.out i nm sf tl s [] HGT.out
          rw [HSU.out, crashF, ← hs]; exact this
        have HNX := sec hnext
        have HK2 : Sec (∀ s : List UInt8, Blk ((wr.setCell ⟨b, i * 3 + 1, none⟩ (.string (bs s))).setCell ⟨b, i * 3 + 2, none⟩ (.string (bs []))) (p + 1) 24 #[.slice none 0 0, .int .i64 0]) := sec (fun s => (H2.out.far (p := ⟨b, i * 3 + 1, none⟩) (Ne.symm hpb) _).far (p := ⟨b, i * 3 + 2, none⟩) (Ne.symm hpb) _)
        have HK3 : Sec (∀ s : List UInt8, Blk ((wr.setCell ⟨b, i * 3 + 1, none⟩ (.string (bs s))).setCell ⟨b, i * 3 + 2, none⟩ (.string (bs []))) q 24 #[.slice (some ⟨b, 0, none⟩) n cap', .int .i64 (-1)]) := sec (fun s => (H3.out.far (p := ⟨b, i * 3 + 1, none⟩) (Ne.symm hqb) _).far (p := ⟨b, i * 3 + 2, none⟩) (Ne.symm hqb) _)
        have HKG : Sec (∀ s : List UInt8, Gr w ((wr.setCell ⟨b, i * 3 + 1, none⟩ (.string (bs s))).setCell ⟨b, i * 3 + 2, none⟩ (.string (bs [])))) := sec (fun s => (hg.setCell (p := ⟨b, i * 3 + 1, none⟩) hwb _).setCell (p := ⟨b, i * 3 + 2, none⟩) hwb _)
        clear hnext HSU HGT fz hpq hpb hqb HO HB2 HB3 hgB
        by_cases hkl : K ≤ tl.length
        · have q2 : (K : Int) ≤ (tl.length : Int) := by omega
          go_wp2_with fail
          go_region
          go_wp2_with fail
          go_roundw
          case rel => exact ⟨i + 1, by go_num, by omega, sec (HNX.out _ rfl), sec (HK2.out _), sec (HK3.out _), (HKG.out _).drew⟩
          case measure => simp [intOf]; omega
        · have q2 : ¬ (K : Int) ≤ (tl.length : Int) := by omega
          have htk : tl.take K = tl := List.take_of_length_le (by omega)
          rw [htk] at HNX
          clear htk
          go_wp2_with fail
          go_region
          go_wp2_with fail
          go_roundw
          case rel => exact ⟨i + 1, by go_num, by omega, sec (HNX.out _ rfl), sec (HK2.out _), sec (HK3.out _), (HKG.out _).drew⟩
          case measure => simp [intOf]; omega
      · obtain rfl : i = n := by omega
        have d30 : wr.cell? ⟨q, 0, none⟩ = some (.slice A' i cap') := H3.out.cell 0
        have d31 : wr.cell? ⟨q, 1, none⟩ = some (.int .i64 (-1)) := H3.out.cell 1
        have d20 : wr.cell? ⟨p + 1, 0, none⟩ = some (.slice none 0 0) := H2.out.cell 0
        have d21 : wr.cell? ⟨p + 1, 1, none⟩ = some (.int .i64 0) := H2.out.cell 1
        have f20 : wr.frozen? ⟨p + 1, 0, none⟩ = false := H2.out.frozen 0
        have f21 : wr.frozen? ⟨p + 1, 1, none⟩ = false := H2.out.frozen 1
        clear hlt hi
        go_wp2_with fail
        have hB5 := (H2.out.set_ 0 (.slice A' i cap')).set_ 1 (.int .i64 (-1))
        refine bodyPost_ret (results_blk_tmp rfl _ rfl hB5 aggDisk) rfl ?_
        have hne := own_blk_ne HOw.out H2.out (by decide)
        have ho3 := ownsRow_setCell_other (ownsRow_setCell_other HOw.out (a := ⟨p + 1, 0, none⟩) hne (.slice A' i cap')) (a := ⟨p + 1, 1, none⟩) hne (.int .i64 (-1))
        rw [← hl, crashTo_all, hl] at ho3
        refine ⟨A', cap', rfl, Row.own ho3, (hg.setCell (p := ⟨p + 1, 0, none⟩) (by show w.heap.size ≤ p + 1; omega) _).setCell (p := ⟨p + 1, 1, none⟩) (by show w.heap.size ≤ p + 1; omega) _, .inr (own_low ho3 (by omega))⟩
  · have HR : Sec (crashR fs f keep = (fs, f, 3)) := sec (by unfold crashR; rw [if_neg hgk])
    rw [HR.out]
    have hW : ∀ w1, Gr wa w1 → Blk ((w1.setCell ⟨p + 1, 0, none⟩ (.slice A n cap)).setCell ⟨p + 1, 1, none⟩ (.int .i64 f)) (p + 1) 24 #[.slice A n cap, .int .i64 f] := fun w1 g1 => ((HR2.out.gr g1).set_ 0 (.slice A n cap)).set_ 1 (.int .i64 f)
    have hV : ∀ w1, Gr wa w1 → Gr w ((w1.setCell ⟨p + 1, 0, none⟩ (.slice A n cap)).setCell ⟨p + 1, 1, none⟩ (.int .i64 f)) := fun w1 g1 => ((hg0.trans g1).setCell (p := ⟨p + 1, 0, none⟩) (by show w.heap.size ≤ p + 1; omega) _).setCell (p := ⟨p + 1, 1, none⟩) (by show w.heap.size ≤ p + 1; omega) _
    have HW := sec hW
    have HV := sec hV
    clear hW hV
    cases hgf : goodFs fs with
    | false =>
      rw [hgf] at HG
      clear hgf hgk
      go_enter Tryz.func27, Tryz.ntmps27
      go_wp2_with (first | (rw [← hwa, ← hp]; clear hwa hp; go_wp2_with fail) | (go_at_call 75; refine Calls.mono HG.out ?_; rintro e w1 ⟨rfl, g1⟩; have c0y : w1.cell? ⟨p, 0, none⟩ = some (.slice A n cap) := (HB.out.gr g1).cell 0; have c1y : w1.cell? ⟨p, 1, none⟩ = some (.int .i64 f) := (HB.out.gr g1).cell 1; have d20 : w1.cell? ⟨p + 1, 0, none⟩ = some (.slice none 0 0) := (HR2.out.gr g1).cell 0; have d21 : w1.cell? ⟨p + 1, 1, none⟩ = some (.int .i64 0) := (HR2.out.gr g1).cell 1; have f20 : w1.frozen? ⟨p + 1, 0, none⟩ = false := (HR2.out.gr g1).frozen 0; have f21 : w1.frozen? ⟨p + 1, 1, none⟩ = false := (HR2.out.gr g1).frozen 1))
      refine bodyPost_ret (results_blk_tmp rfl _ rfl (HW.out w1 g1) aggDisk) rfl ?_
      exact ⟨A, cap, rfl, FRow.gr HX0.out (HV.out w1 g1), HV.out w1 g1, .inl rfl⟩
    | true =>
      rw [hgf] at HG
      have q1 : decide (keep < 0) = true := decide_eq_true (by have : ¬ 0 ≤ keep := fun h => hgk ⟨hgf, h⟩; omega)
      clear hgf hgk
      go_enter Tryz.func27, Tryz.ntmps27
      go_wp2_with (first | (rw [← hwa, ← hp]; clear hwa hp; go_wp2_with fail) | (go_at_call 75; refine Calls.mono HG.out ?_; rintro e w1 ⟨rfl, g1⟩; have c0y : w1.cell? ⟨p, 0, none⟩ = some (.slice A n cap) := (HB.out.gr g1).cell 0; have c1y : w1.cell? ⟨p, 1, none⟩ = some (.int .i64 f) := (HB.out.gr g1).cell 1; have d20 : w1.cell? ⟨p + 1, 0, none⟩ = some (.slice none 0 0) := (HR2.out.gr g1).cell 0; have d21 : w1.cell? ⟨p + 1, 1, none⟩ = some (.int .i64 0) := (HR2.out.gr g1).cell 1; have f20 : w1.frozen? ⟨p + 1, 0, none⟩ = false := (HR2.out.gr g1).frozen 0; have f21 : w1.frozen? ⟨p + 1, 1, none⟩ = false := (HR2.out.gr g1).frozen 1))
      refine bodyPost_ret (results_blk_tmp rfl _ rfl (HW.out w1 g1) aggDisk) rfl ?_
      exact ⟨A, cap, rfl, FRow.gr HX0.out (HV.out w1 g1), HV.out w1 g1, .inl rfl⟩
end Go.Proofs.YtoamnifnfkgbiaaGreatDoor

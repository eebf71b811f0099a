/-
  PkR3: contracts and plain laws joined (5 texts). No conditions but those that each states.
-/
import Derived.Test.YtoamnifnfkgbiaaGreatDoorDiskRead
import Derived.Test.YtoamnifnfkgbiaaGreatDoorHeadStill
import Derived.StillTailTactics
import Derived.Lib.Overlaps
import Derived.Lib.AppendZerosOnto
import Derived.Laws.CopyOwn
import Derived.Deep.RegionWith
import Derived.Deep.CutRange
namespace Go.Proofs.YtoamnifnfkgbiaaGreatDoor
open Go.RowKit
set_option linter.unusedVariables false
/-- P6.7: the files, the fuse, the error -/
def crashR (fs : List Fl) (f keep : Int) : List Fl × Int × Int :=
  if goodFs fs = true ∧ 0 ≤ keep then (fs.map (crashF keep.toNat), -1, 0) else (fs, f, 3)
def crashTo (K i : Nat) (fs : List Fl) : List Fl := (fs.take i).map (crashF K) ++ fs.drop i
theorem crashTo_zero (K : Nat) (fs : List Fl) : crashTo K 0 fs = fs := by simp [crashTo]
theorem crashTo_all (K : Nat) (fs : List Fl) : crashTo K fs.length fs = fs.map (crashF K) := by simp [crashTo]
theorem crashTo_len (K i : Nat) (fs : List Fl) : (crashTo K i fs).length = fs.length := by simp [crashTo]; omega
theorem crashTo_get (K i : Nat) (fs : List Fl) (h : i < fs.length) : (crashTo K i fs)[i]'(by rw [crashTo_len]; exact h) = fs[i] := by
  unfold crashTo
  rw [List.getElem_append_right (by rw [List.length_map, List.length_take]; exact Nat.min_le_left _ _)]
  rw [List.getElem_drop]
  congr 1
  rw [List.length_map, List.length_take]
  omega
theorem crashTo_succ (K i : Nat) (fs : List Fl) (h : i < fs.length) : crashTo K (i + 1) fs = (crashTo K i fs).set i (crashF K fs[i]) := by
  unfold crashTo
  rw [List.set_append_right _ _ (by rw [List.length_map, List.length_take]; exact Nat.min_le_left _ _)]
  rw [List.take_succ_eq_append_getElem h, List.map_append, List.drop_eq_getElem_cons h]
  rw [List.length_map, List.length_take, Nat.min_eq_left (Nat.le_of_lt h), Nat.sub_self, List.set_cons_zero, List.append_assoc]
  rfl

theorem own_low {w : World} {B B' e size n : Nat} {v : Value} {xs : List Value} (h : w.ownsRow B e size v n xs) (hle : B' ≤ B) : w.ownsRow B' e size v n xs := by
  refine ⟨h.1, ?_⟩
  rcases h.2 with h0 | ⟨g, cap, cur, hv, hB, r⟩
  · exact .inl h0
  · exact .inr ⟨g, cap, cur, hv, Nat.le_trans hle hB, r⟩
theorem own_set {w : World} {B e size n cap g : Nat} {xs : List Value} (h : w.ownsRow B e size (.slice (some ⟨g, 0, none⟩) n cap) n xs) (j : Nat) (hj : j < xs.length) (u : Value) :
    (w.setCell ⟨g, j, none⟩ u).ownsRow B e size (.slice (some ⟨g, 0, none⟩) n cap) n (xs.set j u) := by
  have hl := h.1
  refine ⟨by rw [List.length_set]; exact hl, ?_⟩
  rcases h.2 with ⟨h0, _⟩ | ⟨g', cap', cur, hv, hB, hh, hle, hm, hs, ht⟩
  · cases h0
  · injection hv with hv hv2 hv3
    injection hv with hv
    injection hv with hv _ _
    subst hv hv3
    refine .inr ⟨g, cap, cur.setIfInBounds j u, rfl, hB, ?_, hle, hm, by rw [Array.size_setIfInBounds]; exact hs, ?_⟩
    · have : Blk w g e cur := hh
      exact this.set_ j u
    · rw [Array.toList_setIfInBounds, List.take_set, ht]
theorem flat_set (fs : List Fl) : ∀ (i : Nat) (h : i < fs.length) (j : Nat) (u : Value) (f' : Fl), j < 3 → fileC f' = (fileC fs[i]).set j u → (fs.flatMap fileC).set (i * 3 + j) u = (fs.set i f').flatMap fileC := by
  induction fs with
  | nil => intro i h; simp at h
  | cons f r ih =>
    intro i h j u f' hj he
    cases i with
    | zero =>
      simp only [List.getElem_cons_zero] at he
      rw [List.flatMap_cons, List.set_append_left _ _ (by simp [fileC]; omega), Nat.zero_mul, Nat.zero_add, ← he]
      rfl
    | succ i =>
      simp only [List.getElem_cons_succ] at he
      have := ih i (by simpa using h) j u f' hj he
      rw [List.flatMap_cons, List.set_append_right _ _ (by simp [fileC]; omega), List.set_cons_succ, List.flatMap_cons, ← this]
      congr 2
      simp [fileC]; omega

theorem own_file2 {w : World} {B e n cap g : Nat} {fs : List Fl} (h : w.ownsRow B e 3 (.slice (some ⟨g, 0, none⟩) n cap) n (fs.flatMap fileC)) (i : Nat) (nm sf tl s t : List UInt8) (hi : fs[i]? = some (nm, sf, tl)) :
    ((w.setCell ⟨g, i * 3 + 1, none⟩ (.string (bs s))).setCell ⟨g, i * 3 + 2, none⟩ (.string (bs t))).ownsRow B e 3 (.slice (some ⟨g, 0, none⟩) n cap) n ((fs.set i (nm, s, t)).flatMap fileC) := by
  obtain ⟨hl, hg⟩ := List.getElem?_eq_some_iff.1 hi
  have hfl : (fs.flatMap fileC).length = fs.length * 3 := flat_len fileC 3 (fun _ => rfl) fs
  have o1 := own_set h (i * 3 + 1) (by rw [hfl]; omega) (.string (bs s))
  rw [flat_set fs i hl 1 (.string (bs s)) (nm, s, tl) (by omega) (by rw [hg]; rfl)] at o1
  have hfl2 : ((fs.set i (nm, s, tl)).flatMap fileC).length = fs.length * 3 := by rw [flat_len fileC 3 (fun _ => rfl), List.length_set]
  have o2 := own_set o1 (i * 3 + 2) (by rw [hfl2]; omega) (.string (bs t))
  rw [flat_set (fs.set i (nm, s, tl)) i (by rw [List.length_set]; exact hl) 2 (.string (bs t)) (nm, s, t) (by omega) (by rw [List.getElem_set_self]; rfl), List.set_set] at o2
  exact o2

set_option maxRecDepth 100000 in
set_option maxHeartbeats 4000000 in
theorem crash_any (fs : List Fl) (A : Option Addr) (n cap : Nat) (f keep : Int) (w : World) (hn : n ≤ 1099511627776) (hx : FRow w A n fs) (hA : A = none → n = 0 ∧ cap = 0) (hs : ∀ f ∈ fs, f.1.length ≤ 1099511627776 ∧ f.2.1.length ≤ 1099511627776 ∧ f.2.2.length ≤ 1099511627776) :
    Calls Tryz.prog 27 #[diskV A n cap f, .int .i64 keep] w fun e w' => ∃ A' cap', e = .returned (.tuple #[diskV A' n cap' (crashR fs f keep).2.1, .int .i64 (crashR fs f keep).2.2]) ∧ FRow w' A' n (crashR fs f keep).1 ∧ Gr w w' ∧ (A' = A ∨ w'.ownsRow w.heap.size 105 3 (.slice A' n cap') n ((crashR fs f keep).1.flatMap fileC)) := by
  have hg0 := ((Gr.refl w).alloc (.cells #[.slice A n cap, .int .i64 f] 24)).alloc (.cells #[.slice none 0 0, .int .i64 0] 24)
  have hb1 := (Blk.new w 24 #[.slice A n cap, .int .i64 f]).alloc (.cells #[.slice none 0 0, .int .i64 0] 24)
  have hb2 := Blk.new1 w (.cells #[.slice A n cap, .int .i64 f] 24) 24 #[.slice none 0 0, .int .i64 0]
  have HG := sec (dgood_any fs A n cap f _ hn (hx.gr hg0) hs)
  have hl := hx.len
  have HX := sec (hx.gr hg0)
  obtain ⟨wa, hwa⟩ : ∃ x, x = (w.alloc (.cells #[.slice A n cap, .int .i64 f] 24)).alloc (.cells #[.slice none 0 0, .int .i64 0] 24) := ⟨_, rfl⟩
  rw [← hwa] at hg0 hb1 hb2 HG HX
  obtain ⟨p, hp⟩ : ∃ p, p = w.heap.size := ⟨_, rfl⟩
  have hwp : w.heap.size ≤ p := by omega
  rw [← hp] at hb1 hb2
  have c0 : wa.cell? ⟨p, 0, none⟩ = some (.slice A n cap) := hb1.cell 0
  have c1 : wa.cell? ⟨p, 1, none⟩ = some (.int .i64 f) := hb1.cell 1
  have HB := sec hb1
  have HR2 := sec hb2
  have HX0 := sec hx
  clear hb1 hb2 hs hx
  unfold diskV at HG
  unfold diskV
  by_cases hgk : goodFs fs = true ∧ 0 ≤ keep
  · have HR : Sec (crashR fs f keep = (fs.map (crashF keep.toNat), -1, 0)) := sec (by unfold crashR; rw [if_pos hgk])
    rw [HR.out]
    obtain ⟨hgf, hk0⟩ := hgk
    have hsz := goodFs_ok hgf
    rw [hgf] at HG
    have q1 : decide (keep < 0) = false := decide_eq_false (by omega)
    clear hgf
    obtain ⟨K, rfl⟩ : ∃ K : Nat, keep = (K : Int) := ⟨keep.toNat, by omega⟩
    rw [Int.toNat_natCast]
    go_enter Tryz.func27, Tryz.ntmps27
    go_wp2_with (first | (rw [← hwa, ← hp]; clear hwa hp; go_wp2_with fail) | (go_at_call 75; refine Calls.mono HG.out ?_; rintro e w1 ⟨rfl, g1⟩; have c0y : w1.cell? ⟨p, 0, none⟩ = some (.slice A n cap) := (HB.out.gr g1).cell 0) | (go_at_call 64; refine Calls.mono (clone_any fs A n cap _ hn (HX.out.gr g1) hA) ?_; rintro e w2 ⟨A', cap', rfl, hown, g2⟩))
    have hg2 := g1.trans g2
    have hb1 := (HB.out.gr hg2).alloc (.cells #[.slice A' n cap', .int .i64 (-1)] 24)
    have hb2 := (HR2.out.gr hg2).alloc (.cells #[.slice A' n cap', .int .i64 (-1)] 24)
    have hb3 := Blk.new w2 24 #[.slice A' n cap', .int .i64 (-1)]
    have hgb := hg2.alloc (.cells #[.slice A' n cap', .int .i64 (-1)] 24)
    have hown2 := own_gr hown ((Gr.refl w2).alloc (.cells #[.slice A' n cap', .int .i64 (-1)] 24))
    have hwq : w.heap.size ≤ w2.heap.size := Nat.le_trans hg0.size hg2.size
    have hw1 : w.heap.size ≤ w1.heap.size := Nat.le_trans hg0.size g1.size
    obtain ⟨wb, hwb⟩ : ∃ x, x = w2.alloc (.cells #[.slice A' n cap', .int .i64 (-1)] 24) := ⟨_, rfl⟩
    obtain ⟨q, hq⟩ : ∃ q, q = w2.heap.size := ⟨_, rfl⟩
    rw [← hwb] at hb1 hb2 hb3 hgb hown2
    rw [← hq] at hb3 hwq
    rw [← hwb, ← hq]
    have hgB := hg0.trans hgb
    obtain ⟨B1, hB1⟩ : ∃ B1, B1 = w1.heap.size := ⟨_, rfl⟩
    rw [← hB1] at hown2 hw1
    rw [← crashTo_zero K fs] at hown2
    have HO := sec hown2
    have HB2 := sec hb2
    have HB3 := sec hb3
    have HSZ := sec hsz
    clear hown hown2 hb1 hb2 hb3 hwb hq hg2 g1 g2 hgb HX HB c0 c1 c0y hB1 HG hg0 hsz
    go_loopw [24, 7, 8] (fun iv _ _ wr => ∃ i : Nat, iv = .int .i64 (i : Int) ∧ i ≤ n ∧ Sec (wr.ownsRow B1 105 3 (.slice A' n cap') n ((crashTo K i fs).flatMap fileC)) ∧ Sec (Blk wr (p + 1) 24 #[.slice none 0 0, .int .i64 0]) ∧ Sec (Blk wr q 24 #[.slice A' n cap', .int .i64 (-1)]) ∧ Gr w wr) (fun iv _ _ _ => n - (intOf iv).toNat)
    case atStart => exact ⟨0, rfl, by omega, HO, HB2, HB3, hgB⟩
    case round =>
      obtain ⟨i, rfl, hi, HOw, H2, H3, hg⟩ := hrel
      by_cases hlt : i < n
      · have hif : i < fs.length := by omega
        have hii : (i : Int) < (n : Int) := by omega
        obtain ⟨b, off, rfl, e0, e1, e2⟩ := FRow.cell (fs := crashTo K i fs) (Row.own HOw.out) (i := i) (by rw [crashTo_len]; exact hif)
        rw [crashTo_get K i fs hif] at e0 e1 e2
        have hbo : off = 0 ∧ B1 ≤ b := by
          rcases HOw.out.2 with ⟨h, h0⟩ | ⟨g, _, _, h, hB, _⟩
          · injection h with h; cases h
          · injection h with h; injection h with h; injection h with h h'; exact ⟨h', by omega⟩
        obtain ⟨rfl, hBb⟩ := hbo
        have fz : ∀ j, wr.frozen? ⟨b, j, none⟩ = false := fun j => HOw.out.frozenAt j
        have f1 : wr.frozen? ⟨b, 0 + i * 3 + 1, none⟩ = false := fz _
        have f2 : wr.frozen? ⟨b, 0 + i * 3 + 2, none⟩ = false := fz _
        have hsz := HSZ.out fs[i] (List.getElem_mem hif)
        have HSU : Sec (crashTo K (i + 1) fs = (crashTo K i fs).set i (crashF K fs[i])) := sec (crashTo_succ K i fs hif)
        have HGT : Sec ((crashTo K i fs)[i]? = some fs[i]) := sec (by rw [List.getElem?_eq_getElem (by rw [crashTo_len]; exact hif), crashTo_get K i fs hif])
        obtain ⟨x, hxx⟩ : ∃ x, x = fs[i] := ⟨_, rfl⟩
        rw [← hxx] at e0 e1 e2 hsz HSU HGT
        clear hxx hif
        obtain ⟨nm, sf, tl⟩ := x
        simp only [Nat.zero_add] at e0 e1 e2 hsz HSU f1 f2
        obtain ⟨_, hz1, hz2⟩ := hsz
        have hqb : b ≠ q := fun e => by
          have := own_blk_ne HOw.out H3.out (by decide)
          exact this (by rw [e]; rfl)
        have d3 : wr.cell? ⟨q, 0, none⟩ = some (.slice (some ⟨b, 0, none⟩) n cap') := H3.out.cell 0
        have hpb : b ≠ p + 1 := fun e => by
          have := own_blk_ne HOw.out H2.out (by decide)
          exact this (by rw [e]; rfl)
        have hpq : w.heap.size ≤ p + 1 := by omega
        have hwb : w.heap.size ≤ b := by omega
        have hnext : ∀ s : List UInt8, s = sf ++ tl.take K → ((wr.setCell ⟨b, i * 3 + 1, none⟩ (.string (bs s))).setCell ⟨b, i * 3 + 2, none⟩ (.string (bs []))).ownsRow B1 105 3 (.slice (some ⟨b, 0, none⟩) n cap') n ((crashTo K (i + 1) fs).flatMap fileC) := fun s hs => by
          have := own_file2 HOw.out i nm sf tl s [] HGT.out
          rw [HSU.out, crashF, ← hs]; exact this
        have HNX := sec hnext
        have HK2 : Sec (∀ s : List UInt8, Blk ((wr.setCell ⟨b, i * 3 + 1, none⟩ (.string (bs s))).setCell ⟨b, i * 3 + 2, none⟩ (.string (bs []))) (p + 1) 24 #[.slice none 0 0, .int .i64 0]) := sec (fun s => (H2.out.far (p := ⟨b, i * 3 + 1, none⟩) (Ne.symm hpb) _).far (p := ⟨b, i * 3 + 2, none⟩) (Ne.symm hpb) _)
        have HK3 : Sec (∀ s : List UInt8, Blk ((wr.setCell ⟨b, i * 3 + 1, none⟩ (.string (bs s))).setCell ⟨b, i * 3 + 2, none⟩ (.string (bs []))) q 24 #[.slice (some ⟨b, 0, none⟩) n cap', .int .i64 (-1)]) := sec (fun s => (H3.out.far (p := ⟨b, i * 3 + 1, none⟩) (Ne.symm hqb) _).far (p := ⟨b, i * 3 + 2, none⟩) (Ne.symm hqb) _)
        have HKG : Sec (∀ s : List UInt8, Gr w ((wr.setCell ⟨b, i * 3 + 1, none⟩ (.string (bs s))).setCell ⟨b, i * 3 + 2, none⟩ (.string (bs [])))) := sec (fun s => (hg.setCell (p := ⟨b, i * 3 + 1, none⟩) hwb _).setCell (p := ⟨b, i * 3 + 2, none⟩) hwb _)
        clear hnext HSU HGT fz hpq hpb hqb HO HB2 HB3 hgB
        by_cases hkl : K ≤ tl.length
        · have q2 : (K : Int) ≤ (tl.length : Int) := by omega
          go_wp2_with fail
          go_region
          go_wp2_with fail
          go_roundw
          case rel => exact ⟨i + 1, by go_num, by omega, sec (HNX.out _ rfl), sec (HK2.out _), sec (HK3.out _), (HKG.out _).drew⟩
          case measure => simp [intOf]; omega
        · have q2 : ¬ (K : Int) ≤ (tl.length : Int) := by omega
          have htk : tl.take K = tl := List.take_of_length_le (by omega)
          rw [htk] at HNX
          clear htk
          go_wp2_with fail
          go_region
          go_wp2_with fail
          go_roundw
          case rel => exact ⟨i + 1, by go_num, by omega, sec (HNX.out _ rfl), sec (HK2.out _), sec (HK3.out _), (HKG.out _).drew⟩
          case measure => simp [intOf]; omega
      · obtain rfl : i = n := by omega
        have d30 : wr.cell? ⟨q, 0, none⟩ = some (.slice A' i cap') := H3.out.cell 0
        have d31 : wr.cell? ⟨q, 1, none⟩ = some (.int .i64 (-1)) := H3.out.cell 1
        have d20 : wr.cell? ⟨p + 1, 0, none⟩ = some (.slice none 0 0) := H2.out.cell 0
        have d21 : wr.cell? ⟨p + 1, 1, none⟩ = some (.int .i64 0) := H2.out.cell 1
        have f20 : wr.frozen? ⟨p + 1, 0, none⟩ = false := H2.out.frozen 0
        have f21 : wr.frozen? ⟨p + 1, 1, none⟩ = false := H2.out.frozen 1
        clear hlt hi
        go_wp2_with fail
        have hB5 := (H2.out.set_ 0 (.slice A' i cap')).set_ 1 (.int .i64 (-1))
        refine bodyPost_ret (results_blk_tmp rfl _ rfl hB5 aggDisk) rfl ?_
        have hne := own_blk_ne HOw.out H2.out (by decide)
        have ho3 := ownsRow_setCell_other (ownsRow_setCell_other HOw.out (a := ⟨p + 1, 0, none⟩) hne (.slice A' i cap')) (a := ⟨p + 1, 1, none⟩) hne (.int .i64 (-1))
        rw [← hl, crashTo_all, hl] at ho3
        refine ⟨A', cap', rfl, Row.own ho3, (hg.setCell (p := ⟨p + 1, 0, none⟩) (by show w.heap.size ≤ p + 1; omega) _).setCell (p := ⟨p + 1, 1, none⟩) (by show w.heap.size ≤ p + 1; omega) _, .inr (own_low ho3 (by omega))⟩
  · have HR : Sec (crashR fs f keep = (fs, f, 3)) := sec (by unfold crashR; rw [if_neg hgk])
    rw [HR.out]
    have hW : ∀ w1, Gr wa w1 → Blk ((w1.setCell ⟨p + 1, 0, none⟩ (.slice A n cap)).setCell ⟨p + 1, 1, none⟩ (.int .i64 f)) (p + 1) 24 #[.slice A n cap, .int .i64 f] := fun w1 g1 => ((HR2.out.gr g1).set_ 0 (.slice A n cap)).set_ 1 (.int .i64 f)
    have hV : ∀ w1, Gr wa w1 → Gr w ((w1.setCell ⟨p + 1, 0, none⟩ (.slice A n cap)).setCell ⟨p + 1, 1, none⟩ (.int .i64 f)) := fun w1 g1 => ((hg0.trans g1).setCell (p := ⟨p + 1, 0, none⟩) (by show w.heap.size ≤ p + 1; omega) _).setCell (p := ⟨p + 1, 1, none⟩) (by show w.heap.size ≤ p + 1; omega) _
    have HW := sec hW
    have HV := sec hV
    clear hW hV
    cases hgf : goodFs fs with
    | false =>
      rw [hgf] at HG
      clear hgf hgk
      go_enter Tryz.func27, Tryz.ntmps27
      go_wp2_with (first | (rw [← hwa, ← hp]; clear hwa hp; go_wp2_with fail) | (go_at_call 75; refine Calls.mono HG.out ?_; rintro e w1 ⟨rfl, g1⟩; have c0y : w1.cell? ⟨p, 0, none⟩ = some (.slice A n cap) := (HB.out.gr g1).cell 0; have c1y : w1.cell? ⟨p, 1, none⟩ = some (.int .i64 f) := (HB.out.gr g1).cell 1; have d20 : w1.cell? ⟨p + 1, 0, none⟩ = some (.slice none 0 0) := (HR2.out.gr g1).cell 0; have d21 : w1.cell? ⟨p + 1, 1, none⟩ = some (.int .i64 0) := (HR2.out.gr g1).cell 1; have f20 : w1.frozen? ⟨p + 1, 0, none⟩ = false := (HR2.out.gr g1).frozen 0; have f21 : w1.frozen? ⟨p + 1, 1, none⟩ = false := (HR2.out.gr g1).frozen 1))
      refine bodyPost_ret (results_blk_tmp rfl _ rfl (HW.out w1 g1) aggDisk) rfl ?_
      exact ⟨A, cap, rfl, FRow.gr HX0.out (HV.out w1 g1), HV.out w1 g1, .inl rfl⟩
    | true =>
      rw [hgf] at HG
      have q1 : decide (keep < 0) = true := decide_eq_true (by have : ¬ 0 ≤ keep := fun h => hgk ⟨hgf, h⟩; omega)
      clear hgf hgk
      go_enter Tryz.func27, Tryz.ntmps27
      go_wp2_with (first | (rw [← hwa, ← hp]; clear hwa hp; go_wp2_with fail) | (go_at_call 75; refine Calls.mono HG.out ?_; rintro e w1 ⟨rfl, g1⟩; have c0y : w1.cell? ⟨p, 0, none⟩ = some (.slice A n cap) := (HB.out.gr g1).cell 0; have c1y : w1.cell? ⟨p, 1, none⟩ = some (.int .i64 f) := (HB.out.gr g1).cell 1; have d20 : w1.cell? ⟨p + 1, 0, none⟩ = some (.slice none 0 0) := (HR2.out.gr g1).cell 0; have d21 : w1.cell? ⟨p + 1, 1, none⟩ = some (.int .i64 0) := (HR2.out.gr g1).cell 1; have f20 : w1.frozen? ⟨p + 1, 0, none⟩ = false := (HR2.out.gr g1).frozen 0; have f21 : w1.frozen? ⟨p + 1, 1, none⟩ = false := (HR2.out.gr g1).frozen 1))
      refine bodyPost_ret (results_blk_tmp rfl _ rfl (HW.out w1 g1) aggDisk) rfl ?_
      exact ⟨A, cap, rfl, FRow.gr HX0.out (HV.out w1 g1), HV.out w1 g1, .inl rfl⟩
end Go.Proofs.YtoamnifnfkgbiaaGreatDoor

namespace Go.Proofs.YtoamnifnfkgbiaaGreatDoor
open Go.RowKit
set_option linter.unusedVariables false
theorem Row.lit {w : World} {g : Nat} {t : TypeId} {cs : Array Value} (h : Blk w g t cs) : Row w cs.size (some ⟨g, 0, none⟩) 1 cs.toList :=
  ⟨by simp, fun _ => ⟨g, 0, rfl, fun i v hv => by rw [Nat.zero_add, h.cell]; simpa using hv⟩⟩
theorem map_succ (K i : Nat) (fs : List Fl) (h : i < fs.length) : ((fs.take (i + 1)).map (crashF K)).flatMap fileC = ((fs.take i).map (crashF K)).flatMap fileC ++ fileC (crashF K fs[i]) := by
  rw [List.take_succ_eq_append_getElem h, List.map_append, List.flatMap_append]
  simp

set_option maxRecDepth 100000 in
set_option maxHeartbeats 4000000 in
theorem rcrash_any (fs : List Fl) (A : Option Addr) (n cap : Nat) (f keep : Int) (w : World) (hn : n ≤ 1099511627776) (hx : FRow w A n fs) (hA : A = none → n = 0 ∧ cap = 0) (hs : ∀ f ∈ fs, f.1.length ≤ 1099511627776 ∧ f.2.1.length ≤ 1099511627776 ∧ f.2.2.length ≤ 1099511627776) :
    Calls Tryz.prog 40 #[diskV A n cap f, .int .i64 keep] w fun e w' => ∃ A' cap', e = .returned (.tuple #[diskV A' n cap' (crashR fs f keep).2.1, .int .i64 (crashR fs f keep).2.2]) ∧ FRow w' A' n (crashR fs f keep).1 ∧ Gr w w' ∧ (A' = A ∨ w'.ownsRow w.heap.size 105 3 (.slice A' n cap') n ((crashR fs f keep).1.flatMap fileC)) := by
  have hg0 := ((Gr.refl w).alloc (.cells #[.slice A n cap, .int .i64 f] 24)).alloc (.cells #[.slice none 0 0, .int .i64 0] 24)
  have hb1 := (Blk.new w 24 #[.slice A n cap, .int .i64 f]).alloc (.cells #[.slice none 0 0, .int .i64 0] 24)
  have hb2 := Blk.new1 w (.cells #[.slice A n cap, .int .i64 f] 24) 24 #[.slice none 0 0, .int .i64 0]
  have HG := sec (drgood_any fs A n cap f _ hn (hx.gr hg0) hs)
  have hl := hx.len
  have HX := sec (hx.gr hg0)
  obtain ⟨wa, hwa⟩ : ∃ x, x = (w.alloc (.cells #[.slice A n cap, .int .i64 f] 24)).alloc (.cells #[.slice none 0 0, .int .i64 0] 24) := ⟨_, rfl⟩
  rw [← hwa] at hg0 hb1 hb2 HG HX
  obtain ⟨p, hp⟩ : ∃ p, p = w.heap.size := ⟨_, rfl⟩
  have hwp : w.heap.size ≤ p := by omega
  rw [← hp] at hb1 hb2
  have c0 : wa.cell? ⟨p, 0, none⟩ = some (.slice A n cap) := hb1.cell 0
  have c1 : wa.cell? ⟨p, 1, none⟩ = some (.int .i64 f) := hb1.cell 1
  have HB := sec hb1
  have HR2 := sec hb2
  have HX0 := sec hx
  clear hb1 hb2 hs hx
  unfold diskV at HG
  unfold diskV
  by_cases hgk : goodFs fs = true ∧ 0 ≤ keep
  · have HR : Sec (crashR fs f keep = (fs.map (crashF keep.toNat), -1, 0)) := sec (by unfold crashR; rw [if_pos hgk])
    rw [HR.out]
    obtain ⟨hgf, hk0⟩ := hgk
    have hsz := goodFs_ok hgf
    rw [hgf] at HG
    have q1 : decide (keep < 0) = false := decide_eq_false (by omega)
    clear hgf
    obtain ⟨K, rfl⟩ : ∃ K : Nat, keep = (K : Int) := ⟨keep.toNat, by omega⟩
    rw [Int.toNat_natCast]
    go_enter Tryz.func40, Tryz.ntmps40
    go_wp2_with (first | (rw [← hwa, ← hp]; clear hwa hp; go_wp2_with fail) | (go_at_call 86; refine Calls.mono HG.out ?_; rintro e w1 ⟨rfl, g1⟩; have HX1 := sec (HX.out.gr g1); have c0z : (w1.alloc (.cells #[.slice none 0 0, .int .i64 (-1)] 24)).cell? ⟨p, 0, none⟩ = some (.slice A n cap) := ((HB.out.gr g1).alloc _).cell 0; have c0y : w1.cell? ⟨p, 0, none⟩ = some (.slice A n cap) := (HB.out.gr g1).cell 0))
    have hb2 := (HR2.out.gr g1).alloc (.cells #[.slice none 0 0, .int .i64 (-1)] 24)
    have hb3 := Blk.new w1 24 #[.slice none 0 0, .int .i64 (-1)]
    have hgb := g1.alloc (.cells #[.slice none 0 0, .int .i64 (-1)] 24)
    have hx1 := HX1.out.gr ((Gr.refl w1).alloc (.cells #[.slice none 0 0, .int .i64 (-1)] 24))
    have hwq : w.heap.size ≤ w1.heap.size := Nat.le_trans hg0.size g1.size
    obtain ⟨wb, hwb⟩ : ∃ x, x = w1.alloc (.cells #[.slice none 0 0, .int .i64 (-1)] 24) := ⟨_, rfl⟩
    obtain ⟨q, hq⟩ : ∃ q, q = w1.heap.size := ⟨_, rfl⟩
    have hpq : p + 1 < w1.heap.size := (HR2.out.gr g1).lt
    rw [← hwb] at hb2 hb3 hgb hx1
    rw [← hq] at hb3 hwq hpq
    rw [← hwb, ← hq]
    have hgB := hg0.trans hgb
    have HB2 := sec hb2
    have HB3 := sec hb3
    have HSZ := sec hsz
    have HO : Sec (wb.ownsRow w.heap.size 105 3 (.slice none 0 0) 0 (((fs.take 0).map (crashF K)).flatMap fileC)) := sec (World.ownsRow_nil _ _ _ _)
    clear hb2 hb3 hwb hq g1 hgb c0z HX HX1 hx1 HB c0 c1 c0y HG hg0 hsz HR2 HR
    go_loopw [22, 8, 9] (fun iv _ _ wr => ∃ (i : Nat) (A1 : Option Addr) (k1 : Nat), iv = .int .i64 (i : Int) ∧ i ≤ n ∧ Sec (wr.ownsRow w.heap.size 105 3 (.slice A1 i k1) i (((fs.take i).map (crashF K)).flatMap fileC)) ∧ Sec (Blk wr (p + 1) 24 #[.slice none 0 0, .int .i64 0]) ∧ Sec (Blk wr q 24 #[.slice A1 i k1, .int .i64 (-1)]) ∧ Gr w wr) (fun iv _ _ _ => n - (intOf iv).toNat)
    case atStart => exact ⟨0, none, 0, rfl, by omega, HO, HB2, HB3, hgB⟩
    case round =>
      clear HO HB2 HB3 hgB
      obtain ⟨i, A1, k1, rfl, hi, HOw, H2, H3, hg⟩ := hrel
      by_cases hlt : i < n
      · have hif : i < fs.length := by omega
        have hii : (i : Int) < (n : Int) := by omega
        obtain ⟨b, off, rfl, e0, e1, e2⟩ := (HX0.out.gr hg).cell hif
        have hsz := HSZ.out fs[i] (List.getElem_mem hif)
        have HMS : Sec (((fs.take (i + 1)).map (crashF K)).flatMap fileC = ((fs.take i).map (crashF K)).flatMap fileC ++ fileC (crashF K fs[i])) := sec (map_succ K i fs hif)
        obtain ⟨x, hxx⟩ : ∃ x, x = fs[i] := ⟨_, rfl⟩
        rw [← hxx] at e0 e1 e2 hsz HMS
        clear hxx hif
        obtain ⟨nm, sf, tl⟩ := x
        simp only at e0 e1 e2 hsz HMS
        obtain ⟨_, hz1, hz2⟩ := hsz
        have d3 : wr.cell? ⟨q, 0, none⟩ = some (.slice A1 i k1) := H3.out.cell 0
        have fq0 : wr.frozen? ⟨q, 0, none⟩ = false := H3.out.frozen 0
        have hb1 : (i + 1) * 48 ≤ 140737488355328 := by omega
        have hb2 : i + 1 ≤ maxLen := by unfold maxLen; omega
        have hql := H3.out.lt
        have hq0 : wr.heap.size ≠ q := by omega
        have HNE := sec (own_blk_ne HOw.out H3.out (by decide))
        have HNP := sec (own_blk_ne HOw.out H2.out (by decide))
        have hws := hg.size
        by_cases hkl : tl.length ≤ K
        · have q2 : (tl.length : Int) ≤ (K : Int) := by omega
          have htk : tl.take K = tl := List.take_of_length_le (by omega)
          simp only [crashF, htk] at HMS
          clear htk
          go_wp2_with (refine wpList_append_row E.file rfl (.tmp 36) (.tmp 44) rfl (B := w.heap.size) (A0 := A1) (n0 := i) (cap0 := k1) rfl (own_gr HOw.out (((Gr.refl wr).alloc _).alloc _)) rfl (Row.lit (Blk.new1 wr _ 105 #[.string (bs nm), .string (bs (sf ++ tl)), .string (bs [])])) (by intro h; cases h) (by intro u hu; simp at hu; rcases hu with rfl | rfl | rfl <;> rfl) hb1 hb2 (by simp; omega) ?_; intro A2 k2 w2 hown hgn; have h3 := ((H3.out.alloc (.cells #[.string (bs nm), .string (bs sf), .string (bs tl)] 105)).alloc (.cells #[.string (bs nm), .string (bs (sf ++ tl)), .string (bs [])] 105)).grown hgn (Ne.symm HNE.out); have h2 := ((H2.out.alloc (.cells #[.string (bs nm), .string (bs sf), .string (bs tl)] 105)).alloc (.cells #[.string (bs nm), .string (bs (sf ++ tl)), .string (bs [])] 105)).grown hgn (Ne.symm HNP.out); have dq0 : w2.cell? ⟨q, 0, none⟩ = some (.slice A1 i k1) := h3.cell 0; have fq : w2.frozen? ⟨q, 0, none⟩ = false := h3.frozen 0)
          go_roundw
          case rel =>
            refine ⟨i + 1, A2, k2, by go_num, by omega, sec ?_, sec (h2.far (p := ⟨q, 0, none⟩) (by show p + 1 ≠ q; omega) _), sec (h3.set_ 0 (.slice A2 (i + 1) k2)), ?_⟩
            · rw [HMS.out]
              exact ownsRow_setCell_other hown (a := ⟨q, 0, none⟩) (own_blk_ne hown h3 (by decide)) _
            · exact (Gr.grown ((hg.alloc _).alloc _) hgn (fun k hk => (HOw.out.lt k hk).1)).setCell (p := ⟨q, 0, none⟩) hwq _
          case measure => simp [intOf]; omega
        · have q2 : ¬ (tl.length : Int) ≤ (K : Int) := by omega
          have q3 : K ≤ tl.length := by omega
          simp only [crashF] at HMS
          go_wp2_with (refine wpList_append_row E.file rfl (.tmp 36) (.tmp 44) rfl (B := w.heap.size) (A0 := A1) (n0 := i) (cap0 := k1) rfl (own_gr HOw.out (((Gr.refl wr).alloc _).alloc _)) rfl (Row.lit (Blk.new1 wr _ 105 #[.string (bs nm), .string (bs (sf ++ (tl.take K))), .string (bs [])])) (by intro h; cases h) (by intro u hu; simp at hu; rcases hu with rfl | rfl | rfl <;> rfl) hb1 hb2 (by simp; omega) ?_; intro A2 k2 w2 hown hgn; have h3 := ((H3.out.alloc (.cells #[.string (bs nm), .string (bs sf), .string (bs tl)] 105)).alloc (.cells #[.string (bs nm), .string (bs (sf ++ (tl.take K))), .string (bs [])] 105)).grown hgn (Ne.symm HNE.out); have h2 := ((H2.out.alloc (.cells #[.string (bs nm), .string (bs sf), .string (bs tl)] 105)).alloc (.cells #[.string (bs nm), .string (bs (sf ++ (tl.take K))), .string (bs [])] 105)).grown hgn (Ne.symm HNP.out); have dq0 : w2.cell? ⟨q, 0, none⟩ = some (.slice A1 i k1) := h3.cell 0; have fq : w2.frozen? ⟨q, 0, none⟩ = false := h3.frozen 0)
          go_roundw
          case rel =>
            refine ⟨i + 1, A2, k2, by go_num, by omega, sec ?_, sec (h2.far (p := ⟨q, 0, none⟩) (by show p + 1 ≠ q; omega) _), sec (h3.set_ 0 (.slice A2 (i + 1) k2)), ?_⟩
            · rw [HMS.out]
              exact ownsRow_setCell_other hown (a := ⟨q, 0, none⟩) (own_blk_ne hown h3 (by decide)) _
            · exact (Gr.grown ((hg.alloc _).alloc _) hgn (fun k hk => (HOw.out.lt k hk).1)).setCell (p := ⟨q, 0, none⟩) hwq _
          case measure => simp [intOf]; omega
      · obtain rfl : i = n := by omega
        have d30 : wr.cell? ⟨q, 0, none⟩ = some (.slice A1 i k1) := H3.out.cell 0
        have d31 : wr.cell? ⟨q, 1, none⟩ = some (.int .i64 (-1)) := H3.out.cell 1
        have d20 : wr.cell? ⟨p + 1, 0, none⟩ = some (.slice none 0 0) := H2.out.cell 0
        have d21 : wr.cell? ⟨p + 1, 1, none⟩ = some (.int .i64 0) := H2.out.cell 1
        have f20 : wr.frozen? ⟨p + 1, 0, none⟩ = false := H2.out.frozen 0
        have f21 : wr.frozen? ⟨p + 1, 1, none⟩ = false := H2.out.frozen 1
        clear hlt hi
        go_wp2_with fail
        have hB5 := (H2.out.set_ 0 (.slice A1 i k1)).set_ 1 (.int .i64 (-1))
        refine bodyPost_ret (results_blk_tmp rfl _ rfl hB5 aggDisk) rfl ?_
        have hne := own_blk_ne HOw.out H2.out (by decide)
        have ho3 := ownsRow_setCell_other (ownsRow_setCell_other HOw.out (a := ⟨p + 1, 0, none⟩) hne (.slice A1 i k1)) (a := ⟨p + 1, 1, none⟩) hne (.int .i64 (-1))
        rw [show fs.take i = fs from List.take_of_length_le (by omega)] at ho3
        refine ⟨A1, k1, rfl, Row.own ho3, (hg.setCell (p := ⟨p + 1, 0, none⟩) (by show w.heap.size ≤ p + 1; omega) _).setCell (p := ⟨p + 1, 1, none⟩) (by show w.heap.size ≤ p + 1; omega) _, .inr ho3⟩
  · have HR : Sec (crashR fs f keep = (fs, f, 3)) := sec (by unfold crashR; rw [if_neg hgk])
    rw [HR.out]
    have hW : ∀ w1, Gr wa w1 → Blk ((w1.setCell ⟨p + 1, 0, none⟩ (.slice A n cap)).setCell ⟨p + 1, 1, none⟩ (.int .i64 f)) (p + 1) 24 #[.slice A n cap, .int .i64 f] := fun w1 g1 => ((HR2.out.gr g1).set_ 0 (.slice A n cap)).set_ 1 (.int .i64 f)
    have hV : ∀ w1, Gr wa w1 → Gr w ((w1.setCell ⟨p + 1, 0, none⟩ (.slice A n cap)).setCell ⟨p + 1, 1, none⟩ (.int .i64 f)) := fun w1 g1 => ((hg0.trans g1).setCell (p := ⟨p + 1, 0, none⟩) (by show w.heap.size ≤ p + 1; omega) _).setCell (p := ⟨p + 1, 1, none⟩) (by show w.heap.size ≤ p + 1; omega) _
    have HW := sec hW
    have HV := sec hV
    clear hW hV
    cases hgf : goodFs fs with
    | false =>
      rw [hgf] at HG
      clear hgf hgk
      go_enter Tryz.func40, Tryz.ntmps40
      go_wp2_with (first | (rw [← hwa, ← hp]; clear hwa hp; go_wp2_with fail) | (go_at_call 86; refine Calls.mono HG.out ?_; rintro e w1 ⟨rfl, g1⟩; have c0y : w1.cell? ⟨p, 0, none⟩ = some (.slice A n cap) := (HB.out.gr g1).cell 0; have c1y : w1.cell? ⟨p, 1, none⟩ = some (.int .i64 f) := (HB.out.gr g1).cell 1; have d20 : w1.cell? ⟨p + 1, 0, none⟩ = some (.slice none 0 0) := (HR2.out.gr g1).cell 0; have d21 : w1.cell? ⟨p + 1, 1, none⟩ = some (.int .i64 0) := (HR2.out.gr g1).cell 1; have f20 : w1.frozen? ⟨p + 1, 0, none⟩ = false := (HR2.out.gr g1).frozen 0; have f21 : w1.frozen? ⟨p + 1, 1, none⟩ = false := (HR2.out.gr g1).frozen 1))
      refine bodyPost_ret (results_blk_tmp rfl _ rfl (HW.out w1 g1) aggDisk) rfl ?_
      exact ⟨A, cap, rfl, FRow.gr HX0.out (HV.out w1 g1), HV.out w1 g1, .inl rfl⟩
    | true =>
      rw [hgf] at HG
      have q1 : decide (keep < 0) = true := decide_eq_true (by have : ¬ 0 ≤ keep := fun h => hgk ⟨hgf, h⟩; omega)
      clear hgf hgk
      go_enter Tryz.func40, Tryz.ntmps40
      go_wp2_with (first | (rw [← hwa, ← hp]; clear hwa hp; go_wp2_with fail) | (go_at_call 86; refine Calls.mono HG.out ?_; rintro e w1 ⟨rfl, g1⟩; have c0y : w1.cell? ⟨p, 0, none⟩ = some (.slice A n cap) := (HB.out.gr g1).cell 0; have c1y : w1.cell? ⟨p, 1, none⟩ = some (.int .i64 f) := (HB.out.gr g1).cell 1; have d20 : w1.cell? ⟨p + 1, 0, none⟩ = some (.slice none 0 0) := (HR2.out.gr g1).cell 0; have d21 : w1.cell? ⟨p + 1, 1, none⟩ = some (.int .i64 0) := (HR2.out.gr g1).cell 1; have f20 : w1.frozen? ⟨p + 1, 0, none⟩ = false := (HR2.out.gr g1).frozen 0; have f21 : w1.frozen? ⟨p + 1, 1, none⟩ = false := (HR2.out.gr g1).frozen 1))
      refine bodyPost_ret (results_blk_tmp rfl _ rfl (HW.out w1 g1) aggDisk) rfl ?_
      exact ⟨A, cap, rfl, FRow.gr HX0.out (HV.out w1 g1), HV.out w1 g1, .inl rfl⟩
end Go.Proofs.YtoamnifnfkgbiaaGreatDoor

namespace Go.Proofs.YtoamnifnfkgbiaaGreatDoor
open Go.RowKit
set_option linter.unusedVariables false
/-! ### plain lists -/
theorem splice_eq {α : Type} (L : List α) (off : Nat) (cs : List α) : Go.splice L off cs = L.take off ++ (cs ++ L.drop (off + cs.length)) := rfl
theorem ins_room {α : Type} (L xs x : List α) (o m k : Nat) (hL : L.take m = xs) (hm : xs.length = m) (ho : o ≤ m) (hk : x.length = k) (hl : m + k ≤ L.length) :
    (Go.splice (Go.splice L (o + k) (xs.drop o)) o x).take (m + k) = xs.take o ++ (x ++ xs.drop o) := by
  have h0 : (xs.drop o).length = m - o := by rw [List.length_drop]; omega
  have h1 : Go.splice L (o + k) (xs.drop o) = L.take (o + k) ++ (xs.drop o ++ L.drop (m + k)) := by
    rw [splice_eq, h0, show o + k + (m - o) = m + k by omega]
  rw [h1, splice_eq, hk]
  have h2 : (L.take (o + k) ++ (xs.drop o ++ L.drop (m + k))).take o = xs.take o := by
    rw [List.take_append_of_le_length (by rw [List.length_take]; omega), List.take_take, ← hL, List.take_take]
    congr 1; omega
  have h3 : (L.take (o + k) ++ (xs.drop o ++ L.drop (m + k))).drop (o + k) = xs.drop o ++ L.drop (m + k) := by
    rw [List.drop_append_of_le_length (by rw [List.length_take]; omega), List.drop_eq_nil_of_le (by rw [List.length_take]; omega)]; rfl
  rw [h2, h3, ← List.append_assoc, ← List.append_assoc]
  rw [List.take_append_of_le_length (by simp; omega), List.take_of_length_le (by simp; omega), List.append_assoc]
theorem ins_grow {α : Type} (R xs x : List α) (o m k : Nat) (hR : R.take o = xs.take o) (hm : xs.length = m) (ho : o ≤ m) (hk : x.length = k) (hl : m + k ≤ R.length) :
    (Go.splice (Go.splice R o x) (o + k) (xs.drop o)).take (m + k) = xs.take o ++ (x ++ xs.drop o) := by
  have h0 : (xs.drop o).length = m - o := by rw [List.length_drop]; omega
  have h1 : Go.splice R o x = xs.take o ++ (x ++ R.drop (o + k)) := by rw [splice_eq, hk, hR]
  have h2 : (Go.splice R o x).take (o + k) = xs.take o ++ x := by
    rw [h1, ← List.append_assoc, List.take_append_of_le_length (by simp; omega), List.take_of_length_le (by simp; omega)]
  have h3 : (Go.splice (Go.splice R o x) (o + k) (xs.drop o)) = xs.take o ++ x ++ (xs.drop o ++ (Go.splice R o x).drop (o + k + (m - o))) := by
    rw [splice_eq (Go.splice R o x), h2, h0]
  rw [h3, ← List.append_assoc, List.take_append_of_le_length (by simp; omega), List.take_of_length_le (by simp; omega), List.append_assoc]
theorem del_room {α : Type} (L xs : List α) (o m k : Nat) (hL : L.take m = xs) (hm : xs.length = m) (ho : o + k ≤ m) (hl : m ≤ L.length) (z : List α) (hz : z.length = k) :
    (Go.splice (Go.splice L o (xs.drop (o + k))) (m - k) z).take (m - k) = xs.take o ++ xs.drop (o + k) := by
  have h0 : (xs.drop (o + k)).length = m - k - o := by rw [List.length_drop]; omega
  have h1 : Go.splice L o (xs.drop (o + k)) = L.take o ++ (xs.drop (o + k) ++ L.drop (m - k)) := by
    rw [splice_eq, h0, show o + (m - k - o) = m - k by omega]
  have h4 : L.take o = xs.take o := by rw [← hL, List.take_take]; congr 1; omega
  rw [splice_eq, List.take_append_of_le_length (by rw [List.length_take, h1]; simp; omega), List.take_take, Nat.min_self, h1, h4, ← List.append_assoc,
    List.take_append_of_le_length (by simp; omega), List.take_of_length_le (by simp; omega)]

/-! ### copy, clear of elements of more than one cell -/
theorem run_copy_rowN {P : Program} (w : World) (dT sT ty elem : TypeId) (g o dLen dCap : Nat) (a : Addr) (sLen sCap size : Nat) (cur : Array Value) (t : TypeId) (cs : List Value)
    (hu : P.underlying dT = some (.slice elem)) (hs : (P.info? elem).map (·.size) = some size)
    (hg : w.heap[g]? = some (.cells cur t (0, 0))) (hn : cs.length = Nat.min sLen dLen * size)
    (hsrc : ∀ j v, cs[j]? = some v → w.cell? (a.add j) = some v) (hfit : o + cs.length ≤ cur.size) (h1 : ∀ v ∈ cs, v.oneCell' = true) :
    (Builtin.copy_ #[dT, sT] ty #[.slice (some ⟨g, o, none⟩) dLen dCap, .slice (some a) sLen sCap]).run P w =
      .ok (goInt (Nat.min sLen dLen)) (w.setRow g (Go.splice cur.toList o cs).toArray) := by
  have hl := run_loadCells_list (P := P) w a cs hsrc
  have hst := run_storeCells_at P g o t cs 0 cur w hg (by simpa using hfit) h1
  cases hq : P.info? elem with
  | none => simp [hq] at hs
  | some i =>
    have hi : i.size = size := by simpa [hq] using hs
    have hf := run_firstCells_some (P := P) w size (Nat.min sLen dLen) a sLen sCap cs hn hsrc
    rw [splice_eq]
    simp [Builtin.copy_, run_underlying hu, Builtin.lenOf, sizeOf, typeInfo, hq, hi, hf, hst, List.append_assoc]

theorem wp_copy_run (w : World) {P : Program} {o : Oper} {a : Act} {K : Act → World → Prop} {Q : Exit → Act → World → Prop} (d s : Operand) (t t' : TypeId)
    (ho : o.op = .call { callee := .builtin .copy, args := #[d, s], argTypes := #[t, t'] }) (v u : Value) (hd : a.eval d = v) (hs : a.eval s = u) {v' : Value} {w' : World}
    (hr : (Builtin.copy_ #[t, t'] o.type #[v, u]).run P w = .ok v' w') (h : K (a.put o.dst v') w') : o.wp P a w K Q := by
  unfold Oper.wp execOp
  simp only [ho, resolve, invoke, builtin, Sem.run_bind, Sem.run_pure, Result.andThen_ok, List.map_toArray, List.map_cons, List.map_nil, hd, hs, hr]
  exact h
theorem wpList_copy_run (w : World) {P : Program} {ops : Array Oper} {rest : List Oper} {o : Oper} {a : Act} {Q : Exit → Act → World → Prop} (hgd : o.guard = none) (d s : Operand) (t t' : TypeId)
    (ho : o.op = .call { callee := .builtin .copy, args := #[d, s], argTypes := #[t, t'] }) (v u : Value) (hd : a.eval d = v) (hs : a.eval s = u) {v' : Value} {w' : World}
    (hr : (Builtin.copy_ #[t, t'] o.type #[v, u]).run P w = .ok v' w') (h : wpList P ops Q rest (a.put o.dst v') w') : wpList P ops Q (o :: rest) a w :=
  wpList_plain hgd fun _ hK => wp_copy_run w d s t t' ho v u hd hs hr (hK _ _ h)
theorem step_copy_run {P : Program} {ops : Array Oper} {o : Oper} {a : Act} {w : World} {K : Act → World → Prop} {Q : Exit → Act → World → Prop} {E : Prop}
    (hg : o.guard = none) (d x : Operand) (dT sT : TypeId) (hop : o.op = Op.call { callee := Callee.builtin Builtin.copy, args := #[d, x], argTypes := #[dT, sT] })
    (v u : Value) (hd : a.eval d = v) (hx : a.eval x = u) {v' : Value} {w' : World} (hr : (Builtin.copy_ #[dT, sT] o.type #[v, u]).run P w = .ok v' w') (hK : K (a.put o.dst v') w') :
    if Region.wanted o (yielded ops a.tmps) = true then Oper.wp P o a w K Q else E := by
  have hw : Region.wanted o (yielded ops a.tmps) = true := by simp [Region.wanted, hg]
  rw [if_pos hw]
  exact wp_copy_run w d x dT sT hop v u hd hx hr hK
theorem fileSize : (Tryz.prog.info? 105).map (·.size) = some 3 := by
  obtain ⟨i0, hi0, _, h1, _⟩ := info_parts E.file.info
  rw [hi0]; simp [h1]
theorem sizeOfFile : ∀ w, (Go.sizeOf 105).run Tryz.prog w = .ok 3 w := by
  intro w
  obtain ⟨i0, hi0, _, h1, _⟩ := info_parts E.file.info
  simp [sizeOf, typeInfo, hi0, h1]

set_option maxHeartbeats 4000000 in
set_option maxRecDepth 100000 in
/-- there is room, i < n: in place -/
theorem ins_shift (g cap n i gv vc : Nat) (cur x : List Value) (w : World) (hi : i < n) (hroom : n + 1 ≤ cap) (hcap : cap ≤ maxLen) (hgv : gv ≠ g) (hg : Blk w g 105 cur.toArray) (hs : cur.length = cap * 3)
    (hv : Blk w gv 105 x.toArray) (hx : x.length = 3) (h1 : ∀ v ∈ cur.take (n * 3), v.oneCell' = true) (h1v : ∀ v ∈ x, v.oneCell' = true) :
    Calls Tryz.prog 196 #[.slice (some ⟨g, 0, none⟩) n cap, .int .i64 (i : Int), .slice (some ⟨gv, 0, none⟩) 1 vc] w fun e w' =>
      e = .returned (.slice (some ⟨g, 0, none⟩) (n + 1) cap) ∧ Blk w' g 105 (Go.splice (Go.splice cur (i * 3 + 3) ((cur.take (n * 3)).drop (i * 3))) (i * 3) x).toArray ∧ w.grownBy w' (some g) := by
  have hcs : (cur.take (n * 3)).length = n * 3 := by rw [List.length_take]; omega
  obtain ⟨xs, hxs⟩ : ∃ xs, xs = cur.take (n * 3) := ⟨_, rfl⟩
  have hov : ∀ lb cb, (callFunc 207 #[.slice (some ⟨gv, 0, none⟩) 1 vc, .slice (some ⟨g, (i + 1) * 3, none⟩) lb cb]).run Tryz.prog w = .ok (.value (.bool false)) w := fun lb cb => by
    rw [run_callFunc_extern Tryz.func207 (by kernel_rfl) (by kernel_rfl) (by kernel_rfl) (e := Extern.SlicesOverlaps.overlaps #[22, 22] #[4]) (by kernel_rfl),
      Lib.run_overlaps_apart w 22 4 105 E.file.under 3 sizeOfFile ⟨gv, 0, none⟩ ⟨g, (i + 1) * 3, none⟩ 1 vc lb cb hgv 105 105 3 (cap * 3)
        (by unfold World.shape?; rw [hv]; simp [hx]) (by unfold World.shape?; rw [hg]; simp [hs]) (by omega) (hv.frozen 0) (hv.frozen 3)]
    rfl
  have hdl : ((cur.take (n * 3)).drop (i * 3)).length = n * 3 - i * 3 := by rw [List.length_drop, hcs]
  have hcp1 : ∀ ty dc sc, (Builtin.copy_ #[22, 22] ty #[.slice (some ⟨g, (i + 1) * 3, none⟩) (n - i) dc, .slice (some ⟨g, i * 3, none⟩) (n + 1 - i) sc]).run Tryz.prog w.drew = .ok (goInt ((n - i : Nat) : Int)) (w.drew.setRow g (Go.splice cur ((i + 1) * 3) ((cur.take (n * 3)).drop (i * 3))).toArray) := fun ty dc sc => by
    have := run_copy_rowN (P := Tryz.prog) w.drew 22 22 ty 105 g ((i + 1) * 3) (n - i) dc ⟨g, i * 3, none⟩ (n + 1 - i) sc 3 cur.toArray 105 ((cur.take (n * 3)).drop (i * 3)) E.file.under fileSize hg.drew
      (by rw [hdl, show Nat.min (n + 1 - i) (n - i) = n - i by simp only [Nat.min_def]; split <;> omega, Nat.sub_mul])
      (fun j v hj => by
        rw [Addr.add_lit]
        rw [List.getElem?_drop, List.getElem?_take] at hj
        split at hj
        · exact (hg.drew.cell _).trans (by simpa using hj)
        · cases hj)
      (by rw [hdl, List.size_toArray, hs]; omega) (fun v hv => h1 v (List.mem_of_mem_drop hv))
    rw [show Nat.min (n + 1 - i) (n - i) = n - i by simp only [Nat.min_def]; split <;> omega] at this
    exact this
  obtain ⟨c1, hc1⟩ : ∃ c1, c1 = Go.splice cur ((i + 1) * 3) ((cur.take (n * 3)).drop (i * 3)) := ⟨_, rfl⟩
  rw [← hc1] at hcp1
  have hc1l : c1.length = cap * 3 := by rw [hc1, Go.length_splice _ _ _ (by rw [hdl, hs]; omega), hs]
  have hg1 : Blk (w.drew.setRow g c1.toArray) g 105 c1.toArray := hg.drew.of_setRow _
  have hv1 : Blk (w.drew.setRow g c1.toArray) gv 105 x.toArray := hv.drew.only (grown_setRow w.drew g _) hgv
  have hcp2 : ∀ ty dc, (Builtin.copy_ #[22, 22] ty #[.slice (some ⟨g, i * 3, none⟩) (n + 1 - i) dc, .slice (some ⟨gv, 0, none⟩) 1 vc]).run Tryz.prog (w.drew.setRow g c1.toArray) = .ok (goInt 1) ((w.drew.setRow g c1.toArray).setRow g (Go.splice c1 (i * 3) x).toArray) := fun ty dc => by
    have := run_copy_rowN (P := Tryz.prog) (w.drew.setRow g c1.toArray) 22 22 ty 105 g (i * 3) (n + 1 - i) dc ⟨gv, 0, none⟩ 1 vc 3 c1.toArray 105 x E.file.under fileSize hg1
      (by rw [hx, show Nat.min 1 (n + 1 - i) = 1 by simp only [Nat.min_def]; split <;> omega])
      (fun j v hj => by rw [Addr.add_lit, Nat.zero_add]; exact (hv1.cell _).trans (by simpa using hj))
      (by rw [hx, List.size_toArray, hc1l]; omega) h1v
    rw [show Nat.min 1 (n + 1 - i) = 1 by simp only [Nat.min_def]; split <;> omega] at this
    exact this
  have HE : Sec (Go.splice (Go.splice cur (i * 3 + 3) ((cur.take (n * 3)).drop (i * 3))) (i * 3) x = Go.splice c1 (i * 3) x) := sec (by rw [hc1, show (i + 1) * 3 = i * 3 + 3 by omega])
  have HB : Sec (Blk ((w.drew.setRow g c1.toArray).setRow g (Go.splice c1 (i * 3) x).toArray) g 105 (Go.splice c1 (i * 3) x).toArray) := sec (hg1.of_setRow _)
  have HGW : Sec (w.grownBy ((w.drew.setRow g c1.toArray).setRow g (Go.splice c1 (i * 3) x).toArray) (some g)) := sec ⟨rfl, rfl, rfl, by simp [World.setRow], fun k hk hne => by
    rw [setRow_other _ g k _ (fun e => hne (by rw [e])), setRow_other _ g k _ (fun e => hne (by rw [e]))]; rfl⟩
  have hz2 : ¬ ((i : Int) = (n : Int)) := by omega
  have hw1 : IntKind.i64.wrap ((i : Int) + 1) = (i : Int) + 1 := by rw [IntKind.wrap_i64]; unfold maxLen at hcap; omega
  have htn : ((i : Int) + 1).toNat = i + 1 := by omega
  have hb1 : (0 : Int) ≤ (i : Int) + 1 := by omega
  have hb3 : (i : Int) ≤ (n : Int) := by omega
  have hb6 : (i : Int) ≤ (n : Int) + 1 := by omega
  have hb2 : ¬ (cap = i + 1) := by omega
  have hb4 : ¬ (cap = i) := by omega
  have hb5 : ¬ (cap < n + 1) := by omega
  have hm : cap ≤ 9223372036854775807 := by have := hcap; unfold maxLen at this; omega
  clear hc1 hc1l hg1 hv1 hdl hxs h1 h1v hg hv hs hcs
  go_enter Tryz.func196, Tryz.ntmps196
  go_wp2_with (simp only [hov])
  go_region_law (refine step_copy_run rfl _ _ 22 22 rfl _ _ (by simp [Act.eval, Act.put]) (by simp [Act.eval, Act.put]) (hcp1 _ _ _) ?_)
  go_wp2_with (at_builtin; refine wpList_copy_run _ rfl _ _ 22 22 rfl _ _ rfl rfl (hcp2 _ _) ?_)
  go_ret
  exact ⟨rfl, by rw [HE.out]; exact HB.out, HGW.out⟩

theorem wpList_append_runA (w : World) {P : Program} {ops : Array Oper} {rest : List Oper} {o : Oper} {a : Act} {Q : Exit → Act → World → Prop} (hgd : o.guard = none) (d s : Operand) (t t' : TypeId)
    (ho : o.op = .call { callee := .builtin .append, args := #[d, s], argTypes := #[t, t'] }) (v u : Value) (hd : a.eval d = v) (hs : a.eval s = u) {v' : Value} {w' : World}
    (hr : (Builtin.append_ #[t, t'] o.type #[v, u]).run P w = .ok v' w') (h : wpList P ops Q rest (a.put o.dst v') w') : wpList P ops Q (o :: rest) a w :=
  wpList_plain hgd fun _ hK => by
    unfold Oper.wp execOp
    simp only [ho, resolve, invoke, builtin, Sem.run_bind, Sem.run_pure, Result.andThen_ok, List.map_toArray, List.map_cons, List.map_nil, hd, hs, hr]
    exact hK _ _ h

set_option maxHeartbeats 4000000 in
set_option maxRecDepth 100000 in
/-- at the end -/
theorem ins_end (A : Option Addr) (n cap gv vc B : Nat) (xs x : List Value) (w : World) (hown : w.ownsRow B 105 3 (.slice A n cap) n xs) (hv : Blk w gv 105 x.toArray) (hx : x.length = 3) (h1v : ∀ v ∈ x, v.oneCell' = true) (hn : n ≤ 1099511627776) (hB : B ≤ w.heap.size) :
    Calls Tryz.prog 196 #[.slice A n cap, .int .i64 (n : Int), .slice (some ⟨gv, 0, none⟩) 1 vc] w fun e w' =>
      ∃ A' cap', e = .returned (.slice A' (n + 1) cap') ∧ w'.ownsRow B 105 3 (.slice A' (n + 1) cap') (n + 1) (xs ++ x) ∧ w.grownBy w' (Value.ownBlock (.slice A n cap)) := by
  have hb1 : (n + 1) * 48 ≤ 140737488355328 := by omega
  have hb2 : n + 1 ≤ maxLen := by unfold maxLen; omega
  have hrow : Row w 3 (some ⟨gv, 0, none⟩) 1 x := by have := Row.lit hv; simp [hx] at this; exact this
  have hnc : n ≤ cap := by
    rcases hown.2 with ⟨h, h0⟩ | ⟨_, _, _, h, _, _, h1, _⟩
    · omega
    · injection h with _ _ h; omega
  have HO := sec hown
  have HR := sec hrow
  have H1 := sec h1v
  clear hown hrow hv h1v
  cases A with
  | none =>
    have : n = 0 ∧ cap = 0 := by
      rcases HO.out.2 with ⟨h, h0⟩ | ⟨_, _, _, h, _⟩
      · injection h with _ _ h; exact ⟨h0, h⟩
      · injection h with h; cases h
    obtain ⟨rfl, rfl⟩ := this
    go_enter Tryz.func196, Tryz.ntmps196
    go_wp2_with (refine wpList_append_row E.file rfl (.tmp 23) (.tmp 24) rfl (B := B) (A0 := none) (n0 := 0) (cap0 := 0) (xs := xs) rfl HO.out rfl HR.out (by intro h; cases h) H1.out hb1 hb2 hB ?_; intro A' c' w' hown' hgn)
    go_ret
    exact ⟨A', c', rfl, hown', hgn⟩
  | some ad =>
    obtain ⟨g, hg⟩ : ∃ g, ad = ⟨g, 0, none⟩ := by
      rcases HO.out.2 with ⟨h, h0⟩ | ⟨g, _, _, h, _⟩
      · injection h with h; cases h
      · injection h with h; injection h with h; exact ⟨g, h⟩
    subst hg
    go_enter Tryz.func196, Tryz.ntmps196
    go_wp2_with (refine wpList_append_row E.file rfl (.tmp 23) (.tmp 24) rfl (B := B) (A0 := some ⟨g, 0, none⟩) (n0 := n) (cap0 := cap) (xs := xs) rfl HO.out rfl HR.out (by intro h; cases h) H1.out hb1 hb2 hB ?_; intro A' c' w' hown' hgn)
    all_goals
      go_ret
      exact ⟨A', c', rfl, hown', hgn⟩

set_option maxHeartbeats 4000000 in
set_option maxRecDepth 100000 in
/-- there is no room, i < n: a new row -/
theorem ins_grown (g cap n i gv vc : Nat) (cur x : List Value) (w : World) (hi : i < n) (hroom : cap < n + 1) (hnc : n ≤ cap) (hn : n ≤ 1099511627776) (hg : Blk w g 105 cur.toArray) (hs : cur.length = cap * 3)
    (hv : Blk w gv 105 x.toArray) (hx : x.length = 3) (h1 : ∀ v ∈ cur.take (n * 3), v.oneCell' = true) (h1v : ∀ v ∈ x, v.oneCell' = true) :
    Calls Tryz.prog 196 #[.slice (some ⟨g, 0, none⟩) n cap, .int .i64 (i : Int), .slice (some ⟨gv, 0, none⟩) 1 vc] w fun e w' =>
      ∃ (G : Nat) (R : List Value), e = .returned (.slice (some ⟨w.heap.size, 0, none⟩) (n + 1) G) ∧ n + 1 ≤ G ∧ G ≤ maxLen ∧ R.length = G * 3 ∧ R.take (i * 3) = (cur.take (n * 3)).take (i * 3) ∧
        Blk w' w.heap.size 105 (Go.splice (Go.splice R (i * 3) x) (i * 3 + 3) ((cur.take (n * 3)).drop (i * 3))).toArray ∧ w.grownBy w' none := by
  have hcs : (cur.take (n * 3)).length = n * 3 := by rw [List.length_take]; omega
  obtain ⟨xs, hxs⟩ : ∃ xs, xs = cur.take (n * 3) := ⟨_, rfl⟩
  rw [← hxs] at hcs h1
  rw [← hxs]
  obtain ⟨i0, hi0, hz0, hz1, hz2⟩ := info_parts E.file.info
  obtain ⟨k, hk⟩ : ∃ k, k = n + 1 - i := ⟨_, rfl⟩
  have hik : i + k = n + 1 := by omega
  obtain ⟨G, hG⟩ : ∃ G, G = grownCap w (n + 1) cap 105 := ⟨_, rfl⟩
  have hG1 : n + 1 ≤ G := by rw [hG]; exact grownCap_ge _ _ _ _
  have hG2 : G ≤ maxLen := by rw [hG]; exact grownCap_le_maxLen _ _ _ _ (by unfold maxLen; omega)
  have hcell : ∀ j v, xs[j]? = some v → w.cell? ⟨g, j, none⟩ = some v := fun j v hj => by
    rw [hxs, List.getElem?_take] at hj
    split at hj
    · exact (hg.cell _).trans (by simpa using hj)
    · cases hj
  have hold : (Builtin.firstCells i0.size i (.slice (some ⟨g, 0, none⟩) i cap)).run Tryz.prog w.drew = .ok (xs.take (i * 3)).toArray w.drew := by
    rw [hz1]
    exact run_firstCells_some w.drew 3 i ⟨g, 0, none⟩ i cap (xs.take (i * 3)) (by rw [List.length_take]; omega) (fun j v hj => by
      rw [Addr.add_lit, Nat.zero_add]
      rw [List.getElem?_take] at hj
      split at hj
      · exact hcell j v hj
      · cases hj)
  obtain ⟨R, hR⟩ : ∃ R : List Value, R = ((xs.take (i * 3)).toArray ++ Builtin.zeroCells (Value.agg #[.string (bs []), .string (bs []), .string (bs [])]).cells k ++ Builtin.zeroCells (Value.agg #[.string (bs []), .string (bs []), .string (bs [])]).cells (G - (i + k))).toList := ⟨_, rfl⟩
  have hrun : ∀ ty, (Builtin.append_ #[22, 3] ty #[.slice (some ⟨g, 0, none⟩) i cap, .int .i64 (k : Int)]).run Tryz.prog w = .ok (.slice (some ⟨w.heap.size, 0, none⟩) (n + 1) G) (w.drew.alloc (.cells R.toArray 105)) := fun ty => by
    have := Lib.run_append_grow_zeros (P := Tryz.prog) w 22 3 ty 105 i0 _ .i64 .i64 E.file.under Tryz.underlying3 hi0 hz0 (some ⟨g, 0, none⟩) i cap (xs.take (i * 3)) hold k (by omega) (by omega) (by omega) (by omega) (by rw [hz2]; omega)
      (by rw [hz2]; exact growslice_fits (by omega) (by omega))
    rw [this, hik, ← hG, hR, hik, Array.toArray_toList]
  have hRl : R.length = G * 3 := by
    rw [hR]
    have hz3 : (Value.agg #[.string (bs []), .string (bs []), .string (bs [])]).cells.size = 3 := E.file.zcells
    rw [Array.length_toList, Array.size_append, Array.size_append, size_zeroCells, size_zeroCells, hz3, List.size_toArray, List.length_take, hcs, Nat.min_eq_left (by omega)]
    omega
  have hRt : R.take (i * 3) = xs.take (i * 3) := by
    rw [hR]
    simp only [Array.toList_append, List.append_assoc]
    rw [List.take_append_of_le_length (by rw [List.length_take, hcs]; omega), List.take_take, Nat.min_self]
  have hgl := hg.lt
  have hvl := hv.lt
  obtain ⟨W0, hW0⟩ : ∃ W0, W0 = w.drew.alloc (.cells R.toArray 105) := ⟨_, rfl⟩
  have hRB : Blk W0 w.heap.size 105 R.toArray := by rw [hW0]; exact Blk.new w.drew _ _
  have hg0 : Blk W0 g 105 cur.toArray := by rw [hW0]; exact hg.drew.alloc _
  have hv0 : Blk W0 gv 105 x.toArray := by rw [hW0]; exact hv.drew.alloc _
  have hgr0 : w.grownBy W0 none := by rw [hW0]; exact ⟨rfl, rfl, rfl, by simp, fun k hk _ => Below.heap_alloc w.drew _ k hk⟩
  rw [← hW0] at hrun
  obtain ⟨g2, hg2⟩ : ∃ g2, g2 = w.heap.size := ⟨_, rfl⟩
  rw [← hg2] at hrun hRB hgl hvl
  rw [← hg2]
  have hcp1 : ∀ ty dc, (Builtin.copy_ #[22, 22] ty #[.slice (some ⟨g2, i * 3, none⟩) (n + 1 - i) dc, .slice (some ⟨gv, 0, none⟩) 1 vc]).run Tryz.prog W0 = .ok (goInt 1) (W0.setRow g2 (Go.splice R (i * 3) x).toArray) := fun ty dc => by
    have := run_copy_rowN (P := Tryz.prog) W0 22 22 ty 105 g2 (i * 3) (n + 1 - i) dc ⟨gv, 0, none⟩ 1 vc 3 R.toArray 105 x E.file.under fileSize hRB
      (by rw [hx, show Nat.min 1 (n + 1 - i) = 1 by simp only [Nat.min_def]; split <;> omega])
      (fun j v hj => by rw [Addr.add_lit, Nat.zero_add]; exact (hv0.cell _).trans (by simpa using hj))
      (by rw [hx, List.size_toArray, hRl]; omega) h1v
    rw [show Nat.min 1 (n + 1 - i) = 1 by simp only [Nat.min_def]; split <;> omega] at this
    exact this
  obtain ⟨c1, hc1⟩ : ∃ c1, c1 = Go.splice R (i * 3) x := ⟨_, rfl⟩
  rw [← hc1] at hcp1
  have hc1l : c1.length = G * 3 := by rw [hc1, Go.length_splice _ _ _ (by rw [hx, hRl]; omega), hRl]
  obtain ⟨W1, hW1⟩ : ∃ W1, W1 = W0.setRow g2 c1.toArray := ⟨_, rfl⟩
  have hRB1 : Blk W1 g2 105 c1.toArray := by rw [hW1]; exact hRB.of_setRow _
  have hgg1 : Blk W1 g 105 cur.toArray := by rw [hW1]; exact hg0.only (grown_setRow W0 g2 _) (by omega)
  have hgr1 : w.grownBy W1 none := by
    rw [hW1]
    exact ⟨hgr0.os, hgr0.tape, hgr0.output, by simpa [World.setRow] using hgr0.size, fun k hk hne => by rw [setRow_other _ g2 k _ (by omega)]; exact hgr0.block k hk hne⟩
  rw [← hW1] at hcp1
  have hdl : (xs.drop (i * 3)).length = n * 3 - i * 3 := by rw [List.length_drop, hcs]
  have hcp2 : ∀ ty dc sc, (Builtin.copy_ #[22, 22] ty #[.slice (some ⟨g2, (i + 1) * 3, none⟩) (n - i) dc, .slice (some ⟨g, i * 3, none⟩) (n - i) sc]).run Tryz.prog W1.drew = .ok (goInt ((n - i : Nat) : Int)) (W1.drew.setRow g2 (Go.splice c1 ((i + 1) * 3) (xs.drop (i * 3))).toArray) := fun ty dc sc => by
    have := run_copy_rowN (P := Tryz.prog) W1.drew 22 22 ty 105 g2 ((i + 1) * 3) (n - i) dc ⟨g, i * 3, none⟩ (n - i) sc 3 c1.toArray 105 (xs.drop (i * 3)) E.file.under fileSize hRB1.drew
      (by rw [hdl, show Nat.min (n - i) (n - i) = n - i by simp only [Nat.min_def]; split <;> omega, Nat.sub_mul])
      (fun j v hj => by
        rw [Addr.add_lit]
        rw [List.getElem?_drop, hxs, List.getElem?_take] at hj
        split at hj
        · exact (hgg1.drew.cell _).trans (by simpa using hj)
        · cases hj)
      (by rw [hdl, List.size_toArray, hc1l]; omega) (fun v hv => h1 v (List.mem_of_mem_drop hv))
    rw [show Nat.min (n - i) (n - i) = n - i by simp only [Nat.min_def]; split <;> omega] at this
    exact this
  have HB : Sec (Blk (W1.drew.setRow g2 (Go.splice c1 ((i + 1) * 3) (xs.drop (i * 3))).toArray) g2 105 (Go.splice (Go.splice R (i * 3) x) (i * 3 + 3) (xs.drop (i * 3))).toArray) := sec (by
    rw [← hc1, show i * 3 + 3 = (i + 1) * 3 by omega]; exact hRB1.drew.of_setRow _)
  have HGW : Sec (w.grownBy (W1.drew.setRow g2 (Go.splice c1 ((i + 1) * 3) (xs.drop (i * 3))).toArray) none) := sec
    ⟨hgr1.os, hgr1.tape, hgr1.output, by simpa [World.setRow] using hgr1.size, fun k hk hne => by rw [setRow_other _ g2 k _ (by omega)]; exact hgr1.block k hk hne⟩
  have HRL := sec hRl
  have HRT := sec hRt
  have hkk : (n : Int) + 1 - (i : Int) = (k : Int) := by omega
  have hz2' : ¬ ((i : Int) = (n : Int)) := by omega
  have hw1 : IntKind.i64.wrap ((i : Int) + 1) = (i : Int) + 1 := by rw [IntKind.wrap_i64]; omega
  have htn : ((i : Int) + 1).toNat = i + 1 := by omega
  have hb1 : (0 : Int) ≤ (i : Int) + 1 := by omega
  have hb3 : (i : Int) ≤ (n : Int) := by omega
  have hb6 : (i : Int) ≤ (n : Int) + 1 := by omega
  have hb2 : ¬ (G = i + 1) := by omega
  have hb4 : ¬ (G = i) := by omega
  have hb5 : ¬ (cap = i) := by omega
  clear hc1 hc1l hRB1 hgg1 hgr1 hdl hxs h1 h1v hg hv hs hcs hRB hg0 hv0 hgr0 hRt hRl hW1 hW0 hR hold hcell hG hz0 hz1 hz2 hi0 hgl hvl hg2 hk hik
  go_enter Tryz.func196, Tryz.ntmps196
  go_wp2_with (first | (at_builtin; refine wpList_append_runA _ rfl (.tmp 34) (.tmp 39) 22 3 rfl _ _ rfl rfl (hrun _) ?_) | (at_builtin; refine wpList_copy_run _ rfl (.tmp 43) (.tmp 44) 22 22 rfl _ _ rfl rfl (hcp1 _ _) ?_))
  go_region_law (refine step_copy_run rfl _ _ 22 22 rfl _ _ (by simp [Act.eval, Act.put]) (by simp [Act.eval, Act.put]) (hcp2 _ _ _) ?_)
  go_wp2_with fail
  go_ret
  exact ⟨G, R, rfl, hG1, hG2, HRL.out, HRT.out, HB.out, HGW.out⟩
end Go.Proofs.YtoamnifnfkgbiaaGreatDoor

namespace Go.Proofs.YtoamnifnfkgbiaaGreatDoor
open Go.RowKit
set_option linter.unusedVariables false
def insF (i : Nat) (f : Fl) (fs : List Fl) : List Fl := fs.take i ++ f :: fs.drop i
theorem flat_take (fs : List Fl) : ∀ i, (fs.flatMap fileC).take (i * 3) = (fs.take i).flatMap fileC := by
  induction fs with
  | nil => intro i; simp
  | cons f r ih =>
    intro i
    cases i with
    | zero => simp
    | succ i =>
      have e : (i + 1) * 3 = (fileC f).length + i * 3 := by simp [fileC]; omega
      rw [List.take_succ_cons, List.flatMap_cons, List.flatMap_cons, e, List.take_length_add_append, ih]
theorem flat_drop (fs : List Fl) : ∀ i, (fs.flatMap fileC).drop (i * 3) = (fs.drop i).flatMap fileC := by
  induction fs with
  | nil => intro i; simp
  | cons f r ih =>
    intro i
    cases i with
    | zero => simp
    | succ i =>
      have e : (i + 1) * 3 = (fileC f).length + i * 3 := by simp [fileC]; omega
      rw [List.drop_succ_cons, List.flatMap_cons, e, List.drop_length_add_append, ih]
theorem flat_ins (fs : List Fl) (i : Nat) (f : Fl) : (fs.flatMap fileC).take (i * 3) ++ (fileC f ++ (fs.flatMap fileC).drop (i * 3)) = (insF i f fs).flatMap fileC := by
  rw [flat_take, flat_drop, insF, List.flatMap_append, List.flatMap_cons]
theorem flat_del (fs : List Fl) (i : Nat) : (fs.flatMap fileC).take (i * 3) ++ (fs.flatMap fileC).drop (i * 3 + 3) = (fs.eraseIdx i).flatMap fileC := by
  rw [flat_take, show i * 3 + 3 = (i + 1) * 3 by omega, flat_drop, List.eraseIdx_eq_take_drop_succ, List.flatMap_append]

theorem insert_any (A : Option Addr) (n cap i gv vc B : Nat) (fs : List Fl) (f : Fl) (w : World) (hown : w.ownsRow B 105 3 (.slice A n cap) n (fs.flatMap fileC)) (hi : i ≤ n) (hn : n ≤ 1099511627776)
    (hv : Blk w gv 105 (fileC f).toArray) (hne : (Value.slice A n cap).ownBlock ≠ some gv) (hB : B ≤ w.heap.size) :
    Calls Tryz.prog 196 #[.slice A n cap, .int .i64 (i : Int), .slice (some ⟨gv, 0, none⟩) 1 vc] w fun e w' =>
      ∃ A' cap', e = .returned (.slice A' (n + 1) cap') ∧ w'.ownsRow B 105 3 (.slice A' (n + 1) cap') (n + 1) ((insF i f fs).flatMap fileC) ∧ w.grownBy w' (Value.ownBlock (.slice A n cap)) := by
  have h1v : ∀ v ∈ fileC f, v.oneCell' = true := by intro v hv; simp [fileC] at hv; rcases hv with rfl | rfl | rfl <;> rfl
  have hl : (fs.flatMap fileC).length = n * 3 := hown.1
  have hfl : fs.length = n := by have := flat_len fileC 3 (fun _ => rfl) fs; omega
  rcases Nat.lt_or_eq_of_le hi with hlt | rfl
  · rcases hown.2 with ⟨_, h0⟩ | ⟨g, cap', cur, hvv, hBg, hg, hnc, hcm, hcs, ht⟩
    · omega
    · injection hvv with hA _ hc
      subst hA hc
      have hgv : gv ≠ g := fun e => hne (by rw [e]; rfl)
      have hg' : Blk w g 105 cur.toList.toArray := by rw [Array.toArray_toList]; exact hg
      have hcl : cur.toList.length = cap * 3 := by simpa using hcs
      have h1 : ∀ v ∈ cur.toList.take (n * 3), v.oneCell' = true := by rw [ht]; exact fileC_one
      by_cases hroom : n + 1 ≤ cap
      · refine (ins_shift g cap n i gv vc cur.toList (fileC f) w hlt hroom hcm hgv hg' hcl hv rfl h1 h1v).mono ?_
        rintro e w' ⟨rfl, hb, hgr⟩
        refine ⟨_, _, rfl, ⟨?_, .inr ⟨g, cap, _, rfl, hBg, hb, hroom, hcm, ?_, ?_⟩⟩, hgr⟩
        · rw [flat_len fileC 3 (fun _ => rfl)]; simp [insF]; omega
        · rw [ht, List.size_toArray]
          have hd : ((fs.flatMap fileC).drop (i * 3)).length = n * 3 - i * 3 := by rw [List.length_drop, hl]
          have h3 : (fileC f).length = 3 := rfl
          have h4 := Go.length_splice cur.toList (i * 3 + 3) ((fs.flatMap fileC).drop (i * 3)) (by rw [hd, hcl]; omega)
          rw [Go.length_splice _ _ _ (by rw [h4, h3, hcl]; omega), h4, hcl]
        · rw [ht, List.toList_toArray, show (n + 1) * 3 = n * 3 + 3 by omega, ins_room cur.toList _ (fileC f) (i * 3) (n * 3) 3 ht hl (by omega) rfl (by rw [hcl]; omega), flat_ins]
      · refine (ins_grown g cap n i gv vc cur.toList (fileC f) w hlt (by omega) hnc hn hg' hcl hv rfl h1 h1v).mono ?_
        rintro e w' ⟨G, R, rfl, hG1, hG2, hRl, hRt, hb, hgr⟩
        refine ⟨_, _, rfl, ⟨?_, .inr ⟨w.heap.size, G, _, rfl, hB, hb, hG1, hG2, ?_, ?_⟩⟩, ⟨hgr.os, hgr.tape, hgr.output, hgr.size, fun k hk _ => hgr.block k hk (by simp)⟩⟩
        · rw [flat_len fileC 3 (fun _ => rfl)]; simp [insF]; omega
        · rw [ht, List.size_toArray]
          have hd : ((fs.flatMap fileC).drop (i * 3)).length = n * 3 - i * 3 := by rw [List.length_drop, hl]
          have h3 : (fileC f).length = 3 := rfl
          have h4 := Go.length_splice R (i * 3) (fileC f) (by rw [h3, hRl]; omega)
          rw [Go.length_splice _ _ _ (by rw [h4, hd, hRl]; omega), h4, hRl]
        · rw [ht] at hRt
          rw [ht, List.toList_toArray, show (n + 1) * 3 = n * 3 + 3 by omega, ins_grow R _ (fileC f) (i * 3) (n * 3) 3 hRt hl (by omega) rfl (by rw [hRl]; omega), flat_ins]
  · refine (ins_end A i cap gv vc B _ (fileC f) w hown hv rfl h1v hn hB).mono ?_
    rintro e w' ⟨A', cap', rfl, ho, hgr⟩
    refine ⟨A', cap', rfl, ?_, hgr⟩
    rw [← flat_ins, List.take_of_length_le (by omega), List.drop_eq_nil_of_le (by omega), List.append_nil]
    exact ho

/-! ### Delete -/
theorem run_clear_rowN {P : Program} (w : World) (t e ty : TypeId) (z : Value) (ht : P.underlying t = some (.slice e)) (hv : ∀ w, (zeroValue e).run P w = .ok z w) (g o c : Nat) (cur : Array Value) (tt : TypeId) (hg : w.heap[g]? = some (.cells cur tt (0, 0)))
    (hfit : o + z.cells.size ≤ cur.size) (h1 : ∀ v ∈ z.cells.toList, v.oneCell' = true) :
    (Builtin.clear_ #[t] ty #[.slice (some ⟨g, o, none⟩) 1 c]).run P w = .ok (.tuple #[]) (w.setRow g (Go.splice cur.toList o z.cells.toList).toArray) := by
  have hzc : (Builtin.zeroCells z.cells 1).toList = z.cells.toList := by
    simp [Builtin.zeroCells]
    apply List.ext_getElem
    · simp
    · intro i h1 h2
      have h2' : i < z.cells.size := by simpa using h2
      simp [Nat.mod_eq_of_lt h2', getElem!_pos z.cells i h2']
  have hst := run_storeCells_at P g o tt z.cells.toList 0 cur w hg (by simpa using hfit) h1
  simp only [Nat.add_zero] at hst
  rw [splice_eq]
  simp [Builtin.clear_, run_underlying ht, hv, hzc, hst, List.append_assoc]
theorem step_append_run {P : Program} {ops : Array Oper} {o : Oper} {a : Act} {w : World} {K : Act → World → Prop} {Q : Exit → Act → World → Prop} {E : Prop}
    (hg : o.guard = none) (d x : Operand) (dT sT : TypeId) (hop : o.op = Op.call { callee := Callee.builtin Builtin.append, args := #[d, x], argTypes := #[dT, sT] })
    (v u : Value) (hd : a.eval d = v) (hx : a.eval x = u) {v' : Value} {w' : World} (hr : (Builtin.append_ #[dT, sT] o.type #[v, u]).run P w = .ok v' w') (hK : K (a.put o.dst v') w') :
    if Region.wanted o (yielded ops a.tmps) = true then Oper.wp P o a w K Q else E := by
  have hw : Region.wanted o (yielded ops a.tmps) = true := by simp [Region.wanted, hg]
  rw [if_pos hw]
  unfold Oper.wp execOp
  simp only [hop, resolve, invoke, builtin, Sem.run_bind, Sem.run_pure, Result.andThen_ok, List.map_toArray, List.map_cons, List.map_nil, hd, hx, hr]
  exact hK
theorem wpList_clear_run (w : World) {P : Program} {ops : Array Oper} {rest : List Oper} {o : Oper} {a : Act} {Q : Exit → Act → World → Prop} (hgd : o.guard = none) (s : Operand) (t : TypeId)
    (ho : o.op = .call { callee := .builtin .clear, args := #[s], argTypes := #[t] }) (v : Value) (hs : a.eval s = v) {v' : Value} {w' : World}
    (hr : (Builtin.clear_ #[t] o.type #[v]).run P w = .ok v' w') (h : wpList P ops Q rest (a.put o.dst v') w') : wpList P ops Q (o :: rest) a w :=
  wpList_plain hgd fun _ hK => by
    unfold Oper.wp execOp
    simp only [ho, resolve, invoke, builtin, Sem.run_bind, Sem.run_pure, Result.andThen_ok, List.map_toArray, List.map_cons, List.map_nil, hs, hr]
    exact hK _ _ h
theorem zeroFile : ∀ w, (zeroValue 105).run Tryz.prog w = .ok (.agg #[.string (bs []), .string (bs []), .string (bs [])]) w := by
  intro w
  obtain ⟨i0, hi0, h0, h1, _⟩ := info_parts E.file.info
  simp [zeroValue, typeInfo, hi0, h0]

set_option maxHeartbeats 4000000 in
set_option maxRecDepth 100000 in
theorem del_walk (g cap n i : Nat) (cur : List Value) (w : World) (hi : i < n) (hnc : n ≤ cap) (hcap : cap ≤ maxLen) (hn : n ≤ 1099511627776) (hg : Blk w g 105 cur.toArray) (hs : cur.length = cap * 3)
    (h1 : ∀ v ∈ cur.take (n * 3), v.oneCell' = true) :
    Calls Tryz.prog 112 #[.slice (some ⟨g, 0, none⟩) n cap, .int .i64 (i : Int), .int .i64 ((i : Int) + 1)] w fun e w' =>
      e = .returned (.slice (some ⟨g, 0, none⟩) (n - 1) cap) ∧ Blk w' g 105 (Go.splice (Go.splice cur (i * 3) ((cur.take (n * 3)).drop (i * 3 + 3))) (n * 3 - 3) [.string (bs []), .string (bs []), .string (bs [])]).toArray ∧ w.grownBy w' (some g) := by
  have hcs : (cur.take (n * 3)).length = n * 3 := by rw [List.length_take]; omega
  obtain ⟨i0, hi0, hz0, hz1, hz2⟩ := info_parts E.file.info
  obtain ⟨news, hnews⟩ : ∃ news, news = (cur.take (n * 3)).drop (i * 3 + 3) := ⟨_, rfl⟩
  have hnl : news.length = (n - (i + 1)) * 3 := by rw [hnews, List.length_drop, hcs]; omega
  have hnc1 : ∀ v ∈ news, v.oneCell' = true := fun v hv => h1 v (by rw [hnews] at hv; exact List.mem_of_mem_drop hv)
  have hncell : ∀ j v, news[j]? = some v → w.cell? ⟨g, i * 3 + 3 + j, none⟩ = some v := fun j v hj => by
    rw [hnews, List.getElem?_drop, List.getElem?_take] at hj
    split at hj
    · exact (hg.cell _).trans (by simpa using hj)
    · cases hj
  rw [← hnews]
  obtain ⟨c1, hc1⟩ : ∃ c1, c1 = Go.splice cur (i * 3) news := ⟨_, rfl⟩
  have hc1l : c1.length = cap * 3 := by rw [hc1, Go.length_splice _ _ _ (by rw [hnl, hs]; omega), hs]
  have happ : ∀ ad ty c, (0 < n - (i + 1) → ad = ⟨g, (i + 1) * 3, none⟩) → (Builtin.append_ #[22, 22] ty #[.slice (some ⟨g, 0, none⟩) i cap, .slice (some ad) (n - (i + 1)) c]).run Tryz.prog w.drew = .ok (.slice (some ⟨g, 0, none⟩) (n - 1) cap) (w.drew.setRow g c1.toArray) := fun ad ty c had => by
    have := run_append_room (P := Tryz.prog) w.drew 22 ty 105 i0 E.file.under hi0 g i cap cur.toArray hg.drew ad (n - (i + 1)) c news (by rw [hz1]; exact hnl)
      (fun j u hu => by
        have h0 : 0 < n - (i + 1) := by
          have := (List.getElem?_eq_some_iff.1 hu).1
          rw [hnl] at this; omega
        rw [had h0, Addr.add_lit]
        exact (by simpa using hncell j u hu : w.drew.cell? ⟨g, i * 3 + 3 + j, none⟩ = some u) |> fun h => by rw [show (i + 1) * 3 + j = i * 3 + 3 + j by omega]; exact h)
      hnc1 (by omega) (by rw [hz1, hnl, List.size_toArray, hs]; omega)
    rw [this, hz1, hc1, splice_eq, show i + (n - (i + 1)) = n - 1 by omega]
    simp only [List.append_assoc]
  have hg1 : Blk (w.drew.setRow g c1.toArray) g 105 c1.toArray := hg.drew.of_setRow _
  obtain ⟨W1, hW1⟩ : ∃ W1, W1 = w.drew.setRow g c1.toArray := ⟨_, rfl⟩
  have hgr1 : w.grownBy W1 (some g) := by
    rw [hW1]
    exact ⟨rfl, rfl, rfl, by simp [World.setRow], fun k hk hne => by rw [setRow_other _ g k _ (fun e => hne (by rw [e]))]; rfl⟩
  rw [← hW1] at happ hg1
  have hcl : ∀ ty c, (Builtin.clear_ #[22] ty #[.slice (some ⟨g, (n - 1) * 3, none⟩) 1 c]).run Tryz.prog W1 = .ok (.tuple #[]) (W1.setRow g (Go.splice c1 (n * 3 - 3) [.string (bs []), .string (bs []), .string (bs [])]).toArray) := fun ty c => by
    have := run_clear_rowN (P := Tryz.prog) W1 22 105 ty _ E.file.under zeroFile g ((n - 1) * 3) c c1.toArray 105 hg1 (by
      have : (Value.agg #[.string (bs []), .string (bs []), .string (bs [])]).cells.size = 3 := E.file.zcells
      rw [this, List.size_toArray, hc1l]; omega) (by intro v hv; simp [Value.cells] at hv; subst hv; rfl)
    rw [this, show (n - 1) * 3 = n * 3 - 3 by omega]
    rfl
  have HB : Sec (Blk (W1.setRow g (Go.splice c1 (n * 3 - 3) [.string (bs []), .string (bs []), .string (bs [])]).toArray) g 105 (Go.splice (Go.splice cur (i * 3) news) (n * 3 - 3) [.string (bs []), .string (bs []), .string (bs [])]).toArray) := sec (by
    rw [← hc1]; exact hg1.of_setRow _)
  have HGW : Sec (w.grownBy (W1.setRow g (Go.splice c1 (n * 3 - 3) [.string (bs []), .string (bs []), .string (bs [])]).toArray) (some g)) := sec
    ⟨hgr1.os, hgr1.tape, hgr1.output, by simpa [World.setRow] using hgr1.size, fun k hk hne => by rw [setRow_other _ g k _ (fun e => hne (by rw [e]))]; exact hgr1.block k hk hne⟩
  have hz2' : ¬ ((i : Int) = (i : Int) + 1) := by omega
  have htn : ((i : Int) + 1).toNat = i + 1 := by omega
  have hb1 : (0 : Int) ≤ (i : Int) + 1 := by omega
  have hb3 : (i : Int) + 1 ≤ (n : Int) := by omega
  have hb4 : ¬ (cap = i) := by omega
  have hb5 : ¬ (cap = n - 1) := by omega
  have hb6 : (i : Int) ≤ (n : Int) := by omega
  have hb7 : (i : Int) ≤ (cap : Int) := by omega
  have hb8 : (n : Int) ≤ (cap : Int) := by omega
  have hb9 : n - (n - 1) = 1 := by omega
  have hb10 : (i : Int) ≤ (i : Int) + 1 := by omega
  clear hc1 hc1l hg1 h1 hg hs hcs hW1 hz0 hz1 hz2 hi0 hgr1 hnews hnl hnc1 hncell
  by_cases hce : cap = i + 1
  · subst hce
    go_enter Tryz.func112, Tryz.ntmps112
    go_wp2_with fail
    go_region_law (refine step_append_run (v := .slice (some ⟨g, 0, none⟩) i (i + 1)) (u := .slice (some ⟨g, 0, none⟩) (n - (i + 1)) 0) rfl (.tmp 22) (.tmp 25) 22 22 rfl ?hd ?hx (happ ⟨g, 0, none⟩ _ _ ?had) ?_; (case hd => simp [Act.eval, Act.put]); (case hx => simp [Act.eval, Act.put]; try omega); (case had => intro h; omega))
    go_wp2_with (at_builtin; refine wpList_clear_run _ rfl (.tmp 31) 22 rfl _ rfl (hcl _ _) ?_)
    go_ret
    exact ⟨rfl, HB.out, HGW.out⟩
  · go_enter Tryz.func112, Tryz.ntmps112
    go_wp2_with fail
    go_region_law (refine step_append_run (v := .slice (some ⟨g, 0, none⟩) i cap) (u := .slice (some ⟨g, (i + 1) * 3, none⟩) (n - (i + 1)) (cap - (i + 1))) rfl (.tmp 22) (.tmp 25) 22 22 rfl ?hd ?hx (happ ⟨g, (i + 1) * 3, none⟩ _ _ ?had) ?_; (case hd => simp [Act.eval, Act.put]); (case hx => simp [Act.eval, Act.put]; try omega); (case had => intro h; rfl))
    go_wp2_with (at_builtin; refine wpList_clear_run _ rfl (.tmp 31) 22 rfl _ rfl (hcl _ _) ?_)
    go_ret
    exact ⟨rfl, HB.out, HGW.out⟩

theorem delete_any (A : Option Addr) (n cap i B : Nat) (fs : List Fl) (w : World) (hown : w.ownsRow B 105 3 (.slice A n cap) n (fs.flatMap fileC)) (hi : i < n) (hn : n ≤ 1099511627776) :
    Calls Tryz.prog 112 #[.slice A n cap, .int .i64 (i : Int), .int .i64 ((i : Int) + 1)] w fun e w' =>
      e = .returned (.slice A (n - 1) cap) ∧ w'.ownsRow B 105 3 (.slice A (n - 1) cap) (n - 1) ((fs.eraseIdx i).flatMap fileC) ∧ w.grownBy w' (Value.ownBlock (.slice A n cap)) := by
  have hl : (fs.flatMap fileC).length = n * 3 := hown.1
  have hfl : fs.length = n := by have := flat_len fileC 3 (fun _ => rfl) fs; omega
  rcases hown.2 with ⟨_, h0⟩ | ⟨g, cap', cur, hvv, hBg, hg, hnc, hcm, hcs, ht⟩
  · omega
  · injection hvv with hA _ hc
    subst hA hc
    have hg' : Blk w g 105 cur.toList.toArray := by rw [Array.toArray_toList]; exact hg
    have hcl : cur.toList.length = cap * 3 := by simpa using hcs
    have h1 : ∀ v ∈ cur.toList.take (n * 3), v.oneCell' = true := by rw [ht]; exact fileC_one
    refine (del_walk g cap n i cur.toList w hi hnc hcm hn hg' hcl h1).mono ?_
    rintro e w' ⟨rfl, hb, hgr⟩
    have hd : ((fs.flatMap fileC).drop (i * 3 + 3)).length = n * 3 - (i * 3 + 3) := by rw [List.length_drop, hl]
    refine ⟨rfl, ⟨?_, .inr ⟨g, cap, _, rfl, hBg, hb, by omega, hcm, ?_, ?_⟩⟩, hgr⟩
    · rw [flat_len fileC 3 (fun _ => rfl), List.length_eraseIdx_of_lt (by omega)]; omega
    · rw [ht, List.size_toArray]
      have h4 := Go.length_splice cur.toList (i * 3) ((fs.flatMap fileC).drop (i * 3 + 3)) (by rw [hd, hcl]; omega)
      rw [Go.length_splice _ _ _ (by rw [h4, hcl]; simp; omega), h4, hcl]
    · rw [ht, List.toList_toArray, show (n - 1) * 3 = n * 3 - 3 by omega, del_room cur.toList _ (i * 3) (n * 3) 3 ht hl (by omega) (by rw [hcl]; omega) _ rfl, flat_del]
end Go.Proofs.YtoamnifnfkgbiaaGreatDoor

namespace Go.Proofs.YtoamnifnfkgbiaaGreatDoor
open Go.RowKit
set_option linter.unusedVariables false
structure DOwn (w : World) (B q : Nat) (A : Option Addr) (n cap : Nat) (u : Int) (fs : List Fl) : Prop where
  blk : Blk w q 24 #[.slice A n cap, .int .i64 u]
  own : w.ownsRow B 105 3 (.slice A n cap) n (fs.flatMap fileC)
  base : B ≤ q
theorem DOwn.gr {w w' : World} {B q n cap : Nat} {A : Option Addr} {u : Int} {fs : List Fl} (h : DOwn w B q A n cap u fs) (g : Gr w w') : DOwn w' B q A n cap u fs :=
  ⟨h.blk.gr g, own_gr h.own g, h.base⟩
theorem DOwn.ne {w : World} {B q n cap : Nat} {A : Option Addr} {u : Int} {fs : List Fl} (h : DOwn w B q A n cap u fs) : (Value.slice A n cap).ownBlock ≠ some q := own_blk_ne h.own h.blk (by decide)
/-- a closure that turns the disk at its pointer -/
def Steps (g : Nat) (caps : Array Value) (F : List Fl → List Fl × Int) (w0 : World) : Prop :=
  ∀ (wc w : World) (q : Nat) (A : Option Addr) (n cap : Nat) (u : Int) (fs : List Fl), Gr w0 wc → Gr wc w → DOwn w wc.heap.size q A n cap u fs → goodFs fs = true →
    Calls Tryz.prog g (#[.pointer (some ⟨q, 0, none⟩)] ++ caps) w fun e w' => e = .returned (.int .i64 (F fs).2) ∧ Gr wc w' ∧ ((F fs).2 = 0 → ∃ A' n' cap', DOwn w' wc.heap.size q A' n' cap' u (F fs).1)
/-- a step: the disk, its fuse, the error -/
def stepR (F : List Fl → List Fl × Int) (fs : List Fl) (f : Int) : List Fl × Int × Int :=
  if goodFs fs then (if f = 0 then (fs, f, 12) else if (F fs).2 = 0 then ((F fs).1, (if 0 < f then f - 1 else f), 0) else (fs, f, (F fs).2)) else (fs, f, 3)

/-- what a step hands back -/
def StepPost (r : List Fl × Int × Int) (A : Option Addr) (n cap : Nat) (fs : List Fl) (w : World) (e : Ending) (w' : World) : Prop :=
  ∃ A' n' cap', e = .returned (.tuple #[diskV A' n' cap' r.2.1, .int .i64 r.2.2]) ∧ Gr w w' ∧ (A' = none → n' = 0 ∧ cap' = 0) ∧
    ((A' = A ∧ n' = n ∧ cap' = cap ∧ r.1 = fs) ∨ w'.ownsRow w.heap.size 105 3 (.slice A' n' cap') n' (r.1.flatMap fileC))
theorem StepPost.row {r : List Fl × Int × Int} {A A' : Option Addr} {n n' cap cap' : Nat} {fs : List Fl} {w w' : World} (hx : FRow w A n fs) (hg : Gr w w')
    (h : (A' = A ∧ n' = n ∧ cap' = cap ∧ r.1 = fs) ∨ w'.ownsRow w.heap.size 105 3 (.slice A' n' cap') n' (r.1.flatMap fileC)) : FRow w' A' n' r.1 := by
  rcases h with ⟨rfl, rfl, _, h⟩ | h
  · rw [h]; exact hx.gr hg
  · exact Row.own h
theorem own_ncap {w : World} {B e size n cap m : Nat} {A : Option Addr} {xs : List Value} (h : w.ownsRow B e size (.slice A n cap) m xs) : n ≤ cap := by
  rcases h.2 with ⟨e, h0⟩ | ⟨g, c, cur, e, _, _, h, _⟩
  · injection e with _ e1 e2; omega
  · injection e with _ e1 e2; omega
theorem StepPost.cap {r : List Fl × Int × Int} {A A' : Option Addr} {n n' cap cap' : Nat} {fs : List Fl} {w w' : World} (hc : n ≤ cap)
    (h : (A' = A ∧ n' = n ∧ cap' = cap ∧ r.1 = fs) ∨ w'.ownsRow w.heap.size 105 3 (.slice A' n' cap') n' (r.1.flatMap fileC)) : n' ≤ cap' := by
  rcases h with ⟨_, rfl, rfl, _⟩ | h
  · exact hc
  · exact own_ncap h
/-- a result's cell, stored -/
theorem StepPost.set2 {r : List Fl × Int × Int} {A A' : Option Addr} {n n' cap cap' p : Nat} {fs : List Fl} {w w0 w' : World} (hw : Gr w w0) (hp : p < w0.heap.size) (hwp : w.heap.size ≤ p) (hg : Gr w0 w') (u v : Value)
    (h : (A' = A ∧ n' = n ∧ cap' = cap ∧ r.1 = fs) ∨ w'.ownsRow w0.heap.size 105 3 (.slice A' n' cap') n' (r.1.flatMap fileC)) :
    Gr w ((w'.setCell ⟨p, 0, none⟩ u).setCell ⟨p, 1, none⟩ v) ∧ ((A' = A ∧ n' = n ∧ cap' = cap ∧ r.1 = fs) ∨ ((w'.setCell ⟨p, 0, none⟩ u).setCell ⟨p, 1, none⟩ v).ownsRow w.heap.size 105 3 (.slice A' n' cap') n' (r.1.flatMap fileC)) := by
  refine ⟨((hw.trans hg).setCell (p := ⟨p, 0, none⟩) hwp _).setCell (p := ⟨p, 1, none⟩) hwp _, ?_⟩
  rcases h with h | h
  · exact .inl h
  · have hne : (Value.slice A' n' cap').ownBlock ≠ some p := fun e => by have := (h.lt _ e).1; omega
    exact .inr (own_low (ownsRow_setCell_other (ownsRow_setCell_other h (a := ⟨p, 0, none⟩) hne _) (a := ⟨p, 1, none⟩) hne _) hw.size)
theorem own_none {w : World} {B e size n cap m : Nat} {A : Option Addr} {xs : List Value} (h : w.ownsRow B e size (.slice A n cap) m xs) (hA : A = none) : n = 0 ∧ cap = 0 := by
  rcases h.2 with ⟨e, h0⟩ | ⟨g, c, cur, e, _⟩
  · injection e with _ e1 e2; exact ⟨e1, e2⟩
  · injection e with e0; rw [hA] at e0; cases e0
theorem down_a {w1 w2 : World} {A' : Option Addr} {n cap' : Nat} {f : Int} {fs : List Fl} (hown : w2.ownsRow w1.drew.heap.size 105 3 (.slice A' n cap') n (fs.flatMap fileC)) (g2 : Gr w1.drew w2) :
    ∃ (q : Nat) (A1 : Option Addr) (cap1 : Nat), Value.pointer (some ⟨w2.heap.size, 0, none⟩) = .pointer (some ⟨q, 0, none⟩) ∧ Sec (DOwn (w2.alloc (.cells #[.slice A' n cap', .int .i64 f] 24)) w1.heap.size q A1 n cap1 f fs) ∧ Gr w1 (w2.alloc (.cells #[.slice A' n cap', .int .i64 f] 24)) :=
  ⟨w2.heap.size, A', cap', rfl, sec ⟨Blk.new w2 _ _, own_gr hown ((Gr.refl w2).alloc _), g2.size⟩, (Gr.trans (Gr.refl w1).drew g2).alloc _⟩
theorem down_b {w1 w2 : World} {A' : Option Addr} {n cap' : Nat} {f : Int} {fs : List Fl} {o : Obj} (hown : w2.ownsRow (w1.alloc o).drew.heap.size 105 3 (.slice A' n cap') n (fs.flatMap fileC)) (g2 : Gr (w1.alloc o).drew w2)
    (hq2 : Blk w2 w1.heap.size 24 #[.slice none 0 0, .int .i64 0]) :
    ∃ (q : Nat) (A1 : Option Addr) (cap1 : Nat), Value.pointer (some ⟨w1.heap.size, 0, none⟩) = .pointer (some ⟨q, 0, none⟩) ∧ Sec (DOwn ((w2.setCell ⟨w1.heap.size, 0, none⟩ (.slice A' n cap')).setCell ⟨w1.heap.size, 1, none⟩ (.int .i64 f)) w1.heap.size q A1 n cap1 f fs) ∧ Gr w1 ((w2.setCell ⟨w1.heap.size, 0, none⟩ (.slice A' n cap')).setCell ⟨w1.heap.size, 1, none⟩ (.int .i64 f)) := by
  have hne := own_blk_ne hown hq2 (by decide)
  have hg : Gr w1 w2 := Gr.trans ((Gr.refl w1).alloc o).drew g2
  refine ⟨w1.heap.size, A', cap', rfl, sec ⟨(hq2.set_ 0 _).set_ 1 _, own_low (ownsRow_setCell_other (ownsRow_setCell_other hown (a := ⟨w1.heap.size, 0, none⟩) hne _) (a := ⟨w1.heap.size, 1, none⟩) hne _) (by simp [World.drew]), Nat.le_refl _⟩, (hg.setCell (p := ⟨w1.heap.size, 0, none⟩) (Nat.le_refl _) _).setCell (p := ⟨w1.heap.size, 1, none⟩) (Nat.le_refl _) _⟩

set_option maxRecDepth 100000 in
set_option maxHeartbeats 4000000 in
theorem step_any (g : Nat) (caps : Array Value) (F : List Fl → List Fl × Int) (eg : ∀ args w, (callFunc g args).run Tryz.prog w = .ok (.enter g args) w) (fs : List Fl) (A : Option Addr) (n cap : Nat) (f : Int) (w : World) (hn : n ≤ 1099511627776) (hx : FRow w A n fs) (hA : A = none → n = 0 ∧ cap = 0) (hs : ∀ f ∈ fs, f.1.length ≤ 1099511627776 ∧ f.2.1.length ≤ 1099511627776 ∧ f.2.2.length ≤ 1099511627776)
    (hf : -9223372036854775808 ≤ f ∧ f ≤ 9223372036854775807) (hF : Steps g caps F w) :
    Calls Tryz.prog 109 #[diskV A n cap f, .func (.func g) #[] caps] w (StepPost (stepR F fs f) A n cap fs w) := by
  have hg0 := ((Gr.refl w).alloc (.cells #[.slice A n cap, .int .i64 f] 24)).alloc (.cells #[.slice none 0 0, .int .i64 0] 24)
  have hb1 := (Blk.new w 24 #[.slice A n cap, .int .i64 f]).alloc (.cells #[.slice none 0 0, .int .i64 0] 24)
  have hb2 := Blk.new1 w (.cells #[.slice A n cap, .int .i64 f] 24) 24 #[.slice none 0 0, .int .i64 0]
  have HG := sec (dgood_any fs A n cap f _ hn (hx.gr hg0) hs)
  have hl := hx.len
  have HX := sec (hx.gr hg0)
  obtain ⟨wa, hwa⟩ : ∃ x, x = (w.alloc (.cells #[.slice A n cap, .int .i64 f] 24)).alloc (.cells #[.slice none 0 0, .int .i64 0] 24) := ⟨_, rfl⟩
  rw [← hwa] at hg0 hb1 hb2 HG HX
  obtain ⟨p, hp⟩ : ∃ p, p = w.heap.size := ⟨_, rfl⟩
  have hwp : w.heap.size ≤ p := by omega
  rw [← hp] at hb1 hb2
  have c0 : wa.cell? ⟨p, 0, none⟩ = some (.slice A n cap) := hb1.cell 0
  have c1 : wa.cell? ⟨p, 1, none⟩ = some (.int .i64 f) := hb1.cell 1
  have HB := sec hb1
  have HR2 := sec hb2
  have HX0 := sec hx
  have HFF := sec hF
  have HA := sec hA
  clear hb1 hb2 hs hx hF
  unfold diskV at HG
  unfold diskV
  have HW : Sec (∀ w1, Gr wa w1 → Blk ((w1.setCell ⟨p + 1, 0, none⟩ (.slice A n cap)).setCell ⟨p + 1, 1, none⟩ (.int .i64 f)) (p + 1) 24 #[.slice A n cap, .int .i64 f]) := sec fun w1 g1 => ((HR2.out.gr g1).set_ 0 (.slice A n cap)).set_ 1 (.int .i64 f)
  have HV : Sec (∀ w1, Gr wa w1 → Gr w ((w1.setCell ⟨p + 1, 0, none⟩ (.slice A n cap)).setCell ⟨p + 1, 1, none⟩ (.int .i64 f))) := sec fun w1 g1 => ((hg0.trans g1).setCell (p := ⟨p + 1, 0, none⟩) (by show w.heap.size ≤ p + 1; omega) _).setCell (p := ⟨p + 1, 1, none⟩) (by show w.heap.size ≤ p + 1; omega) _
  cases hgf : goodFs fs with
  | false =>
    have HR : Sec (stepR F fs f = (fs, f, 3)) := sec (by unfold stepR; rw [hgf]; rfl)
    rw [HR.out]
    rw [hgf] at HG
    clear hgf
    go_enter Tryz.func109, Tryz.ntmps109
    go_wp2_with (first | (rw [← hwa, ← hp]; clear hwa hp; go_wp2_with fail) | (go_at_call 75; refine Calls.mono HG.out ?_; rintro e w1 ⟨rfl, g1⟩; have c0y : w1.cell? ⟨p, 0, none⟩ = some (.slice A n cap) := (HB.out.gr g1).cell 0; have c1y : w1.cell? ⟨p, 1, none⟩ = some (.int .i64 f) := (HB.out.gr g1).cell 1; have d20 : w1.cell? ⟨p + 1, 0, none⟩ = some (.slice none 0 0) := (HR2.out.gr g1).cell 0; have d21 : w1.cell? ⟨p + 1, 1, none⟩ = some (.int .i64 0) := (HR2.out.gr g1).cell 1; have f20 : w1.frozen? ⟨p + 1, 0, none⟩ = false := (HR2.out.gr g1).frozen 0; have f21 : w1.frozen? ⟨p + 1, 1, none⟩ = false := (HR2.out.gr g1).frozen 1))
    refine bodyPost_ret (results_blk_tmp rfl _ rfl (HW.out w1 g1) aggDisk) rfl ?_
    exact ⟨A, n, cap, rfl, HV.out w1 g1, HA.out, .inl ⟨rfl, rfl, rfl, rfl⟩⟩
  | true =>
    rw [hgf] at HG
    by_cases hf0 : f = 0
    · have HR : Sec (stepR F fs f = (fs, f, 12)) := sec (by unfold stepR; rw [hgf, hf0]; rfl)
      rw [HR.out]
      clear hgf
      subst hf0
      go_enter Tryz.func109, Tryz.ntmps109
      go_wp2_with (first | (rw [← hwa, ← hp]; clear hwa hp; go_wp2_with fail) | (go_at_call 75; refine Calls.mono HG.out ?_; rintro e w1 ⟨rfl, g1⟩; have c0y : w1.cell? ⟨p, 0, none⟩ = some (.slice A n cap) := (HB.out.gr g1).cell 0; have c1y : w1.cell? ⟨p, 1, none⟩ = some (.int .i64 0) := (HB.out.gr g1).cell 1; have d20 : w1.cell? ⟨p + 1, 0, none⟩ = some (.slice none 0 0) := (HR2.out.gr g1).cell 0; have d21 : w1.cell? ⟨p + 1, 1, none⟩ = some (.int .i64 0) := (HR2.out.gr g1).cell 1; have f20 : w1.frozen? ⟨p + 1, 0, none⟩ = false := (HR2.out.gr g1).frozen 0; have f21 : w1.frozen? ⟨p + 1, 1, none⟩ = false := (HR2.out.gr g1).frozen 1))
      refine bodyPost_ret (results_blk_tmp rfl _ rfl (HW.out w1 g1) aggDisk) rfl ?_
      exact ⟨A, n, cap, rfl, HV.out w1 g1, HA.out, .inl ⟨rfl, rfl, rfl, rfl⟩⟩
    · have HGF := sec hgf
      clear hgf
      go_enter Tryz.func109, Tryz.ntmps109
      go_wp2_with (first | (rw [← hwa, ← hp]; clear hwa hp; go_upto_region 5 with fail) | (go_at_call 75; refine Calls.mono HG.out ?_; rintro e w1 ⟨rfl, g1⟩; have c0y : w1.cell? ⟨p, 0, none⟩ = some (.slice A n cap) := (HB.out.gr g1).cell 0; have c1y : w1.cell? ⟨p, 1, none⟩ = some (.int .i64 f) := (HB.out.gr g1).cell 1))
      have HC1 : Sec (∀ W, Gr wa W → W.cell? ⟨p, 1, none⟩ = some (.int .i64 f)) := sec (fun W g => (HB.out.gr g).cell 1)
      have HG1 := sec g1
      have c0y2 : (w1.alloc (.cells #[.slice none 0 0, .int .i64 0] 24)).cell? ⟨p, 0, none⟩ = some (.slice A n cap) := (HB.out.gr (g1.alloc _)).cell 0
      have c1y2 : (w1.alloc (.cells #[.slice none 0 0, .int .i64 0] 24)).cell? ⟨p, 1, none⟩ = some (.int .i64 f) := (HB.out.gr (g1.alloc _)).cell 1
      go_cut [6] from 8 to 35 (fun v6 wx => ∃ (q : Nat) (A' : Option Addr) (cap' : Nat), v6 = .pointer (some ⟨q, 0, none⟩) ∧ Sec (DOwn wx w1.heap.size q A' n cap' f fs) ∧ Gr w1 wx)
      case first =>
        go_region_with (first
          | (go_at_call 64; refine Calls.mono (clone_any fs A n cap w1.drew hn (HX.out.gr HG1.out.drew) HA.out) ?_; rintro e w2 ⟨A', cap', rfl, hown, g2⟩; have c1z : w2.cell? ⟨p, 1, none⟩ = some (.int .i64 f) := HC1.out w2 (HG1.out.drew.trans g2); have c1z2 : (w2.alloc (.cells #[.slice none 0 0, .int .i64 0] 24)).cell? ⟨p, 1, none⟩ = some (.int .i64 f) := HC1.out _ ((HG1.out.drew.trans g2).alloc _))
          | (go_at_call 64; refine Calls.mono (clone_any fs A n cap (w1.alloc (.cells #[.slice none 0 0, .int .i64 0] 24)).drew hn (HX.out.gr (HG1.out.alloc _).drew) HA.out) ?_; rintro e w2 ⟨A', cap', rfl, hown, g2⟩; have c1z : w2.cell? ⟨p, 1, none⟩ = some (.int .i64 f) := HC1.out w2 ((HG1.out.alloc _).drew.trans g2); have hq2 : Blk w2 w1.heap.size 24 #[.slice none 0 0, .int .i64 0] := (Blk.new w1 _ _).gr (Gr.trans (Gr.refl _).drew g2); have dq0 : w2.cell? ⟨w1.heap.size, 0, none⟩ = some (.slice none 0 0) := hq2.cell 0; have dq1 : w2.cell? ⟨w1.heap.size, 1, none⟩ = some (.int .i64 0) := hq2.cell 1; have fq0 : w2.frozen? ⟨w1.heap.size, 0, none⟩ = false := hq2.frozen 0; have fq1 : w2.frozen? ⟨w1.heap.size, 1, none⟩ = false := hq2.frozen 1))
        all_goals (go_wp2_with fail; go_meet; first | exact down_a hown g2 | exact down_b hown g2 hq2)
      case rest =>
        obtain ⟨q, A1, cap1, rfl, HD, gc⟩ := hcut
        have hpq : p + 1 < q := by have := (HR2.out.gr HG1.out).lt; have := HD.out.base; omega
        have dq0 : wc.cell? ⟨q, 0, none⟩ = some (.slice A1 n cap1) := HD.out.blk.cell 0
        have dq1 : wc.cell? ⟨q, 1, none⟩ = some (.int .i64 f) := HD.out.blk.cell 1
        have fq1 : wc.frozen? ⟨q, 1, none⟩ = false := HD.out.blk.frozen 1
        obtain ⟨⟨R, E⟩, hR⟩ : ∃ x, x = F fs := ⟨_, rfl⟩
        have HC : Sec (∀ W u, Gr w1 W ∧ DOwn W w1.heap.size q A1 n cap1 u fs → Calls Tryz.prog g (#[.pointer (some ⟨q, 0, none⟩)] ++ caps) W fun e w' => e = .returned (.int .i64 E) ∧ Gr w1 w' ∧ (E = 0 → ∃ A' n' cap', DOwn w' w1.heap.size q A' n' cap' u R)) := sec (fun W u d => by
          have := HFF.out w1 W q A1 n cap1 u fs (hg0.trans HG1.out) d.1 d.2 HGF.out
          rwa [← hR] at this)
        have HRR := sec hR
        clear hR
        by_cases hpos : 0 < f
        · have hwr : IntKind.i64.wrap (f - 1) = f - 1 := IntWalk.i64_in _ (by omega)
          have HPOS := sec hpos
          have HD2 : Sec (Gr w1 (wc.setCell ⟨q, 1, none⟩ (.int .i64 (f - 1))) ∧ DOwn (wc.setCell ⟨q, 1, none⟩ (.int .i64 (f - 1))) w1.heap.size q A1 n cap1 (f - 1) fs) := sec ⟨gc.setCell (p := ⟨q, 1, none⟩) HD.out.base _, HD.out.blk.set_ 1 _, ownsRow_setCell_other HD.out.own (a := ⟨q, 1, none⟩) HD.out.ne _, HD.out.base⟩
          by_cases hE : E = 0
          · subst hE
            have HS : Sec (stepR F fs f = (R, (f - 1), 0)) := sec (by unfold stepR; rw [HGF.out, if_pos rfl, if_neg hf0, ← HRR.out, if_pos rfl]; simp [HPOS.out])
            go_wp2_with (refine Calls.mono (HC.out _ (f - 1) HD2.out) ?_; rintro e w3 ⟨rfl, g3, h3⟩; obtain ⟨A3, n3, cap3, hd3⟩ := h3 rfl; have hb30 : w3.cell? ⟨q, 0, none⟩ = some (.slice A3 n3 cap3) := hd3.blk.cell 0; have hb31 : w3.cell? ⟨q, 1, none⟩ = some (.int .i64 ((f - 1))) := hd3.blk.cell 1; have c0y3 : w3.cell? ⟨p, 0, none⟩ = some (.slice A n cap) := (HB.out.gr (HG1.out.trans g3)).cell 0; have c1y3 : w3.cell? ⟨p, 1, none⟩ = some (.int .i64 f) := (HB.out.gr (HG1.out.trans g3)).cell 1; have d20 : w3.cell? ⟨p + 1, 0, none⟩ = some (.slice none 0 0) := (HR2.out.gr (HG1.out.trans g3)).cell 0; have d21 : w3.cell? ⟨p + 1, 1, none⟩ = some (.int .i64 0) := (HR2.out.gr (HG1.out.trans g3)).cell 1; have f20 : w3.frozen? ⟨p + 1, 0, none⟩ = false := (HR2.out.gr (HG1.out.trans g3)).frozen 0; have f21 : w3.frozen? ⟨p + 1, 1, none⟩ = false := (HR2.out.gr (HG1.out.trans g3)).frozen 1)
            have hbb := (HR2.out.gr (HG1.out.trans g3))
            have hne := own_blk_ne hd3.own hbb (by decide)
            refine bodyPost_ret (results_blk_tmp rfl _ rfl ((hbb.set_ 0 (.slice A3 n3 cap3)).set_ 1 (.int .i64 ((f - 1)))) aggDisk) rfl ?_
            rw [HS.out]
            exact ⟨A3, n3, cap3, rfl, ((hg0.trans (HG1.out.trans g3)).setCell (p := ⟨p + 1, 0, none⟩) (by show w.heap.size ≤ p + 1; omega) _).setCell (p := ⟨p + 1, 1, none⟩) (by show w.heap.size ≤ p + 1; omega) _, own_none hd3.own, .inr (own_low (ownsRow_setCell_other (ownsRow_setCell_other hd3.own (a := ⟨p + 1, 0, none⟩) hne _) (a := ⟨p + 1, 1, none⟩) hne _) (hg0.trans HG1.out).size)⟩
          · have HS : Sec (stepR F fs f = (fs, f, E)) := sec (by unfold stepR; rw [HGF.out, if_pos rfl, if_neg hf0, ← HRR.out, if_neg hE])
            go_wp2_with (refine Calls.mono (HC.out _ (f - 1) HD2.out) ?_; rintro e w3 ⟨rfl, g3, _⟩; have c0y3 : w3.cell? ⟨p, 0, none⟩ = some (.slice A n cap) := (HB.out.gr (HG1.out.trans g3)).cell 0; have c1y3 : w3.cell? ⟨p, 1, none⟩ = some (.int .i64 f) := (HB.out.gr (HG1.out.trans g3)).cell 1; have d20 : w3.cell? ⟨p + 1, 0, none⟩ = some (.slice none 0 0) := (HR2.out.gr (HG1.out.trans g3)).cell 0; have d21 : w3.cell? ⟨p + 1, 1, none⟩ = some (.int .i64 0) := (HR2.out.gr (HG1.out.trans g3)).cell 1; have f20 : w3.frozen? ⟨p + 1, 0, none⟩ = false := (HR2.out.gr (HG1.out.trans g3)).frozen 0; have f21 : w3.frozen? ⟨p + 1, 1, none⟩ = false := (HR2.out.gr (HG1.out.trans g3)).frozen 1)
            refine bodyPost_ret (results_blk_tmp rfl _ rfl (HW.out w3 (HG1.out.trans g3)) aggDisk) rfl ?_
            rw [HS.out]
            exact ⟨A, n, cap, rfl, HV.out w3 (HG1.out.trans g3), HA.out, .inl ⟨rfl, rfl, rfl, rfl⟩⟩
        · have HPOS := sec hpos
          have HD2 : Sec (Gr w1 wc ∧ DOwn wc w1.heap.size q A1 n cap1 f fs) := sec ⟨gc, HD.out⟩
          by_cases hE : E = 0
          · subst hE
            have HS : Sec (stepR F fs f = (R, f, 0)) := sec (by unfold stepR; rw [HGF.out, if_pos rfl, if_neg hf0, ← HRR.out, if_pos rfl]; simp [HPOS.out])
            go_wp2_with (refine Calls.mono (HC.out _ f HD2.out) ?_; rintro e w3 ⟨rfl, g3, h3⟩; obtain ⟨A3, n3, cap3, hd3⟩ := h3 rfl; have hb30 : w3.cell? ⟨q, 0, none⟩ = some (.slice A3 n3 cap3) := hd3.blk.cell 0; have hb31 : w3.cell? ⟨q, 1, none⟩ = some (.int .i64 (f)) := hd3.blk.cell 1; have c0y3 : w3.cell? ⟨p, 0, none⟩ = some (.slice A n cap) := (HB.out.gr (HG1.out.trans g3)).cell 0; have c1y3 : w3.cell? ⟨p, 1, none⟩ = some (.int .i64 f) := (HB.out.gr (HG1.out.trans g3)).cell 1; have d20 : w3.cell? ⟨p + 1, 0, none⟩ = some (.slice none 0 0) := (HR2.out.gr (HG1.out.trans g3)).cell 0; have d21 : w3.cell? ⟨p + 1, 1, none⟩ = some (.int .i64 0) := (HR2.out.gr (HG1.out.trans g3)).cell 1; have f20 : w3.frozen? ⟨p + 1, 0, none⟩ = false := (HR2.out.gr (HG1.out.trans g3)).frozen 0; have f21 : w3.frozen? ⟨p + 1, 1, none⟩ = false := (HR2.out.gr (HG1.out.trans g3)).frozen 1)
            have hbb := (HR2.out.gr (HG1.out.trans g3))
            have hne := own_blk_ne hd3.own hbb (by decide)
            refine bodyPost_ret (results_blk_tmp rfl _ rfl ((hbb.set_ 0 (.slice A3 n3 cap3)).set_ 1 (.int .i64 (f))) aggDisk) rfl ?_
            rw [HS.out]
            exact ⟨A3, n3, cap3, rfl, ((hg0.trans (HG1.out.trans g3)).setCell (p := ⟨p + 1, 0, none⟩) (by show w.heap.size ≤ p + 1; omega) _).setCell (p := ⟨p + 1, 1, none⟩) (by show w.heap.size ≤ p + 1; omega) _, own_none hd3.own, .inr (own_low (ownsRow_setCell_other (ownsRow_setCell_other hd3.own (a := ⟨p + 1, 0, none⟩) hne _) (a := ⟨p + 1, 1, none⟩) hne _) (hg0.trans HG1.out).size)⟩
          · have HS : Sec (stepR F fs f = (fs, f, E)) := sec (by unfold stepR; rw [HGF.out, if_pos rfl, if_neg hf0, ← HRR.out, if_neg hE])
            go_wp2_with (refine Calls.mono (HC.out _ f HD2.out) ?_; rintro e w3 ⟨rfl, g3, _⟩; have c0y3 : w3.cell? ⟨p, 0, none⟩ = some (.slice A n cap) := (HB.out.gr (HG1.out.trans g3)).cell 0; have c1y3 : w3.cell? ⟨p, 1, none⟩ = some (.int .i64 f) := (HB.out.gr (HG1.out.trans g3)).cell 1; have d20 : w3.cell? ⟨p + 1, 0, none⟩ = some (.slice none 0 0) := (HR2.out.gr (HG1.out.trans g3)).cell 0; have d21 : w3.cell? ⟨p + 1, 1, none⟩ = some (.int .i64 0) := (HR2.out.gr (HG1.out.trans g3)).cell 1; have f20 : w3.frozen? ⟨p + 1, 0, none⟩ = false := (HR2.out.gr (HG1.out.trans g3)).frozen 0; have f21 : w3.frozen? ⟨p + 1, 1, none⟩ = false := (HR2.out.gr (HG1.out.trans g3)).frozen 1)
            refine bodyPost_ret (results_blk_tmp rfl _ rfl (HW.out w3 (HG1.out.trans g3)) aggDisk) rfl ?_
            rw [HS.out]
            exact ⟨A, n, cap, rfl, HV.out w3 (HG1.out.trans g3), HA.out, .inl ⟨rfl, rfl, rfl, rfl⟩⟩
end Go.Proofs.YtoamnifnfkgbiaaGreatDoor

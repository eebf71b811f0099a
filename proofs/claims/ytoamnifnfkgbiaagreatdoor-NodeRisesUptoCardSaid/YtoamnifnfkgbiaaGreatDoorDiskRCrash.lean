/-
  ref.Crash by its contract.
-/
import Derived.Test.YtoamnifnfkgbiaaGreatDoorDiskCrash
namespace Go.Proofs.YtoamnifnfkgbiaaGreatDoor
open Go.RowKit
set_option linter.unusedVariables false
theorem Row.lit {w : World} {g : Nat} {t : TypeId} {cs : Array Value} (h : Blk w g t cs) : Row w cs.size (some ⟨g, 0, none⟩) 1 cs.toList :=
  ⟨by simp, fun _ => ⟨g, 0, rfl, fun i v hv => by rw [Nat.zero_add, h.cell]; simpa using hv⟩⟩
theorem map_succ (K i : Nat) (fs : List Fl) (h : i < fs.length) : ((fs.take (i + 1)).map (crashF K)).flatMap fileC = ((fs.take i).map (crashF K)).flatMap fileC ++ fileC (crashF K fs[i]) := by
  rw [List.take_succ_eq_append_getElem h, List.map_append, List.flatMap_append]
  simp

set_option maxRecDepth 100000 in
set_option maxHeartbeats 4000000 in
theorem rcrash_any (fs : List Fl) (A : Option Addr) (n cap : Nat) (f keep : Int) (w : World) (hn : n ≤ 1099511627776) (hx : FRow w A n fs) (hA : A = none → n = 0 ∧ cap = 0) (hs : ∀ f ∈ fs, f.1.length ≤ 1099511627776 ∧ f.2.1.length ≤ 1099511627776 ∧ f.2.2.length ≤ 1099511627776) :
    Calls Tryz.prog 40 #[diskV A n cap f, .int .i64 keep] w fun e w' => ∃ A' cap', e = .returned (.tuple #[diskV A' n cap' (crashR fs f keep).2.1, .int .i64 (crashR fs f keep).2.2]) ∧ FRow w' A' n (crashR fs f keep).1 ∧ Gr w w' ∧ (A' = A ∨ w'.ownsRow w.heap.size 105 3 (.slice A' n cap') n ((crashR fs f keep).1.flatMap fileC)) := by
  have hg0 := ((Gr.refl w).alloc (.cells #[.slice A n cap, .int .i64 f] 24)).alloc (.cells #[.slice none 0 0, .int .i64 0] 24)
  have hb1 := (Blk.new w 24 #[.slice A n cap, .int .i64 f]).alloc (.cells #[.slice none 0 0, .int .i64 0] 24)
  have hb2 := Blk.new1 w (.cells #[.slice A n cap, .int .i64 f] 24) 24 #[.slice none 0 0, .int .i64 0]
  have HG := sec (drgood_any fs A n cap f _ hn (hx.gr hg0) hs)
  have hl := hx.len
  have HX := sec (hx.gr hg0)
  obtain ⟨wa, hwa⟩ : ∃ x, x = (w.alloc (.cells #[.slice A n cap, .int .i64 f] 24)).alloc (.cells #[.slice none 0 0, .int .i64 0] 24) := ⟨_, rfl⟩
  rw [← hwa] at hg0 hb1 hb2 HG HX
  obtain ⟨p, hp⟩ : ∃ p, p = w.heap.size := ⟨_, rfl⟩
  have hwp : w.heap.size ≤ p := by omega
  rw [← hp] at hb1 hb2
  have c0 : wa.cell? ⟨p, 0, none⟩ = some (.slice A n cap) := hb1.cell 0
  have c1 : wa.cell? ⟨p, 1, none⟩ = some (.int .i64 f) := hb1.cell 1
  have HB := sec hb1
  have HR2 := sec hb2
  have HX0 := sec hx
  clear hb1 hb2 hs hx
  unfold diskV at HG
  unfold diskV
  by_cases hgk : goodFs fs = true ∧ 0 ≤ keep
  · have HR : Sec (crashR fs f keep = (fs.map (crashF keep.toNat), -1, 0)) := sec (by unfold crashR; rw [if_pos hgk])
    rw [HR.out]
    obtain ⟨hgf, hk0⟩ := hgk
    have hsz := goodFs_ok hgf
    rw [hgf] at HG
    have q1 : decide (keep < 0) = false := decide_eq_false (by omega)
    clear hgf
    obtain ⟨K, rfl⟩ : ∃ K : Nat, keep = (K : Int) := ⟨keep.toNat, by omega⟩
    rw [Int.toNat_natCast]
    go_enter Tryz.func40, Tryz.ntmps40
    go_wp2_with (first | (rw [← hwa, ← hp]; clear hwa hp; go_wp2_with fail) | (go_at_call 86; refine Calls.mono HG.out ?_; rintro e w1 ⟨rfl, g1⟩; have HX1 := sec (HX.out.gr g1); have c0z : (w1.alloc (.cells #[.slice none 0 0, .int .i64 (-1)] 24)).cell? ⟨p, 0, none⟩ = some (.slice A n cap) := ((HB.out.gr g1).alloc _).cell 0; have c0y : w1.cell? ⟨p, 0, none⟩ = some (.slice A n cap) := (HB.out.gr g1).cell 0))
    have hb2 := (HR2.out.gr g1).alloc (.cells #[.slice none 0 0, .int .i64 (-1)] 24)
    have hb3 := Blk.new w1 24 #[.slice none 0 0, .int .i64 (-1)]
    have hgb := g1.alloc (.cells #[.slice none 0 0, .int .i64 (-1)] 24)
    have hx1 := HX1.out.gr ((Gr.refl w1).alloc (.cells #[.slice none 0 0, .int .i64 (-1)] 24))
    have hwq : w.heap.size ≤ w1.heap.size := Nat.le_trans hg0.size g1.size
    obtain ⟨wb, hwb⟩ : ∃ x, x = w1.alloc (.cells #[.slice none 0 0, .int .i64 (-1)] 24) := ⟨_, rfl⟩
    obtain ⟨q, hq⟩ : ∃ q, q = w1.heap.size := ⟨_, rfl⟩
    have hpq : p + 1 < w1.heap.size := (HR2.out.gr g1).lt
    rw [← hwb] at hb2 hb3 hgb hx1
    rw [← hq] at hb3 hwq hpq
    rw [← hwb, ← hq]
    have hgB := hg0.trans hgb
    have HB2 := sec hb2
    have HB3 := sec hb3
    have HSZ := sec hsz
    have HO : Sec (wb.ownsRow w.heap.size 105 3 (.slice none 0 0) 0 (((fs.take 0).map (crashF K)).flatMap fileC)) := sec (World.ownsRow_nil _ _ _ _)
    clear hb2 hb3 hwb hq g1 hgb c0z HX HX1 hx1 HB c0 c1 c0y HG hg0 hsz HR2 HR
    go_loopw [22, 8, 9] (fun iv _ _ wr => ∃ (i : Nat) (A1 : Option Addr) (k1 : Nat), iv = .int .i64 (i : Int) ∧ i ≤ n ∧ Sec (wr.ownsRow w.heap.size 105 3 (.slice A1 i k1) i (((fs.take i).map (crashF K)).flatMap fileC)) ∧ Sec (Blk wr (p + 1) 24 #[.slice none 0 0, .int .i64 0]) ∧ Sec (Blk wr q 24 #[.slice A1 i k1, .int .i64 (-1)]) ∧ Gr w wr) (fun iv _ _ _ => n - (intOf iv).toNat)
    case atStart => exact ⟨0, none, 0, rfl, by omega, HO, HB2, HB3, hgB⟩
    case round =>
      clear HO HB2 HB3 hgB
      obtain ⟨i, A1, k1, rfl, hi, HOw, H2, H3, hg⟩ := hrel
      by_cases hlt : i < n
      · have hif : i < fs.length := by omega
        have hii : (i : Int) < (n : Int) := by omega
        obtain ⟨b, off, rfl, e0, e1, e2⟩ := (HX0.out.gr hg).cell hif
        have hsz := HSZ.out fs[i] (List.getElem_mem hif)
        have HMS : Sec (((fs.take (i + 1)).map (crashF K)).flatMap fileC = ((fs.take i).map (crashF K)).flatMap fileC ++ fileC (crashF K fs[i])) := sec (map_succ K i fs hif)
        obtain ⟨x, hxx⟩ : ∃ x, x = fs[i] := ⟨_, rfl⟩
        rw [← hxx] at e0 e1 e2 hsz HMS
        clear hxx hif
        obtain ⟨nm, sf, tl⟩ := x
        simp only at e0 e1 e2 hsz HMS
        obtain ⟨_, hz1, hz2⟩ := hsz
        have d3 : wr.cell? ⟨q, 0, none⟩ = some (.slice A1 i k1) := H3.out.cell 0
        have fq0 : wr.frozen? ⟨q, 0, none⟩ = false := H3.out.frozen 0
        have hb1 : (i + 1) * 48 ≤ 140737488355328 := by omega
        have hb2 : i + 1 ≤ maxLen := by unfold maxLen; omega
        have hql := H3.out.lt
        have hq0 : wr.heap.size ≠ q := by omega
        have HNE := sec (own_blk_ne HOw.out H3.out (by decide))
        have HNP := sec (own_blk_ne HOw.out H2.out (by decide))
        have hws := hg.size
        by_cases hkl : tl.length ≤ K
        · have q2 : (tl.length : Int) ≤ (K : Int) := by omega
          have htk : tl.take K = tl := List.take_of_length_le (by omega)
          simp only [crashF, htk] at HMS
          clear htk
          go_wp2_with (refine wpList_append_row E.file rfl (.tmp 36) (.tmp 44) rfl (B := w.heap.size) (A0 := A1) (n0 := i) (cap0 := k1) rfl (own_gr HOw.out (((Gr.refl wr).alloc _).alloc _)) rfl (Row.lit (Blk.new1 wr _ 105 #[.string (bs nm), .string (bs (sf ++ tl)), .string (bs [])])) (by intro h; cases h) (by intro u hu; simp at hu; rcases hu with rfl | rfl | rfl <;> rfl) hb1 hb2 (by simp; omega) ?_; intro A2 k2 w2 hown hgn; have h3 := ((H3.out.alloc (.cells #[.string (bs nm), .string (bs sf), .string (bs tl)] 105)).alloc (.cells #[.string (bs nm), .string (bs (sf ++ tl)), .string (bs [])] 105)).grown hgn (Ne.symm HNE.out); have h2 := ((H2.out.alloc (.cells #[.string (bs nm), .string (bs sf), .string (bs tl)] 105)).alloc (.cells #[.string (bs nm), .string (bs (sf ++ tl)), .string (bs [])] 105)).grown hgn (Ne.symm HNP.out); have dq0 : w2.cell? ⟨q, 0, none⟩ = some (.slice A1 i k1) := h3.cell 0; have fq : w2.frozen? ⟨q, 0, none⟩ = false := h3.frozen 0)
          go_roundw
          case rel =>
            refine ⟨i + 1, A2, k2, by go_num, by omega, sec ?_, sec (h2.far (p := ⟨q, 0, none⟩) (by show p + 1 ≠ q; omega) _), sec (h3.set_ 0 (.slice A2 (i + 1) k2)), ?_⟩
            · rw [HMS.out]
              exact ownsRow_setCell_other hown (a := ⟨q, 0, none⟩) (own_blk_ne hown h3 (by decide)) _
            · exact (Gr.grown ((hg.alloc _).alloc _) hgn (fun k hk => (HOw.out.lt k hk).1)).setCell (p := ⟨q, 0, none⟩) hwq _
          case measure => simp [intOf]; omega
        · have q2 : ¬ (tl.length : Int) ≤ (K : Int) := by omega
          have q3 : K ≤ tl.length := by omega
          simp only [crashF] at HMS
          go_wp2_with (refine wpList_append_row E.file rfl (.tmp 36) (.tmp 44) rfl (B := w.heap.size) (A0 := A1) (n0 := i) (cap0 := k1) rfl (own_gr HOw.out (((Gr.refl wr).alloc _).alloc _)) rfl (Row.lit (Blk.new1 wr _ 105 #[.string (bs nm), .string (bs (sf ++ (tl.take K))), .string (bs [])])) (by intro h; cases h) (by intro u hu; simp at hu; rcases hu with rfl | rfl | rfl <;> rfl) hb1 hb2 (by simp; omega) ?_; intro A2 k2 w2 hown hgn; have h3 := ((H3.out.alloc (.cells #[.string (bs nm), .string (bs sf), .string (bs tl)] 105)).alloc (.cells #[.string (bs nm), .string (bs (sf ++ (tl.take K))), .string (bs [])] 105)).grown hgn (Ne.symm HNE.out); have h2 := ((H2.out.alloc (.cells #[.string (bs nm), .string (bs sf), .string (bs tl)] 105)).alloc (.cells #[.string (bs nm), .string (bs (sf ++ (tl.take K))), .string (bs [])] 105)).grown hgn (Ne.symm HNP.out); have dq0 : w2.cell? ⟨q, 0, none⟩ = some (.slice A1 i k1) := h3.cell 0; have fq : w2.frozen? ⟨q, 0, none⟩ = false := h3.frozen 0)
          go_roundw
          case rel =>
            refine ⟨i + 1, A2, k2, by go_num, by omega, sec ?_, sec (h2.far (p := ⟨q, 0, none⟩) (by show p + 1 ≠ q; omega) _), sec (h3.set_ 0 (.slice A2 (i + 1) k2)), ?_⟩
            · rw [HMS.out]
              exact ownsRow_setCell_other hown (a := ⟨q, 0, none⟩) (own_blk_ne hown h3 (by decide)) _
            · exact (Gr.grown ((hg.alloc _).alloc _) hgn (fun k hk => (HOw.out.lt k hk).1)).setCell (p := ⟨q, 0, none⟩) hwq _
          case measure => simp [intOf]; omega
      · obtain rfl : i = n := by omega
        have d30 : wr.cell? ⟨q, 0, none⟩ = some (.slice A1 i k1) := H3.out.cell 0
        have d31 : wr.cell? ⟨q, 1, none⟩ = some (.int .i64 (-1)) := H3.out.cell 1
        have d20 : wr.cell? ⟨p + 1, 0, none⟩ = some (.slice none 0 0) := H2.out.cell 0
        have d21 : wr.cell? ⟨p + 1, 1, none⟩ = some (.int .i64 0) := H2.out.cell 1
        have f20 : wr.frozen? ⟨p + 1, 0, none⟩ = false := H2.out.frozen 0
        have f21 : wr.frozen? ⟨p + 1, 1, none⟩ = false := H2.out.frozen 1
        clear hlt hi
        go_wp2_with fail
        have hB5 := (H2.out.set_ 0 (.slice A1 i k1)).set_ 1 (.int .i64 (-1))
        refine bodyPost_ret (results_blk_tmp rfl _ rfl hB5 aggDisk) rfl ?_
        have hne := own_blk_ne HOw.out H2.out (by decide)
        have ho3 := ownsRow_setCell_other (ownsRow_setCell_other HOw.out (a := ⟨p + 1, 0, none⟩) hne (.slice A1 i k1)) (a := ⟨p + 1, 1, none⟩) hne (.int .i64 (-1))
        rw [show fs.take i = fs from List.take_of_length_le (by omega)] at ho3
        refine ⟨A1, k1, rfl, Row.own ho3, (hg.setCell (p := ⟨p + 1, 0, none⟩) (by show w.heap.size ≤ p + 1; omega) _).setCell (p := ⟨p + 1, 1, none⟩) (by show w.heap.size ≤ p + 1; omega) _, .inr ho3⟩
  · have HR : Sec (crashR fs f keep = (fs, f, 3)) := sec (by unfold crashR; rw [if_neg hgk])
    rw [HR.out]
    have hW : ∀ w1, Gr wa w1 → Blk ((w1.setCell ⟨p + 1, 0, none⟩ (.slice A n cap)).setCell ⟨p + 1, 1, none⟩ (.int .i64 f)) (p + 1) 24 #[.slice A n cap, .int .i64 f] := fun w1 g1 => ((HR2.out.gr g1).set_ 0 (.slice A n cap)).set_ 1 (.int .i64 f)
    have hV : ∀ w1, Gr wa w1 → Gr w ((w1.setCell ⟨p + 1, 0, none⟩ (.slice A n cap)).setCell ⟨p + 1, 1, none⟩ (.int .i64 f)) := fun w1 g1 => ((hg0.trans g1).setCell (p := ⟨p + 1, 0, none⟩) (by show w.heap.size ≤ p + 1; omega) _).setCell (p := ⟨p + 1, 1, none⟩) (by show w.heap.size ≤ p + 1; omega) _
    have HW := sec hW
    have HV := sec hV
    clear hW hV
    cases hgf : goodFs fs with
    | false =>
      rw [hgf] at HG
      clear hgf hgk
      go_enter Tryz.func40, Tryz.ntmps40
      go_wp2_with (first | (rw [← hwa, ← hp]; clear hwa hp; go_wp2_with fail) | (go_at_call 86; refine Calls.mono HG.out ?_; rintro e w1 ⟨rfl, g1⟩; have c0y : w1.cell? ⟨p, 0, none⟩ = some (.slice A n cap) := (HB.out.gr g1).cell 0; have c1y : w1.cell? ⟨p, 1, none⟩ = some (.int .i64 f) := (HB.out.gr g1).cell 1; have d20 : w1.cell? ⟨p + 1, 0, none⟩ = some (.slice none 0 0) := (HR2.out.gr g1).cell 0; have d21 : w1.cell? ⟨p + 1, 1, none⟩ = some (.int .i64 0) := (HR2.out.gr g1).cell 1; have f20 : w1.frozen? ⟨p + 1, 0, none⟩ = false := (HR2.out.gr g1).frozen 0; have f21 : w1.frozen? ⟨p + 1, 1, none⟩ = false := (HR2.out.gr g1).frozen 1))
      refine bodyPost_ret (results_blk_tmp rfl _ rfl (HW.out w1 g1) aggDisk) rfl ?_
      exact ⟨A, cap, rfl, FRow.gr HX0.out (HV.out w1 g1), HV.out w1 g1, .inl rfl⟩
    | true =>
      rw [hgf] at HG
      have q1 : decide (keep < 0) = true := decide_eq_true (by have : ¬ 0 ≤ keep := fun h => hgk ⟨hgf, h⟩; omega)
      clear hgf hgk
      go_enter Tryz.func40, Tryz.ntmps40
      go_wp2_with (first | (rw [← hwa, ← hp]; clear hwa hp; go_wp2_with fail) | (go_at_call 86; refine Calls.mono HG.out ?_; rintro e w1 ⟨rfl, g1⟩; have c0y : w1.cell? ⟨p, 0, none⟩ = some (.slice A n cap) := (HB.out.gr g1).cell 0; have c1y : w1.cell? ⟨p, 1, none⟩ = some (.int .i64 f) := (HB.out.gr g1).cell 1; have d20 : w1.cell? ⟨p + 1, 0, none⟩ = some (.slice none 0 0) := (HR2.out.gr g1).cell 0; have d21 : w1.cell? ⟨p + 1, 1, none⟩ = some (.int .i64 0) := (HR2.out.gr g1).cell 1; have f20 : w1.frozen? ⟨p + 1, 0, none⟩ = false := (HR2.out.gr g1).frozen 0; have f21 : w1.frozen? ⟨p + 1, 1, none⟩ = false := (HR2.out.gr g1).frozen 1))
      refine bodyPost_ret (results_blk_tmp rfl _ rfl (HW.out w1 g1) aggDisk) rfl ?_
      exact ⟨A, cap, rfl, FRow.gr HX0.out (HV.out w1 g1), HV.out w1 g1, .inl rfl⟩
end Go.Proofs.YtoamnifnfkgbiaaGreatDoor

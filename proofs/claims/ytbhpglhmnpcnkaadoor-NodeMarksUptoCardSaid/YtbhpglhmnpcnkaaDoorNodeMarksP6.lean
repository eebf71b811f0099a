/-
  What the walk of cartularylaw.NodeMarks leans on, part 6 of 8: contracts and plain laws. No conditions.
-/
import Derived.Test.YtbhpglhmnpcnkaaDoorNodeMarksP5
import Derived.Deep.RegionLaw
import Derived.Test.YtbhpglhmnpcnkaaDoorNodeMarksP1
namespace Go.Proofs.YtbhpglhmnpcnkaaDoor
open Go.RowKit
set_option linter.unusedVariables false

/-- P6.3 within the power -/
def syF (name : List UInt8) (fs : List Fl) : List Fl × Int :=
  if hasF name fs then
    (fs.set (lbF name fs) ((fs.getD (lbF name fs) ([], [], [])).1, (fs.getD (lbF name fs) ([], [], [])).2.1 ++ (fs.getD (lbF name fs) ([], [], [])).2.2, []), 0)
  else (fs, 7)

set_option maxRecDepth 100000 in
set_option maxHeartbeats 4000000 in
theorem sync1_any (name : List UInt8) (c1 : Nat) (w0 : World) (h1 : w0.cell? ⟨c1, 0, none⟩ = some (.string (bs name))) :
    Steps 97 #[.pointer (some ⟨c1, 0, none⟩)] (syF name) w0 := by
  intro wb w q A n cap u fs g0 gc hd hgf
  show Calls Tryd.prog 97 #[.pointer (some ⟨q, 0, none⟩), .pointer (some ⟨c1, 0, none⟩)] w _
  have hl := hd.len
  have hl400 : fs.length ≤ 400 := goodFs_len hgf
  have e1 : w.cell? ⟨c1, 0, none⟩ = some (.string (bs name)) := ((g0.trans gc).cells.1 c1 _ (World.block_lt_of_cell? w0 _ h1)).trans h1
  have HD := sec hd
  have HS := sec (goodFs_sorted hgf)
  have HGC := sec gc
  have HGF := sec hgf
  have d0 : w.cell? ⟨q, 0, none⟩ = some (.slice A n cap) := hd.blk.cell 0
  have d1 : w.cell? ⟨q, 1, none⟩ = some (.int .i64 u) := hd.blk.cell 1
  clear h1 g0 gc hd hgf
  obtain ⟨k, hk⟩ : ∃ k, k = lbF name fs := ⟨_, rfl⟩
  have HK := sec hk
  clear hk
  cases hB : hasF name fs with
  | false =>
    have HR : Sec (syF name fs = (fs, 7)) := sec (by unfold syF; rw [hB]; rfl)
    have HB := sec hB
    clear hB
    go_enter Tryd.func97, Tryd.ntmps97
    go_upto_region 1 with fail
    go_cut [4, 5] from 7 to 37 (fun v5 v6 wx => v5 = .int .i64 (k : Int) ∧ v6 = .bool false ∧ Gr w wx)
    case first =>
      go_region_with (go_at_call 72; refine (find_any fs name A n cap u w.drew (by omega) (FRow.gr (Row.own HD.out.own) (Gr.refl _).drew) HS.out).mono ?_; rw [← HK.out, HB.out]; rintro e w2 ⟨rfl, g2⟩)
      all_goals (go_wp2_with fail; go_meet; exact ⟨rfl, rfl, Gr.trans (Gr.refl _).drew g2⟩)
    case rest =>
      obtain ⟨rfl, rfl, gx⟩ := hcut
      go_wp2_with fail
      go_ret
      rw [HR.out]
      exact ⟨rfl, HGC.out.trans gx, fun h => by cases h⟩
  | true =>
    have hX := hasF_lt HS.out hB
    rw [← HK.out] at hX
    obtain ⟨hkl, hnm⟩ := hX
    have HB := sec hB
    clear hB
    go_enter Tryd.func97, Tryd.ntmps97
    go_upto_region 1 with fail
    go_cut [4, 5] from 7 to 37 (fun v5 v6 wx => v5 = .int .i64 (k : Int) ∧ v6 = .bool true ∧ Gr w wx)
    case first =>
      go_region_with (go_at_call 72; refine (find_any fs name A n cap u w.drew (by omega) (FRow.gr (Row.own HD.out.own) (Gr.refl _).drew) HS.out).mono ?_; rw [← HK.out, HB.out]; rintro e w2 ⟨rfl, g2⟩)
      all_goals (go_wp2_with fail; go_meet; exact ⟨rfl, rfl, Gr.trans (Gr.refl _).drew g2⟩)
    case rest =>
      obtain ⟨rfl, rfl, gx⟩ := hcut
      have HDz := sec (HD.out.gr gx)
      have gz : Gr wb wc := HGC.out.trans gx
      clear d0 d1 e1 HD gx
      have hk2 : (k : Int) < (n : Int) := by omega
      obtain ⟨b, rfl, hBb, hbq, z0, z1, z2, zf⟩ := HDz.out.at hkl
      have zf1 : wc.frozen? ⟨b, k * 3 + 1, none⟩ = false := zf 1 (by omega)
      have zf2 : wc.frozen? ⟨b, k * 3 + 2, none⟩ = false := zf 2 (by omega)
      have hget : fs[k]? = some fs[k] := List.getElem?_eq_getElem hkl
      have hgd : fs.getD (lbF name fs) ([], [], []) = fs[k] := by
        rw [← HK.out, List.getD_eq_getElem?_getD, hget]; rfl
      have hsz := goodFs_ok HGF.out fs[k] (List.getElem_mem hkl)
      obtain ⟨x, hxx⟩ : ∃ x, x = fs[k] := ⟨_, rfl⟩
      rw [← hxx] at z0 z1 z2 hget hgd hsz
      clear hxx hnm hkl zf
      obtain ⟨nm, sf, tl⟩ := x
      simp only at z0 z1 z2 hsz
      obtain ⟨_, hz1, hz2⟩ := hsz
      have d0z : wc.cell? ⟨q, 0, none⟩ = some (.slice (some ⟨b, 0, none⟩) n cap) := HDz.out.blk.cell 0
      have HR : Sec (syF name fs = (fs.set k (nm, sf ++ tl, []), 0)) := sec (by
        unfold syF; rw [HB.out, if_pos rfl, hgd, ← HK.out])
      have HDF : Sec (∀ W, Gr wc W → DOwn ((W.setCell ⟨b, k * 3 + 1, none⟩ (.string (bs (sf ++ tl)))).setCell ⟨b, k * 3 + 2, none⟩ (.string (bs []))) wb.heap.size q (some ⟨b, 0, none⟩) n cap u (fs.set k (nm, sf ++ tl, []))) := sec (fun W g =>
        ⟨((HDz.out.gr g).blk.far (p := ⟨b, k * 3 + 1, none⟩) (Ne.symm hbq) _).far (p := ⟨b, k * 3 + 2, none⟩) (Ne.symm hbq) _, own_file2 (HDz.out.gr g).own k nm sf tl (sf ++ tl) [] hget, HDz.out.base⟩)
      have HGS : Sec (∀ W, Gr wc W → Gr wb ((W.setCell ⟨b, k * 3 + 1, none⟩ (.string (bs (sf ++ tl)))).setCell ⟨b, k * 3 + 2, none⟩ (.string (bs [])))) := sec (fun W g => ((gz.trans g).setCell (p := ⟨b, k * 3 + 1, none⟩) hBb _).setCell (p := ⟨b, k * 3 + 2, none⟩) hBb _)
      clear hget hgd
      go_wp2_with fail
      go_region
      go_wp2_with fail
      go_ret
      rw [HR.out]
      exact ⟨rfl, (HGS.out _ (Gr.refl _)).drew, fun _ => ⟨_, _, _, (HDF.out _ (Gr.refl _)).gr (Gr.refl _).drew⟩⟩

set_option maxRecDepth 100000 in
set_option maxHeartbeats 4000000 in
theorem sync_any (name : List UInt8) (fs : List Fl) (A : Option Addr) (n cap : Nat) (f : Int) (w : World) (hn : n ≤ 1099511627776) (hx : FRow w A n fs) (hA : A = none → n = 0 ∧ cap = 0) (hs : ∀ f ∈ fs, f.1.length ≤ 1099511627776 ∧ f.2.1.length ≤ 1099511627776 ∧ f.2.2.length ≤ 1099511627776)
    (hf : -9223372036854775808 ≤ f ∧ f ≤ 9223372036854775807) :
    Calls Tryd.prog 75 #[diskV A n cap f, .string (bs name)] w (StepPost (stepR (syF name) fs f) A n cap fs w) := by
  have g1 := (Gr.refl w).alloc (.cells #[.slice A n cap, .int .i64 f] 24)
  have g2 := g1.alloc (.cells #[.string (bs name)] 9)
  have g4 := g2.alloc (.cells #[.slice none 0 0, .int .i64 0] 24)
  have b1 := ((Blk.new w 24 #[.slice A n cap, .int .i64 f]).alloc (.cells #[.string (bs name)] 9)).alloc (.cells #[.slice none 0 0, .int .i64 0] 24)
  have b2 := (Blk.new1 w (.cells #[.slice A n cap, .int .i64 f] 24) 9 #[.string (bs name)]).alloc (.cells #[.slice none 0 0, .int .i64 0] 24)
  have b4 := Blk.newAt (w := ((w.alloc (.cells #[.slice A n cap, .int .i64 f] 24)).alloc (.cells #[.string (bs name)] 9))) (g := w.heap.size + 1 + 1) (by simp) 24 #[.slice none 0 0, .int .i64 0]
  obtain ⟨wa, hwa⟩ : ∃ x, x = (((w.alloc (.cells #[.slice A n cap, .int .i64 f] 24)).alloc (.cells #[.string (bs name)] 9))).alloc (.cells #[.slice none 0 0, .int .i64 0] 24) := ⟨_, rfl⟩
  rw [← hwa] at b1 b2 b4 g4
  obtain ⟨p, hp⟩ : ∃ p, p = w.heap.size := ⟨_, rfl⟩
  have hwp : w.heap.size ≤ p := by omega
  rw [← hp] at b1 b2 b4
  have c0 : wa.cell? ⟨p, 0, none⟩ = some (.slice A n cap) := b1.cell 0
  have c1 : wa.cell? ⟨p, 1, none⟩ = some (.int .i64 f) := b1.cell 1
  have HS := sec (step_any 97 #[.pointer (some ⟨p + 1, 0, none⟩)] (syF name) (enters_own Tryd.func97 (by kernel_rfl) rfl) fs A n cap f wa hn (hx.gr g4) hA hs hf (sync1_any name (p + 1) wa (b2.cell 0)))
  have HB4 := sec b4
  have HG4 := sec g4
  clear hx hA hs g1 g2 g4 b1 b2 b4
  unfold diskV at HS
  unfold diskV
  have hmf : ∀ (fn : Fn) (first cap : Array Value) (w : World), (Instr.makeFunc fn first cap).run Tryd.prog w = .ok (.func fn first cap) w := fun _ _ _ _ => rfl
  obtain ⟨R, hR⟩ : ∃ R, R = stepR (syF name) fs f := ⟨_, rfl⟩
  rw [← hR] at HS
  rw [← hR]
  clear hR
  obtain ⟨fs', f', er⟩ := R
  go_enter Tryd.func75, Tryd.ntmps75
  go_wp2_with (first | (rw [← hwa, ← hp]; clear hwa hp; go_wp2_with fail) | (go_at_call 92; refine Calls.mono HS.out ?_; rintro e w5 ⟨A', n', cap', rfl, g5, hA', hrow⟩;  unfold diskV; have d0 : w5.cell? ⟨p + 1 + 1, 0, none⟩ = some (.slice none 0 0) := (HB4.out.gr g5).cell 0; have d1 : w5.cell? ⟨p + 1 + 1, 1, none⟩ = some (.int .i64 0) := (HB4.out.gr g5).cell 1; have f0 : w5.frozen? ⟨p + 1 + 1, 0, none⟩ = false := (HB4.out.gr g5).frozen 0; have f1 : w5.frozen? ⟨p + 1 + 1, 1, none⟩ = false := (HB4.out.gr g5).frozen 1))
  refine bodyPost_ret (results_blk_tmp rfl _ rfl (((HB4.out.gr g5).set_ 0 (.slice A' n' cap')).set_ 1 (.int .i64 f')) aggDisk) rfl ?_
  have hfin := StepPost.set2 (r := (fs', f', er)) (p := p + 1 + 1) HG4.out HB4.out.lt (by omega) g5 (.slice A' n' cap') (.int .i64 f') hrow
  exact ⟨A', n', cap', rfl, hfin.1, hA', hfin.2⟩
end Go.Proofs.YtbhpglhmnpcnkaaDoor

namespace Go.Proofs.YtbhpglhmnpcnkaaDoor
open Go.RowKit
set_option linter.unusedVariables false

set_option maxRecDepth 100000 in
set_option maxHeartbeats 4000000 in
theorem do0_any (name s : List UInt8) (fs : List Fl) (A : Option Addr) (n cap : Nat) (f : Int) (w : World) (hn : n ≤ 1099511627776) (hnc : n ≤ cap) (hx : FRow w A n fs) (hA : A = none → n = 0 ∧ cap = 0) (hs : ∀ f ∈ fs, f.1.length ≤ 1099511627776 ∧ f.2.1.length ≤ 1099511627776 ∧ f.2.2.length ≤ 1099511627776)
    (hf : -9223372036854775808 ≤ f ∧ f ≤ 9223372036854775807) (hl1 : name.length ≤ 1099511627776) (hl2 : s.length ≤ 1099511627776) :
    Calls Tryd.prog 83 #[.int .i64 0, diskV A n cap f, .string (bs name), .string (bs s)] w (StepPost (stepR (wrF name s) fs f) A n cap fs w) := by
  have hg0 := ((Gr.refl w).alloc (.cells #[.slice A n cap, .int .i64 f] 24)).alloc (.cells #[.slice none 0 0, .int .i64 0] 24)
  have hb1 := (Blk.new w 24 #[.slice A n cap, .int .i64 f]).alloc (.cells #[.slice none 0 0, .int .i64 0] 24)
  have hb2 := Blk.new1 w (.cells #[.slice A n cap, .int .i64 f] 24) 24 #[.slice none 0 0, .int .i64 0]
  have HG := sec (drgood_any fs A n cap f _ hn (hx.gr hg0) hs)
  have hl := hx.len
  have HX := sec (hx.gr hg0)
  obtain ⟨wa, hwa⟩ : ∃ x, x = (w.alloc (.cells #[.slice A n cap, .int .i64 f] 24)).alloc (.cells #[.slice none 0 0, .int .i64 0] 24) := ⟨_, rfl⟩
  rw [← hwa] at hg0 hb1 hb2 HG HX
  obtain ⟨p, hp⟩ : ∃ p, p = w.heap.size := ⟨_, rfl⟩
  have hwp : w.heap.size ≤ p := by omega
  rw [← hp] at hb1 hb2
  have c0 : wa.cell? ⟨p, 0, none⟩ = some (.slice A n cap) := hb1.cell 0
  have c1 : wa.cell? ⟨p, 1, none⟩ = some (.int .i64 f) := hb1.cell 1
  have HB := sec hb1
  have HR2 := sec hb2
  have HX0 := sec hx
  have HA := sec hA
  clear hb1 hb2 hs hx
  unfold diskV at HG
  unfold diskV
  have HW : Sec (∀ w1, Gr wa w1 → Blk ((w1.setCell ⟨p + 1, 0, none⟩ (.slice A n cap)).setCell ⟨p + 1, 1, none⟩ (.int .i64 f)) (p + 1) 24 #[.slice A n cap, .int .i64 f]) := sec fun w1 g1 => ((HR2.out.gr g1).set_ 0 (.slice A n cap)).set_ 1 (.int .i64 f)
  have HV : Sec (∀ w1, Gr wa w1 → Gr w ((w1.setCell ⟨p + 1, 0, none⟩ (.slice A n cap)).setCell ⟨p + 1, 1, none⟩ (.int .i64 f))) := sec fun w1 g1 => ((hg0.trans g1).setCell (p := ⟨p + 1, 0, none⟩) (by show w.heap.size ≤ p + 1; omega) _).setCell (p := ⟨p + 1, 1, none⟩) (by show w.heap.size ≤ p + 1; omega) _
  cases hgf : goodFs fs with
  | false =>
    have HR : Sec (stepR (wrF name s) fs f = (fs, f, 3)) := sec (by unfold stepR; rw [hgf]; rfl)
    rw [HR.out]
    rw [hgf] at HG
    clear hgf
    go_enter Tryd.func83, Tryd.ntmps83
    go_wp2_with (first | (rw [← hwa, ← hp]; clear hwa hp; go_wp2_with fail) | (go_at_call 57; refine Calls.mono HG.out ?_; rintro e w1 ⟨rfl, g1⟩; have c0y : w1.cell? ⟨p, 0, none⟩ = some (.slice A n cap) := (HB.out.gr g1).cell 0; have c1y : w1.cell? ⟨p, 1, none⟩ = some (.int .i64 f) := (HB.out.gr g1).cell 1; have d20 : w1.cell? ⟨p + 1, 0, none⟩ = some (.slice none 0 0) := (HR2.out.gr g1).cell 0; have d21 : w1.cell? ⟨p + 1, 1, none⟩ = some (.int .i64 0) := (HR2.out.gr g1).cell 1; have f20 : w1.frozen? ⟨p + 1, 0, none⟩ = false := (HR2.out.gr g1).frozen 0; have f21 : w1.frozen? ⟨p + 1, 1, none⟩ = false := (HR2.out.gr g1).frozen 1))
    refine bodyPost_ret (results_blk_tmp rfl _ rfl (HW.out w1 g1) aggDisk) rfl ?_
    exact ⟨A, n, cap, rfl, HV.out w1 g1, HA.out, .inl ⟨rfl, rfl, rfl, rfl⟩⟩
  | true =>
    rw [hgf] at HG
    by_cases hf0 : f = 0
    · have HR : Sec (stepR (wrF name s) fs f = (fs, f, 12)) := sec (by unfold stepR; rw [hgf, hf0]; rfl)
      rw [HR.out]
      clear hgf
      subst hf0
      go_enter Tryd.func83, Tryd.ntmps83
      go_wp2_with (first | (rw [← hwa, ← hp]; clear hwa hp; go_wp2_with fail) | (go_at_call 57; refine Calls.mono HG.out ?_; rintro e w1 ⟨rfl, g1⟩; have c0y : w1.cell? ⟨p, 0, none⟩ = some (.slice A n cap) := (HB.out.gr g1).cell 0; have c1y : w1.cell? ⟨p, 1, none⟩ = some (.int .i64 0) := (HB.out.gr g1).cell 1; have d20 : w1.cell? ⟨p + 1, 0, none⟩ = some (.slice none 0 0) := (HR2.out.gr g1).cell 0; have d21 : w1.cell? ⟨p + 1, 1, none⟩ = some (.int .i64 0) := (HR2.out.gr g1).cell 1; have f20 : w1.frozen? ⟨p + 1, 0, none⟩ = false := (HR2.out.gr g1).frozen 0; have f21 : w1.frozen? ⟨p + 1, 1, none⟩ = false := (HR2.out.gr g1).frozen 1))
      refine bodyPost_ret (results_blk_tmp rfl _ rfl (HW.out w1 g1) aggDisk) rfl ?_
      exact ⟨A, n, cap, rfl, HV.out w1 g1, HA.out, .inl ⟨rfl, rfl, rfl, rfl⟩⟩
    · have HGF := sec hgf
      have HF0 := sec hf0
      have HSO := sec (goodFs_sorted hgf)
      have hl400 : n ≤ 400 := by have := goodFs_len hgf; omega
      clear hgf
      obtain ⟨u, hu⟩ : ∃ u, u = (if 0 < f then f - 1 else f) := ⟨_, rfl⟩
      have HU := sec hu
      clear hu
      have HERR : Sec (∀ E, (wrF name s fs).2 = E → E ≠ 0 → stepR (wrF name s) fs f = (fs, f, E)) := sec (fun E h h0 => by unfold stepR; rw [HGF.out, if_pos rfl, if_neg HF0.out, if_neg (by rw [h]; exact h0), h])
      have HOK : Sec (∀ R, (wrF name s fs) = (R, 0) → stepR (wrF name s) fs f = (R, u, 0)) := sec (fun R h => by unfold stepR; rw [HGF.out, if_pos rfl, if_neg HF0.out, if_pos (by rw [h]), h, HU.out])
      go_enter Tryd.func83, Tryd.ntmps83
      go_upto_if 27 with (first | (rw [← hwa, ← hp]; clear hwa hp; go_wp2_with fail) | (go_at_call 57; refine Calls.mono HG.out ?_; rintro e w1 ⟨rfl, g1⟩; have c0y : w1.cell? ⟨p, 0, none⟩ = some (.slice A n cap) := (HB.out.gr g1).cell 0; have c1y : w1.cell? ⟨p, 1, none⟩ = some (.int .i64 f) := (HB.out.gr g1).cell 1) | (go_at_call 28; refine Calls.mono (copyDisk_any fs A n cap f w1 hn (HX.out.gr g1) HA.out) ?_; unfold diskV; rintro e w2 ⟨A1, cap1, rfl, ho, hA1, g2⟩))
      have hqb := Blk.new w2 24 #[.slice A1 n cap1, .int .i64 f]
      have hoq := own_gr ho ((Gr.refl w2).alloc (.cells #[.slice A1 n cap1, .int .i64 f] 24))
      have gq := g2.alloc (.cells #[.slice A1 n cap1, .int .i64 f] 24)
      obtain ⟨wq, hwq⟩ : ∃ x, x = w2.alloc (.cells #[.slice A1 n cap1, .int .i64 f] 24) := ⟨_, rfl⟩
      obtain ⟨q, hq⟩ : ∃ q, q = w2.heap.size := ⟨_, rfl⟩
      have hq1 : w1.heap.size ≤ q := by have := g2.size; omega
      rw [← hwq] at hqb hoq gq
      rw [← hq] at hqb
      rw [← hwq, ← hq]
      have HDQ : Sec (DOwn wq w1.heap.size q A1 n cap1 f fs) := sec ⟨hqb, hoq, hq1⟩
      have HG1 := sec g1
      have hpq : p + 1 < w1.heap.size := (HR2.out.gr g1).lt
      clear hwq hq hqb hoq ho g2 hA1
      have dq0 : wq.cell? ⟨q, 0, none⟩ = some (.slice A1 n cap1) := HDQ.out.blk.cell 0
      have dq1 : wq.cell? ⟨q, 1, none⟩ = some (.int .i64 f) := HDQ.out.blk.cell 1
      have fq1 : wq.frozen? ⟨q, 1, none⟩ = false := HDQ.out.blk.frozen 1
      go_cut [] from 28 to 144 (fun wx => Sec (DOwn wx w1.heap.size q A1 n cap1 u fs) ∧ Gr w1 wx)
      case first =>
        by_cases hpos : 0 < f
        · have hwr : IntKind.i64.wrap (f - 1) = f - 1 := IntWalk.i64_in _ (by omega)
          have hu : u = f - 1 := by rw [HU.out, if_pos hpos]
          go_wp2_with fail
          go_meet
          rw [hu]
          exact ⟨sec ⟨HDQ.out.blk.set_ 1 _, ownsRow_setCell_other HDQ.out.own (a := ⟨q, 1, none⟩) HDQ.out.ne _, HDQ.out.base⟩, gq.setCell (p := ⟨q, 1, none⟩) hq1 _⟩
        · have hu : u = f := by rw [HU.out, if_neg hpos]
          go_wp2_with fail
          go_meet
          rw [hu]
          exact ⟨HDQ, gq⟩
      case rest =>
        obtain ⟨HDC, gc⟩ := hcut
        clear dq0 dq1 fq1 c0y c1y HDQ gq g1
        have c0y : wc.cell? ⟨p, 0, none⟩ = some (.slice A n cap) := (HB.out.gr (HG1.out.trans gc)).cell 0
        have c1y : wc.cell? ⟨p, 1, none⟩ = some (.int .i64 f) := (HB.out.gr (HG1.out.trans gc)).cell 1
        go_upto_region 9 with (go_at_call 82; refine Calls.mono (at_any fs name A n cap f wc hn (HX.out.gr (HG1.out.trans gc)) HSO.out) ?_; rintro e w4 ⟨rfl, g4⟩)
        have gg4 : Gr w1 w4 := gc.trans g4
        have HD4 := sec (HDC.out.gr g4)
        have HG4 := sec (HG1.out.trans gg4)
        have HGG4 := sec gg4
        clear c0y c1y gc g4 HDC HG1
        have c04 : w4.cell? ⟨p, 0, none⟩ = some (.slice A n cap) := (HB.out.gr HG4.out).cell 0
        have c14 : w4.cell? ⟨p, 1, none⟩ = some (.int .i64 f) := (HB.out.gr HG4.out).cell 1
        have d20 : w4.cell? ⟨p + 1, 0, none⟩ = some (.slice none 0 0) := (HR2.out.gr HG4.out).cell 0
        have d21 : w4.cell? ⟨p + 1, 1, none⟩ = some (.int .i64 0) := (HR2.out.gr HG4.out).cell 1
        have f20 : w4.frozen? ⟨p + 1, 0, none⟩ = false := (HR2.out.gr HG4.out).frozen 0
        have f21 : w4.frozen? ⟨p + 1, 1, none⟩ = false := (HR2.out.gr HG4.out).frozen 1
        have q04 : w4.cell? ⟨q, 0, none⟩ = some (.slice A1 n cap1) := HD4.out.blk.cell 0
        have q14 : w4.cell? ⟨q, 1, none⟩ = some (.int .i64 u) := HD4.out.blk.cell 1
        have fq4 : w4.frozen? ⟨q, 0, none⟩ = false := HD4.out.blk.frozen 0
        have HN := sec (fun w => fileName_any name w (by omega))
        have hpq1 : p + 1 ≠ q := by omega
        cases hnb : namedB name with
        | false =>
          have HR := sec (HERR.out 2 (by unfold wrF; rw [hnb]; rfl) (by decide))
          rw [hnb] at HN
          clear hnb
          go_wp2_with (go_at_call 81; refine (HN.out _).mono ?_; rintro e w5 ⟨rfl, g5⟩; have c05 : w5.cell? ⟨p, 0, none⟩ = some (.slice A n cap) := (HB.out.gr (HG4.out.trans g5)).cell 0; have c15 : w5.cell? ⟨p, 1, none⟩ = some (.int .i64 f) := (HB.out.gr (HG4.out.trans g5)).cell 1; have d205 : w5.cell? ⟨p + 1, 0, none⟩ = some (.slice none 0 0) := (HR2.out.gr (HG4.out.trans g5)).cell 0; have d215 : w5.cell? ⟨p + 1, 1, none⟩ = some (.int .i64 0) := (HR2.out.gr (HG4.out.trans g5)).cell 1; have f205 : w5.frozen? ⟨p + 1, 0, none⟩ = false := (HR2.out.gr (HG4.out.trans g5)).frozen 0; have f215 : w5.frozen? ⟨p + 1, 1, none⟩ = false := (HR2.out.gr (HG4.out.trans g5)).frozen 1)
          refine bodyPost_ret (results_blk_tmp rfl _ rfl (HW.out w5 (HG4.out.trans g5)) aggDisk) rfl ?_
          rw [HR.out]
          exact ⟨A, n, cap, rfl, HV.out w5 (HG4.out.trans g5), HA.out, .inl ⟨rfl, rfl, rfl, rfl⟩⟩
        | true =>
          rw [hnb] at HN
          have HNB := sec hnb
          clear hnb
          cases hhf : hasF name fs with
          | false =>
            have hai : atI name fs = -1 := by unfold atI; rw [hhf]; rfl
            rw [hai]
            by_cases hfull : 400 ≤ n
            · have HR := sec (HERR.out 6 (by unfold wrF; rw [HNB.out, if_pos rfl, if_pos ⟨hhf, by omega⟩]) (by decide))
              obtain rfl : n = 400 := by omega
              clear hhf hai
              go_wp2_with (go_at_call 81; refine (HN.out _).mono ?_; rintro e w5 ⟨rfl, g5⟩; have c05 : w5.cell? ⟨p, 0, none⟩ = some (.slice A 400 cap) := (HB.out.gr (HG4.out.trans g5)).cell 0; have c15 : w5.cell? ⟨p, 1, none⟩ = some (.int .i64 f) := (HB.out.gr (HG4.out.trans g5)).cell 1; have d205 : w5.cell? ⟨p + 1, 0, none⟩ = some (.slice none 0 0) := (HR2.out.gr (HG4.out.trans g5)).cell 0; have d215 : w5.cell? ⟨p + 1, 1, none⟩ = some (.int .i64 0) := (HR2.out.gr (HG4.out.trans g5)).cell 1; have f205 : w5.frozen? ⟨p + 1, 0, none⟩ = false := (HR2.out.gr (HG4.out.trans g5)).frozen 0; have f215 : w5.frozen? ⟨p + 1, 1, none⟩ = false := (HR2.out.gr (HG4.out.trans g5)).frozen 1; have c05w : (w5.alloc (.cells #[.string (bs name), .string (bs []), .string (bs [])] 87)).cell? ⟨p, 0, none⟩ = some (.slice A 400 cap) := (HB.out.gr (HG4.out.trans (g5.alloc _))).cell 0; have c15w : (w5.alloc (.cells #[.string (bs name), .string (bs []), .string (bs [])] 87)).cell? ⟨p, 1, none⟩ = some (.int .i64 f) := (HB.out.gr (HG4.out.trans (g5.alloc _))).cell 1; have q05w : (w5.alloc (.cells #[.string (bs name), .string (bs []), .string (bs [])] 87)).cell? ⟨q, 0, none⟩ = some (.slice A1 400 cap1) := ((HD4.out.blk.gr g5).alloc _).cell 0; have d205w : (w5.alloc (.cells #[.string (bs name), .string (bs []), .string (bs [])] 87)).cell? ⟨p + 1, 0, none⟩ = some (.slice none 0 0) := (HR2.out.gr (HG4.out.trans (g5.alloc _))).cell 0; have d215w : (w5.alloc (.cells #[.string (bs name), .string (bs []), .string (bs [])] 87)).cell? ⟨p + 1, 1, none⟩ = some (.int .i64 0) := (HR2.out.gr (HG4.out.trans (g5.alloc _))).cell 1; have f205w : (w5.alloc (.cells #[.string (bs name), .string (bs []), .string (bs [])] 87)).frozen? ⟨p + 1, 0, none⟩ = false := (HR2.out.gr (HG4.out.trans (g5.alloc _))).frozen 0; have f215w : (w5.alloc (.cells #[.string (bs name), .string (bs []), .string (bs [])] 87)).frozen? ⟨p + 1, 1, none⟩ = false := (HR2.out.gr (HG4.out.trans (g5.alloc _))).frozen 1)
              have hV5 : Gr w (((w5.alloc (.cells #[.string (bs name), .string (bs []), .string (bs [])] 87)).setCell ⟨p + 1, 0, none⟩ (.slice A 400 cap)).setCell ⟨p + 1, 1, none⟩ (.int .i64 f)) := HV.out _ (HG4.out.trans (g5.alloc _))
              refine bodyPost_ret (results_blk_tmp rfl _ rfl (HW.out _ (HG4.out.trans (g5.alloc (.cells #[.string (bs name), .string (bs []), .string (bs [])] 87)))) aggDisk) rfl ?_
              rw [HR.out]
              exact ⟨A, 400, cap, rfl, hV5, HA.out, .inl ⟨rfl, rfl, rfl, rfl⟩⟩
            · have hpre : wrPre name fs = insF (lbF name fs) (name, [], []) fs := by unfold wrPre; rw [hhf]; rfl
              have hgd : (wrPre name fs).getD (lbF name fs) ([], [], []) = (name, [], []) := by rw [hpre, List.getD_eq_getElem?_getD, insF_get _ _ _ (lbF_le name fs)]; rfl
              have hnf : ¬ (hasF name fs = false ∧ 400 ≤ fs.length) := fun h => hfull (by omega)
              have h4 : ¬ n = 400 := by omega
              have h4' : ¬ (n : Int) = 400 := by omega
              by_cases hlong : s.length ≤ 1048576
              · have HR := sec (HOK.out (putF (name, [], s) fs) (by
                  unfold wrF; rw [HNB.out, if_pos rfl, if_neg hnf, hgd, if_pos (by simpa using hlong), put_sorted _ _ HSO.out, hhf, if_neg (by decide), hpre, insF_set _ _ _ _ (lbF_le name fs)]; rfl))
                clear hhf hai hpre hgd hnf hfull
                have HPU0 : Sec (∀ W, Gr w4 W → Calls Tryd.prog 102 #[.slice A1 n cap1, .agg #[.string (bs name), .string (bs []), .string (bs s)]] (W.alloc (.cells #[.string (bs name), .string (bs []), .string (bs s)] 87)) fun e w' =>
                  ∃ A' n' cap', e = .returned (.slice A' n' cap') ∧ w'.ownsRow (W.alloc (.cells #[.string (bs name), .string (bs []), .string (bs s)] 87)).heap.size 87 3 (.slice A' n' cap') n' ((putF (name, [], s) fs).flatMap fileC) ∧ Gr (W.alloc (.cells #[.string (bs name), .string (bs []), .string (bs s)] 87)) w') := sec
                  (fun W g => put_any fs name ([]) (s) A1 n cap1 _ hn (FRow.gr (Row.own HD4.out.own) (g.alloc _)))
                go_wp2_with (first | (go_at_call 81; refine (HN.out _).mono ?_; rintro e w5 ⟨rfl, g5⟩; have c05 : w5.cell? ⟨p, 0, none⟩ = some (.slice A n cap) := (HB.out.gr (HG4.out.trans g5)).cell 0; have c15 : w5.cell? ⟨p, 1, none⟩ = some (.int .i64 f) := (HB.out.gr (HG4.out.trans g5)).cell 1; have d205 : w5.cell? ⟨p + 1, 0, none⟩ = some (.slice none 0 0) := (HR2.out.gr (HG4.out.trans g5)).cell 0; have d215 : w5.cell? ⟨p + 1, 1, none⟩ = some (.int .i64 0) := (HR2.out.gr (HG4.out.trans g5)).cell 1; have f205 : w5.frozen? ⟨p + 1, 0, none⟩ = false := (HR2.out.gr (HG4.out.trans g5)).frozen 0; have f215 : w5.frozen? ⟨p + 1, 1, none⟩ = false := (HR2.out.gr (HG4.out.trans g5)).frozen 1; have c05w : (w5.alloc (.cells #[.string (bs name), .string (bs []), .string (bs [])] 87)).cell? ⟨p, 0, none⟩ = some (.slice A n cap) := (HB.out.gr (HG4.out.trans (g5.alloc _))).cell 0; have c15w : (w5.alloc (.cells #[.string (bs name), .string (bs []), .string (bs [])] 87)).cell? ⟨p, 1, none⟩ = some (.int .i64 f) := (HB.out.gr (HG4.out.trans (g5.alloc _))).cell 1; have q05w : (w5.alloc (.cells #[.string (bs name), .string (bs []), .string (bs [])] 87)).cell? ⟨q, 0, none⟩ = some (.slice A1 n cap1) := ((HD4.out.blk.gr g5).alloc _).cell 0; have d205w : (w5.alloc (.cells #[.string (bs name), .string (bs []), .string (bs [])] 87)).cell? ⟨p + 1, 0, none⟩ = some (.slice none 0 0) := (HR2.out.gr (HG4.out.trans (g5.alloc _))).cell 0; have d215w : (w5.alloc (.cells #[.string (bs name), .string (bs []), .string (bs [])] 87)).cell? ⟨p + 1, 1, none⟩ = some (.int .i64 0) := (HR2.out.gr (HG4.out.trans (g5.alloc _))).cell 1; have f205w : (w5.alloc (.cells #[.string (bs name), .string (bs []), .string (bs [])] 87)).frozen? ⟨p + 1, 0, none⟩ = false := (HR2.out.gr (HG4.out.trans (g5.alloc _))).frozen 0; have f215w : (w5.alloc (.cells #[.string (bs name), .string (bs []), .string (bs [])] 87)).frozen? ⟨p + 1, 1, none⟩ = false := (HR2.out.gr (HG4.out.trans (g5.alloc _))).frozen 1; have c05v : (w5.alloc (.cells #[.string (bs name), .string (bs []), .string (bs s)] 87)).cell? ⟨p, 0, none⟩ = some (.slice A n cap) := (HB.out.gr (HG4.out.trans (g5.alloc _))).cell 0; have c15v : (w5.alloc (.cells #[.string (bs name), .string (bs []), .string (bs s)] 87)).cell? ⟨p, 1, none⟩ = some (.int .i64 f) := (HB.out.gr (HG4.out.trans (g5.alloc _))).cell 1; have q05v : (w5.alloc (.cells #[.string (bs name), .string (bs []), .string (bs s)] 87)).cell? ⟨q, 0, none⟩ = some (.slice A1 n cap1) := ((HD4.out.blk.gr g5).alloc _).cell 0; have d205v : (w5.alloc (.cells #[.string (bs name), .string (bs []), .string (bs s)] 87)).cell? ⟨p + 1, 0, none⟩ = some (.slice none 0 0) := (HR2.out.gr (HG4.out.trans (g5.alloc _))).cell 0; have d215v : (w5.alloc (.cells #[.string (bs name), .string (bs []), .string (bs s)] 87)).cell? ⟨p + 1, 1, none⟩ = some (.int .i64 0) := (HR2.out.gr (HG4.out.trans (g5.alloc _))).cell 1; have f205v : (w5.alloc (.cells #[.string (bs name), .string (bs []), .string (bs s)] 87)).frozen? ⟨p + 1, 0, none⟩ = false := (HR2.out.gr (HG4.out.trans (g5.alloc _))).frozen 0; have f215v : (w5.alloc (.cells #[.string (bs name), .string (bs []), .string (bs s)] 87)).frozen? ⟨p + 1, 1, none⟩ = false := (HR2.out.gr (HG4.out.trans (g5.alloc _))).frozen 1; have HPU := sec (HPU0.out w5 g5)) | (go_at_call 102; refine HPU.out.mono ?_; rintro e w6 ⟨A6, n6, k6, rfl, hown6, g6'⟩; have g6 : Gr w4 w6 := (g5.alloc _).trans g6'; have hbq := HD4.out.blk.gr g6; have hbp := HR2.out.gr (HG4.out.trans g6); have q06 : w6.cell? ⟨q, 0, none⟩ = some (.slice A1 n cap1) := hbq.cell 0; have q16 : w6.cell? ⟨q, 1, none⟩ = some (.int .i64 u) := hbq.cell 1; have fq6 : w6.frozen? ⟨q, 0, none⟩ = false := hbq.frozen 0; have d206 : w6.cell? ⟨p + 1, 0, none⟩ = some (.slice none 0 0) := hbp.cell 0; have d216 : w6.cell? ⟨p + 1, 1, none⟩ = some (.int .i64 0) := hbp.cell 1; have f206 : w6.frozen? ⟨p + 1, 0, none⟩ = false := hbp.frozen 0; have f216 : w6.frozen? ⟨p + 1, 1, none⟩ = false := hbp.frozen 1))
                have hE := do_end (hg0.trans (HG4.out.trans g6)) (by omega) (by omega) hbp hbq hpq1 hown6 (Nat.le_trans (hg0.trans HG4.out).size (g5.alloc _).size) u (.slice A6 n6 k6)
                refine bodyPost_ret (results_blk_tmp rfl _ rfl hE.1 aggDisk) rfl ?_
                rw [HR.out]
                exact ⟨A6, _, k6, rfl, hE.2.1, hE.2.2.2, .inr hE.2.2.1⟩
              · have HR := sec (HERR.out 1 (by unfold wrF; rw [HNB.out, if_pos rfl, if_neg hnf, hgd, if_neg (by simpa using hlong)]) (by decide))
                have hl5 : (1048576 : Int) < (s.length : Int) := by omega
                clear hhf hai hpre hgd hnf hfull
                go_wp2_with (go_at_call 81; refine (HN.out _).mono ?_; rintro e w5 ⟨rfl, g5⟩; have c05 : w5.cell? ⟨p, 0, none⟩ = some (.slice A n cap) := (HB.out.gr (HG4.out.trans g5)).cell 0; have c15 : w5.cell? ⟨p, 1, none⟩ = some (.int .i64 f) := (HB.out.gr (HG4.out.trans g5)).cell 1; have d205 : w5.cell? ⟨p + 1, 0, none⟩ = some (.slice none 0 0) := (HR2.out.gr (HG4.out.trans g5)).cell 0; have d215 : w5.cell? ⟨p + 1, 1, none⟩ = some (.int .i64 0) := (HR2.out.gr (HG4.out.trans g5)).cell 1; have f205 : w5.frozen? ⟨p + 1, 0, none⟩ = false := (HR2.out.gr (HG4.out.trans g5)).frozen 0; have f215 : w5.frozen? ⟨p + 1, 1, none⟩ = false := (HR2.out.gr (HG4.out.trans g5)).frozen 1; have c05w : (w5.alloc (.cells #[.string (bs name), .string (bs []), .string (bs [])] 87)).cell? ⟨p, 0, none⟩ = some (.slice A n cap) := (HB.out.gr (HG4.out.trans (g5.alloc _))).cell 0; have c15w : (w5.alloc (.cells #[.string (bs name), .string (bs []), .string (bs [])] 87)).cell? ⟨p, 1, none⟩ = some (.int .i64 f) := (HB.out.gr (HG4.out.trans (g5.alloc _))).cell 1; have q05w : (w5.alloc (.cells #[.string (bs name), .string (bs []), .string (bs [])] 87)).cell? ⟨q, 0, none⟩ = some (.slice A1 n cap1) := ((HD4.out.blk.gr g5).alloc _).cell 0; have d205w : (w5.alloc (.cells #[.string (bs name), .string (bs []), .string (bs [])] 87)).cell? ⟨p + 1, 0, none⟩ = some (.slice none 0 0) := (HR2.out.gr (HG4.out.trans (g5.alloc _))).cell 0; have d215w : (w5.alloc (.cells #[.string (bs name), .string (bs []), .string (bs [])] 87)).cell? ⟨p + 1, 1, none⟩ = some (.int .i64 0) := (HR2.out.gr (HG4.out.trans (g5.alloc _))).cell 1; have f205w : (w5.alloc (.cells #[.string (bs name), .string (bs []), .string (bs [])] 87)).frozen? ⟨p + 1, 0, none⟩ = false := (HR2.out.gr (HG4.out.trans (g5.alloc _))).frozen 0; have f215w : (w5.alloc (.cells #[.string (bs name), .string (bs []), .string (bs [])] 87)).frozen? ⟨p + 1, 1, none⟩ = false := (HR2.out.gr (HG4.out.trans (g5.alloc _))).frozen 1; have c05v : (w5.alloc (.cells #[.string (bs name), .string (bs []), .string (bs s)] 87)).cell? ⟨p, 0, none⟩ = some (.slice A n cap) := (HB.out.gr (HG4.out.trans (g5.alloc _))).cell 0; have c15v : (w5.alloc (.cells #[.string (bs name), .string (bs []), .string (bs s)] 87)).cell? ⟨p, 1, none⟩ = some (.int .i64 f) := (HB.out.gr (HG4.out.trans (g5.alloc _))).cell 1; have q05v : (w5.alloc (.cells #[.string (bs name), .string (bs []), .string (bs s)] 87)).cell? ⟨q, 0, none⟩ = some (.slice A1 n cap1) := ((HD4.out.blk.gr g5).alloc _).cell 0; have d205v : (w5.alloc (.cells #[.string (bs name), .string (bs []), .string (bs s)] 87)).cell? ⟨p + 1, 0, none⟩ = some (.slice none 0 0) := (HR2.out.gr (HG4.out.trans (g5.alloc _))).cell 0; have d215v : (w5.alloc (.cells #[.string (bs name), .string (bs []), .string (bs s)] 87)).cell? ⟨p + 1, 1, none⟩ = some (.int .i64 0) := (HR2.out.gr (HG4.out.trans (g5.alloc _))).cell 1; have f205v : (w5.alloc (.cells #[.string (bs name), .string (bs []), .string (bs s)] 87)).frozen? ⟨p + 1, 0, none⟩ = false := (HR2.out.gr (HG4.out.trans (g5.alloc _))).frozen 0; have f215v : (w5.alloc (.cells #[.string (bs name), .string (bs []), .string (bs s)] 87)).frozen? ⟨p + 1, 1, none⟩ = false := (HR2.out.gr (HG4.out.trans (g5.alloc _))).frozen 1)
                have hV5 := HV.out _ (HG4.out.trans (g5.alloc (.cells #[.string (bs name), .string (bs []), .string (bs s)] 87)))
                refine bodyPost_ret (results_blk_tmp rfl _ rfl (HW.out _ (HG4.out.trans (g5.alloc (.cells #[.string (bs name), .string (bs []), .string (bs s)] 87)))) aggDisk) rfl ?_
                rw [HR.out]
                exact ⟨A, n, cap, rfl, hV5, HA.out, .inl ⟨rfl, rfl, rfl, rfl⟩⟩
          | true =>
            have hlt := hasF_lt HSO.out hhf
            have hput : ∀ f : Fl, f.1 = name → putF f fs = fs.set (lbF name fs) f := fun f h => by rw [put_sorted f fs HSO.out, h, hhf, if_pos rfl]
            have hpre : wrPre name fs = fs := by unfold wrPre; rw [hhf]; rfl
            have hnf : ¬ (hasF name fs = false ∧ 400 ≤ fs.length) := fun h => by rw [hhf] at h; cases h.1
            obtain ⟨k, hk⟩ : ∃ k, k = lbF name fs := ⟨_, rfl⟩
            have hai : atI name fs = k := by unfold atI; rw [hhf, hk]; rfl
            rw [← hk] at hlt hput
            obtain ⟨hkf, hnm⟩ := hlt
            rw [hai]
            have hgd : (wrPre name fs).getD (lbF name fs) ([], [], []) = fs[k] := by
              rw [hpre, ← hk, List.getD_eq_getElem?_getD, List.getElem?_eq_getElem hkf]; rfl
            obtain ⟨b, off, rfl, e0, e1, e2⟩ := (HX.out.gr HG4.out).cell hkf
            have E0 : Sec (∀ W, Gr w4 W → W.cell? ⟨b, off + k * 3, none⟩ = some (.string (bs fs[k].1)) ∧ W.cell? ⟨b, off + k * 3 + 1, none⟩ = some (.string (bs fs[k].2.1)) ∧ W.cell? ⟨b, off + k * 3 + 2, none⟩ = some (.string (bs fs[k].2.2))) := sec (fun W g => ⟨(g.cells.1 b _ (World.block_lt_of_cell? w4 _ e0)).trans e0, (g.cells.1 b _ (World.block_lt_of_cell? w4 _ e0)).trans e1, (g.cells.1 b _ (World.block_lt_of_cell? w4 _ e0)).trans e2⟩)
            have hsz := goodFs_ok HGF.out fs[k] (List.getElem_mem hkf)
            obtain ⟨x, hxx⟩ : ∃ x, x = fs[k] := ⟨_, rfl⟩
            rw [← hxx] at E0 hsz hgd hnm
            obtain ⟨nm, sf, tl⟩ := x
            simp only at E0 hsz hnm
            subst hnm
            obtain ⟨_, hz1, hz2⟩ := hsz
            have hkn1 : (k : Int) < (n : Int) := by omega
            by_cases hlong : sf.length + tl.length + s.length ≤ 1048576
            · have HR := sec (HOK.out (putF (nm, sf, tl ++ s) fs) (by
                unfold wrF; rw [HNB.out, if_pos rfl, if_neg hnf, hgd, if_pos hlong, hpre, ← hk, hput _ rfl]))
              have hl5 : ¬ (1048576 : Int) < (sf.length : Int) + ((tl.length : Int) + (s.length : Int)) := by omega
              clear hai hk hhf hput hxx hkf hgd hpre hnf e0 e1 e2
              have HPU0 : Sec (∀ W, Gr w4 W → Calls Tryd.prog 102 #[.slice A1 n cap1, .agg #[.string (bs nm), .string (bs sf), .string (bs (tl ++ s))]] (W.alloc (.cells #[.string (bs nm), .string (bs sf), .string (bs (tl ++ s))] 87)) fun e w' =>
                ∃ A' n' cap', e = .returned (.slice A' n' cap') ∧ w'.ownsRow (W.alloc (.cells #[.string (bs nm), .string (bs sf), .string (bs (tl ++ s))] 87)).heap.size 87 3 (.slice A' n' cap') n' ((putF (nm, sf, (tl ++ s)) fs).flatMap fileC) ∧ Gr (W.alloc (.cells #[.string (bs nm), .string (bs sf), .string (bs (tl ++ s))] 87)) w') := sec
                (fun W g => put_any fs nm (sf) ((tl ++ s)) A1 n cap1 _ hn (FRow.gr (Row.own HD4.out.own) (g.alloc _)))
              go_wp2_with (first | (go_at_call 81; refine (HN.out _).mono ?_; rintro e w5 ⟨rfl, g5⟩; have c05 : w5.cell? ⟨p, 0, none⟩ = some (.slice (some ⟨b, off, none⟩) n cap) := (HB.out.gr (HG4.out.trans g5)).cell 0; have c15 : w5.cell? ⟨p, 1, none⟩ = some (.int .i64 f) := (HB.out.gr (HG4.out.trans g5)).cell 1; have d205 : w5.cell? ⟨p + 1, 0, none⟩ = some (.slice none 0 0) := (HR2.out.gr (HG4.out.trans g5)).cell 0; have d215 : w5.cell? ⟨p + 1, 1, none⟩ = some (.int .i64 0) := (HR2.out.gr (HG4.out.trans g5)).cell 1; have f205 : w5.frozen? ⟨p + 1, 0, none⟩ = false := (HR2.out.gr (HG4.out.trans g5)).frozen 0; have f215 : w5.frozen? ⟨p + 1, 1, none⟩ = false := (HR2.out.gr (HG4.out.trans g5)).frozen 1; have c05w : (w5.alloc (.cells #[.string (bs nm), .string (bs []), .string (bs [])] 87)).cell? ⟨p, 0, none⟩ = some (.slice (some ⟨b, off, none⟩) n cap) := (HB.out.gr (HG4.out.trans (g5.alloc _))).cell 0; have c15w : (w5.alloc (.cells #[.string (bs nm), .string (bs []), .string (bs [])] 87)).cell? ⟨p, 1, none⟩ = some (.int .i64 f) := (HB.out.gr (HG4.out.trans (g5.alloc _))).cell 1; have q05w : (w5.alloc (.cells #[.string (bs nm), .string (bs []), .string (bs [])] 87)).cell? ⟨q, 0, none⟩ = some (.slice A1 n cap1) := ((HD4.out.blk.gr g5).alloc _).cell 0; have d205w : (w5.alloc (.cells #[.string (bs nm), .string (bs []), .string (bs [])] 87)).cell? ⟨p + 1, 0, none⟩ = some (.slice none 0 0) := (HR2.out.gr (HG4.out.trans (g5.alloc _))).cell 0; have d215w : (w5.alloc (.cells #[.string (bs nm), .string (bs []), .string (bs [])] 87)).cell? ⟨p + 1, 1, none⟩ = some (.int .i64 0) := (HR2.out.gr (HG4.out.trans (g5.alloc _))).cell 1; have f205w : (w5.alloc (.cells #[.string (bs nm), .string (bs []), .string (bs [])] 87)).frozen? ⟨p + 1, 0, none⟩ = false := (HR2.out.gr (HG4.out.trans (g5.alloc _))).frozen 0; have f215w : (w5.alloc (.cells #[.string (bs nm), .string (bs []), .string (bs [])] 87)).frozen? ⟨p + 1, 1, none⟩ = false := (HR2.out.gr (HG4.out.trans (g5.alloc _))).frozen 1; have c05v : (w5.alloc (.cells #[.string (bs nm), .string (bs sf), .string (bs (tl ++ s))] 87)).cell? ⟨p, 0, none⟩ = some (.slice (some ⟨b, off, none⟩) n cap) := (HB.out.gr (HG4.out.trans (g5.alloc _))).cell 0; have c15v : (w5.alloc (.cells #[.string (bs nm), .string (bs sf), .string (bs (tl ++ s))] 87)).cell? ⟨p, 1, none⟩ = some (.int .i64 f) := (HB.out.gr (HG4.out.trans (g5.alloc _))).cell 1; have q05v : (w5.alloc (.cells #[.string (bs nm), .string (bs sf), .string (bs (tl ++ s))] 87)).cell? ⟨q, 0, none⟩ = some (.slice A1 n cap1) := ((HD4.out.blk.gr g5).alloc _).cell 0; have d205v : (w5.alloc (.cells #[.string (bs nm), .string (bs sf), .string (bs (tl ++ s))] 87)).cell? ⟨p + 1, 0, none⟩ = some (.slice none 0 0) := (HR2.out.gr (HG4.out.trans (g5.alloc _))).cell 0; have d215v : (w5.alloc (.cells #[.string (bs nm), .string (bs sf), .string (bs (tl ++ s))] 87)).cell? ⟨p + 1, 1, none⟩ = some (.int .i64 0) := (HR2.out.gr (HG4.out.trans (g5.alloc _))).cell 1; have f205v : (w5.alloc (.cells #[.string (bs nm), .string (bs sf), .string (bs (tl ++ s))] 87)).frozen? ⟨p + 1, 0, none⟩ = false := (HR2.out.gr (HG4.out.trans (g5.alloc _))).frozen 0; have f215v : (w5.alloc (.cells #[.string (bs nm), .string (bs sf), .string (bs (tl ++ s))] 87)).frozen? ⟨p + 1, 1, none⟩ = false := (HR2.out.gr (HG4.out.trans (g5.alloc _))).frozen 1; have e0w := (E0.out _ (g5.alloc (.cells #[.string (bs nm), .string (bs []), .string (bs [])] 87))).1; have e1w := (E0.out _ (g5.alloc (.cells #[.string (bs nm), .string (bs []), .string (bs [])] 87))).2.1; have e2w := (E0.out _ (g5.alloc (.cells #[.string (bs nm), .string (bs []), .string (bs [])] 87))).2.2; have HPU := sec (HPU0.out w5 g5)) | (go_at_call 102; refine HPU.out.mono ?_; rintro e w6 ⟨A6, n6, k6, rfl, hown6, g6'⟩; have g6 : Gr w4 w6 := (g5.alloc _).trans g6'; have hbq := HD4.out.blk.gr g6; have hbp := HR2.out.gr (HG4.out.trans g6); have q06 : w6.cell? ⟨q, 0, none⟩ = some (.slice A1 n cap1) := hbq.cell 0; have q16 : w6.cell? ⟨q, 1, none⟩ = some (.int .i64 u) := hbq.cell 1; have fq6 : w6.frozen? ⟨q, 0, none⟩ = false := hbq.frozen 0; have d206 : w6.cell? ⟨p + 1, 0, none⟩ = some (.slice none 0 0) := hbp.cell 0; have d216 : w6.cell? ⟨p + 1, 1, none⟩ = some (.int .i64 0) := hbp.cell 1; have f206 : w6.frozen? ⟨p + 1, 0, none⟩ = false := hbp.frozen 0; have f216 : w6.frozen? ⟨p + 1, 1, none⟩ = false := hbp.frozen 1))
              have hE := do_end (hg0.trans (HG4.out.trans g6)) (by omega) (by omega) hbp hbq hpq1 hown6 (Nat.le_trans (hg0.trans HG4.out).size (g5.alloc _).size) u (.slice A6 n6 k6)
              refine bodyPost_ret (results_blk_tmp rfl _ rfl hE.1 aggDisk) rfl ?_
              rw [HR.out]
              exact ⟨A6, _, k6, rfl, hE.2.1, hE.2.2.2, .inr hE.2.2.1⟩
            · have HR := sec (HERR.out 1 (by unfold wrF; rw [HNB.out, if_pos rfl, if_neg hnf, hgd, if_neg hlong]) (by decide))
              have hl5 : (1048576 : Int) < (sf.length : Int) + ((tl.length : Int) + (s.length : Int)) := by omega
              clear hai hk hhf hput hxx hkf hgd hpre hnf e0 e1 e2
              go_wp2_with (go_at_call 81; refine (HN.out _).mono ?_; rintro e w5 ⟨rfl, g5⟩; have c05 : w5.cell? ⟨p, 0, none⟩ = some (.slice (some ⟨b, off, none⟩) n cap) := (HB.out.gr (HG4.out.trans g5)).cell 0; have c15 : w5.cell? ⟨p, 1, none⟩ = some (.int .i64 f) := (HB.out.gr (HG4.out.trans g5)).cell 1; have d205 : w5.cell? ⟨p + 1, 0, none⟩ = some (.slice none 0 0) := (HR2.out.gr (HG4.out.trans g5)).cell 0; have d215 : w5.cell? ⟨p + 1, 1, none⟩ = some (.int .i64 0) := (HR2.out.gr (HG4.out.trans g5)).cell 1; have f205 : w5.frozen? ⟨p + 1, 0, none⟩ = false := (HR2.out.gr (HG4.out.trans g5)).frozen 0; have f215 : w5.frozen? ⟨p + 1, 1, none⟩ = false := (HR2.out.gr (HG4.out.trans g5)).frozen 1; have c05w : (w5.alloc (.cells #[.string (bs nm), .string (bs []), .string (bs [])] 87)).cell? ⟨p, 0, none⟩ = some (.slice (some ⟨b, off, none⟩) n cap) := (HB.out.gr (HG4.out.trans (g5.alloc _))).cell 0; have c15w : (w5.alloc (.cells #[.string (bs nm), .string (bs []), .string (bs [])] 87)).cell? ⟨p, 1, none⟩ = some (.int .i64 f) := (HB.out.gr (HG4.out.trans (g5.alloc _))).cell 1; have q05w : (w5.alloc (.cells #[.string (bs nm), .string (bs []), .string (bs [])] 87)).cell? ⟨q, 0, none⟩ = some (.slice A1 n cap1) := ((HD4.out.blk.gr g5).alloc _).cell 0; have d205w : (w5.alloc (.cells #[.string (bs nm), .string (bs []), .string (bs [])] 87)).cell? ⟨p + 1, 0, none⟩ = some (.slice none 0 0) := (HR2.out.gr (HG4.out.trans (g5.alloc _))).cell 0; have d215w : (w5.alloc (.cells #[.string (bs nm), .string (bs []), .string (bs [])] 87)).cell? ⟨p + 1, 1, none⟩ = some (.int .i64 0) := (HR2.out.gr (HG4.out.trans (g5.alloc _))).cell 1; have f205w : (w5.alloc (.cells #[.string (bs nm), .string (bs []), .string (bs [])] 87)).frozen? ⟨p + 1, 0, none⟩ = false := (HR2.out.gr (HG4.out.trans (g5.alloc _))).frozen 0; have f215w : (w5.alloc (.cells #[.string (bs nm), .string (bs []), .string (bs [])] 87)).frozen? ⟨p + 1, 1, none⟩ = false := (HR2.out.gr (HG4.out.trans (g5.alloc _))).frozen 1; have c05v : (w5.alloc (.cells #[.string (bs nm), .string (bs sf), .string (bs (tl ++ s))] 87)).cell? ⟨p, 0, none⟩ = some (.slice (some ⟨b, off, none⟩) n cap) := (HB.out.gr (HG4.out.trans (g5.alloc _))).cell 0; have c15v : (w5.alloc (.cells #[.string (bs nm), .string (bs sf), .string (bs (tl ++ s))] 87)).cell? ⟨p, 1, none⟩ = some (.int .i64 f) := (HB.out.gr (HG4.out.trans (g5.alloc _))).cell 1; have q05v : (w5.alloc (.cells #[.string (bs nm), .string (bs sf), .string (bs (tl ++ s))] 87)).cell? ⟨q, 0, none⟩ = some (.slice A1 n cap1) := ((HD4.out.blk.gr g5).alloc _).cell 0; have d205v : (w5.alloc (.cells #[.string (bs nm), .string (bs sf), .string (bs (tl ++ s))] 87)).cell? ⟨p + 1, 0, none⟩ = some (.slice none 0 0) := (HR2.out.gr (HG4.out.trans (g5.alloc _))).cell 0; have d215v : (w5.alloc (.cells #[.string (bs nm), .string (bs sf), .string (bs (tl ++ s))] 87)).cell? ⟨p + 1, 1, none⟩ = some (.int .i64 0) := (HR2.out.gr (HG4.out.trans (g5.alloc _))).cell 1; have f205v : (w5.alloc (.cells #[.string (bs nm), .string (bs sf), .string (bs (tl ++ s))] 87)).frozen? ⟨p + 1, 0, none⟩ = false := (HR2.out.gr (HG4.out.trans (g5.alloc _))).frozen 0; have f215v : (w5.alloc (.cells #[.string (bs nm), .string (bs sf), .string (bs (tl ++ s))] 87)).frozen? ⟨p + 1, 1, none⟩ = false := (HR2.out.gr (HG4.out.trans (g5.alloc _))).frozen 1; have e0w := (E0.out _ (g5.alloc (.cells #[.string (bs nm), .string (bs []), .string (bs [])] 87))).1; have e1w := (E0.out _ (g5.alloc (.cells #[.string (bs nm), .string (bs []), .string (bs [])] 87))).2.1; have e2w := (E0.out _ (g5.alloc (.cells #[.string (bs nm), .string (bs []), .string (bs [])] 87))).2.2)
              have hV5 := HV.out _ (HG4.out.trans (g5.alloc (.cells #[.string (bs nm), .string (bs sf), .string (bs (tl ++ s))] 87)))
              refine bodyPost_ret (results_blk_tmp rfl _ rfl (HW.out _ (HG4.out.trans (g5.alloc (.cells #[.string (bs nm), .string (bs sf), .string (bs (tl ++ s))] 87)))) aggDisk) rfl ?_
              rw [HR.out]
              exact ⟨some ⟨b, off, none⟩, n, cap, rfl, hV5, HA.out, .inl ⟨rfl, rfl, rfl, rfl⟩⟩
end Go.Proofs.YtbhpglhmnpcnkaaDoor

namespace Go.Proofs.YtbhpglhmnpcnkaaDoor
open Go.RowKit
set_option linter.unusedVariables false

set_option maxRecDepth 100000 in
set_option maxHeartbeats 4000000 in
theorem do1_any (name s : List UInt8) (fs : List Fl) (A : Option Addr) (n cap : Nat) (f : Int) (w : World) (hn : n ≤ 1099511627776) (hnc : n ≤ cap) (hx : FRow w A n fs) (hA : A = none → n = 0 ∧ cap = 0) (hs : ∀ f ∈ fs, f.1.length ≤ 1099511627776 ∧ f.2.1.length ≤ 1099511627776 ∧ f.2.2.length ≤ 1099511627776)
    (hf : -9223372036854775808 ≤ f ∧ f ≤ 9223372036854775807) (hl1 : name.length ≤ 1099511627776) (hl2 : s.length ≤ 1099511627776) :
    Calls Tryd.prog 83 #[.int .i64 1, diskV A n cap f, .string (bs name), .string (bs s)] w (StepPost (stepR (syF name) fs f) A n cap fs w) := by
  have hg0 := ((Gr.refl w).alloc (.cells #[.slice A n cap, .int .i64 f] 24)).alloc (.cells #[.slice none 0 0, .int .i64 0] 24)
  have hb1 := (Blk.new w 24 #[.slice A n cap, .int .i64 f]).alloc (.cells #[.slice none 0 0, .int .i64 0] 24)
  have hb2 := Blk.new1 w (.cells #[.slice A n cap, .int .i64 f] 24) 24 #[.slice none 0 0, .int .i64 0]
  have HG := sec (drgood_any fs A n cap f _ hn (hx.gr hg0) hs)
  have hl := hx.len
  have HX := sec (hx.gr hg0)
  obtain ⟨wa, hwa⟩ : ∃ x, x = (w.alloc (.cells #[.slice A n cap, .int .i64 f] 24)).alloc (.cells #[.slice none 0 0, .int .i64 0] 24) := ⟨_, rfl⟩
  rw [← hwa] at hg0 hb1 hb2 HG HX
  obtain ⟨p, hp⟩ : ∃ p, p = w.heap.size := ⟨_, rfl⟩
  have hwp : w.heap.size ≤ p := by omega
  rw [← hp] at hb1 hb2
  have c0 : wa.cell? ⟨p, 0, none⟩ = some (.slice A n cap) := hb1.cell 0
  have c1 : wa.cell? ⟨p, 1, none⟩ = some (.int .i64 f) := hb1.cell 1
  have HB := sec hb1
  have HR2 := sec hb2
  have HX0 := sec hx
  have HA := sec hA
  clear hb1 hb2 hs hx
  unfold diskV at HG
  unfold diskV
  have HW : Sec (∀ w1, Gr wa w1 → Blk ((w1.setCell ⟨p + 1, 0, none⟩ (.slice A n cap)).setCell ⟨p + 1, 1, none⟩ (.int .i64 f)) (p + 1) 24 #[.slice A n cap, .int .i64 f]) := sec fun w1 g1 => ((HR2.out.gr g1).set_ 0 (.slice A n cap)).set_ 1 (.int .i64 f)
  have HV : Sec (∀ w1, Gr wa w1 → Gr w ((w1.setCell ⟨p + 1, 0, none⟩ (.slice A n cap)).setCell ⟨p + 1, 1, none⟩ (.int .i64 f))) := sec fun w1 g1 => ((hg0.trans g1).setCell (p := ⟨p + 1, 0, none⟩) (by show w.heap.size ≤ p + 1; omega) _).setCell (p := ⟨p + 1, 1, none⟩) (by show w.heap.size ≤ p + 1; omega) _
  cases hgf : goodFs fs with
  | false =>
    have HR : Sec (stepR (syF name) fs f = (fs, f, 3)) := sec (by unfold stepR; rw [hgf]; rfl)
    rw [HR.out]
    rw [hgf] at HG
    clear hgf
    go_enter Tryd.func83, Tryd.ntmps83
    go_wp2_with (first | (rw [← hwa, ← hp]; clear hwa hp; go_wp2_with fail) | (go_at_call 57; refine Calls.mono HG.out ?_; rintro e w1 ⟨rfl, g1⟩; have c0y : w1.cell? ⟨p, 0, none⟩ = some (.slice A n cap) := (HB.out.gr g1).cell 0; have c1y : w1.cell? ⟨p, 1, none⟩ = some (.int .i64 f) := (HB.out.gr g1).cell 1; have d20 : w1.cell? ⟨p + 1, 0, none⟩ = some (.slice none 0 0) := (HR2.out.gr g1).cell 0; have d21 : w1.cell? ⟨p + 1, 1, none⟩ = some (.int .i64 0) := (HR2.out.gr g1).cell 1; have f20 : w1.frozen? ⟨p + 1, 0, none⟩ = false := (HR2.out.gr g1).frozen 0; have f21 : w1.frozen? ⟨p + 1, 1, none⟩ = false := (HR2.out.gr g1).frozen 1))
    refine bodyPost_ret (results_blk_tmp rfl _ rfl (HW.out w1 g1) aggDisk) rfl ?_
    exact ⟨A, n, cap, rfl, HV.out w1 g1, HA.out, .inl ⟨rfl, rfl, rfl, rfl⟩⟩
  | true =>
    rw [hgf] at HG
    by_cases hf0 : f = 0
    · have HR : Sec (stepR (syF name) fs f = (fs, f, 12)) := sec (by unfold stepR; rw [hgf, hf0]; rfl)
      rw [HR.out]
      clear hgf
      subst hf0
      go_enter Tryd.func83, Tryd.ntmps83
      go_wp2_with (first | (rw [← hwa, ← hp]; clear hwa hp; go_wp2_with fail) | (go_at_call 57; refine Calls.mono HG.out ?_; rintro e w1 ⟨rfl, g1⟩; have c0y : w1.cell? ⟨p, 0, none⟩ = some (.slice A n cap) := (HB.out.gr g1).cell 0; have c1y : w1.cell? ⟨p, 1, none⟩ = some (.int .i64 0) := (HB.out.gr g1).cell 1; have d20 : w1.cell? ⟨p + 1, 0, none⟩ = some (.slice none 0 0) := (HR2.out.gr g1).cell 0; have d21 : w1.cell? ⟨p + 1, 1, none⟩ = some (.int .i64 0) := (HR2.out.gr g1).cell 1; have f20 : w1.frozen? ⟨p + 1, 0, none⟩ = false := (HR2.out.gr g1).frozen 0; have f21 : w1.frozen? ⟨p + 1, 1, none⟩ = false := (HR2.out.gr g1).frozen 1))
      refine bodyPost_ret (results_blk_tmp rfl _ rfl (HW.out w1 g1) aggDisk) rfl ?_
      exact ⟨A, n, cap, rfl, HV.out w1 g1, HA.out, .inl ⟨rfl, rfl, rfl, rfl⟩⟩
    · have HGF := sec hgf
      have HF0 := sec hf0
      have HSO := sec (goodFs_sorted hgf)
      have hl400 : n ≤ 400 := by have := goodFs_len hgf; omega
      clear hgf
      obtain ⟨u, hu⟩ : ∃ u, u = (if 0 < f then f - 1 else f) := ⟨_, rfl⟩
      have HU := sec hu
      clear hu
      have HERR : Sec (∀ E, (syF name fs).2 = E → E ≠ 0 → stepR (syF name) fs f = (fs, f, E)) := sec (fun E h h0 => by unfold stepR; rw [HGF.out, if_pos rfl, if_neg HF0.out, if_neg (by rw [h]; exact h0), h])
      have HOK : Sec (∀ R, (syF name fs) = (R, 0) → stepR (syF name) fs f = (R, u, 0)) := sec (fun R h => by unfold stepR; rw [HGF.out, if_pos rfl, if_neg HF0.out, if_pos (by rw [h]), h, HU.out])
      go_enter Tryd.func83, Tryd.ntmps83
      go_upto_if 27 with (first | (rw [← hwa, ← hp]; clear hwa hp; go_wp2_with fail) | (go_at_call 57; refine Calls.mono HG.out ?_; rintro e w1 ⟨rfl, g1⟩; have c0y : w1.cell? ⟨p, 0, none⟩ = some (.slice A n cap) := (HB.out.gr g1).cell 0; have c1y : w1.cell? ⟨p, 1, none⟩ = some (.int .i64 f) := (HB.out.gr g1).cell 1) | (go_at_call 28; refine Calls.mono (copyDisk_any fs A n cap f w1 hn (HX.out.gr g1) HA.out) ?_; unfold diskV; rintro e w2 ⟨A1, cap1, rfl, ho, hA1, g2⟩))
      have hqb := Blk.new w2 24 #[.slice A1 n cap1, .int .i64 f]
      have hoq := own_gr ho ((Gr.refl w2).alloc (.cells #[.slice A1 n cap1, .int .i64 f] 24))
      have gq := g2.alloc (.cells #[.slice A1 n cap1, .int .i64 f] 24)
      obtain ⟨wq, hwq⟩ : ∃ x, x = w2.alloc (.cells #[.slice A1 n cap1, .int .i64 f] 24) := ⟨_, rfl⟩
      obtain ⟨q, hq⟩ : ∃ q, q = w2.heap.size := ⟨_, rfl⟩
      have hq1 : w1.heap.size ≤ q := by have := g2.size; omega
      rw [← hwq] at hqb hoq gq
      rw [← hq] at hqb
      rw [← hwq, ← hq]
      have HDQ : Sec (DOwn wq w1.heap.size q A1 n cap1 f fs) := sec ⟨hqb, hoq, hq1⟩
      have HG1 := sec g1
      have hpq : p + 1 < w1.heap.size := (HR2.out.gr g1).lt
      clear hwq hq hqb hoq ho g2 hA1
      have dq0 : wq.cell? ⟨q, 0, none⟩ = some (.slice A1 n cap1) := HDQ.out.blk.cell 0
      have dq1 : wq.cell? ⟨q, 1, none⟩ = some (.int .i64 f) := HDQ.out.blk.cell 1
      have fq1 : wq.frozen? ⟨q, 1, none⟩ = false := HDQ.out.blk.frozen 1
      go_cut [] from 28 to 144 (fun wx => Sec (DOwn wx w1.heap.size q A1 n cap1 u fs) ∧ Gr w1 wx)
      case first =>
        by_cases hpos : 0 < f
        · have hwr : IntKind.i64.wrap (f - 1) = f - 1 := IntWalk.i64_in _ (by omega)
          have hu : u = f - 1 := by rw [HU.out, if_pos hpos]
          go_wp2_with fail
          go_meet
          rw [hu]
          exact ⟨sec ⟨HDQ.out.blk.set_ 1 _, ownsRow_setCell_other HDQ.out.own (a := ⟨q, 1, none⟩) HDQ.out.ne _, HDQ.out.base⟩, gq.setCell (p := ⟨q, 1, none⟩) hq1 _⟩
        · have hu : u = f := by rw [HU.out, if_neg hpos]
          go_wp2_with fail
          go_meet
          rw [hu]
          exact ⟨HDQ, gq⟩
      case rest =>
        obtain ⟨HDC, gc⟩ := hcut
        clear dq0 dq1 fq1 c0y c1y HDQ gq g1
        have c0y : wc.cell? ⟨p, 0, none⟩ = some (.slice A n cap) := (HB.out.gr (HG1.out.trans gc)).cell 0
        have c1y : wc.cell? ⟨p, 1, none⟩ = some (.int .i64 f) := (HB.out.gr (HG1.out.trans gc)).cell 1
        go_upto_region 9 with (go_at_call 82; refine Calls.mono (at_any fs name A n cap f wc hn (HX.out.gr (HG1.out.trans gc)) HSO.out) ?_; rintro e w4 ⟨rfl, g4⟩)
        have gg4 : Gr w1 w4 := gc.trans g4
        have HD4 := sec (HDC.out.gr g4)
        have HG4 := sec (HG1.out.trans gg4)
        have HGG4 := sec gg4
        clear c0y c1y gc g4 HDC HG1
        have c04 : w4.cell? ⟨p, 0, none⟩ = some (.slice A n cap) := (HB.out.gr HG4.out).cell 0
        have c14 : w4.cell? ⟨p, 1, none⟩ = some (.int .i64 f) := (HB.out.gr HG4.out).cell 1
        have d20 : w4.cell? ⟨p + 1, 0, none⟩ = some (.slice none 0 0) := (HR2.out.gr HG4.out).cell 0
        have d21 : w4.cell? ⟨p + 1, 1, none⟩ = some (.int .i64 0) := (HR2.out.gr HG4.out).cell 1
        have f20 : w4.frozen? ⟨p + 1, 0, none⟩ = false := (HR2.out.gr HG4.out).frozen 0
        have f21 : w4.frozen? ⟨p + 1, 1, none⟩ = false := (HR2.out.gr HG4.out).frozen 1
        have q04 : w4.cell? ⟨q, 0, none⟩ = some (.slice A1 n cap1) := HD4.out.blk.cell 0
        have q14 : w4.cell? ⟨q, 1, none⟩ = some (.int .i64 u) := HD4.out.blk.cell 1
        have fq4 : w4.frozen? ⟨q, 0, none⟩ = false := HD4.out.blk.frozen 0
        cases hhf : hasF name fs with
        | false =>
          have hai : atI name fs = -1 := by unfold atI; rw [hhf]; rfl
          have HR := sec (HERR.out 7 (by unfold syF; rw [hhf]; rfl) (by decide))
          rw [hai]
          clear hhf
          go_wp2_with fail
          refine bodyPost_ret (results_blk_tmp rfl _ rfl (HW.out w4 HG4.out) aggDisk) rfl ?_
          rw [HR.out]
          exact ⟨A, n, cap, rfl, HV.out w4 HG4.out, HA.out, .inl ⟨rfl, rfl, rfl, rfl⟩⟩
        | true =>
          have hlt := hasF_lt HSO.out hhf
          have hput : ∀ f : Fl, f.1 = name → putF f fs = fs.set (lbF name fs) f := fun f h => by rw [put_sorted f fs HSO.out, h, hhf, if_pos rfl]
          obtain ⟨k, hk⟩ : ∃ k, k = lbF name fs := ⟨_, rfl⟩
          have hai : atI name fs = k := by unfold atI; rw [hhf, hk]; rfl
          rw [← hk] at hlt hput
          obtain ⟨hkf, hnm⟩ := hlt
          rw [hai]
          have hgd : fs.getD (lbF name fs) ([], [], []) = fs[k] := by
            rw [← hk, List.getD_eq_getElem?_getD, List.getElem?_eq_getElem hkf]; rfl
          obtain ⟨b, off, rfl, e0, e1, e2⟩ := (HX.out.gr HG4.out).cell hkf
          have hsz := goodFs_ok HGF.out fs[k] (List.getElem_mem hkf)
          obtain ⟨x, hxx⟩ : ∃ x, x = fs[k] := ⟨_, rfl⟩
          rw [← hxx] at e0 e1 e2 hsz hgd hnm
          obtain ⟨nm, sf, tl⟩ := x
          simp only at e0 e1 e2 hsz hnm
          subst hnm
          obtain ⟨_, hz1, hz2⟩ := hsz
          have HR := sec (HOK.out (putF (nm, sf ++ tl, []) fs) (by unfold syF; rw [hhf, if_pos rfl, hgd, ← hk, hput _ rfl]))
          have hkn1 : (k : Int) < (n : Int) := by omega
          clear hai hk hhf hput hxx hkf hgd
          have HPU : Sec (Calls Tryd.prog 102 #[.slice A1 n cap1, .agg #[.string (bs nm), .string (bs (sf ++ tl)), .string (bs [])]] (w4.alloc (.cells #[.string (bs nm), .string (bs sf), .string (bs tl)] 87)) fun e w' =>
            ∃ A' n' cap', e = .returned (.slice A' n' cap') ∧ w'.ownsRow (w4.alloc (.cells #[.string (bs nm), .string (bs sf), .string (bs tl)] 87)).heap.size 87 3 (.slice A' n' cap') n' ((putF (nm, sf ++ tl, []) fs).flatMap fileC) ∧ Gr (w4.alloc (.cells #[.string (bs nm), .string (bs sf), .string (bs tl)] 87)) w') := sec
            (put_any fs nm (sf ++ tl) [] A1 n cap1 _ hn (FRow.gr (Row.own HD4.out.own) ((Gr.refl w4).alloc _)))
          have q04w : (w4.alloc (.cells #[.string (bs nm), .string (bs sf), .string (bs tl)] 87)).cell? ⟨q, 0, none⟩ = some (.slice A1 n cap1) := (HD4.out.blk.alloc _).cell 0
          have hpq1 : p + 1 ≠ q := by omega
          go_wp2_with (go_at_call 102; refine HPU.out.mono ?_; rintro e w6 ⟨A6, n6, k6, rfl, hown6, g6'⟩; have g6 : Gr w4 w6 := ((Gr.refl w4).alloc _).trans g6'; have hbq := HD4.out.blk.gr g6; have hbp := HR2.out.gr (HG4.out.trans g6); have q06 : w6.cell? ⟨q, 0, none⟩ = some (.slice A1 n cap1) := hbq.cell 0; have q16 : w6.cell? ⟨q, 1, none⟩ = some (.int .i64 u) := hbq.cell 1; have fq6 : w6.frozen? ⟨q, 0, none⟩ = false := hbq.frozen 0; have d206 : w6.cell? ⟨p + 1, 0, none⟩ = some (.slice none 0 0) := hbp.cell 0; have d216 : w6.cell? ⟨p + 1, 1, none⟩ = some (.int .i64 0) := hbp.cell 1; have f206 : w6.frozen? ⟨p + 1, 0, none⟩ = false := hbp.frozen 0; have f216 : w6.frozen? ⟨p + 1, 1, none⟩ = false := hbp.frozen 1)
          have hE := do_end (hg0.trans (HG4.out.trans g6)) (by omega) (by omega) hbp hbq hpq1 hown6 (Nat.le_trans (hg0.trans HG4.out).size ((Gr.refl w4).alloc _).size) u (.slice A6 n6 k6)
          refine bodyPost_ret (results_blk_tmp rfl _ rfl hE.1 aggDisk) rfl ?_
          rw [HR.out]
          exact ⟨A6, _, k6, rfl, hE.2.1, hE.2.2.2, .inr hE.2.2.1⟩
end Go.Proofs.YtbhpglhmnpcnkaaDoor

namespace Go.Proofs.YtbhpglhmnpcnkaaDoor
open Go.RowKit
set_option linter.unusedVariables false

set_option maxRecDepth 100000 in
set_option maxHeartbeats 4000000 in
theorem do2_any (name s : List UInt8) (fs : List Fl) (A : Option Addr) (n cap : Nat) (f : Int) (w : World) (hn : n ≤ 1099511627776) (hnc : n ≤ cap) (hx : FRow w A n fs) (hA : A = none → n = 0 ∧ cap = 0) (hs : ∀ f ∈ fs, f.1.length ≤ 1099511627776 ∧ f.2.1.length ≤ 1099511627776 ∧ f.2.2.length ≤ 1099511627776)
    (hf : -9223372036854775808 ≤ f ∧ f ≤ 9223372036854775807) (hl1 : name.length ≤ 1099511627776) (hl2 : s.length ≤ 1099511627776) :
    Calls Tryd.prog 83 #[.int .i64 2, diskV A n cap f, .string (bs name), .string (bs s)] w (StepPost (stepR (rnF name s) fs f) A n cap fs w) := by
  have hg0 := ((Gr.refl w).alloc (.cells #[.slice A n cap, .int .i64 f] 24)).alloc (.cells #[.slice none 0 0, .int .i64 0] 24)
  have hb1 := (Blk.new w 24 #[.slice A n cap, .int .i64 f]).alloc (.cells #[.slice none 0 0, .int .i64 0] 24)
  have hb2 := Blk.new1 w (.cells #[.slice A n cap, .int .i64 f] 24) 24 #[.slice none 0 0, .int .i64 0]
  have HG := sec (drgood_any fs A n cap f _ hn (hx.gr hg0) hs)
  have hl := hx.len
  have HX := sec (hx.gr hg0)
  obtain ⟨wa, hwa⟩ : ∃ x, x = (w.alloc (.cells #[.slice A n cap, .int .i64 f] 24)).alloc (.cells #[.slice none 0 0, .int .i64 0] 24) := ⟨_, rfl⟩
  rw [← hwa] at hg0 hb1 hb2 HG HX
  obtain ⟨p, hp⟩ : ∃ p, p = w.heap.size := ⟨_, rfl⟩
  have hwp : w.heap.size ≤ p := by omega
  rw [← hp] at hb1 hb2
  have c0 : wa.cell? ⟨p, 0, none⟩ = some (.slice A n cap) := hb1.cell 0
  have c1 : wa.cell? ⟨p, 1, none⟩ = some (.int .i64 f) := hb1.cell 1
  have HB := sec hb1
  have HR2 := sec hb2
  have HX0 := sec hx
  have HA := sec hA
  clear hb1 hb2 hs hx
  unfold diskV at HG
  unfold diskV
  have HW : Sec (∀ w1, Gr wa w1 → Blk ((w1.setCell ⟨p + 1, 0, none⟩ (.slice A n cap)).setCell ⟨p + 1, 1, none⟩ (.int .i64 f)) (p + 1) 24 #[.slice A n cap, .int .i64 f]) := sec fun w1 g1 => ((HR2.out.gr g1).set_ 0 (.slice A n cap)).set_ 1 (.int .i64 f)
  have HV : Sec (∀ w1, Gr wa w1 → Gr w ((w1.setCell ⟨p + 1, 0, none⟩ (.slice A n cap)).setCell ⟨p + 1, 1, none⟩ (.int .i64 f))) := sec fun w1 g1 => ((hg0.trans g1).setCell (p := ⟨p + 1, 0, none⟩) (by show w.heap.size ≤ p + 1; omega) _).setCell (p := ⟨p + 1, 1, none⟩) (by show w.heap.size ≤ p + 1; omega) _
  cases hgf : goodFs fs with
  | false =>
    have HR : Sec (stepR (rnF name s) fs f = (fs, f, 3)) := sec (by unfold stepR; rw [hgf]; rfl)
    rw [HR.out]
    rw [hgf] at HG
    clear hgf
    go_enter Tryd.func83, Tryd.ntmps83
    go_wp2_with (first | (rw [← hwa, ← hp]; clear hwa hp; go_wp2_with fail) | (go_at_call 57; refine Calls.mono HG.out ?_; rintro e w1 ⟨rfl, g1⟩; have c0y : w1.cell? ⟨p, 0, none⟩ = some (.slice A n cap) := (HB.out.gr g1).cell 0; have c1y : w1.cell? ⟨p, 1, none⟩ = some (.int .i64 f) := (HB.out.gr g1).cell 1; have d20 : w1.cell? ⟨p + 1, 0, none⟩ = some (.slice none 0 0) := (HR2.out.gr g1).cell 0; have d21 : w1.cell? ⟨p + 1, 1, none⟩ = some (.int .i64 0) := (HR2.out.gr g1).cell 1; have f20 : w1.frozen? ⟨p + 1, 0, none⟩ = false := (HR2.out.gr g1).frozen 0; have f21 : w1.frozen? ⟨p + 1, 1, none⟩ = false := (HR2.out.gr g1).frozen 1))
    refine bodyPost_ret (results_blk_tmp rfl _ rfl (HW.out w1 g1) aggDisk) rfl ?_
    exact ⟨A, n, cap, rfl, HV.out w1 g1, HA.out, .inl ⟨rfl, rfl, rfl, rfl⟩⟩
  | true =>
    rw [hgf] at HG
    by_cases hf0 : f = 0
    · have HR : Sec (stepR (rnF name s) fs f = (fs, f, 12)) := sec (by unfold stepR; rw [hgf, hf0]; rfl)
      rw [HR.out]
      clear hgf
      subst hf0
      go_enter Tryd.func83, Tryd.ntmps83
      go_wp2_with (first | (rw [← hwa, ← hp]; clear hwa hp; go_wp2_with fail) | (go_at_call 57; refine Calls.mono HG.out ?_; rintro e w1 ⟨rfl, g1⟩; have c0y : w1.cell? ⟨p, 0, none⟩ = some (.slice A n cap) := (HB.out.gr g1).cell 0; have c1y : w1.cell? ⟨p, 1, none⟩ = some (.int .i64 0) := (HB.out.gr g1).cell 1; have d20 : w1.cell? ⟨p + 1, 0, none⟩ = some (.slice none 0 0) := (HR2.out.gr g1).cell 0; have d21 : w1.cell? ⟨p + 1, 1, none⟩ = some (.int .i64 0) := (HR2.out.gr g1).cell 1; have f20 : w1.frozen? ⟨p + 1, 0, none⟩ = false := (HR2.out.gr g1).frozen 0; have f21 : w1.frozen? ⟨p + 1, 1, none⟩ = false := (HR2.out.gr g1).frozen 1))
      refine bodyPost_ret (results_blk_tmp rfl _ rfl (HW.out w1 g1) aggDisk) rfl ?_
      exact ⟨A, n, cap, rfl, HV.out w1 g1, HA.out, .inl ⟨rfl, rfl, rfl, rfl⟩⟩
    · have HGF := sec hgf
      have HF0 := sec hf0
      have HSO := sec (goodFs_sorted hgf)
      have hl400 : n ≤ 400 := by have := goodFs_len hgf; omega
      clear hgf
      obtain ⟨u, hu⟩ : ∃ u, u = (if 0 < f then f - 1 else f) := ⟨_, rfl⟩
      have HU := sec hu
      clear hu
      have HERR : Sec (∀ E, (rnF name s fs).2 = E → E ≠ 0 → stepR (rnF name s) fs f = (fs, f, E)) := sec (fun E h h0 => by unfold stepR; rw [HGF.out, if_pos rfl, if_neg HF0.out, if_neg (by rw [h]; exact h0), h])
      have HOK : Sec (∀ R, (rnF name s fs) = (R, 0) → stepR (rnF name s) fs f = (R, u, 0)) := sec (fun R h => by unfold stepR; rw [HGF.out, if_pos rfl, if_neg HF0.out, if_pos (by rw [h]), h, HU.out])
      go_enter Tryd.func83, Tryd.ntmps83
      go_upto_if 27 with (first | (rw [← hwa, ← hp]; clear hwa hp; go_wp2_with fail) | (go_at_call 57; refine Calls.mono HG.out ?_; rintro e w1 ⟨rfl, g1⟩; have c0y : w1.cell? ⟨p, 0, none⟩ = some (.slice A n cap) := (HB.out.gr g1).cell 0; have c1y : w1.cell? ⟨p, 1, none⟩ = some (.int .i64 f) := (HB.out.gr g1).cell 1) | (go_at_call 28; refine Calls.mono (copyDisk_any fs A n cap f w1 hn (HX.out.gr g1) HA.out) ?_; unfold diskV; rintro e w2 ⟨A1, cap1, rfl, ho, hA1, g2⟩))
      have hqb := Blk.new w2 24 #[.slice A1 n cap1, .int .i64 f]
      have hoq := own_gr ho ((Gr.refl w2).alloc (.cells #[.slice A1 n cap1, .int .i64 f] 24))
      have gq := g2.alloc (.cells #[.slice A1 n cap1, .int .i64 f] 24)
      obtain ⟨wq, hwq⟩ : ∃ x, x = w2.alloc (.cells #[.slice A1 n cap1, .int .i64 f] 24) := ⟨_, rfl⟩
      obtain ⟨q, hq⟩ : ∃ q, q = w2.heap.size := ⟨_, rfl⟩
      have hq1 : w1.heap.size ≤ q := by have := g2.size; omega
      rw [← hwq] at hqb hoq gq
      rw [← hq] at hqb
      rw [← hwq, ← hq]
      have HDQ : Sec (DOwn wq w1.heap.size q A1 n cap1 f fs) := sec ⟨hqb, hoq, hq1⟩
      have HG1 := sec g1
      have hpq : p + 1 < w1.heap.size := (HR2.out.gr g1).lt
      clear hwq hq hqb hoq ho g2 hA1
      have dq0 : wq.cell? ⟨q, 0, none⟩ = some (.slice A1 n cap1) := HDQ.out.blk.cell 0
      have dq1 : wq.cell? ⟨q, 1, none⟩ = some (.int .i64 f) := HDQ.out.blk.cell 1
      have fq1 : wq.frozen? ⟨q, 1, none⟩ = false := HDQ.out.blk.frozen 1
      go_cut [] from 28 to 144 (fun wx => Sec (DOwn wx w1.heap.size q A1 n cap1 u fs) ∧ Gr w1 wx)
      case first =>
        by_cases hpos : 0 < f
        · have hwr : IntKind.i64.wrap (f - 1) = f - 1 := IntWalk.i64_in _ (by omega)
          have hu : u = f - 1 := by rw [HU.out, if_pos hpos]
          go_wp2_with fail
          go_meet
          rw [hu]
          exact ⟨sec ⟨HDQ.out.blk.set_ 1 _, ownsRow_setCell_other HDQ.out.own (a := ⟨q, 1, none⟩) HDQ.out.ne _, HDQ.out.base⟩, gq.setCell (p := ⟨q, 1, none⟩) hq1 _⟩
        · have hu : u = f := by rw [HU.out, if_neg hpos]
          go_wp2_with fail
          go_meet
          rw [hu]
          exact ⟨HDQ, gq⟩
      case rest =>
        obtain ⟨HDC, gc⟩ := hcut
        clear dq0 dq1 fq1 c0y c1y HDQ gq g1
        have c0y : wc.cell? ⟨p, 0, none⟩ = some (.slice A n cap) := (HB.out.gr (HG1.out.trans gc)).cell 0
        have c1y : wc.cell? ⟨p, 1, none⟩ = some (.int .i64 f) := (HB.out.gr (HG1.out.trans gc)).cell 1
        go_upto_region 9 with (go_at_call 82; refine Calls.mono (at_any fs name A n cap f wc hn (HX.out.gr (HG1.out.trans gc)) HSO.out) ?_; rintro e w4 ⟨rfl, g4⟩)
        have gg4 : Gr w1 w4 := gc.trans g4
        have HD4 := sec (HDC.out.gr g4)
        have HG4 := sec (HG1.out.trans gg4)
        have HGG4 := sec gg4
        clear c0y c1y gc g4 HDC HG1
        have c04 : w4.cell? ⟨p, 0, none⟩ = some (.slice A n cap) := (HB.out.gr HG4.out).cell 0
        have c14 : w4.cell? ⟨p, 1, none⟩ = some (.int .i64 f) := (HB.out.gr HG4.out).cell 1
        have d20 : w4.cell? ⟨p + 1, 0, none⟩ = some (.slice none 0 0) := (HR2.out.gr HG4.out).cell 0
        have d21 : w4.cell? ⟨p + 1, 1, none⟩ = some (.int .i64 0) := (HR2.out.gr HG4.out).cell 1
        have f20 : w4.frozen? ⟨p + 1, 0, none⟩ = false := (HR2.out.gr HG4.out).frozen 0
        have f21 : w4.frozen? ⟨p + 1, 1, none⟩ = false := (HR2.out.gr HG4.out).frozen 1
        have q04 : w4.cell? ⟨q, 0, none⟩ = some (.slice A1 n cap1) := HD4.out.blk.cell 0
        have q14 : w4.cell? ⟨q, 1, none⟩ = some (.int .i64 u) := HD4.out.blk.cell 1
        have fq4 : w4.frozen? ⟨q, 0, none⟩ = false := HD4.out.blk.frozen 0
        have HN := sec (fun w => fileName_any s w (by omega))
        have hpq1 : p + 1 ≠ q := by omega
        cases hnb : namedB s with
        | false =>
          have HR := sec (HERR.out 2 (by unfold rnF; rw [hnb]; rfl) (by decide))
          rw [hnb] at HN
          clear hnb
          go_wp2_with (go_at_call 81; refine (HN.out _).mono ?_; rintro e w5 ⟨rfl, g5⟩; have c05 : w5.cell? ⟨p, 0, none⟩ = some (.slice A n cap) := (HB.out.gr (HG4.out.trans g5)).cell 0; have c15 : w5.cell? ⟨p, 1, none⟩ = some (.int .i64 f) := (HB.out.gr (HG4.out.trans g5)).cell 1; have d205 : w5.cell? ⟨p + 1, 0, none⟩ = some (.slice none 0 0) := (HR2.out.gr (HG4.out.trans g5)).cell 0; have d215 : w5.cell? ⟨p + 1, 1, none⟩ = some (.int .i64 0) := (HR2.out.gr (HG4.out.trans g5)).cell 1; have f205 : w5.frozen? ⟨p + 1, 0, none⟩ = false := (HR2.out.gr (HG4.out.trans g5)).frozen 0; have f215 : w5.frozen? ⟨p + 1, 1, none⟩ = false := (HR2.out.gr (HG4.out.trans g5)).frozen 1)
          refine bodyPost_ret (results_blk_tmp rfl _ rfl (HW.out w5 (HG4.out.trans g5)) aggDisk) rfl ?_
          rw [HR.out]
          exact ⟨A, n, cap, rfl, HV.out w5 (HG4.out.trans g5), HA.out, .inl ⟨rfl, rfl, rfl, rfl⟩⟩
        | true =>
          rw [hnb] at HN
          have HNB := sec hnb
          clear hnb
          cases hhf : hasF name fs with
          | false =>
            have hai : atI name fs = -1 := by unfold atI; rw [hhf]; rfl
            have HR := sec (HERR.out 7 (by unfold rnF; rw [HNB.out, if_pos rfl, hhf]; rfl) (by decide))
            rw [hai]
            clear hhf hai
            go_wp2_with (go_at_call 81; refine (HN.out _).mono ?_; rintro e w5 ⟨rfl, g5⟩; have c05 : w5.cell? ⟨p, 0, none⟩ = some (.slice A n cap) := (HB.out.gr (HG4.out.trans g5)).cell 0; have c15 : w5.cell? ⟨p, 1, none⟩ = some (.int .i64 f) := (HB.out.gr (HG4.out.trans g5)).cell 1; have d205 : w5.cell? ⟨p + 1, 0, none⟩ = some (.slice none 0 0) := (HR2.out.gr (HG4.out.trans g5)).cell 0; have d215 : w5.cell? ⟨p + 1, 1, none⟩ = some (.int .i64 0) := (HR2.out.gr (HG4.out.trans g5)).cell 1; have f205 : w5.frozen? ⟨p + 1, 0, none⟩ = false := (HR2.out.gr (HG4.out.trans g5)).frozen 0; have f215 : w5.frozen? ⟨p + 1, 1, none⟩ = false := (HR2.out.gr (HG4.out.trans g5)).frozen 1)
            refine bodyPost_ret (results_blk_tmp rfl _ rfl (HW.out w5 (HG4.out.trans g5)) aggDisk) rfl ?_
            rw [HR.out]
            exact ⟨A, n, cap, rfl, HV.out w5 (HG4.out.trans g5), HA.out, .inl ⟨rfl, rfl, rfl, rfl⟩⟩
          | true =>
            have hlt := hasF_lt HSO.out hhf
            obtain ⟨k, hk⟩ : ∃ k, k = lbF name fs := ⟨_, rfl⟩
            have hai : atI name fs = k := by unfold atI; rw [hhf, hk]; rfl
            rw [← hk] at hlt
            obtain ⟨hkf, hnm⟩ := hlt
            rw [hai]
            have hgd : fs.getD (lbF name fs) ([], [], []) = fs[k] := by
              rw [← hk, List.getD_eq_getElem?_getD, List.getElem?_eq_getElem hkf]; rfl
            obtain ⟨b, off, rfl, e0, e1, e2⟩ := (HX.out.gr HG4.out).cell hkf
            have E0 : Sec (∀ W, Gr w4 W → W.cell? ⟨b, off + k * 3, none⟩ = some (.string (bs fs[k].1)) ∧ W.cell? ⟨b, off + k * 3 + 1, none⟩ = some (.string (bs fs[k].2.1)) ∧ W.cell? ⟨b, off + k * 3 + 2, none⟩ = some (.string (bs fs[k].2.2))) := sec (fun W g => ⟨(g.cells.1 b _ (World.block_lt_of_cell? w4 _ e0)).trans e0, (g.cells.1 b _ (World.block_lt_of_cell? w4 _ e0)).trans e1, (g.cells.1 b _ (World.block_lt_of_cell? w4 _ e0)).trans e2⟩)
            obtain ⟨x, hxx⟩ : ∃ x, x = fs[k] := ⟨_, rfl⟩
            rw [← hxx] at E0 hgd hnm
            obtain ⟨nm, sf, tl⟩ := x
            simp only at E0
            have HR := sec (HOK.out (putF (s, sf, tl) (fs.eraseIdx k)) (by
              unfold rnF; rw [HNB.out, if_pos rfl, hhf, if_pos rfl, hgd, ← hk, put_sorted _ _ (HSO.out.erase k)]; rfl))
            have hkn : k < n := by omega
            have hkn1 : (k : Int) < (n : Int) := by omega
            have hwk : IntKind.i64.wrap ((k : Int) + 1) = (k : Int) + 1 := IntWalk.i64_in _ (by omega)
            have hc1 : (k : Int) ≤ (cap : Int) := by omega
            clear hai hk hhf hxx hkf hgd hnm e0 e1 e2
            have HR1 : Sec (∀ W, Gr w4 W → Row W 3 (some ⟨b, off, none⟩) k ((fs.take k).flatMap fileC)) := sec (fun W g => (HX.out.gr (HG4.out.trans g)).take k (by omega))
            have HM1 : Sec (0 + k ≤ maxLen) := sec (Nat.le_trans (show 0 + k ≤ 4096 by omega) (by decide))
            have HM2 : Sec (0 + k + (n - (k + 1)) ≤ maxLen) := sec (Nat.le_trans (show 0 + k + (n - (k + 1)) ≤ 4096 by omega) (by decide))
            have hb10 : (k : Int) ≤ (k : Int) + 1 := by omega
            have hk0 : (0 : Int) ≤ (k : Int) + 1 := by omega
            have hk3 : (k : Int) + 1 ≤ (n : Int) := by omega
            have hk4 : (n : Int) ≤ (cap : Int) := by omega
            have hkt : ((k : Int) + 1).toNat = k + 1 := by omega
            go_upto_region 36 with (go_at_call 81; refine (HN.out _).mono ?_; rintro e w5 ⟨rfl, g5⟩; have c05 : w5.cell? ⟨p, 0, none⟩ = some (.slice (some ⟨b, off, none⟩) n cap) := (HB.out.gr (HG4.out.trans g5)).cell 0; have c15 : w5.cell? ⟨p, 1, none⟩ = some (.int .i64 f) := (HB.out.gr (HG4.out.trans g5)).cell 1; have d205 : w5.cell? ⟨p + 1, 0, none⟩ = some (.slice none 0 0) := (HR2.out.gr (HG4.out.trans g5)).cell 0; have d215 : w5.cell? ⟨p + 1, 1, none⟩ = some (.int .i64 0) := (HR2.out.gr (HG4.out.trans g5)).cell 1; have f205 : w5.frozen? ⟨p + 1, 0, none⟩ = false := (HR2.out.gr (HG4.out.trans g5)).frozen 0; have f215 : w5.frozen? ⟨p + 1, 1, none⟩ = false := (HR2.out.gr (HG4.out.trans g5)).frozen 1; have e0w := (E0.out _ g5).1; have e1w := (E0.out _ g5).2.1; have e2w := (E0.out _ g5).2.2)
            have gv : Gr w4 (w5.alloc (.cells #[.string (bs nm), .string (bs sf), .string (bs tl)] 87)) := g5.alloc _
            have hfb := Blk.new w5 87 #[.string (bs nm), .string (bs sf), .string (bs tl)]
            obtain ⟨wv, hwv⟩ : ∃ x, x = w5.alloc (.cells #[.string (bs nm), .string (bs sf), .string (bs tl)] 87) := ⟨_, rfl⟩
            obtain ⟨r, hr⟩ : ∃ r, r = w5.heap.size := ⟨_, rfl⟩
            rw [← hwv] at gv hfb
            rw [← hr] at hfb
            rw [← hwv, ← hr]
            have HFB := sec hfb
            have HDV := sec (HD4.out.gr gv)
            have HGV := sec (HG4.out.trans gv)
            have hqr : q ≠ r := by have := (HD4.out.gr g5).blk.lt; omega
            have hrq : r ≠ q := Ne.symm hqr
            have hpr : p + 1 ≠ r := by have := (HR2.out.gr (HG4.out.trans g5)).lt; omega
            have hrv : r < wv.heap.size := hfb.lt
            have hwr4 : w.heap.size ≤ r := by have := (hg0.trans (HG4.out.trans g5)).size; omega
            have HR1v : Sec (∀ W, Gr wv W → Row W 3 (some ⟨b, off, none⟩) k ((fs.take k).flatMap fileC)) := sec (fun W g => HR1.out W (gv.trans g))
            have c0v : wv.cell? ⟨p, 0, none⟩ = some (.slice (some ⟨b, off, none⟩) n cap) := (HB.out.gr HGV.out).cell 0
            have q0v : wv.cell? ⟨q, 0, none⟩ = some (.slice A1 n cap1) := HDV.out.blk.cell 0
            have HER : Sec ((fs.eraseIdx k).length ≤ 1099511627776) := sec (by have := (List.eraseIdx_sublist fs k).length_le; omega)
            have HPU0 : Sec (∀ (A6 : Option Addr) (N k6 : Nat) (w6 : World), Gr wv w6 → w6.ownsRow wv.heap.size 87 3 (.slice A6 N k6) N ((fs.eraseIdx k).flatMap fileC) →
              Calls Tryd.prog 102 #[.slice A6 N k6, .agg #[.string (bs s), .string (bs sf), .string (bs tl)]] ((w6.setCell ⟨q, 0, none⟩ (.slice A6 N k6)).setCell ⟨r, 0, none⟩ (.string (bs s))) fun e w' =>
                ∃ A' n' cap', e = .returned (.slice A' n' cap') ∧ w'.ownsRow ((w6.setCell ⟨q, 0, none⟩ (.slice A6 N k6)).setCell ⟨r, 0, none⟩ (.string (bs s))).heap.size 87 3 (.slice A' n' cap') n' ((putF (s, sf, tl) (fs.eraseIdx k)).flatMap fileC) ∧ Gr ((w6.setCell ⟨q, 0, none⟩ (.slice A6 N k6)).setCell ⟨r, 0, none⟩ (.string (bs s))) w' ∧ Gr w w' ∧ w.heap.size ≤ ((w6.setCell ⟨q, 0, none⟩ (.slice A6 N k6)).setCell ⟨r, 0, none⟩ (.string (bs s))).heap.size ∧ Blk w' q 24 #[.slice A6 N k6, .int .i64 u] ∧ Blk w' (p + 1) 24 #[.slice none 0 0, .int .i64 0]) := sec (fun A6 N k6 w6 g6 ho => by
                  have hN := FRow.len (Row.own ho)
                  have hbq : Blk w6 q 24 #[.slice A1 n cap1, .int .i64 u] := HDV.out.blk.gr g6
                  have hbp := HR2.out.gr (HGV.out.trans g6)
                  have ho7 := ownsRow_setCell_other (ownsRow_setCell_other ho (a := ⟨q, 0, none⟩) (own_blk_ne ho hbq (by decide)) (.slice A6 N k6)) (a := ⟨r, 0, none⟩) (fun e => by have : wv.heap.size ≤ r := (ho.lt _ e).1; omega) (.string (bs s))
                  have g7 : Gr w ((w6.setCell ⟨q, 0, none⟩ (.slice A6 N k6)).setCell ⟨r, 0, none⟩ (.string (bs s))) := ((hg0.trans (HGV.out.trans g6)).setCell (p := ⟨q, 0, none⟩) (by show w.heap.size ≤ q; omega) _).setCell (p := ⟨r, 0, none⟩) hwr4 _
                  have hbq7 := (hbq.set_ 0 (.slice A6 N k6)).far (p := ⟨r, 0, none⟩) hqr (.string (bs s))
                  have hbp7 := (hbp.far (p := ⟨q, 0, none⟩) hpq1 (.slice A6 N k6)).far (p := ⟨r, 0, none⟩) hpr (.string (bs s))
                  have hx7 : FRow ((w6.setCell ⟨q, 0, none⟩ (.slice A6 N k6)).setCell ⟨r, 0, none⟩ (.string (bs s))) A6 N (fs.eraseIdx k) := Row.own ho7
                  refine (put_any (fs.eraseIdx k) s sf tl A6 N k6 _ (by have := HER.out; omega) hx7).mono ?_
                  rintro e w' ⟨A', n', cap', rfl, h1, h2⟩
                  exact ⟨A', n', cap', rfl, h1, h2, g7.trans h2, g7.size, hbq7.gr h2, hbp7.gr h2⟩)
            clear e0w e1w e2w c05 c15 d205 d215 f205 f215 hwv hr gv hfb E0 HD4 HR1 c04 c14 d20 d21 f20 f21 q04 q14 fq4 HN hrv hwr4
            by_cases hcap : cap = k + 1
            · subst hcap
              obtain rfl : n = k + 1 := by omega
              have HM2 : Sec (0 + k + 0 ≤ maxLen) := HM1
              have HRR2 : Sec (∀ W, Gr wv W → Row W 3 (some ⟨b, off, none⟩) 0 ((fs.drop (k + 1)).flatMap fileC)) := sec (fun W g => FRow.none (k + 1) (by omega))
              go_region_law (first
                | (refine step_append_row (w := wv.drew) (B := wv.heap.size) (A0 := none) (n0 := 0) (cap0 := 0) (xs := []) (A := some ⟨b, off, none⟩) (n := k) (c := (k + 1)) (vs := (fs.take k).flatMap fileC) E.file rfl (.const (.slice none 0 0)) (.tmp 128) rfl ?hd (World.ownsRow_nil _ _ _ _) ?hx (HR1v.out _ (Gr.refl _).drew) ?ha fileC_one ?hb ?hm ?hB ?_; (case hd => rfl); (case hx => simp [Act.eval, Act.put]); (case ha => intro h; cases h); (case hb => omega); (case hm => exact HM1.out); (case hB => exact Nat.le_refl _); intro A5 k5 w9 hown5 hg5; have g9 : Gr wv w9 := Gr.grown (Gr.refl wv).drew hg5 (fun k hk => by simp [Value.ownBlock] at hk); have c09 : w9.cell? ⟨p, 0, none⟩ = some (.slice (some ⟨b, off, none⟩) (k + 1) (k + 1)) := (HB.out.gr (HGV.out.trans g9)).cell 0)
                | (refine step_append_row (w := w9) (B := wv.heap.size) (A0 := A5) (n0 := 0 + k) (cap0 := k5) (A := some ⟨b, off, none⟩) (n := 0) (c := 0) (vs := (fs.drop (k + 1)).flatMap fileC) E.file rfl (.tmp 129) (.tmp 134) rfl ?hd hown5 ?hx (HRR2.out _ g9) ?ha fileC_one ?hb ?hm ?hB ?_; (case hd => simp [Act.eval, Act.put]); (case hx => simp [Act.eval, Act.put]; try omega); (case ha => intro h; cases h); (case hb => omega); (case hm => exact HM2.out); (case hB => exact g9.size); intro A6 k6 w6 hown6 hg6; have g6 : Gr wv w6 := Gr.grown g9 hg6 (fun k hk => (hown5.lt k hk).1); have hbq := HDV.out.blk.gr g6; have hbr := HFB.out.gr g6; have q06 : w6.cell? ⟨q, 0, none⟩ = some (.slice A1 (k + 1) cap1) := hbq.cell 0; have fq6 : w6.frozen? ⟨q, 0, none⟩ = false := hbq.frozen 0; have r06 : w6.cell? ⟨r, 0, none⟩ = some (.string (bs nm)) := hbr.cell 0; have r16 : w6.cell? ⟨r, 1, none⟩ = some (.string (bs sf)) := hbr.cell 1; have r26 : w6.cell? ⟨r, 2, none⟩ = some (.string (bs tl)) := hbr.cell 2; have fr6 : w6.frozen? ⟨r, 0, none⟩ = false := hbr.frozen 0))
              all_goals
                have hown7 : w6.ownsRow wv.heap.size 87 3 (.slice A6 (k) k6) (k) ((fs.eraseIdx k).flatMap fileC) := by simpa [erase_flat] using hown6
                have HPU := sec (HPU0.out A6 (k) k6 w6 g6 hown7)
                go_wp2_with (go_at_call 102; refine HPU.out.mono ?_; rintro e w8 ⟨A8, n8, k8, rfl, hown8, _, g8, hb8, hbq8, hbp8⟩; have q08 : w8.cell? ⟨q, 0, none⟩ = some (.slice A6 (k) k6) := hbq8.cell 0; have q18 : w8.cell? ⟨q, 1, none⟩ = some (.int .i64 u) := hbq8.cell 1; have fq8 : w8.frozen? ⟨q, 0, none⟩ = false := hbq8.frozen 0; have d208 : w8.cell? ⟨p + 1, 0, none⟩ = some (.slice none 0 0) := hbp8.cell 0; have d218 : w8.cell? ⟨p + 1, 1, none⟩ = some (.int .i64 0) := hbp8.cell 1; have f208 : w8.frozen? ⟨p + 1, 0, none⟩ = false := hbp8.frozen 0; have f218 : w8.frozen? ⟨p + 1, 1, none⟩ = false := hbp8.frozen 1)
                have hE := do_end g8 (by omega) (by omega) hbp8 hbq8 hpq1 hown8 hb8 u (.slice A8 n8 k8)
                refine bodyPost_ret (results_blk_tmp rfl _ rfl hE.1 aggDisk) rfl ?_
                rw [HR.out]
                exact ⟨A8, _, k8, rfl, hE.2.1, hE.2.2.2, .inr hE.2.2.1⟩
            · have HRR2 : Sec (∀ W, Gr wv W → Row W 3 (some ⟨b, off + (k + 1) * 3, none⟩) (n - (k + 1)) ((fs.drop (k + 1)).flatMap fileC)) := sec (fun W g => (HX.out.gr (HGV.out.trans g)).drop (k + 1) (by omega))
              go_region_law (first
                | (refine step_append_row (w := wv.drew) (B := wv.heap.size) (A0 := none) (n0 := 0) (cap0 := 0) (xs := []) (A := some ⟨b, off, none⟩) (n := k) (c := cap) (vs := (fs.take k).flatMap fileC) E.file rfl (.const (.slice none 0 0)) (.tmp 128) rfl ?hd (World.ownsRow_nil _ _ _ _) ?hx (HR1v.out _ (Gr.refl _).drew) ?ha fileC_one ?hb ?hm ?hB ?_; (case hd => rfl); (case hx => simp [Act.eval, Act.put]); (case ha => intro h; cases h); (case hb => omega); (case hm => exact HM1.out); (case hB => exact Nat.le_refl _); intro A5 k5 w9 hown5 hg5; have g9 : Gr wv w9 := Gr.grown (Gr.refl wv).drew hg5 (fun k hk => by simp [Value.ownBlock] at hk); have c09 : w9.cell? ⟨p, 0, none⟩ = some (.slice (some ⟨b, off, none⟩) n cap) := (HB.out.gr (HGV.out.trans g9)).cell 0)
                | (refine step_append_row (w := w9) (B := wv.heap.size) (A0 := A5) (n0 := 0 + k) (cap0 := k5) (A := some ⟨b, off + (k + 1) * 3, none⟩) (n := n - (k + 1)) (c := cap - (k + 1)) (vs := (fs.drop (k + 1)).flatMap fileC) E.file rfl (.tmp 129) (.tmp 134) rfl ?hd hown5 ?hx (HRR2.out _ g9) ?ha fileC_one ?hb ?hm ?hB ?_; (case hd => simp [Act.eval, Act.put]); (case hx => simp [Act.eval, Act.put]; try omega); (case ha => intro h; cases h); (case hb => omega); (case hm => exact HM2.out); (case hB => exact g9.size); intro A6 k6 w6 hown6 hg6; have g6 : Gr wv w6 := Gr.grown g9 hg6 (fun k hk => (hown5.lt k hk).1); have hbq := HDV.out.blk.gr g6; have hbr := HFB.out.gr g6; have q06 : w6.cell? ⟨q, 0, none⟩ = some (.slice A1 n cap1) := hbq.cell 0; have fq6 : w6.frozen? ⟨q, 0, none⟩ = false := hbq.frozen 0; have r06 : w6.cell? ⟨r, 0, none⟩ = some (.string (bs nm)) := hbr.cell 0; have r16 : w6.cell? ⟨r, 1, none⟩ = some (.string (bs sf)) := hbr.cell 1; have r26 : w6.cell? ⟨r, 2, none⟩ = some (.string (bs tl)) := hbr.cell 2; have fr6 : w6.frozen? ⟨r, 0, none⟩ = false := hbr.frozen 0))
              all_goals
                have hown7 : w6.ownsRow wv.heap.size 87 3 (.slice A6 (k + (n - (k + 1))) k6) (k + (n - (k + 1))) ((fs.eraseIdx k).flatMap fileC) := by simpa [erase_flat] using hown6
                have HPU := sec (HPU0.out A6 (k + (n - (k + 1))) k6 w6 g6 hown7)
                go_wp2_with (go_at_call 102; refine HPU.out.mono ?_; rintro e w8 ⟨A8, n8, k8, rfl, hown8, _, g8, hb8, hbq8, hbp8⟩; have q08 : w8.cell? ⟨q, 0, none⟩ = some (.slice A6 (k + (n - (k + 1))) k6) := hbq8.cell 0; have q18 : w8.cell? ⟨q, 1, none⟩ = some (.int .i64 u) := hbq8.cell 1; have fq8 : w8.frozen? ⟨q, 0, none⟩ = false := hbq8.frozen 0; have d208 : w8.cell? ⟨p + 1, 0, none⟩ = some (.slice none 0 0) := hbp8.cell 0; have d218 : w8.cell? ⟨p + 1, 1, none⟩ = some (.int .i64 0) := hbp8.cell 1; have f208 : w8.frozen? ⟨p + 1, 0, none⟩ = false := hbp8.frozen 0; have f218 : w8.frozen? ⟨p + 1, 1, none⟩ = false := hbp8.frozen 1)
                have hE := do_end g8 (by omega) (by omega) hbp8 hbq8 hpq1 hown8 hb8 u (.slice A8 n8 k8)
                refine bodyPost_ret (results_blk_tmp rfl _ rfl hE.1 aggDisk) rfl ?_
                rw [HR.out]
                exact ⟨A8, _, k8, rfl, hE.2.1, hE.2.2.2, .inr hE.2.2.1⟩
end Go.Proofs.YtbhpglhmnpcnkaaDoor

namespace Go.Proofs.YtbhpglhmnpcnkaaDoor
open Go.RowKit
set_option linter.unusedVariables false

set_option maxRecDepth 100000 in
set_option maxHeartbeats 4000000 in
theorem do3_any (name s : List UInt8) (fs : List Fl) (A : Option Addr) (n cap : Nat) (f : Int) (w : World) (hn : n ≤ 1099511627776) (hnc : n ≤ cap) (hx : FRow w A n fs) (hA : A = none → n = 0 ∧ cap = 0) (hs : ∀ f ∈ fs, f.1.length ≤ 1099511627776 ∧ f.2.1.length ≤ 1099511627776 ∧ f.2.2.length ≤ 1099511627776)
    (hf : -9223372036854775808 ≤ f ∧ f ≤ 9223372036854775807) (hl1 : name.length ≤ 1099511627776) (hl2 : s.length ≤ 1099511627776) :
    Calls Tryd.prog 83 #[.int .i64 3, diskV A n cap f, .string (bs name), .string (bs s)] w (StepPost (stepR (rmF name) fs f) A n cap fs w) := by
  have hg0 := ((Gr.refl w).alloc (.cells #[.slice A n cap, .int .i64 f] 24)).alloc (.cells #[.slice none 0 0, .int .i64 0] 24)
  have hb1 := (Blk.new w 24 #[.slice A n cap, .int .i64 f]).alloc (.cells #[.slice none 0 0, .int .i64 0] 24)
  have hb2 := Blk.new1 w (.cells #[.slice A n cap, .int .i64 f] 24) 24 #[.slice none 0 0, .int .i64 0]
  have HG := sec (drgood_any fs A n cap f _ hn (hx.gr hg0) hs)
  have hl := hx.len
  have HX := sec (hx.gr hg0)
  obtain ⟨wa, hwa⟩ : ∃ x, x = (w.alloc (.cells #[.slice A n cap, .int .i64 f] 24)).alloc (.cells #[.slice none 0 0, .int .i64 0] 24) := ⟨_, rfl⟩
  rw [← hwa] at hg0 hb1 hb2 HG HX
  obtain ⟨p, hp⟩ : ∃ p, p = w.heap.size := ⟨_, rfl⟩
  have hwp : w.heap.size ≤ p := by omega
  rw [← hp] at hb1 hb2
  have c0 : wa.cell? ⟨p, 0, none⟩ = some (.slice A n cap) := hb1.cell 0
  have c1 : wa.cell? ⟨p, 1, none⟩ = some (.int .i64 f) := hb1.cell 1
  have HB := sec hb1
  have HR2 := sec hb2
  have HX0 := sec hx
  have HA := sec hA
  clear hb1 hb2 hs hx
  unfold diskV at HG
  unfold diskV
  have HW : Sec (∀ w1, Gr wa w1 → Blk ((w1.setCell ⟨p + 1, 0, none⟩ (.slice A n cap)).setCell ⟨p + 1, 1, none⟩ (.int .i64 f)) (p + 1) 24 #[.slice A n cap, .int .i64 f]) := sec fun w1 g1 => ((HR2.out.gr g1).set_ 0 (.slice A n cap)).set_ 1 (.int .i64 f)
  have HV : Sec (∀ w1, Gr wa w1 → Gr w ((w1.setCell ⟨p + 1, 0, none⟩ (.slice A n cap)).setCell ⟨p + 1, 1, none⟩ (.int .i64 f))) := sec fun w1 g1 => ((hg0.trans g1).setCell (p := ⟨p + 1, 0, none⟩) (by show w.heap.size ≤ p + 1; omega) _).setCell (p := ⟨p + 1, 1, none⟩) (by show w.heap.size ≤ p + 1; omega) _
  cases hgf : goodFs fs with
  | false =>
    have HR : Sec (stepR (rmF name) fs f = (fs, f, 3)) := sec (by unfold stepR; rw [hgf]; rfl)
    rw [HR.out]
    rw [hgf] at HG
    clear hgf
    go_enter Tryd.func83, Tryd.ntmps83
    go_wp2_with (first | (rw [← hwa, ← hp]; clear hwa hp; go_wp2_with fail) | (go_at_call 57; refine Calls.mono HG.out ?_; rintro e w1 ⟨rfl, g1⟩; have c0y : w1.cell? ⟨p, 0, none⟩ = some (.slice A n cap) := (HB.out.gr g1).cell 0; have c1y : w1.cell? ⟨p, 1, none⟩ = some (.int .i64 f) := (HB.out.gr g1).cell 1; have d20 : w1.cell? ⟨p + 1, 0, none⟩ = some (.slice none 0 0) := (HR2.out.gr g1).cell 0; have d21 : w1.cell? ⟨p + 1, 1, none⟩ = some (.int .i64 0) := (HR2.out.gr g1).cell 1; have f20 : w1.frozen? ⟨p + 1, 0, none⟩ = false := (HR2.out.gr g1).frozen 0; have f21 : w1.frozen? ⟨p + 1, 1, none⟩ = false := (HR2.out.gr g1).frozen 1))
    refine bodyPost_ret (results_blk_tmp rfl _ rfl (HW.out w1 g1) aggDisk) rfl ?_
    exact ⟨A, n, cap, rfl, HV.out w1 g1, HA.out, .inl ⟨rfl, rfl, rfl, rfl⟩⟩
  | true =>
    rw [hgf] at HG
    by_cases hf0 : f = 0
    · have HR : Sec (stepR (rmF name) fs f = (fs, f, 12)) := sec (by unfold stepR; rw [hgf, hf0]; rfl)
      rw [HR.out]
      clear hgf
      subst hf0
      go_enter Tryd.func83, Tryd.ntmps83
      go_wp2_with (first | (rw [← hwa, ← hp]; clear hwa hp; go_wp2_with fail) | (go_at_call 57; refine Calls.mono HG.out ?_; rintro e w1 ⟨rfl, g1⟩; have c0y : w1.cell? ⟨p, 0, none⟩ = some (.slice A n cap) := (HB.out.gr g1).cell 0; have c1y : w1.cell? ⟨p, 1, none⟩ = some (.int .i64 0) := (HB.out.gr g1).cell 1; have d20 : w1.cell? ⟨p + 1, 0, none⟩ = some (.slice none 0 0) := (HR2.out.gr g1).cell 0; have d21 : w1.cell? ⟨p + 1, 1, none⟩ = some (.int .i64 0) := (HR2.out.gr g1).cell 1; have f20 : w1.frozen? ⟨p + 1, 0, none⟩ = false := (HR2.out.gr g1).frozen 0; have f21 : w1.frozen? ⟨p + 1, 1, none⟩ = false := (HR2.out.gr g1).frozen 1))
      refine bodyPost_ret (results_blk_tmp rfl _ rfl (HW.out w1 g1) aggDisk) rfl ?_
      exact ⟨A, n, cap, rfl, HV.out w1 g1, HA.out, .inl ⟨rfl, rfl, rfl, rfl⟩⟩
    · have HGF := sec hgf
      have HF0 := sec hf0
      have HSO := sec (goodFs_sorted hgf)
      have hl400 : n ≤ 400 := by have := goodFs_len hgf; omega
      clear hgf
      obtain ⟨u, hu⟩ : ∃ u, u = (if 0 < f then f - 1 else f) := ⟨_, rfl⟩
      have HU := sec hu
      clear hu
      have HERR : Sec (∀ E, (rmF name fs).2 = E → E ≠ 0 → stepR (rmF name) fs f = (fs, f, E)) := sec (fun E h h0 => by unfold stepR; rw [HGF.out, if_pos rfl, if_neg HF0.out, if_neg (by rw [h]; exact h0), h])
      have HOK : Sec (∀ R, (rmF name fs) = (R, 0) → stepR (rmF name) fs f = (R, u, 0)) := sec (fun R h => by unfold stepR; rw [HGF.out, if_pos rfl, if_neg HF0.out, if_pos (by rw [h]), h, HU.out])
      go_enter Tryd.func83, Tryd.ntmps83
      go_upto_if 27 with (first | (rw [← hwa, ← hp]; clear hwa hp; go_wp2_with fail) | (go_at_call 57; refine Calls.mono HG.out ?_; rintro e w1 ⟨rfl, g1⟩; have c0y : w1.cell? ⟨p, 0, none⟩ = some (.slice A n cap) := (HB.out.gr g1).cell 0; have c1y : w1.cell? ⟨p, 1, none⟩ = some (.int .i64 f) := (HB.out.gr g1).cell 1) | (go_at_call 28; refine Calls.mono (copyDisk_any fs A n cap f w1 hn (HX.out.gr g1) HA.out) ?_; unfold diskV; rintro e w2 ⟨A1, cap1, rfl, ho, hA1, g2⟩))
      have hqb := Blk.new w2 24 #[.slice A1 n cap1, .int .i64 f]
      have hoq := own_gr ho ((Gr.refl w2).alloc (.cells #[.slice A1 n cap1, .int .i64 f] 24))
      have gq := g2.alloc (.cells #[.slice A1 n cap1, .int .i64 f] 24)
      obtain ⟨wq, hwq⟩ : ∃ x, x = w2.alloc (.cells #[.slice A1 n cap1, .int .i64 f] 24) := ⟨_, rfl⟩
      obtain ⟨q, hq⟩ : ∃ q, q = w2.heap.size := ⟨_, rfl⟩
      have hq1 : w1.heap.size ≤ q := by have := g2.size; omega
      rw [← hwq] at hqb hoq gq
      rw [← hq] at hqb
      rw [← hwq, ← hq]
      have HDQ : Sec (DOwn wq w1.heap.size q A1 n cap1 f fs) := sec ⟨hqb, hoq, hq1⟩
      have HG1 := sec g1
      have hpq : p + 1 < w1.heap.size := (HR2.out.gr g1).lt
      clear hwq hq hqb hoq ho g2 hA1
      have dq0 : wq.cell? ⟨q, 0, none⟩ = some (.slice A1 n cap1) := HDQ.out.blk.cell 0
      have dq1 : wq.cell? ⟨q, 1, none⟩ = some (.int .i64 f) := HDQ.out.blk.cell 1
      have fq1 : wq.frozen? ⟨q, 1, none⟩ = false := HDQ.out.blk.frozen 1
      go_cut [] from 28 to 144 (fun wx => Sec (DOwn wx w1.heap.size q A1 n cap1 u fs) ∧ Gr w1 wx)
      case first =>
        by_cases hpos : 0 < f
        · have hwr : IntKind.i64.wrap (f - 1) = f - 1 := IntWalk.i64_in _ (by omega)
          have hu : u = f - 1 := by rw [HU.out, if_pos hpos]
          go_wp2_with fail
          go_meet
          rw [hu]
          exact ⟨sec ⟨HDQ.out.blk.set_ 1 _, ownsRow_setCell_other HDQ.out.own (a := ⟨q, 1, none⟩) HDQ.out.ne _, HDQ.out.base⟩, gq.setCell (p := ⟨q, 1, none⟩) hq1 _⟩
        · have hu : u = f := by rw [HU.out, if_neg hpos]
          go_wp2_with fail
          go_meet
          rw [hu]
          exact ⟨HDQ, gq⟩
      case rest =>
        obtain ⟨HDC, gc⟩ := hcut
        clear dq0 dq1 fq1 c0y c1y HDQ gq g1
        have c0y : wc.cell? ⟨p, 0, none⟩ = some (.slice A n cap) := (HB.out.gr (HG1.out.trans gc)).cell 0
        have c1y : wc.cell? ⟨p, 1, none⟩ = some (.int .i64 f) := (HB.out.gr (HG1.out.trans gc)).cell 1
        go_upto_region 9 with (go_at_call 82; refine Calls.mono (at_any fs name A n cap f wc hn (HX.out.gr (HG1.out.trans gc)) HSO.out) ?_; rintro e w4 ⟨rfl, g4⟩)
        have gg4 : Gr w1 w4 := gc.trans g4
        have HD4 := sec (HDC.out.gr g4)
        have HG4 := sec (HG1.out.trans gg4)
        have HGG4 := sec gg4
        clear c0y c1y gc g4 HDC HG1
        have c04 : w4.cell? ⟨p, 0, none⟩ = some (.slice A n cap) := (HB.out.gr HG4.out).cell 0
        have c14 : w4.cell? ⟨p, 1, none⟩ = some (.int .i64 f) := (HB.out.gr HG4.out).cell 1
        have d20 : w4.cell? ⟨p + 1, 0, none⟩ = some (.slice none 0 0) := (HR2.out.gr HG4.out).cell 0
        have d21 : w4.cell? ⟨p + 1, 1, none⟩ = some (.int .i64 0) := (HR2.out.gr HG4.out).cell 1
        have f20 : w4.frozen? ⟨p + 1, 0, none⟩ = false := (HR2.out.gr HG4.out).frozen 0
        have f21 : w4.frozen? ⟨p + 1, 1, none⟩ = false := (HR2.out.gr HG4.out).frozen 1
        have q04 : w4.cell? ⟨q, 0, none⟩ = some (.slice A1 n cap1) := HD4.out.blk.cell 0
        have q14 : w4.cell? ⟨q, 1, none⟩ = some (.int .i64 u) := HD4.out.blk.cell 1
        have fq4 : w4.frozen? ⟨q, 0, none⟩ = false := HD4.out.blk.frozen 0
        cases hhf : hasF name fs with
        | false =>
          have hai : atI name fs = -1 := by unfold atI; rw [hhf]; rfl
          have HR := sec (HERR.out 7 (by unfold rmF; rw [hhf]; rfl) (by decide))
          rw [hai]
          clear hhf
          go_wp2_with fail
          refine bodyPost_ret (results_blk_tmp rfl _ rfl (HW.out w4 HG4.out) aggDisk) rfl ?_
          rw [HR.out]
          exact ⟨A, n, cap, rfl, HV.out w4 HG4.out, HA.out, .inl ⟨rfl, rfl, rfl, rfl⟩⟩
        | true =>
          have hlt := hasF_lt HSO.out hhf
          obtain ⟨k, hk⟩ : ∃ k, k = lbF name fs := ⟨_, rfl⟩
          have hai : atI name fs = k := by unfold atI; rw [hhf, hk]; rfl
          have HR := sec (HOK.out (fs.eraseIdx k) (by unfold rmF; rw [hhf, if_pos rfl, hk]))
          rw [← hk] at hlt
          obtain ⟨hkf, hnm⟩ := hlt
          rw [hai]
          clear hai hk hhf hnm
          have hkn : k < n := by omega
          obtain ⟨b, off, rfl, e0, e1, e2⟩ := (HX.out.gr HG4.out).cell hkf
          clear e0 e1 e2
          have hkn1 : (k : Int) < (n : Int) := by omega
          have hwk : IntKind.i64.wrap ((k : Int) + 1) = (k : Int) + 1 := IntWalk.i64_in _ (by omega)
          have hc1 : (k : Int) ≤ (cap : Int) := by omega
          have HR1 : Sec (∀ W, Gr w4 W → Row W 3 (some ⟨b, off, none⟩) k ((fs.take k).flatMap fileC)) := sec (fun W g => (HX.out.gr (HG4.out.trans g)).take k (by omega))
          have hpq1 : p + 1 ≠ q := by omega
          have HM1 : Sec (0 + k ≤ maxLen) := sec (Nat.le_trans (show 0 + k ≤ 4096 by omega) (by decide))
          have HM2 : Sec (0 + k + (n - (k + 1)) ≤ maxLen) := sec (Nat.le_trans (show 0 + k + (n - (k + 1)) ≤ 4096 by omega) (by decide))
          have hb10 : (k : Int) ≤ (k : Int) + 1 := by omega
          have hk0 : (0 : Int) ≤ (k : Int) + 1 := by omega
          have hk3 : (k : Int) + 1 ≤ (n : Int) := by omega
          have hk4 : (n : Int) ≤ (cap : Int) := by omega
          have hkt : ((k : Int) + 1).toNat = k + 1 := by omega
          by_cases hcap : cap = k + 1
          · subst hcap
            obtain rfl : n = k + 1 := by omega
            have HM2 : Sec (0 + k + 0 ≤ maxLen) := HM1
            have HRR2 : Sec (∀ W, Gr w4 W → Row W 3 (some ⟨b, off, none⟩) 0 ((fs.drop (k + 1)).flatMap fileC)) := sec (fun W g => FRow.none (k + 1) (by omega))
            go_wp2_with fail
            go_region_law (first
              | (refine step_append_row (w := w4.drew) (B := w4.heap.size) (A0 := none) (n0 := 0) (cap0 := 0) (xs := []) (A := some ⟨b, off, none⟩) (n := k) (c := k + 1) (vs := (fs.take k).flatMap fileC) E.file rfl (.const (.slice none 0 0)) (.tmp 42) rfl ?hd (World.ownsRow_nil _ _ _ _) ?hx (HR1.out _ (Gr.refl _).drew) ?ha fileC_one ?hb ?hm ?hB ?_; (case hd => rfl); (case hx => simp [Act.eval, Act.put]); (case ha => intro h; cases h); (case hb => omega); (case hm => exact HM1.out); (case hB => exact Nat.le_refl _); intro A5 k5 w5 hown5 hg5; have g5 : Gr w4 w5 := Gr.grown (Gr.refl w4).drew hg5 (fun k hk => by simp [Value.ownBlock] at hk); have c05 : w5.cell? ⟨p, 0, none⟩ = some (.slice (some ⟨b, off, none⟩) (k + 1) (k + 1)) := (HB.out.gr (HG4.out.trans g5)).cell 0)
              | (refine step_append_row (w := w5) (B := w4.heap.size) (A0 := A5) (n0 := 0 + k) (cap0 := k5) (A := some ⟨b, off, none⟩) (n := 0) (c := 0) (vs := (fs.drop (k + 1)).flatMap fileC) E.file rfl (.tmp 43) (.tmp 48) rfl ?hd hown5 ?hx (HRR2.out _ g5) ?ha fileC_one ?hb ?hm ?hB ?_; (case hd => simp [Act.eval, Act.put]); (case hx => simp [Act.eval, Act.put]; try omega); (case ha => intro h; cases h); (case hb => omega); (case hm => exact HM2.out); (case hB => exact g5.size); intro A6 k6 w6 hown6 hg6; have g6 : Gr w4 w6 := Gr.grown g5 hg6 (fun k hk => (hown5.lt k hk).1); have hbq := HD4.out.blk.gr g6; have hbp := HR2.out.gr (HG4.out.trans g6); have q06 : w6.cell? ⟨q, 0, none⟩ = some (.slice A1 (k + 1) cap1) := hbq.cell 0; have q16 : w6.cell? ⟨q, 1, none⟩ = some (.int .i64 u) := hbq.cell 1; have fq6 : w6.frozen? ⟨q, 0, none⟩ = false := hbq.frozen 0; have d206 : w6.cell? ⟨p + 1, 0, none⟩ = some (.slice none 0 0) := hbp.cell 0; have d216 : w6.cell? ⟨p + 1, 1, none⟩ = some (.int .i64 0) := hbp.cell 1; have f206 : w6.frozen? ⟨p + 1, 0, none⟩ = false := hbp.frozen 0; have f216 : w6.frozen? ⟨p + 1, 1, none⟩ = false := hbp.frozen 1))
            all_goals
              go_wp2_with fail
              have hown7 : w6.ownsRow w4.heap.size 87 3 (.slice A6 (k) k6) (k) ((fs.eraseIdx k).flatMap fileC) := by simpa [erase_flat] using hown6
              have hE := do_end (hg0.trans (HG4.out.trans g6)) (by omega) (by omega) hbp hbq hpq1 hown7 (hg0.trans HG4.out).size u (.slice A6 (k) k6)
              refine bodyPost_ret (results_blk_tmp rfl _ rfl hE.1 aggDisk) rfl ?_
              rw [HR.out]
              exact ⟨A6, _, k6, rfl, hE.2.1, hE.2.2.2, .inr hE.2.2.1⟩
          · have HRR2 : Sec (∀ W, Gr w4 W → Row W 3 (some ⟨b, off + (k + 1) * 3, none⟩) (n - (k + 1)) ((fs.drop (k + 1)).flatMap fileC)) := sec (fun W g => (HX.out.gr (HG4.out.trans g)).drop (k + 1) (by omega))
            go_wp2_with fail
            go_region_law (first
              | (refine step_append_row (w := w4.drew) (B := w4.heap.size) (A0 := none) (n0 := 0) (cap0 := 0) (xs := []) (A := some ⟨b, off, none⟩) (n := k) (c := cap) (vs := (fs.take k).flatMap fileC) E.file rfl (.const (.slice none 0 0)) (.tmp 42) rfl ?hd (World.ownsRow_nil _ _ _ _) ?hx (HR1.out _ (Gr.refl _).drew) ?ha fileC_one ?hb ?hm ?hB ?_; (case hd => rfl); (case hx => simp [Act.eval, Act.put]); (case ha => intro h; cases h); (case hb => omega); (case hm => exact HM1.out); (case hB => exact Nat.le_refl _); intro A5 k5 w5 hown5 hg5; have g5 : Gr w4 w5 := Gr.grown (Gr.refl w4).drew hg5 (fun k hk => by simp [Value.ownBlock] at hk); have c05 : w5.cell? ⟨p, 0, none⟩ = some (.slice (some ⟨b, off, none⟩) n cap) := (HB.out.gr (HG4.out.trans g5)).cell 0)
              | (refine step_append_row (w := w5) (B := w4.heap.size) (A0 := A5) (n0 := 0 + k) (cap0 := k5) (A := some ⟨b, off + (k + 1) * 3, none⟩) (n := n - (k + 1)) (c := cap - (k + 1)) (vs := (fs.drop (k + 1)).flatMap fileC) E.file rfl (.tmp 43) (.tmp 48) rfl ?hd hown5 ?hx (HRR2.out _ g5) ?ha fileC_one ?hb ?hm ?hB ?_; (case hd => simp [Act.eval, Act.put]); (case hx => simp [Act.eval, Act.put]; try omega); (case ha => intro h; cases h); (case hb => omega); (case hm => exact HM2.out); (case hB => exact g5.size); intro A6 k6 w6 hown6 hg6; have g6 : Gr w4 w6 := Gr.grown g5 hg6 (fun k hk => (hown5.lt k hk).1); have hbq := HD4.out.blk.gr g6; have hbp := HR2.out.gr (HG4.out.trans g6); have q06 : w6.cell? ⟨q, 0, none⟩ = some (.slice A1 n cap1) := hbq.cell 0; have q16 : w6.cell? ⟨q, 1, none⟩ = some (.int .i64 u) := hbq.cell 1; have fq6 : w6.frozen? ⟨q, 0, none⟩ = false := hbq.frozen 0; have d206 : w6.cell? ⟨p + 1, 0, none⟩ = some (.slice none 0 0) := hbp.cell 0; have d216 : w6.cell? ⟨p + 1, 1, none⟩ = some (.int .i64 0) := hbp.cell 1; have f206 : w6.frozen? ⟨p + 1, 0, none⟩ = false := hbp.frozen 0; have f216 : w6.frozen? ⟨p + 1, 1, none⟩ = false := hbp.frozen 1))
            all_goals
              go_wp2_with fail
              have hown7 : w6.ownsRow w4.heap.size 87 3 (.slice A6 (k + (n - (k + 1))) k6) (k + (n - (k + 1))) ((fs.eraseIdx k).flatMap fileC) := by simpa [erase_flat] using hown6
              have hE := do_end (hg0.trans (HG4.out.trans g6)) (by omega) (by omega) hbp hbq hpq1 hown7 (hg0.trans HG4.out).size u (.slice A6 (k + (n - (k + 1))) k6)
              refine bodyPost_ret (results_blk_tmp rfl _ rfl hE.1 aggDisk) rfl ?_
              rw [HR.out]
              exact ⟨A6, _, k6, rfl, hE.2.1, hE.2.2.2, .inr hE.2.2.1⟩
end Go.Proofs.YtbhpglhmnpcnkaaDoor

namespace Go.Proofs.YtbhpglhmnpcnkaaDoor
open Go.RowKit
set_option linter.unusedVariables false

theorem insF_len' (i : Nat) (f : Fl) (fs : List Fl) : (insF i f fs).length ≤ fs.length + 1 := by unfold insF; simp; omega
theorem wrF_len (name s : List UInt8) (fs : List Fl) : (wrF name s fs).1.length ≤ fs.length + 1 := by
  have h1 : (wrPre name fs).length ≤ fs.length + 1 := by
    unfold wrPre
    split
    · omega
    · exact insF_len' _ _ _
  unfold wrF
  split
  · split
    · simp
    · split
      · simpa using h1
      · simp
  · simp
theorem syF_len (name : List UInt8) (fs : List Fl) : (syF name fs).1.length ≤ fs.length + 1 := by
  unfold syF
  split <;> simp
theorem rmF_len (name : List UInt8) (fs : List Fl) : (rmF name fs).1.length ≤ fs.length + 1 := by
  unfold rmF
  split
  · have := (List.eraseIdx_sublist fs (lbF name fs)).length_le
    simp only
    omega
  · simp
theorem rnF_len (frm dst : List UInt8) (fs : List Fl) : (rnF frm dst fs).1.length ≤ fs.length + 1 := by
  unfold rnF
  split
  · split
    · have h1 := (List.eraseIdx_sublist fs (lbF frm fs)).length_le
      simp only
      unfold rnTo
      split
      · simp only [List.length_set]; omega
      · have := insF_len' (lbF dst (fs.eraseIdx (lbF frm fs))) (dst, (fs.getD (lbF frm fs) ([], [], [])).2) (fs.eraseIdx (lbF frm fs))
        omega
    · simp
  · simp
theorem stepR_len (F : List Fl → List Fl × Int) (h : ∀ fs, (F fs).1.length ≤ fs.length + 1) (fs : List Fl) (f : Int) : (stepR F fs f).1.length ≤ fs.length + 1 := by
  unfold stepR
  split
  · split
    · simp
    · split
      · exact h fs
      · simp
  · simp
theorem steps_mid {wa w1 w2 w4 : World} {A1 A2 : Option Addr} {n n2 cap1 cap2 : Nat} {f u : Int} {gs fs : List Fl} (g1 : Gr wa w1) (ho : w2.ownsRow (w1.alloc (.cells #[.slice none 0 0, .int .i64 0] 24)).heap.size 87 3 (.slice A1 n cap1) n (fs.flatMap fileC)) (g2 : Gr (w1.alloc (.cells #[.slice none 0 0, .int .i64 0] 24)) w2) (g3 : Gr (w2.alloc (.cells #[.slice A1 n cap1, .int .i64 f] 24)) w4)
    (hrow : (A2 = A1 ∧ n2 = n ∧ cap2 = cap1 ∧ gs = fs) ∨ w4.ownsRow (w2.alloc (.cells #[.slice A1 n cap1, .int .i64 f] 24)).heap.size 87 3 (.slice A2 n2 cap2) n2 (gs.flatMap fileC)) :
    Blk w4 w1.heap.size 24 #[.slice none 0 0, .int .i64 0] ∧ Gr wa ((w4.setCell ⟨w1.heap.size, 0, none⟩ (.slice A2 n2 cap2)).setCell ⟨w1.heap.size, 1, none⟩ (.int .i64 u)) ∧ FRow ((w4.setCell ⟨w1.heap.size, 0, none⟩ (.slice A2 n2 cap2)).setCell ⟨w1.heap.size, 1, none⟩ (.int .i64 u)) A1 n fs ∧ FRow ((w4.setCell ⟨w1.heap.size, 0, none⟩ (.slice A2 n2 cap2)).setCell ⟨w1.heap.size, 1, none⟩ (.int .i64 u)) A2 n2 gs ∧
      Blk ((w4.setCell ⟨w1.heap.size, 0, none⟩ (.slice A2 n2 cap2)).setCell ⟨w1.heap.size, 1, none⟩ (.int .i64 u)) w1.heap.size 24 #[.slice A2 n2 cap2, .int .i64 u] ∧ Blk ((w4.setCell ⟨w1.heap.size, 0, none⟩ (.slice A2 n2 cap2)).setCell ⟨w1.heap.size, 1, none⟩ (.int .i64 u)) w2.heap.size 24 #[.slice A1 n cap1, .int .i64 f] := by
  have hz : (w1.alloc (.cells #[.slice none 0 0, .int .i64 0] 24)).heap.size = w1.heap.size + 1 := by simp
  have hg14 : Gr (w1.alloc (.cells #[.slice none 0 0, .int .i64 0] 24)) w4 := (g2.alloc _).trans g3
  have hpa := (Blk.new w1 24 #[.slice none 0 0, .int .i64 0]).gr hg14
  have ho4 := own_gr (own_gr ho ((Gr.refl w2).alloc (.cells #[.slice A1 n cap1, .int .i64 f] 24))) g3
  have hne1 : (Value.slice A1 n cap1).ownBlock ≠ some w1.heap.size := fun e => by have := (ho4.lt _ e).1; omega
  have hr1 : FRow ((w4.setCell ⟨w1.heap.size, 0, none⟩ (.slice A2 n2 cap2)).setCell ⟨w1.heap.size, 1, none⟩ (.int .i64 u)) A1 n fs := Row.own (ownsRow_setCell_other (ownsRow_setCell_other ho4 (a := ⟨w1.heap.size, 0, none⟩) hne1 _) (a := ⟨w1.heap.size, 1, none⟩) hne1 _)
  have hs2 := g2.size
  have hs3 : (w2.alloc (.cells #[.slice A1 n cap1, .int .i64 f] 24)).heap.size = w2.heap.size + 1 := by simp
  refine ⟨hpa, ((g1.trans (((Gr.refl w1).alloc _).trans hg14)).setCell (p := ⟨w1.heap.size, 0, none⟩) g1.size _).setCell (p := ⟨w1.heap.size, 1, none⟩) g1.size _, hr1, ?_, (hpa.set_ 0 _).set_ 1 _, (((Blk.new w2 24 #[.slice A1 n cap1, .int .i64 f]).gr g3).far (p := ⟨w1.heap.size, 0, none⟩) (by show w2.heap.size ≠ w1.heap.size; omega) _).far (p := ⟨w1.heap.size, 1, none⟩) (by show w2.heap.size ≠ w1.heap.size; omega) _⟩
  rcases hrow with ⟨rfl, rfl, rfl, rfl⟩ | h
  · exact hr1
  · have hne2 : (Value.slice A2 n2 cap2).ownBlock ≠ some w1.heap.size := fun e => by have := (h.lt _ e).1; omega
    exact Row.own (ownsRow_setCell_other (ownsRow_setCell_other h (a := ⟨w1.heap.size, 0, none⟩) hne2 _) (a := ⟨w1.heap.size, 1, none⟩) hne2 _)
end Go.Proofs.YtbhpglhmnpcnkaaDoor

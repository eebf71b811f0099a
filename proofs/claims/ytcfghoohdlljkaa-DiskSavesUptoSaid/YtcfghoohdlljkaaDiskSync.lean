/-
  disk.Sync by its contract.
-/
import Derived.Test.YtcfghoohdlljkaaDiskWrite
namespace Go.Proofs.Ytcfghoohdlljkaa
open Go.RowKit
set_option linter.unusedVariables false

/-- P6.3 within the power -/
def syF (name : List UInt8) (fs : List Fl) : List Fl × Int :=
  if hasF name fs then
    (fs.set (lbF name fs) ((fs.getD (lbF name fs) ([], [], [])).1, (fs.getD (lbF name fs) ([], [], [])).2.1 ++ (fs.getD (lbF name fs) ([], [], [])).2.2, []), 0)
  else (fs, 7)

set_option maxRecDepth 100000 in
set_option maxHeartbeats 4000000 in
theorem sync1_any (name : List UInt8) (c1 : Nat) (w0 : World) (h1 : w0.cell? ⟨c1, 0, none⟩ = some (.string (bs name))) :
    Steps 52 #[.pointer (some ⟨c1, 0, none⟩)] (syF name) w0 := by
  intro wb w q A n cap u fs g0 gc hd hgf
  show Calls Try.prog 52 #[.pointer (some ⟨q, 0, none⟩), .pointer (some ⟨c1, 0, none⟩)] w _
  have hl := hd.len
  have hl400 : fs.length ≤ 400 := goodFs_len hgf
  have e1 : w.cell? ⟨c1, 0, none⟩ = some (.string (bs name)) := ((g0.trans gc).cells.1 c1 _ (World.block_lt_of_cell? w0 _ h1)).trans h1
  have HD := sec hd
  have HS := sec (goodFs_sorted hgf)
  have HGC := sec gc
  have HGF := sec hgf
  have d0 : w.cell? ⟨q, 0, none⟩ = some (.slice A n cap) := hd.blk.cell 0
  have d1 : w.cell? ⟨q, 1, none⟩ = some (.int .i64 u) := hd.blk.cell 1
  clear h1 g0 gc hd hgf
  obtain ⟨k, hk⟩ : ∃ k, k = lbF name fs := ⟨_, rfl⟩
  have HK := sec hk
  clear hk
  cases hB : hasF name fs with
  | false =>
    have HR : Sec (syF name fs = (fs, 7)) := sec (by unfold syF; rw [hB]; rfl)
    have HB := sec hB
    clear hB
    go_enter Try.func52, Try.ntmps52
    go_upto_region 1 with fail
    go_cut [4, 5] from 7 to 37 (fun v5 v6 wx => v5 = .int .i64 (k : Int) ∧ v6 = .bool false ∧ Gr w wx)
    case first =>
      go_region_with (go_at_call 45; refine (find_any fs name A n cap u w.drew (by omega) (FRow.gr (Row.own HD.out.own) (Gr.refl _).drew) HS.out).mono ?_; rw [← HK.out, HB.out]; rintro e w2 ⟨rfl, g2⟩)
      all_goals (go_wp2_with fail; go_meet; exact ⟨rfl, rfl, Gr.trans (Gr.refl _).drew g2⟩)
    case rest =>
      obtain ⟨rfl, rfl, gx⟩ := hcut
      go_wp2_with fail
      go_ret
      rw [HR.out]
      exact ⟨rfl, HGC.out.trans gx, fun h => by cases h⟩
  | true =>
    have hX := hasF_lt HS.out hB
    rw [← HK.out] at hX
    obtain ⟨hkl, hnm⟩ := hX
    have HB := sec hB
    clear hB
    go_enter Try.func52, Try.ntmps52
    go_upto_region 1 with fail
    go_cut [4, 5] from 7 to 37 (fun v5 v6 wx => v5 = .int .i64 (k : Int) ∧ v6 = .bool true ∧ Gr w wx)
    case first =>
      go_region_with (go_at_call 45; refine (find_any fs name A n cap u w.drew (by omega) (FRow.gr (Row.own HD.out.own) (Gr.refl _).drew) HS.out).mono ?_; rw [← HK.out, HB.out]; rintro e w2 ⟨rfl, g2⟩)
      all_goals (go_wp2_with fail; go_meet; exact ⟨rfl, rfl, Gr.trans (Gr.refl _).drew g2⟩)
    case rest =>
      obtain ⟨rfl, rfl, gx⟩ := hcut
      have HDz := sec (HD.out.gr gx)
      have gz : Gr wb wc := HGC.out.trans gx
      clear d0 d1 e1 HD gx
      have hk2 : (k : Int) < (n : Int) := by omega
      obtain ⟨b, rfl, hBb, hbq, z0, z1, z2, zf⟩ := HDz.out.at hkl
      have zf1 : wc.frozen? ⟨b, k * 3 + 1, none⟩ = false := zf 1 (by omega)
      have zf2 : wc.frozen? ⟨b, k * 3 + 2, none⟩ = false := zf 2 (by omega)
      have hget : fs[k]? = some fs[k] := List.getElem?_eq_getElem hkl
      have hgd : fs.getD (lbF name fs) ([], [], []) = fs[k] := by
        rw [← HK.out, List.getD_eq_getElem?_getD, hget]; rfl
      have hsz := goodFs_ok HGF.out fs[k] (List.getElem_mem hkl)
      obtain ⟨x, hxx⟩ : ∃ x, x = fs[k] := ⟨_, rfl⟩
      rw [← hxx] at z0 z1 z2 hget hgd hsz
      clear hxx hnm hkl zf
      obtain ⟨nm, sf, tl⟩ := x
      simp only at z0 z1 z2 hsz
      obtain ⟨_, hz1, hz2⟩ := hsz
      have d0z : wc.cell? ⟨q, 0, none⟩ = some (.slice (some ⟨b, 0, none⟩) n cap) := HDz.out.blk.cell 0
      have HR : Sec (syF name fs = (fs.set k (nm, sf ++ tl, []), 0)) := sec (by
        unfold syF; rw [HB.out, if_pos rfl, hgd, ← HK.out])
      have HDF : Sec (∀ W, Gr wc W → DOwn ((W.setCell ⟨b, k * 3 + 1, none⟩ (.string (bs (sf ++ tl)))).setCell ⟨b, k * 3 + 2, none⟩ (.string (bs []))) wb.heap.size q (some ⟨b, 0, none⟩) n cap u (fs.set k (nm, sf ++ tl, []))) := sec (fun W g =>
        ⟨((HDz.out.gr g).blk.far (p := ⟨b, k * 3 + 1, none⟩) (Ne.symm hbq) _).far (p := ⟨b, k * 3 + 2, none⟩) (Ne.symm hbq) _, own_file2 (HDz.out.gr g).own k nm sf tl (sf ++ tl) [] hget, HDz.out.base⟩)
      have HGS : Sec (∀ W, Gr wc W → Gr wb ((W.setCell ⟨b, k * 3 + 1, none⟩ (.string (bs (sf ++ tl)))).setCell ⟨b, k * 3 + 2, none⟩ (.string (bs [])))) := sec (fun W g => ((gz.trans g).setCell (p := ⟨b, k * 3 + 1, none⟩) hBb _).setCell (p := ⟨b, k * 3 + 2, none⟩) hBb _)
      clear hget hgd
      go_wp2_with fail
      go_region
      go_wp2_with fail
      go_ret
      rw [HR.out]
      exact ⟨rfl, (HGS.out _ (Gr.refl _)).drew, fun _ => ⟨_, _, _, (HDF.out _ (Gr.refl _)).gr (Gr.refl _).drew⟩⟩

set_option maxRecDepth 100000 in
set_option maxHeartbeats 4000000 in
theorem sync_any (name : List UInt8) (fs : List Fl) (A : Option Addr) (n cap : Nat) (f : Int) (w : World) (hn : n ≤ 1099511627776) (hx : FRow w A n fs) (hA : A = none → n = 0 ∧ cap = 0) (hs : ∀ f ∈ fs, f.1.length ≤ 1099511627776 ∧ f.2.1.length ≤ 1099511627776 ∧ f.2.2.length ≤ 1099511627776)
    (hf : -9223372036854775808 ≤ f ∧ f ≤ 9223372036854775807) :
    Calls Try.prog 25 #[diskV A n cap f, .string (bs name)] w (StepPost (stepR (syF name) fs f) A n cap fs w) := by
  have g1 := (Gr.refl w).alloc (.cells #[.slice A n cap, .int .i64 f] 37)
  have g2 := g1.alloc (.cells #[.string (bs name)] 9)
  have g4 := g2.alloc (.cells #[.slice none 0 0, .int .i64 0] 37)
  have b1 := ((Blk.new w 37 #[.slice A n cap, .int .i64 f]).alloc (.cells #[.string (bs name)] 9)).alloc (.cells #[.slice none 0 0, .int .i64 0] 37)
  have b2 := (Blk.new1 w (.cells #[.slice A n cap, .int .i64 f] 37) 9 #[.string (bs name)]).alloc (.cells #[.slice none 0 0, .int .i64 0] 37)
  have b4 := Blk.newAt (w := ((w.alloc (.cells #[.slice A n cap, .int .i64 f] 37)).alloc (.cells #[.string (bs name)] 9))) (g := w.heap.size + 1 + 1) (by simp) 37 #[.slice none 0 0, .int .i64 0]
  obtain ⟨wa, hwa⟩ : ∃ x, x = (((w.alloc (.cells #[.slice A n cap, .int .i64 f] 37)).alloc (.cells #[.string (bs name)] 9))).alloc (.cells #[.slice none 0 0, .int .i64 0] 37) := ⟨_, rfl⟩
  rw [← hwa] at b1 b2 b4 g4
  obtain ⟨p, hp⟩ : ∃ p, p = w.heap.size := ⟨_, rfl⟩
  have hwp : w.heap.size ≤ p := by omega
  rw [← hp] at b1 b2 b4
  have c0 : wa.cell? ⟨p, 0, none⟩ = some (.slice A n cap) := b1.cell 0
  have c1 : wa.cell? ⟨p, 1, none⟩ = some (.int .i64 f) := b1.cell 1
  have HS := sec (step_any 52 #[.pointer (some ⟨p + 1, 0, none⟩)] (syF name) (enters_own Try.func52 (by kernel_rfl) rfl) fs A n cap f wa hn (hx.gr g4) hA hs hf (sync1_any name (p + 1) wa (b2.cell 0)))
  have HB4 := sec b4
  have HG4 := sec g4
  clear hx hA hs g1 g2 g4 b1 b2 b4
  unfold diskV at HS
  unfold diskV
  have hmf : ∀ (fn : Fn) (first cap : Array Value) (w : World), (Instr.makeFunc fn first cap).run Try.prog w = .ok (.func fn first cap) w := fun _ _ _ _ => rfl
  obtain ⟨R, hR⟩ : ∃ R, R = stepR (syF name) fs f := ⟨_, rfl⟩
  rw [← hR] at HS
  rw [← hR]
  clear hR
  obtain ⟨fs', f', er⟩ := R
  go_enter Try.func25, Try.ntmps25
  go_wp2_with (first | (rw [← hwa, ← hp]; clear hwa hp; go_wp2_with fail) | (go_at_call 49; refine Calls.mono HS.out ?_; rintro e w5 ⟨A', n', cap', rfl, g5, hA', hrow⟩;  unfold diskV; have d0 : w5.cell? ⟨p + 1 + 1, 0, none⟩ = some (.slice none 0 0) := (HB4.out.gr g5).cell 0; have d1 : w5.cell? ⟨p + 1 + 1, 1, none⟩ = some (.int .i64 0) := (HB4.out.gr g5).cell 1; have f0 : w5.frozen? ⟨p + 1 + 1, 0, none⟩ = false := (HB4.out.gr g5).frozen 0; have f1 : w5.frozen? ⟨p + 1 + 1, 1, none⟩ = false := (HB4.out.gr g5).frozen 1))
  refine bodyPost_ret (results_blk_tmp rfl _ rfl (((HB4.out.gr g5).set_ 0 (.slice A' n' cap')).set_ 1 (.int .i64 f')) aggDisk) rfl ?_
  have hfin := StepPost.set2 (r := (fs', f', er)) (p := p + 1 + 1) HG4.out HB4.out.lt (by omega) g5 (.slice A' n' cap') (.int .i64 f') hrow
  exact ⟨A', n', cap', rfl, hfin.1, hA', hfin.2⟩
end Go.Proofs.Ytcfghoohdlljkaa

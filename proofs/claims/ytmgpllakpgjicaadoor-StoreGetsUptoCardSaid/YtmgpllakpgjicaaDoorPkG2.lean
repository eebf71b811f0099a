/-
  PkG2: contracts and plain laws joined (10 texts). No conditions but those that each states.
-/
import Derived.Test.YtmgpllakpgjicaaDoorDiskWrC
import Derived.Deep.RegionLaw
namespace Go.Proofs.YtmgpllakpgjicaaDoor
open Go.RowKit
set_option linter.unusedVariables false
set_option maxRecDepth 100000 in
set_option maxHeartbeats 4000000 in
theorem write_any (name s : List UInt8) (fs : List Fl) (A : Option Addr) (n cap : Nat) (f : Int) (w : World) (hn : n ≤ 1099511627776) (hx : FRow w A n fs) (hA : A = none → n = 0 ∧ cap = 0) (hs : ∀ f ∈ fs, f.1.length ≤ 1099511627776 ∧ f.2.1.length ≤ 1099511627776 ∧ f.2.2.length ≤ 1099511627776)
    (hf : -9223372036854775808 ≤ f ∧ f ≤ 9223372036854775807) (hl1 : name.length ≤ 1099511627776) (hl2 : s.length ≤ 1099511627776) :
    Calls Tryd.prog 88 #[diskV A n cap f, .string (bs name), .string (bs s)] w (StepPost (stepR (wrF name s) fs f) A n cap fs w) := by
  have g1 := (Gr.refl w).alloc (.cells #[.slice A n cap, .int .i64 f] 43)
  have g2 := g1.alloc (.cells #[.string (bs name)] 9)
  have g3 := g2.alloc (.cells #[.string (bs s)] 9)
  have g4 := g3.alloc (.cells #[.slice none 0 0, .int .i64 0] 43)
  have b1 := (((Blk.new w 43 #[.slice A n cap, .int .i64 f]).alloc (.cells #[.string (bs name)] 9)).alloc (.cells #[.string (bs s)] 9)).alloc (.cells #[.slice none 0 0, .int .i64 0] 43)
  have b2 := ((Blk.new1 w (.cells #[.slice A n cap, .int .i64 f] 43) 9 #[.string (bs name)]).alloc (.cells #[.string (bs s)] 9)).alloc (.cells #[.slice none 0 0, .int .i64 0] 43)
  have b3 := (Blk.new2 w (.cells #[.slice A n cap, .int .i64 f] 43) (.cells #[.string (bs name)] 9) 9 #[.string (bs s)]).alloc (.cells #[.slice none 0 0, .int .i64 0] 43)
  have b4 := Blk.newAt (w := ((w.alloc (.cells #[.slice A n cap, .int .i64 f] 43)).alloc (.cells #[.string (bs name)] 9)).alloc (.cells #[.string (bs s)] 9)) (g := w.heap.size + 1 + 1 + 1) (by simp) 43 #[.slice none 0 0, .int .i64 0]
  obtain ⟨wa, hwa⟩ : ∃ x, x = (((w.alloc (.cells #[.slice A n cap, .int .i64 f] 43)).alloc (.cells #[.string (bs name)] 9)).alloc (.cells #[.string (bs s)] 9)).alloc (.cells #[.slice none 0 0, .int .i64 0] 43) := ⟨_, rfl⟩
  rw [← hwa] at b1 b2 b3 b4 g4
  obtain ⟨p, hp⟩ : ∃ p, p = w.heap.size := ⟨_, rfl⟩
  have hwp : w.heap.size ≤ p := by omega
  rw [← hp] at b1 b2 b3 b4
  have c0 : wa.cell? ⟨p, 0, none⟩ = some (.slice A n cap) := b1.cell 0
  have c1 : wa.cell? ⟨p, 1, none⟩ = some (.int .i64 f) := b1.cell 1
  have HS := sec (step_any 116 #[.pointer (some ⟨p + 1, 0, none⟩), .pointer (some ⟨p + 1 + 1, 0, none⟩)] (wrF name s) (enters_own Tryd.func116 (by kernel_rfl) rfl) fs A n cap f wa hn (hx.gr g4) hA hs hf (write1_any name s (p + 1) (p + 1 + 1) wa (b2.cell 0) (b3.cell 0) hl1 hl2))
  have HB4 := sec b4
  have HG4 := sec g4
  clear hx hA hs g1 g2 g3 g4 b1 b2 b3 b4
  unfold diskV at HS
  unfold diskV
  have hmf : ∀ (fn : Fn) (first cap : Array Value) (w : World), (Instr.makeFunc fn first cap).run Tryd.prog w = .ok (.func fn first cap) w := fun _ _ _ _ => rfl
  obtain ⟨R, hR⟩ : ∃ R, R = stepR (wrF name s) fs f := ⟨_, rfl⟩
  rw [← hR] at HS
  rw [← hR]
  clear hR
  obtain ⟨fs', f', er⟩ := R
  go_enter Tryd.func88, Tryd.ntmps88
  go_wp2_with (first | (rw [← hwa, ← hp]; clear hwa hp; go_wp2_with fail) | (go_at_call 113; refine Calls.mono HS.out ?_; rintro e w5 ⟨A', n', cap', rfl, g5, hA', hrow⟩;  unfold diskV; have d0 : w5.cell? ⟨p + 1 + 1 + 1, 0, none⟩ = some (.slice none 0 0) := (HB4.out.gr g5).cell 0; have d1 : w5.cell? ⟨p + 1 + 1 + 1, 1, none⟩ = some (.int .i64 0) := (HB4.out.gr g5).cell 1; have f0 : w5.frozen? ⟨p + 1 + 1 + 1, 0, none⟩ = false := (HB4.out.gr g5).frozen 0; have f1 : w5.frozen? ⟨p + 1 + 1 + 1, 1, none⟩ = false := (HB4.out.gr g5).frozen 1))
  refine bodyPost_ret (results_blk_tmp rfl _ rfl (((HB4.out.gr g5).set_ 0 (.slice A' n' cap')).set_ 1 (.int .i64 f')) aggDisk) rfl ?_
  have hfin := StepPost.set2 (r := (fs', f', er)) (p := p + 1 + 1 + 1) HG4.out HB4.out.lt (by omega) g5 (.slice A' n' cap') (.int .i64 f') hrow
  exact ⟨A', n', cap', rfl, hfin.1, hA', hfin.2⟩
end Go.Proofs.YtmgpllakpgjicaaDoor

namespace Go.Proofs.YtmgpllakpgjicaaDoor
open Go.RowKit
set_option linter.unusedVariables false
/-- Delete, and the slice stored -/
theorem DOwn.del {w w3 : World} {B q n cap cap' i : Nat} {A A' : Option Addr} {u : Int} {fs : List Fl} (h : DOwn w B q A n cap u fs) (ho : w3.ownsRow B 89 3 (.slice A' (n - 1) cap') (n - 1) ((fs.eraseIdx i).flatMap fileC))
    (hgr : w.grownBy w3 (Value.ownBlock (.slice A n cap))) :
    Blk w3 q 43 #[.slice A n cap, .int .i64 u] ∧ DOwn (w3.setCell ⟨q, 0, none⟩ (.slice A' (n - 1) cap')) B q A' (n - 1) cap' u (fs.eraseIdx i) ∧ (∀ wc, wc.heap.size = B → Gr wc w → Gr wc (w3.setCell ⟨q, 0, none⟩ (.slice A' (n - 1) cap'))) := by
  have hb : Blk w3 q 43 #[.slice A n cap, .int .i64 u] := h.blk.grown hgr (Ne.symm h.ne)
  refine ⟨hb, ⟨hb.set_ 0 _, ownsRow_setCell_other ho (a := ⟨q, 0, none⟩) (own_blk_ne ho hb (by decide)) _, h.base⟩, fun wc hB hg => ?_⟩
  subst hB
  exact (Gr.grown hg hgr (fun k hk => (h.own.lt k hk).1)).setCell (p := ⟨q, 0, none⟩) h.base _
/-- P6.5 within the power -/
def rmF (name : List UInt8) (fs : List Fl) : List Fl × Int := if hasF name fs then (fs.eraseIdx (lbF name fs), 0) else (fs, 7)

set_option maxRecDepth 100000 in
set_option maxHeartbeats 4000000 in
theorem remove1_any (name : List UInt8) (c1 : Nat) (w0 : World) (h1 : w0.cell? ⟨c1, 0, none⟩ = some (.string (bs name))) :
    Steps 114 #[.pointer (some ⟨c1, 0, none⟩)] (rmF name) w0 := by
  intro wb w q A n cap u fs g0 gc hd hgf
  show Calls Tryd.prog 114 #[.pointer (some ⟨q, 0, none⟩), .pointer (some ⟨c1, 0, none⟩)] w _
  have hl := hd.len
  have hl400 : fs.length ≤ 400 := goodFs_len hgf
  have e1 : w.cell? ⟨c1, 0, none⟩ = some (.string (bs name)) := ((g0.trans gc).cells.1 c1 _ (World.block_lt_of_cell? w0 _ h1)).trans h1
  have HD := sec hd
  have HS := sec (goodFs_sorted hgf)
  have HGC := sec gc
  have HGF := sec hgf
  have d0 : w.cell? ⟨q, 0, none⟩ = some (.slice A n cap) := hd.blk.cell 0
  have d1 : w.cell? ⟨q, 1, none⟩ = some (.int .i64 u) := hd.blk.cell 1
  clear h1 g0 gc hd hgf
  obtain ⟨k, hk⟩ : ∃ k, k = lbF name fs := ⟨_, rfl⟩
  have HK := sec hk
  clear hk
  cases hB : hasF name fs with
  | false =>
    have HR : Sec (rmF name fs = (fs, 7)) := sec (by unfold rmF; rw [hB]; rfl)
    have HB := sec hB
    clear hB
    go_enter Tryd.func114, Tryd.ntmps114
    go_upto_region 1 with fail
    go_cut [4, 5] from 6 to 26 (fun v5 v6 wx => v5 = .int .i64 (k : Int) ∧ v6 = .bool false ∧ Gr w wx)
    case first =>
      go_region_with (go_at_call 86; refine (find_any fs name A n cap u w.drew (by omega) (FRow.gr (Row.own HD.out.own) (Gr.refl _).drew) HS.out).mono ?_; rw [← HK.out, HB.out]; rintro e w2 ⟨rfl, g2⟩)
      all_goals (go_wp2_with fail; go_meet; exact ⟨rfl, rfl, Gr.trans (Gr.refl _).drew g2⟩)
    case rest =>
      obtain ⟨rfl, rfl, gx⟩ := hcut
      go_wp2_with fail
      go_ret
      rw [HR.out]
      exact ⟨rfl, HGC.out.trans gx, fun h => by cases h⟩
  | true =>
    have hX := hasF_lt HS.out hB
    rw [← HK.out] at hX
    obtain ⟨hkl, hnm⟩ := hX
    have HB := sec hB
    clear hB
    go_enter Tryd.func114, Tryd.ntmps114
    go_upto_region 1 with fail
    go_cut [4, 5] from 6 to 26 (fun v5 v6 wx => v5 = .int .i64 (k : Int) ∧ v6 = .bool true ∧ Gr w wx)
    case first =>
      go_region_with (go_at_call 86; refine (find_any fs name A n cap u w.drew (by omega) (FRow.gr (Row.own HD.out.own) (Gr.refl _).drew) HS.out).mono ?_; rw [← HK.out, HB.out]; rintro e w2 ⟨rfl, g2⟩)
      all_goals (go_wp2_with fail; go_meet; exact ⟨rfl, rfl, Gr.trans (Gr.refl _).drew g2⟩)
    case rest =>
      obtain ⟨rfl, rfl, gx⟩ := hcut
      have HDz := sec (HD.out.gr gx)
      have gz : Gr wb wc := HGC.out.trans gx
      clear d0 d1 e1 HD gx
      have hk2 : (k : Int) < (n : Int) := by omega
      have d0z : wc.cell? ⟨q, 0, none⟩ = some (.slice A n cap) := HDz.out.blk.cell 0
      have HR : Sec (rmF name fs = (fs.eraseIdx k, 0)) := sec (by unfold rmF; rw [HB.out, if_pos rfl, ← HK.out])
      have HDE : Sec (Calls Tryd.prog 115 #[.slice A n cap, .int .i64 (k : Int), .int .i64 ((k : Int) + 1)] wc fun e w' =>
        e = .returned (.slice A (n - 1) cap) ∧ w'.ownsRow wb.heap.size 89 3 (.slice A (n - 1) cap) (n - 1) ((fs.eraseIdx k).flatMap fileC) ∧ wc.grownBy w' (Value.ownBlock (.slice A n cap))) := sec
        (delete_any A n cap k wb.heap.size fs wc HDz.out.own (by omega) (by omega))
      have hwr : IntKind.i64.wrap ((k : Int) + 1) = (k : Int) + 1 := IntWalk.i64_in _ (by omega)
      go_wp2_with (go_at_call 115; refine HDE.out.mono ?_; rintro e w3 ⟨rfl, ho, hgr⟩; obtain ⟨hb3, hd3, hg3⟩ := HDz.out.del ho hgr; have d0y : w3.cell? ⟨q, 0, none⟩ = some (.slice A n cap) := hb3.cell 0; have f0y : w3.frozen? ⟨q, 0, none⟩ = false := hb3.frozen 0)
      go_ret
      rw [HR.out]
      exact ⟨rfl, hg3 wb rfl gz, fun _ => ⟨_, _, _, hd3⟩⟩

set_option maxRecDepth 100000 in
set_option maxHeartbeats 4000000 in
theorem remove_any (name : List UInt8) (fs : List Fl) (A : Option Addr) (n cap : Nat) (f : Int) (w : World) (hn : n ≤ 1099511627776) (hx : FRow w A n fs) (hA : A = none → n = 0 ∧ cap = 0) (hs : ∀ f ∈ fs, f.1.length ≤ 1099511627776 ∧ f.2.1.length ≤ 1099511627776 ∧ f.2.2.length ≤ 1099511627776)
    (hf : -9223372036854775808 ≤ f ∧ f ≤ 9223372036854775807) :
    Calls Tryd.prog 87 #[diskV A n cap f, .string (bs name)] w (StepPost (stepR (rmF name) fs f) A n cap fs w) := by
  have g1 := (Gr.refl w).alloc (.cells #[.slice A n cap, .int .i64 f] 43)
  have g2 := g1.alloc (.cells #[.string (bs name)] 9)
  have g4 := g2.alloc (.cells #[.slice none 0 0, .int .i64 0] 43)
  have b1 := ((Blk.new w 43 #[.slice A n cap, .int .i64 f]).alloc (.cells #[.string (bs name)] 9)).alloc (.cells #[.slice none 0 0, .int .i64 0] 43)
  have b2 := (Blk.new1 w (.cells #[.slice A n cap, .int .i64 f] 43) 9 #[.string (bs name)]).alloc (.cells #[.slice none 0 0, .int .i64 0] 43)
  have b4 := Blk.newAt (w := ((w.alloc (.cells #[.slice A n cap, .int .i64 f] 43)).alloc (.cells #[.string (bs name)] 9))) (g := w.heap.size + 1 + 1) (by simp) 43 #[.slice none 0 0, .int .i64 0]
  obtain ⟨wa, hwa⟩ : ∃ x, x = (((w.alloc (.cells #[.slice A n cap, .int .i64 f] 43)).alloc (.cells #[.string (bs name)] 9))).alloc (.cells #[.slice none 0 0, .int .i64 0] 43) := ⟨_, rfl⟩
  rw [← hwa] at b1 b2 b4 g4
  obtain ⟨p, hp⟩ : ∃ p, p = w.heap.size := ⟨_, rfl⟩
  have hwp : w.heap.size ≤ p := by omega
  rw [← hp] at b1 b2 b4
  have c0 : wa.cell? ⟨p, 0, none⟩ = some (.slice A n cap) := b1.cell 0
  have c1 : wa.cell? ⟨p, 1, none⟩ = some (.int .i64 f) := b1.cell 1
  have HS := sec (step_any 114 #[.pointer (some ⟨p + 1, 0, none⟩)] (rmF name) (enters_own Tryd.func114 (by kernel_rfl) rfl) fs A n cap f wa hn (hx.gr g4) hA hs hf (remove1_any name (p + 1) wa (b2.cell 0)))
  have HB4 := sec b4
  have HG4 := sec g4
  clear hx hA hs g1 g2 g4 b1 b2 b4
  unfold diskV at HS
  unfold diskV
  have hmf : ∀ (fn : Fn) (first cap : Array Value) (w : World), (Instr.makeFunc fn first cap).run Tryd.prog w = .ok (.func fn first cap) w := fun _ _ _ _ => rfl
  obtain ⟨R, hR⟩ : ∃ R, R = stepR (rmF name) fs f := ⟨_, rfl⟩
  rw [← hR] at HS
  rw [← hR]
  clear hR
  obtain ⟨fs', f', er⟩ := R
  go_enter Tryd.func87, Tryd.ntmps87
  go_wp2_with (first | (rw [← hwa, ← hp]; clear hwa hp; go_wp2_with fail) | (go_at_call 113; refine Calls.mono HS.out ?_; rintro e w5 ⟨A', n', cap', rfl, g5, hA', hrow⟩;  unfold diskV; have d0 : w5.cell? ⟨p + 1 + 1, 0, none⟩ = some (.slice none 0 0) := (HB4.out.gr g5).cell 0; have d1 : w5.cell? ⟨p + 1 + 1, 1, none⟩ = some (.int .i64 0) := (HB4.out.gr g5).cell 1; have f0 : w5.frozen? ⟨p + 1 + 1, 0, none⟩ = false := (HB4.out.gr g5).frozen 0; have f1 : w5.frozen? ⟨p + 1 + 1, 1, none⟩ = false := (HB4.out.gr g5).frozen 1))
  refine bodyPost_ret (results_blk_tmp rfl _ rfl (((HB4.out.gr g5).set_ 0 (.slice A' n' cap')).set_ 1 (.int .i64 f')) aggDisk) rfl ?_
  have hfin := StepPost.set2 (r := (fs', f', er)) (p := p + 1 + 1) HG4.out HB4.out.lt (by omega) g5 (.slice A' n' cap') (.int .i64 f') hrow
  exact ⟨A', n', cap', rfl, hfin.1, hA', hfin.2⟩
end Go.Proofs.YtmgpllakpgjicaaDoor

namespace Go.Proofs.YtmgpllakpgjicaaDoor
open Go.RowKit
set_option linter.unusedVariables false
theorem SortedF.erase {fs : List Fl} (h : SortedF fs) (k : Nat) : SortedF (fs.eraseIdx k) := h.sublist (List.eraseIdx_sublist fs k)
def rnTo (dst : List UInt8) (f : Fl) (g : List Fl) : List Fl := if hasF dst g then g.set (lbF dst g) (dst, f.2) else insF (lbF dst g) (dst, f.2) g
/-- P6.4 within the power -/
def rnF (frm dst : List UInt8) (fs : List Fl) : List Fl × Int :=
  if namedB dst then
    (if hasF frm fs then (rnTo dst (fs.getD (lbF frm fs) ([], [], [])) (fs.eraseIdx (lbF frm fs)), 0) else (fs, 7))
  else (fs, 2)
theorem own_file3 {w : World} {B e n cap g : Nat} {fs : List Fl} (h : w.ownsRow B e 3 (.slice (some ⟨g, 0, none⟩) n cap) n (fs.flatMap fileC)) (i : Nat) (x : Fl) (nm sf tl : List UInt8) (hi : fs[i]? = some x) :
    (((w.setCell ⟨g, i * 3, none⟩ (.string (bs nm))).setCell ⟨g, i * 3 + 1, none⟩ (.string (bs sf))).setCell ⟨g, i * 3 + 2, none⟩ (.string (bs tl))).ownsRow B e 3 (.slice (some ⟨g, 0, none⟩) n cap) n ((fs.set i (nm, sf, tl)).flatMap fileC) := by
  obtain ⟨a, b, c⟩ := x
  obtain ⟨hl, hg⟩ := List.getElem?_eq_some_iff.1 hi
  have hfl : (fs.flatMap fileC).length = fs.length * 3 := flat_len fileC 3 (fun _ => rfl) fs
  have o1 := own_set h (i * 3 + 0) (by rw [hfl]; omega) (.string (bs nm))
  rw [flat_set fs i hl 0 (.string (bs nm)) (nm, b, c) (by omega) (by rw [hg]; rfl)] at o1
  have := own_file2 o1 i nm b c sf tl (by rw [List.getElem?_set_self hl])
  rw [List.set_set] at this
  exact this

set_option maxRecDepth 100000 in
set_option maxHeartbeats 4000000 in
theorem rename1_any (frm dst : List UInt8) (c1 c2 : Nat) (w0 : World) (h1 : w0.cell? ⟨c1, 0, none⟩ = some (.string (bs dst))) (h2 : w0.cell? ⟨c2, 0, none⟩ = some (.string (bs frm))) (hl1 : dst.length ≤ 1099511627776) :
    Steps 119 #[.pointer (some ⟨c1, 0, none⟩), .pointer (some ⟨c2, 0, none⟩)] (rnF frm dst) w0 := by
  intro wb w q A n cap u fs g0 gc hd hgf
  show Calls Tryd.prog 119 #[.pointer (some ⟨q, 0, none⟩), .pointer (some ⟨c1, 0, none⟩), .pointer (some ⟨c2, 0, none⟩)] w _
  have hl := hd.len
  have hl400 : fs.length ≤ 400 := goodFs_len hgf
  have HE1 : Sec (∀ W, Gr wb W → W.cell? ⟨c1, 0, none⟩ = some (.string (bs dst))) := sec (fun W g => ((g0.trans g).cells.1 c1 _ (World.block_lt_of_cell? w0 _ h1)).trans h1)
  have HE2 : Sec (∀ W, Gr wb W → W.cell? ⟨c2, 0, none⟩ = some (.string (bs frm))) := sec (fun W g => ((g0.trans g).cells.1 c2 _ (World.block_lt_of_cell? w0 _ h2)).trans h2)
  have HN := sec (fun w => named_any dst w (by omega))
  have HD := sec hd
  have HS := sec (goodFs_sorted hgf)
  have HGC := sec gc
  have HGF := sec hgf
  have e1 := HE1.out w gc
  clear h1 h2 g0 gc hd hgf
  cases hnb : namedB dst with
  | false =>
    have HR : Sec (rnF frm dst fs = (fs, 2)) := sec (by unfold rnF; rw [hnb]; rfl)
    rw [HR.out]
    rw [hnb] at HN
    go_enter Tryd.func119, Tryd.ntmps119
    go_wp2_with (go_at_call 85; refine (HN.out _).mono ?_; rintro e w1 ⟨rfl, g1⟩)
    go_ret
    exact ⟨rfl, HGC.out.trans g1, fun h => by cases h⟩
  | true =>
    rw [hnb] at HN
    have HNB := sec hnb
    clear hnb
    obtain ⟨k, hk⟩ : ∃ k, k = lbF frm fs := ⟨_, rfl⟩
    have HK := sec hk
    clear hk
    obtain ⟨B, hB⟩ : ∃ B, B = hasF frm fs := ⟨_, rfl⟩
    have HB := sec hB
    clear hB
    go_enter Tryd.func119, Tryd.ntmps119
    go_upto_region 3 with (go_at_call 85; refine (HN.out _).mono ?_; rintro e w1 ⟨rfl, g1⟩)
    have HD1 := sec (HD.out.gr g1)
    have d0 : w1.cell? ⟨q, 0, none⟩ = some (.slice A n cap) := HD1.out.blk.cell 0
    have d1 : w1.cell? ⟨q, 1, none⟩ = some (.int .i64 u) := HD1.out.blk.cell 1
    have e2y : w1.cell? ⟨c2, 0, none⟩ = some (.string (bs frm)) := HE2.out _ (HGC.out.trans g1)
    go_cut [5, 6] from 8 to 67 (fun v5 v6 wx => v5 = .int .i64 (k : Int) ∧ v6 = .bool B ∧ Gr w1 wx)
    case first =>
      go_region_with (go_at_call 86; refine (find_any fs frm A n cap u w1.drew (by omega) (FRow.gr (Row.own HD1.out.own) (Gr.refl _).drew) HS.out).mono ?_; rw [← HK.out, ← HB.out]; rintro e w2 ⟨rfl, g2⟩)
      all_goals (go_wp2_with fail; go_meet; exact ⟨rfl, rfl, Gr.trans (Gr.refl _).drew g2⟩)
    case rest =>
      obtain ⟨rfl, rfl, gx⟩ := hcut
      have HDx := sec (HD1.out.gr gx)
      have gcx : Gr wb wc := HGC.out.trans (g1.trans gx)
      clear d0 d1 e2y
      cases B with
      | false =>
        have HR : Sec (rnF frm dst fs = (fs, 7)) := sec (by unfold rnF; rw [HNB.out, if_pos rfl, ← HB.out]; rfl)
        go_wp2_with fail
        go_ret
        rw [HR.out]
        exact ⟨rfl, gcx, fun h => by cases h⟩
      | true =>
        have hX := hasF_lt HS.out HB.out.symm
        rw [← HK.out] at hX
        obtain ⟨hkl, hnm⟩ := hX
        have hk2 : (k : Int) < (n : Int) := by omega
        obtain ⟨b, rfl, hBb, hbq, z0, z1, z2, zf⟩ := HDx.out.at hkl
        have hget : fs[k]? = some fs[k] := List.getElem?_eq_getElem hkl
        have hgd : fs.getD (lbF frm fs) ([], [], []) = fs[k] := by
          rw [← HK.out, List.getD_eq_getElem?_getD, hget]; rfl
        obtain ⟨x, hxx⟩ : ∃ x, x = fs[k] := ⟨_, rfl⟩
        rw [← hxx] at z0 z1 z2 hget hgd
        obtain ⟨nm, sf, tl⟩ := x
        simp only at z0 z1 z2
        have HR : Sec (rnF frm dst fs = (rnTo dst (nm, sf, tl) (fs.eraseIdx k), 0)) := sec (by unfold rnF; rw [HNB.out, if_pos rfl, ← HB.out, if_pos rfl, hgd, ← HK.out])
        have hkn : k < n := by omega
        clear hxx hnm hkl zf hget hgd
        have d0z : wc.cell? ⟨q, 0, none⟩ = some (.slice (some ⟨b, 0, none⟩) n cap) := HDx.out.blk.cell 0
        have HDE : Sec (∀ W, Gr wc W → Calls Tryd.prog 115 #[.slice (some ⟨b, 0, none⟩) n cap, .int .i64 (k : Int), .int .i64 ((k : Int) + 1)] W fun e w' =>
          e = .returned (.slice (some ⟨b, 0, none⟩) (n - 1) cap) ∧ w'.ownsRow wb.heap.size 89 3 (.slice (some ⟨b, 0, none⟩) (n - 1) cap) (n - 1) ((fs.eraseIdx k).flatMap fileC) ∧ W.grownBy w' (Value.ownBlock (.slice (some ⟨b, 0, none⟩) n cap))) := sec
          (fun W g => delete_any (some ⟨b, 0, none⟩) n cap k wb.heap.size fs W (HDx.out.gr g).own hkn (by omega))
        have hwr : IntKind.i64.wrap ((k : Int) + 1) = (k : Int) + 1 := IntWalk.i64_in _ (by omega)
        clear hkn
        have e1x : wc.cell? ⟨c1, 0, none⟩ = some (.string (bs dst)) := HE1.out _ gcx
        have e1w : (wc.alloc (.cells #[.string (bs nm), .string (bs sf), .string (bs tl)] 89)).cell? ⟨c1, 0, none⟩ = some (.string (bs dst)) := HE1.out _ (gcx.alloc _)
        have d0w : (wc.alloc (.cells #[.string (bs dst), .string (bs sf), .string (bs tl)] 89)).cell? ⟨q, 0, none⟩ = some (.slice (some ⟨b, 0, none⟩) n cap) := (HDx.out.blk.alloc _).cell 0
        have HFB : Sec (∀ w3, (wc.alloc (.cells #[.string (bs dst), .string (bs sf), .string (bs tl)] 89)).grownBy w3 (Value.ownBlock (.slice (some ⟨b, 0, none⟩) n cap)) → Blk w3 wc.heap.size 89 #[.string (bs dst), .string (bs sf), .string (bs tl)]) := sec (fun w3 hgr =>
          (Blk.new wc _ _).grown hgr (fun e => by have := (HDx.out.own.lt _ e.symm).2; omega))
        have HDA := sec (HDx.out.gr ((Gr.refl wc).alloc (.cells #[.string (bs dst), .string (bs sf), .string (bs tl)] 89)))
        have hqr : q < wc.heap.size := HDx.out.blk.lt
        go_upto_region 9 with (go_at_call 115; refine (HDE.out _ ((Gr.refl wc).alloc _)).mono ?_; rintro e w3 ⟨rfl, ho, hgr⟩; obtain ⟨hb3, hd3, hg3⟩ := HDA.out.del ho hgr; have d0y : w3.cell? ⟨q, 0, none⟩ = some (.slice (some ⟨b, 0, none⟩) n cap) := hb3.cell 0; have f0y : w3.frozen? ⟨q, 0, none⟩ = false := hb3.frozen 0)
        have hf6 := (HFB.out w3 hgr).far (p := ⟨q, 0, none⟩) (by show wc.heap.size ≠ q; omega) (.slice (some ⟨b, 0, none⟩) (n - 1) cap)
        have g6 := hg3 wb rfl (gcx.alloc _)
        obtain ⟨w6, hw6⟩ : ∃ x, x = w3.setCell ⟨q, 0, none⟩ (.slice (some ⟨b, 0, none⟩) (n - 1) cap) := ⟨_, rfl⟩
        obtain ⟨r, hr⟩ : ∃ r, r = wc.heap.size := ⟨_, rfl⟩
        rw [← hw6, ← hr] at hf6
        rw [← hw6] at hd3 g6
        rw [← hw6, ← hr]
        have HD6 := sec hd3
        have HF6 := sec hf6
        have HG6 := sec g6
        have hrb : wb.heap.size ≤ r := by have := gcx.size; omega
        clear hw6 hr hf6 hd3 g6 hg3 hb3 d0y f0y ho hgr HDE HFB HDA d0w e1w e1x d0z z0 z1 z2 hqr
        obtain ⟨m, hm⟩ : ∃ m, m = n - 1 := ⟨_, rfl⟩
        rw [← hm] at HD6
        rw [← hm]
        have hm400 : m ≤ 400 := by omega
        clear hm
        obtain ⟨g, hg⟩ : ∃ g, g = fs.eraseIdx k := ⟨_, rfl⟩
        have HSE : Sec (SortedF g) := sec (by rw [hg]; exact HS.out.erase k)
        rw [← hg] at HD6 HR
        clear hg
        obtain ⟨k2, hk2⟩ : ∃ k2, k2 = lbF dst g := ⟨_, rfl⟩
        obtain ⟨B2, hB2⟩ : ∃ B2, B2 = hasF dst g := ⟨_, rfl⟩
        have HK2 := sec hk2
        have HB2 := sec hB2
        have hgl := HD6.out.len
        clear hk2 hB2
        have d06 : w6.cell? ⟨q, 0, none⟩ = some (.slice (some ⟨b, 0, none⟩) m cap) := HD6.out.blk.cell 0
        have d16 : w6.cell? ⟨q, 1, none⟩ = some (.int .i64 u) := HD6.out.blk.cell 1
        have e16 : w6.cell? ⟨c1, 0, none⟩ = some (.string (bs dst)) := HE1.out _ HG6.out
        go_cut [5, 6] from 8 to 67 (fun v5 v6 wx => v5 = .int .i64 (k2 : Int) ∧ v6 = .bool B2 ∧ Gr w6 wx)
        case first =>
          go_region_with (go_at_call 86; refine (find_any g dst (some ⟨b, 0, none⟩) m cap u w6.drew (by omega) (FRow.gr (Row.own HD6.out.own) (Gr.refl _).drew) HSE.out).mono ?_; rw [← HK2.out, ← HB2.out]; rintro e w2 ⟨rfl, g2⟩)
          all_goals (go_wp2_with fail; go_meet; exact ⟨rfl, rfl, Gr.trans (Gr.refl _).drew g2⟩)
        case rest =>
          obtain ⟨rfl, rfl, gy⟩ := hcut
          clear d06 d16 e16
          have HDz := sec (HD6.out.gr gy)
          have HFz := sec (HF6.out.gr gy)
          have gz : Gr wb wc := HG6.out.trans gy
          have f0 : wc.cell? ⟨r, 0, none⟩ = some (.string (bs dst)) := HFz.out.cell 0
          have f1 : wc.cell? ⟨r, 1, none⟩ = some (.string (bs sf)) := HFz.out.cell 1
          have f2 : wc.cell? ⟨r, 2, none⟩ = some (.string (bs tl)) := HFz.out.cell 2
          have d0v : wc.cell? ⟨q, 0, none⟩ = some (.slice (some ⟨b, 0, none⟩) m cap) := HDz.out.blk.cell 0
          have dfv : wc.frozen? ⟨q, 0, none⟩ = false := HDz.out.blk.frozen 0
          cases B2 with
          | true =>
            have hX := hasF_lt HSE.out HB2.out.symm
            rw [← HK2.out] at hX
            obtain ⟨hkl2, hnm2⟩ := hX
            have hk4 : (k2 : Int) < (m : Int) := by omega
            obtain ⟨b2, hbe, _, _, z0, z1, z2, zf⟩ := HDz.out.at hkl2
            injection hbe with hbe
            injection hbe with hbe
            subst hbe
            have zf0 : wc.frozen? ⟨b, k2 * 3, none⟩ = false := zf 0 (by omega)
            have zf1 : wc.frozen? ⟨b, k2 * 3 + 1, none⟩ = false := zf 1 (by omega)
            have zf2 : wc.frozen? ⟨b, k2 * 3 + 2, none⟩ = false := zf 2 (by omega)
            have HR2 : Sec (rnTo dst (nm, sf, tl) g = g.set k2 (dst, sf, tl)) := sec (by unfold rnTo; rw [← HB2.out, if_pos rfl, ← HK2.out])
            go_wp2_with fail
            go_region
            go_wp2_with fail
            go_ret
            rw [HR.out, HR2.out]
            have hget2 : g[k2]? = some g[k2] := List.getElem?_eq_getElem hkl2
            have hd9 : DOwn (((wc.setCell ⟨b, k2 * 3, none⟩ (.string (bs dst))).setCell ⟨b, k2 * 3 + 1, none⟩ (.string (bs sf))).setCell ⟨b, k2 * 3 + 2, none⟩ (.string (bs tl))) wb.heap.size q (some ⟨b, 0, none⟩) m cap u (g.set k2 (dst, sf, tl)) :=
              ⟨((HDz.out.blk.far (p := ⟨b, k2 * 3, none⟩) (Ne.symm hbq) _).far (p := ⟨b, k2 * 3 + 1, none⟩) (Ne.symm hbq) _).far (p := ⟨b, k2 * 3 + 2, none⟩) (Ne.symm hbq) _, own_file3 HDz.out.own k2 _ dst sf tl hget2, HDz.out.base⟩
            exact ⟨rfl, (((gz.setCell (p := ⟨b, k2 * 3, none⟩) hBb _).setCell (p := ⟨b, k2 * 3 + 1, none⟩) hBb _).setCell (p := ⟨b, k2 * 3 + 2, none⟩) hBb _).drew, fun _ => ⟨_, _, _, hd9.gr (Gr.refl _).drew⟩⟩
          | false =>
            have hkn2 : k2 ≤ m := by rw [HK2.out, ← hgl]; exact lbF_le dst g
            have HINS : Sec (Calls Tryd.prog 117 #[.slice (some ⟨b, 0, none⟩) m cap, .int .i64 (k2 : Int), .slice (some ⟨wc.heap.size, 0, none⟩) 1 1] (wc.alloc (.cells #[.string (bs dst), .string (bs sf), .string (bs tl)] 89)).drew fun e w' =>
              ∃ A' cap', e = .returned (.slice A' (m + 1) cap') ∧ w'.ownsRow wb.heap.size 89 3 (.slice A' (m + 1) cap') (m + 1) ((insF k2 (dst, sf, tl) g).flatMap fileC) ∧ (wc.alloc (.cells #[.string (bs dst), .string (bs sf), .string (bs tl)] 89)).drew.grownBy w' (Value.ownBlock (.slice (some ⟨b, 0, none⟩) m cap))) := sec (by
              refine insert_any (some ⟨b, 0, none⟩) m cap k2 wc.heap.size 1 wb.heap.size g (dst, sf, tl) _ (own_gr HDz.out.own ((Gr.refl wc).alloc _).drew) hkn2 (by omega) ((Blk.new wc _ _).gr (Gr.refl _).drew) (fun h => ?_) ?_
              · have := (HDz.out.own.lt _ h).2; omega
              · have := gz.size; have := (((Gr.refl wc).alloc (.cells #[.string (bs dst), .string (bs sf), .string (bs tl)] 89)).drew).size; omega)
            have HI : Sec (∀ (A' : Option Addr) (cap' : Nat) (w3 : World) (o : Obj), w3.ownsRow wb.heap.size 89 3 (.slice A' (m + 1) cap') (m + 1) ((insF k2 (dst, sf, tl) g).flatMap fileC) → (wc.alloc o).drew.grownBy w3 (Value.ownBlock (.slice (some ⟨b, 0, none⟩) m cap)) →
              w3.cell? ⟨q, 0, none⟩ = some (.slice (some ⟨b, 0, none⟩) m cap) ∧ w3.frozen? ⟨q, 0, none⟩ = false ∧ Sec (DOwn (w3.setCell ⟨q, 0, none⟩ (.slice A' (m + 1) cap')) wb.heap.size q A' (m + 1) cap' u (insF k2 (dst, sf, tl) g) ∧ Gr wb (w3.setCell ⟨q, 0, none⟩ (.slice A' (m + 1) cap')))) := sec (fun A' cap' w3 o ho hgr => by
                obtain ⟨x1, x2, x3⟩ := HDz.out.ins ho hgr
                exact ⟨x1.cell 0, x1.frozen 0, sec ⟨x2, x3 wb rfl gz⟩⟩)
            have HR2 : Sec (rnTo dst (nm, sf, tl) g = insF k2 (dst, sf, tl) g) := sec (by unfold rnTo; rw [← HB2.out, ← HK2.out]; rfl)
            have d0w : (wc.alloc (.cells #[.string (bs dst), .string (bs sf), .string (bs tl)] 89)).cell? ⟨q, 0, none⟩ = some (.slice (some ⟨b, 0, none⟩) m cap) := (HDz.out.blk.alloc _).cell 0
            clear hkn2
            go_wp2_with fail
            go_region_with (go_at_call 117; refine HINS.out.mono ?_; rintro e w3 ⟨A', cap', rfl, ho, hgr⟩; obtain ⟨d0z, f0z, hend⟩ := HI.out A' cap' w3 _ ho hgr)
            all_goals (go_wp2_with fail; go_ret; rw [HR.out, HR2.out]; exact ⟨rfl, hend.out.2, fun _ => ⟨_, _, _, hend.out.1⟩⟩)

set_option maxRecDepth 100000 in
set_option maxHeartbeats 4000000 in
theorem rename_any (frm dst : List UInt8) (fs : List Fl) (A : Option Addr) (n cap : Nat) (f : Int) (w : World) (hn : n ≤ 1099511627776) (hx : FRow w A n fs) (hA : A = none → n = 0 ∧ cap = 0) (hs : ∀ f ∈ fs, f.1.length ≤ 1099511627776 ∧ f.2.1.length ≤ 1099511627776 ∧ f.2.2.length ≤ 1099511627776)
    (hf : -9223372036854775808 ≤ f ∧ f ≤ 9223372036854775807) (hl2 : dst.length ≤ 1099511627776) :
    Calls Tryd.prog 90 #[diskV A n cap f, .string (bs frm), .string (bs dst)] w (StepPost (stepR (rnF frm dst) fs f) A n cap fs w) := by
  have g1 := (Gr.refl w).alloc (.cells #[.slice A n cap, .int .i64 f] 43)
  have g2 := g1.alloc (.cells #[.string (bs frm)] 9)
  have g3 := g2.alloc (.cells #[.string (bs dst)] 9)
  have g4 := g3.alloc (.cells #[.slice none 0 0, .int .i64 0] 43)
  have b1 := (((Blk.new w 43 #[.slice A n cap, .int .i64 f]).alloc (.cells #[.string (bs frm)] 9)).alloc (.cells #[.string (bs dst)] 9)).alloc (.cells #[.slice none 0 0, .int .i64 0] 43)
  have b2 := ((Blk.new1 w (.cells #[.slice A n cap, .int .i64 f] 43) 9 #[.string (bs frm)]).alloc (.cells #[.string (bs dst)] 9)).alloc (.cells #[.slice none 0 0, .int .i64 0] 43)
  have b3 := (Blk.new2 w (.cells #[.slice A n cap, .int .i64 f] 43) (.cells #[.string (bs frm)] 9) 9 #[.string (bs dst)]).alloc (.cells #[.slice none 0 0, .int .i64 0] 43)
  have b4 := Blk.newAt (w := ((w.alloc (.cells #[.slice A n cap, .int .i64 f] 43)).alloc (.cells #[.string (bs frm)] 9)).alloc (.cells #[.string (bs dst)] 9)) (g := w.heap.size + 1 + 1 + 1) (by simp) 43 #[.slice none 0 0, .int .i64 0]
  obtain ⟨wa, hwa⟩ : ∃ x, x = (((w.alloc (.cells #[.slice A n cap, .int .i64 f] 43)).alloc (.cells #[.string (bs frm)] 9)).alloc (.cells #[.string (bs dst)] 9)).alloc (.cells #[.slice none 0 0, .int .i64 0] 43) := ⟨_, rfl⟩
  rw [← hwa] at b1 b2 b3 b4 g4
  obtain ⟨p, hp⟩ : ∃ p, p = w.heap.size := ⟨_, rfl⟩
  have hwp : w.heap.size ≤ p := by omega
  rw [← hp] at b1 b2 b3 b4
  have c0 : wa.cell? ⟨p, 0, none⟩ = some (.slice A n cap) := b1.cell 0
  have c1 : wa.cell? ⟨p, 1, none⟩ = some (.int .i64 f) := b1.cell 1
  have HS := sec (step_any 119 #[.pointer (some ⟨p + 1 + 1, 0, none⟩), .pointer (some ⟨p + 1, 0, none⟩)] (rnF frm dst) (enters_own Tryd.func119 (by kernel_rfl) rfl) fs A n cap f wa hn (hx.gr g4) hA hs hf (rename1_any frm dst (p + 1 + 1) (p + 1) wa (b3.cell 0) (b2.cell 0) hl2))
  have HB4 := sec b4
  have HG4 := sec g4
  clear hx hA hs g1 g2 g3 g4 b1 b2 b3 b4
  unfold diskV at HS
  unfold diskV
  have hmf : ∀ (fn : Fn) (first cap : Array Value) (w : World), (Instr.makeFunc fn first cap).run Tryd.prog w = .ok (.func fn first cap) w := fun _ _ _ _ => rfl
  obtain ⟨R, hR⟩ : ∃ R, R = stepR (rnF frm dst) fs f := ⟨_, rfl⟩
  rw [← hR] at HS
  rw [← hR]
  clear hR
  obtain ⟨fs', f', er⟩ := R
  go_enter Tryd.func90, Tryd.ntmps90
  go_wp2_with (first | (rw [← hwa, ← hp]; clear hwa hp; go_wp2_with fail) | (go_at_call 113; refine Calls.mono HS.out ?_; rintro e w5 ⟨A', n', cap', rfl, g5, hA', hrow⟩;  unfold diskV; have d0 : w5.cell? ⟨p + 1 + 1 + 1, 0, none⟩ = some (.slice none 0 0) := (HB4.out.gr g5).cell 0; have d1 : w5.cell? ⟨p + 1 + 1 + 1, 1, none⟩ = some (.int .i64 0) := (HB4.out.gr g5).cell 1; have f0 : w5.frozen? ⟨p + 1 + 1 + 1, 0, none⟩ = false := (HB4.out.gr g5).frozen 0; have f1 : w5.frozen? ⟨p + 1 + 1 + 1, 1, none⟩ = false := (HB4.out.gr g5).frozen 1))
  refine bodyPost_ret (results_blk_tmp rfl _ rfl (((HB4.out.gr g5).set_ 0 (.slice A' n' cap')).set_ 1 (.int .i64 f')) aggDisk) rfl ?_
  have hfin := StepPost.set2 (r := (fs', f', er)) (p := p + 1 + 1 + 1) HG4.out HB4.out.lt (by omega) g5 (.slice A' n' cap') (.int .i64 f') hrow
  exact ⟨A', n', cap', rfl, hfin.1, hA', hfin.2⟩
end Go.Proofs.YtmgpllakpgjicaaDoor

namespace Go.Proofs.YtmgpllakpgjicaaDoor
open Go.RowKit
set_option linter.unusedVariables false
def putStep (f : Fl) (st : List Fl × Bool) (x : Fl) : List Fl × Bool :=
  if x.1 == f.1 then st else if (!st.2 && ltB f.1 x.1) then (st.1 ++ [f] ++ [x], true) else (st.1 ++ [x], st.2)
def putGo (f : Fl) (l : List Fl) : List Fl × Bool := l.foldl (putStep f) ([], false)
def putF (f : Fl) (l : List Fl) : List Fl := if (putGo f l).2 then (putGo f l).1 else (putGo f l).1 ++ [f]
theorem putGo_succ (f : Fl) (l : List Fl) (i : Nat) (h : i < l.length) : putGo f (l.take (i + 1)) = putStep f (putGo f (l.take i)) l[i] := by
  unfold putGo
  rw [List.take_succ_eq_append_getElem h, List.foldl_append]
  rfl
theorem putStep_len (f : Fl) (st : List Fl × Bool) (x : Fl) : (putStep f st x).1.length ≤ st.1.length + 2 := by
  unfold putStep
  split
  · omega
  · split <;> simp

set_option maxRecDepth 100000 in
set_option maxHeartbeats 4000000 in
theorem put_any (l : List Fl) (fn sf tl : List UInt8) (A : Option Addr) (n cap : Nat) (w : World) (hn : n ≤ 1099511627776) (hx : FRow w A n l) :
    Calls Tryd.prog 120 #[.slice A n cap, .agg #[.string (bs fn), .string (bs sf), .string (bs tl)]] w fun e w' =>
      ∃ A' n' cap', e = .returned (.slice A' n' cap') ∧ w'.ownsRow w.heap.size 89 3 (.slice A' n' cap') n' ((putF (fn, sf, tl) l).flatMap fileC) ∧ Gr w w' := by
  have hl := hx.len
  have hg0 := (Gr.refl w).alloc (.cells #[.string (bs fn), .string (bs sf), .string (bs tl)] 89)
  have hb1 := Blk.new w 89 #[.string (bs fn), .string (bs sf), .string (bs tl)]
  have hx1 := hx.gr hg0
  go_enter Tryd.func120, Tryd.ntmps120
  go_wp2_with fail
  obtain ⟨wa, hwa⟩ : ∃ x, x = w.alloc (.cells #[.string (bs fn), .string (bs sf), .string (bs tl)] 89) := ⟨_, rfl⟩
  obtain ⟨p, hp⟩ : ∃ p, p = w.heap.size := ⟨_, rfl⟩
  rw [← hwa] at hg0 hb1 hx1
  rw [← hp] at hb1
  rw [← hwa, ← hp]
  have HX := sec hx1
  have HB := sec hb1
  have hwp : w.heap.size ≤ p := by omega
  have HO : Sec (wa.ownsRow wa.heap.size 89 3 (.slice none 0 0) 0 ((putGo (fn, sf, tl) (l.take 0)).1.flatMap fileC)) := sec (World.ownsRow_nil _ _ _ _)
  clear hwa hp hx hx1 hb1
  go_loopw [11, 5, 6, 8] (fun iv v5 v6 _ wr => ∃ (i n1 k1 : Nat) (A1 : Option Addr) (dn : Bool), iv = .int .i64 (i : Int) ∧ v5 = .slice A1 n1 k1 ∧ v6 = .bool dn ∧ i ≤ n ∧ n1 ≤ 2 * i ∧ Sec (dn = (putGo (fn, sf, tl) (l.take i)).2) ∧ Sec (wr.ownsRow wa.heap.size 89 3 (.slice A1 n1 k1) n1 ((putGo (fn, sf, tl) (l.take i)).1.flatMap fileC)) ∧ Gr wa wr) (fun iv _ _ _ _ => n - (intOf iv).toNat)
  case atStart => exact ⟨0, 0, 0, none, false, rfl, rfl, rfl, by omega, by omega, sec rfl, HO, Gr.refl _⟩
  case round =>
    clear HO
    obtain ⟨i, n1, k1, A1, dn, rfl, rfl, rfl, hi, hn1, HDN, HOw, hg⟩ := hrel
    by_cases hlt : i < n
    · have hif : i < l.length := by omega
      have hii : (i : Int) < (n : Int) := by omega
      obtain ⟨b, off, rfl, e0, e1, e2⟩ := (HX.out.gr hg).cell hif
      have HSU := sec (putGo_succ (fn, sf, tl) l i hif)
      obtain ⟨x, hxx⟩ : ∃ x, x = l[i] := ⟨_, rfl⟩
      rw [← hxx] at e0 e1 e2 HSU
      clear hxx hif
      obtain ⟨nm, s1, t1⟩ := x
      simp only at e0 e1 e2 HSU
      have f0 : (wr.alloc (.cells #[.string (bs nm), .string (bs s1), .string (bs t1)] 89)).cell? ⟨p, 0, none⟩ = some (.string (bs fn)) := (HB.out.gr (hg.alloc _)).cell 0
      have f1 : (wr.alloc (.cells #[.string (bs nm), .string (bs s1), .string (bs t1)] 89)).cell? ⟨p, 1, none⟩ = some (.string (bs sf)) := (HB.out.gr (hg.alloc _)).cell 1
      have f2 : (wr.alloc (.cells #[.string (bs nm), .string (bs s1), .string (bs t1)] 89)).cell? ⟨p, 2, none⟩ = some (.string (bs tl)) := (HB.out.gr (hg.alloc _)).cell 2
      have hnb : n1 ≤ 2199023255552 := by omega
      have hb1 : (n1 + 1) * 48 ≤ 140737488355328 := Nat.le_trans (Nat.mul_le_mul_right 48 (Nat.succ_le_succ hnb)) (by decide)
      have HM2 : Sec (n1 + 1 ≤ maxLen) := sec (Nat.le_trans (Nat.succ_le_succ hnb) (by decide))
      have hb3 : (n1 + 1 + 1) * 48 ≤ 140737488355328 := Nat.le_trans (Nat.mul_le_mul_right 48 (Nat.succ_le_succ (Nat.succ_le_succ hnb))) (by decide)
      have HM4 : Sec (n1 + 1 + 1 ≤ maxLen) := sec (Nat.le_trans (Nat.succ_le_succ (Nat.succ_le_succ hnb)) (by decide))
      have hws := hg.size
      cases hb : nm == fn with
      | true =>
        have HS2 : Sec (putGo (fn, sf, tl) (l.take (i + 1)) = putGo (fn, sf, tl) (l.take i)) := sec (by rw [HSU.out]; unfold putStep; rw [if_pos hb])
        go_wp2_with fail
        go_roundw
        case rel => exact ⟨i + 1, n1, k1, A1, dn, by go_num, rfl, rfl, by omega, by omega, by rw [HS2.out]; exact HDN, by rw [HS2.out]; exact sec (own_gr HOw.out ((Gr.refl _).alloc _)), hg.alloc _⟩
        case measure => simp [intOf]; omega
      | false =>
        by_cases hdl : (!dn && ltB fn nm) = true
        · have HS2 : Sec (putGo (fn, sf, tl) (l.take (i + 1)) = ((putGo (fn, sf, tl) (l.take i)).1 ++ [(fn, sf, tl)] ++ [(nm, s1, t1)], true)) := sec (by rw [HSU.out]; unfold putStep; rw [if_neg (by rw [hb]; decide), ← HDN.out, if_pos hdl])
          rw [Bool.and_eq_true] at hdl
          obtain ⟨hd0, hlt1⟩ := hdl
          obtain rfl : dn = false := by cases dn <;> simp_all
          have q1 : Op.bytesLess nm fn = false := ltB_asym hlt1
          have HXB : Sec (∀ w2, ((wr.alloc (.cells #[.string (bs nm), .string (bs s1), .string (bs t1)] 89)).alloc (.cells #[.string (bs fn), .string (bs sf), .string (bs tl)] 89)).grownBy w2 (Value.ownBlock (.slice A1 n1 k1)) → Blk w2 wr.heap.size 89 #[.string (bs nm), .string (bs s1), .string (bs t1)]) := sec (fun w2 hgn =>
            ((Blk.new wr 89 #[.string (bs nm), .string (bs s1), .string (bs t1)]).alloc _).grown hgn (fun e => by have := (HOw.out.lt _ e.symm).2; omega))
          have HO2 := HOw
          clear hd0 hlt1 hlt
          go_wp2_with (first
            | (refine wpList_append_row E.file rfl (.tmp 29) (.tmp 31) rfl (B := wa.heap.size) (A0 := A1) (n0 := n1) (cap0 := k1) rfl (own_gr HOw.out (((Gr.refl wr).alloc _).alloc _)) rfl (Row.lit (Blk.new1 wr _ 89 #[.string (bs fn), .string (bs sf), .string (bs tl)])) (by intro h; cases h) (by intro u hu; simp at hu; rcases hu with rfl | rfl | rfl <;> rfl) hb1 HM2.out (by simp; omega) ?_; intro A2 k2 w2 hown hgn; have hx2 := HXB.out w2 hgn; have y0 : w2.cell? ⟨wr.heap.size, 0, none⟩ = some (.string (bs nm)) := hx2.cell 0; have y1 : w2.cell? ⟨wr.heap.size, 1, none⟩ = some (.string (bs s1)) := hx2.cell 1; have y2 : w2.cell? ⟨wr.heap.size, 2, none⟩ = some (.string (bs t1)) := hx2.cell 2; have hw2 := hgn.size; simp at hw2)
            | (refine wpList_append_row E.file rfl (.tmp 33) (.tmp 35) rfl (B := wa.heap.size) (A0 := A2) (n0 := n1 + 1) (cap0 := k2) rfl (own_gr hown ((Gr.refl w2).alloc _)) rfl (Row.lit (Blk.new w2 89 #[.string (bs nm), .string (bs s1), .string (bs t1)])) (by intro h; cases h) (by intro u hu; simp at hu; rcases hu with rfl | rfl | rfl <;> rfl) hb3 HM4.out (by simp; omega) ?_; intro A3 k3 w3 hown3 hgn3))
          go_roundw
          case rel =>
            refine ⟨i + 1, n1 + 1 + 1, k3, A3, true, by go_num, rfl, rfl, by omega, by omega, by rw [HS2.out]; exact sec rfl, ?_, ?_⟩
            · rw [HS2.out]
              simp only [List.flatMap_append, List.flatMap_cons, List.flatMap_nil, List.append_nil]
              exact sec hown3
            · exact Gr.grown ((Gr.grown ((hg.alloc _).alloc _) hgn (fun k hk => (HOw.out.lt k hk).1)).alloc _) hgn3 (fun k hk => (hown.lt k hk).1)
          case measure => simp [intOf]; omega
        · have HS2 : Sec (putGo (fn, sf, tl) (l.take (i + 1)) = ((putGo (fn, sf, tl) (l.take i)).1 ++ [(nm, s1, t1)], dn)) := sec (by rw [HSU.out]; unfold putStep; rw [if_neg (by rw [hb]; decide), ← HDN.out, if_neg hdl])
          have q1 : dn = false → Op.bytesLess nm fn = true := fun hd => by
            cases h : Op.bytesLess nm fn with
            | true => rfl
            | false =>
              exfalso
              have h2 : ltB fn nm = false := by cases h3 : ltB fn nm with
                | false => rfl
                | true => exact absurd (by rw [hd, h3]; rfl) hdl
              have := ltB_tri nm fn h h2
              rw [this] at hb
              simp at hb
          have QQ := sec q1
          clear hdl q1 hlt
          cases dn with
          | true =>
            go_wp2_with (refine wpList_append_row E.file rfl (.tmp 33) (.tmp 35) rfl (B := wa.heap.size) (A0 := A1) (n0 := n1) (cap0 := k1) rfl (own_gr HOw.out (((Gr.refl wr).alloc _).alloc _)) rfl (Row.lit (Blk.new1 wr _ 89 #[.string (bs nm), .string (bs s1), .string (bs t1)])) (by intro h; cases h) (by intro u hu; simp at hu; rcases hu with rfl | rfl | rfl <;> rfl) hb1 HM2.out (by simp; omega) ?_; intro A2 k2 w2 hown hgn)
            go_roundw
            case rel =>
              refine ⟨i + 1, n1 + 1, k2, A2, true, by go_num, rfl, rfl, by omega, by omega, by rw [HS2.out]; exact sec rfl, ?_, ?_⟩
              · rw [HS2.out]
                simp only [List.flatMap_append, List.flatMap_cons, List.flatMap_nil, List.append_nil]
                exact sec hown
              · exact Gr.grown ((hg.alloc _).alloc _) hgn (fun k hk => (HOw.out.lt k hk).1)
            case measure => simp [intOf]; omega
          | false =>
            have q1 : Op.bytesLess nm fn = true := QQ.out rfl
            go_wp2_with (refine wpList_append_row E.file rfl (.tmp 33) (.tmp 35) rfl (B := wa.heap.size) (A0 := A1) (n0 := n1) (cap0 := k1) rfl (own_gr HOw.out (((Gr.refl wr).alloc _).alloc _)) rfl (Row.lit (Blk.new1 wr _ 89 #[.string (bs nm), .string (bs s1), .string (bs t1)])) (by intro h; cases h) (by intro u hu; simp at hu; rcases hu with rfl | rfl | rfl <;> rfl) hb1 HM2.out (by simp; omega) ?_; intro A2 k2 w2 hown hgn)
            go_roundw
            case rel =>
              refine ⟨i + 1, n1 + 1, k2, A2, false, by go_num, rfl, rfl, by omega, by omega, by rw [HS2.out]; exact sec rfl, ?_, ?_⟩
              · rw [HS2.out]
                simp only [List.flatMap_append, List.flatMap_cons, List.flatMap_nil, List.append_nil]
                exact sec hown
              · exact Gr.grown ((hg.alloc _).alloc _) hgn (fun k hk => (HOw.out.lt k hk).1)
            case measure => simp [intOf]; omega
    · obtain rfl : i = n := by omega
      have HT : Sec (putGo (fn, sf, tl) (l.take i) = putGo (fn, sf, tl) l) := sec (by rw [show l.take i = l from List.take_of_length_le (by omega)])
      rw [HT.out] at HDN HOw
      have f0 : wr.cell? ⟨p, 0, none⟩ = some (.string (bs fn)) := (HB.out.gr hg).cell 0
      have f1 : wr.cell? ⟨p, 1, none⟩ = some (.string (bs sf)) := (HB.out.gr hg).cell 1
      have f2 : wr.cell? ⟨p, 2, none⟩ = some (.string (bs tl)) := (HB.out.gr hg).cell 2
      have hnb : n1 ≤ 2199023255552 := by omega
      have hb1 : (n1 + 1) * 48 ≤ 140737488355328 := Nat.le_trans (Nat.mul_le_mul_right 48 (Nat.succ_le_succ hnb)) (by decide)
      have HM2 : Sec (n1 + 1 ≤ maxLen) := sec (Nat.le_trans (Nat.succ_le_succ hnb) (by decide))
      have hws := hg.size
      clear hlt hi
      cases dn with
      | true =>
        have HPF : Sec (putF (fn, sf, tl) l = (putGo (fn, sf, tl) l).1) := sec (by unfold putF; rw [← HDN.out]; rfl)
        go_wp2_with fail
        go_ret
        rw [HPF.out]
        exact ⟨A1, n1, k1, rfl, own_low HOw.out hg0.size, hg0.trans hg⟩
      | false =>
        have HPF : Sec (putF (fn, sf, tl) l = (putGo (fn, sf, tl) l).1 ++ [(fn, sf, tl)]) := sec (by unfold putF; rw [← HDN.out]; rfl)
        go_wp2_with (refine wpList_append_row E.file rfl (.tmp 40) (.tmp 42) rfl (B := wa.heap.size) (A0 := A1) (n0 := n1) (cap0 := k1) rfl (own_gr HOw.out ((Gr.refl wr).alloc _)) rfl (Row.lit (Blk.new wr 89 #[.string (bs fn), .string (bs sf), .string (bs tl)])) (by intro h; cases h) (by intro u hu; simp at hu; rcases hu with rfl | rfl | rfl <;> rfl) hb1 HM2.out (by simp; omega) ?_; intro A2 k2 w2 hown hgn)
        go_ret
        rw [HPF.out]
        simp only [List.flatMap_append, List.flatMap_cons, List.flatMap_nil, List.append_nil]
        exact ⟨A2, n1 + 1, k2, rfl, own_low hown hg0.size, hg0.trans (Gr.grown (hg.alloc _) hgn (fun k hk => (HOw.out.lt k hk).1))⟩
end Go.Proofs.YtmgpllakpgjicaaDoor

namespace Go.Proofs.YtmgpllakpgjicaaDoor
open Go.RowKit
set_option linter.unusedVariables false
theorem ltB_ne {a b : List UInt8} (h : ltB a b = true) : (a == b) = false := by
  cases hb : a == b with
  | false => rfl
  | true =>
    have : a = b := by simpa using hb
    rw [this, ltB_irr] at h; cases h
theorem ltB_ne' {a b : List UInt8} (h : ltB a b = true) : (b == a) = false := by
  cases hb : b == a with
  | false => rfl
  | true =>
    have : b = a := by simpa using hb
    rw [this, ltB_irr] at h; cases h
theorem put_done (f : Fl) : ∀ (l acc : List Fl), (∀ x ∈ l, ltB f.1 x.1 = true) → l.foldl (putStep f) (acc, true) = (acc ++ l, true)
  | [], acc, _ => by simp
  | x :: r, acc, h => by
    have h1 := h x (by simp)
    rw [List.foldl_cons]
    have : putStep f (acc, true) x = (acc ++ [x], true) := by unfold putStep; rw [ltB_ne' h1]; rfl
    rw [this, put_done f r _ (fun y hy => h y (by simp [hy]))]
    simp
theorem put_low (f : Fl) : ∀ (l acc : List Fl), (∀ x ∈ l, ltB x.1 f.1 = true) → l.foldl (putStep f) (acc, false) = (acc ++ l, false)
  | [], acc, _ => by simp
  | x :: r, acc, h => by
    have h1 := h x (by simp)
    rw [List.foldl_cons]
    have : putStep f (acc, false) x = (acc ++ [x], false) := by unfold putStep; rw [ltB_ne h1, ltB_asym h1]; rfl
    rw [this, put_low f r _ (fun y hy => h y (by simp [hy]))]
    simp
def putEnd (f : Fl) (st : List Fl × Bool) : List Fl := if st.2 then st.1 else st.1 ++ [f]
theorem put_high (f : Fl) (l acc : List Fl) (h : ∀ x ∈ l, ltB f.1 x.1 = true) : putEnd f (l.foldl (putStep f) (acc, false)) = acc ++ f :: l := by
  cases l with
  | nil => simp [putEnd]
  | cons x r =>
    have h1 := h x (by simp)
    rw [List.foldl_cons]
    have : putStep f (acc, false) x = (acc ++ [f] ++ [x], true) := by unfold putStep; rw [ltB_ne' h1, h1]; rfl
    rw [this, put_done f r _ (fun y hy => h y (by simp [hy]))]
    simp [putEnd]
theorem lb_split (name : List UInt8) : ∀ fs : List Fl, (∀ x ∈ fs.take (lbF name fs), ltB x.1 name = true) ∧ (∀ h : lbF name fs < fs.length, ltB fs[lbF name fs].1 name = false)
  | [] => ⟨fun x hx => by simp at hx, fun h => by simp at h⟩
  | y :: r => by
    obtain ⟨h1, h2⟩ := lb_split name r
    cases hy : ltB y.1 name with
    | true =>
      have e : lbF name (y :: r) = lbF name r + 1 := by unfold lbF; rw [List.takeWhile_cons_of_pos (by simpa using hy)]; rfl
      refine ⟨fun x hx => ?_, fun h => ?_⟩
      · rw [e, List.take_succ_cons] at hx
        rcases List.mem_cons.1 hx with rfl | hx
        · exact hy
        · exact h1 x hx
      · simp only [e, List.getElem_cons_succ]
        exact h2 (by rw [e] at h; simpa using h)
    | false =>
      have e : lbF name (y :: r) = 0 := by unfold lbF; rw [List.takeWhile_cons_of_neg (by simp [hy])]; rfl
      refine ⟨fun x hx => by rw [e] at hx; simp at hx, fun h => ?_⟩
      simp only [e, List.getElem_cons_zero]
      exact hy
theorem put_sorted (f : Fl) (fs : List Fl) (hs : SortedF fs) : putF f fs = if hasF f.1 fs then fs.set (lbF f.1 fs) f else insF (lbF f.1 fs) f fs := by
  have hle := lbF_le f.1 fs
  have hlow := (lb_split f.1 fs).1
  have e : putF f fs = putEnd f ((fs.drop (lbF f.1 fs)).foldl (putStep f) (fs.take (lbF f.1 fs), false)) := by
    show putEnd f (putGo f fs) = _
    unfold putGo
    conv => lhs; rw [← List.take_append_drop (lbF f.1 fs) fs, List.foldl_append]
    rw [put_low f _ [] hlow, List.nil_append]
  rw [e]
  cases hh : hasF f.1 fs with
  | true =>
    obtain ⟨h1, h2⟩ := hasF_lt hs hh
    rw [List.drop_eq_getElem_cons h1, List.foldl_cons]
    have : putStep f (fs.take (lbF f.1 fs), false) fs[lbF f.1 fs] = (fs.take (lbF f.1 fs), false) := by unfold putStep; rw [h2]; simp
    rw [this, put_high f _ _ (fun x hx => ?_), if_pos rfl, List.set_eq_take_append_cons_drop, if_pos h1]
    obtain ⟨m, hm, rfl⟩ := List.getElem_of_mem hx
    rw [List.getElem_drop]
    have := hs.get (i := lbF f.1 fs) (j := lbF f.1 fs + 1 + m) (by simp at hm; omega) (by omega)
    rwa [h2] at this
  | false =>
    rw [put_high f _ _ (fun x hx => ?_), if_neg (by decide)]
    · rfl
    · obtain ⟨m, hm, rfl⟩ := List.getElem_of_mem hx
      rw [List.getElem_drop]
      have hm' : lbF f.1 fs + m < fs.length := by simp at hm; omega
      have h0 : lbF f.1 fs < fs.length := by omega
      have hge : ltB fs[lbF f.1 fs].1 f.1 = false := by
        exact (lb_split f.1 fs).2 h0
      have h3 := hs.above hm' (Nat.le_add_right _ _) hge
      have h4 : (fs[lbF f.1 fs + m].1 == f.1) = false := by
        have := List.any_eq_false.1 hh fs[lbF f.1 fs + m] (List.getElem_mem hm')
        simpa using this
      cases h5 : ltB f.1 fs[lbF f.1 fs + m].1 with
      | true => rfl
      | false =>
        have := ltB_tri _ _ h3 h5
        rw [this] at h4
        simp at h4
end Go.Proofs.YtmgpllakpgjicaaDoor

namespace Go.Proofs.YtmgpllakpgjicaaDoor
open Go.RowKit
set_option linter.unusedVariables false
theorem FRow.take {w : World} {A : Option Addr} {n : Nat} {fs : List Fl} (h : FRow w A n fs) (k : Nat) (hk : k ≤ n) : FRow w A k (fs.take k) := by
  have hl := h.len
  refine ⟨by rw [flat_len fileC 3 (fun _ => rfl), List.length_take]; omega, fun h0 => ?_⟩
  obtain ⟨b, off, e, hc⟩ := Row.at_ h (by omega)
  refine ⟨b, off, e, fun i v hv => hc i v ?_⟩
  rw [← flat_take, List.getElem?_take] at hv
  split at hv
  · exact hv
  · cases hv
theorem FRow.drop {w : World} {b off n : Nat} {fs : List Fl} (h : FRow w (some ⟨b, off, none⟩) n fs) (k : Nat) (hk : k ≤ n) : FRow w (some ⟨b, off + k * 3, none⟩) (n - k) (fs.drop k) := by
  have hl := h.len
  refine ⟨by rw [flat_len fileC 3 (fun _ => rfl), List.length_drop]; omega, fun h0 => ?_⟩
  obtain ⟨b', off', e, hc⟩ := Row.at_ h (by omega)
  injection e with e
  injection e with e1 e2
  subst e1 e2
  refine ⟨b, off + k * 3, rfl, fun i v hv => ?_⟩
  rw [← flat_drop, List.getElem?_drop] at hv
  rw [Nat.add_assoc]
  exact hc _ v hv
theorem FRow.none {w : World} {A : Option Addr} {fs : List Fl} (n : Nat) (h : fs.length ≤ n) : FRow w A 0 (fs.drop n) := by
  rw [List.drop_eq_nil_of_le h]
  exact Row.nil w 3 A
theorem insF_set (i : Nat) (f g : Fl) (fs : List Fl) (h : i ≤ fs.length) : (insF i f fs).set i g = insF i g fs := by
  unfold insF
  rw [List.set_append_right _ _ (by simp; omega)]
  simp [Nat.min_eq_left h]
theorem erase_flat (fs : List Fl) (k : Nat) : (fs.take k).flatMap fileC ++ (fs.drop (k + 1)).flatMap fileC = (fs.eraseIdx k).flatMap fileC := by
  rw [List.eraseIdx_eq_take_drop_succ, List.flatMap_append]
theorem do_end {w w6 : World} {B q p n' c' : Nat} {A' : Option Addr} {R : List Fl} {cs : Array Value} (hg : Gr w w6) (hwp : w.heap.size ≤ p + 1) (hwq : w.heap.size ≤ q) (hb : Blk w6 (p + 1) 43 #[.slice none 0 0, .int .i64 0]) (hq : Blk w6 q 43 cs) (hpq : p + 1 ≠ q)
    (ho : w6.ownsRow B 89 3 (.slice A' n' c') n' (R.flatMap fileC)) (hB : w.heap.size ≤ B) (u : Int) (v : Value) :
    Blk (((w6.setCell ⟨q, 0, none⟩ v).setCell ⟨p + 1, 0, none⟩ (.slice A' n' c')).setCell ⟨p + 1, 1, none⟩ (.int .i64 u)) (p + 1) 43 #[.slice A' n' c', .int .i64 u] ∧
    Gr w (((w6.setCell ⟨q, 0, none⟩ v).setCell ⟨p + 1, 0, none⟩ (.slice A' n' c')).setCell ⟨p + 1, 1, none⟩ (.int .i64 u)) ∧
    (((w6.setCell ⟨q, 0, none⟩ v).setCell ⟨p + 1, 0, none⟩ (.slice A' n' c')).setCell ⟨p + 1, 1, none⟩ (.int .i64 u)).ownsRow w.heap.size 89 3 (.slice A' n' c') n' (R.flatMap fileC) ∧ (A' = none → n' = 0 ∧ c' = 0) := by
  have h1 := own_blk_ne ho hb (by decide)
  have h2 := own_blk_ne ho hq (by decide)
  exact ⟨((hb.far (p := ⟨q, 0, none⟩) hpq v).set_ 0 _).set_ 1 _, ((hg.setCell (p := ⟨q, 0, none⟩) hwq v).setCell (p := ⟨p + 1, 0, none⟩) hwp _).setCell (p := ⟨p + 1, 1, none⟩) hwp _,
    own_low (ownsRow_setCell_other (ownsRow_setCell_other (ownsRow_setCell_other ho (a := ⟨q, 0, none⟩) h2 _) (a := ⟨p + 1, 0, none⟩) h1 _) (a := ⟨p + 1, 1, none⟩) h1 _) hB, own_none ho⟩
end Go.Proofs.YtmgpllakpgjicaaDoor

namespace Go.Proofs.YtmgpllakpgjicaaDoor
open Go.RowKit
set_option linter.unusedVariables false
/-- P6.3 within the power -/
def syF (name : List UInt8) (fs : List Fl) : List Fl × Int :=
  if hasF name fs then
    (fs.set (lbF name fs) ((fs.getD (lbF name fs) ([], [], [])).1, (fs.getD (lbF name fs) ([], [], [])).2.1 ++ (fs.getD (lbF name fs) ([], [], [])).2.2, []), 0)
  else (fs, 7)

set_option maxRecDepth 100000 in
set_option maxHeartbeats 4000000 in
theorem sync1_any (name : List UInt8) (c1 : Nat) (w0 : World) (h1 : w0.cell? ⟨c1, 0, none⟩ = some (.string (bs name))) :
    Steps 118 #[.pointer (some ⟨c1, 0, none⟩)] (syF name) w0 := by
  intro wb w q A n cap u fs g0 gc hd hgf
  show Calls Tryd.prog 118 #[.pointer (some ⟨q, 0, none⟩), .pointer (some ⟨c1, 0, none⟩)] w _
  have hl := hd.len
  have hl400 : fs.length ≤ 400 := goodFs_len hgf
  have e1 : w.cell? ⟨c1, 0, none⟩ = some (.string (bs name)) := ((g0.trans gc).cells.1 c1 _ (World.block_lt_of_cell? w0 _ h1)).trans h1
  have HD := sec hd
  have HS := sec (goodFs_sorted hgf)
  have HGC := sec gc
  have HGF := sec hgf
  have d0 : w.cell? ⟨q, 0, none⟩ = some (.slice A n cap) := hd.blk.cell 0
  have d1 : w.cell? ⟨q, 1, none⟩ = some (.int .i64 u) := hd.blk.cell 1
  clear h1 g0 gc hd hgf
  obtain ⟨k, hk⟩ : ∃ k, k = lbF name fs := ⟨_, rfl⟩
  have HK := sec hk
  clear hk
  cases hB : hasF name fs with
  | false =>
    have HR : Sec (syF name fs = (fs, 7)) := sec (by unfold syF; rw [hB]; rfl)
    have HB := sec hB
    clear hB
    go_enter Tryd.func118, Tryd.ntmps118
    go_upto_region 1 with fail
    go_cut [4, 5] from 7 to 37 (fun v5 v6 wx => v5 = .int .i64 (k : Int) ∧ v6 = .bool false ∧ Gr w wx)
    case first =>
      go_region_with (go_at_call 86; refine (find_any fs name A n cap u w.drew (by omega) (FRow.gr (Row.own HD.out.own) (Gr.refl _).drew) HS.out).mono ?_; rw [← HK.out, HB.out]; rintro e w2 ⟨rfl, g2⟩)
      all_goals (go_wp2_with fail; go_meet; exact ⟨rfl, rfl, Gr.trans (Gr.refl _).drew g2⟩)
    case rest =>
      obtain ⟨rfl, rfl, gx⟩ := hcut
      go_wp2_with fail
      go_ret
      rw [HR.out]
      exact ⟨rfl, HGC.out.trans gx, fun h => by cases h⟩
  | true =>
    have hX := hasF_lt HS.out hB
    rw [← HK.out] at hX
    obtain ⟨hkl, hnm⟩ := hX
    have HB := sec hB
    clear hB
    go_enter Tryd.func118, Tryd.ntmps118
    go_upto_region 1 with fail
    go_cut [4, 5] from 7 to 37 (fun v5 v6 wx => v5 = .int .i64 (k : Int) ∧ v6 = .bool true ∧ Gr w wx)
    case first =>
      go_region_with (go_at_call 86; refine (find_any fs name A n cap u w.drew (by omega) (FRow.gr (Row.own HD.out.own) (Gr.refl _).drew) HS.out).mono ?_; rw [← HK.out, HB.out]; rintro e w2 ⟨rfl, g2⟩)
      all_goals (go_wp2_with fail; go_meet; exact ⟨rfl, rfl, Gr.trans (Gr.refl _).drew g2⟩)
    case rest =>
      obtain ⟨rfl, rfl, gx⟩ := hcut
      have HDz := sec (HD.out.gr gx)
      have gz : Gr wb wc := HGC.out.trans gx
      clear d0 d1 e1 HD gx
      have hk2 : (k : Int) < (n : Int) := by omega
      obtain ⟨b, rfl, hBb, hbq, z0, z1, z2, zf⟩ := HDz.out.at hkl
      have zf1 : wc.frozen? ⟨b, k * 3 + 1, none⟩ = false := zf 1 (by omega)
      have zf2 : wc.frozen? ⟨b, k * 3 + 2, none⟩ = false := zf 2 (by omega)
      have hget : fs[k]? = some fs[k] := List.getElem?_eq_getElem hkl
      have hgd : fs.getD (lbF name fs) ([], [], []) = fs[k] := by
        rw [← HK.out, List.getD_eq_getElem?_getD, hget]; rfl
      have hsz := goodFs_ok HGF.out fs[k] (List.getElem_mem hkl)
      obtain ⟨x, hxx⟩ : ∃ x, x = fs[k] := ⟨_, rfl⟩
      rw [← hxx] at z0 z1 z2 hget hgd hsz
      clear hxx hnm hkl zf
      obtain ⟨nm, sf, tl⟩ := x
      simp only at z0 z1 z2 hsz
      obtain ⟨_, hz1, hz2⟩ := hsz
      have d0z : wc.cell? ⟨q, 0, none⟩ = some (.slice (some ⟨b, 0, none⟩) n cap) := HDz.out.blk.cell 0
      have HR : Sec (syF name fs = (fs.set k (nm, sf ++ tl, []), 0)) := sec (by
        unfold syF; rw [HB.out, if_pos rfl, hgd, ← HK.out])
      have HDF : Sec (∀ W, Gr wc W → DOwn ((W.setCell ⟨b, k * 3 + 1, none⟩ (.string (bs (sf ++ tl)))).setCell ⟨b, k * 3 + 2, none⟩ (.string (bs []))) wb.heap.size q (some ⟨b, 0, none⟩) n cap u (fs.set k (nm, sf ++ tl, []))) := sec (fun W g =>
        ⟨((HDz.out.gr g).blk.far (p := ⟨b, k * 3 + 1, none⟩) (Ne.symm hbq) _).far (p := ⟨b, k * 3 + 2, none⟩) (Ne.symm hbq) _, own_file2 (HDz.out.gr g).own k nm sf tl (sf ++ tl) [] hget, HDz.out.base⟩)
      have HGS : Sec (∀ W, Gr wc W → Gr wb ((W.setCell ⟨b, k * 3 + 1, none⟩ (.string (bs (sf ++ tl)))).setCell ⟨b, k * 3 + 2, none⟩ (.string (bs [])))) := sec (fun W g => ((gz.trans g).setCell (p := ⟨b, k * 3 + 1, none⟩) hBb _).setCell (p := ⟨b, k * 3 + 2, none⟩) hBb _)
      clear hget hgd
      go_wp2_with fail
      go_region
      go_wp2_with fail
      go_ret
      rw [HR.out]
      exact ⟨rfl, (HGS.out _ (Gr.refl _)).drew, fun _ => ⟨_, _, _, (HDF.out _ (Gr.refl _)).gr (Gr.refl _).drew⟩⟩

set_option maxRecDepth 100000 in
set_option maxHeartbeats 4000000 in
theorem sync_any (name : List UInt8) (fs : List Fl) (A : Option Addr) (n cap : Nat) (f : Int) (w : World) (hn : n ≤ 1099511627776) (hx : FRow w A n fs) (hA : A = none → n = 0 ∧ cap = 0) (hs : ∀ f ∈ fs, f.1.length ≤ 1099511627776 ∧ f.2.1.length ≤ 1099511627776 ∧ f.2.2.length ≤ 1099511627776)
    (hf : -9223372036854775808 ≤ f ∧ f ≤ 9223372036854775807) :
    Calls Tryd.prog 89 #[diskV A n cap f, .string (bs name)] w (StepPost (stepR (syF name) fs f) A n cap fs w) := by
  have g1 := (Gr.refl w).alloc (.cells #[.slice A n cap, .int .i64 f] 43)
  have g2 := g1.alloc (.cells #[.string (bs name)] 9)
  have g4 := g2.alloc (.cells #[.slice none 0 0, .int .i64 0] 43)
  have b1 := ((Blk.new w 43 #[.slice A n cap, .int .i64 f]).alloc (.cells #[.string (bs name)] 9)).alloc (.cells #[.slice none 0 0, .int .i64 0] 43)
  have b2 := (Blk.new1 w (.cells #[.slice A n cap, .int .i64 f] 43) 9 #[.string (bs name)]).alloc (.cells #[.slice none 0 0, .int .i64 0] 43)
  have b4 := Blk.newAt (w := ((w.alloc (.cells #[.slice A n cap, .int .i64 f] 43)).alloc (.cells #[.string (bs name)] 9))) (g := w.heap.size + 1 + 1) (by simp) 43 #[.slice none 0 0, .int .i64 0]
  obtain ⟨wa, hwa⟩ : ∃ x, x = (((w.alloc (.cells #[.slice A n cap, .int .i64 f] 43)).alloc (.cells #[.string (bs name)] 9))).alloc (.cells #[.slice none 0 0, .int .i64 0] 43) := ⟨_, rfl⟩
  rw [← hwa] at b1 b2 b4 g4
  obtain ⟨p, hp⟩ : ∃ p, p = w.heap.size := ⟨_, rfl⟩
  have hwp : w.heap.size ≤ p := by omega
  rw [← hp] at b1 b2 b4
  have c0 : wa.cell? ⟨p, 0, none⟩ = some (.slice A n cap) := b1.cell 0
  have c1 : wa.cell? ⟨p, 1, none⟩ = some (.int .i64 f) := b1.cell 1
  have HS := sec (step_any 118 #[.pointer (some ⟨p + 1, 0, none⟩)] (syF name) (enters_own Tryd.func118 (by kernel_rfl) rfl) fs A n cap f wa hn (hx.gr g4) hA hs hf (sync1_any name (p + 1) wa (b2.cell 0)))
  have HB4 := sec b4
  have HG4 := sec g4
  clear hx hA hs g1 g2 g4 b1 b2 b4
  unfold diskV at HS
  unfold diskV
  have hmf : ∀ (fn : Fn) (first cap : Array Value) (w : World), (Instr.makeFunc fn first cap).run Tryd.prog w = .ok (.func fn first cap) w := fun _ _ _ _ => rfl
  obtain ⟨R, hR⟩ : ∃ R, R = stepR (syF name) fs f := ⟨_, rfl⟩
  rw [← hR] at HS
  rw [← hR]
  clear hR
  obtain ⟨fs', f', er⟩ := R
  go_enter Tryd.func89, Tryd.ntmps89
  go_wp2_with (first | (rw [← hwa, ← hp]; clear hwa hp; go_wp2_with fail) | (go_at_call 113; refine Calls.mono HS.out ?_; rintro e w5 ⟨A', n', cap', rfl, g5, hA', hrow⟩;  unfold diskV; have d0 : w5.cell? ⟨p + 1 + 1, 0, none⟩ = some (.slice none 0 0) := (HB4.out.gr g5).cell 0; have d1 : w5.cell? ⟨p + 1 + 1, 1, none⟩ = some (.int .i64 0) := (HB4.out.gr g5).cell 1; have f0 : w5.frozen? ⟨p + 1 + 1, 0, none⟩ = false := (HB4.out.gr g5).frozen 0; have f1 : w5.frozen? ⟨p + 1 + 1, 1, none⟩ = false := (HB4.out.gr g5).frozen 1))
  refine bodyPost_ret (results_blk_tmp rfl _ rfl (((HB4.out.gr g5).set_ 0 (.slice A' n' cap')).set_ 1 (.int .i64 f')) aggDisk) rfl ?_
  have hfin := StepPost.set2 (r := (fs', f', er)) (p := p + 1 + 1) HG4.out HB4.out.lt (by omega) g5 (.slice A' n' cap') (.int .i64 f') hrow
  exact ⟨A', n', cap', rfl, hfin.1, hA', hfin.2⟩
end Go.Proofs.YtmgpllakpgjicaaDoor

namespace Go.Proofs.YtmgpllakpgjicaaDoor
open Go.RowKit
set_option linter.unusedVariables false
set_option maxRecDepth 100000 in
set_option maxHeartbeats 4000000 in
theorem do0_any (name s : List UInt8) (fs : List Fl) (A : Option Addr) (n cap : Nat) (f : Int) (w : World) (hn : n ≤ 1099511627776) (hnc : n ≤ cap) (hx : FRow w A n fs) (hA : A = none → n = 0 ∧ cap = 0) (hs : ∀ f ∈ fs, f.1.length ≤ 1099511627776 ∧ f.2.1.length ≤ 1099511627776 ∧ f.2.2.length ≤ 1099511627776)
    (hf : -9223372036854775808 ≤ f ∧ f ≤ 9223372036854775807) (hl1 : name.length ≤ 1099511627776) (hl2 : s.length ≤ 1099511627776) :
    Calls Tryd.prog 95 #[.int .i64 0, diskV A n cap f, .string (bs name), .string (bs s)] w (StepPost (stepR (wrF name s) fs f) A n cap fs w) := by
  have hg0 := ((Gr.refl w).alloc (.cells #[.slice A n cap, .int .i64 f] 43)).alloc (.cells #[.slice none 0 0, .int .i64 0] 43)
  have hb1 := (Blk.new w 43 #[.slice A n cap, .int .i64 f]).alloc (.cells #[.slice none 0 0, .int .i64 0] 43)
  have hb2 := Blk.new1 w (.cells #[.slice A n cap, .int .i64 f] 43) 43 #[.slice none 0 0, .int .i64 0]
  have HG := sec (drgood_any fs A n cap f _ hn (hx.gr hg0) hs)
  have hl := hx.len
  have HX := sec (hx.gr hg0)
  obtain ⟨wa, hwa⟩ : ∃ x, x = (w.alloc (.cells #[.slice A n cap, .int .i64 f] 43)).alloc (.cells #[.slice none 0 0, .int .i64 0] 43) := ⟨_, rfl⟩
  rw [← hwa] at hg0 hb1 hb2 HG HX
  obtain ⟨p, hp⟩ : ∃ p, p = w.heap.size := ⟨_, rfl⟩
  have hwp : w.heap.size ≤ p := by omega
  rw [← hp] at hb1 hb2
  have c0 : wa.cell? ⟨p, 0, none⟩ = some (.slice A n cap) := hb1.cell 0
  have c1 : wa.cell? ⟨p, 1, none⟩ = some (.int .i64 f) := hb1.cell 1
  have HB := sec hb1
  have HR2 := sec hb2
  have HX0 := sec hx
  have HA := sec hA
  clear hb1 hb2 hs hx
  unfold diskV at HG
  unfold diskV
  have HW : Sec (∀ w1, Gr wa w1 → Blk ((w1.setCell ⟨p + 1, 0, none⟩ (.slice A n cap)).setCell ⟨p + 1, 1, none⟩ (.int .i64 f)) (p + 1) 43 #[.slice A n cap, .int .i64 f]) := sec fun w1 g1 => ((HR2.out.gr g1).set_ 0 (.slice A n cap)).set_ 1 (.int .i64 f)
  have HV : Sec (∀ w1, Gr wa w1 → Gr w ((w1.setCell ⟨p + 1, 0, none⟩ (.slice A n cap)).setCell ⟨p + 1, 1, none⟩ (.int .i64 f))) := sec fun w1 g1 => ((hg0.trans g1).setCell (p := ⟨p + 1, 0, none⟩) (by show w.heap.size ≤ p + 1; omega) _).setCell (p := ⟨p + 1, 1, none⟩) (by show w.heap.size ≤ p + 1; omega) _
  cases hgf : goodFs fs with
  | false =>
    have HR : Sec (stepR (wrF name s) fs f = (fs, f, 3)) := sec (by unfold stepR; rw [hgf]; rfl)
    rw [HR.out]
    rw [hgf] at HG
    clear hgf
    go_enter Tryd.func95, Tryd.ntmps95
    go_wp2_with (first | (rw [← hwa, ← hp]; clear hwa hp; go_wp2_with fail) | (go_at_call 92; refine Calls.mono HG.out ?_; rintro e w1 ⟨rfl, g1⟩; have c0y : w1.cell? ⟨p, 0, none⟩ = some (.slice A n cap) := (HB.out.gr g1).cell 0; have c1y : w1.cell? ⟨p, 1, none⟩ = some (.int .i64 f) := (HB.out.gr g1).cell 1; have d20 : w1.cell? ⟨p + 1, 0, none⟩ = some (.slice none 0 0) := (HR2.out.gr g1).cell 0; have d21 : w1.cell? ⟨p + 1, 1, none⟩ = some (.int .i64 0) := (HR2.out.gr g1).cell 1; have f20 : w1.frozen? ⟨p + 1, 0, none⟩ = false := (HR2.out.gr g1).frozen 0; have f21 : w1.frozen? ⟨p + 1, 1, none⟩ = false := (HR2.out.gr g1).frozen 1))
    refine bodyPost_ret (results_blk_tmp rfl _ rfl (HW.out w1 g1) aggDisk) rfl ?_
    exact ⟨A, n, cap, rfl, HV.out w1 g1, HA.out, .inl ⟨rfl, rfl, rfl, rfl⟩⟩
  | true =>
    rw [hgf] at HG
    by_cases hf0 : f = 0
    · have HR : Sec (stepR (wrF name s) fs f = (fs, f, 12)) := sec (by unfold stepR; rw [hgf, hf0]; rfl)
      rw [HR.out]
      clear hgf
      subst hf0
      go_enter Tryd.func95, Tryd.ntmps95
      go_wp2_with (first | (rw [← hwa, ← hp]; clear hwa hp; go_wp2_with fail) | (go_at_call 92; refine Calls.mono HG.out ?_; rintro e w1 ⟨rfl, g1⟩; have c0y : w1.cell? ⟨p, 0, none⟩ = some (.slice A n cap) := (HB.out.gr g1).cell 0; have c1y : w1.cell? ⟨p, 1, none⟩ = some (.int .i64 0) := (HB.out.gr g1).cell 1; have d20 : w1.cell? ⟨p + 1, 0, none⟩ = some (.slice none 0 0) := (HR2.out.gr g1).cell 0; have d21 : w1.cell? ⟨p + 1, 1, none⟩ = some (.int .i64 0) := (HR2.out.gr g1).cell 1; have f20 : w1.frozen? ⟨p + 1, 0, none⟩ = false := (HR2.out.gr g1).frozen 0; have f21 : w1.frozen? ⟨p + 1, 1, none⟩ = false := (HR2.out.gr g1).frozen 1))
      refine bodyPost_ret (results_blk_tmp rfl _ rfl (HW.out w1 g1) aggDisk) rfl ?_
      exact ⟨A, n, cap, rfl, HV.out w1 g1, HA.out, .inl ⟨rfl, rfl, rfl, rfl⟩⟩
    · have HGF := sec hgf
      have HF0 := sec hf0
      have HSO := sec (goodFs_sorted hgf)
      have hl400 : n ≤ 400 := by have := goodFs_len hgf; omega
      clear hgf
      obtain ⟨u, hu⟩ : ∃ u, u = (if 0 < f then f - 1 else f) := ⟨_, rfl⟩
      have HU := sec hu
      clear hu
      have HERR : Sec (∀ E, (wrF name s fs).2 = E → E ≠ 0 → stepR (wrF name s) fs f = (fs, f, E)) := sec (fun E h h0 => by unfold stepR; rw [HGF.out, if_pos rfl, if_neg HF0.out, if_neg (by rw [h]; exact h0), h])
      have HOK : Sec (∀ R, (wrF name s fs) = (R, 0) → stepR (wrF name s) fs f = (R, u, 0)) := sec (fun R h => by unfold stepR; rw [HGF.out, if_pos rfl, if_neg HF0.out, if_pos (by rw [h]), h, HU.out])
      go_enter Tryd.func95, Tryd.ntmps95
      go_upto_if 27 with (first | (rw [← hwa, ← hp]; clear hwa hp; go_wp2_with fail) | (go_at_call 92; refine Calls.mono HG.out ?_; rintro e w1 ⟨rfl, g1⟩; have c0y : w1.cell? ⟨p, 0, none⟩ = some (.slice A n cap) := (HB.out.gr g1).cell 0; have c1y : w1.cell? ⟨p, 1, none⟩ = some (.int .i64 f) := (HB.out.gr g1).cell 1) | (go_at_call 22; refine Calls.mono (copyDisk_any fs A n cap f w1 hn (HX.out.gr g1) HA.out) ?_; unfold diskV; rintro e w2 ⟨A1, cap1, rfl, ho, hA1, g2⟩))
      have hqb := Blk.new w2 43 #[.slice A1 n cap1, .int .i64 f]
      have hoq := own_gr ho ((Gr.refl w2).alloc (.cells #[.slice A1 n cap1, .int .i64 f] 43))
      have gq := g2.alloc (.cells #[.slice A1 n cap1, .int .i64 f] 43)
      obtain ⟨wq, hwq⟩ : ∃ x, x = w2.alloc (.cells #[.slice A1 n cap1, .int .i64 f] 43) := ⟨_, rfl⟩
      obtain ⟨q, hq⟩ : ∃ q, q = w2.heap.size := ⟨_, rfl⟩
      have hq1 : w1.heap.size ≤ q := by have := g2.size; omega
      rw [← hwq] at hqb hoq gq
      rw [← hq] at hqb
      rw [← hwq, ← hq]
      have HDQ : Sec (DOwn wq w1.heap.size q A1 n cap1 f fs) := sec ⟨hqb, hoq, hq1⟩
      have HG1 := sec g1
      have hpq : p + 1 < w1.heap.size := (HR2.out.gr g1).lt
      clear hwq hq hqb hoq ho g2 hA1
      have dq0 : wq.cell? ⟨q, 0, none⟩ = some (.slice A1 n cap1) := HDQ.out.blk.cell 0
      have dq1 : wq.cell? ⟨q, 1, none⟩ = some (.int .i64 f) := HDQ.out.blk.cell 1
      have fq1 : wq.frozen? ⟨q, 1, none⟩ = false := HDQ.out.blk.frozen 1
      go_cut [] from 28 to 144 (fun wx => Sec (DOwn wx w1.heap.size q A1 n cap1 u fs) ∧ Gr w1 wx)
      case first =>
        by_cases hpos : 0 < f
        · have hwr : IntKind.i64.wrap (f - 1) = f - 1 := IntWalk.i64_in _ (by omega)
          have hu : u = f - 1 := by rw [HU.out, if_pos hpos]
          go_wp2_with fail
          go_meet
          rw [hu]
          exact ⟨sec ⟨HDQ.out.blk.set_ 1 _, ownsRow_setCell_other HDQ.out.own (a := ⟨q, 1, none⟩) HDQ.out.ne _, HDQ.out.base⟩, gq.setCell (p := ⟨q, 1, none⟩) hq1 _⟩
        · have hu : u = f := by rw [HU.out, if_neg hpos]
          go_wp2_with fail
          go_meet
          rw [hu]
          exact ⟨HDQ, gq⟩
      case rest =>
        obtain ⟨HDC, gc⟩ := hcut
        clear dq0 dq1 fq1 c0y c1y HDQ gq g1
        have c0y : wc.cell? ⟨p, 0, none⟩ = some (.slice A n cap) := (HB.out.gr (HG1.out.trans gc)).cell 0
        have c1y : wc.cell? ⟨p, 1, none⟩ = some (.int .i64 f) := (HB.out.gr (HG1.out.trans gc)).cell 1
        go_upto_region 9 with (go_at_call 94; refine Calls.mono (at_any fs name A n cap f wc hn (HX.out.gr (HG1.out.trans gc)) HSO.out) ?_; rintro e w4 ⟨rfl, g4⟩)
        have gg4 : Gr w1 w4 := gc.trans g4
        have HD4 := sec (HDC.out.gr g4)
        have HG4 := sec (HG1.out.trans gg4)
        have HGG4 := sec gg4
        clear c0y c1y gc g4 HDC HG1
        have c04 : w4.cell? ⟨p, 0, none⟩ = some (.slice A n cap) := (HB.out.gr HG4.out).cell 0
        have c14 : w4.cell? ⟨p, 1, none⟩ = some (.int .i64 f) := (HB.out.gr HG4.out).cell 1
        have d20 : w4.cell? ⟨p + 1, 0, none⟩ = some (.slice none 0 0) := (HR2.out.gr HG4.out).cell 0
        have d21 : w4.cell? ⟨p + 1, 1, none⟩ = some (.int .i64 0) := (HR2.out.gr HG4.out).cell 1
        have f20 : w4.frozen? ⟨p + 1, 0, none⟩ = false := (HR2.out.gr HG4.out).frozen 0
        have f21 : w4.frozen? ⟨p + 1, 1, none⟩ = false := (HR2.out.gr HG4.out).frozen 1
        have q04 : w4.cell? ⟨q, 0, none⟩ = some (.slice A1 n cap1) := HD4.out.blk.cell 0
        have q14 : w4.cell? ⟨q, 1, none⟩ = some (.int .i64 u) := HD4.out.blk.cell 1
        have fq4 : w4.frozen? ⟨q, 0, none⟩ = false := HD4.out.blk.frozen 0
        have HN := sec (fun w => fileName_any name w (by omega))
        have hpq1 : p + 1 ≠ q := by omega
        cases hnb : namedB name with
        | false =>
          have HR := sec (HERR.out 2 (by unfold wrF; rw [hnb]; rfl) (by decide))
          rw [hnb] at HN
          clear hnb
          go_wp2_with (go_at_call 93; refine (HN.out _).mono ?_; rintro e w5 ⟨rfl, g5⟩; have c05 : w5.cell? ⟨p, 0, none⟩ = some (.slice A n cap) := (HB.out.gr (HG4.out.trans g5)).cell 0; have c15 : w5.cell? ⟨p, 1, none⟩ = some (.int .i64 f) := (HB.out.gr (HG4.out.trans g5)).cell 1; have d205 : w5.cell? ⟨p + 1, 0, none⟩ = some (.slice none 0 0) := (HR2.out.gr (HG4.out.trans g5)).cell 0; have d215 : w5.cell? ⟨p + 1, 1, none⟩ = some (.int .i64 0) := (HR2.out.gr (HG4.out.trans g5)).cell 1; have f205 : w5.frozen? ⟨p + 1, 0, none⟩ = false := (HR2.out.gr (HG4.out.trans g5)).frozen 0; have f215 : w5.frozen? ⟨p + 1, 1, none⟩ = false := (HR2.out.gr (HG4.out.trans g5)).frozen 1)
          refine bodyPost_ret (results_blk_tmp rfl _ rfl (HW.out w5 (HG4.out.trans g5)) aggDisk) rfl ?_
          rw [HR.out]
          exact ⟨A, n, cap, rfl, HV.out w5 (HG4.out.trans g5), HA.out, .inl ⟨rfl, rfl, rfl, rfl⟩⟩
        | true =>
          rw [hnb] at HN
          have HNB := sec hnb
          clear hnb
          cases hhf : hasF name fs with
          | false =>
            have hai : atI name fs = -1 := by unfold atI; rw [hhf]; rfl
            rw [hai]
            by_cases hfull : 400 ≤ n
            · have HR := sec (HERR.out 6 (by unfold wrF; rw [HNB.out, if_pos rfl, if_pos ⟨hhf, by omega⟩]) (by decide))
              obtain rfl : n = 400 := by omega
              clear hhf hai
              go_wp2_with (go_at_call 93; refine (HN.out _).mono ?_; rintro e w5 ⟨rfl, g5⟩; have c05 : w5.cell? ⟨p, 0, none⟩ = some (.slice A 400 cap) := (HB.out.gr (HG4.out.trans g5)).cell 0; have c15 : w5.cell? ⟨p, 1, none⟩ = some (.int .i64 f) := (HB.out.gr (HG4.out.trans g5)).cell 1; have d205 : w5.cell? ⟨p + 1, 0, none⟩ = some (.slice none 0 0) := (HR2.out.gr (HG4.out.trans g5)).cell 0; have d215 : w5.cell? ⟨p + 1, 1, none⟩ = some (.int .i64 0) := (HR2.out.gr (HG4.out.trans g5)).cell 1; have f205 : w5.frozen? ⟨p + 1, 0, none⟩ = false := (HR2.out.gr (HG4.out.trans g5)).frozen 0; have f215 : w5.frozen? ⟨p + 1, 1, none⟩ = false := (HR2.out.gr (HG4.out.trans g5)).frozen 1; have c05w : (w5.alloc (.cells #[.string (bs name), .string (bs []), .string (bs [])] 89)).cell? ⟨p, 0, none⟩ = some (.slice A 400 cap) := (HB.out.gr (HG4.out.trans (g5.alloc _))).cell 0; have c15w : (w5.alloc (.cells #[.string (bs name), .string (bs []), .string (bs [])] 89)).cell? ⟨p, 1, none⟩ = some (.int .i64 f) := (HB.out.gr (HG4.out.trans (g5.alloc _))).cell 1; have q05w : (w5.alloc (.cells #[.string (bs name), .string (bs []), .string (bs [])] 89)).cell? ⟨q, 0, none⟩ = some (.slice A1 400 cap1) := ((HD4.out.blk.gr g5).alloc _).cell 0; have d205w : (w5.alloc (.cells #[.string (bs name), .string (bs []), .string (bs [])] 89)).cell? ⟨p + 1, 0, none⟩ = some (.slice none 0 0) := (HR2.out.gr (HG4.out.trans (g5.alloc _))).cell 0; have d215w : (w5.alloc (.cells #[.string (bs name), .string (bs []), .string (bs [])] 89)).cell? ⟨p + 1, 1, none⟩ = some (.int .i64 0) := (HR2.out.gr (HG4.out.trans (g5.alloc _))).cell 1; have f205w : (w5.alloc (.cells #[.string (bs name), .string (bs []), .string (bs [])] 89)).frozen? ⟨p + 1, 0, none⟩ = false := (HR2.out.gr (HG4.out.trans (g5.alloc _))).frozen 0; have f215w : (w5.alloc (.cells #[.string (bs name), .string (bs []), .string (bs [])] 89)).frozen? ⟨p + 1, 1, none⟩ = false := (HR2.out.gr (HG4.out.trans (g5.alloc _))).frozen 1)
              have hV5 : Gr w (((w5.alloc (.cells #[.string (bs name), .string (bs []), .string (bs [])] 89)).setCell ⟨p + 1, 0, none⟩ (.slice A 400 cap)).setCell ⟨p + 1, 1, none⟩ (.int .i64 f)) := HV.out _ (HG4.out.trans (g5.alloc _))
              refine bodyPost_ret (results_blk_tmp rfl _ rfl (HW.out _ (HG4.out.trans (g5.alloc (.cells #[.string (bs name), .string (bs []), .string (bs [])] 89)))) aggDisk) rfl ?_
              rw [HR.out]
              exact ⟨A, 400, cap, rfl, hV5, HA.out, .inl ⟨rfl, rfl, rfl, rfl⟩⟩
            · have hpre : wrPre name fs = insF (lbF name fs) (name, [], []) fs := by unfold wrPre; rw [hhf]; rfl
              have hgd : (wrPre name fs).getD (lbF name fs) ([], [], []) = (name, [], []) := by rw [hpre, List.getD_eq_getElem?_getD, insF_get _ _ _ (lbF_le name fs)]; rfl
              have hnf : ¬ (hasF name fs = false ∧ 400 ≤ fs.length) := fun h => hfull (by omega)
              have h4 : ¬ n = 400 := by omega
              have h4' : ¬ (n : Int) = 400 := by omega
              by_cases hlong : s.length ≤ 1048576
              · have HR := sec (HOK.out (putF (name, [], s) fs) (by
                  unfold wrF; rw [HNB.out, if_pos rfl, if_neg hnf, hgd, if_pos (by simpa using hlong), put_sorted _ _ HSO.out, hhf, if_neg (by decide), hpre, insF_set _ _ _ _ (lbF_le name fs)]; rfl))
                clear hhf hai hpre hgd hnf hfull
                have HPU0 : Sec (∀ W, Gr w4 W → Calls Tryd.prog 120 #[.slice A1 n cap1, .agg #[.string (bs name), .string (bs []), .string (bs s)]] (W.alloc (.cells #[.string (bs name), .string (bs []), .string (bs s)] 89)) fun e w' =>
                  ∃ A' n' cap', e = .returned (.slice A' n' cap') ∧ w'.ownsRow (W.alloc (.cells #[.string (bs name), .string (bs []), .string (bs s)] 89)).heap.size 89 3 (.slice A' n' cap') n' ((putF (name, [], s) fs).flatMap fileC) ∧ Gr (W.alloc (.cells #[.string (bs name), .string (bs []), .string (bs s)] 89)) w') := sec
                  (fun W g => put_any fs name ([]) (s) A1 n cap1 _ hn (FRow.gr (Row.own HD4.out.own) (g.alloc _)))
                go_wp2_with (first | (go_at_call 93; refine (HN.out _).mono ?_; rintro e w5 ⟨rfl, g5⟩; have c05 : w5.cell? ⟨p, 0, none⟩ = some (.slice A n cap) := (HB.out.gr (HG4.out.trans g5)).cell 0; have c15 : w5.cell? ⟨p, 1, none⟩ = some (.int .i64 f) := (HB.out.gr (HG4.out.trans g5)).cell 1; have d205 : w5.cell? ⟨p + 1, 0, none⟩ = some (.slice none 0 0) := (HR2.out.gr (HG4.out.trans g5)).cell 0; have d215 : w5.cell? ⟨p + 1, 1, none⟩ = some (.int .i64 0) := (HR2.out.gr (HG4.out.trans g5)).cell 1; have f205 : w5.frozen? ⟨p + 1, 0, none⟩ = false := (HR2.out.gr (HG4.out.trans g5)).frozen 0; have f215 : w5.frozen? ⟨p + 1, 1, none⟩ = false := (HR2.out.gr (HG4.out.trans g5)).frozen 1; have c05w : (w5.alloc (.cells #[.string (bs name), .string (bs []), .string (bs [])] 89)).cell? ⟨p, 0, none⟩ = some (.slice A n cap) := (HB.out.gr (HG4.out.trans (g5.alloc _))).cell 0; have c15w : (w5.alloc (.cells #[.string (bs name), .string (bs []), .string (bs [])] 89)).cell? ⟨p, 1, none⟩ = some (.int .i64 f) := (HB.out.gr (HG4.out.trans (g5.alloc _))).cell 1; have q05w : (w5.alloc (.cells #[.string (bs name), .string (bs []), .string (bs [])] 89)).cell? ⟨q, 0, none⟩ = some (.slice A1 n cap1) := ((HD4.out.blk.gr g5).alloc _).cell 0; have d205w : (w5.alloc (.cells #[.string (bs name), .string (bs []), .string (bs [])] 89)).cell? ⟨p + 1, 0, none⟩ = some (.slice none 0 0) := (HR2.out.gr (HG4.out.trans (g5.alloc _))).cell 0; have d215w : (w5.alloc (.cells #[.string (bs name), .string (bs []), .string (bs [])] 89)).cell? ⟨p + 1, 1, none⟩ = some (.int .i64 0) := (HR2.out.gr (HG4.out.trans (g5.alloc _))).cell 1; have f205w : (w5.alloc (.cells #[.string (bs name), .string (bs []), .string (bs [])] 89)).frozen? ⟨p + 1, 0, none⟩ = false := (HR2.out.gr (HG4.out.trans (g5.alloc _))).frozen 0; have f215w : (w5.alloc (.cells #[.string (bs name), .string (bs []), .string (bs [])] 89)).frozen? ⟨p + 1, 1, none⟩ = false := (HR2.out.gr (HG4.out.trans (g5.alloc _))).frozen 1; have c05v : (w5.alloc (.cells #[.string (bs name), .string (bs []), .string (bs s)] 89)).cell? ⟨p, 0, none⟩ = some (.slice A n cap) := (HB.out.gr (HG4.out.trans (g5.alloc _))).cell 0; have c15v : (w5.alloc (.cells #[.string (bs name), .string (bs []), .string (bs s)] 89)).cell? ⟨p, 1, none⟩ = some (.int .i64 f) := (HB.out.gr (HG4.out.trans (g5.alloc _))).cell 1; have q05v : (w5.alloc (.cells #[.string (bs name), .string (bs []), .string (bs s)] 89)).cell? ⟨q, 0, none⟩ = some (.slice A1 n cap1) := ((HD4.out.blk.gr g5).alloc _).cell 0; have d205v : (w5.alloc (.cells #[.string (bs name), .string (bs []), .string (bs s)] 89)).cell? ⟨p + 1, 0, none⟩ = some (.slice none 0 0) := (HR2.out.gr (HG4.out.trans (g5.alloc _))).cell 0; have d215v : (w5.alloc (.cells #[.string (bs name), .string (bs []), .string (bs s)] 89)).cell? ⟨p + 1, 1, none⟩ = some (.int .i64 0) := (HR2.out.gr (HG4.out.trans (g5.alloc _))).cell 1; have f205v : (w5.alloc (.cells #[.string (bs name), .string (bs []), .string (bs s)] 89)).frozen? ⟨p + 1, 0, none⟩ = false := (HR2.out.gr (HG4.out.trans (g5.alloc _))).frozen 0; have f215v : (w5.alloc (.cells #[.string (bs name), .string (bs []), .string (bs s)] 89)).frozen? ⟨p + 1, 1, none⟩ = false := (HR2.out.gr (HG4.out.trans (g5.alloc _))).frozen 1; have HPU := sec (HPU0.out w5 g5)) | (go_at_call 120; refine HPU.out.mono ?_; rintro e w6 ⟨A6, n6, k6, rfl, hown6, g6'⟩; have g6 : Gr w4 w6 := (g5.alloc _).trans g6'; have hbq := HD4.out.blk.gr g6; have hbp := HR2.out.gr (HG4.out.trans g6); have q06 : w6.cell? ⟨q, 0, none⟩ = some (.slice A1 n cap1) := hbq.cell 0; have q16 : w6.cell? ⟨q, 1, none⟩ = some (.int .i64 u) := hbq.cell 1; have fq6 : w6.frozen? ⟨q, 0, none⟩ = false := hbq.frozen 0; have d206 : w6.cell? ⟨p + 1, 0, none⟩ = some (.slice none 0 0) := hbp.cell 0; have d216 : w6.cell? ⟨p + 1, 1, none⟩ = some (.int .i64 0) := hbp.cell 1; have f206 : w6.frozen? ⟨p + 1, 0, none⟩ = false := hbp.frozen 0; have f216 : w6.frozen? ⟨p + 1, 1, none⟩ = false := hbp.frozen 1))
                have hE := do_end (hg0.trans (HG4.out.trans g6)) (by omega) (by omega) hbp hbq hpq1 hown6 (Nat.le_trans (hg0.trans HG4.out).size (g5.alloc _).size) u (.slice A6 n6 k6)
                refine bodyPost_ret (results_blk_tmp rfl _ rfl hE.1 aggDisk) rfl ?_
                rw [HR.out]
                exact ⟨A6, _, k6, rfl, hE.2.1, hE.2.2.2, .inr hE.2.2.1⟩
              · have HR := sec (HERR.out 1 (by unfold wrF; rw [HNB.out, if_pos rfl, if_neg hnf, hgd, if_neg (by simpa using hlong)]) (by decide))
                have hl5 : (1048576 : Int) < (s.length : Int) := by omega
                clear hhf hai hpre hgd hnf hfull
                go_wp2_with (go_at_call 93; refine (HN.out _).mono ?_; rintro e w5 ⟨rfl, g5⟩; have c05 : w5.cell? ⟨p, 0, none⟩ = some (.slice A n cap) := (HB.out.gr (HG4.out.trans g5)).cell 0; have c15 : w5.cell? ⟨p, 1, none⟩ = some (.int .i64 f) := (HB.out.gr (HG4.out.trans g5)).cell 1; have d205 : w5.cell? ⟨p + 1, 0, none⟩ = some (.slice none 0 0) := (HR2.out.gr (HG4.out.trans g5)).cell 0; have d215 : w5.cell? ⟨p + 1, 1, none⟩ = some (.int .i64 0) := (HR2.out.gr (HG4.out.trans g5)).cell 1; have f205 : w5.frozen? ⟨p + 1, 0, none⟩ = false := (HR2.out.gr (HG4.out.trans g5)).frozen 0; have f215 : w5.frozen? ⟨p + 1, 1, none⟩ = false := (HR2.out.gr (HG4.out.trans g5)).frozen 1; have c05w : (w5.alloc (.cells #[.string (bs name), .string (bs []), .string (bs [])] 89)).cell? ⟨p, 0, none⟩ = some (.slice A n cap) := (HB.out.gr (HG4.out.trans (g5.alloc _))).cell 0; have c15w : (w5.alloc (.cells #[.string (bs name), .string (bs []), .string (bs [])] 89)).cell? ⟨p, 1, none⟩ = some (.int .i64 f) := (HB.out.gr (HG4.out.trans (g5.alloc _))).cell 1; have q05w : (w5.alloc (.cells #[.string (bs name), .string (bs []), .string (bs [])] 89)).cell? ⟨q, 0, none⟩ = some (.slice A1 n cap1) := ((HD4.out.blk.gr g5).alloc _).cell 0; have d205w : (w5.alloc (.cells #[.string (bs name), .string (bs []), .string (bs [])] 89)).cell? ⟨p + 1, 0, none⟩ = some (.slice none 0 0) := (HR2.out.gr (HG4.out.trans (g5.alloc _))).cell 0; have d215w : (w5.alloc (.cells #[.string (bs name), .string (bs []), .string (bs [])] 89)).cell? ⟨p + 1, 1, none⟩ = some (.int .i64 0) := (HR2.out.gr (HG4.out.trans (g5.alloc _))).cell 1; have f205w : (w5.alloc (.cells #[.string (bs name), .string (bs []), .string (bs [])] 89)).frozen? ⟨p + 1, 0, none⟩ = false := (HR2.out.gr (HG4.out.trans (g5.alloc _))).frozen 0; have f215w : (w5.alloc (.cells #[.string (bs name), .string (bs []), .string (bs [])] 89)).frozen? ⟨p + 1, 1, none⟩ = false := (HR2.out.gr (HG4.out.trans (g5.alloc _))).frozen 1; have c05v : (w5.alloc (.cells #[.string (bs name), .string (bs []), .string (bs s)] 89)).cell? ⟨p, 0, none⟩ = some (.slice A n cap) := (HB.out.gr (HG4.out.trans (g5.alloc _))).cell 0; have c15v : (w5.alloc (.cells #[.string (bs name), .string (bs []), .string (bs s)] 89)).cell? ⟨p, 1, none⟩ = some (.int .i64 f) := (HB.out.gr (HG4.out.trans (g5.alloc _))).cell 1; have q05v : (w5.alloc (.cells #[.string (bs name), .string (bs []), .string (bs s)] 89)).cell? ⟨q, 0, none⟩ = some (.slice A1 n cap1) := ((HD4.out.blk.gr g5).alloc _).cell 0; have d205v : (w5.alloc (.cells #[.string (bs name), .string (bs []), .string (bs s)] 89)).cell? ⟨p + 1, 0, none⟩ = some (.slice none 0 0) := (HR2.out.gr (HG4.out.trans (g5.alloc _))).cell 0; have d215v : (w5.alloc (.cells #[.string (bs name), .string (bs []), .string (bs s)] 89)).cell? ⟨p + 1, 1, none⟩ = some (.int .i64 0) := (HR2.out.gr (HG4.out.trans (g5.alloc _))).cell 1; have f205v : (w5.alloc (.cells #[.string (bs name), .string (bs []), .string (bs s)] 89)).frozen? ⟨p + 1, 0, none⟩ = false := (HR2.out.gr (HG4.out.trans (g5.alloc _))).frozen 0; have f215v : (w5.alloc (.cells #[.string (bs name), .string (bs []), .string (bs s)] 89)).frozen? ⟨p + 1, 1, none⟩ = false := (HR2.out.gr (HG4.out.trans (g5.alloc _))).frozen 1)
                have hV5 := HV.out _ (HG4.out.trans (g5.alloc (.cells #[.string (bs name), .string (bs []), .string (bs s)] 89)))
                refine bodyPost_ret (results_blk_tmp rfl _ rfl (HW.out _ (HG4.out.trans (g5.alloc (.cells #[.string (bs name), .string (bs []), .string (bs s)] 89)))) aggDisk) rfl ?_
                rw [HR.out]
                exact ⟨A, n, cap, rfl, hV5, HA.out, .inl ⟨rfl, rfl, rfl, rfl⟩⟩
          | true =>
            have hlt := hasF_lt HSO.out hhf
            have hput : ∀ f : Fl, f.1 = name → putF f fs = fs.set (lbF name fs) f := fun f h => by rw [put_sorted f fs HSO.out, h, hhf, if_pos rfl]
            have hpre : wrPre name fs = fs := by unfold wrPre; rw [hhf]; rfl
            have hnf : ¬ (hasF name fs = false ∧ 400 ≤ fs.length) := fun h => by rw [hhf] at h; cases h.1
            obtain ⟨k, hk⟩ : ∃ k, k = lbF name fs := ⟨_, rfl⟩
            have hai : atI name fs = k := by unfold atI; rw [hhf, hk]; rfl
            rw [← hk] at hlt hput
            obtain ⟨hkf, hnm⟩ := hlt
            rw [hai]
            have hgd : (wrPre name fs).getD (lbF name fs) ([], [], []) = fs[k] := by
              rw [hpre, ← hk, List.getD_eq_getElem?_getD, List.getElem?_eq_getElem hkf]; rfl
            obtain ⟨b, off, rfl, e0, e1, e2⟩ := (HX.out.gr HG4.out).cell hkf
            have E0 : Sec (∀ W, Gr w4 W → W.cell? ⟨b, off + k * 3, none⟩ = some (.string (bs fs[k].1)) ∧ W.cell? ⟨b, off + k * 3 + 1, none⟩ = some (.string (bs fs[k].2.1)) ∧ W.cell? ⟨b, off + k * 3 + 2, none⟩ = some (.string (bs fs[k].2.2))) := sec (fun W g => ⟨(g.cells.1 b _ (World.block_lt_of_cell? w4 _ e0)).trans e0, (g.cells.1 b _ (World.block_lt_of_cell? w4 _ e0)).trans e1, (g.cells.1 b _ (World.block_lt_of_cell? w4 _ e0)).trans e2⟩)
            have hsz := goodFs_ok HGF.out fs[k] (List.getElem_mem hkf)
            obtain ⟨x, hxx⟩ : ∃ x, x = fs[k] := ⟨_, rfl⟩
            rw [← hxx] at E0 hsz hgd hnm
            obtain ⟨nm, sf, tl⟩ := x
            simp only at E0 hsz hnm
            subst hnm
            obtain ⟨_, hz1, hz2⟩ := hsz
            have hkn1 : (k : Int) < (n : Int) := by omega
            by_cases hlong : sf.length + tl.length + s.length ≤ 1048576
            · have HR := sec (HOK.out (putF (nm, sf, tl ++ s) fs) (by
                unfold wrF; rw [HNB.out, if_pos rfl, if_neg hnf, hgd, if_pos hlong, hpre, ← hk, hput _ rfl]))
              have hl5 : ¬ (1048576 : Int) < (sf.length : Int) + ((tl.length : Int) + (s.length : Int)) := by omega
              clear hai hk hhf hput hxx hkf hgd hpre hnf e0 e1 e2
              have HPU0 : Sec (∀ W, Gr w4 W → Calls Tryd.prog 120 #[.slice A1 n cap1, .agg #[.string (bs nm), .string (bs sf), .string (bs (tl ++ s))]] (W.alloc (.cells #[.string (bs nm), .string (bs sf), .string (bs (tl ++ s))] 89)) fun e w' =>
                ∃ A' n' cap', e = .returned (.slice A' n' cap') ∧ w'.ownsRow (W.alloc (.cells #[.string (bs nm), .string (bs sf), .string (bs (tl ++ s))] 89)).heap.size 89 3 (.slice A' n' cap') n' ((putF (nm, sf, (tl ++ s)) fs).flatMap fileC) ∧ Gr (W.alloc (.cells #[.string (bs nm), .string (bs sf), .string (bs (tl ++ s))] 89)) w') := sec
                (fun W g => put_any fs nm (sf) ((tl ++ s)) A1 n cap1 _ hn (FRow.gr (Row.own HD4.out.own) (g.alloc _)))
              go_wp2_with (first | (go_at_call 93; refine (HN.out _).mono ?_; rintro e w5 ⟨rfl, g5⟩; have c05 : w5.cell? ⟨p, 0, none⟩ = some (.slice (some ⟨b, off, none⟩) n cap) := (HB.out.gr (HG4.out.trans g5)).cell 0; have c15 : w5.cell? ⟨p, 1, none⟩ = some (.int .i64 f) := (HB.out.gr (HG4.out.trans g5)).cell 1; have d205 : w5.cell? ⟨p + 1, 0, none⟩ = some (.slice none 0 0) := (HR2.out.gr (HG4.out.trans g5)).cell 0; have d215 : w5.cell? ⟨p + 1, 1, none⟩ = some (.int .i64 0) := (HR2.out.gr (HG4.out.trans g5)).cell 1; have f205 : w5.frozen? ⟨p + 1, 0, none⟩ = false := (HR2.out.gr (HG4.out.trans g5)).frozen 0; have f215 : w5.frozen? ⟨p + 1, 1, none⟩ = false := (HR2.out.gr (HG4.out.trans g5)).frozen 1; have c05w : (w5.alloc (.cells #[.string (bs nm), .string (bs []), .string (bs [])] 89)).cell? ⟨p, 0, none⟩ = some (.slice (some ⟨b, off, none⟩) n cap) := (HB.out.gr (HG4.out.trans (g5.alloc _))).cell 0; have c15w : (w5.alloc (.cells #[.string (bs nm), .string (bs []), .string (bs [])] 89)).cell? ⟨p, 1, none⟩ = some (.int .i64 f) := (HB.out.gr (HG4.out.trans (g5.alloc _))).cell 1; have q05w : (w5.alloc (.cells #[.string (bs nm), .string (bs []), .string (bs [])] 89)).cell? ⟨q, 0, none⟩ = some (.slice A1 n cap1) := ((HD4.out.blk.gr g5).alloc _).cell 0; have d205w : (w5.alloc (.cells #[.string (bs nm), .string (bs []), .string (bs [])] 89)).cell? ⟨p + 1, 0, none⟩ = some (.slice none 0 0) := (HR2.out.gr (HG4.out.trans (g5.alloc _))).cell 0; have d215w : (w5.alloc (.cells #[.string (bs nm), .string (bs []), .string (bs [])] 89)).cell? ⟨p + 1, 1, none⟩ = some (.int .i64 0) := (HR2.out.gr (HG4.out.trans (g5.alloc _))).cell 1; have f205w : (w5.alloc (.cells #[.string (bs nm), .string (bs []), .string (bs [])] 89)).frozen? ⟨p + 1, 0, none⟩ = false := (HR2.out.gr (HG4.out.trans (g5.alloc _))).frozen 0; have f215w : (w5.alloc (.cells #[.string (bs nm), .string (bs []), .string (bs [])] 89)).frozen? ⟨p + 1, 1, none⟩ = false := (HR2.out.gr (HG4.out.trans (g5.alloc _))).frozen 1; have c05v : (w5.alloc (.cells #[.string (bs nm), .string (bs sf), .string (bs (tl ++ s))] 89)).cell? ⟨p, 0, none⟩ = some (.slice (some ⟨b, off, none⟩) n cap) := (HB.out.gr (HG4.out.trans (g5.alloc _))).cell 0; have c15v : (w5.alloc (.cells #[.string (bs nm), .string (bs sf), .string (bs (tl ++ s))] 89)).cell? ⟨p, 1, none⟩ = some (.int .i64 f) := (HB.out.gr (HG4.out.trans (g5.alloc _))).cell 1; have q05v : (w5.alloc (.cells #[.string (bs nm), .string (bs sf), .string (bs (tl ++ s))] 89)).cell? ⟨q, 0, none⟩ = some (.slice A1 n cap1) := ((HD4.out.blk.gr g5).alloc _).cell 0; have d205v : (w5.alloc (.cells #[.string (bs nm), .string (bs sf), .string (bs (tl ++ s))] 89)).cell? ⟨p + 1, 0, none⟩ = some (.slice none 0 0) := (HR2.out.gr (HG4.out.trans (g5.alloc _))).cell 0; have d215v : (w5.alloc (.cells #[.string (bs nm), .string (bs sf), .string (bs (tl ++ s))] 89)).cell? ⟨p + 1, 1, none⟩ = some (.int .i64 0) := (HR2.out.gr (HG4.out.trans (g5.alloc _))).cell 1; have f205v : (w5.alloc (.cells #[.string (bs nm), .string (bs sf), .string (bs (tl ++ s))] 89)).frozen? ⟨p + 1, 0, none⟩ = false := (HR2.out.gr (HG4.out.trans (g5.alloc _))).frozen 0; have f215v : (w5.alloc (.cells #[.string (bs nm), .string (bs sf), .string (bs (tl ++ s))] 89)).frozen? ⟨p + 1, 1, none⟩ = false := (HR2.out.gr (HG4.out.trans (g5.alloc _))).frozen 1; have e0w := (E0.out _ (g5.alloc (.cells #[.string (bs nm), .string (bs []), .string (bs [])] 89))).1; have e1w := (E0.out _ (g5.alloc (.cells #[.string (bs nm), .string (bs []), .string (bs [])] 89))).2.1; have e2w := (E0.out _ (g5.alloc (.cells #[.string (bs nm), .string (bs []), .string (bs [])] 89))).2.2; have HPU := sec (HPU0.out w5 g5)) | (go_at_call 120; refine HPU.out.mono ?_; rintro e w6 ⟨A6, n6, k6, rfl, hown6, g6'⟩; have g6 : Gr w4 w6 := (g5.alloc _).trans g6'; have hbq := HD4.out.blk.gr g6; have hbp := HR2.out.gr (HG4.out.trans g6); have q06 : w6.cell? ⟨q, 0, none⟩ = some (.slice A1 n cap1) := hbq.cell 0; have q16 : w6.cell? ⟨q, 1, none⟩ = some (.int .i64 u) := hbq.cell 1; have fq6 : w6.frozen? ⟨q, 0, none⟩ = false := hbq.frozen 0; have d206 : w6.cell? ⟨p + 1, 0, none⟩ = some (.slice none 0 0) := hbp.cell 0; have d216 : w6.cell? ⟨p + 1, 1, none⟩ = some (.int .i64 0) := hbp.cell 1; have f206 : w6.frozen? ⟨p + 1, 0, none⟩ = false := hbp.frozen 0; have f216 : w6.frozen? ⟨p + 1, 1, none⟩ = false := hbp.frozen 1))
              have hE := do_end (hg0.trans (HG4.out.trans g6)) (by omega) (by omega) hbp hbq hpq1 hown6 (Nat.le_trans (hg0.trans HG4.out).size (g5.alloc _).size) u (.slice A6 n6 k6)
              refine bodyPost_ret (results_blk_tmp rfl _ rfl hE.1 aggDisk) rfl ?_
              rw [HR.out]
              exact ⟨A6, _, k6, rfl, hE.2.1, hE.2.2.2, .inr hE.2.2.1⟩
            · have HR := sec (HERR.out 1 (by unfold wrF; rw [HNB.out, if_pos rfl, if_neg hnf, hgd, if_neg hlong]) (by decide))
              have hl5 : (1048576 : Int) < (sf.length : Int) + ((tl.length : Int) + (s.length : Int)) := by omega
              clear hai hk hhf hput hxx hkf hgd hpre hnf e0 e1 e2
              go_wp2_with (go_at_call 93; refine (HN.out _).mono ?_; rintro e w5 ⟨rfl, g5⟩; have c05 : w5.cell? ⟨p, 0, none⟩ = some (.slice (some ⟨b, off, none⟩) n cap) := (HB.out.gr (HG4.out.trans g5)).cell 0; have c15 : w5.cell? ⟨p, 1, none⟩ = some (.int .i64 f) := (HB.out.gr (HG4.out.trans g5)).cell 1; have d205 : w5.cell? ⟨p + 1, 0, none⟩ = some (.slice none 0 0) := (HR2.out.gr (HG4.out.trans g5)).cell 0; have d215 : w5.cell? ⟨p + 1, 1, none⟩ = some (.int .i64 0) := (HR2.out.gr (HG4.out.trans g5)).cell 1; have f205 : w5.frozen? ⟨p + 1, 0, none⟩ = false := (HR2.out.gr (HG4.out.trans g5)).frozen 0; have f215 : w5.frozen? ⟨p + 1, 1, none⟩ = false := (HR2.out.gr (HG4.out.trans g5)).frozen 1; have c05w : (w5.alloc (.cells #[.string (bs nm), .string (bs []), .string (bs [])] 89)).cell? ⟨p, 0, none⟩ = some (.slice (some ⟨b, off, none⟩) n cap) := (HB.out.gr (HG4.out.trans (g5.alloc _))).cell 0; have c15w : (w5.alloc (.cells #[.string (bs nm), .string (bs []), .string (bs [])] 89)).cell? ⟨p, 1, none⟩ = some (.int .i64 f) := (HB.out.gr (HG4.out.trans (g5.alloc _))).cell 1; have q05w : (w5.alloc (.cells #[.string (bs nm), .string (bs []), .string (bs [])] 89)).cell? ⟨q, 0, none⟩ = some (.slice A1 n cap1) := ((HD4.out.blk.gr g5).alloc _).cell 0; have d205w : (w5.alloc (.cells #[.string (bs nm), .string (bs []), .string (bs [])] 89)).cell? ⟨p + 1, 0, none⟩ = some (.slice none 0 0) := (HR2.out.gr (HG4.out.trans (g5.alloc _))).cell 0; have d215w : (w5.alloc (.cells #[.string (bs nm), .string (bs []), .string (bs [])] 89)).cell? ⟨p + 1, 1, none⟩ = some (.int .i64 0) := (HR2.out.gr (HG4.out.trans (g5.alloc _))).cell 1; have f205w : (w5.alloc (.cells #[.string (bs nm), .string (bs []), .string (bs [])] 89)).frozen? ⟨p + 1, 0, none⟩ = false := (HR2.out.gr (HG4.out.trans (g5.alloc _))).frozen 0; have f215w : (w5.alloc (.cells #[.string (bs nm), .string (bs []), .string (bs [])] 89)).frozen? ⟨p + 1, 1, none⟩ = false := (HR2.out.gr (HG4.out.trans (g5.alloc _))).frozen 1; have c05v : (w5.alloc (.cells #[.string (bs nm), .string (bs sf), .string (bs (tl ++ s))] 89)).cell? ⟨p, 0, none⟩ = some (.slice (some ⟨b, off, none⟩) n cap) := (HB.out.gr (HG4.out.trans (g5.alloc _))).cell 0; have c15v : (w5.alloc (.cells #[.string (bs nm), .string (bs sf), .string (bs (tl ++ s))] 89)).cell? ⟨p, 1, none⟩ = some (.int .i64 f) := (HB.out.gr (HG4.out.trans (g5.alloc _))).cell 1; have q05v : (w5.alloc (.cells #[.string (bs nm), .string (bs sf), .string (bs (tl ++ s))] 89)).cell? ⟨q, 0, none⟩ = some (.slice A1 n cap1) := ((HD4.out.blk.gr g5).alloc _).cell 0; have d205v : (w5.alloc (.cells #[.string (bs nm), .string (bs sf), .string (bs (tl ++ s))] 89)).cell? ⟨p + 1, 0, none⟩ = some (.slice none 0 0) := (HR2.out.gr (HG4.out.trans (g5.alloc _))).cell 0; have d215v : (w5.alloc (.cells #[.string (bs nm), .string (bs sf), .string (bs (tl ++ s))] 89)).cell? ⟨p + 1, 1, none⟩ = some (.int .i64 0) := (HR2.out.gr (HG4.out.trans (g5.alloc _))).cell 1; have f205v : (w5.alloc (.cells #[.string (bs nm), .string (bs sf), .string (bs (tl ++ s))] 89)).frozen? ⟨p + 1, 0, none⟩ = false := (HR2.out.gr (HG4.out.trans (g5.alloc _))).frozen 0; have f215v : (w5.alloc (.cells #[.string (bs nm), .string (bs sf), .string (bs (tl ++ s))] 89)).frozen? ⟨p + 1, 1, none⟩ = false := (HR2.out.gr (HG4.out.trans (g5.alloc _))).frozen 1; have e0w := (E0.out _ (g5.alloc (.cells #[.string (bs nm), .string (bs []), .string (bs [])] 89))).1; have e1w := (E0.out _ (g5.alloc (.cells #[.string (bs nm), .string (bs []), .string (bs [])] 89))).2.1; have e2w := (E0.out _ (g5.alloc (.cells #[.string (bs nm), .string (bs []), .string (bs [])] 89))).2.2)
              have hV5 := HV.out _ (HG4.out.trans (g5.alloc (.cells #[.string (bs nm), .string (bs sf), .string (bs (tl ++ s))] 89)))
              refine bodyPost_ret (results_blk_tmp rfl _ rfl (HW.out _ (HG4.out.trans (g5.alloc (.cells #[.string (bs nm), .string (bs sf), .string (bs (tl ++ s))] 89)))) aggDisk) rfl ?_
              rw [HR.out]
              exact ⟨some ⟨b, off, none⟩, n, cap, rfl, hV5, HA.out, .inl ⟨rfl, rfl, rfl, rfl⟩⟩
end Go.Proofs.YtmgpllakpgjicaaDoor

namespace Go.Proofs.YtmgpllakpgjicaaDoor
open Go.RowKit
set_option linter.unusedVariables false
set_option maxRecDepth 100000 in
set_option maxHeartbeats 4000000 in
theorem do2_any (name s : List UInt8) (fs : List Fl) (A : Option Addr) (n cap : Nat) (f : Int) (w : World) (hn : n ≤ 1099511627776) (hnc : n ≤ cap) (hx : FRow w A n fs) (hA : A = none → n = 0 ∧ cap = 0) (hs : ∀ f ∈ fs, f.1.length ≤ 1099511627776 ∧ f.2.1.length ≤ 1099511627776 ∧ f.2.2.length ≤ 1099511627776)
    (hf : -9223372036854775808 ≤ f ∧ f ≤ 9223372036854775807) (hl1 : name.length ≤ 1099511627776) (hl2 : s.length ≤ 1099511627776) :
    Calls Tryd.prog 95 #[.int .i64 2, diskV A n cap f, .string (bs name), .string (bs s)] w (StepPost (stepR (rnF name s) fs f) A n cap fs w) := by
  have hg0 := ((Gr.refl w).alloc (.cells #[.slice A n cap, .int .i64 f] 43)).alloc (.cells #[.slice none 0 0, .int .i64 0] 43)
  have hb1 := (Blk.new w 43 #[.slice A n cap, .int .i64 f]).alloc (.cells #[.slice none 0 0, .int .i64 0] 43)
  have hb2 := Blk.new1 w (.cells #[.slice A n cap, .int .i64 f] 43) 43 #[.slice none 0 0, .int .i64 0]
  have HG := sec (drgood_any fs A n cap f _ hn (hx.gr hg0) hs)
  have hl := hx.len
  have HX := sec (hx.gr hg0)
  obtain ⟨wa, hwa⟩ : ∃ x, x = (w.alloc (.cells #[.slice A n cap, .int .i64 f] 43)).alloc (.cells #[.slice none 0 0, .int .i64 0] 43) := ⟨_, rfl⟩
  rw [← hwa] at hg0 hb1 hb2 HG HX
  obtain ⟨p, hp⟩ : ∃ p, p = w.heap.size := ⟨_, rfl⟩
  have hwp : w.heap.size ≤ p := by omega
  rw [← hp] at hb1 hb2
  have c0 : wa.cell? ⟨p, 0, none⟩ = some (.slice A n cap) := hb1.cell 0
  have c1 : wa.cell? ⟨p, 1, none⟩ = some (.int .i64 f) := hb1.cell 1
  have HB := sec hb1
  have HR2 := sec hb2
  have HX0 := sec hx
  have HA := sec hA
  clear hb1 hb2 hs hx
  unfold diskV at HG
  unfold diskV
  have HW : Sec (∀ w1, Gr wa w1 → Blk ((w1.setCell ⟨p + 1, 0, none⟩ (.slice A n cap)).setCell ⟨p + 1, 1, none⟩ (.int .i64 f)) (p + 1) 43 #[.slice A n cap, .int .i64 f]) := sec fun w1 g1 => ((HR2.out.gr g1).set_ 0 (.slice A n cap)).set_ 1 (.int .i64 f)
  have HV : Sec (∀ w1, Gr wa w1 → Gr w ((w1.setCell ⟨p + 1, 0, none⟩ (.slice A n cap)).setCell ⟨p + 1, 1, none⟩ (.int .i64 f))) := sec fun w1 g1 => ((hg0.trans g1).setCell (p := ⟨p + 1, 0, none⟩) (by show w.heap.size ≤ p + 1; omega) _).setCell (p := ⟨p + 1, 1, none⟩) (by show w.heap.size ≤ p + 1; omega) _
  cases hgf : goodFs fs with
  | false =>
    have HR : Sec (stepR (rnF name s) fs f = (fs, f, 3)) := sec (by unfold stepR; rw [hgf]; rfl)
    rw [HR.out]
    rw [hgf] at HG
    clear hgf
    go_enter Tryd.func95, Tryd.ntmps95
    go_wp2_with (first | (rw [← hwa, ← hp]; clear hwa hp; go_wp2_with fail) | (go_at_call 92; refine Calls.mono HG.out ?_; rintro e w1 ⟨rfl, g1⟩; have c0y : w1.cell? ⟨p, 0, none⟩ = some (.slice A n cap) := (HB.out.gr g1).cell 0; have c1y : w1.cell? ⟨p, 1, none⟩ = some (.int .i64 f) := (HB.out.gr g1).cell 1; have d20 : w1.cell? ⟨p + 1, 0, none⟩ = some (.slice none 0 0) := (HR2.out.gr g1).cell 0; have d21 : w1.cell? ⟨p + 1, 1, none⟩ = some (.int .i64 0) := (HR2.out.gr g1).cell 1; have f20 : w1.frozen? ⟨p + 1, 0, none⟩ = false := (HR2.out.gr g1).frozen 0; have f21 : w1.frozen? ⟨p + 1, 1, none⟩ = false := (HR2.out.gr g1).frozen 1))
    refine bodyPost_ret (results_blk_tmp rfl _ rfl (HW.out w1 g1) aggDisk) rfl ?_
    exact ⟨A, n, cap, rfl, HV.out w1 g1, HA.out, .inl ⟨rfl, rfl, rfl, rfl⟩⟩
  | true =>
    rw [hgf] at HG
    by_cases hf0 : f = 0
    · have HR : Sec (stepR (rnF name s) fs f = (fs, f, 12)) := sec (by unfold stepR; rw [hgf, hf0]; rfl)
      rw [HR.out]
      clear hgf
      subst hf0
      go_enter Tryd.func95, Tryd.ntmps95
      go_wp2_with (first | (rw [← hwa, ← hp]; clear hwa hp; go_wp2_with fail) | (go_at_call 92; refine Calls.mono HG.out ?_; rintro e w1 ⟨rfl, g1⟩; have c0y : w1.cell? ⟨p, 0, none⟩ = some (.slice A n cap) := (HB.out.gr g1).cell 0; have c1y : w1.cell? ⟨p, 1, none⟩ = some (.int .i64 0) := (HB.out.gr g1).cell 1; have d20 : w1.cell? ⟨p + 1, 0, none⟩ = some (.slice none 0 0) := (HR2.out.gr g1).cell 0; have d21 : w1.cell? ⟨p + 1, 1, none⟩ = some (.int .i64 0) := (HR2.out.gr g1).cell 1; have f20 : w1.frozen? ⟨p + 1, 0, none⟩ = false := (HR2.out.gr g1).frozen 0; have f21 : w1.frozen? ⟨p + 1, 1, none⟩ = false := (HR2.out.gr g1).frozen 1))
      refine bodyPost_ret (results_blk_tmp rfl _ rfl (HW.out w1 g1) aggDisk) rfl ?_
      exact ⟨A, n, cap, rfl, HV.out w1 g1, HA.out, .inl ⟨rfl, rfl, rfl, rfl⟩⟩
    · have HGF := sec hgf
      have HF0 := sec hf0
      have HSO := sec (goodFs_sorted hgf)
      have hl400 : n ≤ 400 := by have := goodFs_len hgf; omega
      clear hgf
      obtain ⟨u, hu⟩ : ∃ u, u = (if 0 < f then f - 1 else f) := ⟨_, rfl⟩
      have HU := sec hu
      clear hu
      have HERR : Sec (∀ E, (rnF name s fs).2 = E → E ≠ 0 → stepR (rnF name s) fs f = (fs, f, E)) := sec (fun E h h0 => by unfold stepR; rw [HGF.out, if_pos rfl, if_neg HF0.out, if_neg (by rw [h]; exact h0), h])
      have HOK : Sec (∀ R, (rnF name s fs) = (R, 0) → stepR (rnF name s) fs f = (R, u, 0)) := sec (fun R h => by unfold stepR; rw [HGF.out, if_pos rfl, if_neg HF0.out, if_pos (by rw [h]), h, HU.out])
      go_enter Tryd.func95, Tryd.ntmps95
      go_upto_if 27 with (first | (rw [← hwa, ← hp]; clear hwa hp; go_wp2_with fail) | (go_at_call 92; refine Calls.mono HG.out ?_; rintro e w1 ⟨rfl, g1⟩; have c0y : w1.cell? ⟨p, 0, none⟩ = some (.slice A n cap) := (HB.out.gr g1).cell 0; have c1y : w1.cell? ⟨p, 1, none⟩ = some (.int .i64 f) := (HB.out.gr g1).cell 1) | (go_at_call 22; refine Calls.mono (copyDisk_any fs A n cap f w1 hn (HX.out.gr g1) HA.out) ?_; unfold diskV; rintro e w2 ⟨A1, cap1, rfl, ho, hA1, g2⟩))
      have hqb := Blk.new w2 43 #[.slice A1 n cap1, .int .i64 f]
      have hoq := own_gr ho ((Gr.refl w2).alloc (.cells #[.slice A1 n cap1, .int .i64 f] 43))
      have gq := g2.alloc (.cells #[.slice A1 n cap1, .int .i64 f] 43)
      obtain ⟨wq, hwq⟩ : ∃ x, x = w2.alloc (.cells #[.slice A1 n cap1, .int .i64 f] 43) := ⟨_, rfl⟩
      obtain ⟨q, hq⟩ : ∃ q, q = w2.heap.size := ⟨_, rfl⟩
      have hq1 : w1.heap.size ≤ q := by have := g2.size; omega
      rw [← hwq] at hqb hoq gq
      rw [← hq] at hqb
      rw [← hwq, ← hq]
      have HDQ : Sec (DOwn wq w1.heap.size q A1 n cap1 f fs) := sec ⟨hqb, hoq, hq1⟩
      have HG1 := sec g1
      have hpq : p + 1 < w1.heap.size := (HR2.out.gr g1).lt
      clear hwq hq hqb hoq ho g2 hA1
      have dq0 : wq.cell? ⟨q, 0, none⟩ = some (.slice A1 n cap1) := HDQ.out.blk.cell 0
      have dq1 : wq.cell? ⟨q, 1, none⟩ = some (.int .i64 f) := HDQ.out.blk.cell 1
      have fq1 : wq.frozen? ⟨q, 1, none⟩ = false := HDQ.out.blk.frozen 1
      go_cut [] from 28 to 144 (fun wx => Sec (DOwn wx w1.heap.size q A1 n cap1 u fs) ∧ Gr w1 wx)
      case first =>
        by_cases hpos : 0 < f
        · have hwr : IntKind.i64.wrap (f - 1) = f - 1 := IntWalk.i64_in _ (by omega)
          have hu : u = f - 1 := by rw [HU.out, if_pos hpos]
          go_wp2_with fail
          go_meet
          rw [hu]
          exact ⟨sec ⟨HDQ.out.blk.set_ 1 _, ownsRow_setCell_other HDQ.out.own (a := ⟨q, 1, none⟩) HDQ.out.ne _, HDQ.out.base⟩, gq.setCell (p := ⟨q, 1, none⟩) hq1 _⟩
        · have hu : u = f := by rw [HU.out, if_neg hpos]
          go_wp2_with fail
          go_meet
          rw [hu]
          exact ⟨HDQ, gq⟩
      case rest =>
        obtain ⟨HDC, gc⟩ := hcut
        clear dq0 dq1 fq1 c0y c1y HDQ gq g1
        have c0y : wc.cell? ⟨p, 0, none⟩ = some (.slice A n cap) := (HB.out.gr (HG1.out.trans gc)).cell 0
        have c1y : wc.cell? ⟨p, 1, none⟩ = some (.int .i64 f) := (HB.out.gr (HG1.out.trans gc)).cell 1
        go_upto_region 9 with (go_at_call 94; refine Calls.mono (at_any fs name A n cap f wc hn (HX.out.gr (HG1.out.trans gc)) HSO.out) ?_; rintro e w4 ⟨rfl, g4⟩)
        have gg4 : Gr w1 w4 := gc.trans g4
        have HD4 := sec (HDC.out.gr g4)
        have HG4 := sec (HG1.out.trans gg4)
        have HGG4 := sec gg4
        clear c0y c1y gc g4 HDC HG1
        have c04 : w4.cell? ⟨p, 0, none⟩ = some (.slice A n cap) := (HB.out.gr HG4.out).cell 0
        have c14 : w4.cell? ⟨p, 1, none⟩ = some (.int .i64 f) := (HB.out.gr HG4.out).cell 1
        have d20 : w4.cell? ⟨p + 1, 0, none⟩ = some (.slice none 0 0) := (HR2.out.gr HG4.out).cell 0
        have d21 : w4.cell? ⟨p + 1, 1, none⟩ = some (.int .i64 0) := (HR2.out.gr HG4.out).cell 1
        have f20 : w4.frozen? ⟨p + 1, 0, none⟩ = false := (HR2.out.gr HG4.out).frozen 0
        have f21 : w4.frozen? ⟨p + 1, 1, none⟩ = false := (HR2.out.gr HG4.out).frozen 1
        have q04 : w4.cell? ⟨q, 0, none⟩ = some (.slice A1 n cap1) := HD4.out.blk.cell 0
        have q14 : w4.cell? ⟨q, 1, none⟩ = some (.int .i64 u) := HD4.out.blk.cell 1
        have fq4 : w4.frozen? ⟨q, 0, none⟩ = false := HD4.out.blk.frozen 0
        have HN := sec (fun w => fileName_any s w (by omega))
        have hpq1 : p + 1 ≠ q := by omega
        cases hnb : namedB s with
        | false =>
          have HR := sec (HERR.out 2 (by unfold rnF; rw [hnb]; rfl) (by decide))
          rw [hnb] at HN
          clear hnb
          go_wp2_with (go_at_call 93; refine (HN.out _).mono ?_; rintro e w5 ⟨rfl, g5⟩; have c05 : w5.cell? ⟨p, 0, none⟩ = some (.slice A n cap) := (HB.out.gr (HG4.out.trans g5)).cell 0; have c15 : w5.cell? ⟨p, 1, none⟩ = some (.int .i64 f) := (HB.out.gr (HG4.out.trans g5)).cell 1; have d205 : w5.cell? ⟨p + 1, 0, none⟩ = some (.slice none 0 0) := (HR2.out.gr (HG4.out.trans g5)).cell 0; have d215 : w5.cell? ⟨p + 1, 1, none⟩ = some (.int .i64 0) := (HR2.out.gr (HG4.out.trans g5)).cell 1; have f205 : w5.frozen? ⟨p + 1, 0, none⟩ = false := (HR2.out.gr (HG4.out.trans g5)).frozen 0; have f215 : w5.frozen? ⟨p + 1, 1, none⟩ = false := (HR2.out.gr (HG4.out.trans g5)).frozen 1)
          refine bodyPost_ret (results_blk_tmp rfl _ rfl (HW.out w5 (HG4.out.trans g5)) aggDisk) rfl ?_
          rw [HR.out]
          exact ⟨A, n, cap, rfl, HV.out w5 (HG4.out.trans g5), HA.out, .inl ⟨rfl, rfl, rfl, rfl⟩⟩
        | true =>
          rw [hnb] at HN
          have HNB := sec hnb
          clear hnb
          cases hhf : hasF name fs with
          | false =>
            have hai : atI name fs = -1 := by unfold atI; rw [hhf]; rfl
            have HR := sec (HERR.out 7 (by unfold rnF; rw [HNB.out, if_pos rfl, hhf]; rfl) (by decide))
            rw [hai]
            clear hhf hai
            go_wp2_with (go_at_call 93; refine (HN.out _).mono ?_; rintro e w5 ⟨rfl, g5⟩; have c05 : w5.cell? ⟨p, 0, none⟩ = some (.slice A n cap) := (HB.out.gr (HG4.out.trans g5)).cell 0; have c15 : w5.cell? ⟨p, 1, none⟩ = some (.int .i64 f) := (HB.out.gr (HG4.out.trans g5)).cell 1; have d205 : w5.cell? ⟨p + 1, 0, none⟩ = some (.slice none 0 0) := (HR2.out.gr (HG4.out.trans g5)).cell 0; have d215 : w5.cell? ⟨p + 1, 1, none⟩ = some (.int .i64 0) := (HR2.out.gr (HG4.out.trans g5)).cell 1; have f205 : w5.frozen? ⟨p + 1, 0, none⟩ = false := (HR2.out.gr (HG4.out.trans g5)).frozen 0; have f215 : w5.frozen? ⟨p + 1, 1, none⟩ = false := (HR2.out.gr (HG4.out.trans g5)).frozen 1)
            refine bodyPost_ret (results_blk_tmp rfl _ rfl (HW.out w5 (HG4.out.trans g5)) aggDisk) rfl ?_
            rw [HR.out]
            exact ⟨A, n, cap, rfl, HV.out w5 (HG4.out.trans g5), HA.out, .inl ⟨rfl, rfl, rfl, rfl⟩⟩
          | true =>
            have hlt := hasF_lt HSO.out hhf
            obtain ⟨k, hk⟩ : ∃ k, k = lbF name fs := ⟨_, rfl⟩
            have hai : atI name fs = k := by unfold atI; rw [hhf, hk]; rfl
            rw [← hk] at hlt
            obtain ⟨hkf, hnm⟩ := hlt
            rw [hai]
            have hgd : fs.getD (lbF name fs) ([], [], []) = fs[k] := by
              rw [← hk, List.getD_eq_getElem?_getD, List.getElem?_eq_getElem hkf]; rfl
            obtain ⟨b, off, rfl, e0, e1, e2⟩ := (HX.out.gr HG4.out).cell hkf
            have E0 : Sec (∀ W, Gr w4 W → W.cell? ⟨b, off + k * 3, none⟩ = some (.string (bs fs[k].1)) ∧ W.cell? ⟨b, off + k * 3 + 1, none⟩ = some (.string (bs fs[k].2.1)) ∧ W.cell? ⟨b, off + k * 3 + 2, none⟩ = some (.string (bs fs[k].2.2))) := sec (fun W g => ⟨(g.cells.1 b _ (World.block_lt_of_cell? w4 _ e0)).trans e0, (g.cells.1 b _ (World.block_lt_of_cell? w4 _ e0)).trans e1, (g.cells.1 b _ (World.block_lt_of_cell? w4 _ e0)).trans e2⟩)
            obtain ⟨x, hxx⟩ : ∃ x, x = fs[k] := ⟨_, rfl⟩
            rw [← hxx] at E0 hgd hnm
            obtain ⟨nm, sf, tl⟩ := x
            simp only at E0
            have HR := sec (HOK.out (putF (s, sf, tl) (fs.eraseIdx k)) (by
              unfold rnF; rw [HNB.out, if_pos rfl, hhf, if_pos rfl, hgd, ← hk, put_sorted _ _ (HSO.out.erase k)]; rfl))
            have hkn : k < n := by omega
            have hkn1 : (k : Int) < (n : Int) := by omega
            have hwk : IntKind.i64.wrap ((k : Int) + 1) = (k : Int) + 1 := IntWalk.i64_in _ (by omega)
            have hc1 : (k : Int) ≤ (cap : Int) := by omega
            clear hai hk hhf hxx hkf hgd hnm e0 e1 e2
            have HR1 : Sec (∀ W, Gr w4 W → Row W 3 (some ⟨b, off, none⟩) k ((fs.take k).flatMap fileC)) := sec (fun W g => (HX.out.gr (HG4.out.trans g)).take k (by omega))
            have HM1 : Sec (0 + k ≤ maxLen) := sec (Nat.le_trans (show 0 + k ≤ 4096 by omega) (by decide))
            have HM2 : Sec (0 + k + (n - (k + 1)) ≤ maxLen) := sec (Nat.le_trans (show 0 + k + (n - (k + 1)) ≤ 4096 by omega) (by decide))
            have hb10 : (k : Int) ≤ (k : Int) + 1 := by omega
            have hk0 : (0 : Int) ≤ (k : Int) + 1 := by omega
            have hk3 : (k : Int) + 1 ≤ (n : Int) := by omega
            have hk4 : (n : Int) ≤ (cap : Int) := by omega
            have hkt : ((k : Int) + 1).toNat = k + 1 := by omega
            go_upto_region 36 with (go_at_call 93; refine (HN.out _).mono ?_; rintro e w5 ⟨rfl, g5⟩; have c05 : w5.cell? ⟨p, 0, none⟩ = some (.slice (some ⟨b, off, none⟩) n cap) := (HB.out.gr (HG4.out.trans g5)).cell 0; have c15 : w5.cell? ⟨p, 1, none⟩ = some (.int .i64 f) := (HB.out.gr (HG4.out.trans g5)).cell 1; have d205 : w5.cell? ⟨p + 1, 0, none⟩ = some (.slice none 0 0) := (HR2.out.gr (HG4.out.trans g5)).cell 0; have d215 : w5.cell? ⟨p + 1, 1, none⟩ = some (.int .i64 0) := (HR2.out.gr (HG4.out.trans g5)).cell 1; have f205 : w5.frozen? ⟨p + 1, 0, none⟩ = false := (HR2.out.gr (HG4.out.trans g5)).frozen 0; have f215 : w5.frozen? ⟨p + 1, 1, none⟩ = false := (HR2.out.gr (HG4.out.trans g5)).frozen 1; have e0w := (E0.out _ g5).1; have e1w := (E0.out _ g5).2.1; have e2w := (E0.out _ g5).2.2)
            have gv : Gr w4 (w5.alloc (.cells #[.string (bs nm), .string (bs sf), .string (bs tl)] 89)) := g5.alloc _
            have hfb := Blk.new w5 89 #[.string (bs nm), .string (bs sf), .string (bs tl)]
            obtain ⟨wv, hwv⟩ : ∃ x, x = w5.alloc (.cells #[.string (bs nm), .string (bs sf), .string (bs tl)] 89) := ⟨_, rfl⟩
            obtain ⟨r, hr⟩ : ∃ r, r = w5.heap.size := ⟨_, rfl⟩
            rw [← hwv] at gv hfb
            rw [← hr] at hfb
            rw [← hwv, ← hr]
            have HFB := sec hfb
            have HDV := sec (HD4.out.gr gv)
            have HGV := sec (HG4.out.trans gv)
            have hqr : q ≠ r := by have := (HD4.out.gr g5).blk.lt; omega
            have hrq : r ≠ q := Ne.symm hqr
            have hpr : p + 1 ≠ r := by have := (HR2.out.gr (HG4.out.trans g5)).lt; omega
            have hrv : r < wv.heap.size := hfb.lt
            have hwr4 : w.heap.size ≤ r := by have := (hg0.trans (HG4.out.trans g5)).size; omega
            have HR1v : Sec (∀ W, Gr wv W → Row W 3 (some ⟨b, off, none⟩) k ((fs.take k).flatMap fileC)) := sec (fun W g => HR1.out W (gv.trans g))
            have c0v : wv.cell? ⟨p, 0, none⟩ = some (.slice (some ⟨b, off, none⟩) n cap) := (HB.out.gr HGV.out).cell 0
            have q0v : wv.cell? ⟨q, 0, none⟩ = some (.slice A1 n cap1) := HDV.out.blk.cell 0
            have HER : Sec ((fs.eraseIdx k).length ≤ 1099511627776) := sec (by have := (List.eraseIdx_sublist fs k).length_le; omega)
            have HPU0 : Sec (∀ (A6 : Option Addr) (N k6 : Nat) (w6 : World), Gr wv w6 → w6.ownsRow wv.heap.size 89 3 (.slice A6 N k6) N ((fs.eraseIdx k).flatMap fileC) →
              Calls Tryd.prog 120 #[.slice A6 N k6, .agg #[.string (bs s), .string (bs sf), .string (bs tl)]] ((w6.setCell ⟨q, 0, none⟩ (.slice A6 N k6)).setCell ⟨r, 0, none⟩ (.string (bs s))) fun e w' =>
                ∃ A' n' cap', e = .returned (.slice A' n' cap') ∧ w'.ownsRow ((w6.setCell ⟨q, 0, none⟩ (.slice A6 N k6)).setCell ⟨r, 0, none⟩ (.string (bs s))).heap.size 89 3 (.slice A' n' cap') n' ((putF (s, sf, tl) (fs.eraseIdx k)).flatMap fileC) ∧ Gr ((w6.setCell ⟨q, 0, none⟩ (.slice A6 N k6)).setCell ⟨r, 0, none⟩ (.string (bs s))) w' ∧ Gr w w' ∧ w.heap.size ≤ ((w6.setCell ⟨q, 0, none⟩ (.slice A6 N k6)).setCell ⟨r, 0, none⟩ (.string (bs s))).heap.size ∧ Blk w' q 43 #[.slice A6 N k6, .int .i64 u] ∧ Blk w' (p + 1) 43 #[.slice none 0 0, .int .i64 0]) := sec (fun A6 N k6 w6 g6 ho => by
                  have hN := FRow.len (Row.own ho)
                  have hbq : Blk w6 q 43 #[.slice A1 n cap1, .int .i64 u] := HDV.out.blk.gr g6
                  have hbp := HR2.out.gr (HGV.out.trans g6)
                  have ho7 := ownsRow_setCell_other (ownsRow_setCell_other ho (a := ⟨q, 0, none⟩) (own_blk_ne ho hbq (by decide)) (.slice A6 N k6)) (a := ⟨r, 0, none⟩) (fun e => by have : wv.heap.size ≤ r := (ho.lt _ e).1; omega) (.string (bs s))
                  have g7 : Gr w ((w6.setCell ⟨q, 0, none⟩ (.slice A6 N k6)).setCell ⟨r, 0, none⟩ (.string (bs s))) := ((hg0.trans (HGV.out.trans g6)).setCell (p := ⟨q, 0, none⟩) (by show w.heap.size ≤ q; omega) _).setCell (p := ⟨r, 0, none⟩) hwr4 _
                  have hbq7 := (hbq.set_ 0 (.slice A6 N k6)).far (p := ⟨r, 0, none⟩) hqr (.string (bs s))
                  have hbp7 := (hbp.far (p := ⟨q, 0, none⟩) hpq1 (.slice A6 N k6)).far (p := ⟨r, 0, none⟩) hpr (.string (bs s))
                  have hx7 : FRow ((w6.setCell ⟨q, 0, none⟩ (.slice A6 N k6)).setCell ⟨r, 0, none⟩ (.string (bs s))) A6 N (fs.eraseIdx k) := Row.own ho7
                  refine (put_any (fs.eraseIdx k) s sf tl A6 N k6 _ (by have := HER.out; omega) hx7).mono ?_
                  rintro e w' ⟨A', n', cap', rfl, h1, h2⟩
                  exact ⟨A', n', cap', rfl, h1, h2, g7.trans h2, g7.size, hbq7.gr h2, hbp7.gr h2⟩)
            clear e0w e1w e2w c05 c15 d205 d215 f205 f215 hwv hr gv hfb E0 HD4 HR1 c04 c14 d20 d21 f20 f21 q04 q14 fq4 HN hrv hwr4
            by_cases hcap : cap = k + 1
            · subst hcap
              obtain rfl : n = k + 1 := by omega
              have HM2 : Sec (0 + k + 0 ≤ maxLen) := HM1
              have HRR2 : Sec (∀ W, Gr wv W → Row W 3 (some ⟨b, off, none⟩) 0 ((fs.drop (k + 1)).flatMap fileC)) := sec (fun W g => FRow.none (k + 1) (by omega))
              go_region_law (first
                | (refine step_append_row (w := wv.drew) (B := wv.heap.size) (A0 := none) (n0 := 0) (cap0 := 0) (xs := []) (A := some ⟨b, off, none⟩) (n := k) (c := (k + 1)) (vs := (fs.take k).flatMap fileC) E.file rfl (.const (.slice none 0 0)) (.tmp 128) rfl ?hd (World.ownsRow_nil _ _ _ _) ?hx (HR1v.out _ (Gr.refl _).drew) ?ha fileC_one ?hb ?hm ?hB ?_; (case hd => rfl); (case hx => simp [Act.eval, Act.put]); (case ha => intro h; cases h); (case hb => omega); (case hm => exact HM1.out); (case hB => exact Nat.le_refl _); intro A5 k5 w9 hown5 hg5; have g9 : Gr wv w9 := Gr.grown (Gr.refl wv).drew hg5 (fun k hk => by simp [Value.ownBlock] at hk); have c09 : w9.cell? ⟨p, 0, none⟩ = some (.slice (some ⟨b, off, none⟩) (k + 1) (k + 1)) := (HB.out.gr (HGV.out.trans g9)).cell 0)
                | (refine step_append_row (w := w9) (B := wv.heap.size) (A0 := A5) (n0 := 0 + k) (cap0 := k5) (A := some ⟨b, off, none⟩) (n := 0) (c := 0) (vs := (fs.drop (k + 1)).flatMap fileC) E.file rfl (.tmp 129) (.tmp 134) rfl ?hd hown5 ?hx (HRR2.out _ g9) ?ha fileC_one ?hb ?hm ?hB ?_; (case hd => simp [Act.eval, Act.put]); (case hx => simp [Act.eval, Act.put]; try omega); (case ha => intro h; cases h); (case hb => omega); (case hm => exact HM2.out); (case hB => exact g9.size); intro A6 k6 w6 hown6 hg6; have g6 : Gr wv w6 := Gr.grown g9 hg6 (fun k hk => (hown5.lt k hk).1); have hbq := HDV.out.blk.gr g6; have hbr := HFB.out.gr g6; have q06 : w6.cell? ⟨q, 0, none⟩ = some (.slice A1 (k + 1) cap1) := hbq.cell 0; have fq6 : w6.frozen? ⟨q, 0, none⟩ = false := hbq.frozen 0; have r06 : w6.cell? ⟨r, 0, none⟩ = some (.string (bs nm)) := hbr.cell 0; have r16 : w6.cell? ⟨r, 1, none⟩ = some (.string (bs sf)) := hbr.cell 1; have r26 : w6.cell? ⟨r, 2, none⟩ = some (.string (bs tl)) := hbr.cell 2; have fr6 : w6.frozen? ⟨r, 0, none⟩ = false := hbr.frozen 0))
              all_goals
                have hown7 : w6.ownsRow wv.heap.size 89 3 (.slice A6 (k) k6) (k) ((fs.eraseIdx k).flatMap fileC) := by simpa [erase_flat] using hown6
                have HPU := sec (HPU0.out A6 (k) k6 w6 g6 hown7)
                go_wp2_with (go_at_call 120; refine HPU.out.mono ?_; rintro e w8 ⟨A8, n8, k8, rfl, hown8, _, g8, hb8, hbq8, hbp8⟩; have q08 : w8.cell? ⟨q, 0, none⟩ = some (.slice A6 (k) k6) := hbq8.cell 0; have q18 : w8.cell? ⟨q, 1, none⟩ = some (.int .i64 u) := hbq8.cell 1; have fq8 : w8.frozen? ⟨q, 0, none⟩ = false := hbq8.frozen 0; have d208 : w8.cell? ⟨p + 1, 0, none⟩ = some (.slice none 0 0) := hbp8.cell 0; have d218 : w8.cell? ⟨p + 1, 1, none⟩ = some (.int .i64 0) := hbp8.cell 1; have f208 : w8.frozen? ⟨p + 1, 0, none⟩ = false := hbp8.frozen 0; have f218 : w8.frozen? ⟨p + 1, 1, none⟩ = false := hbp8.frozen 1)
                have hE := do_end g8 (by omega) (by omega) hbp8 hbq8 hpq1 hown8 hb8 u (.slice A8 n8 k8)
                refine bodyPost_ret (results_blk_tmp rfl _ rfl hE.1 aggDisk) rfl ?_
                rw [HR.out]
                exact ⟨A8, _, k8, rfl, hE.2.1, hE.2.2.2, .inr hE.2.2.1⟩
            · have HRR2 : Sec (∀ W, Gr wv W → Row W 3 (some ⟨b, off + (k + 1) * 3, none⟩) (n - (k + 1)) ((fs.drop (k + 1)).flatMap fileC)) := sec (fun W g => (HX.out.gr (HGV.out.trans g)).drop (k + 1) (by omega))
              go_region_law (first
                | (refine step_append_row (w := wv.drew) (B := wv.heap.size) (A0 := none) (n0 := 0) (cap0 := 0) (xs := []) (A := some ⟨b, off, none⟩) (n := k) (c := cap) (vs := (fs.take k).flatMap fileC) E.file rfl (.const (.slice none 0 0)) (.tmp 128) rfl ?hd (World.ownsRow_nil _ _ _ _) ?hx (HR1v.out _ (Gr.refl _).drew) ?ha fileC_one ?hb ?hm ?hB ?_; (case hd => rfl); (case hx => simp [Act.eval, Act.put]); (case ha => intro h; cases h); (case hb => omega); (case hm => exact HM1.out); (case hB => exact Nat.le_refl _); intro A5 k5 w9 hown5 hg5; have g9 : Gr wv w9 := Gr.grown (Gr.refl wv).drew hg5 (fun k hk => by simp [Value.ownBlock] at hk); have c09 : w9.cell? ⟨p, 0, none⟩ = some (.slice (some ⟨b, off, none⟩) n cap) := (HB.out.gr (HGV.out.trans g9)).cell 0)
                | (refine step_append_row (w := w9) (B := wv.heap.size) (A0 := A5) (n0 := 0 + k) (cap0 := k5) (A := some ⟨b, off + (k + 1) * 3, none⟩) (n := n - (k + 1)) (c := cap - (k + 1)) (vs := (fs.drop (k + 1)).flatMap fileC) E.file rfl (.tmp 129) (.tmp 134) rfl ?hd hown5 ?hx (HRR2.out _ g9) ?ha fileC_one ?hb ?hm ?hB ?_; (case hd => simp [Act.eval, Act.put]); (case hx => simp [Act.eval, Act.put]; try omega); (case ha => intro h; cases h); (case hb => omega); (case hm => exact HM2.out); (case hB => exact g9.size); intro A6 k6 w6 hown6 hg6; have g6 : Gr wv w6 := Gr.grown g9 hg6 (fun k hk => (hown5.lt k hk).1); have hbq := HDV.out.blk.gr g6; have hbr := HFB.out.gr g6; have q06 : w6.cell? ⟨q, 0, none⟩ = some (.slice A1 n cap1) := hbq.cell 0; have fq6 : w6.frozen? ⟨q, 0, none⟩ = false := hbq.frozen 0; have r06 : w6.cell? ⟨r, 0, none⟩ = some (.string (bs nm)) := hbr.cell 0; have r16 : w6.cell? ⟨r, 1, none⟩ = some (.string (bs sf)) := hbr.cell 1; have r26 : w6.cell? ⟨r, 2, none⟩ = some (.string (bs tl)) := hbr.cell 2; have fr6 : w6.frozen? ⟨r, 0, none⟩ = false := hbr.frozen 0))
              all_goals
                have hown7 : w6.ownsRow wv.heap.size 89 3 (.slice A6 (k + (n - (k + 1))) k6) (k + (n - (k + 1))) ((fs.eraseIdx k).flatMap fileC) := by simpa [erase_flat] using hown6
                have HPU := sec (HPU0.out A6 (k + (n - (k + 1))) k6 w6 g6 hown7)
                go_wp2_with (go_at_call 120; refine HPU.out.mono ?_; rintro e w8 ⟨A8, n8, k8, rfl, hown8, _, g8, hb8, hbq8, hbp8⟩; have q08 : w8.cell? ⟨q, 0, none⟩ = some (.slice A6 (k + (n - (k + 1))) k6) := hbq8.cell 0; have q18 : w8.cell? ⟨q, 1, none⟩ = some (.int .i64 u) := hbq8.cell 1; have fq8 : w8.frozen? ⟨q, 0, none⟩ = false := hbq8.frozen 0; have d208 : w8.cell? ⟨p + 1, 0, none⟩ = some (.slice none 0 0) := hbp8.cell 0; have d218 : w8.cell? ⟨p + 1, 1, none⟩ = some (.int .i64 0) := hbp8.cell 1; have f208 : w8.frozen? ⟨p + 1, 0, none⟩ = false := hbp8.frozen 0; have f218 : w8.frozen? ⟨p + 1, 1, none⟩ = false := hbp8.frozen 1)
                have hE := do_end g8 (by omega) (by omega) hbp8 hbq8 hpq1 hown8 hb8 u (.slice A8 n8 k8)
                refine bodyPost_ret (results_blk_tmp rfl _ rfl hE.1 aggDisk) rfl ?_
                rw [HR.out]
                exact ⟨A8, _, k8, rfl, hE.2.1, hE.2.2.2, .inr hE.2.2.1⟩
end Go.Proofs.YtmgpllakpgjicaaDoor

namespace Go.Proofs.YtmgpllakpgjicaaDoor
open Go.RowKit
set_option linter.unusedVariables false
set_option maxRecDepth 100000 in
set_option maxHeartbeats 4000000 in
theorem do3_any (name s : List UInt8) (fs : List Fl) (A : Option Addr) (n cap : Nat) (f : Int) (w : World) (hn : n ≤ 1099511627776) (hnc : n ≤ cap) (hx : FRow w A n fs) (hA : A = none → n = 0 ∧ cap = 0) (hs : ∀ f ∈ fs, f.1.length ≤ 1099511627776 ∧ f.2.1.length ≤ 1099511627776 ∧ f.2.2.length ≤ 1099511627776)
    (hf : -9223372036854775808 ≤ f ∧ f ≤ 9223372036854775807) (hl1 : name.length ≤ 1099511627776) (hl2 : s.length ≤ 1099511627776) :
    Calls Tryd.prog 95 #[.int .i64 3, diskV A n cap f, .string (bs name), .string (bs s)] w (StepPost (stepR (rmF name) fs f) A n cap fs w) := by
  have hg0 := ((Gr.refl w).alloc (.cells #[.slice A n cap, .int .i64 f] 43)).alloc (.cells #[.slice none 0 0, .int .i64 0] 43)
  have hb1 := (Blk.new w 43 #[.slice A n cap, .int .i64 f]).alloc (.cells #[.slice none 0 0, .int .i64 0] 43)
  have hb2 := Blk.new1 w (.cells #[.slice A n cap, .int .i64 f] 43) 43 #[.slice none 0 0, .int .i64 0]
  have HG := sec (drgood_any fs A n cap f _ hn (hx.gr hg0) hs)
  have hl := hx.len
  have HX := sec (hx.gr hg0)
  obtain ⟨wa, hwa⟩ : ∃ x, x = (w.alloc (.cells #[.slice A n cap, .int .i64 f] 43)).alloc (.cells #[.slice none 0 0, .int .i64 0] 43) := ⟨_, rfl⟩
  rw [← hwa] at hg0 hb1 hb2 HG HX
  obtain ⟨p, hp⟩ : ∃ p, p = w.heap.size := ⟨_, rfl⟩
  have hwp : w.heap.size ≤ p := by omega
  rw [← hp] at hb1 hb2
  have c0 : wa.cell? ⟨p, 0, none⟩ = some (.slice A n cap) := hb1.cell 0
  have c1 : wa.cell? ⟨p, 1, none⟩ = some (.int .i64 f) := hb1.cell 1
  have HB := sec hb1
  have HR2 := sec hb2
  have HX0 := sec hx
  have HA := sec hA
  clear hb1 hb2 hs hx
  unfold diskV at HG
  unfold diskV
  have HW : Sec (∀ w1, Gr wa w1 → Blk ((w1.setCell ⟨p + 1, 0, none⟩ (.slice A n cap)).setCell ⟨p + 1, 1, none⟩ (.int .i64 f)) (p + 1) 43 #[.slice A n cap, .int .i64 f]) := sec fun w1 g1 => ((HR2.out.gr g1).set_ 0 (.slice A n cap)).set_ 1 (.int .i64 f)
  have HV : Sec (∀ w1, Gr wa w1 → Gr w ((w1.setCell ⟨p + 1, 0, none⟩ (.slice A n cap)).setCell ⟨p + 1, 1, none⟩ (.int .i64 f))) := sec fun w1 g1 => ((hg0.trans g1).setCell (p := ⟨p + 1, 0, none⟩) (by show w.heap.size ≤ p + 1; omega) _).setCell (p := ⟨p + 1, 1, none⟩) (by show w.heap.size ≤ p + 1; omega) _
  cases hgf : goodFs fs with
  | false =>
    have HR : Sec (stepR (rmF name) fs f = (fs, f, 3)) := sec (by unfold stepR; rw [hgf]; rfl)
    rw [HR.out]
    rw [hgf] at HG
    clear hgf
    go_enter Tryd.func95, Tryd.ntmps95
    go_wp2_with (first | (rw [← hwa, ← hp]; clear hwa hp; go_wp2_with fail) | (go_at_call 92; refine Calls.mono HG.out ?_; rintro e w1 ⟨rfl, g1⟩; have c0y : w1.cell? ⟨p, 0, none⟩ = some (.slice A n cap) := (HB.out.gr g1).cell 0; have c1y : w1.cell? ⟨p, 1, none⟩ = some (.int .i64 f) := (HB.out.gr g1).cell 1; have d20 : w1.cell? ⟨p + 1, 0, none⟩ = some (.slice none 0 0) := (HR2.out.gr g1).cell 0; have d21 : w1.cell? ⟨p + 1, 1, none⟩ = some (.int .i64 0) := (HR2.out.gr g1).cell 1; have f20 : w1.frozen? ⟨p + 1, 0, none⟩ = false := (HR2.out.gr g1).frozen 0; have f21 : w1.frozen? ⟨p + 1, 1, none⟩ = false := (HR2.out.gr g1).frozen 1))
    refine bodyPost_ret (results_blk_tmp rfl _ rfl (HW.out w1 g1) aggDisk) rfl ?_
    exact ⟨A, n, cap, rfl, HV.out w1 g1, HA.out, .inl ⟨rfl, rfl, rfl, rfl⟩⟩
  | true =>
    rw [hgf] at HG
    by_cases hf0 : f = 0
    · have HR : Sec (stepR (rmF name) fs f = (fs, f, 12)) := sec (by unfold stepR; rw [hgf, hf0]; rfl)
      rw [HR.out]
      clear hgf
      subst hf0
      go_enter Tryd.func95, Tryd.ntmps95
      go_wp2_with (first | (rw [← hwa, ← hp]; clear hwa hp; go_wp2_with fail) | (go_at_call 92; refine Calls.mono HG.out ?_; rintro e w1 ⟨rfl, g1⟩; have c0y : w1.cell? ⟨p, 0, none⟩ = some (.slice A n cap) := (HB.out.gr g1).cell 0; have c1y : w1.cell? ⟨p, 1, none⟩ = some (.int .i64 0) := (HB.out.gr g1).cell 1; have d20 : w1.cell? ⟨p + 1, 0, none⟩ = some (.slice none 0 0) := (HR2.out.gr g1).cell 0; have d21 : w1.cell? ⟨p + 1, 1, none⟩ = some (.int .i64 0) := (HR2.out.gr g1).cell 1; have f20 : w1.frozen? ⟨p + 1, 0, none⟩ = false := (HR2.out.gr g1).frozen 0; have f21 : w1.frozen? ⟨p + 1, 1, none⟩ = false := (HR2.out.gr g1).frozen 1))
      refine bodyPost_ret (results_blk_tmp rfl _ rfl (HW.out w1 g1) aggDisk) rfl ?_
      exact ⟨A, n, cap, rfl, HV.out w1 g1, HA.out, .inl ⟨rfl, rfl, rfl, rfl⟩⟩
    · have HGF := sec hgf
      have HF0 := sec hf0
      have HSO := sec (goodFs_sorted hgf)
      have hl400 : n ≤ 400 := by have := goodFs_len hgf; omega
      clear hgf
      obtain ⟨u, hu⟩ : ∃ u, u = (if 0 < f then f - 1 else f) := ⟨_, rfl⟩
      have HU := sec hu
      clear hu
      have HERR : Sec (∀ E, (rmF name fs).2 = E → E ≠ 0 → stepR (rmF name) fs f = (fs, f, E)) := sec (fun E h h0 => by unfold stepR; rw [HGF.out, if_pos rfl, if_neg HF0.out, if_neg (by rw [h]; exact h0), h])
      have HOK : Sec (∀ R, (rmF name fs) = (R, 0) → stepR (rmF name) fs f = (R, u, 0)) := sec (fun R h => by unfold stepR; rw [HGF.out, if_pos rfl, if_neg HF0.out, if_pos (by rw [h]), h, HU.out])
      go_enter Tryd.func95, Tryd.ntmps95
      go_upto_if 27 with (first | (rw [← hwa, ← hp]; clear hwa hp; go_wp2_with fail) | (go_at_call 92; refine Calls.mono HG.out ?_; rintro e w1 ⟨rfl, g1⟩; have c0y : w1.cell? ⟨p, 0, none⟩ = some (.slice A n cap) := (HB.out.gr g1).cell 0; have c1y : w1.cell? ⟨p, 1, none⟩ = some (.int .i64 f) := (HB.out.gr g1).cell 1) | (go_at_call 22; refine Calls.mono (copyDisk_any fs A n cap f w1 hn (HX.out.gr g1) HA.out) ?_; unfold diskV; rintro e w2 ⟨A1, cap1, rfl, ho, hA1, g2⟩))
      have hqb := Blk.new w2 43 #[.slice A1 n cap1, .int .i64 f]
      have hoq := own_gr ho ((Gr.refl w2).alloc (.cells #[.slice A1 n cap1, .int .i64 f] 43))
      have gq := g2.alloc (.cells #[.slice A1 n cap1, .int .i64 f] 43)
      obtain ⟨wq, hwq⟩ : ∃ x, x = w2.alloc (.cells #[.slice A1 n cap1, .int .i64 f] 43) := ⟨_, rfl⟩
      obtain ⟨q, hq⟩ : ∃ q, q = w2.heap.size := ⟨_, rfl⟩
      have hq1 : w1.heap.size ≤ q := by have := g2.size; omega
      rw [← hwq] at hqb hoq gq
      rw [← hq] at hqb
      rw [← hwq, ← hq]
      have HDQ : Sec (DOwn wq w1.heap.size q A1 n cap1 f fs) := sec ⟨hqb, hoq, hq1⟩
      have HG1 := sec g1
      have hpq : p + 1 < w1.heap.size := (HR2.out.gr g1).lt
      clear hwq hq hqb hoq ho g2 hA1
      have dq0 : wq.cell? ⟨q, 0, none⟩ = some (.slice A1 n cap1) := HDQ.out.blk.cell 0
      have dq1 : wq.cell? ⟨q, 1, none⟩ = some (.int .i64 f) := HDQ.out.blk.cell 1
      have fq1 : wq.frozen? ⟨q, 1, none⟩ = false := HDQ.out.blk.frozen 1
      go_cut [] from 28 to 144 (fun wx => Sec (DOwn wx w1.heap.size q A1 n cap1 u fs) ∧ Gr w1 wx)
      case first =>
        by_cases hpos : 0 < f
        · have hwr : IntKind.i64.wrap (f - 1) = f - 1 := IntWalk.i64_in _ (by omega)
          have hu : u = f - 1 := by rw [HU.out, if_pos hpos]
          go_wp2_with fail
          go_meet
          rw [hu]
          exact ⟨sec ⟨HDQ.out.blk.set_ 1 _, ownsRow_setCell_other HDQ.out.own (a := ⟨q, 1, none⟩) HDQ.out.ne _, HDQ.out.base⟩, gq.setCell (p := ⟨q, 1, none⟩) hq1 _⟩
        · have hu : u = f := by rw [HU.out, if_neg hpos]
          go_wp2_with fail
          go_meet
          rw [hu]
          exact ⟨HDQ, gq⟩
      case rest =>
        obtain ⟨HDC, gc⟩ := hcut
        clear dq0 dq1 fq1 c0y c1y HDQ gq g1
        have c0y : wc.cell? ⟨p, 0, none⟩ = some (.slice A n cap) := (HB.out.gr (HG1.out.trans gc)).cell 0
        have c1y : wc.cell? ⟨p, 1, none⟩ = some (.int .i64 f) := (HB.out.gr (HG1.out.trans gc)).cell 1
        go_upto_region 9 with (go_at_call 94; refine Calls.mono (at_any fs name A n cap f wc hn (HX.out.gr (HG1.out.trans gc)) HSO.out) ?_; rintro e w4 ⟨rfl, g4⟩)
        have gg4 : Gr w1 w4 := gc.trans g4
        have HD4 := sec (HDC.out.gr g4)
        have HG4 := sec (HG1.out.trans gg4)
        have HGG4 := sec gg4
        clear c0y c1y gc g4 HDC HG1
        have c04 : w4.cell? ⟨p, 0, none⟩ = some (.slice A n cap) := (HB.out.gr HG4.out).cell 0
        have c14 : w4.cell? ⟨p, 1, none⟩ = some (.int .i64 f) := (HB.out.gr HG4.out).cell 1
        have d20 : w4.cell? ⟨p + 1, 0, none⟩ = some (.slice none 0 0) := (HR2.out.gr HG4.out).cell 0
        have d21 : w4.cell? ⟨p + 1, 1, none⟩ = some (.int .i64 0) := (HR2.out.gr HG4.out).cell 1
        have f20 : w4.frozen? ⟨p + 1, 0, none⟩ = false := (HR2.out.gr HG4.out).frozen 0
        have f21 : w4.frozen? ⟨p + 1, 1, none⟩ = false := (HR2.out.gr HG4.out).frozen 1
        have q04 : w4.cell? ⟨q, 0, none⟩ = some (.slice A1 n cap1) := HD4.out.blk.cell 0
        have q14 : w4.cell? ⟨q, 1, none⟩ = some (.int .i64 u) := HD4.out.blk.cell 1
        have fq4 : w4.frozen? ⟨q, 0, none⟩ = false := HD4.out.blk.frozen 0
        cases hhf : hasF name fs with
        | false =>
          have hai : atI name fs = -1 := by unfold atI; rw [hhf]; rfl
          have HR := sec (HERR.out 7 (by unfold rmF; rw [hhf]; rfl) (by decide))
          rw [hai]
          clear hhf
          go_wp2_with fail
          refine bodyPost_ret (results_blk_tmp rfl _ rfl (HW.out w4 HG4.out) aggDisk) rfl ?_
          rw [HR.out]
          exact ⟨A, n, cap, rfl, HV.out w4 HG4.out, HA.out, .inl ⟨rfl, rfl, rfl, rfl⟩⟩
        | true =>
          have hlt := hasF_lt HSO.out hhf
          obtain ⟨k, hk⟩ : ∃ k, k = lbF name fs := ⟨_, rfl⟩
          have hai : atI name fs = k := by unfold atI; rw [hhf, hk]; rfl
          have HR := sec (HOK.out (fs.eraseIdx k) (by unfold rmF; rw [hhf, if_pos rfl, hk]))
          rw [← hk] at hlt
          obtain ⟨hkf, hnm⟩ := hlt
          rw [hai]
          clear hai hk hhf hnm
          have hkn : k < n := by omega
          obtain ⟨b, off, rfl, e0, e1, e2⟩ := (HX.out.gr HG4.out).cell hkf
          clear e0 e1 e2
          have hkn1 : (k : Int) < (n : Int) := by omega
          have hwk : IntKind.i64.wrap ((k : Int) + 1) = (k : Int) + 1 := IntWalk.i64_in _ (by omega)
          have hc1 : (k : Int) ≤ (cap : Int) := by omega
          have HR1 : Sec (∀ W, Gr w4 W → Row W 3 (some ⟨b, off, none⟩) k ((fs.take k).flatMap fileC)) := sec (fun W g => (HX.out.gr (HG4.out.trans g)).take k (by omega))
          have hpq1 : p + 1 ≠ q := by omega
          have HM1 : Sec (0 + k ≤ maxLen) := sec (Nat.le_trans (show 0 + k ≤ 4096 by omega) (by decide))
          have HM2 : Sec (0 + k + (n - (k + 1)) ≤ maxLen) := sec (Nat.le_trans (show 0 + k + (n - (k + 1)) ≤ 4096 by omega) (by decide))
          have hb10 : (k : Int) ≤ (k : Int) + 1 := by omega
          have hk0 : (0 : Int) ≤ (k : Int) + 1 := by omega
          have hk3 : (k : Int) + 1 ≤ (n : Int) := by omega
          have hk4 : (n : Int) ≤ (cap : Int) := by omega
          have hkt : ((k : Int) + 1).toNat = k + 1 := by omega
          by_cases hcap : cap = k + 1
          · subst hcap
            obtain rfl : n = k + 1 := by omega
            have HM2 : Sec (0 + k + 0 ≤ maxLen) := HM1
            have HRR2 : Sec (∀ W, Gr w4 W → Row W 3 (some ⟨b, off, none⟩) 0 ((fs.drop (k + 1)).flatMap fileC)) := sec (fun W g => FRow.none (k + 1) (by omega))
            go_wp2_with fail
            go_region_law (first
              | (refine step_append_row (w := w4.drew) (B := w4.heap.size) (A0 := none) (n0 := 0) (cap0 := 0) (xs := []) (A := some ⟨b, off, none⟩) (n := k) (c := k + 1) (vs := (fs.take k).flatMap fileC) E.file rfl (.const (.slice none 0 0)) (.tmp 42) rfl ?hd (World.ownsRow_nil _ _ _ _) ?hx (HR1.out _ (Gr.refl _).drew) ?ha fileC_one ?hb ?hm ?hB ?_; (case hd => rfl); (case hx => simp [Act.eval, Act.put]); (case ha => intro h; cases h); (case hb => omega); (case hm => exact HM1.out); (case hB => exact Nat.le_refl _); intro A5 k5 w5 hown5 hg5; have g5 : Gr w4 w5 := Gr.grown (Gr.refl w4).drew hg5 (fun k hk => by simp [Value.ownBlock] at hk); have c05 : w5.cell? ⟨p, 0, none⟩ = some (.slice (some ⟨b, off, none⟩) (k + 1) (k + 1)) := (HB.out.gr (HG4.out.trans g5)).cell 0)
              | (refine step_append_row (w := w5) (B := w4.heap.size) (A0 := A5) (n0 := 0 + k) (cap0 := k5) (A := some ⟨b, off, none⟩) (n := 0) (c := 0) (vs := (fs.drop (k + 1)).flatMap fileC) E.file rfl (.tmp 43) (.tmp 48) rfl ?hd hown5 ?hx (HRR2.out _ g5) ?ha fileC_one ?hb ?hm ?hB ?_; (case hd => simp [Act.eval, Act.put]); (case hx => simp [Act.eval, Act.put]; try omega); (case ha => intro h; cases h); (case hb => omega); (case hm => exact HM2.out); (case hB => exact g5.size); intro A6 k6 w6 hown6 hg6; have g6 : Gr w4 w6 := Gr.grown g5 hg6 (fun k hk => (hown5.lt k hk).1); have hbq := HD4.out.blk.gr g6; have hbp := HR2.out.gr (HG4.out.trans g6); have q06 : w6.cell? ⟨q, 0, none⟩ = some (.slice A1 (k + 1) cap1) := hbq.cell 0; have q16 : w6.cell? ⟨q, 1, none⟩ = some (.int .i64 u) := hbq.cell 1; have fq6 : w6.frozen? ⟨q, 0, none⟩ = false := hbq.frozen 0; have d206 : w6.cell? ⟨p + 1, 0, none⟩ = some (.slice none 0 0) := hbp.cell 0; have d216 : w6.cell? ⟨p + 1, 1, none⟩ = some (.int .i64 0) := hbp.cell 1; have f206 : w6.frozen? ⟨p + 1, 0, none⟩ = false := hbp.frozen 0; have f216 : w6.frozen? ⟨p + 1, 1, none⟩ = false := hbp.frozen 1))
            all_goals
              go_wp2_with fail
              have hown7 : w6.ownsRow w4.heap.size 89 3 (.slice A6 (k) k6) (k) ((fs.eraseIdx k).flatMap fileC) := by simpa [erase_flat] using hown6
              have hE := do_end (hg0.trans (HG4.out.trans g6)) (by omega) (by omega) hbp hbq hpq1 hown7 (hg0.trans HG4.out).size u (.slice A6 (k) k6)
              refine bodyPost_ret (results_blk_tmp rfl _ rfl hE.1 aggDisk) rfl ?_
              rw [HR.out]
              exact ⟨A6, _, k6, rfl, hE.2.1, hE.2.2.2, .inr hE.2.2.1⟩
          · have HRR2 : Sec (∀ W, Gr w4 W → Row W 3 (some ⟨b, off + (k + 1) * 3, none⟩) (n - (k + 1)) ((fs.drop (k + 1)).flatMap fileC)) := sec (fun W g => (HX.out.gr (HG4.out.trans g)).drop (k + 1) (by omega))
            go_wp2_with fail
            go_region_law (first
              | (refine step_append_row (w := w4.drew) (B := w4.heap.size) (A0 := none) (n0 := 0) (cap0 := 0) (xs := []) (A := some ⟨b, off, none⟩) (n := k) (c := cap) (vs := (fs.take k).flatMap fileC) E.file rfl (.const (.slice none 0 0)) (.tmp 42) rfl ?hd (World.ownsRow_nil _ _ _ _) ?hx (HR1.out _ (Gr.refl _).drew) ?ha fileC_one ?hb ?hm ?hB ?_; (case hd => rfl); (case hx => simp [Act.eval, Act.put]); (case ha => intro h; cases h); (case hb => omega); (case hm => exact HM1.out); (case hB => exact Nat.le_refl _); intro A5 k5 w5 hown5 hg5; have g5 : Gr w4 w5 := Gr.grown (Gr.refl w4).drew hg5 (fun k hk => by simp [Value.ownBlock] at hk); have c05 : w5.cell? ⟨p, 0, none⟩ = some (.slice (some ⟨b, off, none⟩) n cap) := (HB.out.gr (HG4.out.trans g5)).cell 0)
              | (refine step_append_row (w := w5) (B := w4.heap.size) (A0 := A5) (n0 := 0 + k) (cap0 := k5) (A := some ⟨b, off + (k + 1) * 3, none⟩) (n := n - (k + 1)) (c := cap - (k + 1)) (vs := (fs.drop (k + 1)).flatMap fileC) E.file rfl (.tmp 43) (.tmp 48) rfl ?hd hown5 ?hx (HRR2.out _ g5) ?ha fileC_one ?hb ?hm ?hB ?_; (case hd => simp [Act.eval, Act.put]); (case hx => simp [Act.eval, Act.put]; try omega); (case ha => intro h; cases h); (case hb => omega); (case hm => exact HM2.out); (case hB => exact g5.size); intro A6 k6 w6 hown6 hg6; have g6 : Gr w4 w6 := Gr.grown g5 hg6 (fun k hk => (hown5.lt k hk).1); have hbq := HD4.out.blk.gr g6; have hbp := HR2.out.gr (HG4.out.trans g6); have q06 : w6.cell? ⟨q, 0, none⟩ = some (.slice A1 n cap1) := hbq.cell 0; have q16 : w6.cell? ⟨q, 1, none⟩ = some (.int .i64 u) := hbq.cell 1; have fq6 : w6.frozen? ⟨q, 0, none⟩ = false := hbq.frozen 0; have d206 : w6.cell? ⟨p + 1, 0, none⟩ = some (.slice none 0 0) := hbp.cell 0; have d216 : w6.cell? ⟨p + 1, 1, none⟩ = some (.int .i64 0) := hbp.cell 1; have f206 : w6.frozen? ⟨p + 1, 0, none⟩ = false := hbp.frozen 0; have f216 : w6.frozen? ⟨p + 1, 1, none⟩ = false := hbp.frozen 1))
            all_goals
              go_wp2_with fail
              have hown7 : w6.ownsRow w4.heap.size 89 3 (.slice A6 (k + (n - (k + 1))) k6) (k + (n - (k + 1))) ((fs.eraseIdx k).flatMap fileC) := by simpa [erase_flat] using hown6
              have hE := do_end (hg0.trans (HG4.out.trans g6)) (by omega) (by omega) hbp hbq hpq1 hown7 (hg0.trans HG4.out).size u (.slice A6 (k + (n - (k + 1))) k6)
              refine bodyPost_ret (results_blk_tmp rfl _ rfl hE.1 aggDisk) rfl ?_
              rw [HR.out]
              exact ⟨A6, _, k6, rfl, hE.2.1, hE.2.2.2, .inr hE.2.2.1⟩
end Go.Proofs.YtmgpllakpgjicaaDoor

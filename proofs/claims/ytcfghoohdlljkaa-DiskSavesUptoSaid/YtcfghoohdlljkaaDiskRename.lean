/-
  disk.Rename by its contract.
-/
import Derived.Test.YtcfghoohdlljkaaDiskRemove
namespace Go.Proofs.Ytcfghoohdlljkaa
open Go.RowKit
set_option linter.unusedVariables false

theorem SortedF.erase {fs : List Fl} (h : SortedF fs) (k : Nat) : SortedF (fs.eraseIdx k) := h.sublist (List.eraseIdx_sublist fs k)
def rnTo (dst : List UInt8) (f : Fl) (g : List Fl) : List Fl := if hasF dst g then g.set (lbF dst g) (dst, f.2) else insF (lbF dst g) (dst, f.2) g
/-- P6.4 within the power -/
def rnF (frm dst : List UInt8) (fs : List Fl) : List Fl × Int :=
  if namedB dst then
    (if hasF frm fs then (rnTo dst (fs.getD (lbF frm fs) ([], [], [])) (fs.eraseIdx (lbF frm fs)), 0) else (fs, 7))
  else (fs, 2)
theorem own_file3 {w : World} {B e n cap g : Nat} {fs : List Fl} (h : w.ownsRow B e 3 (.slice (some ⟨g, 0, none⟩) n cap) n (fs.flatMap fileC)) (i : Nat) (x : Fl) (nm sf tl : List UInt8) (hi : fs[i]? = some x) :
    (((w.setCell ⟨g, i * 3, none⟩ (.string (bs nm))).setCell ⟨g, i * 3 + 1, none⟩ (.string (bs sf))).setCell ⟨g, i * 3 + 2, none⟩ (.string (bs tl))).ownsRow B e 3 (.slice (some ⟨g, 0, none⟩) n cap) n ((fs.set i (nm, sf, tl)).flatMap fileC) := by
  obtain ⟨a, b, c⟩ := x
  obtain ⟨hl, hg⟩ := List.getElem?_eq_some_iff.1 hi
  have hfl : (fs.flatMap fileC).length = fs.length * 3 := flat_len fileC 3 (fun _ => rfl) fs
  have o1 := own_set h (i * 3 + 0) (by rw [hfl]; omega) (.string (bs nm))
  rw [flat_set fs i hl 0 (.string (bs nm)) (nm, b, c) (by omega) (by rw [hg]; rfl)] at o1
  have := own_file2 o1 i nm b c sf tl (by rw [List.getElem?_set_self hl])
  rw [List.set_set] at this
  exact this

set_option maxRecDepth 100000 in
set_option maxHeartbeats 4000000 in
theorem rename1_any (frm dst : List UInt8) (c1 c2 : Nat) (w0 : World) (h1 : w0.cell? ⟨c1, 0, none⟩ = some (.string (bs dst))) (h2 : w0.cell? ⟨c2, 0, none⟩ = some (.string (bs frm))) (hl1 : dst.length ≤ 1099511627776) :
    Steps 53 #[.pointer (some ⟨c1, 0, none⟩), .pointer (some ⟨c2, 0, none⟩)] (rnF frm dst) w0 := by
  intro wb w q A n cap u fs g0 gc hd hgf
  show Calls Try.prog 53 #[.pointer (some ⟨q, 0, none⟩), .pointer (some ⟨c1, 0, none⟩), .pointer (some ⟨c2, 0, none⟩)] w _
  have hl := hd.len
  have hl400 : fs.length ≤ 400 := goodFs_len hgf
  have HE1 : Sec (∀ W, Gr wb W → W.cell? ⟨c1, 0, none⟩ = some (.string (bs dst))) := sec (fun W g => ((g0.trans g).cells.1 c1 _ (World.block_lt_of_cell? w0 _ h1)).trans h1)
  have HE2 : Sec (∀ W, Gr wb W → W.cell? ⟨c2, 0, none⟩ = some (.string (bs frm))) := sec (fun W g => ((g0.trans g).cells.1 c2 _ (World.block_lt_of_cell? w0 _ h2)).trans h2)
  have HN := sec (fun w => named_any dst w (by omega))
  have HD := sec hd
  have HS := sec (goodFs_sorted hgf)
  have HGC := sec gc
  have HGF := sec hgf
  have e1 := HE1.out w gc
  clear h1 h2 g0 gc hd hgf
  cases hnb : namedB dst with
  | false =>
    have HR : Sec (rnF frm dst fs = (fs, 2)) := sec (by unfold rnF; rw [hnb]; rfl)
    rw [HR.out]
    rw [hnb] at HN
    go_enter Try.func53, Try.ntmps53
    go_wp2_with (go_at_call 48; refine (HN.out _).mono ?_; rintro e w1 ⟨rfl, g1⟩)
    go_ret
    exact ⟨rfl, HGC.out.trans g1, fun h => by cases h⟩
  | true =>
    rw [hnb] at HN
    have HNB := sec hnb
    clear hnb
    obtain ⟨k, hk⟩ : ∃ k, k = lbF frm fs := ⟨_, rfl⟩
    have HK := sec hk
    clear hk
    obtain ⟨B, hB⟩ : ∃ B, B = hasF frm fs := ⟨_, rfl⟩
    have HB := sec hB
    clear hB
    go_enter Try.func53, Try.ntmps53
    go_upto_region 3 with (go_at_call 48; refine (HN.out _).mono ?_; rintro e w1 ⟨rfl, g1⟩)
    have HD1 := sec (HD.out.gr g1)
    have d0 : w1.cell? ⟨q, 0, none⟩ = some (.slice A n cap) := HD1.out.blk.cell 0
    have d1 : w1.cell? ⟨q, 1, none⟩ = some (.int .i64 u) := HD1.out.blk.cell 1
    have e2y : w1.cell? ⟨c2, 0, none⟩ = some (.string (bs frm)) := HE2.out _ (HGC.out.trans g1)
    go_cut [5, 6] from 8 to 67 (fun v5 v6 wx => v5 = .int .i64 (k : Int) ∧ v6 = .bool B ∧ Gr w1 wx)
    case first =>
      go_region_with (go_at_call 45; refine (find_any fs frm A n cap u w1.drew (by omega) (FRow.gr (Row.own HD1.out.own) (Gr.refl _).drew) HS.out).mono ?_; rw [← HK.out, ← HB.out]; rintro e w2 ⟨rfl, g2⟩)
      all_goals (go_wp2_with fail; go_meet; exact ⟨rfl, rfl, Gr.trans (Gr.refl _).drew g2⟩)
    case rest =>
      obtain ⟨rfl, rfl, gx⟩ := hcut
      have HDx := sec (HD1.out.gr gx)
      have gcx : Gr wb wc := HGC.out.trans (g1.trans gx)
      clear d0 d1 e2y
      cases B with
      | false =>
        have HR : Sec (rnF frm dst fs = (fs, 7)) := sec (by unfold rnF; rw [HNB.out, if_pos rfl, ← HB.out]; rfl)
        go_wp2_with fail
        go_ret
        rw [HR.out]
        exact ⟨rfl, gcx, fun h => by cases h⟩
      | true =>
        have hX := hasF_lt HS.out HB.out.symm
        rw [← HK.out] at hX
        obtain ⟨hkl, hnm⟩ := hX
        have hk2 : (k : Int) < (n : Int) := by omega
        obtain ⟨b, rfl, hBb, hbq, z0, z1, z2, zf⟩ := HDx.out.at hkl
        have hget : fs[k]? = some fs[k] := List.getElem?_eq_getElem hkl
        have hgd : fs.getD (lbF frm fs) ([], [], []) = fs[k] := by
          rw [← HK.out, List.getD_eq_getElem?_getD, hget]; rfl
        obtain ⟨x, hxx⟩ : ∃ x, x = fs[k] := ⟨_, rfl⟩
        rw [← hxx] at z0 z1 z2 hget hgd
        obtain ⟨nm, sf, tl⟩ := x
        simp only at z0 z1 z2
        have HR : Sec (rnF frm dst fs = (rnTo dst (nm, sf, tl) (fs.eraseIdx k), 0)) := sec (by unfold rnF; rw [HNB.out, if_pos rfl, ← HB.out, if_pos rfl, hgd, ← HK.out])
        have hkn : k < n := by omega
        clear hxx hnm hkl zf hget hgd
        have d0z : wc.cell? ⟨q, 0, none⟩ = some (.slice (some ⟨b, 0, none⟩) n cap) := HDx.out.blk.cell 0
        have HDE : Sec (∀ W, Gr wc W → Calls Try.prog 54 #[.slice (some ⟨b, 0, none⟩) n cap, .int .i64 (k : Int), .int .i64 ((k : Int) + 1)] W fun e w' =>
          e = .returned (.slice (some ⟨b, 0, none⟩) (n - 1) cap) ∧ w'.ownsRow wb.heap.size 70 3 (.slice (some ⟨b, 0, none⟩) (n - 1) cap) (n - 1) ((fs.eraseIdx k).flatMap fileC) ∧ W.grownBy w' (Value.ownBlock (.slice (some ⟨b, 0, none⟩) n cap))) := sec
          (fun W g => delete_any (some ⟨b, 0, none⟩) n cap k wb.heap.size fs W (HDx.out.gr g).own hkn (by omega))
        have hwr : IntKind.i64.wrap ((k : Int) + 1) = (k : Int) + 1 := IntWalk.i64_in _ (by omega)
        clear hkn
        have e1x : wc.cell? ⟨c1, 0, none⟩ = some (.string (bs dst)) := HE1.out _ gcx
        have e1w : (wc.alloc (.cells #[.string (bs nm), .string (bs sf), .string (bs tl)] 70)).cell? ⟨c1, 0, none⟩ = some (.string (bs dst)) := HE1.out _ (gcx.alloc _)
        have d0w : (wc.alloc (.cells #[.string (bs dst), .string (bs sf), .string (bs tl)] 70)).cell? ⟨q, 0, none⟩ = some (.slice (some ⟨b, 0, none⟩) n cap) := (HDx.out.blk.alloc _).cell 0
        have HFB : Sec (∀ w3, (wc.alloc (.cells #[.string (bs dst), .string (bs sf), .string (bs tl)] 70)).grownBy w3 (Value.ownBlock (.slice (some ⟨b, 0, none⟩) n cap)) → Blk w3 wc.heap.size 70 #[.string (bs dst), .string (bs sf), .string (bs tl)]) := sec (fun w3 hgr =>
          (Blk.new wc _ _).grown hgr (fun e => by have := (HDx.out.own.lt _ e.symm).2; omega))
        have HDA := sec (HDx.out.gr ((Gr.refl wc).alloc (.cells #[.string (bs dst), .string (bs sf), .string (bs tl)] 70)))
        have hqr : q < wc.heap.size := HDx.out.blk.lt
        go_upto_region 9 with (go_at_call 54; refine (HDE.out _ ((Gr.refl wc).alloc _)).mono ?_; rintro e w3 ⟨rfl, ho, hgr⟩; obtain ⟨hb3, hd3, hg3⟩ := HDA.out.del ho hgr; have d0y : w3.cell? ⟨q, 0, none⟩ = some (.slice (some ⟨b, 0, none⟩) n cap) := hb3.cell 0; have f0y : w3.frozen? ⟨q, 0, none⟩ = false := hb3.frozen 0)
        have hf6 := (HFB.out w3 hgr).far (p := ⟨q, 0, none⟩) (by show wc.heap.size ≠ q; omega) (.slice (some ⟨b, 0, none⟩) (n - 1) cap)
        have g6 := hg3 wb rfl (gcx.alloc _)
        obtain ⟨w6, hw6⟩ : ∃ x, x = w3.setCell ⟨q, 0, none⟩ (.slice (some ⟨b, 0, none⟩) (n - 1) cap) := ⟨_, rfl⟩
        obtain ⟨r, hr⟩ : ∃ r, r = wc.heap.size := ⟨_, rfl⟩
        rw [← hw6, ← hr] at hf6
        rw [← hw6] at hd3 g6
        rw [← hw6, ← hr]
        have HD6 := sec hd3
        have HF6 := sec hf6
        have HG6 := sec g6
        have hrb : wb.heap.size ≤ r := by have := gcx.size; omega
        clear hw6 hr hf6 hd3 g6 hg3 hb3 d0y f0y ho hgr HDE HFB HDA d0w e1w e1x d0z z0 z1 z2 hqr
        obtain ⟨m, hm⟩ : ∃ m, m = n - 1 := ⟨_, rfl⟩
        rw [← hm] at HD6
        rw [← hm]
        have hm400 : m ≤ 400 := by omega
        clear hm
        obtain ⟨g, hg⟩ : ∃ g, g = fs.eraseIdx k := ⟨_, rfl⟩
        have HSE : Sec (SortedF g) := sec (by rw [hg]; exact HS.out.erase k)
        rw [← hg] at HD6 HR
        clear hg
        obtain ⟨k2, hk2⟩ : ∃ k2, k2 = lbF dst g := ⟨_, rfl⟩
        obtain ⟨B2, hB2⟩ : ∃ B2, B2 = hasF dst g := ⟨_, rfl⟩
        have HK2 := sec hk2
        have HB2 := sec hB2
        have hgl := HD6.out.len
        clear hk2 hB2
        have d06 : w6.cell? ⟨q, 0, none⟩ = some (.slice (some ⟨b, 0, none⟩) m cap) := HD6.out.blk.cell 0
        have d16 : w6.cell? ⟨q, 1, none⟩ = some (.int .i64 u) := HD6.out.blk.cell 1
        have e16 : w6.cell? ⟨c1, 0, none⟩ = some (.string (bs dst)) := HE1.out _ HG6.out
        go_cut [5, 6] from 8 to 67 (fun v5 v6 wx => v5 = .int .i64 (k2 : Int) ∧ v6 = .bool B2 ∧ Gr w6 wx)
        case first =>
          go_region_with (go_at_call 45; refine (find_any g dst (some ⟨b, 0, none⟩) m cap u w6.drew (by omega) (FRow.gr (Row.own HD6.out.own) (Gr.refl _).drew) HSE.out).mono ?_; rw [← HK2.out, ← HB2.out]; rintro e w2 ⟨rfl, g2⟩)
          all_goals (go_wp2_with fail; go_meet; exact ⟨rfl, rfl, Gr.trans (Gr.refl _).drew g2⟩)
        case rest =>
          obtain ⟨rfl, rfl, gy⟩ := hcut
          clear d06 d16 e16
          have HDz := sec (HD6.out.gr gy)
          have HFz := sec (HF6.out.gr gy)
          have gz : Gr wb wc := HG6.out.trans gy
          have f0 : wc.cell? ⟨r, 0, none⟩ = some (.string (bs dst)) := HFz.out.cell 0
          have f1 : wc.cell? ⟨r, 1, none⟩ = some (.string (bs sf)) := HFz.out.cell 1
          have f2 : wc.cell? ⟨r, 2, none⟩ = some (.string (bs tl)) := HFz.out.cell 2
          have d0v : wc.cell? ⟨q, 0, none⟩ = some (.slice (some ⟨b, 0, none⟩) m cap) := HDz.out.blk.cell 0
          have dfv : wc.frozen? ⟨q, 0, none⟩ = false := HDz.out.blk.frozen 0
          cases B2 with
          | true =>
            have hX := hasF_lt HSE.out HB2.out.symm
            rw [← HK2.out] at hX
            obtain ⟨hkl2, hnm2⟩ := hX
            have hk4 : (k2 : Int) < (m : Int) := by omega
            obtain ⟨b2, hbe, _, _, z0, z1, z2, zf⟩ := HDz.out.at hkl2
            injection hbe with hbe
            injection hbe with hbe
            subst hbe
            have zf0 : wc.frozen? ⟨b, k2 * 3, none⟩ = false := zf 0 (by omega)
            have zf1 : wc.frozen? ⟨b, k2 * 3 + 1, none⟩ = false := zf 1 (by omega)
            have zf2 : wc.frozen? ⟨b, k2 * 3 + 2, none⟩ = false := zf 2 (by omega)
            have HR2 : Sec (rnTo dst (nm, sf, tl) g = g.set k2 (dst, sf, tl)) := sec (by unfold rnTo; rw [← HB2.out, if_pos rfl, ← HK2.out])
            go_wp2_with fail
            go_region
            go_wp2_with fail
            go_ret
            rw [HR.out, HR2.out]
            have hget2 : g[k2]? = some g[k2] := List.getElem?_eq_getElem hkl2
            have hd9 : DOwn (((wc.setCell ⟨b, k2 * 3, none⟩ (.string (bs dst))).setCell ⟨b, k2 * 3 + 1, none⟩ (.string (bs sf))).setCell ⟨b, k2 * 3 + 2, none⟩ (.string (bs tl))) wb.heap.size q (some ⟨b, 0, none⟩) m cap u (g.set k2 (dst, sf, tl)) :=
              ⟨((HDz.out.blk.far (p := ⟨b, k2 * 3, none⟩) (Ne.symm hbq) _).far (p := ⟨b, k2 * 3 + 1, none⟩) (Ne.symm hbq) _).far (p := ⟨b, k2 * 3 + 2, none⟩) (Ne.symm hbq) _, own_file3 HDz.out.own k2 _ dst sf tl hget2, HDz.out.base⟩
            exact ⟨rfl, (((gz.setCell (p := ⟨b, k2 * 3, none⟩) hBb _).setCell (p := ⟨b, k2 * 3 + 1, none⟩) hBb _).setCell (p := ⟨b, k2 * 3 + 2, none⟩) hBb _).drew, fun _ => ⟨_, _, _, hd9.gr (Gr.refl _).drew⟩⟩
          | false =>
            have hkn2 : k2 ≤ m := by rw [HK2.out, ← hgl]; exact lbF_le dst g
            have HINS : Sec (Calls Try.prog 51 #[.slice (some ⟨b, 0, none⟩) m cap, .int .i64 (k2 : Int), .slice (some ⟨wc.heap.size, 0, none⟩) 1 1] (wc.alloc (.cells #[.string (bs dst), .string (bs sf), .string (bs tl)] 70)).drew fun e w' =>
              ∃ A' cap', e = .returned (.slice A' (m + 1) cap') ∧ w'.ownsRow wb.heap.size 70 3 (.slice A' (m + 1) cap') (m + 1) ((insF k2 (dst, sf, tl) g).flatMap fileC) ∧ (wc.alloc (.cells #[.string (bs dst), .string (bs sf), .string (bs tl)] 70)).drew.grownBy w' (Value.ownBlock (.slice (some ⟨b, 0, none⟩) m cap))) := sec (by
              refine insert_any (some ⟨b, 0, none⟩) m cap k2 wc.heap.size 1 wb.heap.size g (dst, sf, tl) _ (own_gr HDz.out.own ((Gr.refl wc).alloc _).drew) hkn2 (by omega) ((Blk.new wc _ _).gr (Gr.refl _).drew) (fun h => ?_) ?_
              · have := (HDz.out.own.lt _ h).2; omega
              · have := gz.size; have := (((Gr.refl wc).alloc (.cells #[.string (bs dst), .string (bs sf), .string (bs tl)] 70)).drew).size; omega)
            have HI : Sec (∀ (A' : Option Addr) (cap' : Nat) (w3 : World) (o : Obj), w3.ownsRow wb.heap.size 70 3 (.slice A' (m + 1) cap') (m + 1) ((insF k2 (dst, sf, tl) g).flatMap fileC) → (wc.alloc o).drew.grownBy w3 (Value.ownBlock (.slice (some ⟨b, 0, none⟩) m cap)) →
              w3.cell? ⟨q, 0, none⟩ = some (.slice (some ⟨b, 0, none⟩) m cap) ∧ w3.frozen? ⟨q, 0, none⟩ = false ∧ Sec (DOwn (w3.setCell ⟨q, 0, none⟩ (.slice A' (m + 1) cap')) wb.heap.size q A' (m + 1) cap' u (insF k2 (dst, sf, tl) g) ∧ Gr wb (w3.setCell ⟨q, 0, none⟩ (.slice A' (m + 1) cap')))) := sec (fun A' cap' w3 o ho hgr => by
                obtain ⟨x1, x2, x3⟩ := HDz.out.ins ho hgr
                exact ⟨x1.cell 0, x1.frozen 0, sec ⟨x2, x3 wb rfl gz⟩⟩)
            have HR2 : Sec (rnTo dst (nm, sf, tl) g = insF k2 (dst, sf, tl) g) := sec (by unfold rnTo; rw [← HB2.out, ← HK2.out]; rfl)
            have d0w : (wc.alloc (.cells #[.string (bs dst), .string (bs sf), .string (bs tl)] 70)).cell? ⟨q, 0, none⟩ = some (.slice (some ⟨b, 0, none⟩) m cap) := (HDz.out.blk.alloc _).cell 0
            clear hkn2
            go_wp2_with fail
            go_region_with (go_at_call 51; refine HINS.out.mono ?_; rintro e w3 ⟨A', cap', rfl, ho, hgr⟩; obtain ⟨d0z, f0z, hend⟩ := HI.out A' cap' w3 _ ho hgr)
            all_goals (go_wp2_with fail; go_ret; rw [HR.out, HR2.out]; exact ⟨rfl, hend.out.2, fun _ => ⟨_, _, _, hend.out.1⟩⟩)

set_option maxRecDepth 100000 in
set_option maxHeartbeats 4000000 in
theorem rename_any (frm dst : List UInt8) (fs : List Fl) (A : Option Addr) (n cap : Nat) (f : Int) (w : World) (hn : n ≤ 1099511627776) (hx : FRow w A n fs) (hA : A = none → n = 0 ∧ cap = 0) (hs : ∀ f ∈ fs, f.1.length ≤ 1099511627776 ∧ f.2.1.length ≤ 1099511627776 ∧ f.2.2.length ≤ 1099511627776)
    (hf : -9223372036854775808 ≤ f ∧ f ≤ 9223372036854775807) (hl2 : dst.length ≤ 1099511627776) :
    Calls Try.prog 26 #[diskV A n cap f, .string (bs frm), .string (bs dst)] w (StepPost (stepR (rnF frm dst) fs f) A n cap fs w) := by
  have g1 := (Gr.refl w).alloc (.cells #[.slice A n cap, .int .i64 f] 37)
  have g2 := g1.alloc (.cells #[.string (bs frm)] 9)
  have g3 := g2.alloc (.cells #[.string (bs dst)] 9)
  have g4 := g3.alloc (.cells #[.slice none 0 0, .int .i64 0] 37)
  have b1 := (((Blk.new w 37 #[.slice A n cap, .int .i64 f]).alloc (.cells #[.string (bs frm)] 9)).alloc (.cells #[.string (bs dst)] 9)).alloc (.cells #[.slice none 0 0, .int .i64 0] 37)
  have b2 := ((Blk.new1 w (.cells #[.slice A n cap, .int .i64 f] 37) 9 #[.string (bs frm)]).alloc (.cells #[.string (bs dst)] 9)).alloc (.cells #[.slice none 0 0, .int .i64 0] 37)
  have b3 := (Blk.new2 w (.cells #[.slice A n cap, .int .i64 f] 37) (.cells #[.string (bs frm)] 9) 9 #[.string (bs dst)]).alloc (.cells #[.slice none 0 0, .int .i64 0] 37)
  have b4 := Blk.newAt (w := ((w.alloc (.cells #[.slice A n cap, .int .i64 f] 37)).alloc (.cells #[.string (bs frm)] 9)).alloc (.cells #[.string (bs dst)] 9)) (g := w.heap.size + 1 + 1 + 1) (by simp) 37 #[.slice none 0 0, .int .i64 0]
  obtain ⟨wa, hwa⟩ : ∃ x, x = (((w.alloc (.cells #[.slice A n cap, .int .i64 f] 37)).alloc (.cells #[.string (bs frm)] 9)).alloc (.cells #[.string (bs dst)] 9)).alloc (.cells #[.slice none 0 0, .int .i64 0] 37) := ⟨_, rfl⟩
  rw [← hwa] at b1 b2 b3 b4 g4
  obtain ⟨p, hp⟩ : ∃ p, p = w.heap.size := ⟨_, rfl⟩
  have hwp : w.heap.size ≤ p := by omega
  rw [← hp] at b1 b2 b3 b4
  have c0 : wa.cell? ⟨p, 0, none⟩ = some (.slice A n cap) := b1.cell 0
  have c1 : wa.cell? ⟨p, 1, none⟩ = some (.int .i64 f) := b1.cell 1
  have HS := sec (step_any 53 #[.pointer (some ⟨p + 1 + 1, 0, none⟩), .pointer (some ⟨p + 1, 0, none⟩)] (rnF frm dst) (enters_own Try.func53 (by kernel_rfl) rfl) fs A n cap f wa hn (hx.gr g4) hA hs hf (rename1_any frm dst (p + 1 + 1) (p + 1) wa (b3.cell 0) (b2.cell 0) hl2))
  have HB4 := sec b4
  have HG4 := sec g4
  clear hx hA hs g1 g2 g3 g4 b1 b2 b3 b4
  unfold diskV at HS
  unfold diskV
  have hmf : ∀ (fn : Fn) (first cap : Array Value) (w : World), (Instr.makeFunc fn first cap).run Try.prog w = .ok (.func fn first cap) w := fun _ _ _ _ => rfl
  obtain ⟨R, hR⟩ : ∃ R, R = stepR (rnF frm dst) fs f := ⟨_, rfl⟩
  rw [← hR] at HS
  rw [← hR]
  clear hR
  obtain ⟨fs', f', er⟩ := R
  go_enter Try.func26, Try.ntmps26
  go_wp2_with (first | (rw [← hwa, ← hp]; clear hwa hp; go_wp2_with fail) | (go_at_call 49; refine Calls.mono HS.out ?_; rintro e w5 ⟨A', n', cap', rfl, g5, hA', hrow⟩;  unfold diskV; have d0 : w5.cell? ⟨p + 1 + 1 + 1, 0, none⟩ = some (.slice none 0 0) := (HB4.out.gr g5).cell 0; have d1 : w5.cell? ⟨p + 1 + 1 + 1, 1, none⟩ = some (.int .i64 0) := (HB4.out.gr g5).cell 1; have f0 : w5.frozen? ⟨p + 1 + 1 + 1, 0, none⟩ = false := (HB4.out.gr g5).frozen 0; have f1 : w5.frozen? ⟨p + 1 + 1 + 1, 1, none⟩ = false := (HB4.out.gr g5).frozen 1))
  refine bodyPost_ret (results_blk_tmp rfl _ rfl (((HB4.out.gr g5).set_ 0 (.slice A' n' cap')).set_ 1 (.int .i64 f')) aggDisk) rfl ?_
  have hfin := StepPost.set2 (r := (fs', f', er)) (p := p + 1 + 1 + 1) HG4.out HB4.out.lt (by omega) g5 (.slice A' n' cap') (.int .i64 f') hrow
  exact ⟨A', n', cap', rfl, hfin.1, hA', hfin.2⟩
end Go.Proofs.Ytcfghoohdlljkaa

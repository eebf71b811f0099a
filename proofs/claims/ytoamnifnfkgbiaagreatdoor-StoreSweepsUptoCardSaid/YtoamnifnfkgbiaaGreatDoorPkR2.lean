/-
  PkR2: contracts and plain laws joined (20 texts). No conditions but those that each states.
-/
import Derived.Test.YtoamnifnfkgbiaaGreatDoorPkR3
import Derived.Deep.RegionLaw
import Derived.Test.YtoamnifnfkgbiaaGreatDoorRowsG
import Derived.ProofKit
import Derived.OpenShut
import Derived.ChangeOld
import Derived.Test.YtoamnifnfkgbiaaGreatDoorDiskA
import Derived.Test.YtoamnifnfkgbiaaGreatDoorEnd
import Derived.Test.YtoamnifnfkgbiaaGreatDoorSumL
namespace Go.Proofs.YtoamnifnfkgbiaaGreatDoor
open Go.RowKit
set_option linter.unusedVariables false
theorem DOwn.len {w : World} {B q n cap : Nat} {A : Option Addr} {u : Int} {fs : List Fl} (h : DOwn w B q A n cap u fs) : fs.length = n := FRow.len (Row.own h.own)
theorem DOwn.at {w : World} {B q n cap : Nat} {A : Option Addr} {u : Int} {fs : List Fl} (h : DOwn w B q A n cap u fs) {k : Nat} (hk : k < fs.length) :
    ∃ b, A = some ⟨b, 0, none⟩ ∧ B ≤ b ∧ b ≠ q ∧ w.cell? ⟨b, k * 3, none⟩ = some (.string (bs fs[k].1)) ∧ w.cell? ⟨b, k * 3 + 1, none⟩ = some (.string (bs fs[k].2.1)) ∧ w.cell? ⟨b, k * 3 + 2, none⟩ = some (.string (bs fs[k].2.2)) ∧
      (∀ j, j < 3 → w.frozen? ⟨b, k * 3 + j, none⟩ = false) := by
  have hl := h.len
  have hne := h.ne
  obtain ⟨b, off, e, h0, h1, h2⟩ := FRow.cell (Row.own h.own) hk
  rcases h.own.2 with ⟨_, h0⟩ | ⟨g, c, cur, ev, hB, hh, hle, hm, hs, ht⟩
  · omega
  · injection ev with e1 e2 e3
    rw [e1] at e
    injection e with e
    injection e with e4 e5
    subst e4 e5
    simp only [Nat.zero_add] at h0 h1 h2
    have hb : Blk w g 105 cur := hh
    exact ⟨g, e1, hB, fun e => hne (by rw [e1]; simp [Value.ownBlock, e]), h0, h1, h2, fun j hj => hb.frozen _⟩
theorem own_one {w : World} {B e n cap g : Nat} {fs : List Fl} (h : w.ownsRow B e 3 (.slice (some ⟨g, 0, none⟩) n cap) n (fs.flatMap fileC)) (i : Nat) (nm sf tl t : List UInt8) (hi : fs[i]? = some (nm, sf, tl)) :
    (w.setCell ⟨g, i * 3 + 2, none⟩ (.string (bs t))).ownsRow B e 3 (.slice (some ⟨g, 0, none⟩) n cap) n ((fs.set i (nm, sf, t)).flatMap fileC) := by
  obtain ⟨hl, hg⟩ := List.getElem?_eq_some_iff.1 hi
  have hfl : (fs.flatMap fileC).length = fs.length * 3 := flat_len fileC 3 (fun _ => rfl) fs
  have o1 := own_set h (i * 3 + 2) (by rw [hfl]; omega) (.string (bs t))
  rw [flat_set fs i hl 2 (.string (bs t)) (nm, sf, t) (by omega) (by rw [hg]; rfl)] at o1
  exact o1
theorem DOwn.tail {w : World} {B q n cap b : Nat} {u : Int} {fs : List Fl} (h : DOwn w B q (some ⟨b, 0, none⟩) n cap u fs) (i : Nat) (nm sf tl t : List UInt8) (hi : fs[i]? = some (nm, sf, tl)) (hb : b ≠ q) :
    DOwn (w.setCell ⟨b, i * 3 + 2, none⟩ (.string (bs t))) B q (some ⟨b, 0, none⟩) n cap u (fs.set i (nm, sf, t)) :=
  ⟨h.blk.far (p := ⟨b, i * 3 + 2, none⟩) (Ne.symm hb) _, own_one h.own i nm sf tl t hi, h.base⟩
/-- Insert of a file behind a literal slice, and the slice stored -/
theorem DOwn.ins {w w3 : World} {B q n cap cap' i : Nat} {A A' : Option Addr} {u : Int} {fs : List Fl} {f : Fl} {o : Obj} (h : DOwn w B q A n cap u fs) (ho : w3.ownsRow B 105 3 (.slice A' (n + 1) cap') (n + 1) ((insF i f fs).flatMap fileC))
    (hgr : (w.alloc o).drew.grownBy w3 (Value.ownBlock (.slice A n cap))) :
    Blk w3 q 24 #[.slice A n cap, .int .i64 u] ∧ DOwn (w3.setCell ⟨q, 0, none⟩ (.slice A' (n + 1) cap')) B q A' (n + 1) cap' u (insF i f fs) ∧ (∀ wc, wc.heap.size = B → Gr wc w → Gr wc (w3.setCell ⟨q, 0, none⟩ (.slice A' (n + 1) cap'))) := by
  have hb : Blk w3 q 24 #[.slice A n cap, .int .i64 u] := ((h.blk.alloc o).gr (Gr.refl _).drew).grown hgr (Ne.symm h.ne)
  refine ⟨hb, ⟨hb.set_ 0 _, ownsRow_setCell_other ho (a := ⟨q, 0, none⟩) (own_blk_ne ho hb (by decide)) _, h.base⟩, fun wc hB hg => ?_⟩
  subst hB
  exact (Gr.grown (hg.alloc o).drew hgr (fun k hk => (h.own.lt k hk).1)).setCell (p := ⟨q, 0, none⟩) h.base _

def wrPre (name : List UInt8) (fs : List Fl) : List Fl := if hasF name fs then fs else insF (lbF name fs) (name, [], []) fs
/-- P6.2 within the power -/
def wrF (name s : List UInt8) (fs : List Fl) : List Fl × Int :=
  if namedB name then
    if hasF name fs = false ∧ 400 ≤ fs.length then (fs, 6)
    else
      if ((wrPre name fs).getD (lbF name fs) ([], [], [])).2.1.length + ((wrPre name fs).getD (lbF name fs) ([], [], [])).2.2.length + s.length ≤ 1048576 then
        ((wrPre name fs).set (lbF name fs) (((wrPre name fs).getD (lbF name fs) ([], [], [])).1, ((wrPre name fs).getD (lbF name fs) ([], [], [])).2.1, ((wrPre name fs).getD (lbF name fs) ([], [], [])).2.2 ++ s), 0)
      else (fs, 1)
  else (fs, 2)
theorem insF_len (i : Nat) (f : Fl) (fs : List Fl) (h : i ≤ fs.length) : (insF i f fs).length = fs.length + 1 := by unfold insF; simp; omega
theorem insF_get (i : Nat) (f : Fl) (fs : List Fl) (h : i ≤ fs.length) : (insF i f fs)[i]? = some f := by
  unfold insF
  rw [List.getElem?_append_right (by simp; omega)]
  simp [Nat.min_eq_left h]
theorem wrPre_at (name : List UInt8) (fs : List Fl) (hg : goodFs fs = true) : ∃ (h : lbF name fs < (wrPre name fs).length), (wrPre name fs)[lbF name fs].1 = name ∧ (wrPre name fs)[lbF name fs].2.1.length + (wrPre name fs)[lbF name fs].2.2.length ≤ 1048576 := by
  unfold wrPre
  cases hh : hasF name fs with
  | true =>
    obtain ⟨h1, h2⟩ := hasF_lt (goodFs_sorted hg) hh
    exact ⟨h1, h2, (goodFs_ok hg _ (List.getElem_mem h1)).2.2⟩
  | false =>
    have h1 := insF_get (lbF name fs) (name, [], []) fs (lbF_le name fs)
    obtain ⟨h2, h3⟩ := List.getElem?_eq_some_iff.1 h1
    refine ⟨h2, ?_⟩
    simp only [Bool.false_eq_true, if_false]
    rw [h3]
    exact ⟨rfl, by simp⟩
end Go.Proofs.YtoamnifnfkgbiaaGreatDoor

namespace Go.Proofs.YtoamnifnfkgbiaaGreatDoor
open Go.RowKit
set_option linter.unusedVariables false
set_option maxRecDepth 100000 in
set_option maxHeartbeats 4000000 in
theorem write1_any (name s : List UInt8) (c1 c2 : Nat) (w0 : World) (h1 : w0.cell? ⟨c1, 0, none⟩ = some (.string (bs name))) (h2 : w0.cell? ⟨c2, 0, none⟩ = some (.string (bs s))) (hl1 : name.length ≤ 1099511627776) (hl2 : s.length ≤ 1099511627776) :
    Steps 195 #[.pointer (some ⟨c1, 0, none⟩), .pointer (some ⟨c2, 0, none⟩)] (wrF name s) w0 := by
  intro wb w q A n cap u fs g0 gc hd hgf
  show Calls Tryz.prog 195 #[.pointer (some ⟨q, 0, none⟩), .pointer (some ⟨c1, 0, none⟩), .pointer (some ⟨c2, 0, none⟩)] w _
  have hl := hd.len
  have hl400 : fs.length ≤ 400 := goodFs_len hgf
  have HE1 : Sec (∀ W, Gr w W → W.cell? ⟨c1, 0, none⟩ = some (.string (bs name))) := sec (fun W g => (((g0.trans gc).trans g).cells.1 c1 _ (World.block_lt_of_cell? w0 _ h1)).trans h1)
  have HE2 : Sec (∀ W, Gr wb W → W.cell? ⟨c2, 0, none⟩ = some (.string (bs s))) := sec (fun W g => ((g0.trans g).cells.1 c2 _ (World.block_lt_of_cell? w0 _ h2)).trans h2)
  have HN := sec (fun w => named_any name w (by omega))
  have HD := sec hd
  have HS := sec (goodFs_sorted hgf)
  have HGC := sec gc
  have HGF := sec hgf
  have e1 := HE1.out w (Gr.refl w)
  have e2 := HE2.out w gc
  clear h1 h2 g0 gc hd hgf
  cases hnb : namedB name with
  | false =>
    have HR : Sec (wrF name s fs = (fs, 2)) := sec (by unfold wrF; rw [hnb]; rfl)
    rw [HR.out]
    rw [hnb] at HN
    go_enter Tryz.func195, Tryz.ntmps195
    go_wp2_with (go_at_call 116; refine (HN.out _).mono ?_; rintro e w1 ⟨rfl, g1⟩)
    go_ret
    exact ⟨rfl, HGC.out.trans g1, fun h => by cases h⟩
  | true =>
    rw [hnb] at HN
    have HNB := sec hnb
    clear hnb
    obtain ⟨k, hk⟩ : ∃ k, k = lbF name fs := ⟨_, rfl⟩
    have HK := sec hk
    have hkn : k ≤ n := by rw [hk, ← hl]; exact lbF_le name fs
    clear hk
    obtain ⟨B, hB⟩ : ∃ B, B = hasF name fs := ⟨_, rfl⟩
    have HB := sec hB
    clear hB
    go_enter Tryz.func195, Tryz.ntmps195
    go_upto_region 3 with (go_at_call 116; refine (HN.out _).mono ?_; rintro e w1 ⟨rfl, g1⟩)
    have HD1 := sec (HD.out.gr g1)
    have d0 : w1.cell? ⟨q, 0, none⟩ = some (.slice A n cap) := HD1.out.blk.cell 0
    have d1 : w1.cell? ⟨q, 1, none⟩ = some (.int .i64 u) := HD1.out.blk.cell 1
    have e1y : w1.cell? ⟨c1, 0, none⟩ = some (.string (bs name)) := HE1.out _ g1
    go_cut [5, 6] from 8 to 67 (fun v5 v6 wx => v5 = .int .i64 (k : Int) ∧ v6 = .bool B ∧ Gr w1 wx)
    case first =>
      go_region_with (go_at_call 111; refine (find_any fs name A n cap u w1.drew (by omega) (FRow.gr (Row.own HD1.out.own) (Gr.refl _).drew) HS.out).mono ?_; rw [← HK.out, ← HB.out]; rintro e w2 ⟨rfl, g2⟩)
      all_goals (go_wp2_with fail; go_meet; exact ⟨rfl, rfl, Gr.trans (Gr.refl _).drew g2⟩)
    case rest =>
      obtain ⟨rfl, rfl, gx⟩ := hcut
      have HDx := sec (HD1.out.gr gx)
      have gcx : Gr wb wc := HGC.out.trans (g1.trans gx)
      have e1x : wc.cell? ⟨c1, 0, none⟩ = some (.string (bs name)) := HE1.out _ (g1.trans gx)
      have e2x : wc.cell? ⟨c2, 0, none⟩ = some (.string (bs s)) := HE2.out _ gcx
      have d0x : wc.cell? ⟨q, 0, none⟩ = some (.slice A n cap) := HDx.out.blk.cell 0
      have d1x : wc.cell? ⟨q, 1, none⟩ = some (.int .i64 u) := HDx.out.blk.cell 1
      have f0x : wc.frozen? ⟨q, 0, none⟩ = false := HDx.out.blk.frozen 0
      clear d0 d1 e1y
      by_cases hfull : B = false ∧ 400 ≤ n
      · have HR : Sec (wrF name s fs = (fs, 6)) := sec (by unfold wrF; rw [HNB.out, if_pos rfl, if_pos ⟨by rw [← HB.out]; exact hfull.1, by omega⟩])
        obtain ⟨hBf, h400⟩ := hfull
        subst hBf
        have h4 : (400 : Int) ≤ (n : Int) := by omega
        go_wp2_with fail
        go_ret
        rw [HR.out]
        exact ⟨rfl, gcx, fun h => by cases h⟩
      · have HNF := sec hfull
        clear hfull
        go_upto_if 20 with fail
        go_cut [] from 21 to 67 (fun wx => ∃ (A' : Option Addr) (n' cap' : Nat), Sec (DOwn wx wb.heap.size q A' n' cap' u (wrPre name fs)) ∧ Gr wb wx)
        case first =>
          cases B with
          | true =>
            go_wp2_with fail
            go_meet
            exact ⟨A, n, cap, by unfold wrPre; rw [← HB.out]; exact HDx, gcx⟩
          | false =>
            have h4 : ¬ (400 : Int) ≤ (n : Int) := by have := HNF.out; simp at this; omega
            have HI : Sec (∀ (A' : Option Addr) (cap' : Nat) (w3 : World) (o : Obj), w3.ownsRow wb.heap.size 105 3 (.slice A' (n + 1) cap') (n + 1) ((insF k (name, [], []) fs).flatMap fileC) → (wc.alloc o).drew.grownBy w3 (Value.ownBlock (.slice A n cap)) →
              w3.cell? ⟨q, 0, none⟩ = some (.slice A n cap) ∧ w3.frozen? ⟨q, 0, none⟩ = false ∧ (∃ (A1 : Option Addr) (n1 cap1 : Nat), Sec (DOwn (w3.setCell ⟨q, 0, none⟩ (.slice A' (n + 1) cap')) wb.heap.size q A1 n1 cap1 u (wrPre name fs)) ∧ Gr wb (w3.setCell ⟨q, 0, none⟩ (.slice A' (n + 1) cap')))) := sec (fun A' cap' w3 o ho hgr => by
                obtain ⟨x1, x2, x3⟩ := HDx.out.ins ho hgr
                refine ⟨x1.cell 0, x1.frozen 0, A', n + 1, cap', ?_, x3 wb rfl gcx⟩
                unfold wrPre; rw [← HB.out, ← HK.out]; exact sec x2)
            have HINS : Sec (Calls Tryz.prog 196 #[.slice A n cap, .int .i64 (k : Int), .slice (some ⟨wc.heap.size, 0, none⟩) 1 1] (wc.alloc (.cells #[.string (bs name), .string (bs []), .string (bs [])] 105)).drew fun e w' =>
              ∃ A' cap', e = .returned (.slice A' (n + 1) cap') ∧ w'.ownsRow wb.heap.size 105 3 (.slice A' (n + 1) cap') (n + 1) ((insF k (name, [], []) fs).flatMap fileC) ∧ (wc.alloc (.cells #[.string (bs name), .string (bs []), .string (bs [])] 105)).drew.grownBy w' (Value.ownBlock (.slice A n cap))) := sec (by
              refine insert_any A n cap k wc.heap.size 1 wb.heap.size fs (name, [], []) _ (own_gr HDx.out.own ((Gr.refl wc).alloc _).drew) hkn (by omega) ((Blk.new wc _ _).gr (Gr.refl _).drew) (fun h => ?_) ?_
              · have := (HDx.out.own.lt _ h).2; omega
              · have := gcx.size; have := (((Gr.refl wc).alloc (.cells #[.string (bs name), .string (bs []), .string (bs [])] 105)).drew).size; omega)
            have d0w : (wc.alloc (.cells #[.string (bs name), .string (bs []), .string (bs [])] 105)).cell? ⟨q, 0, none⟩ = some (.slice A n cap) := (HDx.out.blk.alloc _).cell 0
            go_upto_region 7 with fail
            go_region_with (go_at_call 196; refine HINS.out.mono ?_; rintro e w3 ⟨A', cap', rfl, ho, hgr⟩; obtain ⟨d0z, f0z, hend⟩ := HI.out A' cap' w3 _ ho hgr)
            all_goals (go_wp2_with fail; go_meet; exact hend)
        case rest =>
          obtain ⟨A2, n2, cap2, HDz, gz⟩ := hcut
          have HNF2 : Sec (¬ (hasF name fs = false ∧ 400 ≤ fs.length)) := sec (fun h => HNF.out ⟨by rw [HB.out]; exact h.1, by omega⟩)
          clear e1x e2x d0x d1x f0x gcx HDx gx g1 HD1 HNF hkn HD HN HE1
          have hX := wrPre_at name fs HGF.out
          rw [← HK.out] at hX
          obtain ⟨hkl, hnm, hsz⟩ := hX
          have hn2 := HDz.out.len
          have hk2 : (k : Int) < (n2 : Int) := by omega
          obtain ⟨b, rfl, hBb, hbq, z0, z1, z2, zf⟩ := HDz.out.at hkl
          have zf2 : wc.frozen? ⟨b, k * 3 + 2, none⟩ = false := zf 2 (by omega)
          have hget : (wrPre name fs)[k]? = some (wrPre name fs)[k] := List.getElem?_eq_getElem hkl
          have hgd : (wrPre name fs).getD (lbF name fs) ([], [], []) = (wrPre name fs)[k] := by
            rw [← HK.out, List.getD_eq_getElem?_getD, hget]; rfl
          obtain ⟨x, hxx⟩ : ∃ x, x = (wrPre name fs)[k] := ⟨_, rfl⟩
          rw [← hxx] at z0 z1 z2 hget hgd hsz
          clear hxx hnm hkl zf
          obtain ⟨nm, sf, tl⟩ := x
          simp only at z0 z1 z2 hsz
          have e2z : wc.cell? ⟨c2, 0, none⟩ = some (.string (bs s)) := HE2.out _ gz
          have d0z : wc.cell? ⟨q, 0, none⟩ = some (.slice (some ⟨b, 0, none⟩) n2 cap2) := HDz.out.blk.cell 0
          by_cases hlong : sf.length + tl.length + s.length ≤ 1048576
          · have HR : Sec (wrF name s fs = ((wrPre name fs).set k (nm, sf, tl ++ s), 0)) := sec (by
              unfold wrF; rw [HNB.out, if_pos rfl, if_neg HNF2.out, hgd, if_pos hlong, ← HK.out])
            have HDF : Sec (∀ m, DOwn ((wc.drewN m).setCell ⟨b, k * 3 + 2, none⟩ (.string (bs (tl ++ s)))) wb.heap.size q (some ⟨b, 0, none⟩) n2 cap2 u ((wrPre name fs).set k (nm, sf, tl ++ s))) := sec (fun m => (HDz.out.gr ((Gr.refl wc).drewN m)).tail k nm sf tl (tl ++ s) hget hbq)
            have HGF := sec (fun m => (gz.drewN m).setCell (p := ⟨b, k * 3 + 2, none⟩) hBb (.string (bs (tl ++ s))))
            clear hget hgd
            go_wp2_with fail
            go_quiet (fail)
            go_wp2_with fail
            go_region
            go_wp2_with fail
            go_ret
            rw [HR.out]
            exact ⟨rfl, HGF.out _, fun _ => ⟨_, _, _, HDF.out _⟩⟩
          · have HR : Sec (wrF name s fs = (fs, 1)) := sec (by
              unfold wrF; rw [HNB.out, if_pos rfl, if_neg HNF2.out, hgd, if_neg hlong])
            clear hget hgd
            go_wp2_with fail
            go_quiet (fail)
            go_wp2_with fail
            go_ret
            rw [HR.out]
            exact ⟨rfl, gz.drewN _, fun h => by cases h⟩
end Go.Proofs.YtoamnifnfkgbiaaGreatDoor

namespace Go.Proofs.YtoamnifnfkgbiaaGreatDoor
open Go.RowKit
set_option linter.unusedVariables false
set_option maxRecDepth 100000 in
set_option maxHeartbeats 4000000 in
theorem write_any (name s : List UInt8) (fs : List Fl) (A : Option Addr) (n cap : Nat) (f : Int) (w : World) (hn : n ≤ 1099511627776) (hx : FRow w A n fs) (hA : A = none → n = 0 ∧ cap = 0) (hs : ∀ f ∈ fs, f.1.length ≤ 1099511627776 ∧ f.2.1.length ≤ 1099511627776 ∧ f.2.2.length ≤ 1099511627776)
    (hf : -9223372036854775808 ≤ f ∧ f ≤ 9223372036854775807) (hl1 : name.length ≤ 1099511627776) (hl2 : s.length ≤ 1099511627776) :
    Calls Tryz.prog 160 #[diskV A n cap f, .string (bs name), .string (bs s)] w (StepPost (stepR (wrF name s) fs f) A n cap fs w) := by
  have g1 := (Gr.refl w).alloc (.cells #[.slice A n cap, .int .i64 f] 24)
  have g2 := g1.alloc (.cells #[.string (bs name)] 9)
  have g3 := g2.alloc (.cells #[.string (bs s)] 9)
  have g4 := g3.alloc (.cells #[.slice none 0 0, .int .i64 0] 24)
  have b1 := (((Blk.new w 24 #[.slice A n cap, .int .i64 f]).alloc (.cells #[.string (bs name)] 9)).alloc (.cells #[.string (bs s)] 9)).alloc (.cells #[.slice none 0 0, .int .i64 0] 24)
  have b2 := ((Blk.new1 w (.cells #[.slice A n cap, .int .i64 f] 24) 9 #[.string (bs name)]).alloc (.cells #[.string (bs s)] 9)).alloc (.cells #[.slice none 0 0, .int .i64 0] 24)
  have b3 := (Blk.new2 w (.cells #[.slice A n cap, .int .i64 f] 24) (.cells #[.string (bs name)] 9) 9 #[.string (bs s)]).alloc (.cells #[.slice none 0 0, .int .i64 0] 24)
  have b4 := Blk.newAt (w := ((w.alloc (.cells #[.slice A n cap, .int .i64 f] 24)).alloc (.cells #[.string (bs name)] 9)).alloc (.cells #[.string (bs s)] 9)) (g := w.heap.size + 1 + 1 + 1) (by simp) 24 #[.slice none 0 0, .int .i64 0]
  obtain ⟨wa, hwa⟩ : ∃ x, x = (((w.alloc (.cells #[.slice A n cap, .int .i64 f] 24)).alloc (.cells #[.string (bs name)] 9)).alloc (.cells #[.string (bs s)] 9)).alloc (.cells #[.slice none 0 0, .int .i64 0] 24) := ⟨_, rfl⟩
  rw [← hwa] at b1 b2 b3 b4 g4
  obtain ⟨p, hp⟩ : ∃ p, p = w.heap.size := ⟨_, rfl⟩
  have hwp : w.heap.size ≤ p := by omega
  rw [← hp] at b1 b2 b3 b4
  have c0 : wa.cell? ⟨p, 0, none⟩ = some (.slice A n cap) := b1.cell 0
  have c1 : wa.cell? ⟨p, 1, none⟩ = some (.int .i64 f) := b1.cell 1
  have HS := sec (step_any 195 #[.pointer (some ⟨p + 1, 0, none⟩), .pointer (some ⟨p + 1 + 1, 0, none⟩)] (wrF name s) (enters_own Tryz.func195 (by kernel_rfl) rfl) fs A n cap f wa hn (hx.gr g4) hA hs hf (write1_any name s (p + 1) (p + 1 + 1) wa (b2.cell 0) (b3.cell 0) hl1 hl2))
  have HB4 := sec b4
  have HG4 := sec g4
  clear hx hA hs g1 g2 g3 g4 b1 b2 b3 b4
  unfold diskV at HS
  unfold diskV
  have hmf : ∀ (fn : Fn) (first cap : Array Value) (w : World), (Instr.makeFunc fn first cap).run Tryz.prog w = .ok (.func fn first cap) w := fun _ _ _ _ => rfl
  obtain ⟨R, hR⟩ : ∃ R, R = stepR (wrF name s) fs f := ⟨_, rfl⟩
  rw [← hR] at HS
  rw [← hR]
  clear hR
  obtain ⟨fs', f', er⟩ := R
  go_enter Tryz.func160, Tryz.ntmps160
  go_wp2_with (first | (rw [← hwa, ← hp]; clear hwa hp; go_wp2_with fail) | (go_at_call 109; refine Calls.mono HS.out ?_; rintro e w5 ⟨A', n', cap', rfl, g5, hA', hrow⟩;  unfold diskV; have d0 : w5.cell? ⟨p + 1 + 1 + 1, 0, none⟩ = some (.slice none 0 0) := (HB4.out.gr g5).cell 0; have d1 : w5.cell? ⟨p + 1 + 1 + 1, 1, none⟩ = some (.int .i64 0) := (HB4.out.gr g5).cell 1; have f0 : w5.frozen? ⟨p + 1 + 1 + 1, 0, none⟩ = false := (HB4.out.gr g5).frozen 0; have f1 : w5.frozen? ⟨p + 1 + 1 + 1, 1, none⟩ = false := (HB4.out.gr g5).frozen 1))
  refine bodyPost_ret (results_blk_tmp rfl _ rfl (((HB4.out.gr g5).set_ 0 (.slice A' n' cap')).set_ 1 (.int .i64 f')) aggDisk) rfl ?_
  have hfin := StepPost.set2 (r := (fs', f', er)) (p := p + 1 + 1 + 1) HG4.out HB4.out.lt (by omega) g5 (.slice A' n' cap') (.int .i64 f') hrow
  exact ⟨A', n', cap', rfl, hfin.1, hA', hfin.2⟩
end Go.Proofs.YtoamnifnfkgbiaaGreatDoor

namespace Go.Proofs.YtoamnifnfkgbiaaGreatDoor
open Go.RowKit
set_option linter.unusedVariables false
/-- Delete, and the slice stored -/
theorem DOwn.del {w w3 : World} {B q n cap cap' i : Nat} {A A' : Option Addr} {u : Int} {fs : List Fl} (h : DOwn w B q A n cap u fs) (ho : w3.ownsRow B 105 3 (.slice A' (n - 1) cap') (n - 1) ((fs.eraseIdx i).flatMap fileC))
    (hgr : w.grownBy w3 (Value.ownBlock (.slice A n cap))) :
    Blk w3 q 24 #[.slice A n cap, .int .i64 u] ∧ DOwn (w3.setCell ⟨q, 0, none⟩ (.slice A' (n - 1) cap')) B q A' (n - 1) cap' u (fs.eraseIdx i) ∧ (∀ wc, wc.heap.size = B → Gr wc w → Gr wc (w3.setCell ⟨q, 0, none⟩ (.slice A' (n - 1) cap'))) := by
  have hb : Blk w3 q 24 #[.slice A n cap, .int .i64 u] := h.blk.grown hgr (Ne.symm h.ne)
  refine ⟨hb, ⟨hb.set_ 0 _, ownsRow_setCell_other ho (a := ⟨q, 0, none⟩) (own_blk_ne ho hb (by decide)) _, h.base⟩, fun wc hB hg => ?_⟩
  subst hB
  exact (Gr.grown hg hgr (fun k hk => (h.own.lt k hk).1)).setCell (p := ⟨q, 0, none⟩) h.base _
/-- P6.5 within the power -/
def rmF (name : List UInt8) (fs : List Fl) : List Fl × Int := if hasF name fs then (fs.eraseIdx (lbF name fs), 0) else (fs, 7)

set_option maxRecDepth 100000 in
set_option maxHeartbeats 4000000 in
theorem remove1_any (name : List UInt8) (c1 : Nat) (w0 : World) (h1 : w0.cell? ⟨c1, 0, none⟩ = some (.string (bs name))) :
    Steps 110 #[.pointer (some ⟨c1, 0, none⟩)] (rmF name) w0 := by
  intro wb w q A n cap u fs g0 gc hd hgf
  show Calls Tryz.prog 110 #[.pointer (some ⟨q, 0, none⟩), .pointer (some ⟨c1, 0, none⟩)] w _
  have hl := hd.len
  have hl400 : fs.length ≤ 400 := goodFs_len hgf
  have e1 : w.cell? ⟨c1, 0, none⟩ = some (.string (bs name)) := ((g0.trans gc).cells.1 c1 _ (World.block_lt_of_cell? w0 _ h1)).trans h1
  have HD := sec hd
  have HS := sec (goodFs_sorted hgf)
  have HGC := sec gc
  have HGF := sec hgf
  have d0 : w.cell? ⟨q, 0, none⟩ = some (.slice A n cap) := hd.blk.cell 0
  have d1 : w.cell? ⟨q, 1, none⟩ = some (.int .i64 u) := hd.blk.cell 1
  clear h1 g0 gc hd hgf
  obtain ⟨k, hk⟩ : ∃ k, k = lbF name fs := ⟨_, rfl⟩
  have HK := sec hk
  clear hk
  cases hB : hasF name fs with
  | false =>
    have HR : Sec (rmF name fs = (fs, 7)) := sec (by unfold rmF; rw [hB]; rfl)
    have HB := sec hB
    clear hB
    go_enter Tryz.func110, Tryz.ntmps110
    go_upto_region 1 with fail
    go_cut [4, 5] from 6 to 26 (fun v5 v6 wx => v5 = .int .i64 (k : Int) ∧ v6 = .bool false ∧ Gr w wx)
    case first =>
      go_region_with (go_at_call 111; refine (find_any fs name A n cap u w.drew (by omega) (FRow.gr (Row.own HD.out.own) (Gr.refl _).drew) HS.out).mono ?_; rw [← HK.out, HB.out]; rintro e w2 ⟨rfl, g2⟩)
      all_goals (go_wp2_with fail; go_meet; exact ⟨rfl, rfl, Gr.trans (Gr.refl _).drew g2⟩)
    case rest =>
      obtain ⟨rfl, rfl, gx⟩ := hcut
      go_wp2_with fail
      go_ret
      rw [HR.out]
      exact ⟨rfl, HGC.out.trans gx, fun h => by cases h⟩
  | true =>
    have hX := hasF_lt HS.out hB
    rw [← HK.out] at hX
    obtain ⟨hkl, hnm⟩ := hX
    have HB := sec hB
    clear hB
    go_enter Tryz.func110, Tryz.ntmps110
    go_upto_region 1 with fail
    go_cut [4, 5] from 6 to 26 (fun v5 v6 wx => v5 = .int .i64 (k : Int) ∧ v6 = .bool true ∧ Gr w wx)
    case first =>
      go_region_with (go_at_call 111; refine (find_any fs name A n cap u w.drew (by omega) (FRow.gr (Row.own HD.out.own) (Gr.refl _).drew) HS.out).mono ?_; rw [← HK.out, HB.out]; rintro e w2 ⟨rfl, g2⟩)
      all_goals (go_wp2_with fail; go_meet; exact ⟨rfl, rfl, Gr.trans (Gr.refl _).drew g2⟩)
    case rest =>
      obtain ⟨rfl, rfl, gx⟩ := hcut
      have HDz := sec (HD.out.gr gx)
      have gz : Gr wb wc := HGC.out.trans gx
      clear d0 d1 e1 HD gx
      have hk2 : (k : Int) < (n : Int) := by omega
      have d0z : wc.cell? ⟨q, 0, none⟩ = some (.slice A n cap) := HDz.out.blk.cell 0
      have HR : Sec (rmF name fs = (fs.eraseIdx k, 0)) := sec (by unfold rmF; rw [HB.out, if_pos rfl, ← HK.out])
      have HDE : Sec (Calls Tryz.prog 112 #[.slice A n cap, .int .i64 (k : Int), .int .i64 ((k : Int) + 1)] wc fun e w' =>
        e = .returned (.slice A (n - 1) cap) ∧ w'.ownsRow wb.heap.size 105 3 (.slice A (n - 1) cap) (n - 1) ((fs.eraseIdx k).flatMap fileC) ∧ wc.grownBy w' (Value.ownBlock (.slice A n cap))) := sec
        (delete_any A n cap k wb.heap.size fs wc HDz.out.own (by omega) (by omega))
      have hwr : IntKind.i64.wrap ((k : Int) + 1) = (k : Int) + 1 := IntWalk.i64_in _ (by omega)
      go_wp2_with (go_at_call 112; refine HDE.out.mono ?_; rintro e w3 ⟨rfl, ho, hgr⟩; obtain ⟨hb3, hd3, hg3⟩ := HDz.out.del ho hgr; have d0y : w3.cell? ⟨q, 0, none⟩ = some (.slice A n cap) := hb3.cell 0; have f0y : w3.frozen? ⟨q, 0, none⟩ = false := hb3.frozen 0)
      go_ret
      rw [HR.out]
      exact ⟨rfl, hg3 wb rfl gz, fun _ => ⟨_, _, _, hd3⟩⟩

set_option maxRecDepth 100000 in
set_option maxHeartbeats 4000000 in
theorem remove_any (name : List UInt8) (fs : List Fl) (A : Option Addr) (n cap : Nat) (f : Int) (w : World) (hn : n ≤ 1099511627776) (hx : FRow w A n fs) (hA : A = none → n = 0 ∧ cap = 0) (hs : ∀ f ∈ fs, f.1.length ≤ 1099511627776 ∧ f.2.1.length ≤ 1099511627776 ∧ f.2.2.length ≤ 1099511627776)
    (hf : -9223372036854775808 ≤ f ∧ f ≤ 9223372036854775807) :
    Calls Tryz.prog 68 #[diskV A n cap f, .string (bs name)] w (StepPost (stepR (rmF name) fs f) A n cap fs w) := by
  have g1 := (Gr.refl w).alloc (.cells #[.slice A n cap, .int .i64 f] 24)
  have g2 := g1.alloc (.cells #[.string (bs name)] 9)
  have g4 := g2.alloc (.cells #[.slice none 0 0, .int .i64 0] 24)
  have b1 := ((Blk.new w 24 #[.slice A n cap, .int .i64 f]).alloc (.cells #[.string (bs name)] 9)).alloc (.cells #[.slice none 0 0, .int .i64 0] 24)
  have b2 := (Blk.new1 w (.cells #[.slice A n cap, .int .i64 f] 24) 9 #[.string (bs name)]).alloc (.cells #[.slice none 0 0, .int .i64 0] 24)
  have b4 := Blk.newAt (w := ((w.alloc (.cells #[.slice A n cap, .int .i64 f] 24)).alloc (.cells #[.string (bs name)] 9))) (g := w.heap.size + 1 + 1) (by simp) 24 #[.slice none 0 0, .int .i64 0]
  obtain ⟨wa, hwa⟩ : ∃ x, x = (((w.alloc (.cells #[.slice A n cap, .int .i64 f] 24)).alloc (.cells #[.string (bs name)] 9))).alloc (.cells #[.slice none 0 0, .int .i64 0] 24) := ⟨_, rfl⟩
  rw [← hwa] at b1 b2 b4 g4
  obtain ⟨p, hp⟩ : ∃ p, p = w.heap.size := ⟨_, rfl⟩
  have hwp : w.heap.size ≤ p := by omega
  rw [← hp] at b1 b2 b4
  have c0 : wa.cell? ⟨p, 0, none⟩ = some (.slice A n cap) := b1.cell 0
  have c1 : wa.cell? ⟨p, 1, none⟩ = some (.int .i64 f) := b1.cell 1
  have HS := sec (step_any 110 #[.pointer (some ⟨p + 1, 0, none⟩)] (rmF name) (enters_own Tryz.func110 (by kernel_rfl) rfl) fs A n cap f wa hn (hx.gr g4) hA hs hf (remove1_any name (p + 1) wa (b2.cell 0)))
  have HB4 := sec b4
  have HG4 := sec g4
  clear hx hA hs g1 g2 g4 b1 b2 b4
  unfold diskV at HS
  unfold diskV
  have hmf : ∀ (fn : Fn) (first cap : Array Value) (w : World), (Instr.makeFunc fn first cap).run Tryz.prog w = .ok (.func fn first cap) w := fun _ _ _ _ => rfl
  obtain ⟨R, hR⟩ : ∃ R, R = stepR (rmF name) fs f := ⟨_, rfl⟩
  rw [← hR] at HS
  rw [← hR]
  clear hR
  obtain ⟨fs', f', er⟩ := R
  go_enter Tryz.func68, Tryz.ntmps68
  go_wp2_with (first | (rw [← hwa, ← hp]; clear hwa hp; go_wp2_with fail) | (go_at_call 109; refine Calls.mono HS.out ?_; rintro e w5 ⟨A', n', cap', rfl, g5, hA', hrow⟩;  unfold diskV; have d0 : w5.cell? ⟨p + 1 + 1, 0, none⟩ = some (.slice none 0 0) := (HB4.out.gr g5).cell 0; have d1 : w5.cell? ⟨p + 1 + 1, 1, none⟩ = some (.int .i64 0) := (HB4.out.gr g5).cell 1; have f0 : w5.frozen? ⟨p + 1 + 1, 0, none⟩ = false := (HB4.out.gr g5).frozen 0; have f1 : w5.frozen? ⟨p + 1 + 1, 1, none⟩ = false := (HB4.out.gr g5).frozen 1))
  refine bodyPost_ret (results_blk_tmp rfl _ rfl (((HB4.out.gr g5).set_ 0 (.slice A' n' cap')).set_ 1 (.int .i64 f')) aggDisk) rfl ?_
  have hfin := StepPost.set2 (r := (fs', f', er)) (p := p + 1 + 1) HG4.out HB4.out.lt (by omega) g5 (.slice A' n' cap') (.int .i64 f') hrow
  exact ⟨A', n', cap', rfl, hfin.1, hA', hfin.2⟩
end Go.Proofs.YtoamnifnfkgbiaaGreatDoor

namespace Go.Proofs.YtoamnifnfkgbiaaGreatDoor
open Go.RowKit
set_option linter.unusedVariables false
theorem SortedF.erase {fs : List Fl} (h : SortedF fs) (k : Nat) : SortedF (fs.eraseIdx k) := h.sublist (List.eraseIdx_sublist fs k)
def rnTo (dst : List UInt8) (f : Fl) (g : List Fl) : List Fl := if hasF dst g then g.set (lbF dst g) (dst, f.2) else insF (lbF dst g) (dst, f.2) g
/-- P6.4 within the power -/
def rnF (frm dst : List UInt8) (fs : List Fl) : List Fl × Int :=
  if namedB dst then
    (if hasF frm fs then (rnTo dst (fs.getD (lbF frm fs) ([], [], [])) (fs.eraseIdx (lbF frm fs)), 0) else (fs, 7))
  else (fs, 2)
theorem own_file3 {w : World} {B e n cap g : Nat} {fs : List Fl} (h : w.ownsRow B e 3 (.slice (some ⟨g, 0, none⟩) n cap) n (fs.flatMap fileC)) (i : Nat) (x : Fl) (nm sf tl : List UInt8) (hi : fs[i]? = some x) :
    (((w.setCell ⟨g, i * 3, none⟩ (.string (bs nm))).setCell ⟨g, i * 3 + 1, none⟩ (.string (bs sf))).setCell ⟨g, i * 3 + 2, none⟩ (.string (bs tl))).ownsRow B e 3 (.slice (some ⟨g, 0, none⟩) n cap) n ((fs.set i (nm, sf, tl)).flatMap fileC) := by
  obtain ⟨a, b, c⟩ := x
  obtain ⟨hl, hg⟩ := List.getElem?_eq_some_iff.1 hi
  have hfl : (fs.flatMap fileC).length = fs.length * 3 := flat_len fileC 3 (fun _ => rfl) fs
  have o1 := own_set h (i * 3 + 0) (by rw [hfl]; omega) (.string (bs nm))
  rw [flat_set fs i hl 0 (.string (bs nm)) (nm, b, c) (by omega) (by rw [hg]; rfl)] at o1
  have := own_file2 o1 i nm b c sf tl (by rw [List.getElem?_set_self hl])
  rw [List.set_set] at this
  exact this

set_option maxRecDepth 100000 in
set_option maxHeartbeats 4000000 in
theorem rename1_any (frm dst : List UInt8) (c1 c2 : Nat) (w0 : World) (h1 : w0.cell? ⟨c1, 0, none⟩ = some (.string (bs dst))) (h2 : w0.cell? ⟨c2, 0, none⟩ = some (.string (bs frm))) (hl1 : dst.length ≤ 1099511627776) :
    Steps 198 #[.pointer (some ⟨c1, 0, none⟩), .pointer (some ⟨c2, 0, none⟩)] (rnF frm dst) w0 := by
  intro wb w q A n cap u fs g0 gc hd hgf
  show Calls Tryz.prog 198 #[.pointer (some ⟨q, 0, none⟩), .pointer (some ⟨c1, 0, none⟩), .pointer (some ⟨c2, 0, none⟩)] w _
  have hl := hd.len
  have hl400 : fs.length ≤ 400 := goodFs_len hgf
  have HE1 : Sec (∀ W, Gr wb W → W.cell? ⟨c1, 0, none⟩ = some (.string (bs dst))) := sec (fun W g => ((g0.trans g).cells.1 c1 _ (World.block_lt_of_cell? w0 _ h1)).trans h1)
  have HE2 : Sec (∀ W, Gr wb W → W.cell? ⟨c2, 0, none⟩ = some (.string (bs frm))) := sec (fun W g => ((g0.trans g).cells.1 c2 _ (World.block_lt_of_cell? w0 _ h2)).trans h2)
  have HN := sec (fun w => named_any dst w (by omega))
  have HD := sec hd
  have HS := sec (goodFs_sorted hgf)
  have HGC := sec gc
  have HGF := sec hgf
  have e1 := HE1.out w gc
  clear h1 h2 g0 gc hd hgf
  cases hnb : namedB dst with
  | false =>
    have HR : Sec (rnF frm dst fs = (fs, 2)) := sec (by unfold rnF; rw [hnb]; rfl)
    rw [HR.out]
    rw [hnb] at HN
    go_enter Tryz.func198, Tryz.ntmps198
    go_wp2_with (go_at_call 116; refine (HN.out _).mono ?_; rintro e w1 ⟨rfl, g1⟩)
    go_ret
    exact ⟨rfl, HGC.out.trans g1, fun h => by cases h⟩
  | true =>
    rw [hnb] at HN
    have HNB := sec hnb
    clear hnb
    obtain ⟨k, hk⟩ : ∃ k, k = lbF frm fs := ⟨_, rfl⟩
    have HK := sec hk
    clear hk
    obtain ⟨B, hB⟩ : ∃ B, B = hasF frm fs := ⟨_, rfl⟩
    have HB := sec hB
    clear hB
    go_enter Tryz.func198, Tryz.ntmps198
    go_upto_region 3 with (go_at_call 116; refine (HN.out _).mono ?_; rintro e w1 ⟨rfl, g1⟩)
    have HD1 := sec (HD.out.gr g1)
    have d0 : w1.cell? ⟨q, 0, none⟩ = some (.slice A n cap) := HD1.out.blk.cell 0
    have d1 : w1.cell? ⟨q, 1, none⟩ = some (.int .i64 u) := HD1.out.blk.cell 1
    have e2y : w1.cell? ⟨c2, 0, none⟩ = some (.string (bs frm)) := HE2.out _ (HGC.out.trans g1)
    go_cut [5, 6] from 8 to 67 (fun v5 v6 wx => v5 = .int .i64 (k : Int) ∧ v6 = .bool B ∧ Gr w1 wx)
    case first =>
      go_region_with (go_at_call 111; refine (find_any fs frm A n cap u w1.drew (by omega) (FRow.gr (Row.own HD1.out.own) (Gr.refl _).drew) HS.out).mono ?_; rw [← HK.out, ← HB.out]; rintro e w2 ⟨rfl, g2⟩)
      all_goals (go_wp2_with fail; go_meet; exact ⟨rfl, rfl, Gr.trans (Gr.refl _).drew g2⟩)
    case rest =>
      obtain ⟨rfl, rfl, gx⟩ := hcut
      have HDx := sec (HD1.out.gr gx)
      have gcx : Gr wb wc := HGC.out.trans (g1.trans gx)
      clear d0 d1 e2y
      cases B with
      | false =>
        have HR : Sec (rnF frm dst fs = (fs, 7)) := sec (by unfold rnF; rw [HNB.out, if_pos rfl, ← HB.out]; rfl)
        go_wp2_with fail
        go_ret
        rw [HR.out]
        exact ⟨rfl, gcx, fun h => by cases h⟩
      | true =>
        have hX := hasF_lt HS.out HB.out.symm
        rw [← HK.out] at hX
        obtain ⟨hkl, hnm⟩ := hX
        have hk2 : (k : Int) < (n : Int) := by omega
        obtain ⟨b, rfl, hBb, hbq, z0, z1, z2, zf⟩ := HDx.out.at hkl
        have hget : fs[k]? = some fs[k] := List.getElem?_eq_getElem hkl
        have hgd : fs.getD (lbF frm fs) ([], [], []) = fs[k] := by
          rw [← HK.out, List.getD_eq_getElem?_getD, hget]; rfl
        obtain ⟨x, hxx⟩ : ∃ x, x = fs[k] := ⟨_, rfl⟩
        rw [← hxx] at z0 z1 z2 hget hgd
        obtain ⟨nm, sf, tl⟩ := x
        simp only at z0 z1 z2
        have HR : Sec (rnF frm dst fs = (rnTo dst (nm, sf, tl) (fs.eraseIdx k), 0)) := sec (by unfold rnF; rw [HNB.out, if_pos rfl, ← HB.out, if_pos rfl, hgd, ← HK.out])
        have hkn : k < n := by omega
        clear hxx hnm hkl zf hget hgd
        have d0z : wc.cell? ⟨q, 0, none⟩ = some (.slice (some ⟨b, 0, none⟩) n cap) := HDx.out.blk.cell 0
        have HDE : Sec (∀ W, Gr wc W → Calls Tryz.prog 112 #[.slice (some ⟨b, 0, none⟩) n cap, .int .i64 (k : Int), .int .i64 ((k : Int) + 1)] W fun e w' =>
          e = .returned (.slice (some ⟨b, 0, none⟩) (n - 1) cap) ∧ w'.ownsRow wb.heap.size 105 3 (.slice (some ⟨b, 0, none⟩) (n - 1) cap) (n - 1) ((fs.eraseIdx k).flatMap fileC) ∧ W.grownBy w' (Value.ownBlock (.slice (some ⟨b, 0, none⟩) n cap))) := sec
          (fun W g => delete_any (some ⟨b, 0, none⟩) n cap k wb.heap.size fs W (HDx.out.gr g).own hkn (by omega))
        have hwr : IntKind.i64.wrap ((k : Int) + 1) = (k : Int) + 1 := IntWalk.i64_in _ (by omega)
        clear hkn
        have e1x : wc.cell? ⟨c1, 0, none⟩ = some (.string (bs dst)) := HE1.out _ gcx
        have e1w : (wc.alloc (.cells #[.string (bs nm), .string (bs sf), .string (bs tl)] 105)).cell? ⟨c1, 0, none⟩ = some (.string (bs dst)) := HE1.out _ (gcx.alloc _)
        have d0w : (wc.alloc (.cells #[.string (bs dst), .string (bs sf), .string (bs tl)] 105)).cell? ⟨q, 0, none⟩ = some (.slice (some ⟨b, 0, none⟩) n cap) := (HDx.out.blk.alloc _).cell 0
        have HFB : Sec (∀ w3, (wc.alloc (.cells #[.string (bs dst), .string (bs sf), .string (bs tl)] 105)).grownBy w3 (Value.ownBlock (.slice (some ⟨b, 0, none⟩) n cap)) → Blk w3 wc.heap.size 105 #[.string (bs dst), .string (bs sf), .string (bs tl)]) := sec (fun w3 hgr =>
          (Blk.new wc _ _).grown hgr (fun e => by have := (HDx.out.own.lt _ e.symm).2; omega))
        have HDA := sec (HDx.out.gr ((Gr.refl wc).alloc (.cells #[.string (bs dst), .string (bs sf), .string (bs tl)] 105)))
        have hqr : q < wc.heap.size := HDx.out.blk.lt
        go_upto_region 9 with (go_at_call 112; refine (HDE.out _ ((Gr.refl wc).alloc _)).mono ?_; rintro e w3 ⟨rfl, ho, hgr⟩; obtain ⟨hb3, hd3, hg3⟩ := HDA.out.del ho hgr; have d0y : w3.cell? ⟨q, 0, none⟩ = some (.slice (some ⟨b, 0, none⟩) n cap) := hb3.cell 0; have f0y : w3.frozen? ⟨q, 0, none⟩ = false := hb3.frozen 0)
        have hf6 := (HFB.out w3 hgr).far (p := ⟨q, 0, none⟩) (by show wc.heap.size ≠ q; omega) (.slice (some ⟨b, 0, none⟩) (n - 1) cap)
        have g6 := hg3 wb rfl (gcx.alloc _)
        obtain ⟨w6, hw6⟩ : ∃ x, x = w3.setCell ⟨q, 0, none⟩ (.slice (some ⟨b, 0, none⟩) (n - 1) cap) := ⟨_, rfl⟩
        obtain ⟨r, hr⟩ : ∃ r, r = wc.heap.size := ⟨_, rfl⟩
        rw [← hw6, ← hr] at hf6
        rw [← hw6] at hd3 g6
        rw [← hw6, ← hr]
        have HD6 := sec hd3
        have HF6 := sec hf6
        have HG6 := sec g6
        have hrb : wb.heap.size ≤ r := by have := gcx.size; omega
        clear hw6 hr hf6 hd3 g6 hg3 hb3 d0y f0y ho hgr HDE HFB HDA d0w e1w e1x d0z z0 z1 z2 hqr
        obtain ⟨m, hm⟩ : ∃ m, m = n - 1 := ⟨_, rfl⟩
        rw [← hm] at HD6
        rw [← hm]
        have hm400 : m ≤ 400 := by omega
        clear hm
        obtain ⟨g, hg⟩ : ∃ g, g = fs.eraseIdx k := ⟨_, rfl⟩
        have HSE : Sec (SortedF g) := sec (by rw [hg]; exact HS.out.erase k)
        rw [← hg] at HD6 HR
        clear hg
        obtain ⟨k2, hk2⟩ : ∃ k2, k2 = lbF dst g := ⟨_, rfl⟩
        obtain ⟨B2, hB2⟩ : ∃ B2, B2 = hasF dst g := ⟨_, rfl⟩
        have HK2 := sec hk2
        have HB2 := sec hB2
        have hgl := HD6.out.len
        clear hk2 hB2
        have d06 : w6.cell? ⟨q, 0, none⟩ = some (.slice (some ⟨b, 0, none⟩) m cap) := HD6.out.blk.cell 0
        have d16 : w6.cell? ⟨q, 1, none⟩ = some (.int .i64 u) := HD6.out.blk.cell 1
        have e16 : w6.cell? ⟨c1, 0, none⟩ = some (.string (bs dst)) := HE1.out _ HG6.out
        go_cut [5, 6] from 8 to 67 (fun v5 v6 wx => v5 = .int .i64 (k2 : Int) ∧ v6 = .bool B2 ∧ Gr w6 wx)
        case first =>
          go_region_with (go_at_call 111; refine (find_any g dst (some ⟨b, 0, none⟩) m cap u w6.drew (by omega) (FRow.gr (Row.own HD6.out.own) (Gr.refl _).drew) HSE.out).mono ?_; rw [← HK2.out, ← HB2.out]; rintro e w2 ⟨rfl, g2⟩)
          all_goals (go_wp2_with fail; go_meet; exact ⟨rfl, rfl, Gr.trans (Gr.refl _).drew g2⟩)
        case rest =>
          obtain ⟨rfl, rfl, gy⟩ := hcut
          clear d06 d16 e16
          have HDz := sec (HD6.out.gr gy)
          have HFz := sec (HF6.out.gr gy)
          have gz : Gr wb wc := HG6.out.trans gy
          have f0 : wc.cell? ⟨r, 0, none⟩ = some (.string (bs dst)) := HFz.out.cell 0
          have f1 : wc.cell? ⟨r, 1, none⟩ = some (.string (bs sf)) := HFz.out.cell 1
          have f2 : wc.cell? ⟨r, 2, none⟩ = some (.string (bs tl)) := HFz.out.cell 2
          have d0v : wc.cell? ⟨q, 0, none⟩ = some (.slice (some ⟨b, 0, none⟩) m cap) := HDz.out.blk.cell 0
          have dfv : wc.frozen? ⟨q, 0, none⟩ = false := HDz.out.blk.frozen 0
          cases B2 with
          | true =>
            have hX := hasF_lt HSE.out HB2.out.symm
            rw [← HK2.out] at hX
            obtain ⟨hkl2, hnm2⟩ := hX
            have hk4 : (k2 : Int) < (m : Int) := by omega
            obtain ⟨b2, hbe, _, _, z0, z1, z2, zf⟩ := HDz.out.at hkl2
            injection hbe with hbe
            injection hbe with hbe
            subst hbe
            have zf0 : wc.frozen? ⟨b, k2 * 3, none⟩ = false := zf 0 (by omega)
            have zf1 : wc.frozen? ⟨b, k2 * 3 + 1, none⟩ = false := zf 1 (by omega)
            have zf2 : wc.frozen? ⟨b, k2 * 3 + 2, none⟩ = false := zf 2 (by omega)
            have HR2 : Sec (rnTo dst (nm, sf, tl) g = g.set k2 (dst, sf, tl)) := sec (by unfold rnTo; rw [← HB2.out, if_pos rfl, ← HK2.out])
            go_wp2_with fail
            go_region
            go_wp2_with fail
            go_ret
            rw [HR.out, HR2.out]
            have hget2 : g[k2]? = some g[k2] := List.getElem?_eq_getElem hkl2
            have hd9 : DOwn (((wc.setCell ⟨b, k2 * 3, none⟩ (.string (bs dst))).setCell ⟨b, k2 * 3 + 1, none⟩ (.string (bs sf))).setCell ⟨b, k2 * 3 + 2, none⟩ (.string (bs tl))) wb.heap.size q (some ⟨b, 0, none⟩) m cap u (g.set k2 (dst, sf, tl)) :=
              ⟨((HDz.out.blk.far (p := ⟨b, k2 * 3, none⟩) (Ne.symm hbq) _).far (p := ⟨b, k2 * 3 + 1, none⟩) (Ne.symm hbq) _).far (p := ⟨b, k2 * 3 + 2, none⟩) (Ne.symm hbq) _, own_file3 HDz.out.own k2 _ dst sf tl hget2, HDz.out.base⟩
            exact ⟨rfl, (((gz.setCell (p := ⟨b, k2 * 3, none⟩) hBb _).setCell (p := ⟨b, k2 * 3 + 1, none⟩) hBb _).setCell (p := ⟨b, k2 * 3 + 2, none⟩) hBb _).drew, fun _ => ⟨_, _, _, hd9.gr (Gr.refl _).drew⟩⟩
          | false =>
            have hkn2 : k2 ≤ m := by rw [HK2.out, ← hgl]; exact lbF_le dst g
            have HINS : Sec (Calls Tryz.prog 196 #[.slice (some ⟨b, 0, none⟩) m cap, .int .i64 (k2 : Int), .slice (some ⟨wc.heap.size, 0, none⟩) 1 1] (wc.alloc (.cells #[.string (bs dst), .string (bs sf), .string (bs tl)] 105)).drew fun e w' =>
              ∃ A' cap', e = .returned (.slice A' (m + 1) cap') ∧ w'.ownsRow wb.heap.size 105 3 (.slice A' (m + 1) cap') (m + 1) ((insF k2 (dst, sf, tl) g).flatMap fileC) ∧ (wc.alloc (.cells #[.string (bs dst), .string (bs sf), .string (bs tl)] 105)).drew.grownBy w' (Value.ownBlock (.slice (some ⟨b, 0, none⟩) m cap))) := sec (by
              refine insert_any (some ⟨b, 0, none⟩) m cap k2 wc.heap.size 1 wb.heap.size g (dst, sf, tl) _ (own_gr HDz.out.own ((Gr.refl wc).alloc _).drew) hkn2 (by omega) ((Blk.new wc _ _).gr (Gr.refl _).drew) (fun h => ?_) ?_
              · have := (HDz.out.own.lt _ h).2; omega
              · have := gz.size; have := (((Gr.refl wc).alloc (.cells #[.string (bs dst), .string (bs sf), .string (bs tl)] 105)).drew).size; omega)
            have HI : Sec (∀ (A' : Option Addr) (cap' : Nat) (w3 : World) (o : Obj), w3.ownsRow wb.heap.size 105 3 (.slice A' (m + 1) cap') (m + 1) ((insF k2 (dst, sf, tl) g).flatMap fileC) → (wc.alloc o).drew.grownBy w3 (Value.ownBlock (.slice (some ⟨b, 0, none⟩) m cap)) →
              w3.cell? ⟨q, 0, none⟩ = some (.slice (some ⟨b, 0, none⟩) m cap) ∧ w3.frozen? ⟨q, 0, none⟩ = false ∧ Sec (DOwn (w3.setCell ⟨q, 0, none⟩ (.slice A' (m + 1) cap')) wb.heap.size q A' (m + 1) cap' u (insF k2 (dst, sf, tl) g) ∧ Gr wb (w3.setCell ⟨q, 0, none⟩ (.slice A' (m + 1) cap')))) := sec (fun A' cap' w3 o ho hgr => by
                obtain ⟨x1, x2, x3⟩ := HDz.out.ins ho hgr
                exact ⟨x1.cell 0, x1.frozen 0, sec ⟨x2, x3 wb rfl gz⟩⟩)
            have HR2 : Sec (rnTo dst (nm, sf, tl) g = insF k2 (dst, sf, tl) g) := sec (by unfold rnTo; rw [← HB2.out, ← HK2.out]; rfl)
            have d0w : (wc.alloc (.cells #[.string (bs dst), .string (bs sf), .string (bs tl)] 105)).cell? ⟨q, 0, none⟩ = some (.slice (some ⟨b, 0, none⟩) m cap) := (HDz.out.blk.alloc _).cell 0
            clear hkn2
            go_wp2_with fail
            go_region_with (go_at_call 196; refine HINS.out.mono ?_; rintro e w3 ⟨A', cap', rfl, ho, hgr⟩; obtain ⟨d0z, f0z, hend⟩ := HI.out A' cap' w3 _ ho hgr)
            all_goals (go_wp2_with fail; go_ret; rw [HR.out, HR2.out]; exact ⟨rfl, hend.out.2, fun _ => ⟨_, _, _, hend.out.1⟩⟩)

set_option maxRecDepth 100000 in
set_option maxHeartbeats 4000000 in
theorem rename_any (frm dst : List UInt8) (fs : List Fl) (A : Option Addr) (n cap : Nat) (f : Int) (w : World) (hn : n ≤ 1099511627776) (hx : FRow w A n fs) (hA : A = none → n = 0 ∧ cap = 0) (hs : ∀ f ∈ fs, f.1.length ≤ 1099511627776 ∧ f.2.1.length ≤ 1099511627776 ∧ f.2.2.length ≤ 1099511627776)
    (hf : -9223372036854775808 ≤ f ∧ f ≤ 9223372036854775807) (hl2 : dst.length ≤ 1099511627776) :
    Calls Tryz.prog 162 #[diskV A n cap f, .string (bs frm), .string (bs dst)] w (StepPost (stepR (rnF frm dst) fs f) A n cap fs w) := by
  have g1 := (Gr.refl w).alloc (.cells #[.slice A n cap, .int .i64 f] 24)
  have g2 := g1.alloc (.cells #[.string (bs frm)] 9)
  have g3 := g2.alloc (.cells #[.string (bs dst)] 9)
  have g4 := g3.alloc (.cells #[.slice none 0 0, .int .i64 0] 24)
  have b1 := (((Blk.new w 24 #[.slice A n cap, .int .i64 f]).alloc (.cells #[.string (bs frm)] 9)).alloc (.cells #[.string (bs dst)] 9)).alloc (.cells #[.slice none 0 0, .int .i64 0] 24)
  have b2 := ((Blk.new1 w (.cells #[.slice A n cap, .int .i64 f] 24) 9 #[.string (bs frm)]).alloc (.cells #[.string (bs dst)] 9)).alloc (.cells #[.slice none 0 0, .int .i64 0] 24)
  have b3 := (Blk.new2 w (.cells #[.slice A n cap, .int .i64 f] 24) (.cells #[.string (bs frm)] 9) 9 #[.string (bs dst)]).alloc (.cells #[.slice none 0 0, .int .i64 0] 24)
  have b4 := Blk.newAt (w := ((w.alloc (.cells #[.slice A n cap, .int .i64 f] 24)).alloc (.cells #[.string (bs frm)] 9)).alloc (.cells #[.string (bs dst)] 9)) (g := w.heap.size + 1 + 1 + 1) (by simp) 24 #[.slice none 0 0, .int .i64 0]
  obtain ⟨wa, hwa⟩ : ∃ x, x = (((w.alloc (.cells #[.slice A n cap, .int .i64 f] 24)).alloc (.cells #[.string (bs frm)] 9)).alloc (.cells #[.string (bs dst)] 9)).alloc (.cells #[.slice none 0 0, .int .i64 0] 24) := ⟨_, rfl⟩
  rw [← hwa] at b1 b2 b3 b4 g4
  obtain ⟨p, hp⟩ : ∃ p, p = w.heap.size := ⟨_, rfl⟩
  have hwp : w.heap.size ≤ p := by omega
  rw [← hp] at b1 b2 b3 b4
  have c0 : wa.cell? ⟨p, 0, none⟩ = some (.slice A n cap) := b1.cell 0
  have c1 : wa.cell? ⟨p, 1, none⟩ = some (.int .i64 f) := b1.cell 1
  have HS := sec (step_any 198 #[.pointer (some ⟨p + 1 + 1, 0, none⟩), .pointer (some ⟨p + 1, 0, none⟩)] (rnF frm dst) (enters_own Tryz.func198 (by kernel_rfl) rfl) fs A n cap f wa hn (hx.gr g4) hA hs hf (rename1_any frm dst (p + 1 + 1) (p + 1) wa (b3.cell 0) (b2.cell 0) hl2))
  have HB4 := sec b4
  have HG4 := sec g4
  clear hx hA hs g1 g2 g3 g4 b1 b2 b3 b4
  unfold diskV at HS
  unfold diskV
  have hmf : ∀ (fn : Fn) (first cap : Array Value) (w : World), (Instr.makeFunc fn first cap).run Tryz.prog w = .ok (.func fn first cap) w := fun _ _ _ _ => rfl
  obtain ⟨R, hR⟩ : ∃ R, R = stepR (rnF frm dst) fs f := ⟨_, rfl⟩
  rw [← hR] at HS
  rw [← hR]
  clear hR
  obtain ⟨fs', f', er⟩ := R
  go_enter Tryz.func162, Tryz.ntmps162
  go_wp2_with (first | (rw [← hwa, ← hp]; clear hwa hp; go_wp2_with fail) | (go_at_call 109; refine Calls.mono HS.out ?_; rintro e w5 ⟨A', n', cap', rfl, g5, hA', hrow⟩;  unfold diskV; have d0 : w5.cell? ⟨p + 1 + 1 + 1, 0, none⟩ = some (.slice none 0 0) := (HB4.out.gr g5).cell 0; have d1 : w5.cell? ⟨p + 1 + 1 + 1, 1, none⟩ = some (.int .i64 0) := (HB4.out.gr g5).cell 1; have f0 : w5.frozen? ⟨p + 1 + 1 + 1, 0, none⟩ = false := (HB4.out.gr g5).frozen 0; have f1 : w5.frozen? ⟨p + 1 + 1 + 1, 1, none⟩ = false := (HB4.out.gr g5).frozen 1))
  refine bodyPost_ret (results_blk_tmp rfl _ rfl (((HB4.out.gr g5).set_ 0 (.slice A' n' cap')).set_ 1 (.int .i64 f')) aggDisk) rfl ?_
  have hfin := StepPost.set2 (r := (fs', f', er)) (p := p + 1 + 1 + 1) HG4.out HB4.out.lt (by omega) g5 (.slice A' n' cap') (.int .i64 f') hrow
  exact ⟨A', n', cap', rfl, hfin.1, hA', hfin.2⟩
end Go.Proofs.YtoamnifnfkgbiaaGreatDoor

namespace Go.Proofs.YtoamnifnfkgbiaaGreatDoor
open Go.RowKit
set_option linter.unusedVariables false
def putStep (f : Fl) (st : List Fl × Bool) (x : Fl) : List Fl × Bool :=
  if x.1 == f.1 then st else if (!st.2 && ltB f.1 x.1) then (st.1 ++ [f] ++ [x], true) else (st.1 ++ [x], st.2)
def putGo (f : Fl) (l : List Fl) : List Fl × Bool := l.foldl (putStep f) ([], false)
def putF (f : Fl) (l : List Fl) : List Fl := if (putGo f l).2 then (putGo f l).1 else (putGo f l).1 ++ [f]
theorem putGo_succ (f : Fl) (l : List Fl) (i : Nat) (h : i < l.length) : putGo f (l.take (i + 1)) = putStep f (putGo f (l.take i)) l[i] := by
  unfold putGo
  rw [List.take_succ_eq_append_getElem h, List.foldl_append]
  rfl
theorem putStep_len (f : Fl) (st : List Fl × Bool) (x : Fl) : (putStep f st x).1.length ≤ st.1.length + 2 := by
  unfold putStep
  split
  · omega
  · split <;> simp

set_option maxRecDepth 100000 in
set_option maxHeartbeats 4000000 in
theorem put_any (l : List Fl) (fn sf tl : List UInt8) (A : Option Addr) (n cap : Nat) (w : World) (hn : n ≤ 1099511627776) (hx : FRow w A n l) :
    Calls Tryz.prog 115 #[.slice A n cap, .agg #[.string (bs fn), .string (bs sf), .string (bs tl)]] w fun e w' =>
      ∃ A' n' cap', e = .returned (.slice A' n' cap') ∧ w'.ownsRow w.heap.size 105 3 (.slice A' n' cap') n' ((putF (fn, sf, tl) l).flatMap fileC) ∧ Gr w w' := by
  have hl := hx.len
  have hg0 := (Gr.refl w).alloc (.cells #[.string (bs fn), .string (bs sf), .string (bs tl)] 105)
  have hb1 := Blk.new w 105 #[.string (bs fn), .string (bs sf), .string (bs tl)]
  have hx1 := hx.gr hg0
  go_enter Tryz.func115, Tryz.ntmps115
  go_wp2_with fail
  obtain ⟨wa, hwa⟩ : ∃ x, x = w.alloc (.cells #[.string (bs fn), .string (bs sf), .string (bs tl)] 105) := ⟨_, rfl⟩
  obtain ⟨p, hp⟩ : ∃ p, p = w.heap.size := ⟨_, rfl⟩
  rw [← hwa] at hg0 hb1 hx1
  rw [← hp] at hb1
  rw [← hwa, ← hp]
  have HX := sec hx1
  have HB := sec hb1
  have hwp : w.heap.size ≤ p := by omega
  have HO : Sec (wa.ownsRow wa.heap.size 105 3 (.slice none 0 0) 0 ((putGo (fn, sf, tl) (l.take 0)).1.flatMap fileC)) := sec (World.ownsRow_nil _ _ _ _)
  clear hwa hp hx hx1 hb1
  go_loopw [11, 5, 6, 8] (fun iv v5 v6 _ wr => ∃ (i n1 k1 : Nat) (A1 : Option Addr) (dn : Bool), iv = .int .i64 (i : Int) ∧ v5 = .slice A1 n1 k1 ∧ v6 = .bool dn ∧ i ≤ n ∧ n1 ≤ 2 * i ∧ Sec (dn = (putGo (fn, sf, tl) (l.take i)).2) ∧ Sec (wr.ownsRow wa.heap.size 105 3 (.slice A1 n1 k1) n1 ((putGo (fn, sf, tl) (l.take i)).1.flatMap fileC)) ∧ Gr wa wr) (fun iv _ _ _ _ => n - (intOf iv).toNat)
  case atStart => exact ⟨0, 0, 0, none, false, rfl, rfl, rfl, by omega, by omega, sec rfl, HO, Gr.refl _⟩
  case round =>
    clear HO
    obtain ⟨i, n1, k1, A1, dn, rfl, rfl, rfl, hi, hn1, HDN, HOw, hg⟩ := hrel
    by_cases hlt : i < n
    · have hif : i < l.length := by omega
      have hii : (i : Int) < (n : Int) := by omega
      obtain ⟨b, off, rfl, e0, e1, e2⟩ := (HX.out.gr hg).cell hif
      have HSU := sec (putGo_succ (fn, sf, tl) l i hif)
      obtain ⟨x, hxx⟩ : ∃ x, x = l[i] := ⟨_, rfl⟩
      rw [← hxx] at e0 e1 e2 HSU
      clear hxx hif
      obtain ⟨nm, s1, t1⟩ := x
      simp only at e0 e1 e2 HSU
      have f0 : (wr.alloc (.cells #[.string (bs nm), .string (bs s1), .string (bs t1)] 105)).cell? ⟨p, 0, none⟩ = some (.string (bs fn)) := (HB.out.gr (hg.alloc _)).cell 0
      have f1 : (wr.alloc (.cells #[.string (bs nm), .string (bs s1), .string (bs t1)] 105)).cell? ⟨p, 1, none⟩ = some (.string (bs sf)) := (HB.out.gr (hg.alloc _)).cell 1
      have f2 : (wr.alloc (.cells #[.string (bs nm), .string (bs s1), .string (bs t1)] 105)).cell? ⟨p, 2, none⟩ = some (.string (bs tl)) := (HB.out.gr (hg.alloc _)).cell 2
      have hnb : n1 ≤ 2199023255552 := by omega
      have hb1 : (n1 + 1) * 48 ≤ 140737488355328 := Nat.le_trans (Nat.mul_le_mul_right 48 (Nat.succ_le_succ hnb)) (by decide)
      have HM2 : Sec (n1 + 1 ≤ maxLen) := sec (Nat.le_trans (Nat.succ_le_succ hnb) (by decide))
      have hb3 : (n1 + 1 + 1) * 48 ≤ 140737488355328 := Nat.le_trans (Nat.mul_le_mul_right 48 (Nat.succ_le_succ (Nat.succ_le_succ hnb))) (by decide)
      have HM4 : Sec (n1 + 1 + 1 ≤ maxLen) := sec (Nat.le_trans (Nat.succ_le_succ (Nat.succ_le_succ hnb)) (by decide))
      have hws := hg.size
      cases hb : nm == fn with
      | true =>
        have HS2 : Sec (putGo (fn, sf, tl) (l.take (i + 1)) = putGo (fn, sf, tl) (l.take i)) := sec (by rw [HSU.out]; unfold putStep; rw [if_pos hb])
        go_wp2_with fail
        go_roundw
        case rel => exact ⟨i + 1, n1, k1, A1, dn, by go_num, rfl, rfl, by omega, by omega, by rw [HS2.out]; exact HDN, by rw [HS2.out]; exact sec (own_gr HOw.out ((Gr.refl _).alloc _)), hg.alloc _⟩
        case measure => simp [intOf]; omega
      | false =>
        by_cases hdl : (!dn && ltB fn nm) = true
        · have HS2 : Sec (putGo (fn, sf, tl) (l.take (i + 1)) = ((putGo (fn, sf, tl) (l.take i)).1 ++ [(fn, sf, tl)] ++ [(nm, s1, t1)], true)) := sec (by rw [HSU.out]; unfold putStep; rw [if_neg (by rw [hb]; decide), ← HDN.out, if_pos hdl])
          rw [Bool.and_eq_true] at hdl
          obtain ⟨hd0, hlt1⟩ := hdl
          obtain rfl : dn = false := by cases dn <;> simp_all
          have q1 : Op.bytesLess nm fn = false := ltB_asym hlt1
          have HXB : Sec (∀ w2, ((wr.alloc (.cells #[.string (bs nm), .string (bs s1), .string (bs t1)] 105)).alloc (.cells #[.string (bs fn), .string (bs sf), .string (bs tl)] 105)).grownBy w2 (Value.ownBlock (.slice A1 n1 k1)) → Blk w2 wr.heap.size 105 #[.string (bs nm), .string (bs s1), .string (bs t1)]) := sec (fun w2 hgn =>
            ((Blk.new wr 105 #[.string (bs nm), .string (bs s1), .string (bs t1)]).alloc _).grown hgn (fun e => by have := (HOw.out.lt _ e.symm).2; omega))
          have HO2 := HOw
          clear hd0 hlt1 hlt
          go_wp2_with (first
            | (refine wpList_append_row E.file rfl (.tmp 29) (.tmp 31) rfl (B := wa.heap.size) (A0 := A1) (n0 := n1) (cap0 := k1) rfl (own_gr HOw.out (((Gr.refl wr).alloc _).alloc _)) rfl (Row.lit (Blk.new1 wr _ 105 #[.string (bs fn), .string (bs sf), .string (bs tl)])) (by intro h; cases h) (by intro u hu; simp at hu; rcases hu with rfl | rfl | rfl <;> rfl) hb1 HM2.out (by simp; omega) ?_; intro A2 k2 w2 hown hgn; have hx2 := HXB.out w2 hgn; have y0 : w2.cell? ⟨wr.heap.size, 0, none⟩ = some (.string (bs nm)) := hx2.cell 0; have y1 : w2.cell? ⟨wr.heap.size, 1, none⟩ = some (.string (bs s1)) := hx2.cell 1; have y2 : w2.cell? ⟨wr.heap.size, 2, none⟩ = some (.string (bs t1)) := hx2.cell 2; have hw2 := hgn.size; simp at hw2)
            | (refine wpList_append_row E.file rfl (.tmp 33) (.tmp 35) rfl (B := wa.heap.size) (A0 := A2) (n0 := n1 + 1) (cap0 := k2) rfl (own_gr hown ((Gr.refl w2).alloc _)) rfl (Row.lit (Blk.new w2 105 #[.string (bs nm), .string (bs s1), .string (bs t1)])) (by intro h; cases h) (by intro u hu; simp at hu; rcases hu with rfl | rfl | rfl <;> rfl) hb3 HM4.out (by simp; omega) ?_; intro A3 k3 w3 hown3 hgn3))
          go_roundw
          case rel =>
            refine ⟨i + 1, n1 + 1 + 1, k3, A3, true, by go_num, rfl, rfl, by omega, by omega, by rw [HS2.out]; exact sec rfl, ?_, ?_⟩
            · rw [HS2.out]
              simp only [List.flatMap_append, List.flatMap_cons, List.flatMap_nil, List.append_nil]
              exact sec hown3
            · exact Gr.grown ((Gr.grown ((hg.alloc _).alloc _) hgn (fun k hk => (HOw.out.lt k hk).1)).alloc _) hgn3 (fun k hk => (hown.lt k hk).1)
          case measure => simp [intOf]; omega
        · have HS2 : Sec (putGo (fn, sf, tl) (l.take (i + 1)) = ((putGo (fn, sf, tl) (l.take i)).1 ++ [(nm, s1, t1)], dn)) := sec (by rw [HSU.out]; unfold putStep; rw [if_neg (by rw [hb]; decide), ← HDN.out, if_neg hdl])
          have q1 : dn = false → Op.bytesLess nm fn = true := fun hd => by
            cases h : Op.bytesLess nm fn with
            | true => rfl
            | false =>
              exfalso
              have h2 : ltB fn nm = false := by cases h3 : ltB fn nm with
                | false => rfl
                | true => exact absurd (by rw [hd, h3]; rfl) hdl
              have := ltB_tri nm fn h h2
              rw [this] at hb
              simp at hb
          have QQ := sec q1
          clear hdl q1 hlt
          cases dn with
          | true =>
            go_wp2_with (refine wpList_append_row E.file rfl (.tmp 33) (.tmp 35) rfl (B := wa.heap.size) (A0 := A1) (n0 := n1) (cap0 := k1) rfl (own_gr HOw.out (((Gr.refl wr).alloc _).alloc _)) rfl (Row.lit (Blk.new1 wr _ 105 #[.string (bs nm), .string (bs s1), .string (bs t1)])) (by intro h; cases h) (by intro u hu; simp at hu; rcases hu with rfl | rfl | rfl <;> rfl) hb1 HM2.out (by simp; omega) ?_; intro A2 k2 w2 hown hgn)
            go_roundw
            case rel =>
              refine ⟨i + 1, n1 + 1, k2, A2, true, by go_num, rfl, rfl, by omega, by omega, by rw [HS2.out]; exact sec rfl, ?_, ?_⟩
              · rw [HS2.out]
                simp only [List.flatMap_append, List.flatMap_cons, List.flatMap_nil, List.append_nil]
                exact sec hown
              · exact Gr.grown ((hg.alloc _).alloc _) hgn (fun k hk => (HOw.out.lt k hk).1)
            case measure => simp [intOf]; omega
          | false =>
            have q1 : Op.bytesLess nm fn = true := QQ.out rfl
            go_wp2_with (refine wpList_append_row E.file rfl (.tmp 33) (.tmp 35) rfl (B := wa.heap.size) (A0 := A1) (n0 := n1) (cap0 := k1) rfl (own_gr HOw.out (((Gr.refl wr).alloc _).alloc _)) rfl (Row.lit (Blk.new1 wr _ 105 #[.string (bs nm), .string (bs s1), .string (bs t1)])) (by intro h; cases h) (by intro u hu; simp at hu; rcases hu with rfl | rfl | rfl <;> rfl) hb1 HM2.out (by simp; omega) ?_; intro A2 k2 w2 hown hgn)
            go_roundw
            case rel =>
              refine ⟨i + 1, n1 + 1, k2, A2, false, by go_num, rfl, rfl, by omega, by omega, by rw [HS2.out]; exact sec rfl, ?_, ?_⟩
              · rw [HS2.out]
                simp only [List.flatMap_append, List.flatMap_cons, List.flatMap_nil, List.append_nil]
                exact sec hown
              · exact Gr.grown ((hg.alloc _).alloc _) hgn (fun k hk => (HOw.out.lt k hk).1)
            case measure => simp [intOf]; omega
    · obtain rfl : i = n := by omega
      have HT : Sec (putGo (fn, sf, tl) (l.take i) = putGo (fn, sf, tl) l) := sec (by rw [show l.take i = l from List.take_of_length_le (by omega)])
      rw [HT.out] at HDN HOw
      have f0 : wr.cell? ⟨p, 0, none⟩ = some (.string (bs fn)) := (HB.out.gr hg).cell 0
      have f1 : wr.cell? ⟨p, 1, none⟩ = some (.string (bs sf)) := (HB.out.gr hg).cell 1
      have f2 : wr.cell? ⟨p, 2, none⟩ = some (.string (bs tl)) := (HB.out.gr hg).cell 2
      have hnb : n1 ≤ 2199023255552 := by omega
      have hb1 : (n1 + 1) * 48 ≤ 140737488355328 := Nat.le_trans (Nat.mul_le_mul_right 48 (Nat.succ_le_succ hnb)) (by decide)
      have HM2 : Sec (n1 + 1 ≤ maxLen) := sec (Nat.le_trans (Nat.succ_le_succ hnb) (by decide))
      have hws := hg.size
      clear hlt hi
      cases dn with
      | true =>
        have HPF : Sec (putF (fn, sf, tl) l = (putGo (fn, sf, tl) l).1) := sec (by unfold putF; rw [← HDN.out]; rfl)
        go_wp2_with fail
        go_ret
        rw [HPF.out]
        exact ⟨A1, n1, k1, rfl, own_low HOw.out hg0.size, hg0.trans hg⟩
      | false =>
        have HPF : Sec (putF (fn, sf, tl) l = (putGo (fn, sf, tl) l).1 ++ [(fn, sf, tl)]) := sec (by unfold putF; rw [← HDN.out]; rfl)
        go_wp2_with (refine wpList_append_row E.file rfl (.tmp 40) (.tmp 42) rfl (B := wa.heap.size) (A0 := A1) (n0 := n1) (cap0 := k1) rfl (own_gr HOw.out ((Gr.refl wr).alloc _)) rfl (Row.lit (Blk.new wr 105 #[.string (bs fn), .string (bs sf), .string (bs tl)])) (by intro h; cases h) (by intro u hu; simp at hu; rcases hu with rfl | rfl | rfl <;> rfl) hb1 HM2.out (by simp; omega) ?_; intro A2 k2 w2 hown hgn)
        go_ret
        rw [HPF.out]
        simp only [List.flatMap_append, List.flatMap_cons, List.flatMap_nil, List.append_nil]
        exact ⟨A2, n1 + 1, k2, rfl, own_low hown hg0.size, hg0.trans (Gr.grown (hg.alloc _) hgn (fun k hk => (HOw.out.lt k hk).1))⟩
end Go.Proofs.YtoamnifnfkgbiaaGreatDoor

namespace Go.Proofs.YtoamnifnfkgbiaaGreatDoor
open Go.RowKit
set_option linter.unusedVariables false
theorem ltB_ne {a b : List UInt8} (h : ltB a b = true) : (a == b) = false := by
  cases hb : a == b with
  | false => rfl
  | true =>
    have : a = b := by simpa using hb
    rw [this, ltB_irr] at h; cases h
theorem ltB_ne' {a b : List UInt8} (h : ltB a b = true) : (b == a) = false := by
  cases hb : b == a with
  | false => rfl
  | true =>
    have : b = a := by simpa using hb
    rw [this, ltB_irr] at h; cases h
theorem put_done (f : Fl) : ∀ (l acc : List Fl), (∀ x ∈ l, ltB f.1 x.1 = true) → l.foldl (putStep f) (acc, true) = (acc ++ l, true)
  | [], acc, _ => by simp
  | x :: r, acc, h => by
    have h1 := h x (by simp)
    rw [List.foldl_cons]
    have : putStep f (acc, true) x = (acc ++ [x], true) := by unfold putStep; rw [ltB_ne' h1]; rfl
    rw [this, put_done f r _ (fun y hy => h y (by simp [hy]))]
    simp
theorem put_low (f : Fl) : ∀ (l acc : List Fl), (∀ x ∈ l, ltB x.1 f.1 = true) → l.foldl (putStep f) (acc, false) = (acc ++ l, false)
  | [], acc, _ => by simp
  | x :: r, acc, h => by
    have h1 := h x (by simp)
    rw [List.foldl_cons]
    have : putStep f (acc, false) x = (acc ++ [x], false) := by unfold putStep; rw [ltB_ne h1, ltB_asym h1]; rfl
    rw [this, put_low f r _ (fun y hy => h y (by simp [hy]))]
    simp
def putEnd (f : Fl) (st : List Fl × Bool) : List Fl := if st.2 then st.1 else st.1 ++ [f]
theorem put_high (f : Fl) (l acc : List Fl) (h : ∀ x ∈ l, ltB f.1 x.1 = true) : putEnd f (l.foldl (putStep f) (acc, false)) = acc ++ f :: l := by
  cases l with
  | nil => simp [putEnd]
  | cons x r =>
    have h1 := h x (by simp)
    rw [List.foldl_cons]
    have : putStep f (acc, false) x = (acc ++ [f] ++ [x], true) := by unfold putStep; rw [ltB_ne' h1, h1]; rfl
    rw [this, put_done f r _ (fun y hy => h y (by simp [hy]))]
    simp [putEnd]
theorem lb_split (name : List UInt8) : ∀ fs : List Fl, (∀ x ∈ fs.take (lbF name fs), ltB x.1 name = true) ∧ (∀ h : lbF name fs < fs.length, ltB fs[lbF name fs].1 name = false)
  | [] => ⟨fun x hx => by simp at hx, fun h => by simp at h⟩
  | y :: r => by
    obtain ⟨h1, h2⟩ := lb_split name r
    cases hy : ltB y.1 name with
    | true =>
      have e : lbF name (y :: r) = lbF name r + 1 := by unfold lbF; rw [List.takeWhile_cons_of_pos (by simpa using hy)]; rfl
      refine ⟨fun x hx => ?_, fun h => ?_⟩
      · rw [e, List.take_succ_cons] at hx
        rcases List.mem_cons.1 hx with rfl | hx
        · exact hy
        · exact h1 x hx
      · simp only [e, List.getElem_cons_succ]
        exact h2 (by rw [e] at h; simpa using h)
    | false =>
      have e : lbF name (y :: r) = 0 := by unfold lbF; rw [List.takeWhile_cons_of_neg (by simp [hy])]; rfl
      refine ⟨fun x hx => by rw [e] at hx; simp at hx, fun h => ?_⟩
      simp only [e, List.getElem_cons_zero]
      exact hy
theorem put_sorted (f : Fl) (fs : List Fl) (hs : SortedF fs) : putF f fs = if hasF f.1 fs then fs.set (lbF f.1 fs) f else insF (lbF f.1 fs) f fs := by
  have hle := lbF_le f.1 fs
  have hlow := (lb_split f.1 fs).1
  have e : putF f fs = putEnd f ((fs.drop (lbF f.1 fs)).foldl (putStep f) (fs.take (lbF f.1 fs), false)) := by
    show putEnd f (putGo f fs) = _
    unfold putGo
    conv => lhs; rw [← List.take_append_drop (lbF f.1 fs) fs, List.foldl_append]
    rw [put_low f _ [] hlow, List.nil_append]
  rw [e]
  cases hh : hasF f.1 fs with
  | true =>
    obtain ⟨h1, h2⟩ := hasF_lt hs hh
    rw [List.drop_eq_getElem_cons h1, List.foldl_cons]
    have : putStep f (fs.take (lbF f.1 fs), false) fs[lbF f.1 fs] = (fs.take (lbF f.1 fs), false) := by unfold putStep; rw [h2]; simp
    rw [this, put_high f _ _ (fun x hx => ?_), if_pos rfl, List.set_eq_take_append_cons_drop, if_pos h1]
    obtain ⟨m, hm, rfl⟩ := List.getElem_of_mem hx
    rw [List.getElem_drop]
    have := hs.get (i := lbF f.1 fs) (j := lbF f.1 fs + 1 + m) (by simp at hm; omega) (by omega)
    rwa [h2] at this
  | false =>
    rw [put_high f _ _ (fun x hx => ?_), if_neg (by decide)]
    · rfl
    · obtain ⟨m, hm, rfl⟩ := List.getElem_of_mem hx
      rw [List.getElem_drop]
      have hm' : lbF f.1 fs + m < fs.length := by simp at hm; omega
      have h0 : lbF f.1 fs < fs.length := by omega
      have hge : ltB fs[lbF f.1 fs].1 f.1 = false := by
        exact (lb_split f.1 fs).2 h0
      have h3 := hs.above hm' (Nat.le_add_right _ _) hge
      have h4 : (fs[lbF f.1 fs + m].1 == f.1) = false := by
        have := List.any_eq_false.1 hh fs[lbF f.1 fs + m] (List.getElem_mem hm')
        simpa using this
      cases h5 : ltB f.1 fs[lbF f.1 fs + m].1 with
      | true => rfl
      | false =>
        have := ltB_tri _ _ h3 h5
        rw [this] at h4
        simp at h4
end Go.Proofs.YtoamnifnfkgbiaaGreatDoor

namespace Go.Proofs.YtoamnifnfkgbiaaGreatDoor
open Go.RowKit
set_option linter.unusedVariables false
theorem FRow.take {w : World} {A : Option Addr} {n : Nat} {fs : List Fl} (h : FRow w A n fs) (k : Nat) (hk : k ≤ n) : FRow w A k (fs.take k) := by
  have hl := h.len
  refine ⟨by rw [flat_len fileC 3 (fun _ => rfl), List.length_take]; omega, fun h0 => ?_⟩
  obtain ⟨b, off, e, hc⟩ := Row.at_ h (by omega)
  refine ⟨b, off, e, fun i v hv => hc i v ?_⟩
  rw [← flat_take, List.getElem?_take] at hv
  split at hv
  · exact hv
  · cases hv
theorem FRow.drop {w : World} {b off n : Nat} {fs : List Fl} (h : FRow w (some ⟨b, off, none⟩) n fs) (k : Nat) (hk : k ≤ n) : FRow w (some ⟨b, off + k * 3, none⟩) (n - k) (fs.drop k) := by
  have hl := h.len
  refine ⟨by rw [flat_len fileC 3 (fun _ => rfl), List.length_drop]; omega, fun h0 => ?_⟩
  obtain ⟨b', off', e, hc⟩ := Row.at_ h (by omega)
  injection e with e
  injection e with e1 e2
  subst e1 e2
  refine ⟨b, off + k * 3, rfl, fun i v hv => ?_⟩
  rw [← flat_drop, List.getElem?_drop] at hv
  rw [Nat.add_assoc]
  exact hc _ v hv
theorem FRow.none {w : World} {A : Option Addr} {fs : List Fl} (n : Nat) (h : fs.length ≤ n) : FRow w A 0 (fs.drop n) := by
  rw [List.drop_eq_nil_of_le h]
  exact Row.nil w 3 A
theorem insF_set (i : Nat) (f g : Fl) (fs : List Fl) (h : i ≤ fs.length) : (insF i f fs).set i g = insF i g fs := by
  unfold insF
  rw [List.set_append_right _ _ (by simp; omega)]
  simp [Nat.min_eq_left h]
theorem erase_flat (fs : List Fl) (k : Nat) : (fs.take k).flatMap fileC ++ (fs.drop (k + 1)).flatMap fileC = (fs.eraseIdx k).flatMap fileC := by
  rw [List.eraseIdx_eq_take_drop_succ, List.flatMap_append]
theorem do_end {w w6 : World} {B q p n' c' : Nat} {A' : Option Addr} {R : List Fl} {cs : Array Value} (hg : Gr w w6) (hwp : w.heap.size ≤ p + 1) (hwq : w.heap.size ≤ q) (hb : Blk w6 (p + 1) 24 #[.slice none 0 0, .int .i64 0]) (hq : Blk w6 q 24 cs) (hpq : p + 1 ≠ q)
    (ho : w6.ownsRow B 105 3 (.slice A' n' c') n' (R.flatMap fileC)) (hB : w.heap.size ≤ B) (u : Int) (v : Value) :
    Blk (((w6.setCell ⟨q, 0, none⟩ v).setCell ⟨p + 1, 0, none⟩ (.slice A' n' c')).setCell ⟨p + 1, 1, none⟩ (.int .i64 u)) (p + 1) 24 #[.slice A' n' c', .int .i64 u] ∧
    Gr w (((w6.setCell ⟨q, 0, none⟩ v).setCell ⟨p + 1, 0, none⟩ (.slice A' n' c')).setCell ⟨p + 1, 1, none⟩ (.int .i64 u)) ∧
    (((w6.setCell ⟨q, 0, none⟩ v).setCell ⟨p + 1, 0, none⟩ (.slice A' n' c')).setCell ⟨p + 1, 1, none⟩ (.int .i64 u)).ownsRow w.heap.size 105 3 (.slice A' n' c') n' (R.flatMap fileC) ∧ (A' = none → n' = 0 ∧ c' = 0) := by
  have h1 := own_blk_ne ho hb (by decide)
  have h2 := own_blk_ne ho hq (by decide)
  exact ⟨((hb.far (p := ⟨q, 0, none⟩) hpq v).set_ 0 _).set_ 1 _, ((hg.setCell (p := ⟨q, 0, none⟩) hwq v).setCell (p := ⟨p + 1, 0, none⟩) hwp _).setCell (p := ⟨p + 1, 1, none⟩) hwp _,
    own_low (ownsRow_setCell_other (ownsRow_setCell_other (ownsRow_setCell_other ho (a := ⟨q, 0, none⟩) h2 _) (a := ⟨p + 1, 0, none⟩) h1 _) (a := ⟨p + 1, 1, none⟩) h1 _) hB, own_none ho⟩
end Go.Proofs.YtoamnifnfkgbiaaGreatDoor

namespace Go.Proofs.YtoamnifnfkgbiaaGreatDoor
open Go.RowKit
set_option linter.unusedVariables false
/-- P6.3 within the power -/
def syF (name : List UInt8) (fs : List Fl) : List Fl × Int :=
  if hasF name fs then
    (fs.set (lbF name fs) ((fs.getD (lbF name fs) ([], [], [])).1, (fs.getD (lbF name fs) ([], [], [])).2.1 ++ (fs.getD (lbF name fs) ([], [], [])).2.2, []), 0)
  else (fs, 7)

set_option maxRecDepth 100000 in
set_option maxHeartbeats 4000000 in
theorem sync1_any (name : List UInt8) (c1 : Nat) (w0 : World) (h1 : w0.cell? ⟨c1, 0, none⟩ = some (.string (bs name))) :
    Steps 197 #[.pointer (some ⟨c1, 0, none⟩)] (syF name) w0 := by
  intro wb w q A n cap u fs g0 gc hd hgf
  show Calls Tryz.prog 197 #[.pointer (some ⟨q, 0, none⟩), .pointer (some ⟨c1, 0, none⟩)] w _
  have hl := hd.len
  have hl400 : fs.length ≤ 400 := goodFs_len hgf
  have e1 : w.cell? ⟨c1, 0, none⟩ = some (.string (bs name)) := ((g0.trans gc).cells.1 c1 _ (World.block_lt_of_cell? w0 _ h1)).trans h1
  have HD := sec hd
  have HS := sec (goodFs_sorted hgf)
  have HGC := sec gc
  have HGF := sec hgf
  have d0 : w.cell? ⟨q, 0, none⟩ = some (.slice A n cap) := hd.blk.cell 0
  have d1 : w.cell? ⟨q, 1, none⟩ = some (.int .i64 u) := hd.blk.cell 1
  clear h1 g0 gc hd hgf
  obtain ⟨k, hk⟩ : ∃ k, k = lbF name fs := ⟨_, rfl⟩
  have HK := sec hk
  clear hk
  cases hB : hasF name fs with
  | false =>
    have HR : Sec (syF name fs = (fs, 7)) := sec (by unfold syF; rw [hB]; rfl)
    have HB := sec hB
    clear hB
    go_enter Tryz.func197, Tryz.ntmps197
    go_upto_region 1 with fail
    go_cut [4, 5] from 7 to 37 (fun v5 v6 wx => v5 = .int .i64 (k : Int) ∧ v6 = .bool false ∧ Gr w wx)
    case first =>
      go_region_with (go_at_call 111; refine (find_any fs name A n cap u w.drew (by omega) (FRow.gr (Row.own HD.out.own) (Gr.refl _).drew) HS.out).mono ?_; rw [← HK.out, HB.out]; rintro e w2 ⟨rfl, g2⟩)
      all_goals (go_wp2_with fail; go_meet; exact ⟨rfl, rfl, Gr.trans (Gr.refl _).drew g2⟩)
    case rest =>
      obtain ⟨rfl, rfl, gx⟩ := hcut
      go_wp2_with fail
      go_ret
      rw [HR.out]
      exact ⟨rfl, HGC.out.trans gx, fun h => by cases h⟩
  | true =>
    have hX := hasF_lt HS.out hB
    rw [← HK.out] at hX
    obtain ⟨hkl, hnm⟩ := hX
    have HB := sec hB
    clear hB
    go_enter Tryz.func197, Tryz.ntmps197
    go_upto_region 1 with fail
    go_cut [4, 5] from 7 to 37 (fun v5 v6 wx => v5 = .int .i64 (k : Int) ∧ v6 = .bool true ∧ Gr w wx)
    case first =>
      go_region_with (go_at_call 111; refine (find_any fs name A n cap u w.drew (by omega) (FRow.gr (Row.own HD.out.own) (Gr.refl _).drew) HS.out).mono ?_; rw [← HK.out, HB.out]; rintro e w2 ⟨rfl, g2⟩)
      all_goals (go_wp2_with fail; go_meet; exact ⟨rfl, rfl, Gr.trans (Gr.refl _).drew g2⟩)
    case rest =>
      obtain ⟨rfl, rfl, gx⟩ := hcut
      have HDz := sec (HD.out.gr gx)
      have gz : Gr wb wc := HGC.out.trans gx
      clear d0 d1 e1 HD gx
      have hk2 : (k : Int) < (n : Int) := by omega
      obtain ⟨b, rfl, hBb, hbq, z0, z1, z2, zf⟩ := HDz.out.at hkl
      have zf1 : wc.frozen? ⟨b, k * 3 + 1, none⟩ = false := zf 1 (by omega)
      have zf2 : wc.frozen? ⟨b, k * 3 + 2, none⟩ = false := zf 2 (by omega)
      have hget : fs[k]? = some fs[k] := List.getElem?_eq_getElem hkl
      have hgd : fs.getD (lbF name fs) ([], [], []) = fs[k] := by
        rw [← HK.out, List.getD_eq_getElem?_getD, hget]; rfl
      have hsz := goodFs_ok HGF.out fs[k] (List.getElem_mem hkl)
      obtain ⟨x, hxx⟩ : ∃ x, x = fs[k] := ⟨_, rfl⟩
      rw [← hxx] at z0 z1 z2 hget hgd hsz
      clear hxx hnm hkl zf
      obtain ⟨nm, sf, tl⟩ := x
      simp only at z0 z1 z2 hsz
      obtain ⟨_, hz1, hz2⟩ := hsz
      have d0z : wc.cell? ⟨q, 0, none⟩ = some (.slice (some ⟨b, 0, none⟩) n cap) := HDz.out.blk.cell 0
      have HR : Sec (syF name fs = (fs.set k (nm, sf ++ tl, []), 0)) := sec (by
        unfold syF; rw [HB.out, if_pos rfl, hgd, ← HK.out])
      have HDF : Sec (∀ W, Gr wc W → DOwn ((W.setCell ⟨b, k * 3 + 1, none⟩ (.string (bs (sf ++ tl)))).setCell ⟨b, k * 3 + 2, none⟩ (.string (bs []))) wb.heap.size q (some ⟨b, 0, none⟩) n cap u (fs.set k (nm, sf ++ tl, []))) := sec (fun W g =>
        ⟨((HDz.out.gr g).blk.far (p := ⟨b, k * 3 + 1, none⟩) (Ne.symm hbq) _).far (p := ⟨b, k * 3 + 2, none⟩) (Ne.symm hbq) _, own_file2 (HDz.out.gr g).own k nm sf tl (sf ++ tl) [] hget, HDz.out.base⟩)
      have HGS : Sec (∀ W, Gr wc W → Gr wb ((W.setCell ⟨b, k * 3 + 1, none⟩ (.string (bs (sf ++ tl)))).setCell ⟨b, k * 3 + 2, none⟩ (.string (bs [])))) := sec (fun W g => ((gz.trans g).setCell (p := ⟨b, k * 3 + 1, none⟩) hBb _).setCell (p := ⟨b, k * 3 + 2, none⟩) hBb _)
      clear hget hgd
      go_wp2_with fail
      go_region
      go_wp2_with fail
      go_ret
      rw [HR.out]
      exact ⟨rfl, (HGS.out _ (Gr.refl _)).drew, fun _ => ⟨_, _, _, (HDF.out _ (Gr.refl _)).gr (Gr.refl _).drew⟩⟩

set_option maxRecDepth 100000 in
set_option maxHeartbeats 4000000 in
theorem sync_any (name : List UInt8) (fs : List Fl) (A : Option Addr) (n cap : Nat) (f : Int) (w : World) (hn : n ≤ 1099511627776) (hx : FRow w A n fs) (hA : A = none → n = 0 ∧ cap = 0) (hs : ∀ f ∈ fs, f.1.length ≤ 1099511627776 ∧ f.2.1.length ≤ 1099511627776 ∧ f.2.2.length ≤ 1099511627776)
    (hf : -9223372036854775808 ≤ f ∧ f ≤ 9223372036854775807) :
    Calls Tryz.prog 161 #[diskV A n cap f, .string (bs name)] w (StepPost (stepR (syF name) fs f) A n cap fs w) := by
  have g1 := (Gr.refl w).alloc (.cells #[.slice A n cap, .int .i64 f] 24)
  have g2 := g1.alloc (.cells #[.string (bs name)] 9)
  have g4 := g2.alloc (.cells #[.slice none 0 0, .int .i64 0] 24)
  have b1 := ((Blk.new w 24 #[.slice A n cap, .int .i64 f]).alloc (.cells #[.string (bs name)] 9)).alloc (.cells #[.slice none 0 0, .int .i64 0] 24)
  have b2 := (Blk.new1 w (.cells #[.slice A n cap, .int .i64 f] 24) 9 #[.string (bs name)]).alloc (.cells #[.slice none 0 0, .int .i64 0] 24)
  have b4 := Blk.newAt (w := ((w.alloc (.cells #[.slice A n cap, .int .i64 f] 24)).alloc (.cells #[.string (bs name)] 9))) (g := w.heap.size + 1 + 1) (by simp) 24 #[.slice none 0 0, .int .i64 0]
  obtain ⟨wa, hwa⟩ : ∃ x, x = (((w.alloc (.cells #[.slice A n cap, .int .i64 f] 24)).alloc (.cells #[.string (bs name)] 9))).alloc (.cells #[.slice none 0 0, .int .i64 0] 24) := ⟨_, rfl⟩
  rw [← hwa] at b1 b2 b4 g4
  obtain ⟨p, hp⟩ : ∃ p, p = w.heap.size := ⟨_, rfl⟩
  have hwp : w.heap.size ≤ p := by omega
  rw [← hp] at b1 b2 b4
  have c0 : wa.cell? ⟨p, 0, none⟩ = some (.slice A n cap) := b1.cell 0
  have c1 : wa.cell? ⟨p, 1, none⟩ = some (.int .i64 f) := b1.cell 1
  have HS := sec (step_any 197 #[.pointer (some ⟨p + 1, 0, none⟩)] (syF name) (enters_own Tryz.func197 (by kernel_rfl) rfl) fs A n cap f wa hn (hx.gr g4) hA hs hf (sync1_any name (p + 1) wa (b2.cell 0)))
  have HB4 := sec b4
  have HG4 := sec g4
  clear hx hA hs g1 g2 g4 b1 b2 b4
  unfold diskV at HS
  unfold diskV
  have hmf : ∀ (fn : Fn) (first cap : Array Value) (w : World), (Instr.makeFunc fn first cap).run Tryz.prog w = .ok (.func fn first cap) w := fun _ _ _ _ => rfl
  obtain ⟨R, hR⟩ : ∃ R, R = stepR (syF name) fs f := ⟨_, rfl⟩
  rw [← hR] at HS
  rw [← hR]
  clear hR
  obtain ⟨fs', f', er⟩ := R
  go_enter Tryz.func161, Tryz.ntmps161
  go_wp2_with (first | (rw [← hwa, ← hp]; clear hwa hp; go_wp2_with fail) | (go_at_call 109; refine Calls.mono HS.out ?_; rintro e w5 ⟨A', n', cap', rfl, g5, hA', hrow⟩;  unfold diskV; have d0 : w5.cell? ⟨p + 1 + 1, 0, none⟩ = some (.slice none 0 0) := (HB4.out.gr g5).cell 0; have d1 : w5.cell? ⟨p + 1 + 1, 1, none⟩ = some (.int .i64 0) := (HB4.out.gr g5).cell 1; have f0 : w5.frozen? ⟨p + 1 + 1, 0, none⟩ = false := (HB4.out.gr g5).frozen 0; have f1 : w5.frozen? ⟨p + 1 + 1, 1, none⟩ = false := (HB4.out.gr g5).frozen 1))
  refine bodyPost_ret (results_blk_tmp rfl _ rfl (((HB4.out.gr g5).set_ 0 (.slice A' n' cap')).set_ 1 (.int .i64 f')) aggDisk) rfl ?_
  have hfin := StepPost.set2 (r := (fs', f', er)) (p := p + 1 + 1) HG4.out HB4.out.lt (by omega) g5 (.slice A' n' cap') (.int .i64 f') hrow
  exact ⟨A', n', cap', rfl, hfin.1, hA', hfin.2⟩
end Go.Proofs.YtoamnifnfkgbiaaGreatDoor

namespace Go.Proofs.YtoamnifnfkgbiaaGreatDoor
open Go.RowKit
set_option linter.unusedVariables false
set_option maxRecDepth 100000 in
set_option maxHeartbeats 4000000 in
theorem do0_any (name s : List UInt8) (fs : List Fl) (A : Option Addr) (n cap : Nat) (f : Int) (w : World) (hn : n ≤ 1099511627776) (hnc : n ≤ cap) (hx : FRow w A n fs) (hA : A = none → n = 0 ∧ cap = 0) (hs : ∀ f ∈ fs, f.1.length ≤ 1099511627776 ∧ f.2.1.length ≤ 1099511627776 ∧ f.2.2.length ≤ 1099511627776)
    (hf : -9223372036854775808 ≤ f ∧ f ≤ 9223372036854775807) (hl1 : name.length ≤ 1099511627776) (hl2 : s.length ≤ 1099511627776) :
    Calls Tryz.prog 71 #[.int .i64 0, diskV A n cap f, .string (bs name), .string (bs s)] w (StepPost (stepR (wrF name s) fs f) A n cap fs w) := by
  have hg0 := ((Gr.refl w).alloc (.cells #[.slice A n cap, .int .i64 f] 24)).alloc (.cells #[.slice none 0 0, .int .i64 0] 24)
  have hb1 := (Blk.new w 24 #[.slice A n cap, .int .i64 f]).alloc (.cells #[.slice none 0 0, .int .i64 0] 24)
  have hb2 := Blk.new1 w (.cells #[.slice A n cap, .int .i64 f] 24) 24 #[.slice none 0 0, .int .i64 0]
  have HG := sec (drgood_any fs A n cap f _ hn (hx.gr hg0) hs)
  have hl := hx.len
  have HX := sec (hx.gr hg0)
  obtain ⟨wa, hwa⟩ : ∃ x, x = (w.alloc (.cells #[.slice A n cap, .int .i64 f] 24)).alloc (.cells #[.slice none 0 0, .int .i64 0] 24) := ⟨_, rfl⟩
  rw [← hwa] at hg0 hb1 hb2 HG HX
  obtain ⟨p, hp⟩ : ∃ p, p = w.heap.size := ⟨_, rfl⟩
  have hwp : w.heap.size ≤ p := by omega
  rw [← hp] at hb1 hb2
  have c0 : wa.cell? ⟨p, 0, none⟩ = some (.slice A n cap) := hb1.cell 0
  have c1 : wa.cell? ⟨p, 1, none⟩ = some (.int .i64 f) := hb1.cell 1
  have HB := sec hb1
  have HR2 := sec hb2
  have HX0 := sec hx
  have HA := sec hA
  clear hb1 hb2 hs hx
  unfold diskV at HG
  unfold diskV
  have HW : Sec (∀ w1, Gr wa w1 → Blk ((w1.setCell ⟨p + 1, 0, none⟩ (.slice A n cap)).setCell ⟨p + 1, 1, none⟩ (.int .i64 f)) (p + 1) 24 #[.slice A n cap, .int .i64 f]) := sec fun w1 g1 => ((HR2.out.gr g1).set_ 0 (.slice A n cap)).set_ 1 (.int .i64 f)
  have HV : Sec (∀ w1, Gr wa w1 → Gr w ((w1.setCell ⟨p + 1, 0, none⟩ (.slice A n cap)).setCell ⟨p + 1, 1, none⟩ (.int .i64 f))) := sec fun w1 g1 => ((hg0.trans g1).setCell (p := ⟨p + 1, 0, none⟩) (by show w.heap.size ≤ p + 1; omega) _).setCell (p := ⟨p + 1, 1, none⟩) (by show w.heap.size ≤ p + 1; omega) _
  cases hgf : goodFs fs with
  | false =>
    have HR : Sec (stepR (wrF name s) fs f = (fs, f, 3)) := sec (by unfold stepR; rw [hgf]; rfl)
    rw [HR.out]
    rw [hgf] at HG
    clear hgf
    go_enter Tryz.func71, Tryz.ntmps71
    go_wp2_with (first | (rw [← hwa, ← hp]; clear hwa hp; go_wp2_with fail) | (go_at_call 86; refine Calls.mono HG.out ?_; rintro e w1 ⟨rfl, g1⟩; have c0y : w1.cell? ⟨p, 0, none⟩ = some (.slice A n cap) := (HB.out.gr g1).cell 0; have c1y : w1.cell? ⟨p, 1, none⟩ = some (.int .i64 f) := (HB.out.gr g1).cell 1; have d20 : w1.cell? ⟨p + 1, 0, none⟩ = some (.slice none 0 0) := (HR2.out.gr g1).cell 0; have d21 : w1.cell? ⟨p + 1, 1, none⟩ = some (.int .i64 0) := (HR2.out.gr g1).cell 1; have f20 : w1.frozen? ⟨p + 1, 0, none⟩ = false := (HR2.out.gr g1).frozen 0; have f21 : w1.frozen? ⟨p + 1, 1, none⟩ = false := (HR2.out.gr g1).frozen 1))
    refine bodyPost_ret (results_blk_tmp rfl _ rfl (HW.out w1 g1) aggDisk) rfl ?_
    exact ⟨A, n, cap, rfl, HV.out w1 g1, HA.out, .inl ⟨rfl, rfl, rfl, rfl⟩⟩
  | true =>
    rw [hgf] at HG
    by_cases hf0 : f = 0
    · have HR : Sec (stepR (wrF name s) fs f = (fs, f, 12)) := sec (by unfold stepR; rw [hgf, hf0]; rfl)
      rw [HR.out]
      clear hgf
      subst hf0
      go_enter Tryz.func71, Tryz.ntmps71
      go_wp2_with (first | (rw [← hwa, ← hp]; clear hwa hp; go_wp2_with fail) | (go_at_call 86; refine Calls.mono HG.out ?_; rintro e w1 ⟨rfl, g1⟩; have c0y : w1.cell? ⟨p, 0, none⟩ = some (.slice A n cap) := (HB.out.gr g1).cell 0; have c1y : w1.cell? ⟨p, 1, none⟩ = some (.int .i64 0) := (HB.out.gr g1).cell 1; have d20 : w1.cell? ⟨p + 1, 0, none⟩ = some (.slice none 0 0) := (HR2.out.gr g1).cell 0; have d21 : w1.cell? ⟨p + 1, 1, none⟩ = some (.int .i64 0) := (HR2.out.gr g1).cell 1; have f20 : w1.frozen? ⟨p + 1, 0, none⟩ = false := (HR2.out.gr g1).frozen 0; have f21 : w1.frozen? ⟨p + 1, 1, none⟩ = false := (HR2.out.gr g1).frozen 1))
      refine bodyPost_ret (results_blk_tmp rfl _ rfl (HW.out w1 g1) aggDisk) rfl ?_
      exact ⟨A, n, cap, rfl, HV.out w1 g1, HA.out, .inl ⟨rfl, rfl, rfl, rfl⟩⟩
    · have HGF := sec hgf
      have HF0 := sec hf0
      have HSO := sec (goodFs_sorted hgf)
      have hl400 : n ≤ 400 := by have := goodFs_len hgf; omega
      clear hgf
      obtain ⟨u, hu⟩ : ∃ u, u = (if 0 < f then f - 1 else f) := ⟨_, rfl⟩
      have HU := sec hu
      clear hu
      have HERR : Sec (∀ E, (wrF name s fs).2 = E → E ≠ 0 → stepR (wrF name s) fs f = (fs, f, E)) := sec (fun E h h0 => by unfold stepR; rw [HGF.out, if_pos rfl, if_neg HF0.out, if_neg (by rw [h]; exact h0), h])
      have HOK : Sec (∀ R, (wrF name s fs) = (R, 0) → stepR (wrF name s) fs f = (R, u, 0)) := sec (fun R h => by unfold stepR; rw [HGF.out, if_pos rfl, if_neg HF0.out, if_pos (by rw [h]), h, HU.out])
      go_enter Tryz.func71, Tryz.ntmps71
      go_upto_if 27 with (first | (rw [← hwa, ← hp]; clear hwa hp; go_wp2_with fail) | (go_at_call 86; refine Calls.mono HG.out ?_; rintro e w1 ⟨rfl, g1⟩; have c0y : w1.cell? ⟨p, 0, none⟩ = some (.slice A n cap) := (HB.out.gr g1).cell 0; have c1y : w1.cell? ⟨p, 1, none⟩ = some (.int .i64 f) := (HB.out.gr g1).cell 1) | (go_at_call 21; refine Calls.mono (copyDisk_any fs A n cap f w1 hn (HX.out.gr g1) HA.out) ?_; unfold diskV; rintro e w2 ⟨A1, cap1, rfl, ho, hA1, g2⟩))
      have hqb := Blk.new w2 24 #[.slice A1 n cap1, .int .i64 f]
      have hoq := own_gr ho ((Gr.refl w2).alloc (.cells #[.slice A1 n cap1, .int .i64 f] 24))
      have gq := g2.alloc (.cells #[.slice A1 n cap1, .int .i64 f] 24)
      obtain ⟨wq, hwq⟩ : ∃ x, x = w2.alloc (.cells #[.slice A1 n cap1, .int .i64 f] 24) := ⟨_, rfl⟩
      obtain ⟨q, hq⟩ : ∃ q, q = w2.heap.size := ⟨_, rfl⟩
      have hq1 : w1.heap.size ≤ q := by have := g2.size; omega
      rw [← hwq] at hqb hoq gq
      rw [← hq] at hqb
      rw [← hwq, ← hq]
      have HDQ : Sec (DOwn wq w1.heap.size q A1 n cap1 f fs) := sec ⟨hqb, hoq, hq1⟩
      have HG1 := sec g1
      have hpq : p + 1 < w1.heap.size := (HR2.out.gr g1).lt
      clear hwq hq hqb hoq ho g2 hA1
      have dq0 : wq.cell? ⟨q, 0, none⟩ = some (.slice A1 n cap1) := HDQ.out.blk.cell 0
      have dq1 : wq.cell? ⟨q, 1, none⟩ = some (.int .i64 f) := HDQ.out.blk.cell 1
      have fq1 : wq.frozen? ⟨q, 1, none⟩ = false := HDQ.out.blk.frozen 1
      go_cut [] from 28 to 144 (fun wx => Sec (DOwn wx w1.heap.size q A1 n cap1 u fs) ∧ Gr w1 wx)
      case first =>
        by_cases hpos : 0 < f
        · have hwr : IntKind.i64.wrap (f - 1) = f - 1 := IntWalk.i64_in _ (by omega)
          have hu : u = f - 1 := by rw [HU.out, if_pos hpos]
          go_wp2_with fail
          go_meet
          rw [hu]
          exact ⟨sec ⟨HDQ.out.blk.set_ 1 _, ownsRow_setCell_other HDQ.out.own (a := ⟨q, 1, none⟩) HDQ.out.ne _, HDQ.out.base⟩, gq.setCell (p := ⟨q, 1, none⟩) hq1 _⟩
        · have hu : u = f := by rw [HU.out, if_neg hpos]
          go_wp2_with fail
          go_meet
          rw [hu]
          exact ⟨HDQ, gq⟩
      case rest =>
        obtain ⟨HDC, gc⟩ := hcut
        clear dq0 dq1 fq1 c0y c1y HDQ gq g1
        have c0y : wc.cell? ⟨p, 0, none⟩ = some (.slice A n cap) := (HB.out.gr (HG1.out.trans gc)).cell 0
        have c1y : wc.cell? ⟨p, 1, none⟩ = some (.int .i64 f) := (HB.out.gr (HG1.out.trans gc)).cell 1
        go_upto_region 9 with (go_at_call 113; refine Calls.mono (at_any fs name A n cap f wc hn (HX.out.gr (HG1.out.trans gc)) HSO.out) ?_; rintro e w4 ⟨rfl, g4⟩)
        have gg4 : Gr w1 w4 := gc.trans g4
        have HD4 := sec (HDC.out.gr g4)
        have HG4 := sec (HG1.out.trans gg4)
        have HGG4 := sec gg4
        clear c0y c1y gc g4 HDC HG1
        have c04 : w4.cell? ⟨p, 0, none⟩ = some (.slice A n cap) := (HB.out.gr HG4.out).cell 0
        have c14 : w4.cell? ⟨p, 1, none⟩ = some (.int .i64 f) := (HB.out.gr HG4.out).cell 1
        have d20 : w4.cell? ⟨p + 1, 0, none⟩ = some (.slice none 0 0) := (HR2.out.gr HG4.out).cell 0
        have d21 : w4.cell? ⟨p + 1, 1, none⟩ = some (.int .i64 0) := (HR2.out.gr HG4.out).cell 1
        have f20 : w4.frozen? ⟨p + 1, 0, none⟩ = false := (HR2.out.gr HG4.out).frozen 0
        have f21 : w4.frozen? ⟨p + 1, 1, none⟩ = false := (HR2.out.gr HG4.out).frozen 1
        have q04 : w4.cell? ⟨q, 0, none⟩ = some (.slice A1 n cap1) := HD4.out.blk.cell 0
        have q14 : w4.cell? ⟨q, 1, none⟩ = some (.int .i64 u) := HD4.out.blk.cell 1
        have fq4 : w4.frozen? ⟨q, 0, none⟩ = false := HD4.out.blk.frozen 0
        have HN := sec (fun w => fileName_any name w (by omega))
        have hpq1 : p + 1 ≠ q := by omega
        cases hnb : namedB name with
        | false =>
          have HR := sec (HERR.out 2 (by unfold wrF; rw [hnb]; rfl) (by decide))
          rw [hnb] at HN
          clear hnb
          go_wp2_with (go_at_call 114; refine (HN.out _).mono ?_; rintro e w5 ⟨rfl, g5⟩; have c05 : w5.cell? ⟨p, 0, none⟩ = some (.slice A n cap) := (HB.out.gr (HG4.out.trans g5)).cell 0; have c15 : w5.cell? ⟨p, 1, none⟩ = some (.int .i64 f) := (HB.out.gr (HG4.out.trans g5)).cell 1; have d205 : w5.cell? ⟨p + 1, 0, none⟩ = some (.slice none 0 0) := (HR2.out.gr (HG4.out.trans g5)).cell 0; have d215 : w5.cell? ⟨p + 1, 1, none⟩ = some (.int .i64 0) := (HR2.out.gr (HG4.out.trans g5)).cell 1; have f205 : w5.frozen? ⟨p + 1, 0, none⟩ = false := (HR2.out.gr (HG4.out.trans g5)).frozen 0; have f215 : w5.frozen? ⟨p + 1, 1, none⟩ = false := (HR2.out.gr (HG4.out.trans g5)).frozen 1)
          refine bodyPost_ret (results_blk_tmp rfl _ rfl (HW.out w5 (HG4.out.trans g5)) aggDisk) rfl ?_
          rw [HR.out]
          exact ⟨A, n, cap, rfl, HV.out w5 (HG4.out.trans g5), HA.out, .inl ⟨rfl, rfl, rfl, rfl⟩⟩
        | true =>
          rw [hnb] at HN
          have HNB := sec hnb
          clear hnb
          cases hhf : hasF name fs with
          | false =>
            have hai : atI name fs = -1 := by unfold atI; rw [hhf]; rfl
            rw [hai]
            by_cases hfull : 400 ≤ n
            · have HR := sec (HERR.out 6 (by unfold wrF; rw [HNB.out, if_pos rfl, if_pos ⟨hhf, by omega⟩]) (by decide))
              obtain rfl : n = 400 := by omega
              clear hhf hai
              go_wp2_with (go_at_call 114; refine (HN.out _).mono ?_; rintro e w5 ⟨rfl, g5⟩; have c05 : w5.cell? ⟨p, 0, none⟩ = some (.slice A 400 cap) := (HB.out.gr (HG4.out.trans g5)).cell 0; have c15 : w5.cell? ⟨p, 1, none⟩ = some (.int .i64 f) := (HB.out.gr (HG4.out.trans g5)).cell 1; have d205 : w5.cell? ⟨p + 1, 0, none⟩ = some (.slice none 0 0) := (HR2.out.gr (HG4.out.trans g5)).cell 0; have d215 : w5.cell? ⟨p + 1, 1, none⟩ = some (.int .i64 0) := (HR2.out.gr (HG4.out.trans g5)).cell 1; have f205 : w5.frozen? ⟨p + 1, 0, none⟩ = false := (HR2.out.gr (HG4.out.trans g5)).frozen 0; have f215 : w5.frozen? ⟨p + 1, 1, none⟩ = false := (HR2.out.gr (HG4.out.trans g5)).frozen 1; have c05w : (w5.alloc (.cells #[.string (bs name), .string (bs []), .string (bs [])] 105)).cell? ⟨p, 0, none⟩ = some (.slice A 400 cap) := (HB.out.gr (HG4.out.trans (g5.alloc _))).cell 0; have c15w : (w5.alloc (.cells #[.string (bs name), .string (bs []), .string (bs [])] 105)).cell? ⟨p, 1, none⟩ = some (.int .i64 f) := (HB.out.gr (HG4.out.trans (g5.alloc _))).cell 1; have q05w : (w5.alloc (.cells #[.string (bs name), .string (bs []), .string (bs [])] 105)).cell? ⟨q, 0, none⟩ = some (.slice A1 400 cap1) := ((HD4.out.blk.gr g5).alloc _).cell 0; have d205w : (w5.alloc (.cells #[.string (bs name), .string (bs []), .string (bs [])] 105)).cell? ⟨p + 1, 0, none⟩ = some (.slice none 0 0) := (HR2.out.gr (HG4.out.trans (g5.alloc _))).cell 0; have d215w : (w5.alloc (.cells #[.string (bs name), .string (bs []), .string (bs [])] 105)).cell? ⟨p + 1, 1, none⟩ = some (.int .i64 0) := (HR2.out.gr (HG4.out.trans (g5.alloc _))).cell 1; have f205w : (w5.alloc (.cells #[.string (bs name), .string (bs []), .string (bs [])] 105)).frozen? ⟨p + 1, 0, none⟩ = false := (HR2.out.gr (HG4.out.trans (g5.alloc _))).frozen 0; have f215w : (w5.alloc (.cells #[.string (bs name), .string (bs []), .string (bs [])] 105)).frozen? ⟨p + 1, 1, none⟩ = false := (HR2.out.gr (HG4.out.trans (g5.alloc _))).frozen 1)
              have hV5 : Gr w (((w5.alloc (.cells #[.string (bs name), .string (bs []), .string (bs [])] 105)).setCell ⟨p + 1, 0, none⟩ (.slice A 400 cap)).setCell ⟨p + 1, 1, none⟩ (.int .i64 f)) := HV.out _ (HG4.out.trans (g5.alloc _))
              refine bodyPost_ret (results_blk_tmp rfl _ rfl (HW.out _ (HG4.out.trans (g5.alloc (.cells #[.string (bs name), .string (bs []), .string (bs [])] 105)))) aggDisk) rfl ?_
              rw [HR.out]
              exact ⟨A, 400, cap, rfl, hV5, HA.out, .inl ⟨rfl, rfl, rfl, rfl⟩⟩
            · have hpre : wrPre name fs = insF (lbF name fs) (name, [], []) fs := by unfold wrPre; rw [hhf]; rfl
              have hgd : (wrPre name fs).getD (lbF name fs) ([], [], []) = (name, [], []) := by rw [hpre, List.getD_eq_getElem?_getD, insF_get _ _ _ (lbF_le name fs)]; rfl
              have hnf : ¬ (hasF name fs = false ∧ 400 ≤ fs.length) := fun h => hfull (by omega)
              have h4 : ¬ n = 400 := by omega
              have h4' : ¬ (n : Int) = 400 := by omega
              by_cases hlong : s.length ≤ 1048576
              · have HR := sec (HOK.out (putF (name, [], s) fs) (by
                  unfold wrF; rw [HNB.out, if_pos rfl, if_neg hnf, hgd, if_pos (by simpa using hlong), put_sorted _ _ HSO.out, hhf, if_neg (by decide), hpre, insF_set _ _ _ _ (lbF_le name fs)]; rfl))
                clear hhf hai hpre hgd hnf hfull
                have HPU0 : Sec (∀ W, Gr w4 W → Calls Tryz.prog 115 #[.slice A1 n cap1, .agg #[.string (bs name), .string (bs []), .string (bs s)]] (W.alloc (.cells #[.string (bs name), .string (bs []), .string (bs s)] 105)) fun e w' =>
                  ∃ A' n' cap', e = .returned (.slice A' n' cap') ∧ w'.ownsRow (W.alloc (.cells #[.string (bs name), .string (bs []), .string (bs s)] 105)).heap.size 105 3 (.slice A' n' cap') n' ((putF (name, [], s) fs).flatMap fileC) ∧ Gr (W.alloc (.cells #[.string (bs name), .string (bs []), .string (bs s)] 105)) w') := sec
                  (fun W g => put_any fs name ([]) (s) A1 n cap1 _ hn (FRow.gr (Row.own HD4.out.own) (g.alloc _)))
                go_wp2_with (first | (go_at_call 114; refine (HN.out _).mono ?_; rintro e w5 ⟨rfl, g5⟩; have c05 : w5.cell? ⟨p, 0, none⟩ = some (.slice A n cap) := (HB.out.gr (HG4.out.trans g5)).cell 0; have c15 : w5.cell? ⟨p, 1, none⟩ = some (.int .i64 f) := (HB.out.gr (HG4.out.trans g5)).cell 1; have d205 : w5.cell? ⟨p + 1, 0, none⟩ = some (.slice none 0 0) := (HR2.out.gr (HG4.out.trans g5)).cell 0; have d215 : w5.cell? ⟨p + 1, 1, none⟩ = some (.int .i64 0) := (HR2.out.gr (HG4.out.trans g5)).cell 1; have f205 : w5.frozen? ⟨p + 1, 0, none⟩ = false := (HR2.out.gr (HG4.out.trans g5)).frozen 0; have f215 : w5.frozen? ⟨p + 1, 1, none⟩ = false := (HR2.out.gr (HG4.out.trans g5)).frozen 1; have c05w : (w5.alloc (.cells #[.string (bs name), .string (bs []), .string (bs [])] 105)).cell? ⟨p, 0, none⟩ = some (.slice A n cap) := (HB.out.gr (HG4.out.trans (g5.alloc _))).cell 0; have c15w : (w5.alloc (.cells #[.string (bs name), .string (bs []), .string (bs [])] 105)).cell? ⟨p, 1, none⟩ = some (.int .i64 f) := (HB.out.gr (HG4.out.trans (g5.alloc _))).cell 1; have q05w : (w5.alloc (.cells #[.string (bs name), .string (bs []), .string (bs [])] 105)).cell? ⟨q, 0, none⟩ = some (.slice A1 n cap1) := ((HD4.out.blk.gr g5).alloc _).cell 0; have d205w : (w5.alloc (.cells #[.string (bs name), .string (bs []), .string (bs [])] 105)).cell? ⟨p + 1, 0, none⟩ = some (.slice none 0 0) := (HR2.out.gr (HG4.out.trans (g5.alloc _))).cell 0; have d215w : (w5.alloc (.cells #[.string (bs name), .string (bs []), .string (bs [])] 105)).cell? ⟨p + 1, 1, none⟩ = some (.int .i64 0) := (HR2.out.gr (HG4.out.trans (g5.alloc _))).cell 1; have f205w : (w5.alloc (.cells #[.string (bs name), .string (bs []), .string (bs [])] 105)).frozen? ⟨p + 1, 0, none⟩ = false := (HR2.out.gr (HG4.out.trans (g5.alloc _))).frozen 0; have f215w : (w5.alloc (.cells #[.string (bs name), .string (bs []), .string (bs [])] 105)).frozen? ⟨p + 1, 1, none⟩ = false := (HR2.out.gr (HG4.out.trans (g5.alloc _))).frozen 1; have c05v : (w5.alloc (.cells #[.string (bs name), .string (bs []), .string (bs s)] 105)).cell? ⟨p, 0, none⟩ = some (.slice A n cap) := (HB.out.gr (HG4.out.trans (g5.alloc _))).cell 0; have c15v : (w5.alloc (.cells #[.string (bs name), .string (bs []), .string (bs s)] 105)).cell? ⟨p, 1, none⟩ = some (.int .i64 f) := (HB.out.gr (HG4.out.trans (g5.alloc _))).cell 1; have q05v : (w5.alloc (.cells #[.string (bs name), .string (bs []), .string (bs s)] 105)).cell? ⟨q, 0, none⟩ = some (.slice A1 n cap1) := ((HD4.out.blk.gr g5).alloc _).cell 0; have d205v : (w5.alloc (.cells #[.string (bs name), .string (bs []), .string (bs s)] 105)).cell? ⟨p + 1, 0, none⟩ = some (.slice none 0 0) := (HR2.out.gr (HG4.out.trans (g5.alloc _))).cell 0; have d215v : (w5.alloc (.cells #[.string (bs name), .string (bs []), .string (bs s)] 105)).cell? ⟨p + 1, 1, none⟩ = some (.int .i64 0) := (HR2.out.gr (HG4.out.trans (g5.alloc _))).cell 1; have f205v : (w5.alloc (.cells #[.string (bs name), .string (bs []), .string (bs s)] 105)).frozen? ⟨p + 1, 0, none⟩ = false := (HR2.out.gr (HG4.out.trans (g5.alloc _))).frozen 0; have f215v : (w5.alloc (.cells #[.string (bs name), .string (bs []), .string (bs s)] 105)).frozen? ⟨p + 1, 1, none⟩ = false := (HR2.out.gr (HG4.out.trans (g5.alloc _))).frozen 1; have HPU := sec (HPU0.out w5 g5)) | (go_at_call 115; refine HPU.out.mono ?_; rintro e w6 ⟨A6, n6, k6, rfl, hown6, g6'⟩; have g6 : Gr w4 w6 := (g5.alloc _).trans g6'; have hbq := HD4.out.blk.gr g6; have hbp := HR2.out.gr (HG4.out.trans g6); have q06 : w6.cell? ⟨q, 0, none⟩ = some (.slice A1 n cap1) := hbq.cell 0; have q16 : w6.cell? ⟨q, 1, none⟩ = some (.int .i64 u) := hbq.cell 1; have fq6 : w6.frozen? ⟨q, 0, none⟩ = false := hbq.frozen 0; have d206 : w6.cell? ⟨p + 1, 0, none⟩ = some (.slice none 0 0) := hbp.cell 0; have d216 : w6.cell? ⟨p + 1, 1, none⟩ = some (.int .i64 0) := hbp.cell 1; have f206 : w6.frozen? ⟨p + 1, 0, none⟩ = false := hbp.frozen 0; have f216 : w6.frozen? ⟨p + 1, 1, none⟩ = false := hbp.frozen 1))
                have hE := do_end (hg0.trans (HG4.out.trans g6)) (by omega) (by omega) hbp hbq hpq1 hown6 (Nat.le_trans (hg0.trans HG4.out).size (g5.alloc _).size) u (.slice A6 n6 k6)
                refine bodyPost_ret (results_blk_tmp rfl _ rfl hE.1 aggDisk) rfl ?_
                rw [HR.out]
                exact ⟨A6, _, k6, rfl, hE.2.1, hE.2.2.2, .inr hE.2.2.1⟩
              · have HR := sec (HERR.out 1 (by unfold wrF; rw [HNB.out, if_pos rfl, if_neg hnf, hgd, if_neg (by simpa using hlong)]) (by decide))
                have hl5 : (1048576 : Int) < (s.length : Int) := by omega
                clear hhf hai hpre hgd hnf hfull
                go_wp2_with (go_at_call 114; refine (HN.out _).mono ?_; rintro e w5 ⟨rfl, g5⟩; have c05 : w5.cell? ⟨p, 0, none⟩ = some (.slice A n cap) := (HB.out.gr (HG4.out.trans g5)).cell 0; have c15 : w5.cell? ⟨p, 1, none⟩ = some (.int .i64 f) := (HB.out.gr (HG4.out.trans g5)).cell 1; have d205 : w5.cell? ⟨p + 1, 0, none⟩ = some (.slice none 0 0) := (HR2.out.gr (HG4.out.trans g5)).cell 0; have d215 : w5.cell? ⟨p + 1, 1, none⟩ = some (.int .i64 0) := (HR2.out.gr (HG4.out.trans g5)).cell 1; have f205 : w5.frozen? ⟨p + 1, 0, none⟩ = false := (HR2.out.gr (HG4.out.trans g5)).frozen 0; have f215 : w5.frozen? ⟨p + 1, 1, none⟩ = false := (HR2.out.gr (HG4.out.trans g5)).frozen 1; have c05w : (w5.alloc (.cells #[.string (bs name), .string (bs []), .string (bs [])] 105)).cell? ⟨p, 0, none⟩ = some (.slice A n cap) := (HB.out.gr (HG4.out.trans (g5.alloc _))).cell 0; have c15w : (w5.alloc (.cells #[.string (bs name), .string (bs []), .string (bs [])] 105)).cell? ⟨p, 1, none⟩ = some (.int .i64 f) := (HB.out.gr (HG4.out.trans (g5.alloc _))).cell 1; have q05w : (w5.alloc (.cells #[.string (bs name), .string (bs []), .string (bs [])] 105)).cell? ⟨q, 0, none⟩ = some (.slice A1 n cap1) := ((HD4.out.blk.gr g5).alloc _).cell 0; have d205w : (w5.alloc (.cells #[.string (bs name), .string (bs []), .string (bs [])] 105)).cell? ⟨p + 1, 0, none⟩ = some (.slice none 0 0) := (HR2.out.gr (HG4.out.trans (g5.alloc _))).cell 0; have d215w : (w5.alloc (.cells #[.string (bs name), .string (bs []), .string (bs [])] 105)).cell? ⟨p + 1, 1, none⟩ = some (.int .i64 0) := (HR2.out.gr (HG4.out.trans (g5.alloc _))).cell 1; have f205w : (w5.alloc (.cells #[.string (bs name), .string (bs []), .string (bs [])] 105)).frozen? ⟨p + 1, 0, none⟩ = false := (HR2.out.gr (HG4.out.trans (g5.alloc _))).frozen 0; have f215w : (w5.alloc (.cells #[.string (bs name), .string (bs []), .string (bs [])] 105)).frozen? ⟨p + 1, 1, none⟩ = false := (HR2.out.gr (HG4.out.trans (g5.alloc _))).frozen 1; have c05v : (w5.alloc (.cells #[.string (bs name), .string (bs []), .string (bs s)] 105)).cell? ⟨p, 0, none⟩ = some (.slice A n cap) := (HB.out.gr (HG4.out.trans (g5.alloc _))).cell 0; have c15v : (w5.alloc (.cells #[.string (bs name), .string (bs []), .string (bs s)] 105)).cell? ⟨p, 1, none⟩ = some (.int .i64 f) := (HB.out.gr (HG4.out.trans (g5.alloc _))).cell 1; have q05v : (w5.alloc (.cells #[.string (bs name), .string (bs []), .string (bs s)] 105)).cell? ⟨q, 0, none⟩ = some (.slice A1 n cap1) := ((HD4.out.blk.gr g5).alloc _).cell 0; have d205v : (w5.alloc (.cells #[.string (bs name), .string (bs []), .string (bs s)] 105)).cell? ⟨p + 1, 0, none⟩ = some (.slice none 0 0) := (HR2.out.gr (HG4.out.trans (g5.alloc _))).cell 0; have d215v : (w5.alloc (.cells #[.string (bs name), .string (bs []), .string (bs s)] 105)).cell? ⟨p + 1, 1, none⟩ = some (.int .i64 0) := (HR2.out.gr (HG4.out.trans (g5.alloc _))).cell 1; have f205v : (w5.alloc (.cells #[.string (bs name), .string (bs []), .string (bs s)] 105)).frozen? ⟨p + 1, 0, none⟩ = false := (HR2.out.gr (HG4.out.trans (g5.alloc _))).frozen 0; have f215v : (w5.alloc (.cells #[.string (bs name), .string (bs []), .string (bs s)] 105)).frozen? ⟨p + 1, 1, none⟩ = false := (HR2.out.gr (HG4.out.trans (g5.alloc _))).frozen 1)
                have hV5 := HV.out _ (HG4.out.trans (g5.alloc (.cells #[.string (bs name), .string (bs []), .string (bs s)] 105)))
                refine bodyPost_ret (results_blk_tmp rfl _ rfl (HW.out _ (HG4.out.trans (g5.alloc (.cells #[.string (bs name), .string (bs []), .string (bs s)] 105)))) aggDisk) rfl ?_
                rw [HR.out]
                exact ⟨A, n, cap, rfl, hV5, HA.out, .inl ⟨rfl, rfl, rfl, rfl⟩⟩
          | true =>
            have hlt := hasF_lt HSO.out hhf
            have hput : ∀ f : Fl, f.1 = name → putF f fs = fs.set (lbF name fs) f := fun f h => by rw [put_sorted f fs HSO.out, h, hhf, if_pos rfl]
            have hpre : wrPre name fs = fs := by unfold wrPre; rw [hhf]; rfl
            have hnf : ¬ (hasF name fs = false ∧ 400 ≤ fs.length) := fun h => by rw [hhf] at h; cases h.1
            obtain ⟨k, hk⟩ : ∃ k, k = lbF name fs := ⟨_, rfl⟩
            have hai : atI name fs = k := by unfold atI; rw [hhf, hk]; rfl
            rw [← hk] at hlt hput
            obtain ⟨hkf, hnm⟩ := hlt
            rw [hai]
            have hgd : (wrPre name fs).getD (lbF name fs) ([], [], []) = fs[k] := by
              rw [hpre, ← hk, List.getD_eq_getElem?_getD, List.getElem?_eq_getElem hkf]; rfl
            obtain ⟨b, off, rfl, e0, e1, e2⟩ := (HX.out.gr HG4.out).cell hkf
            have E0 : Sec (∀ W, Gr w4 W → W.cell? ⟨b, off + k * 3, none⟩ = some (.string (bs fs[k].1)) ∧ W.cell? ⟨b, off + k * 3 + 1, none⟩ = some (.string (bs fs[k].2.1)) ∧ W.cell? ⟨b, off + k * 3 + 2, none⟩ = some (.string (bs fs[k].2.2))) := sec (fun W g => ⟨(g.cells.1 b _ (World.block_lt_of_cell? w4 _ e0)).trans e0, (g.cells.1 b _ (World.block_lt_of_cell? w4 _ e0)).trans e1, (g.cells.1 b _ (World.block_lt_of_cell? w4 _ e0)).trans e2⟩)
            have hsz := goodFs_ok HGF.out fs[k] (List.getElem_mem hkf)
            obtain ⟨x, hxx⟩ : ∃ x, x = fs[k] := ⟨_, rfl⟩
            rw [← hxx] at E0 hsz hgd hnm
            obtain ⟨nm, sf, tl⟩ := x
            simp only at E0 hsz hnm
            subst hnm
            obtain ⟨_, hz1, hz2⟩ := hsz
            have hkn1 : (k : Int) < (n : Int) := by omega
            by_cases hlong : sf.length + tl.length + s.length ≤ 1048576
            · have HR := sec (HOK.out (putF (nm, sf, tl ++ s) fs) (by
                unfold wrF; rw [HNB.out, if_pos rfl, if_neg hnf, hgd, if_pos hlong, hpre, ← hk, hput _ rfl]))
              have hl5 : ¬ (1048576 : Int) < (sf.length : Int) + ((tl.length : Int) + (s.length : Int)) := by omega
              clear hai hk hhf hput hxx hkf hgd hpre hnf e0 e1 e2
              have HPU0 : Sec (∀ W, Gr w4 W → Calls Tryz.prog 115 #[.slice A1 n cap1, .agg #[.string (bs nm), .string (bs sf), .string (bs (tl ++ s))]] (W.alloc (.cells #[.string (bs nm), .string (bs sf), .string (bs (tl ++ s))] 105)) fun e w' =>
                ∃ A' n' cap', e = .returned (.slice A' n' cap') ∧ w'.ownsRow (W.alloc (.cells #[.string (bs nm), .string (bs sf), .string (bs (tl ++ s))] 105)).heap.size 105 3 (.slice A' n' cap') n' ((putF (nm, sf, (tl ++ s)) fs).flatMap fileC) ∧ Gr (W.alloc (.cells #[.string (bs nm), .string (bs sf), .string (bs (tl ++ s))] 105)) w') := sec
                (fun W g => put_any fs nm (sf) ((tl ++ s)) A1 n cap1 _ hn (FRow.gr (Row.own HD4.out.own) (g.alloc _)))
              go_wp2_with (first | (go_at_call 114; refine (HN.out _).mono ?_; rintro e w5 ⟨rfl, g5⟩; have c05 : w5.cell? ⟨p, 0, none⟩ = some (.slice (some ⟨b, off, none⟩) n cap) := (HB.out.gr (HG4.out.trans g5)).cell 0; have c15 : w5.cell? ⟨p, 1, none⟩ = some (.int .i64 f) := (HB.out.gr (HG4.out.trans g5)).cell 1; have d205 : w5.cell? ⟨p + 1, 0, none⟩ = some (.slice none 0 0) := (HR2.out.gr (HG4.out.trans g5)).cell 0; have d215 : w5.cell? ⟨p + 1, 1, none⟩ = some (.int .i64 0) := (HR2.out.gr (HG4.out.trans g5)).cell 1; have f205 : w5.frozen? ⟨p + 1, 0, none⟩ = false := (HR2.out.gr (HG4.out.trans g5)).frozen 0; have f215 : w5.frozen? ⟨p + 1, 1, none⟩ = false := (HR2.out.gr (HG4.out.trans g5)).frozen 1; have c05w : (w5.alloc (.cells #[.string (bs nm), .string (bs []), .string (bs [])] 105)).cell? ⟨p, 0, none⟩ = some (.slice (some ⟨b, off, none⟩) n cap) := (HB.out.gr (HG4.out.trans (g5.alloc _))).cell 0; have c15w : (w5.alloc (.cells #[.string (bs nm), .string (bs []), .string (bs [])] 105)).cell? ⟨p, 1, none⟩ = some (.int .i64 f) := (HB.out.gr (HG4.out.trans (g5.alloc _))).cell 1; have q05w : (w5.alloc (.cells #[.string (bs nm), .string (bs []), .string (bs [])] 105)).cell? ⟨q, 0, none⟩ = some (.slice A1 n cap1) := ((HD4.out.blk.gr g5).alloc _).cell 0; have d205w : (w5.alloc (.cells #[.string (bs nm), .string (bs []), .string (bs [])] 105)).cell? ⟨p + 1, 0, none⟩ = some (.slice none 0 0) := (HR2.out.gr (HG4.out.trans (g5.alloc _))).cell 0; have d215w : (w5.alloc (.cells #[.string (bs nm), .string (bs []), .string (bs [])] 105)).cell? ⟨p + 1, 1, none⟩ = some (.int .i64 0) := (HR2.out.gr (HG4.out.trans (g5.alloc _))).cell 1; have f205w : (w5.alloc (.cells #[.string (bs nm), .string (bs []), .string (bs [])] 105)).frozen? ⟨p + 1, 0, none⟩ = false := (HR2.out.gr (HG4.out.trans (g5.alloc _))).frozen 0; have f215w : (w5.alloc (.cells #[.string (bs nm), .string (bs []), .string (bs [])] 105)).frozen? ⟨p + 1, 1, none⟩ = false := (HR2.out.gr (HG4.out.trans (g5.alloc _))).frozen 1; have c05v : (w5.alloc (.cells #[.string (bs nm), .string (bs sf), .string (bs (tl ++ s))] 105)).cell? ⟨p, 0, none⟩ = some (.slice (some ⟨b, off, none⟩) n cap) := (HB.out.gr (HG4.out.trans (g5.alloc _))).cell 0; have c15v : (w5.alloc (.cells #[.string (bs nm), .string (bs sf), .string (bs (tl ++ s))] 105)).cell? ⟨p, 1, none⟩ = some (.int .i64 f) := (HB.out.gr (HG4.out.trans (g5.alloc _))).cell 1; have q05v : (w5.alloc (.cells #[.string (bs nm), .string (bs sf), .string (bs (tl ++ s))] 105)).cell? ⟨q, 0, none⟩ = some (.slice A1 n cap1) := ((HD4.out.blk.gr g5).alloc _).cell 0; have d205v : (w5.alloc (.cells #[.string (bs nm), .string (bs sf), .string (bs (tl ++ s))] 105)).cell? ⟨p + 1, 0, none⟩ = some (.slice none 0 0) := (HR2.out.gr (HG4.out.trans (g5.alloc _))).cell 0; have d215v : (w5.alloc (.cells #[.string (bs nm), .string (bs sf), .string (bs (tl ++ s))] 105)).cell? ⟨p + 1, 1, none⟩ = some (.int .i64 0) := (HR2.out.gr (HG4.out.trans (g5.alloc _))).cell 1; have f205v : (w5.alloc (.cells #[.string (bs nm), .string (bs sf), .string (bs (tl ++ s))] 105)).frozen? ⟨p + 1, 0, none⟩ = false := (HR2.out.gr (HG4.out.trans (g5.alloc _))).frozen 0; have f215v : (w5.alloc (.cells #[.string (bs nm), .string (bs sf), .string (bs (tl ++ s))] 105)).frozen? ⟨p + 1, 1, none⟩ = false := (HR2.out.gr (HG4.out.trans (g5.alloc _))).frozen 1; have e0w := (E0.out _ (g5.alloc (.cells #[.string (bs nm), .string (bs []), .string (bs [])] 105))).1; have e1w := (E0.out _ (g5.alloc (.cells #[.string (bs nm), .string (bs []), .string (bs [])] 105))).2.1; have e2w := (E0.out _ (g5.alloc (.cells #[.string (bs nm), .string (bs []), .string (bs [])] 105))).2.2; have HPU := sec (HPU0.out w5 g5)) | (go_at_call 115; refine HPU.out.mono ?_; rintro e w6 ⟨A6, n6, k6, rfl, hown6, g6'⟩; have g6 : Gr w4 w6 := (g5.alloc _).trans g6'; have hbq := HD4.out.blk.gr g6; have hbp := HR2.out.gr (HG4.out.trans g6); have q06 : w6.cell? ⟨q, 0, none⟩ = some (.slice A1 n cap1) := hbq.cell 0; have q16 : w6.cell? ⟨q, 1, none⟩ = some (.int .i64 u) := hbq.cell 1; have fq6 : w6.frozen? ⟨q, 0, none⟩ = false := hbq.frozen 0; have d206 : w6.cell? ⟨p + 1, 0, none⟩ = some (.slice none 0 0) := hbp.cell 0; have d216 : w6.cell? ⟨p + 1, 1, none⟩ = some (.int .i64 0) := hbp.cell 1; have f206 : w6.frozen? ⟨p + 1, 0, none⟩ = false := hbp.frozen 0; have f216 : w6.frozen? ⟨p + 1, 1, none⟩ = false := hbp.frozen 1))
              have hE := do_end (hg0.trans (HG4.out.trans g6)) (by omega) (by omega) hbp hbq hpq1 hown6 (Nat.le_trans (hg0.trans HG4.out).size (g5.alloc _).size) u (.slice A6 n6 k6)
              refine bodyPost_ret (results_blk_tmp rfl _ rfl hE.1 aggDisk) rfl ?_
              rw [HR.out]
              exact ⟨A6, _, k6, rfl, hE.2.1, hE.2.2.2, .inr hE.2.2.1⟩
            · have HR := sec (HERR.out 1 (by unfold wrF; rw [HNB.out, if_pos rfl, if_neg hnf, hgd, if_neg hlong]) (by decide))
              have hl5 : (1048576 : Int) < (sf.length : Int) + ((tl.length : Int) + (s.length : Int)) := by omega
              clear hai hk hhf hput hxx hkf hgd hpre hnf e0 e1 e2
              go_wp2_with (go_at_call 114; refine (HN.out _).mono ?_; rintro e w5 ⟨rfl, g5⟩; have c05 : w5.cell? ⟨p, 0, none⟩ = some (.slice (some ⟨b, off, none⟩) n cap) := (HB.out.gr (HG4.out.trans g5)).cell 0; have c15 : w5.cell? ⟨p, 1, none⟩ = some (.int .i64 f) := (HB.out.gr (HG4.out.trans g5)).cell 1; have d205 : w5.cell? ⟨p + 1, 0, none⟩ = some (.slice none 0 0) := (HR2.out.gr (HG4.out.trans g5)).cell 0; have d215 : w5.cell? ⟨p + 1, 1, none⟩ = some (.int .i64 0) := (HR2.out.gr (HG4.out.trans g5)).cell 1; have f205 : w5.frozen? ⟨p + 1, 0, none⟩ = false := (HR2.out.gr (HG4.out.trans g5)).frozen 0; have f215 : w5.frozen? ⟨p + 1, 1, none⟩ = false := (HR2.out.gr (HG4.out.trans g5)).frozen 1; have c05w : (w5.alloc (.cells #[.string (bs nm), .string (bs []), .string (bs [])] 105)).cell? ⟨p, 0, none⟩ = some (.slice (some ⟨b, off, none⟩) n cap) := (HB.out.gr (HG4.out.trans (g5.alloc _))).cell 0; have c15w : (w5.alloc (.cells #[.string (bs nm), .string (bs []), .string (bs [])] 105)).cell? ⟨p, 1, none⟩ = some (.int .i64 f) := (HB.out.gr (HG4.out.trans (g5.alloc _))).cell 1; have q05w : (w5.alloc (.cells #[.string (bs nm), .string (bs []), .string (bs [])] 105)).cell? ⟨q, 0, none⟩ = some (.slice A1 n cap1) := ((HD4.out.blk.gr g5).alloc _).cell 0; have d205w : (w5.alloc (.cells #[.string (bs nm), .string (bs []), .string (bs [])] 105)).cell? ⟨p + 1, 0, none⟩ = some (.slice none 0 0) := (HR2.out.gr (HG4.out.trans (g5.alloc _))).cell 0; have d215w : (w5.alloc (.cells #[.string (bs nm), .string (bs []), .string (bs [])] 105)).cell? ⟨p + 1, 1, none⟩ = some (.int .i64 0) := (HR2.out.gr (HG4.out.trans (g5.alloc _))).cell 1; have f205w : (w5.alloc (.cells #[.string (bs nm), .string (bs []), .string (bs [])] 105)).frozen? ⟨p + 1, 0, none⟩ = false := (HR2.out.gr (HG4.out.trans (g5.alloc _))).frozen 0; have f215w : (w5.alloc (.cells #[.string (bs nm), .string (bs []), .string (bs [])] 105)).frozen? ⟨p + 1, 1, none⟩ = false := (HR2.out.gr (HG4.out.trans (g5.alloc _))).frozen 1; have c05v : (w5.alloc (.cells #[.string (bs nm), .string (bs sf), .string (bs (tl ++ s))] 105)).cell? ⟨p, 0, none⟩ = some (.slice (some ⟨b, off, none⟩) n cap) := (HB.out.gr (HG4.out.trans (g5.alloc _))).cell 0; have c15v : (w5.alloc (.cells #[.string (bs nm), .string (bs sf), .string (bs (tl ++ s))] 105)).cell? ⟨p, 1, none⟩ = some (.int .i64 f) := (HB.out.gr (HG4.out.trans (g5.alloc _))).cell 1; have q05v : (w5.alloc (.cells #[.string (bs nm), .string (bs sf), .string (bs (tl ++ s))] 105)).cell? ⟨q, 0, none⟩ = some (.slice A1 n cap1) := ((HD4.out.blk.gr g5).alloc _).cell 0; have d205v : (w5.alloc (.cells #[.string (bs nm), .string (bs sf), .string (bs (tl ++ s))] 105)).cell? ⟨p + 1, 0, none⟩ = some (.slice none 0 0) := (HR2.out.gr (HG4.out.trans (g5.alloc _))).cell 0; have d215v : (w5.alloc (.cells #[.string (bs nm), .string (bs sf), .string (bs (tl ++ s))] 105)).cell? ⟨p + 1, 1, none⟩ = some (.int .i64 0) := (HR2.out.gr (HG4.out.trans (g5.alloc _))).cell 1; have f205v : (w5.alloc (.cells #[.string (bs nm), .string (bs sf), .string (bs (tl ++ s))] 105)).frozen? ⟨p + 1, 0, none⟩ = false := (HR2.out.gr (HG4.out.trans (g5.alloc _))).frozen 0; have f215v : (w5.alloc (.cells #[.string (bs nm), .string (bs sf), .string (bs (tl ++ s))] 105)).frozen? ⟨p + 1, 1, none⟩ = false := (HR2.out.gr (HG4.out.trans (g5.alloc _))).frozen 1; have e0w := (E0.out _ (g5.alloc (.cells #[.string (bs nm), .string (bs []), .string (bs [])] 105))).1; have e1w := (E0.out _ (g5.alloc (.cells #[.string (bs nm), .string (bs []), .string (bs [])] 105))).2.1; have e2w := (E0.out _ (g5.alloc (.cells #[.string (bs nm), .string (bs []), .string (bs [])] 105))).2.2)
              have hV5 := HV.out _ (HG4.out.trans (g5.alloc (.cells #[.string (bs nm), .string (bs sf), .string (bs (tl ++ s))] 105)))
              refine bodyPost_ret (results_blk_tmp rfl _ rfl (HW.out _ (HG4.out.trans (g5.alloc (.cells #[.string (bs nm), .string (bs sf), .string (bs (tl ++ s))] 105)))) aggDisk) rfl ?_
              rw [HR.out]
              exact ⟨some ⟨b, off, none⟩, n, cap, rfl, hV5, HA.out, .inl ⟨rfl, rfl, rfl, rfl⟩⟩
end Go.Proofs.YtoamnifnfkgbiaaGreatDoor

namespace Go.Proofs.YtoamnifnfkgbiaaGreatDoor
open Go.RowKit
set_option linter.unusedVariables false
set_option maxRecDepth 100000 in
set_option maxHeartbeats 4000000 in
theorem do1_any (name s : List UInt8) (fs : List Fl) (A : Option Addr) (n cap : Nat) (f : Int) (w : World) (hn : n ≤ 1099511627776) (hnc : n ≤ cap) (hx : FRow w A n fs) (hA : A = none → n = 0 ∧ cap = 0) (hs : ∀ f ∈ fs, f.1.length ≤ 1099511627776 ∧ f.2.1.length ≤ 1099511627776 ∧ f.2.2.length ≤ 1099511627776)
    (hf : -9223372036854775808 ≤ f ∧ f ≤ 9223372036854775807) (hl1 : name.length ≤ 1099511627776) (hl2 : s.length ≤ 1099511627776) :
    Calls Tryz.prog 71 #[.int .i64 1, diskV A n cap f, .string (bs name), .string (bs s)] w (StepPost (stepR (syF name) fs f) A n cap fs w) := by
  have hg0 := ((Gr.refl w).alloc (.cells #[.slice A n cap, .int .i64 f] 24)).alloc (.cells #[.slice none 0 0, .int .i64 0] 24)
  have hb1 := (Blk.new w 24 #[.slice A n cap, .int .i64 f]).alloc (.cells #[.slice none 0 0, .int .i64 0] 24)
  have hb2 := Blk.new1 w (.cells #[.slice A n cap, .int .i64 f] 24) 24 #[.slice none 0 0, .int .i64 0]
  have HG := sec (drgood_any fs A n cap f _ hn (hx.gr hg0) hs)
  have hl := hx.len
  have HX := sec (hx.gr hg0)
  obtain ⟨wa, hwa⟩ : ∃ x, x = (w.alloc (.cells #[.slice A n cap, .int .i64 f] 24)).alloc (.cells #[.slice none 0 0, .int .i64 0] 24) := ⟨_, rfl⟩
  rw [← hwa] at hg0 hb1 hb2 HG HX
  obtain ⟨p, hp⟩ : ∃ p, p = w.heap.size := ⟨_, rfl⟩
  have hwp : w.heap.size ≤ p := by omega
  rw [← hp] at hb1 hb2
  have c0 : wa.cell? ⟨p, 0, none⟩ = some (.slice A n cap) := hb1.cell 0
  have c1 : wa.cell? ⟨p, 1, none⟩ = some (.int .i64 f) := hb1.cell 1
  have HB := sec hb1
  have HR2 := sec hb2
  have HX0 := sec hx
  have HA := sec hA
  clear hb1 hb2 hs hx
  unfold diskV at HG
  unfold diskV
  have HW : Sec (∀ w1, Gr wa w1 → Blk ((w1.setCell ⟨p + 1, 0, none⟩ (.slice A n cap)).setCell ⟨p + 1, 1, none⟩ (.int .i64 f)) (p + 1) 24 #[.slice A n cap, .int .i64 f]) := sec fun w1 g1 => ((HR2.out.gr g1).set_ 0 (.slice A n cap)).set_ 1 (.int .i64 f)
  have HV : Sec (∀ w1, Gr wa w1 → Gr w ((w1.setCell ⟨p + 1, 0, none⟩ (.slice A n cap)).setCell ⟨p + 1, 1, none⟩ (.int .i64 f))) := sec fun w1 g1 => ((hg0.trans g1).setCell (p := ⟨p + 1, 0, none⟩) (by show w.heap.size ≤ p + 1; omega) _).setCell (p := ⟨p + 1, 1, none⟩) (by show w.heap.size ≤ p + 1; omega) _
  cases hgf : goodFs fs with
  | false =>
    have HR : Sec (stepR (syF name) fs f = (fs, f, 3)) := sec (by unfold stepR; rw [hgf]; rfl)
    rw [HR.out]
    rw [hgf] at HG
    clear hgf
    go_enter Tryz.func71, Tryz.ntmps71
    go_wp2_with (first | (rw [← hwa, ← hp]; clear hwa hp; go_wp2_with fail) | (go_at_call 86; refine Calls.mono HG.out ?_; rintro e w1 ⟨rfl, g1⟩; have c0y : w1.cell? ⟨p, 0, none⟩ = some (.slice A n cap) := (HB.out.gr g1).cell 0; have c1y : w1.cell? ⟨p, 1, none⟩ = some (.int .i64 f) := (HB.out.gr g1).cell 1; have d20 : w1.cell? ⟨p + 1, 0, none⟩ = some (.slice none 0 0) := (HR2.out.gr g1).cell 0; have d21 : w1.cell? ⟨p + 1, 1, none⟩ = some (.int .i64 0) := (HR2.out.gr g1).cell 1; have f20 : w1.frozen? ⟨p + 1, 0, none⟩ = false := (HR2.out.gr g1).frozen 0; have f21 : w1.frozen? ⟨p + 1, 1, none⟩ = false := (HR2.out.gr g1).frozen 1))
    refine bodyPost_ret (results_blk_tmp rfl _ rfl (HW.out w1 g1) aggDisk) rfl ?_
    exact ⟨A, n, cap, rfl, HV.out w1 g1, HA.out, .inl ⟨rfl, rfl, rfl, rfl⟩⟩
  | true =>
    rw [hgf] at HG
    by_cases hf0 : f = 0
    · have HR : Sec (stepR (syF name) fs f = (fs, f, 12)) := sec (by unfold stepR; rw [hgf, hf0]; rfl)
      rw [HR.out]
      clear hgf
      subst hf0
      go_enter Tryz.func71, Tryz.ntmps71
      go_wp2_with (first | (rw [← hwa, ← hp]; clear hwa hp; go_wp2_with fail) | (go_at_call 86; refine Calls.mono HG.out ?_; rintro e w1 ⟨rfl, g1⟩; have c0y : w1.cell? ⟨p, 0, none⟩ = some (.slice A n cap) := (HB.out.gr g1).cell 0; have c1y : w1.cell? ⟨p, 1, none⟩ = some (.int .i64 0) := (HB.out.gr g1).cell 1; have d20 : w1.cell? ⟨p + 1, 0, none⟩ = some (.slice none 0 0) := (HR2.out.gr g1).cell 0; have d21 : w1.cell? ⟨p + 1, 1, none⟩ = some (.int .i64 0) := (HR2.out.gr g1).cell 1; have f20 : w1.frozen? ⟨p + 1, 0, none⟩ = false := (HR2.out.gr g1).frozen 0; have f21 : w1.frozen? ⟨p + 1, 1, none⟩ = false := (HR2.out.gr g1).frozen 1))
      refine bodyPost_ret (results_blk_tmp rfl _ rfl (HW.out w1 g1) aggDisk) rfl ?_
      exact ⟨A, n, cap, rfl, HV.out w1 g1, HA.out, .inl ⟨rfl, rfl, rfl, rfl⟩⟩
    · have HGF := sec hgf
      have HF0 := sec hf0
      have HSO := sec (goodFs_sorted hgf)
      have hl400 : n ≤ 400 := by have := goodFs_len hgf; omega
      clear hgf
      obtain ⟨u, hu⟩ : ∃ u, u = (if 0 < f then f - 1 else f) := ⟨_, rfl⟩
      have HU := sec hu
      clear hu
      have HERR : Sec (∀ E, (syF name fs).2 = E → E ≠ 0 → stepR (syF name) fs f = (fs, f, E)) := sec (fun E h h0 => by unfold stepR; rw [HGF.out, if_pos rfl, if_neg HF0.out, if_neg (by rw [h]; exact h0), h])
      have HOK : Sec (∀ R, (syF name fs) = (R, 0) → stepR (syF name) fs f = (R, u, 0)) := sec (fun R h => by unfold stepR; rw [HGF.out, if_pos rfl, if_neg HF0.out, if_pos (by rw [h]), h, HU.out])
      go_enter Tryz.func71, Tryz.ntmps71
      go_upto_if 27 with (first | (rw [← hwa, ← hp]; clear hwa hp; go_wp2_with fail) | (go_at_call 86; refine Calls.mono HG.out ?_; rintro e w1 ⟨rfl, g1⟩; have c0y : w1.cell? ⟨p, 0, none⟩ = some (.slice A n cap) := (HB.out.gr g1).cell 0; have c1y : w1.cell? ⟨p, 1, none⟩ = some (.int .i64 f) := (HB.out.gr g1).cell 1) | (go_at_call 21; refine Calls.mono (copyDisk_any fs A n cap f w1 hn (HX.out.gr g1) HA.out) ?_; unfold diskV; rintro e w2 ⟨A1, cap1, rfl, ho, hA1, g2⟩))
      have hqb := Blk.new w2 24 #[.slice A1 n cap1, .int .i64 f]
      have hoq := own_gr ho ((Gr.refl w2).alloc (.cells #[.slice A1 n cap1, .int .i64 f] 24))
      have gq := g2.alloc (.cells #[.slice A1 n cap1, .int .i64 f] 24)
      obtain ⟨wq, hwq⟩ : ∃ x, x = w2.alloc (.cells #[.slice A1 n cap1, .int .i64 f] 24) := ⟨_, rfl⟩
      obtain ⟨q, hq⟩ : ∃ q, q = w2.heap.size := ⟨_, rfl⟩
      have hq1 : w1.heap.size ≤ q := by have := g2.size; omega
      rw [← hwq] at hqb hoq gq
      rw [← hq] at hqb
      rw [← hwq, ← hq]
      have HDQ : Sec (DOwn wq w1.heap.size q A1 n cap1 f fs) := sec ⟨hqb, hoq, hq1⟩
      have HG1 := sec g1
      have hpq : p + 1 < w1.heap.size := (HR2.out.gr g1).lt
      clear hwq hq hqb hoq ho g2 hA1
      have dq0 : wq.cell? ⟨q, 0, none⟩ = some (.slice A1 n cap1) := HDQ.out.blk.cell 0
      have dq1 : wq.cell? ⟨q, 1, none⟩ = some (.int .i64 f) := HDQ.out.blk.cell 1
      have fq1 : wq.frozen? ⟨q, 1, none⟩ = false := HDQ.out.blk.frozen 1
      go_cut [] from 28 to 144 (fun wx => Sec (DOwn wx w1.heap.size q A1 n cap1 u fs) ∧ Gr w1 wx)
      case first =>
        by_cases hpos : 0 < f
        · have hwr : IntKind.i64.wrap (f - 1) = f - 1 := IntWalk.i64_in _ (by omega)
          have hu : u = f - 1 := by rw [HU.out, if_pos hpos]
          go_wp2_with fail
          go_meet
          rw [hu]
          exact ⟨sec ⟨HDQ.out.blk.set_ 1 _, ownsRow_setCell_other HDQ.out.own (a := ⟨q, 1, none⟩) HDQ.out.ne _, HDQ.out.base⟩, gq.setCell (p := ⟨q, 1, none⟩) hq1 _⟩
        · have hu : u = f := by rw [HU.out, if_neg hpos]
          go_wp2_with fail
          go_meet
          rw [hu]
          exact ⟨HDQ, gq⟩
      case rest =>
        obtain ⟨HDC, gc⟩ := hcut
        clear dq0 dq1 fq1 c0y c1y HDQ gq g1
        have c0y : wc.cell? ⟨p, 0, none⟩ = some (.slice A n cap) := (HB.out.gr (HG1.out.trans gc)).cell 0
        have c1y : wc.cell? ⟨p, 1, none⟩ = some (.int .i64 f) := (HB.out.gr (HG1.out.trans gc)).cell 1
        go_upto_region 9 with (go_at_call 113; refine Calls.mono (at_any fs name A n cap f wc hn (HX.out.gr (HG1.out.trans gc)) HSO.out) ?_; rintro e w4 ⟨rfl, g4⟩)
        have gg4 : Gr w1 w4 := gc.trans g4
        have HD4 := sec (HDC.out.gr g4)
        have HG4 := sec (HG1.out.trans gg4)
        have HGG4 := sec gg4
        clear c0y c1y gc g4 HDC HG1
        have c04 : w4.cell? ⟨p, 0, none⟩ = some (.slice A n cap) := (HB.out.gr HG4.out).cell 0
        have c14 : w4.cell? ⟨p, 1, none⟩ = some (.int .i64 f) := (HB.out.gr HG4.out).cell 1
        have d20 : w4.cell? ⟨p + 1, 0, none⟩ = some (.slice none 0 0) := (HR2.out.gr HG4.out).cell 0
        have d21 : w4.cell? ⟨p + 1, 1, none⟩ = some (.int .i64 0) := (HR2.out.gr HG4.out).cell 1
        have f20 : w4.frozen? ⟨p + 1, 0, none⟩ = false := (HR2.out.gr HG4.out).frozen 0
        have f21 : w4.frozen? ⟨p + 1, 1, none⟩ = false := (HR2.out.gr HG4.out).frozen 1
        have q04 : w4.cell? ⟨q, 0, none⟩ = some (.slice A1 n cap1) := HD4.out.blk.cell 0
        have q14 : w4.cell? ⟨q, 1, none⟩ = some (.int .i64 u) := HD4.out.blk.cell 1
        have fq4 : w4.frozen? ⟨q, 0, none⟩ = false := HD4.out.blk.frozen 0
        cases hhf : hasF name fs with
        | false =>
          have hai : atI name fs = -1 := by unfold atI; rw [hhf]; rfl
          have HR := sec (HERR.out 7 (by unfold syF; rw [hhf]; rfl) (by decide))
          rw [hai]
          clear hhf
          go_wp2_with fail
          refine bodyPost_ret (results_blk_tmp rfl _ rfl (HW.out w4 HG4.out) aggDisk) rfl ?_
          rw [HR.out]
          exact ⟨A, n, cap, rfl, HV.out w4 HG4.out, HA.out, .inl ⟨rfl, rfl, rfl, rfl⟩⟩
        | true =>
          have hlt := hasF_lt HSO.out hhf
          have hput : ∀ f : Fl, f.1 = name → putF f fs = fs.set (lbF name fs) f := fun f h => by rw [put_sorted f fs HSO.out, h, hhf, if_pos rfl]
          obtain ⟨k, hk⟩ : ∃ k, k = lbF name fs := ⟨_, rfl⟩
          have hai : atI name fs = k := by unfold atI; rw [hhf, hk]; rfl
          rw [← hk] at hlt hput
          obtain ⟨hkf, hnm⟩ := hlt
          rw [hai]
          have hgd : fs.getD (lbF name fs) ([], [], []) = fs[k] := by
            rw [← hk, List.getD_eq_getElem?_getD, List.getElem?_eq_getElem hkf]; rfl
          obtain ⟨b, off, rfl, e0, e1, e2⟩ := (HX.out.gr HG4.out).cell hkf
          have hsz := goodFs_ok HGF.out fs[k] (List.getElem_mem hkf)
          obtain ⟨x, hxx⟩ : ∃ x, x = fs[k] := ⟨_, rfl⟩
          rw [← hxx] at e0 e1 e2 hsz hgd hnm
          obtain ⟨nm, sf, tl⟩ := x
          simp only at e0 e1 e2 hsz hnm
          subst hnm
          obtain ⟨_, hz1, hz2⟩ := hsz
          have HR := sec (HOK.out (putF (nm, sf ++ tl, []) fs) (by unfold syF; rw [hhf, if_pos rfl, hgd, ← hk, hput _ rfl]))
          have hkn1 : (k : Int) < (n : Int) := by omega
          clear hai hk hhf hput hxx hkf hgd
          have HPU : Sec (Calls Tryz.prog 115 #[.slice A1 n cap1, .agg #[.string (bs nm), .string (bs (sf ++ tl)), .string (bs [])]] (w4.alloc (.cells #[.string (bs nm), .string (bs sf), .string (bs tl)] 105)) fun e w' =>
            ∃ A' n' cap', e = .returned (.slice A' n' cap') ∧ w'.ownsRow (w4.alloc (.cells #[.string (bs nm), .string (bs sf), .string (bs tl)] 105)).heap.size 105 3 (.slice A' n' cap') n' ((putF (nm, sf ++ tl, []) fs).flatMap fileC) ∧ Gr (w4.alloc (.cells #[.string (bs nm), .string (bs sf), .string (bs tl)] 105)) w') := sec
            (put_any fs nm (sf ++ tl) [] A1 n cap1 _ hn (FRow.gr (Row.own HD4.out.own) ((Gr.refl w4).alloc _)))
          have q04w : (w4.alloc (.cells #[.string (bs nm), .string (bs sf), .string (bs tl)] 105)).cell? ⟨q, 0, none⟩ = some (.slice A1 n cap1) := (HD4.out.blk.alloc _).cell 0
          have hpq1 : p + 1 ≠ q := by omega
          go_wp2_with (go_at_call 115; refine HPU.out.mono ?_; rintro e w6 ⟨A6, n6, k6, rfl, hown6, g6'⟩; have g6 : Gr w4 w6 := ((Gr.refl w4).alloc _).trans g6'; have hbq := HD4.out.blk.gr g6; have hbp := HR2.out.gr (HG4.out.trans g6); have q06 : w6.cell? ⟨q, 0, none⟩ = some (.slice A1 n cap1) := hbq.cell 0; have q16 : w6.cell? ⟨q, 1, none⟩ = some (.int .i64 u) := hbq.cell 1; have fq6 : w6.frozen? ⟨q, 0, none⟩ = false := hbq.frozen 0; have d206 : w6.cell? ⟨p + 1, 0, none⟩ = some (.slice none 0 0) := hbp.cell 0; have d216 : w6.cell? ⟨p + 1, 1, none⟩ = some (.int .i64 0) := hbp.cell 1; have f206 : w6.frozen? ⟨p + 1, 0, none⟩ = false := hbp.frozen 0; have f216 : w6.frozen? ⟨p + 1, 1, none⟩ = false := hbp.frozen 1)
          have hE := do_end (hg0.trans (HG4.out.trans g6)) (by omega) (by omega) hbp hbq hpq1 hown6 (Nat.le_trans (hg0.trans HG4.out).size ((Gr.refl w4).alloc _).size) u (.slice A6 n6 k6)
          refine bodyPost_ret (results_blk_tmp rfl _ rfl hE.1 aggDisk) rfl ?_
          rw [HR.out]
          exact ⟨A6, _, k6, rfl, hE.2.1, hE.2.2.2, .inr hE.2.2.1⟩
end Go.Proofs.YtoamnifnfkgbiaaGreatDoor

namespace Go.Proofs.YtoamnifnfkgbiaaGreatDoor
open Go.RowKit
set_option linter.unusedVariables false
set_option maxRecDepth 100000 in
set_option maxHeartbeats 4000000 in
theorem do2_any (name s : List UInt8) (fs : List Fl) (A : Option Addr) (n cap : Nat) (f : Int) (w : World) (hn : n ≤ 1099511627776) (hnc : n ≤ cap) (hx : FRow w A n fs) (hA : A = none → n = 0 ∧ cap = 0) (hs : ∀ f ∈ fs, f.1.length ≤ 1099511627776 ∧ f.2.1.length ≤ 1099511627776 ∧ f.2.2.length ≤ 1099511627776)
    (hf : -9223372036854775808 ≤ f ∧ f ≤ 9223372036854775807) (hl1 : name.length ≤ 1099511627776) (hl2 : s.length ≤ 1099511627776) :
    Calls Tryz.prog 71 #[.int .i64 2, diskV A n cap f, .string (bs name), .string (bs s)] w (StepPost (stepR (rnF name s) fs f) A n cap fs w) := by
  have hg0 := ((Gr.refl w).alloc (.cells #[.slice A n cap, .int .i64 f] 24)).alloc (.cells #[.slice none 0 0, .int .i64 0] 24)
  have hb1 := (Blk.new w 24 #[.slice A n cap, .int .i64 f]).alloc (.cells #[.slice none 0 0, .int .i64 0] 24)
  have hb2 := Blk.new1 w (.cells #[.slice A n cap, .int .i64 f] 24) 24 #[.slice none 0 0, .int .i64 0]
  have HG := sec (drgood_any fs A n cap f _ hn (hx.gr hg0) hs)
  have hl := hx.len
  have HX := sec (hx.gr hg0)
  obtain ⟨wa, hwa⟩ : ∃ x, x = (w.alloc (.cells #[.slice A n cap, .int .i64 f] 24)).alloc (.cells #[.slice none 0 0, .int .i64 0] 24) := ⟨_, rfl⟩
  rw [← hwa] at hg0 hb1 hb2 HG HX
  obtain ⟨p, hp⟩ : ∃ p, p = w.heap.size := ⟨_, rfl⟩
  have hwp : w.heap.size ≤ p := by omega
  rw [← hp] at hb1 hb2
  have c0 : wa.cell? ⟨p, 0, none⟩ = some (.slice A n cap) := hb1.cell 0
  have c1 : wa.cell? ⟨p, 1, none⟩ = some (.int .i64 f) := hb1.cell 1
  have HB := sec hb1
  have HR2 := sec hb2
  have HX0 := sec hx
  have HA := sec hA
  clear hb1 hb2 hs hx
  unfold diskV at HG
  unfold diskV
  have HW : Sec (∀ w1, Gr wa w1 → Blk ((w1.setCell ⟨p + 1, 0, none⟩ (.slice A n cap)).setCell ⟨p + 1, 1, none⟩ (.int .i64 f)) (p + 1) 24 #[.slice A n cap, .int .i64 f]) := sec fun w1 g1 => ((HR2.out.gr g1).set_ 0 (.slice A n cap)).set_ 1 (.int .i64 f)
  have HV : Sec (∀ w1, Gr wa w1 → Gr w ((w1.setCell ⟨p + 1, 0, none⟩ (.slice A n cap)).setCell ⟨p + 1, 1, none⟩ (.int .i64 f))) := sec fun w1 g1 => ((hg0.trans g1).setCell (p := ⟨p + 1, 0, none⟩) (by show w.heap.size ≤ p + 1; omega) _).setCell (p := ⟨p + 1, 1, none⟩) (by show w.heap.size ≤ p + 1; omega) _
  cases hgf : goodFs fs with
  | false =>
    have HR : Sec (stepR (rnF name s) fs f = (fs, f, 3)) := sec (by unfold stepR; rw [hgf]; rfl)
    rw [HR.out]
    rw [hgf] at HG
    clear hgf
    go_enter Tryz.func71, Tryz.ntmps71
    go_wp2_with (first | (rw [← hwa, ← hp]; clear hwa hp; go_wp2_with fail) | (go_at_call 86; refine Calls.mono HG.out ?_; rintro e w1 ⟨rfl, g1⟩; have c0y : w1.cell? ⟨p, 0, none⟩ = some (.slice A n cap) := (HB.out.gr g1).cell 0; have c1y : w1.cell? ⟨p, 1, none⟩ = some (.int .i64 f) := (HB.out.gr g1).cell 1; have d20 : w1.cell? ⟨p + 1, 0, none⟩ = some (.slice none 0 0) := (HR2.out.gr g1).cell 0; have d21 : w1.cell? ⟨p + 1, 1, none⟩ = some (.int .i64 0) := (HR2.out.gr g1).cell 1; have f20 : w1.frozen? ⟨p + 1, 0, none⟩ = false := (HR2.out.gr g1).frozen 0; have f21 : w1.frozen? ⟨p + 1, 1, none⟩ = false := (HR2.out.gr g1).frozen 1))
    refine bodyPost_ret (results_blk_tmp rfl _ rfl (HW.out w1 g1) aggDisk) rfl ?_
    exact ⟨A, n, cap, rfl, HV.out w1 g1, HA.out, .inl ⟨rfl, rfl, rfl, rfl⟩⟩
  | true =>
    rw [hgf] at HG
    by_cases hf0 : f = 0
    · have HR : Sec (stepR (rnF name s) fs f = (fs, f, 12)) := sec (by unfold stepR; rw [hgf, hf0]; rfl)
      rw [HR.out]
      clear hgf
      subst hf0
      go_enter Tryz.func71, Tryz.ntmps71
      go_wp2_with (first | (rw [← hwa, ← hp]; clear hwa hp; go_wp2_with fail) | (go_at_call 86; refine Calls.mono HG.out ?_; rintro e w1 ⟨rfl, g1⟩; have c0y : w1.cell? ⟨p, 0, none⟩ = some (.slice A n cap) := (HB.out.gr g1).cell 0; have c1y : w1.cell? ⟨p, 1, none⟩ = some (.int .i64 0) := (HB.out.gr g1).cell 1; have d20 : w1.cell? ⟨p + 1, 0, none⟩ = some (.slice none 0 0) := (HR2.out.gr g1).cell 0; have d21 : w1.cell? ⟨p + 1, 1, none⟩ = some (.int .i64 0) := (HR2.out.gr g1).cell 1; have f20 : w1.frozen? ⟨p + 1, 0, none⟩ = false := (HR2.out.gr g1).frozen 0; have f21 : w1.frozen? ⟨p + 1, 1, none⟩ = false := (HR2.out.gr g1).frozen 1))
      refine bodyPost_ret (results_blk_tmp rfl _ rfl (HW.out w1 g1) aggDisk) rfl ?_
      exact ⟨A, n, cap, rfl, HV.out w1 g1, HA.out, .inl ⟨rfl, rfl, rfl, rfl⟩⟩
    · have HGF := sec hgf
      have HF0 := sec hf0
      have HSO := sec (goodFs_sorted hgf)
      have hl400 : n ≤ 400 := by have := goodFs_len hgf; omega
      clear hgf
      obtain ⟨u, hu⟩ : ∃ u, u = (if 0 < f then f - 1 else f) := ⟨_, rfl⟩
      have HU := sec hu
      clear hu
      have HERR : Sec (∀ E, (rnF name s fs).2 = E → E ≠ 0 → stepR (rnF name s) fs f = (fs, f, E)) := sec (fun E h h0 => by unfold stepR; rw [HGF.out, if_pos rfl, if_neg HF0.out, if_neg (by rw [h]; exact h0), h])
      have HOK : Sec (∀ R, (rnF name s fs) = (R, 0) → stepR (rnF name s) fs f = (R, u, 0)) := sec (fun R h => by unfold stepR; rw [HGF.out, if_pos rfl, if_neg HF0.out, if_pos (by rw [h]), h, HU.out])
      go_enter Tryz.func71, Tryz.ntmps71
      go_upto_if 27 with (first | (rw [← hwa, ← hp]; clear hwa hp; go_wp2_with fail) | (go_at_call 86; refine Calls.mono HG.out ?_; rintro e w1 ⟨rfl, g1⟩; have c0y : w1.cell? ⟨p, 0, none⟩ = some (.slice A n cap) := (HB.out.gr g1).cell 0; have c1y : w1.cell? ⟨p, 1, none⟩ = some (.int .i64 f) := (HB.out.gr g1).cell 1) | (go_at_call 21; refine Calls.mono (copyDisk_any fs A n cap f w1 hn (HX.out.gr g1) HA.out) ?_; unfold diskV; rintro e w2 ⟨A1, cap1, rfl, ho, hA1, g2⟩))
      have hqb := Blk.new w2 24 #[.slice A1 n cap1, .int .i64 f]
      have hoq := own_gr ho ((Gr.refl w2).alloc (.cells #[.slice A1 n cap1, .int .i64 f] 24))
      have gq := g2.alloc (.cells #[.slice A1 n cap1, .int .i64 f] 24)
      obtain ⟨wq, hwq⟩ : ∃ x, x = w2.alloc (.cells #[.slice A1 n cap1, .int .i64 f] 24) := ⟨_, rfl⟩
      obtain ⟨q, hq⟩ : ∃ q, q = w2.heap.size := ⟨_, rfl⟩
      have hq1 : w1.heap.size ≤ q := by have := g2.size; omega
      rw [← hwq] at hqb hoq gq
      rw [← hq] at hqb
      rw [← hwq, ← hq]
      have HDQ : Sec (DOwn wq w1.heap.size q A1 n cap1 f fs) := sec ⟨hqb, hoq, hq1⟩
      have HG1 := sec g1
      have hpq : p + 1 < w1.heap.size := (HR2.out.gr g1).lt
      clear hwq hq hqb hoq ho g2 hA1
      have dq0 : wq.cell? ⟨q, 0, none⟩ = some (.slice A1 n cap1) := HDQ.out.blk.cell 0
      have dq1 : wq.cell? ⟨q, 1, none⟩ = some (.int .i64 f) := HDQ.out.blk.cell 1
      have fq1 : wq.frozen? ⟨q, 1, none⟩ = false := HDQ.out.blk.frozen 1
      go_cut [] from 28 to 144 (fun wx => Sec (DOwn wx w1.heap.size q A1 n cap1 u fs) ∧ Gr w1 wx)
      case first =>
        by_cases hpos : 0 < f
        · have hwr : IntKind.i64.wrap (f - 1) = f - 1 := IntWalk.i64_in _ (by omega)
          have hu : u = f - 1 := by rw [HU.out, if_pos hpos]
          go_wp2_with fail
          go_meet
          rw [hu]
          exact ⟨sec ⟨HDQ.out.blk.set_ 1 _, ownsRow_setCell_other HDQ.out.own (a := ⟨q, 1, none⟩) HDQ.out.ne _, HDQ.out.base⟩, gq.setCell (p := ⟨q, 1, none⟩) hq1 _⟩
        · have hu : u = f := by rw [HU.out, if_neg hpos]
          go_wp2_with fail
          go_meet
          rw [hu]
          exact ⟨HDQ, gq⟩
      case rest =>
        obtain ⟨HDC, gc⟩ := hcut
        clear dq0 dq1 fq1 c0y c1y HDQ gq g1
        have c0y : wc.cell? ⟨p, 0, none⟩ = some (.slice A n cap) := (HB.out.gr (HG1.out.trans gc)).cell 0
        have c1y : wc.cell? ⟨p, 1, none⟩ = some (.int .i64 f) := (HB.out.gr (HG1.out.trans gc)).cell 1
        go_upto_region 9 with (go_at_call 113; refine Calls.mono (at_any fs name A n cap f wc hn (HX.out.gr (HG1.out.trans gc)) HSO.out) ?_; rintro e w4 ⟨rfl, g4⟩)
        have gg4 : Gr w1 w4 := gc.trans g4
        have HD4 := sec (HDC.out.gr g4)
        have HG4 := sec (HG1.out.trans gg4)
        have HGG4 := sec gg4
        clear c0y c1y gc g4 HDC HG1
        have c04 : w4.cell? ⟨p, 0, none⟩ = some (.slice A n cap) := (HB.out.gr HG4.out).cell 0
        have c14 : w4.cell? ⟨p, 1, none⟩ = some (.int .i64 f) := (HB.out.gr HG4.out).cell 1
        have d20 : w4.cell? ⟨p + 1, 0, none⟩ = some (.slice none 0 0) := (HR2.out.gr HG4.out).cell 0
        have d21 : w4.cell? ⟨p + 1, 1, none⟩ = some (.int .i64 0) := (HR2.out.gr HG4.out).cell 1
        have f20 : w4.frozen? ⟨p + 1, 0, none⟩ = false := (HR2.out.gr HG4.out).frozen 0
        have f21 : w4.frozen? ⟨p + 1, 1, none⟩ = false := (HR2.out.gr HG4.out).frozen 1
        have q04 : w4.cell? ⟨q, 0, none⟩ = some (.slice A1 n cap1) := HD4.out.blk.cell 0
        have q14 : w4.cell? ⟨q, 1, none⟩ = some (.int .i64 u) := HD4.out.blk.cell 1
        have fq4 : w4.frozen? ⟨q, 0, none⟩ = false := HD4.out.blk.frozen 0
        have HN := sec (fun w => fileName_any s w (by omega))
        have hpq1 : p + 1 ≠ q := by omega
        cases hnb : namedB s with
        | false =>
          have HR := sec (HERR.out 2 (by unfold rnF; rw [hnb]; rfl) (by decide))
          rw [hnb] at HN
          clear hnb
          go_wp2_with (go_at_call 114; refine (HN.out _).mono ?_; rintro e w5 ⟨rfl, g5⟩; have c05 : w5.cell? ⟨p, 0, none⟩ = some (.slice A n cap) := (HB.out.gr (HG4.out.trans g5)).cell 0; have c15 : w5.cell? ⟨p, 1, none⟩ = some (.int .i64 f) := (HB.out.gr (HG4.out.trans g5)).cell 1; have d205 : w5.cell? ⟨p + 1, 0, none⟩ = some (.slice none 0 0) := (HR2.out.gr (HG4.out.trans g5)).cell 0; have d215 : w5.cell? ⟨p + 1, 1, none⟩ = some (.int .i64 0) := (HR2.out.gr (HG4.out.trans g5)).cell 1; have f205 : w5.frozen? ⟨p + 1, 0, none⟩ = false := (HR2.out.gr (HG4.out.trans g5)).frozen 0; have f215 : w5.frozen? ⟨p + 1, 1, none⟩ = false := (HR2.out.gr (HG4.out.trans g5)).frozen 1)
          refine bodyPost_ret (results_blk_tmp rfl _ rfl (HW.out w5 (HG4.out.trans g5)) aggDisk) rfl ?_
          rw [HR.out]
          exact ⟨A, n, cap, rfl, HV.out w5 (HG4.out.trans g5), HA.out, .inl ⟨rfl, rfl, rfl, rfl⟩⟩
        | true =>
          rw [hnb] at HN
          have HNB := sec hnb
          clear hnb
          cases hhf : hasF name fs with
          | false =>
            have hai : atI name fs = -1 := by unfold atI; rw [hhf]; rfl
            have HR := sec (HERR.out 7 (by unfold rnF; rw [HNB.out, if_pos rfl, hhf]; rfl) (by decide))
            rw [hai]
            clear hhf hai
            go_wp2_with (go_at_call 114; refine (HN.out _).mono ?_; rintro e w5 ⟨rfl, g5⟩; have c05 : w5.cell? ⟨p, 0, none⟩ = some (.slice A n cap) := (HB.out.gr (HG4.out.trans g5)).cell 0; have c15 : w5.cell? ⟨p, 1, none⟩ = some (.int .i64 f) := (HB.out.gr (HG4.out.trans g5)).cell 1; have d205 : w5.cell? ⟨p + 1, 0, none⟩ = some (.slice none 0 0) := (HR2.out.gr (HG4.out.trans g5)).cell 0; have d215 : w5.cell? ⟨p + 1, 1, none⟩ = some (.int .i64 0) := (HR2.out.gr (HG4.out.trans g5)).cell 1; have f205 : w5.frozen? ⟨p + 1, 0, none⟩ = false := (HR2.out.gr (HG4.out.trans g5)).frozen 0; have f215 : w5.frozen? ⟨p + 1, 1, none⟩ = false := (HR2.out.gr (HG4.out.trans g5)).frozen 1)
            refine bodyPost_ret (results_blk_tmp rfl _ rfl (HW.out w5 (HG4.out.trans g5)) aggDisk) rfl ?_
            rw [HR.out]
            exact ⟨A, n, cap, rfl, HV.out w5 (HG4.out.trans g5), HA.out, .inl ⟨rfl, rfl, rfl, rfl⟩⟩
          | true =>
            have hlt := hasF_lt HSO.out hhf
            obtain ⟨k, hk⟩ : ∃ k, k = lbF name fs := ⟨_, rfl⟩
            have hai : atI name fs = k := by unfold atI; rw [hhf, hk]; rfl
            rw [← hk] at hlt
            obtain ⟨hkf, hnm⟩ := hlt
            rw [hai]
            have hgd : fs.getD (lbF name fs) ([], [], []) = fs[k] := by
              rw [← hk, List.getD_eq_getElem?_getD, List.getElem?_eq_getElem hkf]; rfl
            obtain ⟨b, off, rfl, e0, e1, e2⟩ := (HX.out.gr HG4.out).cell hkf
            have E0 : Sec (∀ W, Gr w4 W → W.cell? ⟨b, off + k * 3, none⟩ = some (.string (bs fs[k].1)) ∧ W.cell? ⟨b, off + k * 3 + 1, none⟩ = some (.string (bs fs[k].2.1)) ∧ W.cell? ⟨b, off + k * 3 + 2, none⟩ = some (.string (bs fs[k].2.2))) := sec (fun W g => ⟨(g.cells.1 b _ (World.block_lt_of_cell? w4 _ e0)).trans e0, (g.cells.1 b _ (World.block_lt_of_cell? w4 _ e0)).trans e1, (g.cells.1 b _ (World.block_lt_of_cell? w4 _ e0)).trans e2⟩)
            obtain ⟨x, hxx⟩ : ∃ x, x = fs[k] := ⟨_, rfl⟩
            rw [← hxx] at E0 hgd hnm
            obtain ⟨nm, sf, tl⟩ := x
            simp only at E0
            have HR := sec (HOK.out (putF (s, sf, tl) (fs.eraseIdx k)) (by
              unfold rnF; rw [HNB.out, if_pos rfl, hhf, if_pos rfl, hgd, ← hk, put_sorted _ _ (HSO.out.erase k)]; rfl))
            have hkn : k < n := by omega
            have hkn1 : (k : Int) < (n : Int) := by omega
            have hwk : IntKind.i64.wrap ((k : Int) + 1) = (k : Int) + 1 := IntWalk.i64_in _ (by omega)
            have hc1 : (k : Int) ≤ (cap : Int) := by omega
            clear hai hk hhf hxx hkf hgd hnm e0 e1 e2
            have HR1 : Sec (∀ W, Gr w4 W → Row W 3 (some ⟨b, off, none⟩) k ((fs.take k).flatMap fileC)) := sec (fun W g => (HX.out.gr (HG4.out.trans g)).take k (by omega))
            have HM1 : Sec (0 + k ≤ maxLen) := sec (Nat.le_trans (show 0 + k ≤ 4096 by omega) (by decide))
            have HM2 : Sec (0 + k + (n - (k + 1)) ≤ maxLen) := sec (Nat.le_trans (show 0 + k + (n - (k + 1)) ≤ 4096 by omega) (by decide))
            have hb10 : (k : Int) ≤ (k : Int) + 1 := by omega
            have hk0 : (0 : Int) ≤ (k : Int) + 1 := by omega
            have hk3 : (k : Int) + 1 ≤ (n : Int) := by omega
            have hk4 : (n : Int) ≤ (cap : Int) := by omega
            have hkt : ((k : Int) + 1).toNat = k + 1 := by omega
            go_upto_region 36 with (go_at_call 114; refine (HN.out _).mono ?_; rintro e w5 ⟨rfl, g5⟩; have c05 : w5.cell? ⟨p, 0, none⟩ = some (.slice (some ⟨b, off, none⟩) n cap) := (HB.out.gr (HG4.out.trans g5)).cell 0; have c15 : w5.cell? ⟨p, 1, none⟩ = some (.int .i64 f) := (HB.out.gr (HG4.out.trans g5)).cell 1; have d205 : w5.cell? ⟨p + 1, 0, none⟩ = some (.slice none 0 0) := (HR2.out.gr (HG4.out.trans g5)).cell 0; have d215 : w5.cell? ⟨p + 1, 1, none⟩ = some (.int .i64 0) := (HR2.out.gr (HG4.out.trans g5)).cell 1; have f205 : w5.frozen? ⟨p + 1, 0, none⟩ = false := (HR2.out.gr (HG4.out.trans g5)).frozen 0; have f215 : w5.frozen? ⟨p + 1, 1, none⟩ = false := (HR2.out.gr (HG4.out.trans g5)).frozen 1; have e0w := (E0.out _ g5).1; have e1w := (E0.out _ g5).2.1; have e2w := (E0.out _ g5).2.2)
            have gv : Gr w4 (w5.alloc (.cells #[.string (bs nm), .string (bs sf), .string (bs tl)] 105)) := g5.alloc _
            have hfb := Blk.new w5 105 #[.string (bs nm), .string (bs sf), .string (bs tl)]
            obtain ⟨wv, hwv⟩ : ∃ x, x = w5.alloc (.cells #[.string (bs nm), .string (bs sf), .string (bs tl)] 105) := ⟨_, rfl⟩
            obtain ⟨r, hr⟩ : ∃ r, r = w5.heap.size := ⟨_, rfl⟩
            rw [← hwv] at gv hfb
            rw [← hr] at hfb
            rw [← hwv, ← hr]
            have HFB := sec hfb
            have HDV := sec (HD4.out.gr gv)
            have HGV := sec (HG4.out.trans gv)
            have hqr : q ≠ r := by have := (HD4.out.gr g5).blk.lt; omega
            have hrq : r ≠ q := Ne.symm hqr
            have hpr : p + 1 ≠ r := by have := (HR2.out.gr (HG4.out.trans g5)).lt; omega
            have hrv : r < wv.heap.size := hfb.lt
            have hwr4 : w.heap.size ≤ r := by have := (hg0.trans (HG4.out.trans g5)).size; omega
            have HR1v : Sec (∀ W, Gr wv W → Row W 3 (some ⟨b, off, none⟩) k ((fs.take k).flatMap fileC)) := sec (fun W g => HR1.out W (gv.trans g))
            have c0v : wv.cell? ⟨p, 0, none⟩ = some (.slice (some ⟨b, off, none⟩) n cap) := (HB.out.gr HGV.out).cell 0
            have q0v : wv.cell? ⟨q, 0, none⟩ = some (.slice A1 n cap1) := HDV.out.blk.cell 0
            have HER : Sec ((fs.eraseIdx k).length ≤ 1099511627776) := sec (by have := (List.eraseIdx_sublist fs k).length_le; omega)
            have HPU0 : Sec (∀ (A6 : Option Addr) (N k6 : Nat) (w6 : World), Gr wv w6 → w6.ownsRow wv.heap.size 105 3 (.slice A6 N k6) N ((fs.eraseIdx k).flatMap fileC) →
              Calls Tryz.prog 115 #[.slice A6 N k6, .agg #[.string (bs s), .string (bs sf), .string (bs tl)]] ((w6.setCell ⟨q, 0, none⟩ (.slice A6 N k6)).setCell ⟨r, 0, none⟩ (.string (bs s))) fun e w' =>
                ∃ A' n' cap', e = .returned (.slice A' n' cap') ∧ w'.ownsRow ((w6.setCell ⟨q, 0, none⟩ (.slice A6 N k6)).setCell ⟨r, 0, none⟩ (.string (bs s))).heap.size 105 3 (.slice A' n' cap') n' ((putF (s, sf, tl) (fs.eraseIdx k)).flatMap fileC) ∧ Gr ((w6.setCell ⟨q, 0, none⟩ (.slice A6 N k6)).setCell ⟨r, 0, none⟩ (.string (bs s))) w' ∧ Gr w w' ∧ w.heap.size ≤ ((w6.setCell ⟨q, 0, none⟩ (.slice A6 N k6)).setCell ⟨r, 0, none⟩ (.string (bs s))).heap.size ∧ Blk w' q 24 #[.slice A6 N k6, .int .i64 u] ∧ Blk w' (p + 1) 24 #[.slice none 0 0, .int .i64 0]) := sec (fun A6 N k6 w6 g6 ho => by
                  have hN := FRow.len (Row.own ho)
                  have hbq : Blk w6 q 24 #[.slice A1 n cap1, .int .i64 u] := HDV.out.blk.gr g6
                  have hbp := HR2.out.gr (HGV.out.trans g6)
                  have ho7 := ownsRow_setCell_other (ownsRow_setCell_other ho (a := ⟨q, 0, none⟩) (own_blk_ne ho hbq (by decide)) (.slice A6 N k6)) (a := ⟨r, 0, none⟩) (fun e => by have : wv.heap.size ≤ r := (ho.lt _ e).1; omega) (.string (bs s))
                  have g7 : Gr w ((w6.setCell ⟨q, 0, none⟩ (.slice A6 N k6)).setCell ⟨r, 0, none⟩ (.string (bs s))) := ((hg0.trans (HGV.out.trans g6)).setCell (p := ⟨q, 0, none⟩) (by show w.heap.size ≤ q; omega) _).setCell (p := ⟨r, 0, none⟩) hwr4 _
                  have hbq7 := (hbq.set_ 0 (.slice A6 N k6)).far (p := ⟨r, 0, none⟩) hqr (.string (bs s))
                  have hbp7 := (hbp.far (p := ⟨q, 0, none⟩) hpq1 (.slice A6 N k6)).far (p := ⟨r, 0, none⟩) hpr (.string (bs s))
                  have hx7 : FRow ((w6.setCell ⟨q, 0, none⟩ (.slice A6 N k6)).setCell ⟨r, 0, none⟩ (.string (bs s))) A6 N (fs.eraseIdx k) := Row.own ho7
                  refine (put_any (fs.eraseIdx k) s sf tl A6 N k6 _ (by have := HER.out; omega) hx7).mono ?_
                  rintro e w' ⟨A', n', cap', rfl, h1, h2⟩
                  exact ⟨A', n', cap', rfl, h1, h2, g7.trans h2, g7.size, hbq7.gr h2, hbp7.gr h2⟩)
            clear e0w e1w e2w c05 c15 d205 d215 f205 f215 hwv hr gv hfb E0 HD4 HR1 c04 c14 d20 d21 f20 f21 q04 q14 fq4 HN hrv hwr4
            by_cases hcap : cap = k + 1
            · subst hcap
              obtain rfl : n = k + 1 := by omega
              have HM2 : Sec (0 + k + 0 ≤ maxLen) := HM1
              have HRR2 : Sec (∀ W, Gr wv W → Row W 3 (some ⟨b, off, none⟩) 0 ((fs.drop (k + 1)).flatMap fileC)) := sec (fun W g => FRow.none (k + 1) (by omega))
              go_region_law (first
                | (refine step_append_row (w := wv.drew) (B := wv.heap.size) (A0 := none) (n0 := 0) (cap0 := 0) (xs := []) (A := some ⟨b, off, none⟩) (n := k) (c := (k + 1)) (vs := (fs.take k).flatMap fileC) E.file rfl (.const (.slice none 0 0)) (.tmp 128) rfl ?hd (World.ownsRow_nil _ _ _ _) ?hx (HR1v.out _ (Gr.refl _).drew) ?ha fileC_one ?hb ?hm ?hB ?_; (case hd => rfl); (case hx => simp [Act.eval, Act.put]); (case ha => intro h; cases h); (case hb => omega); (case hm => exact HM1.out); (case hB => exact Nat.le_refl _); intro A5 k5 w9 hown5 hg5; have g9 : Gr wv w9 := Gr.grown (Gr.refl wv).drew hg5 (fun k hk => by simp [Value.ownBlock] at hk); have c09 : w9.cell? ⟨p, 0, none⟩ = some (.slice (some ⟨b, off, none⟩) (k + 1) (k + 1)) := (HB.out.gr (HGV.out.trans g9)).cell 0)
                | (refine step_append_row (w := w9) (B := wv.heap.size) (A0 := A5) (n0 := 0 + k) (cap0 := k5) (A := some ⟨b, off, none⟩) (n := 0) (c := 0) (vs := (fs.drop (k + 1)).flatMap fileC) E.file rfl (.tmp 129) (.tmp 134) rfl ?hd hown5 ?hx (HRR2.out _ g9) ?ha fileC_one ?hb ?hm ?hB ?_; (case hd => simp [Act.eval, Act.put]); (case hx => simp [Act.eval, Act.put]; try omega); (case ha => intro h; cases h); (case hb => omega); (case hm => exact HM2.out); (case hB => exact g9.size); intro A6 k6 w6 hown6 hg6; have g6 : Gr wv w6 := Gr.grown g9 hg6 (fun k hk => (hown5.lt k hk).1); have hbq := HDV.out.blk.gr g6; have hbr := HFB.out.gr g6; have q06 : w6.cell? ⟨q, 0, none⟩ = some (.slice A1 (k + 1) cap1) := hbq.cell 0; have fq6 : w6.frozen? ⟨q, 0, none⟩ = false := hbq.frozen 0; have r06 : w6.cell? ⟨r, 0, none⟩ = some (.string (bs nm)) := hbr.cell 0; have r16 : w6.cell? ⟨r, 1, none⟩ = some (.string (bs sf)) := hbr.cell 1; have r26 : w6.cell? ⟨r, 2, none⟩ = some (.string (bs tl)) := hbr.cell 2; have fr6 : w6.frozen? ⟨r, 0, none⟩ = false := hbr.frozen 0))
              all_goals
                have hown7 : w6.ownsRow wv.heap.size 105 3 (.slice A6 (k) k6) (k) ((fs.eraseIdx k).flatMap fileC) := by simpa [erase_flat] using hown6
                have HPU := sec (HPU0.out A6 (k) k6 w6 g6 hown7)
                go_wp2_with (go_at_call 115; refine HPU.out.mono ?_; rintro e w8 ⟨A8, n8, k8, rfl, hown8, _, g8, hb8, hbq8, hbp8⟩; have q08 : w8.cell? ⟨q, 0, none⟩ = some (.slice A6 (k) k6) := hbq8.cell 0; have q18 : w8.cell? ⟨q, 1, none⟩ = some (.int .i64 u) := hbq8.cell 1; have fq8 : w8.frozen? ⟨q, 0, none⟩ = false := hbq8.frozen 0; have d208 : w8.cell? ⟨p + 1, 0, none⟩ = some (.slice none 0 0) := hbp8.cell 0; have d218 : w8.cell? ⟨p + 1, 1, none⟩ = some (.int .i64 0) := hbp8.cell 1; have f208 : w8.frozen? ⟨p + 1, 0, none⟩ = false := hbp8.frozen 0; have f218 : w8.frozen? ⟨p + 1, 1, none⟩ = false := hbp8.frozen 1)
                have hE := do_end g8 (by omega) (by omega) hbp8 hbq8 hpq1 hown8 hb8 u (.slice A8 n8 k8)
                refine bodyPost_ret (results_blk_tmp rfl _ rfl hE.1 aggDisk) rfl ?_
                rw [HR.out]
                exact ⟨A8, _, k8, rfl, hE.2.1, hE.2.2.2, .inr hE.2.2.1⟩
            · have HRR2 : Sec (∀ W, Gr wv W → Row W 3 (some ⟨b, off + (k + 1) * 3, none⟩) (n - (k + 1)) ((fs.drop (k + 1)).flatMap fileC)) := sec (fun W g => (HX.out.gr (HGV.out.trans g)).drop (k + 1) (by omega))
              go_region_law (first
                | (refine step_append_row (w := wv.drew) (B := wv.heap.size) (A0 := none) (n0 := 0) (cap0 := 0) (xs := []) (A := some ⟨b, off, none⟩) (n := k) (c := cap) (vs := (fs.take k).flatMap fileC) E.file rfl (.const (.slice none 0 0)) (.tmp 128) rfl ?hd (World.ownsRow_nil _ _ _ _) ?hx (HR1v.out _ (Gr.refl _).drew) ?ha fileC_one ?hb ?hm ?hB ?_; (case hd => rfl); (case hx => simp [Act.eval, Act.put]); (case ha => intro h; cases h); (case hb => omega); (case hm => exact HM1.out); (case hB => exact Nat.le_refl _); intro A5 k5 w9 hown5 hg5; have g9 : Gr wv w9 := Gr.grown (Gr.refl wv).drew hg5 (fun k hk => by simp [Value.ownBlock] at hk); have c09 : w9.cell? ⟨p, 0, none⟩ = some (.slice (some ⟨b, off, none⟩) n cap) := (HB.out.gr (HGV.out.trans g9)).cell 0)
                | (refine step_append_row (w := w9) (B := wv.heap.size) (A0 := A5) (n0 := 0 + k) (cap0 := k5) (A := some ⟨b, off + (k + 1) * 3, none⟩) (n := n - (k + 1)) (c := cap - (k + 1)) (vs := (fs.drop (k + 1)).flatMap fileC) E.file rfl (.tmp 129) (.tmp 134) rfl ?hd hown5 ?hx (HRR2.out _ g9) ?ha fileC_one ?hb ?hm ?hB ?_; (case hd => simp [Act.eval, Act.put]); (case hx => simp [Act.eval, Act.put]; try omega); (case ha => intro h; cases h); (case hb => omega); (case hm => exact HM2.out); (case hB => exact g9.size); intro A6 k6 w6 hown6 hg6; have g6 : Gr wv w6 := Gr.grown g9 hg6 (fun k hk => (hown5.lt k hk).1); have hbq := HDV.out.blk.gr g6; have hbr := HFB.out.gr g6; have q06 : w6.cell? ⟨q, 0, none⟩ = some (.slice A1 n cap1) := hbq.cell 0; have fq6 : w6.frozen? ⟨q, 0, none⟩ = false := hbq.frozen 0; have r06 : w6.cell? ⟨r, 0, none⟩ = some (.string (bs nm)) := hbr.cell 0; have r16 : w6.cell? ⟨r, 1, none⟩ = some (.string (bs sf)) := hbr.cell 1; have r26 : w6.cell? ⟨r, 2, none⟩ = some (.string (bs tl)) := hbr.cell 2; have fr6 : w6.frozen? ⟨r, 0, none⟩ = false := hbr.frozen 0))
              all_goals
                have hown7 : w6.ownsRow wv.heap.size 105 3 (.slice A6 (k + (n - (k + 1))) k6) (k + (n - (k + 1))) ((fs.eraseIdx k).flatMap fileC) := by simpa [erase_flat] using hown6
                have HPU := sec (HPU0.out A6 (k + (n - (k + 1))) k6 w6 g6 hown7)
                go_wp2_with (go_at_call 115; refine HPU.out.mono ?_; rintro e w8 ⟨A8, n8, k8, rfl, hown8, _, g8, hb8, hbq8, hbp8⟩; have q08 : w8.cell? ⟨q, 0, none⟩ = some (.slice A6 (k + (n - (k + 1))) k6) := hbq8.cell 0; have q18 : w8.cell? ⟨q, 1, none⟩ = some (.int .i64 u) := hbq8.cell 1; have fq8 : w8.frozen? ⟨q, 0, none⟩ = false := hbq8.frozen 0; have d208 : w8.cell? ⟨p + 1, 0, none⟩ = some (.slice none 0 0) := hbp8.cell 0; have d218 : w8.cell? ⟨p + 1, 1, none⟩ = some (.int .i64 0) := hbp8.cell 1; have f208 : w8.frozen? ⟨p + 1, 0, none⟩ = false := hbp8.frozen 0; have f218 : w8.frozen? ⟨p + 1, 1, none⟩ = false := hbp8.frozen 1)
                have hE := do_end g8 (by omega) (by omega) hbp8 hbq8 hpq1 hown8 hb8 u (.slice A8 n8 k8)
                refine bodyPost_ret (results_blk_tmp rfl _ rfl hE.1 aggDisk) rfl ?_
                rw [HR.out]
                exact ⟨A8, _, k8, rfl, hE.2.1, hE.2.2.2, .inr hE.2.2.1⟩
end Go.Proofs.YtoamnifnfkgbiaaGreatDoor

namespace Go.Proofs.YtoamnifnfkgbiaaGreatDoor
open Go.RowKit
set_option linter.unusedVariables false
set_option maxRecDepth 100000 in
set_option maxHeartbeats 4000000 in
theorem do3_any (name s : List UInt8) (fs : List Fl) (A : Option Addr) (n cap : Nat) (f : Int) (w : World) (hn : n ≤ 1099511627776) (hnc : n ≤ cap) (hx : FRow w A n fs) (hA : A = none → n = 0 ∧ cap = 0) (hs : ∀ f ∈ fs, f.1.length ≤ 1099511627776 ∧ f.2.1.length ≤ 1099511627776 ∧ f.2.2.length ≤ 1099511627776)
    (hf : -9223372036854775808 ≤ f ∧ f ≤ 9223372036854775807) (hl1 : name.length ≤ 1099511627776) (hl2 : s.length ≤ 1099511627776) :
    Calls Tryz.prog 71 #[.int .i64 3, diskV A n cap f, .string (bs name), .string (bs s)] w (StepPost (stepR (rmF name) fs f) A n cap fs w) := by
  have hg0 := ((Gr.refl w).alloc (.cells #[.slice A n cap, .int .i64 f] 24)).alloc (.cells #[.slice none 0 0, .int .i64 0] 24)
  have hb1 := (Blk.new w 24 #[.slice A n cap, .int .i64 f]).alloc (.cells #[.slice none 0 0, .int .i64 0] 24)
  have hb2 := Blk.new1 w (.cells #[.slice A n cap, .int .i64 f] 24) 24 #[.slice none 0 0, .int .i64 0]
  have HG := sec (drgood_any fs A n cap f _ hn (hx.gr hg0) hs)
  have hl := hx.len
  have HX := sec (hx.gr hg0)
  obtain ⟨wa, hwa⟩ : ∃ x, x = (w.alloc (.cells #[.slice A n cap, .int .i64 f] 24)).alloc (.cells #[.slice none 0 0, .int .i64 0] 24) := ⟨_, rfl⟩
  rw [← hwa] at hg0 hb1 hb2 HG HX
  obtain ⟨p, hp⟩ : ∃ p, p = w.heap.size := ⟨_, rfl⟩
  have hwp : w.heap.size ≤ p := by omega
  rw [← hp] at hb1 hb2
  have c0 : wa.cell? ⟨p, 0, none⟩ = some (.slice A n cap) := hb1.cell 0
  have c1 : wa.cell? ⟨p, 1, none⟩ = some (.int .i64 f) := hb1.cell 1
  have HB := sec hb1
  have HR2 := sec hb2
  have HX0 := sec hx
  have HA := sec hA
  clear hb1 hb2 hs hx
  unfold diskV at HG
  unfold diskV
  have HW : Sec (∀ w1, Gr wa w1 → Blk ((w1.setCell ⟨p + 1, 0, none⟩ (.slice A n cap)).setCell ⟨p + 1, 1, none⟩ (.int .i64 f)) (p + 1) 24 #[.slice A n cap, .int .i64 f]) := sec fun w1 g1 => ((HR2.out.gr g1).set_ 0 (.slice A n cap)).set_ 1 (.int .i64 f)
  have HV : Sec (∀ w1, Gr wa w1 → Gr w ((w1.setCell ⟨p + 1, 0, none⟩ (.slice A n cap)).setCell ⟨p + 1, 1, none⟩ (.int .i64 f))) := sec fun w1 g1 => ((hg0.trans g1).setCell (p := ⟨p + 1, 0, none⟩) (by show w.heap.size ≤ p + 1; omega) _).setCell (p := ⟨p + 1, 1, none⟩) (by show w.heap.size ≤ p + 1; omega) _
  cases hgf : goodFs fs with
  | false =>
    have HR : Sec (stepR (rmF name) fs f = (fs, f, 3)) := sec (by unfold stepR; rw [hgf]; rfl)
    rw [HR.out]
    rw [hgf] at HG
    clear hgf
    go_enter Tryz.func71, Tryz.ntmps71
    go_wp2_with (first | (rw [← hwa, ← hp]; clear hwa hp; go_wp2_with fail) | (go_at_call 86; refine Calls.mono HG.out ?_; rintro e w1 ⟨rfl, g1⟩; have c0y : w1.cell? ⟨p, 0, none⟩ = some (.slice A n cap) := (HB.out.gr g1).cell 0; have c1y : w1.cell? ⟨p, 1, none⟩ = some (.int .i64 f) := (HB.out.gr g1).cell 1; have d20 : w1.cell? ⟨p + 1, 0, none⟩ = some (.slice none 0 0) := (HR2.out.gr g1).cell 0; have d21 : w1.cell? ⟨p + 1, 1, none⟩ = some (.int .i64 0) := (HR2.out.gr g1).cell 1; have f20 : w1.frozen? ⟨p + 1, 0, none⟩ = false := (HR2.out.gr g1).frozen 0; have f21 : w1.frozen? ⟨p + 1, 1, none⟩ = false := (HR2.out.gr g1).frozen 1))
    refine bodyPost_ret (results_blk_tmp rfl _ rfl (HW.out w1 g1) aggDisk) rfl ?_
    exact ⟨A, n, cap, rfl, HV.out w1 g1, HA.out, .inl ⟨rfl, rfl, rfl, rfl⟩⟩
  | true =>
    rw [hgf] at HG
    by_cases hf0 : f = 0
    · have HR : Sec (stepR (rmF name) fs f = (fs, f, 12)) := sec (by unfold stepR; rw [hgf, hf0]; rfl)
      rw [HR.out]
      clear hgf
      subst hf0
      go_enter Tryz.func71, Tryz.ntmps71
      go_wp2_with (first | (rw [← hwa, ← hp]; clear hwa hp; go_wp2_with fail) | (go_at_call 86; refine Calls.mono HG.out ?_; rintro e w1 ⟨rfl, g1⟩; have c0y : w1.cell? ⟨p, 0, none⟩ = some (.slice A n cap) := (HB.out.gr g1).cell 0; have c1y : w1.cell? ⟨p, 1, none⟩ = some (.int .i64 0) := (HB.out.gr g1).cell 1; have d20 : w1.cell? ⟨p + 1, 0, none⟩ = some (.slice none 0 0) := (HR2.out.gr g1).cell 0; have d21 : w1.cell? ⟨p + 1, 1, none⟩ = some (.int .i64 0) := (HR2.out.gr g1).cell 1; have f20 : w1.frozen? ⟨p + 1, 0, none⟩ = false := (HR2.out.gr g1).frozen 0; have f21 : w1.frozen? ⟨p + 1, 1, none⟩ = false := (HR2.out.gr g1).frozen 1))
      refine bodyPost_ret (results_blk_tmp rfl _ rfl (HW.out w1 g1) aggDisk) rfl ?_
      exact ⟨A, n, cap, rfl, HV.out w1 g1, HA.out, .inl ⟨rfl, rfl, rfl, rfl⟩⟩
    · have HGF := sec hgf
      have HF0 := sec hf0
      have HSO := sec (goodFs_sorted hgf)
      have hl400 : n ≤ 400 := by have := goodFs_len hgf; omega
      clear hgf
      obtain ⟨u, hu⟩ : ∃ u, u = (if 0 < f then f - 1 else f) := ⟨_, rfl⟩
      have HU := sec hu
      clear hu
      have HERR : Sec (∀ E, (rmF name fs).2 = E → E ≠ 0 → stepR (rmF name) fs f = (fs, f, E)) := sec (fun E h h0 => by unfold stepR; rw [HGF.out, if_pos rfl, if_neg HF0.out, if_neg (by rw [h]; exact h0), h])
      have HOK : Sec (∀ R, (rmF name fs) = (R, 0) → stepR (rmF name) fs f = (R, u, 0)) := sec (fun R h => by unfold stepR; rw [HGF.out, if_pos rfl, if_neg HF0.out, if_pos (by rw [h]), h, HU.out])
      go_enter Tryz.func71, Tryz.ntmps71
      go_upto_if 27 with (first | (rw [← hwa, ← hp]; clear hwa hp; go_wp2_with fail) | (go_at_call 86; refine Calls.mono HG.out ?_; rintro e w1 ⟨rfl, g1⟩; have c0y : w1.cell? ⟨p, 0, none⟩ = some (.slice A n cap) := (HB.out.gr g1).cell 0; have c1y : w1.cell? ⟨p, 1, none⟩ = some (.int .i64 f) := (HB.out.gr g1).cell 1) | (go_at_call 21; refine Calls.mono (copyDisk_any fs A n cap f w1 hn (HX.out.gr g1) HA.out) ?_; unfold diskV; rintro e w2 ⟨A1, cap1, rfl, ho, hA1, g2⟩))
      have hqb := Blk.new w2 24 #[.slice A1 n cap1, .int .i64 f]
      have hoq := own_gr ho ((Gr.refl w2).alloc (.cells #[.slice A1 n cap1, .int .i64 f] 24))
      have gq := g2.alloc (.cells #[.slice A1 n cap1, .int .i64 f] 24)
      obtain ⟨wq, hwq⟩ : ∃ x, x = w2.alloc (.cells #[.slice A1 n cap1, .int .i64 f] 24) := ⟨_, rfl⟩
      obtain ⟨q, hq⟩ : ∃ q, q = w2.heap.size := ⟨_, rfl⟩
      have hq1 : w1.heap.size ≤ q := by have := g2.size; omega
      rw [← hwq] at hqb hoq gq
      rw [← hq] at hqb
      rw [← hwq, ← hq]
      have HDQ : Sec (DOwn wq w1.heap.size q A1 n cap1 f fs) := sec ⟨hqb, hoq, hq1⟩
      have HG1 := sec g1
      have hpq : p + 1 < w1.heap.size := (HR2.out.gr g1).lt
      clear hwq hq hqb hoq ho g2 hA1
      have dq0 : wq.cell? ⟨q, 0, none⟩ = some (.slice A1 n cap1) := HDQ.out.blk.cell 0
      have dq1 : wq.cell? ⟨q, 1, none⟩ = some (.int .i64 f) := HDQ.out.blk.cell 1
      have fq1 : wq.frozen? ⟨q, 1, none⟩ = false := HDQ.out.blk.frozen 1
      go_cut [] from 28 to 144 (fun wx => Sec (DOwn wx w1.heap.size q A1 n cap1 u fs) ∧ Gr w1 wx)
      case first =>
        by_cases hpos : 0 < f
        · have hwr : IntKind.i64.wrap (f - 1) = f - 1 := IntWalk.i64_in _ (by omega)
          have hu : u = f - 1 := by rw [HU.out, if_pos hpos]
          go_wp2_with fail
          go_meet
          rw [hu]
          exact ⟨sec ⟨HDQ.out.blk.set_ 1 _, ownsRow_setCell_other HDQ.out.own (a := ⟨q, 1, none⟩) HDQ.out.ne _, HDQ.out.base⟩, gq.setCell (p := ⟨q, 1, none⟩) hq1 _⟩
        · have hu : u = f := by rw [HU.out, if_neg hpos]
          go_wp2_with fail
          go_meet
          rw [hu]
          exact ⟨HDQ, gq⟩
      case rest =>
        obtain ⟨HDC, gc⟩ := hcut
        clear dq0 dq1 fq1 c0y c1y HDQ gq g1
        have c0y : wc.cell? ⟨p, 0, none⟩ = some (.slice A n cap) := (HB.out.gr (HG1.out.trans gc)).cell 0
        have c1y : wc.cell? ⟨p, 1, none⟩ = some (.int .i64 f) := (HB.out.gr (HG1.out.trans gc)).cell 1
        go_upto_region 9 with (go_at_call 113; refine Calls.mono (at_any fs name A n cap f wc hn (HX.out.gr (HG1.out.trans gc)) HSO.out) ?_; rintro e w4 ⟨rfl, g4⟩)
        have gg4 : Gr w1 w4 := gc.trans g4
        have HD4 := sec (HDC.out.gr g4)
        have HG4 := sec (HG1.out.trans gg4)
        have HGG4 := sec gg4
        clear c0y c1y gc g4 HDC HG1
        have c04 : w4.cell? ⟨p, 0, none⟩ = some (.slice A n cap) := (HB.out.gr HG4.out).cell 0
        have c14 : w4.cell? ⟨p, 1, none⟩ = some (.int .i64 f) := (HB.out.gr HG4.out).cell 1
        have d20 : w4.cell? ⟨p + 1, 0, none⟩ = some (.slice none 0 0) := (HR2.out.gr HG4.out).cell 0
        have d21 : w4.cell? ⟨p + 1, 1, none⟩ = some (.int .i64 0) := (HR2.out.gr HG4.out).cell 1
        have f20 : w4.frozen? ⟨p + 1, 0, none⟩ = false := (HR2.out.gr HG4.out).frozen 0
        have f21 : w4.frozen? ⟨p + 1, 1, none⟩ = false := (HR2.out.gr HG4.out).frozen 1
        have q04 : w4.cell? ⟨q, 0, none⟩ = some (.slice A1 n cap1) := HD4.out.blk.cell 0
        have q14 : w4.cell? ⟨q, 1, none⟩ = some (.int .i64 u) := HD4.out.blk.cell 1
        have fq4 : w4.frozen? ⟨q, 0, none⟩ = false := HD4.out.blk.frozen 0
        cases hhf : hasF name fs with
        | false =>
          have hai : atI name fs = -1 := by unfold atI; rw [hhf]; rfl
          have HR := sec (HERR.out 7 (by unfold rmF; rw [hhf]; rfl) (by decide))
          rw [hai]
          clear hhf
          go_wp2_with fail
          refine bodyPost_ret (results_blk_tmp rfl _ rfl (HW.out w4 HG4.out) aggDisk) rfl ?_
          rw [HR.out]
          exact ⟨A, n, cap, rfl, HV.out w4 HG4.out, HA.out, .inl ⟨rfl, rfl, rfl, rfl⟩⟩
        | true =>
          have hlt := hasF_lt HSO.out hhf
          obtain ⟨k, hk⟩ : ∃ k, k = lbF name fs := ⟨_, rfl⟩
          have hai : atI name fs = k := by unfold atI; rw [hhf, hk]; rfl
          have HR := sec (HOK.out (fs.eraseIdx k) (by unfold rmF; rw [hhf, if_pos rfl, hk]))
          rw [← hk] at hlt
          obtain ⟨hkf, hnm⟩ := hlt
          rw [hai]
          clear hai hk hhf hnm
          have hkn : k < n := by omega
          obtain ⟨b, off, rfl, e0, e1, e2⟩ := (HX.out.gr HG4.out).cell hkf
          clear e0 e1 e2
          have hkn1 : (k : Int) < (n : Int) := by omega
          have hwk : IntKind.i64.wrap ((k : Int) + 1) = (k : Int) + 1 := IntWalk.i64_in _ (by omega)
          have hc1 : (k : Int) ≤ (cap : Int) := by omega
          have HR1 : Sec (∀ W, Gr w4 W → Row W 3 (some ⟨b, off, none⟩) k ((fs.take k).flatMap fileC)) := sec (fun W g => (HX.out.gr (HG4.out.trans g)).take k (by omega))
          have hpq1 : p + 1 ≠ q := by omega
          have HM1 : Sec (0 + k ≤ maxLen) := sec (Nat.le_trans (show 0 + k ≤ 4096 by omega) (by decide))
          have HM2 : Sec (0 + k + (n - (k + 1)) ≤ maxLen) := sec (Nat.le_trans (show 0 + k + (n - (k + 1)) ≤ 4096 by omega) (by decide))
          have hb10 : (k : Int) ≤ (k : Int) + 1 := by omega
          have hk0 : (0 : Int) ≤ (k : Int) + 1 := by omega
          have hk3 : (k : Int) + 1 ≤ (n : Int) := by omega
          have hk4 : (n : Int) ≤ (cap : Int) := by omega
          have hkt : ((k : Int) + 1).toNat = k + 1 := by omega
          by_cases hcap : cap = k + 1
          · subst hcap
            obtain rfl : n = k + 1 := by omega
            have HM2 : Sec (0 + k + 0 ≤ maxLen) := HM1
            have HRR2 : Sec (∀ W, Gr w4 W → Row W 3 (some ⟨b, off, none⟩) 0 ((fs.drop (k + 1)).flatMap fileC)) := sec (fun W g => FRow.none (k + 1) (by omega))
            go_wp2_with fail
            go_region_law (first
              | (refine step_append_row (w := w4.drew) (B := w4.heap.size) (A0 := none) (n0 := 0) (cap0 := 0) (xs := []) (A := some ⟨b, off, none⟩) (n := k) (c := k + 1) (vs := (fs.take k).flatMap fileC) E.file rfl (.const (.slice none 0 0)) (.tmp 42) rfl ?hd (World.ownsRow_nil _ _ _ _) ?hx (HR1.out _ (Gr.refl _).drew) ?ha fileC_one ?hb ?hm ?hB ?_; (case hd => rfl); (case hx => simp [Act.eval, Act.put]); (case ha => intro h; cases h); (case hb => omega); (case hm => exact HM1.out); (case hB => exact Nat.le_refl _); intro A5 k5 w5 hown5 hg5; have g5 : Gr w4 w5 := Gr.grown (Gr.refl w4).drew hg5 (fun k hk => by simp [Value.ownBlock] at hk); have c05 : w5.cell? ⟨p, 0, none⟩ = some (.slice (some ⟨b, off, none⟩) (k + 1) (k + 1)) := (HB.out.gr (HG4.out.trans g5)).cell 0)
              | (refine step_append_row (w := w5) (B := w4.heap.size) (A0 := A5) (n0 := 0 + k) (cap0 := k5) (A := some ⟨b, off, none⟩) (n := 0) (c := 0) (vs := (fs.drop (k + 1)).flatMap fileC) E.file rfl (.tmp 43) (.tmp 48) rfl ?hd hown5 ?hx (HRR2.out _ g5) ?ha fileC_one ?hb ?hm ?hB ?_; (case hd => simp [Act.eval, Act.put]); (case hx => simp [Act.eval, Act.put]; try omega); (case ha => intro h; cases h); (case hb => omega); (case hm => exact HM2.out); (case hB => exact g5.size); intro A6 k6 w6 hown6 hg6; have g6 : Gr w4 w6 := Gr.grown g5 hg6 (fun k hk => (hown5.lt k hk).1); have hbq := HD4.out.blk.gr g6; have hbp := HR2.out.gr (HG4.out.trans g6); have q06 : w6.cell? ⟨q, 0, none⟩ = some (.slice A1 (k + 1) cap1) := hbq.cell 0; have q16 : w6.cell? ⟨q, 1, none⟩ = some (.int .i64 u) := hbq.cell 1; have fq6 : w6.frozen? ⟨q, 0, none⟩ = false := hbq.frozen 0; have d206 : w6.cell? ⟨p + 1, 0, none⟩ = some (.slice none 0 0) := hbp.cell 0; have d216 : w6.cell? ⟨p + 1, 1, none⟩ = some (.int .i64 0) := hbp.cell 1; have f206 : w6.frozen? ⟨p + 1, 0, none⟩ = false := hbp.frozen 0; have f216 : w6.frozen? ⟨p + 1, 1, none⟩ = false := hbp.frozen 1))
            all_goals
              go_wp2_with fail
              have hown7 : w6.ownsRow w4.heap.size 105 3 (.slice A6 (k) k6) (k) ((fs.eraseIdx k).flatMap fileC) := by simpa [erase_flat] using hown6
              have hE := do_end (hg0.trans (HG4.out.trans g6)) (by omega) (by omega) hbp hbq hpq1 hown7 (hg0.trans HG4.out).size u (.slice A6 (k) k6)
              refine bodyPost_ret (results_blk_tmp rfl _ rfl hE.1 aggDisk) rfl ?_
              rw [HR.out]
              exact ⟨A6, _, k6, rfl, hE.2.1, hE.2.2.2, .inr hE.2.2.1⟩
          · have HRR2 : Sec (∀ W, Gr w4 W → Row W 3 (some ⟨b, off + (k + 1) * 3, none⟩) (n - (k + 1)) ((fs.drop (k + 1)).flatMap fileC)) := sec (fun W g => (HX.out.gr (HG4.out.trans g)).drop (k + 1) (by omega))
            go_wp2_with fail
            go_region_law (first
              | (refine step_append_row (w := w4.drew) (B := w4.heap.size) (A0 := none) (n0 := 0) (cap0 := 0) (xs := []) (A := some ⟨b, off, none⟩) (n := k) (c := cap) (vs := (fs.take k).flatMap fileC) E.file rfl (.const (.slice none 0 0)) (.tmp 42) rfl ?hd (World.ownsRow_nil _ _ _ _) ?hx (HR1.out _ (Gr.refl _).drew) ?ha fileC_one ?hb ?hm ?hB ?_; (case hd => rfl); (case hx => simp [Act.eval, Act.put]); (case ha => intro h; cases h); (case hb => omega); (case hm => exact HM1.out); (case hB => exact Nat.le_refl _); intro A5 k5 w5 hown5 hg5; have g5 : Gr w4 w5 := Gr.grown (Gr.refl w4).drew hg5 (fun k hk => by simp [Value.ownBlock] at hk); have c05 : w5.cell? ⟨p, 0, none⟩ = some (.slice (some ⟨b, off, none⟩) n cap) := (HB.out.gr (HG4.out.trans g5)).cell 0)
              | (refine step_append_row (w := w5) (B := w4.heap.size) (A0 := A5) (n0 := 0 + k) (cap0 := k5) (A := some ⟨b, off + (k + 1) * 3, none⟩) (n := n - (k + 1)) (c := cap - (k + 1)) (vs := (fs.drop (k + 1)).flatMap fileC) E.file rfl (.tmp 43) (.tmp 48) rfl ?hd hown5 ?hx (HRR2.out _ g5) ?ha fileC_one ?hb ?hm ?hB ?_; (case hd => simp [Act.eval, Act.put]); (case hx => simp [Act.eval, Act.put]; try omega); (case ha => intro h; cases h); (case hb => omega); (case hm => exact HM2.out); (case hB => exact g5.size); intro A6 k6 w6 hown6 hg6; have g6 : Gr w4 w6 := Gr.grown g5 hg6 (fun k hk => (hown5.lt k hk).1); have hbq := HD4.out.blk.gr g6; have hbp := HR2.out.gr (HG4.out.trans g6); have q06 : w6.cell? ⟨q, 0, none⟩ = some (.slice A1 n cap1) := hbq.cell 0; have q16 : w6.cell? ⟨q, 1, none⟩ = some (.int .i64 u) := hbq.cell 1; have fq6 : w6.frozen? ⟨q, 0, none⟩ = false := hbq.frozen 0; have d206 : w6.cell? ⟨p + 1, 0, none⟩ = some (.slice none 0 0) := hbp.cell 0; have d216 : w6.cell? ⟨p + 1, 1, none⟩ = some (.int .i64 0) := hbp.cell 1; have f206 : w6.frozen? ⟨p + 1, 0, none⟩ = false := hbp.frozen 0; have f216 : w6.frozen? ⟨p + 1, 1, none⟩ = false := hbp.frozen 1))
            all_goals
              go_wp2_with fail
              have hown7 : w6.ownsRow w4.heap.size 105 3 (.slice A6 (k + (n - (k + 1))) k6) (k + (n - (k + 1))) ((fs.eraseIdx k).flatMap fileC) := by simpa [erase_flat] using hown6
              have hE := do_end (hg0.trans (HG4.out.trans g6)) (by omega) (by omega) hbp hbq hpq1 hown7 (hg0.trans HG4.out).size u (.slice A6 (k + (n - (k + 1))) k6)
              refine bodyPost_ret (results_blk_tmp rfl _ rfl hE.1 aggDisk) rfl ?_
              rw [HR.out]
              exact ⟨A6, _, k6, rfl, hE.2.1, hE.2.2.2, .inr hE.2.2.1⟩
end Go.Proofs.YtoamnifnfkgbiaaGreatDoor

namespace Go.Proofs.YtoamnifnfkgbiaaGreatDoor
set_option maxRecDepth 100000
open Go.RowKit Go.ChangeShapes Go.WideShapes
/-- a value of type t, k cells, reads as some a (R), of size sz a at most its bulk -/
structure Opens (w : World) (t : TypeId) (k : Nat) {α : Type} (R : List Value → α → Prop) (sz : α → Nat) : Prop where
  cells : Tryz.prog.cellsOf t = k
  open_ : ∀ {H : Type} (enc : TypeId × Value → H) (fuel : Nat) (cs : List Value) (x : DataW H × List MemPlace),
    DataW.trod enc Tryz.prog w 0 (fun _ => true) true fuel t cs = some x → cs.length = k ∧ ∃ a, R cs a ∧ sz a ≤ Rows.uptoBulk x.1

def intR (cs : List Value) (n : Int) : Prop := cs = [.int .i64 n] ∧ -9223372036854775808 ≤ n ∧ n ≤ 9223372036854775807
def strR (cs : List Value) (l : List UInt8) : Prop := cs = [.string (bs l)]
def boolR (cs : List Value) (b : Bool) : Prop := cs = [.bool b]
theorem opens_int {t : TypeId} (ht : Tryz.prog.underlying t = some (.int .i64)) (hc : Tryz.prog.cellsOf t = 1) (w : World) : Opens w t 1 intR (fun _ => 1) :=
  ⟨hc, fun enc fuel cs x h => by
    obtain ⟨n, rfl, rfl, hw⟩ := DataW.trod_int ht h
    exact ⟨rfl, n, ⟨rfl, by simpa [Lit.wf, IntKind.min, IntKind.max, IntKind.signed, IntKind.bits] using hw⟩, by simp [Rows.uptoBulk]⟩⟩
theorem opens_string {t : TypeId} (ht : Tryz.prog.underlying t = some .string) (hc : Tryz.prog.cellsOf t = 1) (w : World) : Opens w t 1 strR (fun l => l.length + 1) :=
  ⟨hc, fun enc fuel cs x h => by
    obtain ⟨s, rfl, rfl, _⟩ := DataW.trod_string ht h
    obtain ⟨l, rfl⟩ := bs_of s
    exact ⟨rfl, l, rfl, by simp [Rows.uptoBulk, bs_data]⟩⟩
theorem opens_bool {t : TypeId} (ht : Tryz.prog.underlying t = some .bool) (hc : Tryz.prog.cellsOf t = 1) (w : World) : Opens w t 1 boolR (fun _ => 1) :=
  ⟨hc, fun enc fuel cs x h => by
    obtain ⟨b, rfl, rfl⟩ := DataW.trod_bool ht h
    exact ⟨rfl, b, rfl, by simp [Rows.uptoBulk]⟩⟩

/-- the reading by other words -/
theorem Opens.map {w : World} {t : TypeId} {k : Nat} {α β : Type} {R : List Value → α → Prop} {sz : α → Nat} (h : Opens w t k R sz) {R' : List Value → β → Prop} {sz' : β → Nat} (f : α → β) (hR : ∀ cs a, R cs a → R' cs (f a)) (hs : ∀ a, sz' (f a) ≤ sz a) : Opens w t k R' sz' :=
  ⟨h.cells, fun enc fuel cs x hx => by
    obtain ⟨hl, a, ha, hb⟩ := h.open_ enc fuel cs x hx
    exact ⟨hl, f a, hR _ _ ha, Nat.le_trans (hs a) hb⟩⟩

/-! ### structs -/
structure OpensF (w : World) (fl : List Field) (off k : Nat) {β : Type} (R : List Value → β → Prop) (sz : β → Nat) : Prop where
  open_ : ∀ {H : Type} (enc : TypeId × Value → H) (n : Nat) (cs : List Value) (ys : List (DataW H × List MemPlace)), ys.length = fl.length →
    (∀ (i : Nat) (f : Field), fl[i]? = some f → DataW.trod enc Tryz.prog w 0 (fun _ => true) true n f.type ((cs.drop f.offset).take (Tryz.prog.cellsOf f.type)) = ys[i]?) →
    cs.length = off + k → ∃ b, R (cs.drop off) b ∧ sz b ≤ Rows.uptoBulkAll (ys.map (·.1))
def nilR (cs : List Value) (_ : Unit) : Prop := cs = []
def consR {α β : Type} (k : Nat) (R : List Value → α → Prop) (R' : List Value → β → Prop) (cs : List Value) (a : α × β) : Prop := ∃ c1 c2, cs = c1 ++ c2 ∧ c1.length = k ∧ R c1 a.1 ∧ R' c2 a.2
theorem opensF_nil (w : World) (off : Nat) : OpensF w [] off 0 nilR (fun _ => 0) :=
  ⟨fun enc n cs ys _ _ hl => ⟨(), List.drop_eq_nil_of_le (by omega), by simp⟩⟩
theorem opensF_cons {w : World} {f : Field} {fl : List Field} {off k k' : Nat} {α β : Type} {R : List Value → α → Prop} {sz : α → Nat} {R' : List Value → β → Prop} {sz' : β → Nat}
    (hf : f.offset = off) (h : Opens w f.type k R sz) (h' : OpensF w fl (off + k) k' R' sz') : OpensF w (f :: fl) off (k + k') (consR k R R') (fun a => sz a.1 + sz' a.2) :=
  ⟨fun enc n cs ys hy hat hl => by
    cases ys with
    | nil => simp at hy
    | cons y ys =>
      have h0 := hat 0 f rfl
      rw [hf, h.cells] at h0
      obtain ⟨hk, a, ha, hb⟩ := h.open_ enc n _ y h0
      obtain ⟨b, hb1, hb2⟩ := h'.open_ enc n cs ys (by simpa using hy) (fun i g hg => hat (i + 1) g (by simpa using hg)) (by omega)
      refine ⟨(a, b), ⟨(cs.drop off).take k, cs.drop (off + k), ?_, hk, ha, hb1⟩, ?_⟩
      · rw [← List.drop_drop]; exact (List.take_append_drop k _).symm
      · simp only [List.map_cons, Rows.uptoBulkAll]; omega⟩
theorem opens_struct {w : World} {t : TypeId} {fs : Array Field} {k : Nat} {β : Type} {R : List Value → β → Prop} {sz : β → Nat} (ht : Tryz.prog.underlying t = some (.struct fs)) (hc : Tryz.prog.cellsOf t = k) (h : OpensF w fs.toList 0 k R sz) : Opens w t k R (fun b => sz b + 1) :=
  ⟨hc, fun enc fuel cs x hx => by
    obtain ⟨xs, n, _, rfl, hl, hxl, hf⟩ := DataW.trod_struct ht hx
    obtain ⟨b, hb, hs⟩ := h.open_ enc n cs xs (by simpa using hxl) (fun i f hi => hf i f (by simpa using hi)) (by rw [hl, hc]; omega)
    exact ⟨hl.trans hc, b, by simpa using hb, by simp only [Rows.uptoBulk]; omega⟩⟩

/-! ### slices -/
def sliceR {α : Type} (w : World) (k : Nat) (R : List Value → α → Prop) (cs : List Value) (xs : List α) : Prop :=
  ∃ A c, cs = [.slice A xs.length c] ∧ xs.length ≤ c ∧ (c ≤ maxLen ∧ (A = none → c = 0)) ∧ (0 < xs.length → ∃ b off, A = some ⟨b, off, none⟩ ∧ ∀ i (h : i < xs.length), ∃ ci, R ci xs[i] ∧ ci.length = k ∧ ∀ j v, ci[j]? = some v → w.cell? ⟨b, off + i * k + j, none⟩ = some v)
def szs {α : Type} (sz : α → Nat) : List α → Nat
  | [] => 0
  | x :: r => sz x + szs sz r

theorem build_list {α : Type} (p : Nat → α → Prop) : ∀ n, (∀ i, i < n → ∃ a, p i a) → ∃ xs : List α, xs.length = n ∧ ∀ i (h : i < xs.length), p i xs[i]
  | 0, _ => ⟨[], rfl, fun i h => absurd h (by simp)⟩
  | n + 1, h => by
    obtain ⟨xs, hl, hx⟩ := build_list p n (fun i hi => h i (by omega))
    obtain ⟨a, ha⟩ := h n (by omega)
    refine ⟨xs ++ [a], by simp [hl], fun i hi => ?_⟩
    by_cases e : i < xs.length
    · rw [List.getElem_append_left e]; exact hx i e
    · have : i = n := by simp at hi; omega
      subst this
      rw [List.getElem_append_right (by omega)]
      simpa [hl] using ha
theorem szs_le {H α : Type} (sz : α → Nat) : ∀ (xs : List α) (ds : List (DataW H)), xs.length = ds.length → (∀ i (h : i < xs.length) (h' : i < ds.length), sz xs[i] ≤ Rows.uptoBulk ds[i]) → szs sz xs ≤ Rows.uptoBulkAll ds
  | [], [], _, _ => by simp [szs]
  | x :: xs, d :: ds, hl, h => by
    have h0 := h 0 (by simp) (by simp)
    have := szs_le sz xs ds (by simpa using hl) (fun i hi hi' => h (i + 1) (by simp; omega) (by simp; omega))
    simp only [szs, Rows.uptoBulkAll]
    simp at h0
    omega
  | [], _ :: _, hl, _ => by simp at hl
  | _ :: _, [], hl, _ => by simp at hl

theorem add_of_add (a : Addr) (i j : Nat) : (a.add i).add j = a.add (i + j) := by
  unfold Addr.add
  by_cases hi : i = 0 <;> by_cases hj : j = 0 <;> simp [hi, hj, Nat.add_assoc]
theorem add_spot {b off i : Nat} : (⟨b, off, none⟩ : Addr).add i = ⟨b, off + i, none⟩ := by unfold Addr.add; split <;> simp_all

theorem opens_slice {w : World} {t e : TypeId} {k : Nat} {α : Type} {R : List Value → α → Prop} {sz : α → Nat} (ht : Tryz.prog.underlying t = some (.slice e)) (hc : Tryz.prog.cellsOf t = 1) (h : Opens w e k R sz) (hk : 0 < k) :
    Opens w t 1 (sliceR w k R) (fun xs => szs sz xs + 1) :=
  ⟨hc, fun {H} enc fuel cs x hx => by
    rcases DataW.trod_slice ht hx with ⟨rfl, rfl⟩ | ⟨a, len, cap, elems, rest, n, _, rfl, rfl, _, hlc, hcm, hlen, hel, _, _⟩
    · exact ⟨rfl, [], ⟨none, 0, rfl, by simp, ⟨by simp [maxLen], fun _ => rfl⟩, fun h0 => absurd h0 (by simp)⟩, by simp [szs, Rows.uptoBulk]⟩
    · have hi : ∀ i, i < len → ∃ y : α × List Value, (∀ (h' : i < elems.length), sz y.1 ≤ Rows.uptoBulk (elems[i].1)) ∧ R y.2 y.1 ∧ y.2.length = k ∧ ∀ j v, y.2[j]? = some v → w.cell? (a.add (i * k + j)) = some v := by
        intro i hi
        have h1 := hel i hi
        have hil : i < elems.length := by omega
        rw [List.getElem?_eq_getElem hil, Option.bind_eq_some_iff] at h1
        obtain ⟨ci, hci, hti⟩ := h1
        obtain ⟨hl, y, hy, hs⟩ := h.open_ enc n ci _ hti
        rw [h.cells] at hci
        obtain ⟨_, _, hcell⟩ := World.cells?_some hci
        refine ⟨(y, ci), fun _ => hs, hy, hl, fun j v hv => ?_⟩
        have hj : j < k := by rw [← hl]; exact (List.getElem?_eq_some_iff.1 hv).1
        rw [← add_of_add, hcell j hj]; exact hv
      obtain ⟨ys, hyl, hys⟩ := build_list (fun i (y : α × List Value) => (∀ (h' : i < elems.length), sz y.1 ≤ Rows.uptoBulk (elems[i].1)) ∧ R y.2 y.1 ∧ y.2.length = k ∧ ∀ j v, y.2[j]? = some v → w.cell? (a.add (i * k + j)) = some v) len hi
      refine ⟨rfl, ys.map (·.1), ⟨some a, cap, by simp [hyl], by simp; omega, ⟨hcm, fun h => by cases h⟩, fun h0 => ?_⟩, ?_⟩
      · obtain ⟨b, off, spot⟩ := a
        have h00 := hys 0 (by simpa using h0)
        obtain ⟨_, _, hl0, hc0⟩ := h00
        have hv := hc0 0 _ (List.getElem?_eq_getElem (by rw [hl0]; exact hk))
        have hsp : spot = none := by simpa [Addr.add] using World.cell?_spot hv
        subst hsp
        refine ⟨b, off, rfl, fun i hi => ?_⟩
        have hi' : i < ys.length := by simpa using hi
        obtain ⟨_, hR, hl, hcell⟩ := hys i hi'
        refine ⟨ys[i].2, by simpa using hR, hl, fun j v hv => ?_⟩
        have := hcell j v hv
        rw [add_spot, ← Nat.add_assoc] at this
        exact this
      · simp only [Rows.uptoBulk]
        have := szs_le (H := H) sz (ys.map (·.1)) (elems.map (·.1)) (by simp; omega) (fun i hi hi' => by
          have hi2 : i < ys.length := by simpa using hi
          have := (hys i hi2).1 (by simpa using hi')
          simpa using this)
        omega⟩

/-- where an element's cells are told by it alone: a row -/
theorem sliceR_row {α : Type} {w : World} {k : Nat} {R : List Value → α → Prop} (f : α → List Value) (hf : ∀ x, (f x).length = k) (hk : 0 < k) (hR : ∀ ci x, R ci x → ci = f x) {cs : List Value} {xs : List α} (h : sliceR w k R cs xs) :
    ∃ A c, cs = [.slice A xs.length c] ∧ xs.length ≤ c ∧ c ≤ maxLen ∧ Row w k A xs.length (xs.flatMap f) := by
  obtain ⟨A, c, hcs, h1, h2, hat⟩ := h
  refine ⟨A, c, hcs, h1, h2.1, flat_len f k hf xs, fun hn => ?_⟩
  obtain ⟨b, off, e, hel⟩ := hat hn
  refine ⟨b, off, e, fun j v hv => ?_⟩
  have hjl : j < xs.length * k := by rw [← flat_len f k hf xs]; exact (List.getElem?_eq_some_iff.1 hv).1
  have hi : j / k < xs.length := (Nat.div_lt_iff_lt_mul hk).2 hjl
  have hr : j % k < k := Nat.mod_lt _ hk
  have ej : j / k * k + j % k = j := by rw [Nat.mul_comm]; exact Nat.div_add_mod j k
  obtain ⟨ci, hci, _, hcell⟩ := hel (j / k) hi
  rw [hR ci _ hci] at hcell
  rw [← ej, flat_at f k hf xs (j / k) hi (j % k) hr] at hv
  have := hcell (j % k) v hv
  rw [Nat.add_assoc, ej] at this
  exact this
theorem szs_len {α : Type} (sz : α → Nat) (h1 : ∀ x, 1 ≤ sz x) : ∀ xs : List α, xs.length ≤ szs sz xs
  | [] => by simp
  | x :: r => by have := szs_len sz h1 r; have := h1 x; simp only [szs, List.length_cons]; omega
theorem szs_mem {α : Type} (sz : α → Nat) {xs : List α} {x : α} (h : x ∈ xs) : sz x ≤ szs sz xs := by
  induction xs with
  | nil => cases h
  | cons y r ih =>
    simp only [szs]
    rcases List.mem_cons.1 h with rfl | h
    · omega
    · have := ih h; omega

/-! ### arguments -/
theorem open_arg {w : World} {t : TypeId} {k : Nat} {α : Type} {R : List Value → α → Prop} {sz : α → Nat} (h : Opens w t k R sz) {H : Type} {enc : TypeId × Value → H} {v : Value} {d : DataW H} {p : List MemPlace}
    (hd : DataW.Trod enc Tryz.prog w 0 (fun _ => true) true t v d p) : ∃ a, R v.cells.toList a ∧ sz a ≤ Rows.uptoBulk d ∧ v.cells.toList.length = k := by
  obtain ⟨fuel, hf⟩ := hd
  obtain ⟨hl, a, ha, hs⟩ := h.open_ enc fuel _ _ hf
  exact ⟨a, ha, hs, hl⟩
theorem open_slice_arg {w : World} {r : Reach} {base : Nat} {t e : TypeId} (ht : Tryz.prog.underlying t = some (.slice e)) {k : Nat} {α : Type} {R : List Value → α → Prop} {sz : List α → Nat} (h : Opens w t 1 (sliceR w k R) sz) {H : Type} {enc : TypeId × Value → H} {v : Value} {d : DataW H} {p : List MemPlace}
    (hv : Value.okWide Tryz.prog w r base t v) (hd : DataW.Trod enc Tryz.prog w 0 (fun _ => true) true t v d p) : ∃ A c xs, v = .slice A xs.length c ∧ sliceR w k R [.slice A xs.length c] xs ∧ sz xs ≤ Rows.uptoBulk d := by
  obtain ⟨a0, n0, c0, rfl⟩ := okWide_slice ht hv
  obtain ⟨xs, hR, hs, _⟩ := open_arg h hd
  have hR' := hR
  obtain ⟨A, c, hcs, _⟩ := hR
  have e : [Value.slice a0 n0 c0] = [.slice A xs.length c] := by simpa [Value.cells] using hcs
  simp only [List.cons.injEq, and_true] at e
  refine ⟨A, c, xs, e, ?_, hs⟩
  rw [← e]
  simpa [Value.cells] using hR'
end Go.Proofs.YtoamnifnfkgbiaaGreatDoor

namespace Go.Proofs.YtoamnifnfkgbiaaGreatDoor
set_option maxRecDepth 100000
open Go.RowKit Go.ChangeShapes Go.WideShapes
theorem open_structD_arg {w : World} {r : Reach} {base : Nat} {t : TypeId} {fs : Array Field} (ht : Tryz.prog.underlying t = some (.struct fs)) {k : Nat} {α : Type} {R : List Value → α → Prop} {sz : α → Nat} (h : Opens w t k R sz) {H : Type} {enc : TypeId × Value → H} {v : Value} {d : DataW H} {p : List MemPlace}
    (hv : Value.okWide Tryz.prog w r base t v) (hd : DataW.Trod enc Tryz.prog w 0 (fun _ => true) true t v d p) : ∃ cs a, v = .agg cs ∧ R cs.toList a ∧ sz a ≤ Rows.uptoBulk d := by
  obtain ⟨cs, rfl, _⟩ := okWide_struct ht hv
  obtain ⟨a, ha, hs, _⟩ := open_arg h hd
  exact ⟨cs, a, rfl, by simpa [Value.cells] using ha, hs⟩
def szFile (f : Fl) : Nat := f.1.length + 1 + (f.2.1.length + 1 + (f.2.2.length + 1))
theorem opens_file (w : World) : Opens w 105 3 (fun cs (x : Fl) => cs = fileC x) szFile :=
  (opens_struct Tryz.underlying105 (by kernel_rfl) (opensF_cons rfl (opens_string Tryz.underlying9 (by kernel_rfl) w) (opensF_cons rfl (opens_string Tryz.underlying9 (by kernel_rfl) w) (opensF_cons rfl (opens_string Tryz.underlying9 (by kernel_rfl) w) (opensF_nil w 3))))).map
    (fun a => (a.1, a.2.1, a.2.2.1)) (by
      rintro cs ⟨a, b, c, _⟩ ⟨c1, c2, rfl, _, h1, d1, d2, rfl, _, h2, e1, e2, rfl, _, h3, h4⟩
      simp only [strR] at h1 h2 h3
      subst h1
      subst h2
      subst h3
      subst h4
      rfl) (by intro a; simp only [szFile]; omega)
theorem opens_disk (w : World) : Opens w 24 2 (fun cs (x : List Fl × Int) => ∃ A c, cs = [.slice A x.1.length c, .int .i64 x.2] ∧ sliceR w 3 (fun cs (x : Fl) => cs = fileC x) [.slice A x.1.length c] x.1 ∧ -9223372036854775808 ≤ x.2 ∧ x.2 ≤ 9223372036854775807) (fun x => szs szFile x.1) :=
  (opens_struct Tryz.underlying24 (by kernel_rfl) (opensF_cons rfl (opens_slice Tryz.underlying22 (by kernel_rfl) (opens_file w) (by omega)) (opensF_cons rfl (opens_int Tryz.underlying3 (by kernel_rfl) w) (opensF_nil w 2)))).map
    (fun a => (a.1, a.2.1)) (by
      rintro cs ⟨fs, f, _⟩ ⟨c1, c2, rfl, _, h1, d1, d2, rfl, _, h2, h3⟩
      have h1' := h1
      obtain ⟨A, c, hc, _⟩ := h1
      simp only at hc
      subst hc
      obtain ⟨h4, h5⟩ := h2
      simp only at h4
      subst h4
      simp only [nilR] at h3
      subst h3
      exact ⟨A, c, rfl, h1', h5⟩) (by intro a; simp only; omega)
/-- what is known of a disk that came in -/
structure DiskIn (w : World) (A : Option Addr) (c : Nat) (fs : List Fl) (f : Int) : Prop where
  row : FRow w A fs.length fs
  len : fs.length ≤ 1048576
  size : ∀ x ∈ fs, x.1.length ≤ 1048576 ∧ x.2.1.length ≤ 1048576 ∧ x.2.2.length ≤ 1048576
  nil : A = none → fs.length = 0 ∧ c = 0
  fuse : -9223372036854775808 ≤ f ∧ f ≤ 9223372036854775807
  cap : fs.length ≤ c
theorem open_disk {w : World} {r : Reach} {base : Nat} {H : Type} {enc : TypeId × Value → H} {v : Value} {d : DataW H} {p : List MemPlace}
    (hv : Value.okWide Tryz.prog w r base 24 v) (hd : DataW.Trod enc Tryz.prog w 0 (fun _ => true) true 24 v d p) (hb : Rows.uptoBulk d ≤ 1048576) :
    ∃ A c fs f, v = diskV A fs.length c f ∧ DiskIn w A c fs f := by
  obtain ⟨cs, ⟨fs, f⟩, rfl, ⟨A, c, hc, hR, hf⟩, hs⟩ := open_structD_arg Tryz.underlying24 (opens_disk w) hv hd
  simp only at hc hR hf hs
  obtain ⟨A', c', e', h1, h2, hrow⟩ := sliceR_row fileC (fun _ => rfl) (by omega) (fun ci x h => h) hR
  simp only [List.cons.injEq, and_true, Value.slice.injEq, true_and] at e'
  obtain ⟨rfl, rfl⟩ := e'
  obtain ⟨A2, c2, e2, _, h3, _⟩ := hR
  simp only [List.cons.injEq, and_true, Value.slice.injEq, true_and] at e2
  obtain ⟨rfl, rfl⟩ := e2
  have hl := szs_len szFile (fun x => by unfold szFile; omega) fs
  refine ⟨A, c, fs, f, ?_, ⟨hrow, by omega, fun x hx => ?_, fun h => ?_, hf, h1⟩⟩
  · unfold diskV
    congr 1
    exact Array.toList_inj.1 hc
  · have := szs_mem szFile hx
    unfold szFile at this hs
    refine ⟨?_, ?_, ?_⟩ <;> omega
  · have := h3.2 h
    omega
end Go.Proofs.YtoamnifnfkgbiaaGreatDoor

namespace Go.Proofs.YtoamnifnfkgbiaaGreatDoor
open Go.RowKit
set_option linter.unusedVariables false
theorem insF_len' (i : Nat) (f : Fl) (fs : List Fl) : (insF i f fs).length ≤ fs.length + 1 := by unfold insF; simp; omega
theorem wrF_len (name s : List UInt8) (fs : List Fl) : (wrF name s fs).1.length ≤ fs.length + 1 := by
  have h1 : (wrPre name fs).length ≤ fs.length + 1 := by
    unfold wrPre
    split
    · omega
    · exact insF_len' _ _ _
  unfold wrF
  split
  · split
    · simp
    · split
      · simpa using h1
      · simp
  · simp
theorem syF_len (name : List UInt8) (fs : List Fl) : (syF name fs).1.length ≤ fs.length + 1 := by
  unfold syF
  split <;> simp
theorem rmF_len (name : List UInt8) (fs : List Fl) : (rmF name fs).1.length ≤ fs.length + 1 := by
  unfold rmF
  split
  · have := (List.eraseIdx_sublist fs (lbF name fs)).length_le
    simp only
    omega
  · simp
theorem rnF_len (frm dst : List UInt8) (fs : List Fl) : (rnF frm dst fs).1.length ≤ fs.length + 1 := by
  unfold rnF
  split
  · split
    · have h1 := (List.eraseIdx_sublist fs (lbF frm fs)).length_le
      simp only
      unfold rnTo
      split
      · simp only [List.length_set]; omega
      · have := insF_len' (lbF dst (fs.eraseIdx (lbF frm fs))) (dst, (fs.getD (lbF frm fs) ([], [], [])).2) (fs.eraseIdx (lbF frm fs))
        omega
    · simp
  · simp
theorem stepR_len (F : List Fl → List Fl × Int) (h : ∀ fs, (F fs).1.length ≤ fs.length + 1) (fs : List Fl) (f : Int) : (stepR F fs f).1.length ≤ fs.length + 1 := by
  unfold stepR
  split
  · split
    · simp
    · split
      · exact h fs
      · simp
  · simp
theorem steps_mid {wa w1 w2 w4 : World} {A1 A2 : Option Addr} {n n2 cap1 cap2 : Nat} {f u : Int} {gs fs : List Fl} (g1 : Gr wa w1) (ho : w2.ownsRow (w1.alloc (.cells #[.slice none 0 0, .int .i64 0] 24)).heap.size 105 3 (.slice A1 n cap1) n (fs.flatMap fileC)) (g2 : Gr (w1.alloc (.cells #[.slice none 0 0, .int .i64 0] 24)) w2) (g3 : Gr (w2.alloc (.cells #[.slice A1 n cap1, .int .i64 f] 24)) w4)
    (hrow : (A2 = A1 ∧ n2 = n ∧ cap2 = cap1 ∧ gs = fs) ∨ w4.ownsRow (w2.alloc (.cells #[.slice A1 n cap1, .int .i64 f] 24)).heap.size 105 3 (.slice A2 n2 cap2) n2 (gs.flatMap fileC)) :
    Blk w4 w1.heap.size 24 #[.slice none 0 0, .int .i64 0] ∧ Gr wa ((w4.setCell ⟨w1.heap.size, 0, none⟩ (.slice A2 n2 cap2)).setCell ⟨w1.heap.size, 1, none⟩ (.int .i64 u)) ∧ FRow ((w4.setCell ⟨w1.heap.size, 0, none⟩ (.slice A2 n2 cap2)).setCell ⟨w1.heap.size, 1, none⟩ (.int .i64 u)) A1 n fs ∧ FRow ((w4.setCell ⟨w1.heap.size, 0, none⟩ (.slice A2 n2 cap2)).setCell ⟨w1.heap.size, 1, none⟩ (.int .i64 u)) A2 n2 gs ∧
      Blk ((w4.setCell ⟨w1.heap.size, 0, none⟩ (.slice A2 n2 cap2)).setCell ⟨w1.heap.size, 1, none⟩ (.int .i64 u)) w1.heap.size 24 #[.slice A2 n2 cap2, .int .i64 u] ∧ Blk ((w4.setCell ⟨w1.heap.size, 0, none⟩ (.slice A2 n2 cap2)).setCell ⟨w1.heap.size, 1, none⟩ (.int .i64 u)) w2.heap.size 24 #[.slice A1 n cap1, .int .i64 f] := by
  have hz : (w1.alloc (.cells #[.slice none 0 0, .int .i64 0] 24)).heap.size = w1.heap.size + 1 := by simp
  have hg14 : Gr (w1.alloc (.cells #[.slice none 0 0, .int .i64 0] 24)) w4 := (g2.alloc _).trans g3
  have hpa := (Blk.new w1 24 #[.slice none 0 0, .int .i64 0]).gr hg14
  have ho4 := own_gr (own_gr ho ((Gr.refl w2).alloc (.cells #[.slice A1 n cap1, .int .i64 f] 24))) g3
  have hne1 : (Value.slice A1 n cap1).ownBlock ≠ some w1.heap.size := fun e => by have := (ho4.lt _ e).1; omega
  have hr1 : FRow ((w4.setCell ⟨w1.heap.size, 0, none⟩ (.slice A2 n2 cap2)).setCell ⟨w1.heap.size, 1, none⟩ (.int .i64 u)) A1 n fs := Row.own (ownsRow_setCell_other (ownsRow_setCell_other ho4 (a := ⟨w1.heap.size, 0, none⟩) hne1 _) (a := ⟨w1.heap.size, 1, none⟩) hne1 _)
  have hs2 := g2.size
  have hs3 : (w2.alloc (.cells #[.slice A1 n cap1, .int .i64 f] 24)).heap.size = w2.heap.size + 1 := by simp
  refine ⟨hpa, ((g1.trans (((Gr.refl w1).alloc _).trans hg14)).setCell (p := ⟨w1.heap.size, 0, none⟩) g1.size _).setCell (p := ⟨w1.heap.size, 1, none⟩) g1.size _, hr1, ?_, (hpa.set_ 0 _).set_ 1 _, (((Blk.new w2 24 #[.slice A1 n cap1, .int .i64 f]).gr g3).far (p := ⟨w1.heap.size, 0, none⟩) (by show w2.heap.size ≠ w1.heap.size; omega) _).far (p := ⟨w1.heap.size, 1, none⟩) (by show w2.heap.size ≠ w1.heap.size; omega) _⟩
  rcases hrow with ⟨rfl, rfl, rfl, rfl⟩ | h
  · exact hr1
  · have hne2 : (Value.slice A2 n2 cap2).ownBlock ≠ some w1.heap.size := fun e => by have := (h.lt _ e).1; omega
    exact Row.own (ownsRow_setCell_other (ownsRow_setCell_other h (a := ⟨w1.heap.size, 0, none⟩) hne2 _) (a := ⟨w1.heap.size, 1, none⟩) hne2 _)
end Go.Proofs.YtoamnifnfkgbiaaGreatDoor

namespace Go.Proofs.YtoamnifnfkgbiaaGreatDoor
open Go.RowKit
set_option linter.unusedVariables false
structure SaveSt (w0 : World) (p : Nat) (A0 : Option Addr) (n0 cap0 : Nat) (fs0 : List Fl) (w : World) (A : Option Addr) (n cap : Nat) (f : Int) (fs : List Fl) : Prop where
  g : Gr w0 w
  bp : Blk w p 24 #[.slice A n cap, .int .i64 f]
  bq : Blk w (p + 1) 24 #[.slice none 0 0, .int .i64 0]
  nil : A = none → n = 0 ∧ cap = 0
  le : n ≤ cap
  alt : (A = A0 ∧ n = n0 ∧ cap = cap0 ∧ fs = fs0) ∨ w.ownsRow (p + 2) 105 3 (.slice A n cap) n (fs.flatMap fileC)
theorem SaveSt.row {w0 w : World} {p n0 cap0 n cap : Nat} {A0 A : Option Addr} {f : Int} {fs0 fs : List Fl} (h : SaveSt w0 p A0 n0 cap0 fs0 w A n cap f fs) (hx : FRow w0 A0 n0 fs0) : FRow w A n fs := by
  rcases h.alt with ⟨rfl, rfl, _, rfl⟩ | h1
  · exact hx.gr h.g
  · exact Row.own h1
theorem SaveSt.gr {w0 w w' : World} {p n0 cap0 n cap : Nat} {A0 A : Option Addr} {f : Int} {fs0 fs : List Fl} (h : SaveSt w0 p A0 n0 cap0 fs0 w A n cap f fs) (hg : Gr w w') : SaveSt w0 p A0 n0 cap0 fs0 w' A n cap f fs :=
  ⟨h.g.trans hg, h.bp.gr hg, h.bq.gr hg, h.nil, h.le, h.alt.elim .inl (fun h1 => .inr (own_gr h1 hg))⟩
theorem SaveSt.facts {w0 w : World} {p n0 cap0 n cap : Nat} {A0 A : Option Addr} {f : Int} {fs0 fs : List Fl} (h : SaveSt w0 p A0 n0 cap0 fs0 w A n cap f fs) :
    w.cell? ⟨p, 0, none⟩ = some (.slice A n cap) ∧ w.cell? ⟨p, 1, none⟩ = some (.int .i64 f) ∧ w.frozen? ⟨p, 0, none⟩ = false ∧ w.frozen? ⟨p, 1, none⟩ = false ∧
    w.cell? ⟨p + 1, 0, none⟩ = some (.slice none 0 0) ∧ w.cell? ⟨p + 1, 1, none⟩ = some (.int .i64 0) ∧ w.frozen? ⟨p + 1, 0, none⟩ = false ∧ w.frozen? ⟨p + 1, 1, none⟩ = false :=
  ⟨h.bp.cell 0, h.bp.cell 1, h.bp.frozen 0, h.bp.frozen 1, h.bq.cell 0, h.bq.cell 1, h.bq.frozen 0, h.bq.frozen 1⟩
/-- a step's answer in the variable -/
theorem SaveSt.next {w0 w w' : World} {p n0 cap0 n cap n' cap' : Nat} {A0 A A' : Option Addr} {f u : Int} {fs0 fs gs : List Fl} (h : SaveSt w0 p A0 n0 cap0 fs0 w A n cap f fs) (hp : p = w0.heap.size) (hg : Gr w w') (hA' : A' = none → n' = 0 ∧ cap' = 0)
    (hr : (A' = A ∧ n' = n ∧ cap' = cap ∧ gs = fs) ∨ w'.ownsRow w.heap.size 105 3 (.slice A' n' cap') n' (gs.flatMap fileC)) :
    SaveSt w0 p A0 n0 cap0 fs0 ((w'.setCell ⟨p, 0, none⟩ (.slice A' n' cap')).setCell ⟨p, 1, none⟩ (.int .i64 u)) A' n' cap' u gs := by
  have hpp : w0.heap.size ≤ p := by omega
  have hq := h.bq.lt
  refine ⟨((h.g.trans hg).setCell (p := ⟨p, 0, none⟩) hpp _).setCell (p := ⟨p, 1, none⟩) hpp _, ((h.bp.gr hg).set_ 0 _).set_ 1 _, ((h.bq.gr hg).far (p := ⟨p, 0, none⟩) (by show p + 1 ≠ p; omega) _).far (p := ⟨p, 1, none⟩) (by show p + 1 ≠ p; omega) _, hA', StepPost.cap (r := (gs, u, 0)) h.le hr, ?_⟩
  have hown : ∀ B, p + 2 ≤ B → w'.ownsRow B 105 3 (.slice A' n' cap') n' (gs.flatMap fileC) → ((w'.setCell ⟨p, 0, none⟩ (.slice A' n' cap')).setCell ⟨p, 1, none⟩ (.int .i64 u)).ownsRow (p + 2) 105 3 (.slice A' n' cap') n' (gs.flatMap fileC) := fun B hB ho => by
    have hne : (Value.slice A' n' cap').ownBlock ≠ some p := fun e => by have := (ho.lt _ e).1; omega
    exact own_low (ownsRow_setCell_other (ownsRow_setCell_other ho (a := ⟨p, 0, none⟩) hne _) (a := ⟨p, 1, none⟩) hne _) hB
  rcases hr with ⟨rfl, rfl, rfl, rfl⟩ | hr
  · rcases h.alt with h1 | h1
    · exact .inl h1
    · exact .inr (hown _ (Nat.le_refl _) (own_gr h1 hg))
  · exact .inr (hown _ (by omega) hr)
/-- the answer, in the result's cell -/
theorem SaveSt.done {w0 w : World} {p n0 cap0 n cap : Nat} {A0 A : Option Addr} {f : Int} {fs0 fs : List Fl} (h : SaveSt w0 p A0 n0 cap0 fs0 w A n cap f fs) (hp : p = w0.heap.size) :
    Blk ((w.setCell ⟨p + 1, 0, none⟩ (.slice A n cap)).setCell ⟨p + 1, 1, none⟩ (.int .i64 f)) (p + 1) 24 #[.slice A n cap, .int .i64 f] ∧
    Gr w0 ((w.setCell ⟨p + 1, 0, none⟩ (.slice A n cap)).setCell ⟨p + 1, 1, none⟩ (.int .i64 f)) ∧ (A = none → n = 0 ∧ cap = 0) ∧
    ((A = A0 ∧ n = n0 ∧ cap = cap0 ∧ fs = fs0) ∨ ((w.setCell ⟨p + 1, 0, none⟩ (.slice A n cap)).setCell ⟨p + 1, 1, none⟩ (.int .i64 f)).ownsRow w0.heap.size 105 3 (.slice A n cap) n (fs.flatMap fileC)) := by
  have hpp : w0.heap.size ≤ p + 1 := by omega
  refine ⟨(h.bq.set_ 0 _).set_ 1 _, (h.g.setCell (p := ⟨p + 1, 0, none⟩) hpp _).setCell (p := ⟨p + 1, 1, none⟩) hpp _, h.nil, ?_⟩
  rcases h.alt with h1 | h1
  · exact .inl h1
  · have hne : (Value.slice A n cap).ownBlock ≠ some (p + 1) := fun e => by have := (h1.lt _ e).1; omega
    exact .inr (own_low (ownsRow_setCell_other (ownsRow_setCell_other h1 (a := ⟨p + 1, 0, none⟩) hne _) (a := ⟨p + 1, 1, none⟩) hne _) (by omega))
/-- the last step's answer, in the result's cell -/
theorem SaveSt.last {w0 w w' : World} {p n0 cap0 n cap n' cap' : Nat} {A0 A A' : Option Addr} {f u : Int} {fs0 fs gs : List Fl} (h : SaveSt w0 p A0 n0 cap0 fs0 w A n cap f fs) (hp : p = w0.heap.size) (hg : Gr w w') (hA' : A' = none → n' = 0 ∧ cap' = 0)
    (hr : (A' = A ∧ n' = n ∧ cap' = cap ∧ gs = fs) ∨ w'.ownsRow w.heap.size 105 3 (.slice A' n' cap') n' (gs.flatMap fileC)) :
    Blk ((w'.setCell ⟨p + 1, 0, none⟩ (.slice A' n' cap')).setCell ⟨p + 1, 1, none⟩ (.int .i64 u)) (p + 1) 24 #[.slice A' n' cap', .int .i64 u] ∧
    Gr w0 ((w'.setCell ⟨p + 1, 0, none⟩ (.slice A' n' cap')).setCell ⟨p + 1, 1, none⟩ (.int .i64 u)) ∧ (A' = none → n' = 0 ∧ cap' = 0) ∧
    ((A' = A0 ∧ n' = n0 ∧ cap' = cap0 ∧ gs = fs0) ∨ ((w'.setCell ⟨p + 1, 0, none⟩ (.slice A' n' cap')).setCell ⟨p + 1, 1, none⟩ (.int .i64 u)).ownsRow w0.heap.size 105 3 (.slice A' n' cap') n' (gs.flatMap fileC)) := by
  have hpp : w0.heap.size ≤ p + 1 := by omega
  have hq := h.bq.lt
  refine ⟨((h.bq.gr hg).set_ 0 _).set_ 1 _, ((h.g.trans hg).setCell (p := ⟨p + 1, 0, none⟩) hpp _).setCell (p := ⟨p + 1, 1, none⟩) hpp _, hA', ?_⟩
  have hown : ∀ B, p + 2 ≤ B → w'.ownsRow B 105 3 (.slice A' n' cap') n' (gs.flatMap fileC) → ((w'.setCell ⟨p + 1, 0, none⟩ (.slice A' n' cap')).setCell ⟨p + 1, 1, none⟩ (.int .i64 u)).ownsRow w0.heap.size 105 3 (.slice A' n' cap') n' (gs.flatMap fileC) := fun B hB ho => by
    have hne : (Value.slice A' n' cap').ownBlock ≠ some (p + 1) := fun e => by have := (ho.lt _ e).1; omega
    exact own_low (ownsRow_setCell_other (ownsRow_setCell_other ho (a := ⟨p + 1, 0, none⟩) hne _) (a := ⟨p + 1, 1, none⟩) hne _) (by omega)
  rcases hr with ⟨rfl, rfl, rfl, rfl⟩ | hr
  · rcases h.alt with h1 | h1
    · exact .inl h1
    · exact .inr (hown _ (Nat.le_refl _) (own_gr h1 hg))
  · exact .inr (hown _ (by omega) hr)

/-! ### sizes -/
def Sz (fs : List Fl) : Prop := fs.length ≤ 1048576 ∧ ∀ f ∈ fs, f.1.length ≤ 1099511627776 ∧ f.2.1.length ≤ 1099511627776 ∧ f.2.2.length ≤ 1099511627776
theorem namedB_len {s : List UInt8} (h : namedB s = true) : s.length ≤ 80 := by
  unfold namedB at h
  simp only [Bool.and_eq_true, decide_eq_true_eq] at h
  omega
theorem good_sz {fs : List Fl} (h : goodFs fs = true) : fs.length ≤ 400 ∧ ∀ f ∈ fs, f.1.length ≤ 80 ∧ f.2.1.length ≤ 1048576 ∧ f.2.2.length ≤ 1048576 := by
  refine ⟨goodFs_len h, fun f hf => ?_⟩
  have := goodFs_ok h f hf
  exact ⟨namedB_len this.1, this.2.1, by omega⟩
theorem stepR_sz {F : List Fl → List Fl × Int} (hF : ∀ fs, goodFs fs = true → Sz (F fs).1) {fs : List Fl} (f : Int) (h : Sz fs) : Sz (stepR F fs f).1 := by
  unfold stepR
  cases hg : goodFs fs with
  | false => exact h
  | true =>
    simp only [if_true]
    split
    · exact h
    · split
      · exact hF fs hg
      · exact h
theorem stepR_fuse {F : List Fl → List Fl × Int} {fs : List Fl} {f : Int} (h : -9223372036854775808 ≤ f ∧ f ≤ 9223372036854775807) : -9223372036854775808 ≤ (stepR F fs f).2.1 ∧ (stepR F fs f).2.1 ≤ 9223372036854775807 := by
  unfold stepR
  split
  · split
    · exact h
    · split
      · simp only
        split <;> omega
      · exact h
  · exact h
theorem sz_of {fs gs : List Fl} (h : goodFs fs = true) (hl : gs.length ≤ fs.length + 1) (hm : ∀ f ∈ gs, f ∈ fs ∨ (f.1.length ≤ 1099511627776 ∧ f.2.1.length ≤ 1099511627776 ∧ f.2.2.length ≤ 1099511627776)) : Sz gs := by
  obtain ⟨h1, h2⟩ := good_sz h
  refine ⟨by omega, fun f hf => ?_⟩
  rcases hm f hf with h3 | h3
  · have := h2 f h3; omega
  · exact h3
theorem insF_mem {i : Nat} {f x : Fl} {fs : List Fl} (h : x ∈ insF i f fs) : x ∈ fs ∨ x = f := by
  unfold insF at h
  rcases List.mem_append.1 h with h | h
  · exact .inl (List.mem_of_mem_take h)
  · rcases List.mem_cons.1 h with h | h
    · exact .inr h
    · exact .inl (List.mem_of_mem_drop h)
theorem getD_sz {fs : List Fl} (h : goodFs fs = true) (i : Nat) : (fs.getD i ([], [], [])).1.length ≤ 80 ∧ (fs.getD i ([], [], [])).2.1.length ≤ 1048576 ∧ (fs.getD i ([], [], [])).2.2.length ≤ 1048576 := by
  rw [List.getD_eq_getElem?_getD]
  cases he : fs[i]? with
  | none => simp
  | some x => exact (good_sz h).2 x (List.mem_of_getElem? he)
theorem rmF_sz (name : List UInt8) (fs : List Fl) (h : goodFs fs = true) : Sz (rmF name fs).1 :=
  sz_of h (rmF_len name fs) (fun f hf => by
    unfold rmF at hf
    split at hf
    · exact .inl ((List.eraseIdx_sublist fs _).subset hf)
    · exact .inl hf)
theorem syF_sz (name : List UInt8) (fs : List Fl) (h : goodFs fs = true) : Sz (syF name fs).1 :=
  sz_of h (syF_len name fs) (fun f hf => by
    unfold syF at hf
    split at hf
    · rcases List.mem_or_eq_of_mem_set hf with h1 | h1
      · exact .inl h1
      · have := getD_sz h (lbF name fs)
        rw [h1]
        exact .inr ⟨by simp only; omega, by simp only [List.length_append]; omega, by simp⟩
    · exact .inl hf)
theorem rnF_sz (frm dst : List UInt8) (hd : dst.length ≤ 1099511627776) (fs : List Fl) (h : goodFs fs = true) : Sz (rnF frm dst fs).1 :=
  sz_of h (rnF_len frm dst fs) (fun f hf => by
    have hg := getD_sz h (lbF frm fs)
    unfold rnF at hf
    split at hf
    · split at hf
      · simp only at hf
        unfold rnTo at hf
        split at hf
        · rcases List.mem_or_eq_of_mem_set hf with h1 | h1
          · exact .inl ((List.eraseIdx_sublist fs _).subset h1)
          · rw [h1]
            exact .inr ⟨hd, by simp only; omega, by simp only; omega⟩
        · rcases insF_mem hf with h1 | h1
          · exact .inl ((List.eraseIdx_sublist fs _).subset h1)
          · rw [h1]
            exact .inr ⟨hd, by simp only; omega, by simp only; omega⟩
      · exact .inl hf
    · exact .inl hf)
theorem wrF_sz (name s : List UInt8) (hd : name.length ≤ 1099511627776) (fs : List Fl) (h : goodFs fs = true) : Sz (wrF name s fs).1 :=
  sz_of h (wrF_len name s fs) (fun f hf => by
    have hpre : ∀ x ∈ wrPre name fs, x ∈ fs ∨ (x.1.length ≤ 1099511627776 ∧ x.2.1.length ≤ 1099511627776 ∧ x.2.2.length ≤ 1099511627776) := fun x hx => by
      unfold wrPre at hx
      split at hx
      · exact .inl hx
      · rcases insF_mem hx with h1 | h1
        · exact .inl h1
        · rw [h1]; exact .inr ⟨hd, by simp, by simp⟩
    unfold wrF at hf
    split at hf
    · split at hf
      · exact .inl hf
      · split at hf
        · rename_i hle
          rcases List.mem_or_eq_of_mem_set hf with h1 | h1
          · exact hpre f h1
          · obtain ⟨hk, hnm, _⟩ := wrPre_at name fs h
            have hgd : (wrPre name fs).getD (lbF name fs) ([], [], []) = (wrPre name fs)[lbF name fs] := by
              rw [List.getD_eq_getElem?_getD, List.getElem?_eq_getElem hk]; rfl
            rw [hgd] at hle h1
            rw [h1]
            refine .inr ⟨by simp only; rw [hnm]; exact hd, by simp only; omega, by simp only [List.length_append]; omega⟩
        · exact .inl hf
    · exact .inl hf)
/-! ### what Save answers -/
def dotNew : List UInt8 := [46, 110, 101, 119]
def save0 (fs : List Fl) (f : Int) (name : List UInt8) : List Fl × Int × Int := if hasF (name ++ dotNew) fs then stepR (rmF (name ++ dotNew)) fs f else (fs, f, 0)
def save1 (fs : List Fl) (f : Int) (name s : List UInt8) : List Fl × Int × Int :=
  if (save0 fs f name).2.2 = 0 then stepR (wrF (name ++ dotNew) s) (save0 fs f name).1 (save0 fs f name).2.1 else save0 fs f name
def save2 (fs : List Fl) (f : Int) (name s : List UInt8) : List Fl × Int × Int :=
  if (save1 fs f name s).2.2 = 0 then stepR (syF (name ++ dotNew)) (save1 fs f name s).1 (save1 fs f name s).2.1 else save1 fs f name s
def save3 (fs : List Fl) (f : Int) (name s : List UInt8) : List Fl × Int × Int :=
  if (save2 fs f name s).2.2 = 0 then stepR (rnF (name ++ dotNew) name) (save2 fs f name s).1 (save2 fs f name s).2.1 else save2 fs f name s
/-- P6.8 -/
def saveR (fs : List Fl) (f : Int) (name s : List UInt8) : List Fl × Int × Int :=
  if goodFs fs then (if namedB name && namedB (name ++ dotNew) then save3 fs f name s else (fs, f, 2)) else (fs, f, 3)
end Go.Proofs.YtoamnifnfkgbiaaGreatDoor

namespace Go.Proofs.YtoamnifnfkgbiaaGreatDoor
open Go.RowKit
set_option linter.unusedVariables false
theorem goodB_start : goodB [] 0 = true := by decide
theorem goodB_rest (b : List UInt8) (h : b.length < 1152921504606846976) : goodB (restOf b) (b.length : Int) = true := by
  rw [goodB_iff, restOf_len]
  omega

set_option maxRecDepth 100000 in
set_option maxHeartbeats 1000000 in
theorem sum_any (b : List UInt8) (w : World) (hT : TabK w) (hb : b.length ≤ 576460752303423488) :
    Calls Tryz.prog 77 #[.string (bs b)] w fun e w' => e = .returned (.string (bs (sha b))) ∧ Gr w w' := by
  have HG := sec (goodB_rest b (by omega))
  have HS : Sec (sha b = endOf (overS startS b) (restOf b) b.length) := sec rfl
  have HZ := sec (show (0 : Int) + (b.length : Int) < 1152921504606846976 by omega)
  have HA : Sec (([] : List UInt8) ++ b = b) := sec rfl
  have HN : Sec ((0 : Int) + (b.length : Int) = (b.length : Int)) := sec (by omega)
  obtain ⟨S, hS⟩ : ∃ S, S = overS startS b := ⟨_, rfl⟩
  obtain ⟨R, hR⟩ : ∃ R, R = restOf b := ⟨_, rfl⟩
  rw [← hS, ← hR] at HS
  rw [← hR] at HG
  have HSS := sec hS
  have HRR := sec hR
  clear hS hR
  go_enter Tryz.func77, Tryz.ntmps77
  go_wp2_with (first
    | (refine wpList_store_blk rfl 153 (.tmp 3) (.tmp 11) rfl (g := w2.heap.size) rfl rfl (Blk.new w2 _ _) A.state rfl (stCells_one _ _ _) ?_; intro w3 h3 hg3; have gg3 : Gr w w3 := Gr.only (g2.alloc _) hg3 g2.size; clear hg3)
    | (refine wpList_load_blk rfl 153 (.tmp 3) rfl (g := w2.heap.size) rfl h3 A.state ?_)
    | (go_at_call 118; refine (begin_any _).mono ?_; rintro e w1 ⟨rfl, g1⟩)
    | (go_at_call 117; refine (add_ok startS [] 0 b _ (hT.gr g1) goodB_start hb HZ.out).mono ?_; rw [HA.out, HN.out, ← HSS.out, ← HRR.out]; rintro e w2 ⟨rfl, g2'⟩; have g2 := g1.trans g2'; clear g2' g1)
    | (go_at_call 119; refine (end_ok S R b.length _ (hT.gr gg3) HG.out).mono ?_; rw [← HS.out]; rintro e w4 ⟨rfl, g4⟩))
  go_ret
  exact ⟨rfl, gg3.trans g4⟩
end Go.Proofs.YtoamnifnfkgbiaaGreatDoor

namespace Go.Proofs.YtoamnifnfkgbiaaGreatDoor.Abc
set_option maxRecDepth 100000
def msg : List UInt8 := [97, 98, 99, 128, 0, 0, 0, 0, 0, 0, 0, 0, 0, 0, 0, 0, 0, 0, 0, 0, 0, 0, 0, 0, 0, 0, 0, 0, 0, 0, 0, 0, 0, 0, 0, 0, 0, 0, 0, 0, 0, 0, 0, 0, 0, 0, 0, 0, 0, 0, 0, 0, 0, 0, 0, 0, 0, 0, 0, 0, 0, 0, 0, 24]
theorem w0 : wSched msg 0 = 1633837952 := (wSched_lo (by decide)).trans (by kernel_rfl)
theorem w1 : wSched msg 1 = 0 := (wSched_lo (by decide)).trans (by kernel_rfl)
theorem w2 : wSched msg 2 = 0 := (wSched_lo (by decide)).trans (by kernel_rfl)
theorem w3 : wSched msg 3 = 0 := (wSched_lo (by decide)).trans (by kernel_rfl)
theorem w4 : wSched msg 4 = 0 := (wSched_lo (by decide)).trans (by kernel_rfl)
theorem w5 : wSched msg 5 = 0 := (wSched_lo (by decide)).trans (by kernel_rfl)
theorem w6 : wSched msg 6 = 0 := (wSched_lo (by decide)).trans (by kernel_rfl)
theorem w7 : wSched msg 7 = 0 := (wSched_lo (by decide)).trans (by kernel_rfl)
theorem w8 : wSched msg 8 = 0 := (wSched_lo (by decide)).trans (by kernel_rfl)
theorem w9 : wSched msg 9 = 0 := (wSched_lo (by decide)).trans (by kernel_rfl)
theorem w10 : wSched msg 10 = 0 := (wSched_lo (by decide)).trans (by kernel_rfl)
theorem w11 : wSched msg 11 = 0 := (wSched_lo (by decide)).trans (by kernel_rfl)
theorem w12 : wSched msg 12 = 0 := (wSched_lo (by decide)).trans (by kernel_rfl)
theorem w13 : wSched msg 13 = 0 := (wSched_lo (by decide)).trans (by kernel_rfl)
theorem w14 : wSched msg 14 = 0 := (wSched_lo (by decide)).trans (by kernel_rfl)
theorem w15 : wSched msg 15 = 24 := (wSched_lo (by decide)).trans (by kernel_rfl)
theorem w16 : wSched msg 16 = 1633837952 := (wSched_hi (by decide)).trans (by rw [show 16 - 16 = 0 from rfl, show 16 - 15 = 1 from rfl, show 16 - 7 = 9 from rfl, show 16 - 2 = 14 from rfl, w0, w1, w9, w14]; kernel_rfl)
theorem w17 : wSched msg 17 = 983040 := (wSched_hi (by decide)).trans (by rw [show 17 - 16 = 1 from rfl, show 17 - 15 = 2 from rfl, show 17 - 7 = 10 from rfl, show 17 - 2 = 15 from rfl, w1, w2, w10, w15]; kernel_rfl)
theorem w18 : wSched msg 18 = 2108187653 := (wSched_hi (by decide)).trans (by rw [show 18 - 16 = 2 from rfl, show 18 - 15 = 3 from rfl, show 18 - 7 = 11 from rfl, show 18 - 2 = 16 from rfl, w2, w3, w11, w16]; kernel_rfl)
theorem w19 : wSched msg 19 = 1610613702 := (wSched_hi (by decide)).trans (by rw [show 19 - 16 = 3 from rfl, show 19 - 15 = 4 from rfl, show 19 - 7 = 12 from rfl, show 19 - 2 = 17 from rfl, w3, w4, w12, w17]; kernel_rfl)
theorem w20 : wSched msg 20 = 1050508152 := (wSched_hi (by decide)).trans (by rw [show 20 - 16 = 4 from rfl, show 20 - 15 = 5 from rfl, show 20 - 7 = 13 from rfl, show 20 - 2 = 18 from rfl, w4, w5, w13, w18]; kernel_rfl)
theorem w21 : wSched msg 21 = 25426944 := (wSched_hi (by decide)).trans (by rw [show 21 - 16 = 5 from rfl, show 21 - 15 = 6 from rfl, show 21 - 7 = 14 from rfl, show 21 - 2 = 19 from rfl, w5, w6, w14, w19]; kernel_rfl)
theorem w22 : wSched msg 22 = 316456923 := (wSched_hi (by decide)).trans (by rw [show 22 - 16 = 6 from rfl, show 22 - 15 = 7 from rfl, show 22 - 7 = 15 from rfl, show 22 - 2 = 20 from rfl, w6, w7, w15, w20]; kernel_rfl)
theorem w23 : wSched msg 23 = 3806512014 := (wSched_hi (by decide)).trans (by rw [show 23 - 16 = 7 from rfl, show 23 - 15 = 8 from rfl, show 23 - 7 = 16 from rfl, show 23 - 2 = 21 from rfl, w7, w8, w16, w21]; kernel_rfl)
theorem w24 : wSched msg 24 = 3357629466 := (wSched_hi (by decide)).trans (by rw [show 24 - 16 = 8 from rfl, show 24 - 15 = 9 from rfl, show 24 - 7 = 17 from rfl, show 24 - 2 = 22 from rfl, w8, w9, w17, w22]; kernel_rfl)
theorem w25 : wSched msg 25 = 3073800610 := (wSched_hi (by decide)).trans (by rw [show 25 - 16 = 9 from rfl, show 25 - 15 = 10 from rfl, show 25 - 7 = 18 from rfl, show 25 - 2 = 23 from rfl, w9, w10, w18, w23]; kernel_rfl)
theorem w26 : wSched msg 26 = 3854317833 := (wSched_hi (by decide)).trans (by rw [show 26 - 16 = 10 from rfl, show 26 - 15 = 11 from rfl, show 26 - 7 = 19 from rfl, show 26 - 2 = 24 from rfl, w10, w11, w19, w24]; kernel_rfl)
theorem w27 : wSched msg 27 = 845560923 := (wSched_hi (by decide)).trans (by rw [show 27 - 16 = 11 from rfl, show 27 - 15 = 12 from rfl, show 27 - 7 = 20 from rfl, show 27 - 2 = 25 from rfl, w11, w12, w20, w25]; kernel_rfl)
theorem w28 : wSched msg 28 = 2636160359 := (wSched_hi (by decide)).trans (by rw [show 28 - 16 = 12 from rfl, show 28 - 15 = 13 from rfl, show 28 - 7 = 21 from rfl, show 28 - 2 = 26 from rfl, w12, w13, w21, w26]; kernel_rfl)
theorem w29 : wSched msg 29 = 3968280267 := (wSched_hi (by decide)).trans (by rw [show 29 - 16 = 13 from rfl, show 29 - 15 = 14 from rfl, show 29 - 7 = 22 from rfl, show 29 - 2 = 27 from rfl, w13, w14, w22, w27]; kernel_rfl)
theorem w30 : wSched msg 30 = 1881225380 := (wSched_hi (by decide)).trans (by rw [show 30 - 16 = 14 from rfl, show 30 - 15 = 15 from rfl, show 30 - 7 = 23 from rfl, show 30 - 2 = 28 from rfl, w14, w15, w23, w28]; kernel_rfl)
theorem w31 : wSched msg 31 = 3552024379 := (wSched_hi (by decide)).trans (by rw [show 31 - 16 = 15 from rfl, show 31 - 15 = 16 from rfl, show 31 - 7 = 24 from rfl, show 31 - 2 = 29 from rfl, w15, w16, w24, w29]; kernel_rfl)
theorem w32 : wSched msg 32 = 2482346367 := (wSched_hi (by decide)).trans (by rw [show 32 - 16 = 16 from rfl, show 32 - 15 = 17 from rfl, show 32 - 7 = 25 from rfl, show 32 - 2 = 30 from rfl, w16, w17, w25, w30]; kernel_rfl)
theorem w33 : wSched msg 33 = 996719219 := (wSched_hi (by decide)).trans (by rw [show 33 - 16 = 17 from rfl, show 33 - 15 = 18 from rfl, show 33 - 7 = 26 from rfl, show 33 - 2 = 31 from rfl, w17, w18, w26, w31]; kernel_rfl)
theorem w34 : wSched msg 34 = 2952069057 := (wSched_hi (by decide)).trans (by rw [show 34 - 16 = 18 from rfl, show 34 - 15 = 19 from rfl, show 34 - 7 = 27 from rfl, show 34 - 2 = 32 from rfl, w18, w19, w27, w32]; kernel_rfl)
theorem w35 : wSched msg 35 = 4043988066 := (wSched_hi (by decide)).trans (by rw [show 35 - 16 = 19 from rfl, show 35 - 15 = 20 from rfl, show 35 - 7 = 28 from rfl, show 35 - 2 = 33 from rfl, w19, w20, w28, w33]; kernel_rfl)
theorem w36 : wSched msg 36 = 176896406 := (wSched_hi (by decide)).trans (by rw [show 36 - 16 = 20 from rfl, show 36 - 15 = 21 from rfl, show 36 - 7 = 29 from rfl, show 36 - 2 = 34 from rfl, w20, w21, w29, w34]; kernel_rfl)
theorem w37 : wSched msg 37 = 1924104970 := (wSched_hi (by decide)).trans (by rw [show 37 - 16 = 21 from rfl, show 37 - 15 = 22 from rfl, show 37 - 7 = 30 from rfl, show 37 - 2 = 35 from rfl, w21, w22, w30, w35]; kernel_rfl)
theorem w38 : wSched msg 38 = 2483675966 := (wSched_hi (by decide)).trans (by rw [show 38 - 16 = 22 from rfl, show 38 - 15 = 23 from rfl, show 38 - 7 = 31 from rfl, show 38 - 2 = 36 from rfl, w22, w23, w31, w36]; kernel_rfl)
theorem w39 : wSched msg 39 = 610538786 := (wSched_hi (by decide)).trans (by rw [show 39 - 16 = 23 from rfl, show 39 - 15 = 24 from rfl, show 39 - 7 = 32 from rfl, show 39 - 2 = 37 from rfl, w23, w24, w32, w37]; kernel_rfl)
theorem w40 : wSched msg 40 = 2672279444 := (wSched_hi (by decide)).trans (by rw [show 40 - 16 = 24 from rfl, show 40 - 15 = 25 from rfl, show 40 - 7 = 33 from rfl, show 40 - 2 = 38 from rfl, w24, w25, w33, w38]; kernel_rfl)
theorem w41 : wSched msg 41 = 4037431130 := (wSched_hi (by decide)).trans (by rw [show 41 - 16 = 25 from rfl, show 41 - 15 = 26 from rfl, show 41 - 7 = 34 from rfl, show 41 - 2 = 39 from rfl, w25, w26, w34, w39]; kernel_rfl)
theorem w42 : wSched msg 42 = 1042573945 := (wSched_hi (by decide)).trans (by rw [show 42 - 16 = 26 from rfl, show 42 - 15 = 27 from rfl, show 42 - 7 = 35 from rfl, show 42 - 2 = 40 from rfl, w26, w27, w35, w40]; kernel_rfl)
theorem w43 : wSched msg 43 = 657669027 := (wSched_hi (by decide)).trans (by rw [show 43 - 16 = 27 from rfl, show 43 - 15 = 28 from rfl, show 43 - 7 = 36 from rfl, show 43 - 2 = 41 from rfl, w27, w28, w36, w41]; kernel_rfl)
theorem w44 : wSched msg 44 = 206005234 := (wSched_hi (by decide)).trans (by rw [show 44 - 16 = 28 from rfl, show 44 - 15 = 29 from rfl, show 44 - 7 = 37 from rfl, show 44 - 2 = 42 from rfl, w28, w29, w37, w42]; kernel_rfl)
theorem w45 : wSched msg 45 = 2215296807 := (wSched_hi (by decide)).trans (by rw [show 45 - 16 = 29 from rfl, show 45 - 15 = 30 from rfl, show 45 - 7 = 38 from rfl, show 45 - 2 = 43 from rfl, w29, w30, w38, w43]; kernel_rfl)
theorem w46 : wSched msg 46 = 2049510749 := (wSched_hi (by decide)).trans (by rw [show 46 - 16 = 30 from rfl, show 46 - 15 = 31 from rfl, show 46 - 7 = 39 from rfl, show 46 - 2 = 44 from rfl, w30, w31, w39, w44]; kernel_rfl)
theorem w47 : wSched msg 47 = 106709978 := (wSched_hi (by decide)).trans (by rw [show 47 - 16 = 31 from rfl, show 47 - 15 = 32 from rfl, show 47 - 7 = 40 from rfl, show 47 - 2 = 45 from rfl, w31, w32, w40, w45]; kernel_rfl)
theorem w48 : wSched msg 48 = 4215179723 := (wSched_hi (by decide)).trans (by rw [show 48 - 16 = 32 from rfl, show 48 - 15 = 33 from rfl, show 48 - 7 = 41 from rfl, show 48 - 2 = 46 from rfl, w32, w33, w41, w46]; kernel_rfl)
theorem w49 : wSched msg 49 = 3430291419 := (wSched_hi (by decide)).trans (by rw [show 49 - 16 = 33 from rfl, show 49 - 15 = 34 from rfl, show 49 - 7 = 42 from rfl, show 49 - 2 = 47 from rfl, w33, w34, w42, w47]; kernel_rfl)
theorem w50 : wSched msg 50 = 3118885940 := (wSched_hi (by decide)).trans (by rw [show 50 - 16 = 34 from rfl, show 50 - 15 = 35 from rfl, show 50 - 7 = 43 from rfl, show 50 - 2 = 48 from rfl, w34, w35, w43, w48]; kernel_rfl)
theorem w51 : wSched msg 51 = 2845390439 := (wSched_hi (by decide)).trans (by rw [show 51 - 16 = 35 from rfl, show 51 - 15 = 36 from rfl, show 51 - 7 = 44 from rfl, show 51 - 2 = 49 from rfl, w35, w36, w44, w49]; kernel_rfl)
theorem w52 : wSched msg 52 = 2226839261 := (wSched_hi (by decide)).trans (by rw [show 52 - 16 = 36 from rfl, show 52 - 15 = 37 from rfl, show 52 - 7 = 45 from rfl, show 52 - 2 = 50 from rfl, w36, w37, w45, w50]; kernel_rfl)
theorem w53 : wSched msg 53 = 3256115900 := (wSched_hi (by decide)).trans (by rw [show 53 - 16 = 37 from rfl, show 53 - 15 = 38 from rfl, show 53 - 7 = 46 from rfl, show 53 - 2 = 51 from rfl, w37, w38, w46, w51]; kernel_rfl)
theorem w54 : wSched msg 54 = 344409900 := (wSched_hi (by decide)).trans (by rw [show 54 - 16 = 38 from rfl, show 54 - 15 = 39 from rfl, show 54 - 7 = 47 from rfl, show 54 - 2 = 52 from rfl, w38, w39, w47, w52]; kernel_rfl)
theorem w55 : wSched msg 55 = 2987358873 := (wSched_hi (by decide)).trans (by rw [show 55 - 16 = 39 from rfl, show 55 - 15 = 40 from rfl, show 55 - 7 = 48 from rfl, show 55 - 2 = 53 from rfl, w39, w40, w48, w53]; kernel_rfl)
theorem w56 : wSched msg 56 = 4015503821 := (wSched_hi (by decide)).trans (by rw [show 56 - 16 = 40 from rfl, show 56 - 15 = 41 from rfl, show 56 - 7 = 49 from rfl, show 56 - 2 = 54 from rfl, w40, w41, w49, w54]; kernel_rfl)
theorem w57 : wSched msg 57 = 3957764664 := (wSched_hi (by decide)).trans (by rw [show 57 - 16 = 41 from rfl, show 57 - 15 = 42 from rfl, show 57 - 7 = 50 from rfl, show 57 - 2 = 55 from rfl, w41, w42, w50, w55]; kernel_rfl)
theorem w58 : wSched msg 58 = 2682456414 := (wSched_hi (by decide)).trans (by rw [show 58 - 16 = 42 from rfl, show 58 - 15 = 43 from rfl, show 58 - 7 = 51 from rfl, show 58 - 2 = 56 from rfl, w42, w43, w51, w56]; kernel_rfl)
theorem w59 : wSched msg 59 = 2025622859 := (wSched_hi (by decide)).trans (by rw [show 59 - 16 = 43 from rfl, show 59 - 15 = 44 from rfl, show 59 - 7 = 52 from rfl, show 59 - 2 = 57 from rfl, w43, w44, w52, w57]; kernel_rfl)
theorem w60 : wSched msg 60 = 2755645205 := (wSched_hi (by decide)).trans (by rw [show 60 - 16 = 44 from rfl, show 60 - 15 = 45 from rfl, show 60 - 7 = 53 from rfl, show 60 - 2 = 58 from rfl, w44, w45, w53, w58]; kernel_rfl)
theorem w61 : wSched msg 61 = 1720397816 := (wSched_hi (by decide)).trans (by rw [show 61 - 16 = 45 from rfl, show 61 - 15 = 46 from rfl, show 61 - 7 = 54 from rfl, show 61 - 2 = 59 from rfl, w45, w46, w54, w59]; kernel_rfl)
theorem w62 : wSched msg 62 = 4004225740 := (wSched_hi (by decide)).trans (by rw [show 62 - 16 = 46 from rfl, show 62 - 15 = 47 from rfl, show 62 - 7 = 55 from rfl, show 62 - 2 = 60 from rfl, w46, w47, w55, w60]; kernel_rfl)
theorem w63 : wSched msg 63 = 313650667 := (wSched_hi (by decide)).trans (by rw [show 63 - 16 = 47 from rfl, show 63 - 15 = 48 from rfl, show 63 - 7 = 56 from rfl, show 63 - 2 = 61 from rfl, w47, w48, w56, w61]; kernel_rfl)
theorem r0 : rounds msg startS 0 = ⟨1779033703, 3144134277, 1013904242, 2773480762, 1359893119, 2600822924, 528734635, 1541459225⟩ := by kernel_rfl
theorem r1 : rounds msg startS 1 = ⟨1567288269, 1779033703, 3144134277, 1013904242, 4197074466, 1359893119, 2600822924, 528734635⟩ := (show rounds msg startS 1 = round (kAt 0) (wSched msg 0) (rounds msg startS 0) from rfl).trans (by rw [w0, r0]; kernel_rfl)
theorem r2 : rounds msg startS 2 = ⟨1516951981, 1567288269, 1779033703, 3144134277, 2026797449, 4197074466, 1359893119, 2600822924⟩ := (show rounds msg startS 2 = round (kAt 1) (wSched msg 1) (rounds msg startS 1) from rfl).trans (by rw [w1, r1]; kernel_rfl)
theorem r3 : rounds msg startS 3 = ⟨3368241063, 1516951981, 1567288269, 1779033703, 4180228587, 2026797449, 4197074466, 1359893119⟩ := (show rounds msg startS 3 = round (kAt 2) (wSched msg 2) (rounds msg startS 2) from rfl).trans (by rw [w2, r2]; kernel_rfl)
theorem r4 : rounds msg startS 4 = ⟨3578852966, 3368241063, 1516951981, 1567288269, 618661968, 4180228587, 2026797449, 4197074466⟩ := (show rounds msg startS 4 = round (kAt 3) (wSched msg 3) (rounds msg startS 3) from rfl).trans (by rw [w3, r3]; kernel_rfl)
theorem r5 : rounds msg startS 5 = ⟨71342698, 3578852966, 3368241063, 1516951981, 1135452741, 618661968, 4180228587, 2026797449⟩ := (show rounds msg startS 5 = round (kAt 4) (wSched msg 4) (rounds msg startS 4) from rfl).trans (by rw [w4, r4]; kernel_rfl)
theorem r6 : rounds msg startS 6 = ⟨725748213, 71342698, 3578852966, 3368241063, 1900175533, 1135452741, 618661968, 4180228587⟩ := (show rounds msg startS 6 = round (kAt 5) (wSched msg 5) (rounds msg startS 5) from rfl).trans (by rw [w5, r5]; kernel_rfl)
theorem r7 : rounds msg startS 7 = ⟨3842179968, 725748213, 71342698, 3578852966, 2603066369, 1900175533, 1135452741, 618661968⟩ := (show rounds msg startS 7 = round (kAt 6) (wSched msg 6) (rounds msg startS 6) from rfl).trans (by rw [w6, r6]; kernel_rfl)
theorem r8 : rounds msg startS 8 = ⟨2241887071, 3842179968, 725748213, 71342698, 207977081, 2603066369, 1900175533, 1135452741⟩ := (show rounds msg startS 8 = round (kAt 7) (wSched msg 7) (rounds msg startS 7) from rfl).trans (by rw [w7, r7]; kernel_rfl)
theorem r9 : rounds msg startS 9 = ⟨2382687417, 2241887071, 3842179968, 725748213, 852110732, 207977081, 2603066369, 1900175533⟩ := (show rounds msg startS 9 = round (kAt 8) (wSched msg 8) (rounds msg startS 8) from rfl).trans (by rw [w8, r8]; kernel_rfl)
theorem r10 : rounds msg startS 10 = ⟨2357671019, 2382687417, 2241887071, 3842179968, 482944406, 852110732, 207977081, 2603066369⟩ := (show rounds msg startS 10 = round (kAt 9) (wSched msg 9) (rounds msg startS 9) from rfl).trans (by rw [w9, r9]; kernel_rfl)
theorem r11 : rounds msg startS 11 = ⟨1201185780, 2357671019, 2382687417, 2241887071, 1131095016, 482944406, 852110732, 207977081⟩ := (show rounds msg startS 11 = round (kAt 10) (wSched msg 10) (rounds msg startS 10) from rfl).trans (by rw [w10, r10]; kernel_rfl)
theorem r12 : rounds msg startS 12 = ⟨4146054569, 1201185780, 2357671019, 2382687417, 2171590377, 1131095016, 482944406, 852110732⟩ := (show rounds msg startS 12 = round (kAt 11) (wSched msg 11) (rounds msg startS 11) from rfl).trans (by rw [w11, r11]; kernel_rfl)
theorem r13 : rounds msg startS 13 = ⟨2274437520, 4146054569, 1201185780, 2357671019, 509051416, 2171590377, 1131095016, 482944406⟩ := (show rounds msg startS 13 = round (kAt 12) (wSched msg 12) (rounds msg startS 12) from rfl).trans (by rw [w12, r12]; kernel_rfl)
theorem r14 : rounds msg startS 14 = ⟨3643992854, 2274437520, 4146054569, 1201185780, 1952073950, 509051416, 2171590377, 1131095016⟩ := (show rounds msg startS 14 = round (kAt 13) (wSched msg 13) (rounds msg startS 13) from rfl).trans (by rw [w13, r13]; kernel_rfl)
theorem r15 : rounds msg startS 15 = ⟨3227803614, 3643992854, 2274437520, 4146054569, 194179596, 1952073950, 509051416, 2171590377⟩ := (show rounds msg startS 15 = round (kAt 14) (wSched msg 14) (rounds msg startS 14) from rfl).trans (by rw [w14, r14]; kernel_rfl)
theorem r16 : rounds msg startS 16 = ⟨2969183118, 3227803614, 3643992854, 2274437520, 123276749, 194179596, 1952073950, 509051416⟩ := (show rounds msg startS 16 = round (kAt 15) (wSched msg 15) (rounds msg startS 15) from rfl).trans (by rw [w15, r15]; kernel_rfl)
theorem r17 : rounds msg startS 17 = ⟨567974555, 2969183118, 3227803614, 3643992854, 2150900380, 123276749, 194179596, 1952073950⟩ := (show rounds msg startS 17 = round (kAt 16) (wSched msg 16) (rounds msg startS 16) from rfl).trans (by rw [w16, r16]; kernel_rfl)
theorem r18 : rounds msg startS 18 = ⟨3271285201, 567974555, 2969183118, 3227803614, 2221859924, 2150900380, 123276749, 194179596⟩ := (show rounds msg startS 18 = round (kAt 17) (wSched msg 17) (rounds msg startS 17) from rfl).trans (by rw [w17, r17]; kernel_rfl)
theorem r19 : rounds msg startS 19 = ⟨4269243327, 3271285201, 567974555, 2969183118, 3431569761, 2221859924, 2150900380, 123276749⟩ := (show rounds msg startS 19 = round (kAt 18) (wSched msg 18) (rounds msg startS 18) from rfl).trans (by rw [w18, r18]; kernel_rfl)
theorem r20 : rounds msg startS 20 = ⟨3790736435, 4269243327, 3271285201, 567974555, 2959311225, 3431569761, 2221859924, 2150900380⟩ := (show rounds msg startS 20 = round (kAt 19) (wSched msg 19) (rounds msg startS 19) from rfl).trans (by rw [w19, r19]; kernel_rfl)
theorem r21 : rounds msg startS 21 = ⟨2647034723, 3790736435, 4269243327, 3271285201, 2329577776, 2959311225, 3431569761, 2221859924⟩ := (show rounds msg startS 21 = round (kAt 20) (wSched msg 20) (rounds msg startS 20) from rfl).trans (by rw [w20, r20]; kernel_rfl)
theorem r22 : rounds msg startS 22 = ⟨3261099373, 2647034723, 3790736435, 4269243327, 3777329520, 2329577776, 2959311225, 3431569761⟩ := (show rounds msg startS 22 = round (kAt 21) (wSched msg 21) (rounds msg startS 21) from rfl).trans (by rw [w21, r21]; kernel_rfl)
theorem r23 : rounds msg startS 23 = ⟨2812502591, 3261099373, 2647034723, 3790736435, 1240797514, 3777329520, 2329577776, 2959311225⟩ := (show rounds msg startS 23 = round (kAt 22) (wSched msg 22) (rounds msg startS 22) from rfl).trans (by rw [w22, r22]; kernel_rfl)
theorem r24 : rounds msg startS 24 = ⟨3319086477, 2812502591, 3261099373, 2647034723, 2856829767, 1240797514, 3777329520, 2329577776⟩ := (show rounds msg startS 24 = round (kAt 23) (wSched msg 23) (rounds msg startS 23) from rfl).trans (by rw [w23, r23]; kernel_rfl)
theorem r25 : rounds msg startS 25 = ⟨472655928, 3319086477, 2812502591, 3261099373, 673443729, 2856829767, 1240797514, 3777329520⟩ := (show rounds msg startS 25 = round (kAt 24) (wSched msg 24) (rounds msg startS 24) from rfl).trans (by rw [w24, r24]; kernel_rfl)
theorem r26 : rounds msg startS 26 = ⟨3454534525, 472655928, 3319086477, 2812502591, 339230094, 673443729, 2856829767, 1240797514⟩ := (show rounds msg startS 26 = round (kAt 25) (wSched msg 25) (rounds msg startS 25) from rfl).trans (by rw [w25, r25]; kernel_rfl)
theorem r27 : rounds msg startS 27 = ⟨3056518332, 3454534525, 472655928, 3319086477, 3343672598, 339230094, 673443729, 2856829767⟩ := (show rounds msg startS 27 = round (kAt 26) (wSched msg 26) (rounds msg startS 26) from rfl).trans (by rw [w26, r26]; kernel_rfl)
theorem r28 : rounds msg startS 28 = ⟨2010346792, 3056518332, 3454534525, 472655928, 3992961016, 3343672598, 339230094, 673443729⟩ := (show rounds msg startS 28 = round (kAt 27) (wSched msg 27) (rounds msg startS 27) from rfl).trans (by rw [w27, r27]; kernel_rfl)
theorem r29 : rounds msg startS 29 = ⟨909411017, 2010346792, 3056518332, 3454534525, 1628611511, 3992961016, 3343672598, 339230094⟩ := (show rounds msg startS 29 = round (kAt 28) (wSched msg 28) (rounds msg startS 28) from rfl).trans (by rw [w28, r28]; kernel_rfl)
theorem r30 : rounds msg startS 30 = ⟨2684750640, 909411017, 2010346792, 3056518332, 2917635127, 1628611511, 3992961016, 3343672598⟩ := (show rounds msg startS 30 = round (kAt 29) (wSched msg 29) (rounds msg startS 29) from rfl).trans (by rw [w29, r29]; kernel_rfl)
theorem r31 : rounds msg startS 31 = ⟨3935906338, 2684750640, 909411017, 2010346792, 17410874, 2917635127, 1628611511, 3992961016⟩ := (show rounds msg startS 31 = round (kAt 30) (wSched msg 30) (rounds msg startS 30) from rfl).trans (by rw [w30, r30]; kernel_rfl)
theorem r32 : rounds msg startS 32 = ⟨1941126133, 3935906338, 2684750640, 909411017, 3126399250, 17410874, 2917635127, 1628611511⟩ := (show rounds msg startS 32 = round (kAt 31) (wSched msg 31) (rounds msg startS 31) from rfl).trans (by rw [w31, r31]; kernel_rfl)
theorem r33 : rounds msg startS 33 = ⟨2564891911, 1941126133, 3935906338, 2684750640, 2631529974, 3126399250, 17410874, 2917635127⟩ := (show rounds msg startS 33 = round (kAt 32) (wSched msg 32) (rounds msg startS 32) from rfl).trans (by rw [w32, r32]; kernel_rfl)
theorem r34 : rounds msg startS 34 = ⟨4267724277, 2564891911, 1941126133, 3935906338, 1495571923, 2631529974, 3126399250, 17410874⟩ := (show rounds msg startS 34 = round (kAt 33) (wSched msg 33) (rounds msg startS 33) from rfl).trans (by rw [w33, r33]; kernel_rfl)
theorem r35 : rounds msg startS 35 = ⟨2846323596, 4267724277, 2564891911, 1941126133, 140458035, 1495571923, 2631529974, 3126399250⟩ := (show rounds msg startS 35 = round (kAt 34) (wSched msg 34) (rounds msg startS 34) from rfl).trans (by rw [w34, r34]; kernel_rfl)
theorem r36 : rounds msg startS 36 = ⟨1705037796, 2846323596, 4267724277, 2564891911, 4105175766, 140458035, 1495571923, 2631529974⟩ := (show rounds msg startS 36 = round (kAt 35) (wSched msg 35) (rounds msg startS 35) from rfl).trans (by rw [w35, r35]; kernel_rfl)
theorem r37 : rounds msg startS 37 = ⟨1101421745, 1705037796, 2846323596, 4267724277, 124953195, 4105175766, 140458035, 1495571923⟩ := (show rounds msg startS 37 = round (kAt 36) (wSched msg 36) (rounds msg startS 36) from rfl).trans (by rw [w36, r36]; kernel_rfl)
theorem r38 : rounds msg startS 38 = ⟨887035396, 1101421745, 1705037796, 2846323596, 2768741693, 124953195, 4105175766, 140458035⟩ := (show rounds msg startS 38 = round (kAt 37) (wSched msg 37) (rounds msg startS 37) from rfl).trans (by rw [w37, r37]; kernel_rfl)
theorem r39 : rounds msg startS 39 = ⟨1841658506, 887035396, 1101421745, 1705037796, 4034403272, 2768741693, 124953195, 4105175766⟩ := (show rounds msg startS 39 = round (kAt 38) (wSched msg 38) (rounds msg startS 38) from rfl).trans (by rw [w38, r38]; kernel_rfl)
theorem r40 : rounds msg startS 40 = ⟨2045405306, 1841658506, 887035396, 1101421745, 519815328, 4034403272, 2768741693, 124953195⟩ := (show rounds msg startS 40 = round (kAt 39) (wSched msg 39) (rounds msg startS 39) from rfl).trans (by rw [w39, r39]; kernel_rfl)
theorem r41 : rounds msg startS 41 = ⟨3597076326, 2045405306, 1841658506, 887035396, 641019235, 519815328, 4034403272, 2768741693⟩ := (show rounds msg startS 41 = round (kAt 40) (wSched msg 40) (rounds msg startS 40) from rfl).trans (by rw [w40, r40]; kernel_rfl)
theorem r42 : rounds msg startS 42 = ⟨3745932591, 3597076326, 2045405306, 1841658506, 2206934801, 641019235, 519815328, 4034403272⟩ := (show rounds msg startS 42 = round (kAt 41) (wSched msg 41) (rounds msg startS 41) from rfl).trans (by rw [w41, r41]; kernel_rfl)
theorem r43 : rounds msg startS 43 = ⟨397020670, 3745932591, 3597076326, 2045405306, 3737995029, 2206934801, 641019235, 519815328⟩ := (show rounds msg startS 43 = round (kAt 42) (wSched msg 42) (rounds msg startS 42) from rfl).trans (by rw [w42, r42]; kernel_rfl)
theorem r44 : rounds msg startS 44 = ⟨2638983059, 397020670, 3745932591, 3597076326, 4255271982, 3737995029, 2206934801, 641019235⟩ := (show rounds msg startS 44 = round (kAt 43) (wSched msg 43) (rounds msg startS 43) from rfl).trans (by rw [w43, r43]; kernel_rfl)
theorem r45 : rounds msg startS 45 = ⟨643991573, 2638983059, 397020670, 3745932591, 2819559920, 4255271982, 3737995029, 2206934801⟩ := (show rounds msg startS 45 = round (kAt 44) (wSched msg 44) (rounds msg startS 44) from rfl).trans (by rw [w44, r44]; kernel_rfl)
theorem r46 : rounds msg startS 46 = ⟨1923828625, 643991573, 2638983059, 397020670, 3077922209, 2819559920, 4255271982, 3737995029⟩ := (show rounds msg startS 46 = round (kAt 45) (wSched msg 45) (rounds msg startS 45) from rfl).trans (by rw [w45, r45]; kernel_rfl)
theorem r47 : rounds msg startS 47 = ⟨2706117808, 1923828625, 643991573, 2638983059, 3581645993, 3077922209, 2819559920, 4255271982⟩ := (show rounds msg startS 47 = round (kAt 46) (wSched msg 46) (rounds msg startS 46) from rfl).trans (by rw [w46, r46]; kernel_rfl)
theorem r48 : rounds msg startS 48 = ⟨1098003085, 2706117808, 1923828625, 643991573, 4274981830, 3581645993, 3077922209, 2819559920⟩ := (show rounds msg startS 48 = round (kAt 47) (wSched msg 47) (rounds msg startS 47) from rfl).trans (by rw [w47, r47]; kernel_rfl)
theorem r49 : rounds msg startS 49 = ⟨91585771, 1098003085, 2706117808, 1923828625, 3178315832, 4274981830, 3581645993, 3077922209⟩ := (show rounds msg startS 49 = round (kAt 48) (wSched msg 48) (rounds msg startS 48) from rfl).trans (by rw [w48, r48]; kernel_rfl)
theorem r50 : rounds msg startS 50 = ⟨4045142696, 91585771, 1098003085, 2706117808, 1851537676, 3178315832, 4274981830, 3581645993⟩ := (show rounds msg startS 50 = round (kAt 49) (wSched msg 49) (rounds msg startS 49) from rfl).trans (by rw [w49, r49]; kernel_rfl)
theorem r51 : rounds msg startS 51 = ⟨2047150241, 4045142696, 91585771, 1098003085, 1391578359, 1851537676, 3178315832, 4274981830⟩ := (show rounds msg startS 51 = round (kAt 50) (wSched msg 50) (rounds msg startS 50) from rfl).trans (by rw [w50, r50]; kernel_rfl)
theorem r52 : rounds msg startS 52 = ⟨2288941602, 2047150241, 4045142696, 91585771, 1227037726, 1391578359, 1851537676, 3178315832⟩ := (show rounds msg startS 52 = round (kAt 51) (wSched msg 51) (rounds msg startS 51) from rfl).trans (by rw [w51, r51]; kernel_rfl)
theorem r53 : rounds msg startS 53 = ⟨270520975, 2288941602, 2047150241, 4045142696, 1386118400, 1227037726, 1391578359, 1851537676⟩ := (show rounds msg startS 53 = round (kAt 52) (wSched msg 52) (rounds msg startS 52) from rfl).trans (by rw [w52, r52]; kernel_rfl)
theorem r54 : rounds msg startS 54 = ⟨4117770203, 270520975, 2288941602, 2047150241, 2672265155, 1386118400, 1227037726, 1391578359⟩ := (show rounds msg startS 54 = round (kAt 53) (wSched msg 53) (rounds msg startS 53) from rfl).trans (by rw [w53, r53]; kernel_rfl)
theorem r55 : rounds msg startS 55 = ⟨1053056219, 4117770203, 270520975, 2288941602, 3842906959, 2672265155, 1386118400, 1227037726⟩ := (show rounds msg startS 55 = round (kAt 54) (wSched msg 54) (rounds msg startS 54) from rfl).trans (by rw [w54, r54]; kernel_rfl)
theorem r56 : rounds msg startS 56 = ⟨952932627, 1053056219, 4117770203, 270520975, 1422599787, 3842906959, 2672265155, 1386118400⟩ := (show rounds msg startS 56 = round (kAt 55) (wSched msg 55) (rounds msg startS 55) from rfl).trans (by rw [w55, r55]; kernel_rfl)
theorem r57 : rounds msg startS 57 = ⟨4241590395, 952932627, 1053056219, 4117770203, 2606665836, 1422599787, 3842906959, 2672265155⟩ := (show rounds msg startS 57 = round (kAt 56) (wSched msg 56) (rounds msg startS 56) from rfl).trans (by rw [w56, r56]; kernel_rfl)
theorem r58 : rounds msg startS 58 = ⟨3227702383, 4241590395, 952932627, 1053056219, 2118385806, 2606665836, 1422599787, 3842906959⟩ := (show rounds msg startS 58 = round (kAt 57) (wSched msg 57) (rounds msg startS 57) from rfl).trans (by rw [w57, r57]; kernel_rfl)
theorem r59 : rounds msg startS 59 = ⟨4290184306, 3227702383, 4241590395, 952932627, 1837350854, 2118385806, 2606665836, 1422599787⟩ := (show rounds msg startS 59 = round (kAt 58) (wSched msg 58) (rounds msg startS 58) from rfl).trans (by rw [w58, r58]; kernel_rfl)
theorem r60 : rounds msg startS 60 = ⟨3064893439, 4290184306, 3227702383, 4241590395, 2988158269, 1837350854, 2118385806, 2606665836⟩ := (show rounds msg startS 60 = round (kAt 59) (wSched msg 59) (rounds msg startS 59) from rfl).trans (by rw [w59, r59]; kernel_rfl)
theorem r61 : rounds msg startS 61 = ⟨3093179625, 3064893439, 4290184306, 3227702383, 2518632596, 2988158269, 1837350854, 2118385806⟩ := (show rounds msg startS 61 = round (kAt 60) (wSched msg 60) (rounds msg startS 60) from rfl).trans (by rw [w60, r60]; kernel_rfl)
theorem r62 : rounds msg startS 62 = ⟨80891244, 3093179625, 3064893439, 4290184306, 2492278198, 2518632596, 2988158269, 1837350854⟩ := (show rounds msg startS 62 = round (kAt 61) (wSched msg 61) (rounds msg startS 61) from rfl).trans (by rw [w61, r61]; kernel_rfl)
theorem r63 : rounds msg startS 63 = ⟨3550093669, 80891244, 3093179625, 3064893439, 4212265488, 2492278198, 2518632596, 2988158269⟩ := (show rounds msg startS 63 = round (kAt 62) (wSched msg 62) (rounds msg startS 62) from rfl).trans (by rw [w62, r62]; kernel_rfl)
theorem r64 : rounds msg startS 64 = ⟨1349398616, 3550093669, 80891244, 3093179625, 1593118500, 4212265488, 2492278198, 2518632596⟩ := (show rounds msg startS 64 = round (kAt 63) (wSched msg 63) (rounds msg startS 63) from rfl).trans (by rw [w63, r63]; kernel_rfl)
theorem block : blockS startS msg = ⟨3128432319, 2399260650, 1094795486, 1571693091, 2953011619, 2518121116, 3021012833, 4060091821⟩ := by unfold blockS; rw [r64]; kernel_rfl
theorem pad : padTo [97, 98, 99] 3 = msg := by kernel_rfl
theorem over : overS startS msg = ⟨3128432319, 2399260650, 1094795486, 1571693091, 2953011619, 2518121116, 3021012833, 4060091821⟩ := by rw [overS_hi (by decide), show msg.take 64 = msg from rfl, show msg.drop 64 = [] from rfl, overS_lo (by decide), block]
theorem hex : hexOf (sha [97, 98, 99]) = [98, 97, 55, 56, 49, 54, 98, 102, 56, 102, 48, 49, 99, 102, 101, 97, 52, 49, 52, 49, 52, 48, 100, 101, 53, 100, 97, 101, 50, 50, 50, 51, 98, 48, 48, 51, 54, 49, 97, 51, 57, 54, 49, 55, 55, 97, 57, 99, 98, 52, 49, 48, 102, 102, 54, 49, 102, 50, 48, 48, 49, 53, 97, 100] := by
  unfold sha endOf
  rw [restOf_lo (b := [97, 98, 99]) (by decide), show ([97, 98, 99] : List UInt8).length = 3 from rfl, pad, overS_lo (b := [97, 98, 99]) (by decide), over]
  kernel_rfl
end Go.Proofs.YtoamnifnfkgbiaaGreatDoor.Abc

namespace Go.Proofs.YtoamnifnfkgbiaaGreatDoor
open Go.RowKit
set_option linter.unusedVariables false
set_option maxRecDepth 100000 in
set_option maxHeartbeats 4000000 in
theorem save_any (name s : List UInt8) (fs : List Fl) (A : Option Addr) (n cap : Nat) (f : Int) (w : World) (hx : FRow w A n fs) (hnc : n ≤ cap) (hA : A = none → n = 0 ∧ cap = 0) (hz : Sz fs)
    (hf : -9223372036854775808 ≤ f ∧ f ≤ 9223372036854775807) (hl1 : name.length ≤ 1048576) (hl2 : s.length ≤ 1099511627776) :
    Calls Tryz.prog 104 #[diskV A n cap f, .string (bs name), .string (bs s)] w (StepPost (saveR fs f name s) A n cap fs w) := by
  have hln := hx.len
  have hz1 := hz.1
  have hS0 : SaveSt w w.heap.size A n cap fs ((w.alloc (.cells #[.slice A n cap, .int .i64 f] 24)).alloc (.cells #[.slice none 0 0, .int .i64 0] 24)) A n cap f fs :=
    ⟨((Gr.refl w).alloc _).alloc _, (Blk.new w _ _).alloc _, Blk.new1 w _ _ _, hA, hnc, .inl ⟨rfl, rfl, rfl, rfl⟩⟩
  obtain ⟨wa, hwa⟩ : ∃ x, x = (w.alloc (.cells #[.slice A n cap, .int .i64 f] 24)).alloc (.cells #[.slice none 0 0, .int .i64 0] 24) := ⟨_, rfl⟩
  obtain ⟨p, hp⟩ : ∃ p, p = w.heap.size := ⟨_, rfl⟩
  rw [← hwa, ← hp] at hS0
  have HG := sec (dgood_any fs A n cap f wa (by omega) (hS0.row hx) hz.2)
  obtain ⟨dst, hdst⟩ : ∃ d, d = name ++ dotNew := ⟨_, rfl⟩
  have hdl : dst.length ≤ 1099511627776 := by rw [hdst, List.length_append]; simp only [dotNew, List.length_cons, List.length_nil]; omega
  have hbd : bs (name ++ [46, 110, 101, 119]) = bs dst := by rw [hdst]; rfl
  have HN1 := sec (fun w => named_any name w (by omega))
  have HN2 := sec (fun w => named_any dst w (by omega))
  have HP := sec hp
  have HX := sec hx
  have HZ := sec hz
  have HFU := sec hf
  have HL1 := sec (show name.length ≤ 1099511627776 by omega)
  have HL2 := sec hl2
  have HLD := sec hdl
  have HDST := sec hdst
  have S0 := sec hS0
  have hpp : p + 1 ≠ p := by omega
  have hl4 : ¬ 9223372036854775807 < name.length + 4 := by omega
  obtain ⟨x1, x2, x3, x4, x5, x6, x7, x8⟩ := hS0.facts
  unfold diskV at HG
  unfold diskV
  clear hx hA hz hz1 hf hl1 hl2 hdl hdst hnc hS0 hln
  cases hgf : goodFs fs with
  | false =>
    have HR : Sec (saveR fs f name s = (fs, f, 3)) := sec (by unfold saveR; rw [hgf]; rfl)
    rw [hgf] at HG
    clear hgf
    go_enter Tryz.func104, Tryz.ntmps104
    go_wp2_with (first | (rw [← hwa, ← hp]; clear hwa hp; go_wp2_with fail) | (go_at_call 75; refine Calls.mono HG.out ?_; rintro e w1 ⟨rfl, g1⟩; have S1 := sec (S0.out.gr g1); obtain ⟨x1, x2, x3, x4, x5, x6, x7, x8⟩ := S1.out.facts))
    obtain ⟨hb9, hg9, hn9, ha9⟩ := S1.out.done HP.out
    refine bodyPost_ret (results_blk_tmp rfl _ rfl hb9 aggDisk) rfl ?_
    rw [HR.out]
    exact ⟨A, n, cap, rfl, hg9, hn9, ha9⟩
  | true =>
    rw [hgf] at HG
    cases hnb1 : namedB name with
    | false =>
      have HR : Sec (saveR fs f name s = (fs, f, 2)) := sec (by unfold saveR; rw [hgf, hnb1]; rfl)
      rw [hnb1] at HN1
      clear hgf hnb1
      go_enter Tryz.func104, Tryz.ntmps104
      go_wp2_with (first | (rw [← hwa, ← hp]; clear hwa hp; go_wp2_with fail) | (go_at_call 75; refine Calls.mono HG.out ?_; rintro e w1 ⟨rfl, g1⟩; have S1 := sec (S0.out.gr g1); obtain ⟨x1, x2, x3, x4, x5, x6, x7, x8⟩ := S1.out.facts) | (go_at_call 116; (with_reducible refine Calls.mono (HN1.out _) ?_); rintro e w2 ⟨rfl, g2⟩; have S2 := sec (S1.out.gr g2); obtain ⟨x1, x2, x3, x4, x5, x6, x7, x8⟩ := S2.out.facts))
      obtain ⟨hb9, hg9, hn9, ha9⟩ := S2.out.done HP.out
      refine bodyPost_ret (results_blk_tmp rfl _ rfl hb9 aggDisk) rfl ?_
      rw [HR.out]
      exact ⟨A, n, cap, rfl, hg9, hn9, ha9⟩
    | true =>
      rw [hnb1] at HN1
      cases hnb2 : namedB dst with
      | false =>
        have HR : Sec (saveR fs f name s = (fs, f, 2)) := sec (by unfold saveR; rw [hgf, hnb1, ← HDST.out, hnb2]; rfl)
        rw [hnb2] at HN2
        clear hgf hnb1 hnb2
        go_enter Tryz.func104, Tryz.ntmps104
        go_wp2_with (first | (rw [← hwa, ← hp]; clear hwa hp; go_wp2_with fail) | (go_at_call 75; refine Calls.mono HG.out ?_; rintro e w1 ⟨rfl, g1⟩; have S1 := sec (S0.out.gr g1); obtain ⟨x1, x2, x3, x4, x5, x6, x7, x8⟩ := S1.out.facts) | (go_at_call 116; (with_reducible refine Calls.mono (HN1.out _) ?_); rintro e w2 ⟨rfl, g2⟩; have S2 := sec (S1.out.gr g2); obtain ⟨x1, x2, x3, x4, x5, x6, x7, x8⟩ := S2.out.facts) | (go_at_call 116; (with_reducible refine Calls.mono (HN2.out _) ?_); rintro e w3 ⟨rfl, g3⟩; have S3 := sec (S2.out.gr g3); obtain ⟨x1, x2, x3, x4, x5, x6, x7, x8⟩ := S3.out.facts))
        obtain ⟨hb9, hg9, hn9, ha9⟩ := S3.out.done HP.out
        refine bodyPost_ret (results_blk_tmp rfl _ rfl hb9 aggDisk) rfl ?_
        rw [HR.out]
        exact ⟨A, n, cap, rfl, hg9, hn9, ha9⟩
      | true =>
        rw [hnb2] at HN2
        have HV : Sec (saveR fs f name s = save3 fs f name s) := sec (by unfold saveR; rw [hgf, hnb1, ← HDST.out, hnb2]; rfl)
        have HSO := sec (goodFs_sorted hgf)
        clear hgf hnb1 hnb2
        cases hhf : hasF dst fs with
        | false =>
          have HHB := sec hhf
          have HAI : Sec (atI dst fs = -1) := sec (by unfold atI; rw [hhf]; rfl)
          have HHF : Sec (hasF dst fs = false) := sec hhf
          clear hhf
          have Z1 := HZ
          have U1 := HFU
          have HQ0 : Sec (save0 fs f name = (fs, f, 0)) := sec (by unfold save0; rw [← HDST.out, HHB.out]; rfl)
          obtain ⟨⟨gs1, u1, er1⟩, hr1⟩ : ∃ x, x = stepR (wrF dst s) fs f := ⟨_, rfl⟩
          have R1 := sec hr1
          have HQ1 : Sec (save1 fs f name s = (gs1, u1, er1)) := sec (by unfold save1; rw [HQ0.out, if_pos rfl, ← HDST.out, R1.out])
          have Z2 : Sec (Sz gs1) := sec (by have := stepR_sz (F := wrF dst s) (wrF_sz dst s HLD.out) f Z1.out; rwa [← hr1] at this)
          have U2 : Sec (-9223372036854775808 ≤ u1 ∧ u1 ≤ 9223372036854775807) := sec (by have := stepR_fuse (F := wrF dst s) (fs := fs) U1.out; rwa [← hr1] at this)
          have HO1 : Sec (∀ w A n cap, FRow w A n fs → n ≤ cap → (A = none → n = 0 ∧ cap = 0) → Calls Tryz.prog 160 #[diskV A n cap f, .string (bs dst), .string (bs s)] w (StepPost (gs1, u1, er1) A n cap fs w)) := sec (fun w A n cap h hc hA => by
            rw [R1.out]; exact write_any dst s fs A n cap f w (by have := h.len; have := Z1.out.1; omega) h hA Z1.out.2 U1.out HLD.out HL2.out)
          unfold StepPost diskV at HO1
          clear hr1
          by_cases he1 : er1 = 0
          · subst he1
            obtain ⟨⟨gs2, u2, er2⟩, hr2⟩ : ∃ x, x = stepR (syF dst) gs1 u1 := ⟨_, rfl⟩
            have R2 := sec hr2
            have HQ2 : Sec (save2 fs f name s = (gs2, u2, er2)) := sec (by unfold save2; rw [HQ1.out, if_pos rfl, ← HDST.out, R2.out])
            have Z3 : Sec (Sz gs2) := sec (by have := stepR_sz (F := syF dst) (syF_sz dst) u1 Z2.out; rwa [← hr2] at this)
            have U3 : Sec (-9223372036854775808 ≤ u2 ∧ u2 ≤ 9223372036854775807) := sec (by have := stepR_fuse (F := syF dst) (fs := gs1) U2.out; rwa [← hr2] at this)
            have HO2 : Sec (∀ w A n cap, FRow w A n gs1 → n ≤ cap → (A = none → n = 0 ∧ cap = 0) → Calls Tryz.prog 161 #[diskV A n cap u1, .string (bs dst)] w (StepPost (gs2, u2, er2) A n cap gs1 w)) := sec (fun w A n cap h hc hA => by
              rw [R2.out]; exact sync_any dst gs1 A n cap u1 w (by have := h.len; have := Z2.out.1; omega) h hA Z2.out.2 U2.out)
            unfold StepPost diskV at HO2
            clear hr2
            by_cases he2 : er2 = 0
            · subst he2
              obtain ⟨⟨gs3, u3, er3⟩, hr3⟩ : ∃ x, x = stepR (rnF dst name) gs2 u2 := ⟨_, rfl⟩
              have R3 := sec hr3
              have HQ3 : Sec (save3 fs f name s = (gs3, u3, er3)) := sec (by unfold save3; rw [HQ2.out, if_pos rfl, ← HDST.out, R3.out])
              have Z4 : Sec (Sz gs3) := sec (by have := stepR_sz (F := rnF dst name) (rnF_sz dst name HL1.out) u2 Z3.out; rwa [← hr3] at this)
              have U4 : Sec (-9223372036854775808 ≤ u3 ∧ u3 ≤ 9223372036854775807) := sec (by have := stepR_fuse (F := rnF dst name) (fs := gs2) U3.out; rwa [← hr3] at this)
              have HO3 : Sec (∀ w A n cap, FRow w A n gs2 → n ≤ cap → (A = none → n = 0 ∧ cap = 0) → Calls Tryz.prog 162 #[diskV A n cap u2, .string (bs dst), .string (bs name)] w (StepPost (gs3, u3, er3) A n cap gs2 w)) := sec (fun w A n cap h hc hA => by
                rw [R3.out]; exact rename_any dst name gs2 A n cap u2 w (by have := h.len; have := Z3.out.1; omega) h hA Z3.out.2 U3.out HL1.out)
              unfold StepPost diskV at HO3
              clear hr3
              have HR : Sec (saveR fs f name s = (gs3, u3, er3)) := sec (by rw [HV.out]; rw [HQ3.out])
              go_enter Tryz.func104, Tryz.ntmps104
              go_wp2_with (first | (rw [← hwa, ← hp]; clear hwa hp; go_wp2_with fail) | (go_at_call 75; refine Calls.mono HG.out ?_; rintro e w1 ⟨rfl, g1⟩; have S1 := sec (S0.out.gr g1); obtain ⟨x1, x2, x3, x4, x5, x6, x7, x8⟩ := S1.out.facts) | (go_at_call 116; (with_reducible refine Calls.mono (HN1.out _) ?_); rintro e w2 ⟨rfl, g2⟩; have S2 := sec (S1.out.gr g2); obtain ⟨x1, x2, x3, x4, x5, x6, x7, x8⟩ := S2.out.facts) | (go_at_call 116; (with_reducible refine Calls.mono (HN2.out _) ?_); rintro e w3 ⟨rfl, g3⟩; have S3 := sec (S2.out.gr g3); obtain ⟨x1, x2, x3, x4, x5, x6, x7, x8⟩ := S3.out.facts) | (go_at_call 111; refine Calls.mono (find_any fs dst A n cap f w3 (by have := FRow.len HX.out; have := HZ.out.1; omega) (S3.out.row HX.out) HSO.out) ?_; rw [HHF.out]; rintro e w4 ⟨rfl, g4⟩; have S4 := sec (S3.out.gr g4); obtain ⟨x1, x2, x3, x4, x5, x6, x7, x8⟩ := S4.out.facts) | (go_at_call 160; (with_reducible refine Calls.mono (HO1.out _ _ _ _ (S4.out.row HX.out) S4.out.le S4.out.nil) ?_); rintro e w6 ⟨A6, n6, cap6, rfl, g6, hA1, hal1⟩; obtain ⟨x1, x2, x3, x4, x5, x6, x7, x8⟩ := (S4.out.gr g6).facts; have T1 := sec (S4.out.next (gs := gs1) (u := u1) HP.out g6 hA1 hal1)) | (go_at_call 161; (with_reducible refine Calls.mono (HO2.out _ _ _ _ (T1.out.row HX.out) T1.out.le T1.out.nil) ?_); rintro e w7 ⟨A7, n7, cap7, rfl, g7, hA2, hal2⟩; obtain ⟨x1, x2, x3, x4, x5, x6, x7, x8⟩ := (T1.out.gr g7).facts; have T2 := sec (T1.out.next (gs := gs2) (u := u2) HP.out g7 hA2 hal2)) | (go_at_call 162; (with_reducible refine Calls.mono (HO3.out _ _ _ _ (T2.out.row HX.out) T2.out.le T2.out.nil) ?_); rintro e w8 ⟨A8, n8, cap8, rfl, g8, hA3, hal3⟩; obtain ⟨x1, x2, x3, x4, x5, x6, x7, x8⟩ := (T2.out.gr g8).facts; have T3 := sec (T2.out.last (gs := gs3) (u := u3) HP.out g8 hA3 hal3)))
              obtain ⟨hb9, hg9, hn9, ha9⟩ := T3.out
              refine bodyPost_ret (results_blk_tmp rfl _ rfl hb9 aggDisk) rfl ?_
              rw [HR.out]
              exact ⟨A8, n8, cap8, rfl, hg9, hn9, ha9⟩
            · have HR : Sec (saveR fs f name s = (gs2, u2, er2)) := sec (by rw [HV.out]; unfold save3; rw [HQ2.out]; simp only [he2, if_false])
              go_enter Tryz.func104, Tryz.ntmps104
              go_wp2_with (first | (rw [← hwa, ← hp]; clear hwa hp; go_wp2_with fail) | (go_at_call 75; refine Calls.mono HG.out ?_; rintro e w1 ⟨rfl, g1⟩; have S1 := sec (S0.out.gr g1); obtain ⟨x1, x2, x3, x4, x5, x6, x7, x8⟩ := S1.out.facts) | (go_at_call 116; (with_reducible refine Calls.mono (HN1.out _) ?_); rintro e w2 ⟨rfl, g2⟩; have S2 := sec (S1.out.gr g2); obtain ⟨x1, x2, x3, x4, x5, x6, x7, x8⟩ := S2.out.facts) | (go_at_call 116; (with_reducible refine Calls.mono (HN2.out _) ?_); rintro e w3 ⟨rfl, g3⟩; have S3 := sec (S2.out.gr g3); obtain ⟨x1, x2, x3, x4, x5, x6, x7, x8⟩ := S3.out.facts) | (go_at_call 111; refine Calls.mono (find_any fs dst A n cap f w3 (by have := FRow.len HX.out; have := HZ.out.1; omega) (S3.out.row HX.out) HSO.out) ?_; rw [HHF.out]; rintro e w4 ⟨rfl, g4⟩; have S4 := sec (S3.out.gr g4); obtain ⟨x1, x2, x3, x4, x5, x6, x7, x8⟩ := S4.out.facts) | (go_at_call 160; (with_reducible refine Calls.mono (HO1.out _ _ _ _ (S4.out.row HX.out) S4.out.le S4.out.nil) ?_); rintro e w6 ⟨A6, n6, cap6, rfl, g6, hA1, hal1⟩; obtain ⟨x1, x2, x3, x4, x5, x6, x7, x8⟩ := (S4.out.gr g6).facts; have T1 := sec (S4.out.next (gs := gs1) (u := u1) HP.out g6 hA1 hal1)) | (go_at_call 161; (with_reducible refine Calls.mono (HO2.out _ _ _ _ (T1.out.row HX.out) T1.out.le T1.out.nil) ?_); rintro e w7 ⟨A7, n7, cap7, rfl, g7, hA2, hal2⟩; obtain ⟨x1, x2, x3, x4, x5, x6, x7, x8⟩ := (T1.out.gr g7).facts; have T2 := sec (T1.out.next (gs := gs2) (u := u2) HP.out g7 hA2 hal2)))
              obtain ⟨hb9, hg9, hn9, ha9⟩ := T2.out.done HP.out
              refine bodyPost_ret (results_blk_tmp rfl _ rfl hb9 aggDisk) rfl ?_
              rw [HR.out]
              exact ⟨A7, n7, cap7, rfl, hg9, hn9, ha9⟩
          · have HR : Sec (saveR fs f name s = (gs1, u1, er1)) := sec (by rw [HV.out]; unfold save3; unfold save2; rw [HQ1.out]; simp only [he1, if_false])
            go_enter Tryz.func104, Tryz.ntmps104
            go_wp2_with (first | (rw [← hwa, ← hp]; clear hwa hp; go_wp2_with fail) | (go_at_call 75; refine Calls.mono HG.out ?_; rintro e w1 ⟨rfl, g1⟩; have S1 := sec (S0.out.gr g1); obtain ⟨x1, x2, x3, x4, x5, x6, x7, x8⟩ := S1.out.facts) | (go_at_call 116; (with_reducible refine Calls.mono (HN1.out _) ?_); rintro e w2 ⟨rfl, g2⟩; have S2 := sec (S1.out.gr g2); obtain ⟨x1, x2, x3, x4, x5, x6, x7, x8⟩ := S2.out.facts) | (go_at_call 116; (with_reducible refine Calls.mono (HN2.out _) ?_); rintro e w3 ⟨rfl, g3⟩; have S3 := sec (S2.out.gr g3); obtain ⟨x1, x2, x3, x4, x5, x6, x7, x8⟩ := S3.out.facts) | (go_at_call 111; refine Calls.mono (find_any fs dst A n cap f w3 (by have := FRow.len HX.out; have := HZ.out.1; omega) (S3.out.row HX.out) HSO.out) ?_; rw [HHF.out]; rintro e w4 ⟨rfl, g4⟩; have S4 := sec (S3.out.gr g4); obtain ⟨x1, x2, x3, x4, x5, x6, x7, x8⟩ := S4.out.facts) | (go_at_call 160; (with_reducible refine Calls.mono (HO1.out _ _ _ _ (S4.out.row HX.out) S4.out.le S4.out.nil) ?_); rintro e w6 ⟨A6, n6, cap6, rfl, g6, hA1, hal1⟩; obtain ⟨x1, x2, x3, x4, x5, x6, x7, x8⟩ := (S4.out.gr g6).facts; have T1 := sec (S4.out.next (gs := gs1) (u := u1) HP.out g6 hA1 hal1)))
            obtain ⟨hb9, hg9, hn9, ha9⟩ := T1.out.done HP.out
            refine bodyPost_ret (results_blk_tmp rfl _ rfl hb9 aggDisk) rfl ?_
            rw [HR.out]
            exact ⟨A6, n6, cap6, rfl, hg9, hn9, ha9⟩
        | true =>
          have HHB := sec hhf
          have HHF : Sec (hasF dst fs = true) := sec hhf
          obtain ⟨k, hk⟩ : ∃ k, k = lbF dst fs := ⟨_, rfl⟩
          have HAI : Sec (atI dst fs = (k : Int)) := sec (by unfold atI; rw [hhf, hk]; rfl)
          clear hhf hk
          have Z0 := HZ
          have U0 := HFU
          obtain ⟨⟨gs0, u0, er0⟩, hr0⟩ : ∃ x, x = stepR (rmF dst) fs f := ⟨_, rfl⟩
          have R0 := sec hr0
          have HQ0 : Sec (save0 fs f name = (gs0, u0, er0)) := sec (by unfold save0; rw [← HDST.out, HHB.out, if_pos rfl, R0.out])
          have Z1 : Sec (Sz gs0) := sec (by have := stepR_sz (F := rmF dst) (rmF_sz dst) f Z0.out; rwa [← hr0] at this)
          have U1 : Sec (-9223372036854775808 ≤ u0 ∧ u0 ≤ 9223372036854775807) := sec (by have := stepR_fuse (F := rmF dst) (fs := fs) U0.out; rwa [← hr0] at this)
          have HO0 : Sec (∀ w A n cap, FRow w A n fs → n ≤ cap → (A = none → n = 0 ∧ cap = 0) → Calls Tryz.prog 68 #[diskV A n cap f, .string (bs dst)] w (StepPost (gs0, u0, er0) A n cap fs w)) := sec (fun w A n cap h hc hA => by
            rw [R0.out]; exact remove_any dst fs A n cap f w (by have := h.len; have := Z0.out.1; omega) h hA Z0.out.2 U0.out)
          unfold StepPost diskV at HO0
          clear hr0
          by_cases he0 : er0 = 0
          · subst he0
            obtain ⟨⟨gs1, u1, er1⟩, hr1⟩ : ∃ x, x = stepR (wrF dst s) gs0 u0 := ⟨_, rfl⟩
            have R1 := sec hr1
            have HQ1 : Sec (save1 fs f name s = (gs1, u1, er1)) := sec (by unfold save1; rw [HQ0.out, if_pos rfl, ← HDST.out, R1.out])
            have Z2 : Sec (Sz gs1) := sec (by have := stepR_sz (F := wrF dst s) (wrF_sz dst s HLD.out) u0 Z1.out; rwa [← hr1] at this)
            have U2 : Sec (-9223372036854775808 ≤ u1 ∧ u1 ≤ 9223372036854775807) := sec (by have := stepR_fuse (F := wrF dst s) (fs := gs0) U1.out; rwa [← hr1] at this)
            have HO1 : Sec (∀ w A n cap, FRow w A n gs0 → n ≤ cap → (A = none → n = 0 ∧ cap = 0) → Calls Tryz.prog 160 #[diskV A n cap u0, .string (bs dst), .string (bs s)] w (StepPost (gs1, u1, er1) A n cap gs0 w)) := sec (fun w A n cap h hc hA => by
              rw [R1.out]; exact write_any dst s gs0 A n cap u0 w (by have := h.len; have := Z1.out.1; omega) h hA Z1.out.2 U1.out HLD.out HL2.out)
            unfold StepPost diskV at HO1
            clear hr1
            by_cases he1 : er1 = 0
            · subst he1
              obtain ⟨⟨gs2, u2, er2⟩, hr2⟩ : ∃ x, x = stepR (syF dst) gs1 u1 := ⟨_, rfl⟩
              have R2 := sec hr2
              have HQ2 : Sec (save2 fs f name s = (gs2, u2, er2)) := sec (by unfold save2; rw [HQ1.out, if_pos rfl, ← HDST.out, R2.out])
              have Z3 : Sec (Sz gs2) := sec (by have := stepR_sz (F := syF dst) (syF_sz dst) u1 Z2.out; rwa [← hr2] at this)
              have U3 : Sec (-9223372036854775808 ≤ u2 ∧ u2 ≤ 9223372036854775807) := sec (by have := stepR_fuse (F := syF dst) (fs := gs1) U2.out; rwa [← hr2] at this)
              have HO2 : Sec (∀ w A n cap, FRow w A n gs1 → n ≤ cap → (A = none → n = 0 ∧ cap = 0) → Calls Tryz.prog 161 #[diskV A n cap u1, .string (bs dst)] w (StepPost (gs2, u2, er2) A n cap gs1 w)) := sec (fun w A n cap h hc hA => by
                rw [R2.out]; exact sync_any dst gs1 A n cap u1 w (by have := h.len; have := Z2.out.1; omega) h hA Z2.out.2 U2.out)
              unfold StepPost diskV at HO2
              clear hr2
              by_cases he2 : er2 = 0
              · subst he2
                obtain ⟨⟨gs3, u3, er3⟩, hr3⟩ : ∃ x, x = stepR (rnF dst name) gs2 u2 := ⟨_, rfl⟩
                have R3 := sec hr3
                have HQ3 : Sec (save3 fs f name s = (gs3, u3, er3)) := sec (by unfold save3; rw [HQ2.out, if_pos rfl, ← HDST.out, R3.out])
                have Z4 : Sec (Sz gs3) := sec (by have := stepR_sz (F := rnF dst name) (rnF_sz dst name HL1.out) u2 Z3.out; rwa [← hr3] at this)
                have U4 : Sec (-9223372036854775808 ≤ u3 ∧ u3 ≤ 9223372036854775807) := sec (by have := stepR_fuse (F := rnF dst name) (fs := gs2) U3.out; rwa [← hr3] at this)
                have HO3 : Sec (∀ w A n cap, FRow w A n gs2 → n ≤ cap → (A = none → n = 0 ∧ cap = 0) → Calls Tryz.prog 162 #[diskV A n cap u2, .string (bs dst), .string (bs name)] w (StepPost (gs3, u3, er3) A n cap gs2 w)) := sec (fun w A n cap h hc hA => by
                  rw [R3.out]; exact rename_any dst name gs2 A n cap u2 w (by have := h.len; have := Z3.out.1; omega) h hA Z3.out.2 U3.out HL1.out)
                unfold StepPost diskV at HO3
                clear hr3
                have HR : Sec (saveR fs f name s = (gs3, u3, er3)) := sec (by rw [HV.out]; rw [HQ3.out])
                go_enter Tryz.func104, Tryz.ntmps104
                go_wp2_with (first | (rw [← hwa, ← hp]; clear hwa hp; go_wp2_with fail) | (go_at_call 75; refine Calls.mono HG.out ?_; rintro e w1 ⟨rfl, g1⟩; have S1 := sec (S0.out.gr g1); obtain ⟨x1, x2, x3, x4, x5, x6, x7, x8⟩ := S1.out.facts) | (go_at_call 116; (with_reducible refine Calls.mono (HN1.out _) ?_); rintro e w2 ⟨rfl, g2⟩; have S2 := sec (S1.out.gr g2); obtain ⟨x1, x2, x3, x4, x5, x6, x7, x8⟩ := S2.out.facts) | (go_at_call 116; (with_reducible refine Calls.mono (HN2.out _) ?_); rintro e w3 ⟨rfl, g3⟩; have S3 := sec (S2.out.gr g3); obtain ⟨x1, x2, x3, x4, x5, x6, x7, x8⟩ := S3.out.facts) | (go_at_call 111; refine Calls.mono (find_any fs dst A n cap f w3 (by have := FRow.len HX.out; have := HZ.out.1; omega) (S3.out.row HX.out) HSO.out) ?_; rw [HHF.out]; rintro e w4 ⟨rfl, g4⟩; have S4 := sec (S3.out.gr g4); obtain ⟨x1, x2, x3, x4, x5, x6, x7, x8⟩ := S4.out.facts) | (go_at_call 68; (with_reducible refine Calls.mono (HO0.out _ _ _ _ (S4.out.row HX.out) S4.out.le S4.out.nil) ?_); rintro e w5 ⟨A5, n5, cap5, rfl, g5, hA0, hal0⟩; obtain ⟨x1, x2, x3, x4, x5, x6, x7, x8⟩ := (S4.out.gr g5).facts; have T0 := sec (S4.out.next (gs := gs0) (u := u0) HP.out g5 hA0 hal0)) | (go_at_call 160; (with_reducible refine Calls.mono (HO1.out _ _ _ _ (T0.out.row HX.out) T0.out.le T0.out.nil) ?_); rintro e w6 ⟨A6, n6, cap6, rfl, g6, hA1, hal1⟩; obtain ⟨x1, x2, x3, x4, x5, x6, x7, x8⟩ := (T0.out.gr g6).facts; have T1 := sec (T0.out.next (gs := gs1) (u := u1) HP.out g6 hA1 hal1)) | (go_at_call 161; (with_reducible refine Calls.mono (HO2.out _ _ _ _ (T1.out.row HX.out) T1.out.le T1.out.nil) ?_); rintro e w7 ⟨A7, n7, cap7, rfl, g7, hA2, hal2⟩; obtain ⟨x1, x2, x3, x4, x5, x6, x7, x8⟩ := (T1.out.gr g7).facts; have T2 := sec (T1.out.next (gs := gs2) (u := u2) HP.out g7 hA2 hal2)) | (go_at_call 162; (with_reducible refine Calls.mono (HO3.out _ _ _ _ (T2.out.row HX.out) T2.out.le T2.out.nil) ?_); rintro e w8 ⟨A8, n8, cap8, rfl, g8, hA3, hal3⟩; obtain ⟨x1, x2, x3, x4, x5, x6, x7, x8⟩ := (T2.out.gr g8).facts; have T3 := sec (T2.out.last (gs := gs3) (u := u3) HP.out g8 hA3 hal3)))
                obtain ⟨hb9, hg9, hn9, ha9⟩ := T3.out
                refine bodyPost_ret (results_blk_tmp rfl _ rfl hb9 aggDisk) rfl ?_
                rw [HR.out]
                exact ⟨A8, n8, cap8, rfl, hg9, hn9, ha9⟩
              · have HR : Sec (saveR fs f name s = (gs2, u2, er2)) := sec (by rw [HV.out]; unfold save3; rw [HQ2.out]; simp only [he2, if_false])
                go_enter Tryz.func104, Tryz.ntmps104
                go_wp2_with (first | (rw [← hwa, ← hp]; clear hwa hp; go_wp2_with fail) | (go_at_call 75; refine Calls.mono HG.out ?_; rintro e w1 ⟨rfl, g1⟩; have S1 := sec (S0.out.gr g1); obtain ⟨x1, x2, x3, x4, x5, x6, x7, x8⟩ := S1.out.facts) | (go_at_call 116; (with_reducible refine Calls.mono (HN1.out _) ?_); rintro e w2 ⟨rfl, g2⟩; have S2 := sec (S1.out.gr g2); obtain ⟨x1, x2, x3, x4, x5, x6, x7, x8⟩ := S2.out.facts) | (go_at_call 116; (with_reducible refine Calls.mono (HN2.out _) ?_); rintro e w3 ⟨rfl, g3⟩; have S3 := sec (S2.out.gr g3); obtain ⟨x1, x2, x3, x4, x5, x6, x7, x8⟩ := S3.out.facts) | (go_at_call 111; refine Calls.mono (find_any fs dst A n cap f w3 (by have := FRow.len HX.out; have := HZ.out.1; omega) (S3.out.row HX.out) HSO.out) ?_; rw [HHF.out]; rintro e w4 ⟨rfl, g4⟩; have S4 := sec (S3.out.gr g4); obtain ⟨x1, x2, x3, x4, x5, x6, x7, x8⟩ := S4.out.facts) | (go_at_call 68; (with_reducible refine Calls.mono (HO0.out _ _ _ _ (S4.out.row HX.out) S4.out.le S4.out.nil) ?_); rintro e w5 ⟨A5, n5, cap5, rfl, g5, hA0, hal0⟩; obtain ⟨x1, x2, x3, x4, x5, x6, x7, x8⟩ := (S4.out.gr g5).facts; have T0 := sec (S4.out.next (gs := gs0) (u := u0) HP.out g5 hA0 hal0)) | (go_at_call 160; (with_reducible refine Calls.mono (HO1.out _ _ _ _ (T0.out.row HX.out) T0.out.le T0.out.nil) ?_); rintro e w6 ⟨A6, n6, cap6, rfl, g6, hA1, hal1⟩; obtain ⟨x1, x2, x3, x4, x5, x6, x7, x8⟩ := (T0.out.gr g6).facts; have T1 := sec (T0.out.next (gs := gs1) (u := u1) HP.out g6 hA1 hal1)) | (go_at_call 161; (with_reducible refine Calls.mono (HO2.out _ _ _ _ (T1.out.row HX.out) T1.out.le T1.out.nil) ?_); rintro e w7 ⟨A7, n7, cap7, rfl, g7, hA2, hal2⟩; obtain ⟨x1, x2, x3, x4, x5, x6, x7, x8⟩ := (T1.out.gr g7).facts; have T2 := sec (T1.out.next (gs := gs2) (u := u2) HP.out g7 hA2 hal2)))
                obtain ⟨hb9, hg9, hn9, ha9⟩ := T2.out.done HP.out
                refine bodyPost_ret (results_blk_tmp rfl _ rfl hb9 aggDisk) rfl ?_
                rw [HR.out]
                exact ⟨A7, n7, cap7, rfl, hg9, hn9, ha9⟩
            · have HR : Sec (saveR fs f name s = (gs1, u1, er1)) := sec (by rw [HV.out]; unfold save3; unfold save2; rw [HQ1.out]; simp only [he1, if_false])
              go_enter Tryz.func104, Tryz.ntmps104
              go_wp2_with (first | (rw [← hwa, ← hp]; clear hwa hp; go_wp2_with fail) | (go_at_call 75; refine Calls.mono HG.out ?_; rintro e w1 ⟨rfl, g1⟩; have S1 := sec (S0.out.gr g1); obtain ⟨x1, x2, x3, x4, x5, x6, x7, x8⟩ := S1.out.facts) | (go_at_call 116; (with_reducible refine Calls.mono (HN1.out _) ?_); rintro e w2 ⟨rfl, g2⟩; have S2 := sec (S1.out.gr g2); obtain ⟨x1, x2, x3, x4, x5, x6, x7, x8⟩ := S2.out.facts) | (go_at_call 116; (with_reducible refine Calls.mono (HN2.out _) ?_); rintro e w3 ⟨rfl, g3⟩; have S3 := sec (S2.out.gr g3); obtain ⟨x1, x2, x3, x4, x5, x6, x7, x8⟩ := S3.out.facts) | (go_at_call 111; refine Calls.mono (find_any fs dst A n cap f w3 (by have := FRow.len HX.out; have := HZ.out.1; omega) (S3.out.row HX.out) HSO.out) ?_; rw [HHF.out]; rintro e w4 ⟨rfl, g4⟩; have S4 := sec (S3.out.gr g4); obtain ⟨x1, x2, x3, x4, x5, x6, x7, x8⟩ := S4.out.facts) | (go_at_call 68; (with_reducible refine Calls.mono (HO0.out _ _ _ _ (S4.out.row HX.out) S4.out.le S4.out.nil) ?_); rintro e w5 ⟨A5, n5, cap5, rfl, g5, hA0, hal0⟩; obtain ⟨x1, x2, x3, x4, x5, x6, x7, x8⟩ := (S4.out.gr g5).facts; have T0 := sec (S4.out.next (gs := gs0) (u := u0) HP.out g5 hA0 hal0)) | (go_at_call 160; (with_reducible refine Calls.mono (HO1.out _ _ _ _ (T0.out.row HX.out) T0.out.le T0.out.nil) ?_); rintro e w6 ⟨A6, n6, cap6, rfl, g6, hA1, hal1⟩; obtain ⟨x1, x2, x3, x4, x5, x6, x7, x8⟩ := (T0.out.gr g6).facts; have T1 := sec (T0.out.next (gs := gs1) (u := u1) HP.out g6 hA1 hal1)))
              obtain ⟨hb9, hg9, hn9, ha9⟩ := T1.out.done HP.out
              refine bodyPost_ret (results_blk_tmp rfl _ rfl hb9 aggDisk) rfl ?_
              rw [HR.out]
              exact ⟨A6, n6, cap6, rfl, hg9, hn9, ha9⟩
          · have HR : Sec (saveR fs f name s = (gs0, u0, er0)) := sec (by rw [HV.out]; unfold save3; unfold save2; unfold save1; rw [HQ0.out]; simp only [he0, if_false])
            go_enter Tryz.func104, Tryz.ntmps104
            go_wp2_with (first | (rw [← hwa, ← hp]; clear hwa hp; go_wp2_with fail) | (go_at_call 75; refine Calls.mono HG.out ?_; rintro e w1 ⟨rfl, g1⟩; have S1 := sec (S0.out.gr g1); obtain ⟨x1, x2, x3, x4, x5, x6, x7, x8⟩ := S1.out.facts) | (go_at_call 116; (with_reducible refine Calls.mono (HN1.out _) ?_); rintro e w2 ⟨rfl, g2⟩; have S2 := sec (S1.out.gr g2); obtain ⟨x1, x2, x3, x4, x5, x6, x7, x8⟩ := S2.out.facts) | (go_at_call 116; (with_reducible refine Calls.mono (HN2.out _) ?_); rintro e w3 ⟨rfl, g3⟩; have S3 := sec (S2.out.gr g3); obtain ⟨x1, x2, x3, x4, x5, x6, x7, x8⟩ := S3.out.facts) | (go_at_call 111; refine Calls.mono (find_any fs dst A n cap f w3 (by have := FRow.len HX.out; have := HZ.out.1; omega) (S3.out.row HX.out) HSO.out) ?_; rw [HHF.out]; rintro e w4 ⟨rfl, g4⟩; have S4 := sec (S3.out.gr g4); obtain ⟨x1, x2, x3, x4, x5, x6, x7, x8⟩ := S4.out.facts) | (go_at_call 68; (with_reducible refine Calls.mono (HO0.out _ _ _ _ (S4.out.row HX.out) S4.out.le S4.out.nil) ?_); rintro e w5 ⟨A5, n5, cap5, rfl, g5, hA0, hal0⟩; obtain ⟨x1, x2, x3, x4, x5, x6, x7, x8⟩ := (S4.out.gr g5).facts; have T0 := sec (S4.out.next (gs := gs0) (u := u0) HP.out g5 hA0 hal0)))
            obtain ⟨hb9, hg9, hn9, ha9⟩ := T0.out.done HP.out
            refine bodyPost_ret (results_blk_tmp rfl _ rfl hb9 aggDisk) rfl ?_
            rw [HR.out]
            exact ⟨A5, n5, cap5, rfl, hg9, hn9, ha9⟩
end Go.Proofs.YtoamnifnfkgbiaaGreatDoor

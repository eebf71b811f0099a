/-
  disk.Write's closure by its contract: the walk.
-/
import Derived.Test.YtmgpllakpgjicaaDoorDiskWr
namespace Go.Proofs.YtmgpllakpgjicaaDoor
open Go.RowKit
set_option linter.unusedVariables false
set_option maxRecDepth 100000 in
set_option maxHeartbeats 4000000 in
theorem write1_any (name s : List UInt8) (c1 c2 : Nat) (w0 : World) (h1 : w0.cell? ⟨c1, 0, none⟩ = some (.string (bs name))) (h2 : w0.cell? ⟨c2, 0, none⟩ = some (.string (bs s))) (hl1 : name.length ≤ 1099511627776) (hl2 : s.length ≤ 1099511627776) :
    Steps 116 #[.pointer (some ⟨c1, 0, none⟩), .pointer (some ⟨c2, 0, none⟩)] (wrF name s) w0 := by
  intro wb w q A n cap u fs g0 gc hd hgf
  show Calls Tryd.prog 116 #[.pointer (some ⟨q, 0, none⟩), .pointer (some ⟨c1, 0, none⟩), .pointer (some ⟨c2, 0, none⟩)] w _
  have hl := hd.len
  have hl400 : fs.length ≤ 400 := goodFs_len hgf
  have HE1 : Sec (∀ W, Gr w W → W.cell? ⟨c1, 0, none⟩ = some (.string (bs name))) := sec (fun W g => (((g0.trans gc).trans g).cells.1 c1 _ (World.block_lt_of_cell? w0 _ h1)).trans h1)
  have HE2 : Sec (∀ W, Gr wb W → W.cell? ⟨c2, 0, none⟩ = some (.string (bs s))) := sec (fun W g => ((g0.trans g).cells.1 c2 _ (World.block_lt_of_cell? w0 _ h2)).trans h2)
  have HN := sec (fun w => named_any name w (by omega))
  have HD := sec hd
  have HS := sec (goodFs_sorted hgf)
  have HGC := sec gc
  have HGF := sec hgf
  have e1 := HE1.out w (Gr.refl w)
  have e2 := HE2.out w gc
  clear h1 h2 g0 gc hd hgf
  cases hnb : namedB name with
  | false =>
    have HR : Sec (wrF name s fs = (fs, 2)) := sec (by unfold wrF; rw [hnb]; rfl)
    rw [HR.out]
    rw [hnb] at HN
    go_enter Tryd.func116, Tryd.ntmps116
    go_wp2_with (go_at_call 85; refine (HN.out _).mono ?_; rintro e w1 ⟨rfl, g1⟩)
    go_ret
    exact ⟨rfl, HGC.out.trans g1, fun h => by cases h⟩
  | true =>
    rw [hnb] at HN
    have HNB := sec hnb
    clear hnb
    obtain ⟨k, hk⟩ : ∃ k, k = lbF name fs := ⟨_, rfl⟩
    have HK := sec hk
    have hkn : k ≤ n := by rw [hk, ← hl]; exact lbF_le name fs
    clear hk
    obtain ⟨B, hB⟩ : ∃ B, B = hasF name fs := ⟨_, rfl⟩
    have HB := sec hB
    clear hB
    go_enter Tryd.func116, Tryd.ntmps116
    go_upto_region 3 with (go_at_call 85; refine (HN.out _).mono ?_; rintro e w1 ⟨rfl, g1⟩)
    have HD1 := sec (HD.out.gr g1)
    have d0 : w1.cell? ⟨q, 0, none⟩ = some (.slice A n cap) := HD1.out.blk.cell 0
    have d1 : w1.cell? ⟨q, 1, none⟩ = some (.int .i64 u) := HD1.out.blk.cell 1
    have e1y : w1.cell? ⟨c1, 0, none⟩ = some (.string (bs name)) := HE1.out _ g1
    go_cut [5, 6] from 8 to 67 (fun v5 v6 wx => v5 = .int .i64 (k : Int) ∧ v6 = .bool B ∧ Gr w1 wx)
    case first =>
      go_region_with (go_at_call 86; refine (find_any fs name A n cap u w1.drew (by omega) (FRow.gr (Row.own HD1.out.own) (Gr.refl _).drew) HS.out).mono ?_; rw [← HK.out, ← HB.out]; rintro e w2 ⟨rfl, g2⟩)
      all_goals (go_wp2_with fail; go_meet; exact ⟨rfl, rfl, Gr.trans (Gr.refl _).drew g2⟩)
    case rest =>
      obtain ⟨rfl, rfl, gx⟩ := hcut
      have HDx := sec (HD1.out.gr gx)
      have gcx : Gr wb wc := HGC.out.trans (g1.trans gx)
      have e1x : wc.cell? ⟨c1, 0, none⟩ = some (.string (bs name)) := HE1.out _ (g1.trans gx)
      have e2x : wc.cell? ⟨c2, 0, none⟩ = some (.string (bs s)) := HE2.out _ gcx
      have d0x : wc.cell? ⟨q, 0, none⟩ = some (.slice A n cap) := HDx.out.blk.cell 0
      have d1x : wc.cell? ⟨q, 1, none⟩ = some (.int .i64 u) := HDx.out.blk.cell 1
      have f0x : wc.frozen? ⟨q, 0, none⟩ = false := HDx.out.blk.frozen 0
      clear d0 d1 e1y
      by_cases hfull : B = false ∧ 400 ≤ n
      · have HR : Sec (wrF name s fs = (fs, 6)) := sec (by unfold wrF; rw [HNB.out, if_pos rfl, if_pos ⟨by rw [← HB.out]; exact hfull.1, by omega⟩])
        obtain ⟨hBf, h400⟩ := hfull
        subst hBf
        have h4 : (400 : Int) ≤ (n : Int) := by omega
        go_wp2_with fail
        go_ret
        rw [HR.out]
        exact ⟨rfl, gcx, fun h => by cases h⟩
      · have HNF := sec hfull
        clear hfull
        go_upto_if 20 with fail
        go_cut [] from 21 to 67 (fun wx => ∃ (A' : Option Addr) (n' cap' : Nat), Sec (DOwn wx wb.heap.size q A' n' cap' u (wrPre name fs)) ∧ Gr wb wx)
        case first =>
          cases B with
          | true =>
            go_wp2_with fail
            go_meet
            exact ⟨A, n, cap, by unfold wrPre; rw [← HB.out]; exact HDx, gcx⟩
          | false =>
            have h4 : ¬ (400 : Int) ≤ (n : Int) := by have := HNF.out; simp at this; omega
            have HI : Sec (∀ (A' : Option Addr) (cap' : Nat) (w3 : World) (o : Obj), w3.ownsRow wb.heap.size 89 3 (.slice A' (n + 1) cap') (n + 1) ((insF k (name, [], []) fs).flatMap fileC) → (wc.alloc o).drew.grownBy w3 (Value.ownBlock (.slice A n cap)) →
              w3.cell? ⟨q, 0, none⟩ = some (.slice A n cap) ∧ w3.frozen? ⟨q, 0, none⟩ = false ∧ (∃ (A1 : Option Addr) (n1 cap1 : Nat), Sec (DOwn (w3.setCell ⟨q, 0, none⟩ (.slice A' (n + 1) cap')) wb.heap.size q A1 n1 cap1 u (wrPre name fs)) ∧ Gr wb (w3.setCell ⟨q, 0, none⟩ (.slice A' (n + 1) cap')))) := sec (fun A' cap' w3 o ho hgr => by
                obtain ⟨x1, x2, x3⟩ := HDx.out.ins ho hgr
                refine ⟨x1.cell 0, x1.frozen 0, A', n + 1, cap', ?_, x3 wb rfl gcx⟩
                unfold wrPre; rw [← HB.out, ← HK.out]; exact sec x2)
            have HINS : Sec (Calls Tryd.prog 117 #[.slice A n cap, .int .i64 (k : Int), .slice (some ⟨wc.heap.size, 0, none⟩) 1 1] (wc.alloc (.cells #[.string (bs name), .string (bs []), .string (bs [])] 89)).drew fun e w' =>
              ∃ A' cap', e = .returned (.slice A' (n + 1) cap') ∧ w'.ownsRow wb.heap.size 89 3 (.slice A' (n + 1) cap') (n + 1) ((insF k (name, [], []) fs).flatMap fileC) ∧ (wc.alloc (.cells #[.string (bs name), .string (bs []), .string (bs [])] 89)).drew.grownBy w' (Value.ownBlock (.slice A n cap))) := sec (by
              refine insert_any A n cap k wc.heap.size 1 wb.heap.size fs (name, [], []) _ (own_gr HDx.out.own ((Gr.refl wc).alloc _).drew) hkn (by omega) ((Blk.new wc _ _).gr (Gr.refl _).drew) (fun h => ?_) ?_
              · have := (HDx.out.own.lt _ h).2; omega
              · have := gcx.size; have := (((Gr.refl wc).alloc (.cells #[.string (bs name), .string (bs []), .string (bs [])] 89)).drew).size; omega)
            have d0w : (wc.alloc (.cells #[.string (bs name), .string (bs []), .string (bs [])] 89)).cell? ⟨q, 0, none⟩ = some (.slice A n cap) := (HDx.out.blk.alloc _).cell 0
            go_upto_region 7 with fail
            go_region_with (go_at_call 117; refine HINS.out.mono ?_; rintro e w3 ⟨A', cap', rfl, ho, hgr⟩; obtain ⟨d0z, f0z, hend⟩ := HI.out A' cap' w3 _ ho hgr)
            all_goals (go_wp2_with fail; go_meet; exact hend)
        case rest =>
          obtain ⟨A2, n2, cap2, HDz, gz⟩ := hcut
          have HNF2 : Sec (¬ (hasF name fs = false ∧ 400 ≤ fs.length)) := sec (fun h => HNF.out ⟨by rw [HB.out]; exact h.1, by omega⟩)
          clear e1x e2x d0x d1x f0x gcx HDx gx g1 HD1 HNF hkn HD HN HE1
          have hX := wrPre_at name fs HGF.out
          rw [← HK.out] at hX
          obtain ⟨hkl, hnm, hsz⟩ := hX
          have hn2 := HDz.out.len
          have hk2 : (k : Int) < (n2 : Int) := by omega
          obtain ⟨b, rfl, hBb, hbq, z0, z1, z2, zf⟩ := HDz.out.at hkl
          have zf2 : wc.frozen? ⟨b, k * 3 + 2, none⟩ = false := zf 2 (by omega)
          have hget : (wrPre name fs)[k]? = some (wrPre name fs)[k] := List.getElem?_eq_getElem hkl
          have hgd : (wrPre name fs).getD (lbF name fs) ([], [], []) = (wrPre name fs)[k] := by
            rw [← HK.out, List.getD_eq_getElem?_getD, hget]; rfl
          obtain ⟨x, hxx⟩ : ∃ x, x = (wrPre name fs)[k] := ⟨_, rfl⟩
          rw [← hxx] at z0 z1 z2 hget hgd hsz
          clear hxx hnm hkl zf
          obtain ⟨nm, sf, tl⟩ := x
          simp only at z0 z1 z2 hsz
          have e2z : wc.cell? ⟨c2, 0, none⟩ = some (.string (bs s)) := HE2.out _ gz
          have d0z : wc.cell? ⟨q, 0, none⟩ = some (.slice (some ⟨b, 0, none⟩) n2 cap2) := HDz.out.blk.cell 0
          by_cases hlong : sf.length + tl.length + s.length ≤ 1048576
          · have HR : Sec (wrF name s fs = ((wrPre name fs).set k (nm, sf, tl ++ s), 0)) := sec (by
              unfold wrF; rw [HNB.out, if_pos rfl, if_neg HNF2.out, hgd, if_pos hlong, ← HK.out])
            have HDF : Sec (∀ m, DOwn ((wc.drewN m).setCell ⟨b, k * 3 + 2, none⟩ (.string (bs (tl ++ s)))) wb.heap.size q (some ⟨b, 0, none⟩) n2 cap2 u ((wrPre name fs).set k (nm, sf, tl ++ s))) := sec (fun m => (HDz.out.gr ((Gr.refl wc).drewN m)).tail k nm sf tl (tl ++ s) hget hbq)
            have HGF := sec (fun m => (gz.drewN m).setCell (p := ⟨b, k * 3 + 2, none⟩) hBb (.string (bs (tl ++ s))))
            clear hget hgd
            go_wp2_with fail
            go_quiet (fail)
            go_wp2_with fail
            go_region
            go_wp2_with fail
            go_ret
            rw [HR.out]
            exact ⟨rfl, HGF.out _, fun _ => ⟨_, _, _, HDF.out _⟩⟩
          · have HR : Sec (wrF name s fs = (fs, 1)) := sec (by
              unfold wrF; rw [HNB.out, if_pos rfl, if_neg HNF2.out, hgd, if_neg hlong])
            clear hget hgd
            go_wp2_with fail
            go_quiet (fail)
            go_wp2_with fail
            go_ret
            rw [HR.out]
            exact ⟨rfl, gz.drewN _, fun h => by cases h⟩
end Go.Proofs.YtmgpllakpgjicaaDoor

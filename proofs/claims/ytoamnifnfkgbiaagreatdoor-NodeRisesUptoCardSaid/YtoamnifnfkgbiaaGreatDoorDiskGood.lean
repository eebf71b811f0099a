/-
  disk.Good by its contract. (made by wip/bin/gen_dgood.py)
-/
import Derived.Test.YtoamnifnfkgbiaaGreatDoorDiskG
import Derived.Test.YtoamnifnfkgbiaaGreatDoorHeadStill
namespace Go.Proofs.YtoamnifnfkgbiaaGreatDoor
open Go.RowKit
set_option linter.unusedVariables false
set_option maxRecDepth 100000 in
set_option maxHeartbeats 8000000 in
theorem dgood_any (fs : List Fl) (A : Option Addr) (n cap : Nat) (f : Int) (w : World) (hn : n ≤ 1099511627776) (hx : FRow w A n fs) (hs : ∀ f ∈ fs, f.1.length ≤ 1099511627776 ∧ f.2.1.length ≤ 1099511627776 ∧ f.2.2.length ≤ 1099511627776) :
    Calls Tryz.prog 75 #[diskV A n cap f] w fun e w' => e = .returned (.bool (goodFs fs)) ∧ Gr w w' := by
  unfold diskV
  have hl := hx.len
  by_cases h400 : n ≤ 400
  · have HG0 : Sec (goodFs fs = goodFrom [] fs) := sec (by unfold goodFs; rw [decide_eq_true (show fs.length ≤ 400 by omega), Bool.true_and])
    rw [HG0.out]
    have q400 : ¬ (400 : Int) < (n : Int) := by omega
    go_enter Tryz.func75, Tryz.ntmps75
    go_wp2_with fail
    have hb1 := Blk.new w 24 #[.slice A n cap, .int .i64 f]
    have hg0 := (Gr.refl w).alloc (.cells #[.slice A n cap, .int .i64 f] 24)
    obtain ⟨wa, hwa⟩ : ∃ x, x = w.alloc (.cells #[.slice A n cap, .int .i64 f] 24) := ⟨_, rfl⟩
    rw [← hwa] at hb1 hg0
    rw [← hwa]
    have HX := sec (hx.gr hg0)
    have HB := sec hb1
    have HSZ := sec hs
    clear hwa hx hb1 hs
    go_loopw [12, 4, 3] (fun iv _ _ wr => ∃ (i : Nat) (last : List UInt8), iv = .int .i64 (i : Int) ∧ i ≤ n ∧ Sec (i = 0 ∧ last = [] ∨ ∃ j, i = j + 1 ∧ ∃ h : j < fs.length, last = fs[j].1) ∧ Sec (goodFrom [] fs = goodFrom last (fs.drop i)) ∧ Gr wa wr) (fun iv _ _ _ => n - (intOf iv).toNat)
    case atStart => exact ⟨0, [], rfl, by omega, sec (.inl ⟨rfl, rfl⟩), sec rfl, Gr.refl _⟩
    case round =>
      obtain ⟨i, last, rfl, hi, HL, HG, hg⟩ := hrel
      by_cases hlt : i < n
      · have hif : i < fs.length := by omega
        have hii : (i : Int) < (n : Int) := by omega
        have hsz := HSZ.out fs[i] (List.getElem_mem hif)
        have hgo := HG.out
        rw [List.drop_eq_getElem_cons hif, goodFrom_cons] at hgo
        obtain ⟨b, off, rfl, e0, e1, e2⟩ := (HX.out.gr hg).cell hif
        have HNX : Sec (∃ h : i < fs.length, fs[i].1 = fs[i].1) := sec ⟨hif, rfl⟩
        obtain ⟨x, hx⟩ : ∃ x, x = fs[i] := ⟨_, rfl⟩
        have HXI : Sec (i + 1 = 0 ∧ x.1 = [] ∨ ∃ j, i + 1 = j + 1 ∧ ∃ h : j < fs.length, x.1 = fs[j].1) := sec (.inr ⟨i, rfl, hif, by rw [hx]⟩)
        rw [← hx] at e0 e1 e2 hsz hgo
        clear hx HNX
        obtain ⟨nm, sf, tl⟩ := x
        simp only at e0 e1 e2 hsz hgo HXI
        have HGO := sec hgo
        have HN := sec (fun w => named_any nm w (by omega))
        obtain ⟨h1, h2, h3⟩ := hsz
        have HIF := sec hif
        clear hgo hif
        have hprev := HL.out
        rcases hprev with ⟨rfl, rfl⟩ | ⟨j, hj, hjl, hlast⟩
        · rw [show ((0 : Nat) : Int) = 0 from rfl] at hii
          rw [show ((0 : Nat) : Int) = 0 from rfl]
          simp only [Nat.zero_mul, Nat.add_zero] at e0 e1 e2
          cases hnb : namedB nm with
          | false =>
            have HF : Sec (goodFrom [] fs = false) := sec (by rw [HGO.out]; unfold fileOk; rw [hnb]; simp)
            rw [hnb] at HN
            clear hnb
            go_wp2_with fail
            have hFB := Blk.new wr 105 #[.string (bs nm), .string (bs sf), .string (bs tl)]
            have hBX := ((HB.out.gr hg).alloc (.cells #[.string (bs nm), .string (bs sf), .string (bs tl)] 105))
            have hgx := hg.alloc (.cells #[.string (bs nm), .string (bs sf), .string (bs tl)] 105)
            obtain ⟨wx, hwx⟩ : ∃ x, x = wr.alloc (.cells #[.string (bs nm), .string (bs sf), .string (bs tl)] 105) := ⟨_, rfl⟩
            obtain ⟨q, hq⟩ : ∃ q, q = wr.heap.size := ⟨_, rfl⟩
            rw [← hwx] at hFB hBX hgx
            rw [← hq] at hFB
            rw [← hwx, ← hq]
            have HFB := sec hFB
            have HBX := sec hBX
            clear hwx hq hFB hBX e0 e1 e2
            refine region_head_quiet 3 (by kernel_rfl) (by decide) (by kernel_rfl) (fun wd hwd => ?_)
            simp only [List.take_succ_cons, List.take_zero, List.drop_succ_cons, List.drop_zero]
            have gd : Gr wx wd := by rw [hwd]; exact (Gr.refl _).drew
            clear hwd
            have c0d : wd.cell? ⟨q, 0, none⟩ = some (.string (bs nm)) := (HFB.out.gr gd).cell 0
            go_wp2_with (go_at_call 116; refine (HN.out _).mono ?_; rintro e w1 ⟨rfl, g1⟩; have gg1 : Gr wx w1 := gd.trans g1)
            have c0y : w1.cell? ⟨q, 0, none⟩ = some (.string (bs nm)) := (HFB.out.gr gg1).cell 0
            have c1y : w1.cell? ⟨q, 1, none⟩ = some (.string (bs sf)) := (HFB.out.gr gg1).cell 1
            have c2y : w1.cell? ⟨q, 2, none⟩ = some (.string (bs tl)) := (HFB.out.gr gg1).cell 2
            have d0y : w1.cell? ⟨w.heap.size, 0, none⟩ = some (.slice (some ⟨b, off, none⟩) n cap) := (HBX.out.gr gg1).cell 0
            simp only [OnQ]
            clear g1 gd c0d
            repeat (go_big_quiet_step (fail))
            refine wpQuiet_nil ?_
            intro _ hw'
            obtain ⟨nq, hw''⟩ := hw'
            subst hw''
            have gg2 : Gr wx (w1.drewN nq) := Gr.drewN gg1 nq
            go_wp2_with fail
            go_ret
            exact ⟨by rw [HF.out]; rfl, hg0.trans (hgx.trans gg2)⟩
          | true =>
            rw [hnb] at HN
            have hlt2 : ltB [] nm = true := ltB_nil (namedB_ne hnb)
            by_cases hs1 : sf.length ≤ 1048576
            · have q3 : decide ((1048576 : Int) < (sf.length : Int)) = false := decide_eq_false (by omega)
              by_cases hs2 : sf.length + tl.length ≤ 1048576
              · have q4 : decide ((1048576 : Int) - (sf.length : Int) < (tl.length : Int)) = false := decide_eq_false (by omega)
                have HOK : Sec (goodFrom [] fs = goodFrom nm (fs.drop (0 + 1))) := sec (by
                  rw [HGO.out]; unfold fileOk; rw [hnb, hlt2, decide_eq_true ⟨hs1, hs2⟩]; rfl)
                clear hnb hlt2 hs1 hs2
                go_wp2_with fail
                have hFB := Blk.new wr 105 #[.string (bs nm), .string (bs sf), .string (bs tl)]
                have hBX := ((HB.out.gr hg).alloc (.cells #[.string (bs nm), .string (bs sf), .string (bs tl)] 105))
                have hgx := hg.alloc (.cells #[.string (bs nm), .string (bs sf), .string (bs tl)] 105)
                obtain ⟨wx, hwx⟩ : ∃ x, x = wr.alloc (.cells #[.string (bs nm), .string (bs sf), .string (bs tl)] 105) := ⟨_, rfl⟩
                obtain ⟨q, hq⟩ : ∃ q, q = wr.heap.size := ⟨_, rfl⟩
                rw [← hwx] at hFB hBX hgx
                rw [← hq] at hFB
                rw [← hwx, ← hq]
                have HFB := sec hFB
                have HBX := sec hBX
                clear hwx hq hFB hBX e0 e1 e2
                refine region_head_quiet 3 (by kernel_rfl) (by decide) (by kernel_rfl) (fun wd hwd => ?_)
                simp only [List.take_succ_cons, List.take_zero, List.drop_succ_cons, List.drop_zero]
                have gd : Gr wx wd := by rw [hwd]; exact (Gr.refl _).drew
                clear hwd
                have c0d : wd.cell? ⟨q, 0, none⟩ = some (.string (bs nm)) := (HFB.out.gr gd).cell 0
                go_wp2_with (go_at_call 116; refine (HN.out _).mono ?_; rintro e w1 ⟨rfl, g1⟩; have gg1 : Gr wx w1 := gd.trans g1)
                have c0y : w1.cell? ⟨q, 0, none⟩ = some (.string (bs nm)) := (HFB.out.gr gg1).cell 0
                have c1y : w1.cell? ⟨q, 1, none⟩ = some (.string (bs sf)) := (HFB.out.gr gg1).cell 1
                have c2y : w1.cell? ⟨q, 2, none⟩ = some (.string (bs tl)) := (HFB.out.gr gg1).cell 2
                have d0y : w1.cell? ⟨w.heap.size, 0, none⟩ = some (.slice (some ⟨b, off, none⟩) n cap) := (HBX.out.gr gg1).cell 0
                simp only [OnQ]
                clear g1 gd c0d
                repeat (go_big_quiet_step (fail))
                refine wpQuiet_nil ?_
                intro _ hw'
                obtain ⟨nq, hw''⟩ := hw'
                subst hw''
                have gg2 : Gr wx (w1.drewN nq) := Gr.drewN gg1 nq
                go_wp2_with fail
                go_roundw
                case rel => exact ⟨0 + 1, nm, rfl, by omega, HXI, HOK, hgx.trans gg2⟩
                case measure => simp [intOf]; omega
              · have q4 : (1048576 : Int) - (sf.length : Int) < (tl.length : Int) := by omega
                have hd : decide (sf.length ≤ 1048576 ∧ sf.length + tl.length ≤ 1048576) = false := decide_eq_false (fun h => hs2 h.2)
                have HF : Sec (goodFrom [] fs = false) := sec (by rw [HGO.out]; unfold fileOk; rw [hd]; simp)
                clear hnb hlt2 hd hs1 hs2
                go_wp2_with fail
                have hFB := Blk.new wr 105 #[.string (bs nm), .string (bs sf), .string (bs tl)]
                have hBX := ((HB.out.gr hg).alloc (.cells #[.string (bs nm), .string (bs sf), .string (bs tl)] 105))
                have hgx := hg.alloc (.cells #[.string (bs nm), .string (bs sf), .string (bs tl)] 105)
                obtain ⟨wx, hwx⟩ : ∃ x, x = wr.alloc (.cells #[.string (bs nm), .string (bs sf), .string (bs tl)] 105) := ⟨_, rfl⟩
                obtain ⟨q, hq⟩ : ∃ q, q = wr.heap.size := ⟨_, rfl⟩
                rw [← hwx] at hFB hBX hgx
                rw [← hq] at hFB
                rw [← hwx, ← hq]
                have HFB := sec hFB
                have HBX := sec hBX
                clear hwx hq hFB hBX e0 e1 e2
                refine region_head_quiet 3 (by kernel_rfl) (by decide) (by kernel_rfl) (fun wd hwd => ?_)
                simp only [List.take_succ_cons, List.take_zero, List.drop_succ_cons, List.drop_zero]
                have gd : Gr wx wd := by rw [hwd]; exact (Gr.refl _).drew
                clear hwd
                have c0d : wd.cell? ⟨q, 0, none⟩ = some (.string (bs nm)) := (HFB.out.gr gd).cell 0
                go_wp2_with (go_at_call 116; refine (HN.out _).mono ?_; rintro e w1 ⟨rfl, g1⟩; have gg1 : Gr wx w1 := gd.trans g1)
                have c0y : w1.cell? ⟨q, 0, none⟩ = some (.string (bs nm)) := (HFB.out.gr gg1).cell 0
                have c1y : w1.cell? ⟨q, 1, none⟩ = some (.string (bs sf)) := (HFB.out.gr gg1).cell 1
                have c2y : w1.cell? ⟨q, 2, none⟩ = some (.string (bs tl)) := (HFB.out.gr gg1).cell 2
                have d0y : w1.cell? ⟨w.heap.size, 0, none⟩ = some (.slice (some ⟨b, off, none⟩) n cap) := (HBX.out.gr gg1).cell 0
                simp only [OnQ]
                clear g1 gd c0d
                repeat (go_big_quiet_step (fail))
                refine wpQuiet_nil ?_
                intro _ hw'
                obtain ⟨nq, hw''⟩ := hw'
                subst hw''
                have gg2 : Gr wx (w1.drewN nq) := Gr.drewN gg1 nq
                go_wp2_with fail
                go_ret
                exact ⟨by rw [HF.out]; rfl, hg0.trans (hgx.trans gg2)⟩
            · have q3 : (1048576 : Int) < (sf.length : Int) := by omega
              have hd : decide (sf.length ≤ 1048576 ∧ sf.length + tl.length ≤ 1048576) = false := decide_eq_false (fun h => hs1 h.1)
              have HF : Sec (goodFrom [] fs = false) := sec (by rw [HGO.out]; unfold fileOk; rw [hd]; simp)
              clear hnb hlt2 hd hs1
              go_wp2_with fail
              have hFB := Blk.new wr 105 #[.string (bs nm), .string (bs sf), .string (bs tl)]
              have hBX := ((HB.out.gr hg).alloc (.cells #[.string (bs nm), .string (bs sf), .string (bs tl)] 105))
              have hgx := hg.alloc (.cells #[.string (bs nm), .string (bs sf), .string (bs tl)] 105)
              obtain ⟨wx, hwx⟩ : ∃ x, x = wr.alloc (.cells #[.string (bs nm), .string (bs sf), .string (bs tl)] 105) := ⟨_, rfl⟩
              obtain ⟨q, hq⟩ : ∃ q, q = wr.heap.size := ⟨_, rfl⟩
              rw [← hwx] at hFB hBX hgx
              rw [← hq] at hFB
              rw [← hwx, ← hq]
              have HFB := sec hFB
              have HBX := sec hBX
              clear hwx hq hFB hBX e0 e1 e2
              refine region_head_quiet 3 (by kernel_rfl) (by decide) (by kernel_rfl) (fun wd hwd => ?_)
              simp only [List.take_succ_cons, List.take_zero, List.drop_succ_cons, List.drop_zero]
              have gd : Gr wx wd := by rw [hwd]; exact (Gr.refl _).drew
              clear hwd
              have c0d : wd.cell? ⟨q, 0, none⟩ = some (.string (bs nm)) := (HFB.out.gr gd).cell 0
              go_wp2_with (go_at_call 116; refine (HN.out _).mono ?_; rintro e w1 ⟨rfl, g1⟩; have gg1 : Gr wx w1 := gd.trans g1)
              have c0y : w1.cell? ⟨q, 0, none⟩ = some (.string (bs nm)) := (HFB.out.gr gg1).cell 0
              have c1y : w1.cell? ⟨q, 1, none⟩ = some (.string (bs sf)) := (HFB.out.gr gg1).cell 1
              have c2y : w1.cell? ⟨q, 2, none⟩ = some (.string (bs tl)) := (HFB.out.gr gg1).cell 2
              have d0y : w1.cell? ⟨w.heap.size, 0, none⟩ = some (.slice (some ⟨b, off, none⟩) n cap) := (HBX.out.gr gg1).cell 0
              simp only [OnQ]
              clear g1 gd c0d
              repeat (go_big_quiet_step (fail))
              refine wpQuiet_nil ?_
              intro _ hw'
              obtain ⟨nq, hw''⟩ := hw'
              subst hw''
              have gg2 : Gr wx (w1.drewN nq) := Gr.drewN gg1 nq
              go_wp2_with fail
              go_ret
              exact ⟨by rw [HF.out]; rfl, hg0.trans (hgx.trans gg2)⟩
        · have hij : (i : Int) - 1 = (j : Int) := by omega
          have hi0 : 0 < i := by omega
          have hjn : (j : Int) < (n : Int) := by omega
          have p0 : wr.cell? ⟨b, off + j * 3, none⟩ = some (.string (bs last)) := by
            obtain ⟨b', off', e, h0, _, _⟩ := (HX.out.gr hg).cell hjl
            injection e with e; injection e with e3 e4 _
            subst e3 e4
            rw [hlast]; exact h0
          have hbl : b < wr.heap.size := World.block_lt_of_cell? wr _ p0
          have HIJ := sec (And.intro hij hi0)
          clear hlast hij hj hi0
          cases hnb : namedB nm with
          | false =>
            have HF : Sec (goodFrom [] fs = false) := sec (by rw [HGO.out]; unfold fileOk; rw [hnb]; simp)
            rw [hnb] at HN
            clear hnb
            go_wp2_with fail
            have hFB := Blk.new wr 105 #[.string (bs nm), .string (bs sf), .string (bs tl)]
            have hBX := ((HB.out.gr hg).alloc (.cells #[.string (bs nm), .string (bs sf), .string (bs tl)] 105))
            have hgx := hg.alloc (.cells #[.string (bs nm), .string (bs sf), .string (bs tl)] 105)
            have p0x := (World.cell?_alloc_lt wr (.cells #[.string (bs nm), .string (bs sf), .string (bs tl)] 105) ⟨b, off + j * 3, none⟩ hbl).trans p0
            have hbx : b < (wr.alloc (.cells #[.string (bs nm), .string (bs sf), .string (bs tl)] 105)).heap.size := by rw [World.size_alloc]; omega
            obtain ⟨wx, hwx⟩ : ∃ x, x = wr.alloc (.cells #[.string (bs nm), .string (bs sf), .string (bs tl)] 105) := ⟨_, rfl⟩
            obtain ⟨q, hq⟩ : ∃ q, q = wr.heap.size := ⟨_, rfl⟩
            rw [← hwx] at hFB hBX hgx p0x hbx
            rw [← hq] at hFB
            rw [← hwx, ← hq]
            have HFB := sec hFB
            have HBX := sec hBX
            clear hwx hq hFB hBX e0 e1 e2 p0 hbl
            refine region_head_quiet 3 (by kernel_rfl) (by decide) (by kernel_rfl) (fun wd hwd => ?_)
            simp only [List.take_succ_cons, List.take_zero, List.drop_succ_cons, List.drop_zero]
            have gd : Gr wx wd := by rw [hwd]; exact (Gr.refl _).drew
            clear hwd
            have c0d : wd.cell? ⟨q, 0, none⟩ = some (.string (bs nm)) := (HFB.out.gr gd).cell 0
            go_wp2_with (go_at_call 116; refine (HN.out _).mono ?_; rintro e w1 ⟨rfl, g1⟩; have gg1 : Gr wx w1 := gd.trans g1)
            have c0y : w1.cell? ⟨q, 0, none⟩ = some (.string (bs nm)) := (HFB.out.gr gg1).cell 0
            have c1y : w1.cell? ⟨q, 1, none⟩ = some (.string (bs sf)) := (HFB.out.gr gg1).cell 1
            have c2y : w1.cell? ⟨q, 2, none⟩ = some (.string (bs tl)) := (HFB.out.gr gg1).cell 2
            have d0y : w1.cell? ⟨w.heap.size, 0, none⟩ = some (.slice (some ⟨b, off, none⟩) n cap) := (HBX.out.gr gg1).cell 0
            obtain ⟨hij, hi0⟩ := HIJ.out
            have p0y : w1.cell? ⟨b, off + j * 3, none⟩ = some (.string (bs last)) := (gg1.cells.1 b _ hbx).trans p0x
            simp only [OnQ]
            clear g1 gd c0d
            repeat (go_big_quiet_step (fail))
            refine wpQuiet_nil ?_
            intro _ hw'
            obtain ⟨nq, hw''⟩ := hw'
            subst hw''
            have gg2 : Gr wx (w1.drewN nq) := Gr.drewN gg1 nq
            clear hij hi0
            go_wp2_with fail
            go_ret
            exact ⟨by rw [HF.out]; rfl, hg0.trans (hgx.trans gg2)⟩
          | true =>
            rw [hnb] at HN
            cases hlt2 : ltB last nm with
            | false =>
              have HF : Sec (goodFrom [] fs = false) := sec (by rw [HGO.out]; unfold fileOk; rw [hlt2]; simp)
              have q1 : Op.bytesLess last nm = false := hlt2
              clear hnb hlt2
              go_wp2_with fail
              have hFB := Blk.new wr 105 #[.string (bs nm), .string (bs sf), .string (bs tl)]
              have hBX := ((HB.out.gr hg).alloc (.cells #[.string (bs nm), .string (bs sf), .string (bs tl)] 105))
              have hgx := hg.alloc (.cells #[.string (bs nm), .string (bs sf), .string (bs tl)] 105)
              have p0x := (World.cell?_alloc_lt wr (.cells #[.string (bs nm), .string (bs sf), .string (bs tl)] 105) ⟨b, off + j * 3, none⟩ hbl).trans p0
              have hbx : b < (wr.alloc (.cells #[.string (bs nm), .string (bs sf), .string (bs tl)] 105)).heap.size := by rw [World.size_alloc]; omega
              obtain ⟨wx, hwx⟩ : ∃ x, x = wr.alloc (.cells #[.string (bs nm), .string (bs sf), .string (bs tl)] 105) := ⟨_, rfl⟩
              obtain ⟨q, hq⟩ : ∃ q, q = wr.heap.size := ⟨_, rfl⟩
              rw [← hwx] at hFB hBX hgx p0x hbx
              rw [← hq] at hFB
              rw [← hwx, ← hq]
              have HFB := sec hFB
              have HBX := sec hBX
              clear hwx hq hFB hBX e0 e1 e2 p0 hbl
              refine region_head_quiet 3 (by kernel_rfl) (by decide) (by kernel_rfl) (fun wd hwd => ?_)
              simp only [List.take_succ_cons, List.take_zero, List.drop_succ_cons, List.drop_zero]
              have gd : Gr wx wd := by rw [hwd]; exact (Gr.refl _).drew
              clear hwd
              have c0d : wd.cell? ⟨q, 0, none⟩ = some (.string (bs nm)) := (HFB.out.gr gd).cell 0
              go_wp2_with (go_at_call 116; refine (HN.out _).mono ?_; rintro e w1 ⟨rfl, g1⟩; have gg1 : Gr wx w1 := gd.trans g1)
              have c0y : w1.cell? ⟨q, 0, none⟩ = some (.string (bs nm)) := (HFB.out.gr gg1).cell 0
              have c1y : w1.cell? ⟨q, 1, none⟩ = some (.string (bs sf)) := (HFB.out.gr gg1).cell 1
              have c2y : w1.cell? ⟨q, 2, none⟩ = some (.string (bs tl)) := (HFB.out.gr gg1).cell 2
              have d0y : w1.cell? ⟨w.heap.size, 0, none⟩ = some (.slice (some ⟨b, off, none⟩) n cap) := (HBX.out.gr gg1).cell 0
              obtain ⟨hij, hi0⟩ := HIJ.out
              have p0y : w1.cell? ⟨b, off + j * 3, none⟩ = some (.string (bs last)) := (gg1.cells.1 b _ hbx).trans p0x
              simp only [OnQ]
              clear g1 gd c0d
              repeat (go_big_quiet_step (fail))
              refine wpQuiet_nil ?_
              intro _ hw'
              obtain ⟨nq, hw''⟩ := hw'
              subst hw''
              have gg2 : Gr wx (w1.drewN nq) := Gr.drewN gg1 nq
              clear hij hi0
              go_wp2_with fail
              go_ret
              exact ⟨by rw [HF.out]; rfl, hg0.trans (hgx.trans gg2)⟩
            | true =>
              have q1 : Op.bytesLess last nm = true := hlt2
              by_cases hs1 : sf.length ≤ 1048576
              · have q3 : decide ((1048576 : Int) < (sf.length : Int)) = false := decide_eq_false (by omega)
                by_cases hs2 : sf.length + tl.length ≤ 1048576
                · have q4 : decide ((1048576 : Int) - (sf.length : Int) < (tl.length : Int)) = false := decide_eq_false (by omega)
                  have HOK : Sec (goodFrom [] fs = goodFrom nm (fs.drop (i + 1))) := sec (by
                    rw [HGO.out]; unfold fileOk; rw [hnb, hlt2, decide_eq_true ⟨hs1, hs2⟩]; rfl)
                  clear hnb hlt2 hs1 hs2
                  go_wp2_with fail
                  have hFB := Blk.new wr 105 #[.string (bs nm), .string (bs sf), .string (bs tl)]
                  have hBX := ((HB.out.gr hg).alloc (.cells #[.string (bs nm), .string (bs sf), .string (bs tl)] 105))
                  have hgx := hg.alloc (.cells #[.string (bs nm), .string (bs sf), .string (bs tl)] 105)
                  have p0x := (World.cell?_alloc_lt wr (.cells #[.string (bs nm), .string (bs sf), .string (bs tl)] 105) ⟨b, off + j * 3, none⟩ hbl).trans p0
                  have hbx : b < (wr.alloc (.cells #[.string (bs nm), .string (bs sf), .string (bs tl)] 105)).heap.size := by rw [World.size_alloc]; omega
                  obtain ⟨wx, hwx⟩ : ∃ x, x = wr.alloc (.cells #[.string (bs nm), .string (bs sf), .string (bs tl)] 105) := ⟨_, rfl⟩
                  obtain ⟨q, hq⟩ : ∃ q, q = wr.heap.size := ⟨_, rfl⟩
                  rw [← hwx] at hFB hBX hgx p0x hbx
                  rw [← hq] at hFB
                  rw [← hwx, ← hq]
                  have HFB := sec hFB
                  have HBX := sec hBX
                  clear hwx hq hFB hBX e0 e1 e2 p0 hbl
                  refine region_head_quiet 3 (by kernel_rfl) (by decide) (by kernel_rfl) (fun wd hwd => ?_)
                  simp only [List.take_succ_cons, List.take_zero, List.drop_succ_cons, List.drop_zero]
                  have gd : Gr wx wd := by rw [hwd]; exact (Gr.refl _).drew
                  clear hwd
                  have c0d : wd.cell? ⟨q, 0, none⟩ = some (.string (bs nm)) := (HFB.out.gr gd).cell 0
                  go_wp2_with (go_at_call 116; refine (HN.out _).mono ?_; rintro e w1 ⟨rfl, g1⟩; have gg1 : Gr wx w1 := gd.trans g1)
                  have c0y : w1.cell? ⟨q, 0, none⟩ = some (.string (bs nm)) := (HFB.out.gr gg1).cell 0
                  have c1y : w1.cell? ⟨q, 1, none⟩ = some (.string (bs sf)) := (HFB.out.gr gg1).cell 1
                  have c2y : w1.cell? ⟨q, 2, none⟩ = some (.string (bs tl)) := (HFB.out.gr gg1).cell 2
                  have d0y : w1.cell? ⟨w.heap.size, 0, none⟩ = some (.slice (some ⟨b, off, none⟩) n cap) := (HBX.out.gr gg1).cell 0
                  obtain ⟨hij, hi0⟩ := HIJ.out
                  have p0y : w1.cell? ⟨b, off + j * 3, none⟩ = some (.string (bs last)) := (gg1.cells.1 b _ hbx).trans p0x
                  simp only [OnQ]
                  clear g1 gd c0d
                  repeat (go_big_quiet_step (fail))
                  refine wpQuiet_nil ?_
                  intro _ hw'
                  obtain ⟨nq, hw''⟩ := hw'
                  subst hw''
                  have gg2 : Gr wx (w1.drewN nq) := Gr.drewN gg1 nq
                  clear hij hi0
                  go_wp2_with fail
                  go_roundw
                  case rel => exact ⟨i + 1, nm, by go_num, by omega, HXI, HOK, hgx.trans gg2⟩
                  case measure => simp [intOf]; omega
                · have q4 : (1048576 : Int) - (sf.length : Int) < (tl.length : Int) := by omega
                  have hd : decide (sf.length ≤ 1048576 ∧ sf.length + tl.length ≤ 1048576) = false := decide_eq_false (fun h => hs2 h.2)
                  have HF : Sec (goodFrom [] fs = false) := sec (by rw [HGO.out]; unfold fileOk; rw [hd]; simp)
                  clear hnb hlt2 hd hs1 hs2
                  go_wp2_with fail
                  have hFB := Blk.new wr 105 #[.string (bs nm), .string (bs sf), .string (bs tl)]
                  have hBX := ((HB.out.gr hg).alloc (.cells #[.string (bs nm), .string (bs sf), .string (bs tl)] 105))
                  have hgx := hg.alloc (.cells #[.string (bs nm), .string (bs sf), .string (bs tl)] 105)
                  have p0x := (World.cell?_alloc_lt wr (.cells #[.string (bs nm), .string (bs sf), .string (bs tl)] 105) ⟨b, off + j * 3, none⟩ hbl).trans p0
                  have hbx : b < (wr.alloc (.cells #[.string (bs nm), .string (bs sf), .string (bs tl)] 105)).heap.size := by rw [World.size_alloc]; omega
                  obtain ⟨wx, hwx⟩ : ∃ x, x = wr.alloc (.cells #[.string (bs nm), .string (bs sf), .string (bs tl)] 105) := ⟨_, rfl⟩
                  obtain ⟨q, hq⟩ : ∃ q, q = wr.heap.size := ⟨_, rfl⟩
                  rw [← hwx] at hFB hBX hgx p0x hbx
                  rw [← hq] at hFB
                  rw [← hwx, ← hq]
                  have HFB := sec hFB
                  have HBX := sec hBX
                  clear hwx hq hFB hBX e0 e1 e2 p0 hbl
                  refine region_head_quiet 3 (by kernel_rfl) (by decide) (by kernel_rfl) (fun wd hwd => ?_)
                  simp only [List.take_succ_cons, List.take_zero, List.drop_succ_cons, List.drop_zero]
                  have gd : Gr wx wd := by rw [hwd]; exact (Gr.refl _).drew
                  clear hwd
                  have c0d : wd.cell? ⟨q, 0, none⟩ = some (.string (bs nm)) := (HFB.out.gr gd).cell 0
                  go_wp2_with (go_at_call 116; refine (HN.out _).mono ?_; rintro e w1 ⟨rfl, g1⟩; have gg1 : Gr wx w1 := gd.trans g1)
                  have c0y : w1.cell? ⟨q, 0, none⟩ = some (.string (bs nm)) := (HFB.out.gr gg1).cell 0
                  have c1y : w1.cell? ⟨q, 1, none⟩ = some (.string (bs sf)) := (HFB.out.gr gg1).cell 1
                  have c2y : w1.cell? ⟨q, 2, none⟩ = some (.string (bs tl)) := (HFB.out.gr gg1).cell 2
                  have d0y : w1.cell? ⟨w.heap.size, 0, none⟩ = some (.slice (some ⟨b, off, none⟩) n cap) := (HBX.out.gr gg1).cell 0
                  obtain ⟨hij, hi0⟩ := HIJ.out
                  have p0y : w1.cell? ⟨b, off + j * 3, none⟩ = some (.string (bs last)) := (gg1.cells.1 b _ hbx).trans p0x
                  simp only [OnQ]
                  clear g1 gd c0d
                  repeat (go_big_quiet_step (fail))
                  refine wpQuiet_nil ?_
                  intro _ hw'
                  obtain ⟨nq, hw''⟩ := hw'
                  subst hw''
                  have gg2 : Gr wx (w1.drewN nq) := Gr.drewN gg1 nq
                  clear hij hi0
                  go_wp2_with fail
                  go_ret
                  exact ⟨by rw [HF.out]; rfl, hg0.trans (hgx.trans gg2)⟩
              · have q3 : (1048576 : Int) < (sf.length : Int) := by omega
                have hd : decide (sf.length ≤ 1048576 ∧ sf.length + tl.length ≤ 1048576) = false := decide_eq_false (fun h => hs1 h.1)
                have HF : Sec (goodFrom [] fs = false) := sec (by rw [HGO.out]; unfold fileOk; rw [hd]; simp)
                clear hnb hlt2 hd hs1
                go_wp2_with fail
                have hFB := Blk.new wr 105 #[.string (bs nm), .string (bs sf), .string (bs tl)]
                have hBX := ((HB.out.gr hg).alloc (.cells #[.string (bs nm), .string (bs sf), .string (bs tl)] 105))
                have hgx := hg.alloc (.cells #[.string (bs nm), .string (bs sf), .string (bs tl)] 105)
                have p0x := (World.cell?_alloc_lt wr (.cells #[.string (bs nm), .string (bs sf), .string (bs tl)] 105) ⟨b, off + j * 3, none⟩ hbl).trans p0
                have hbx : b < (wr.alloc (.cells #[.string (bs nm), .string (bs sf), .string (bs tl)] 105)).heap.size := by rw [World.size_alloc]; omega
                obtain ⟨wx, hwx⟩ : ∃ x, x = wr.alloc (.cells #[.string (bs nm), .string (bs sf), .string (bs tl)] 105) := ⟨_, rfl⟩
                obtain ⟨q, hq⟩ : ∃ q, q = wr.heap.size := ⟨_, rfl⟩
                rw [← hwx] at hFB hBX hgx p0x hbx
                rw [← hq] at hFB
                rw [← hwx, ← hq]
                have HFB := sec hFB
                have HBX := sec hBX
                clear hwx hq hFB hBX e0 e1 e2 p0 hbl
                refine region_head_quiet 3 (by kernel_rfl) (by decide) (by kernel_rfl) (fun wd hwd => ?_)
                simp only [List.take_succ_cons, List.take_zero, List.drop_succ_cons, List.drop_zero]
                have gd : Gr wx wd := by rw [hwd]; exact (Gr.refl _).drew
                clear hwd
                have c0d : wd.cell? ⟨q, 0, none⟩ = some (.string (bs nm)) := (HFB.out.gr gd).cell 0
                go_wp2_with (go_at_call 116; refine (HN.out _).mono ?_; rintro e w1 ⟨rfl, g1⟩; have gg1 : Gr wx w1 := gd.trans g1)
                have c0y : w1.cell? ⟨q, 0, none⟩ = some (.string (bs nm)) := (HFB.out.gr gg1).cell 0
                have c1y : w1.cell? ⟨q, 1, none⟩ = some (.string (bs sf)) := (HFB.out.gr gg1).cell 1
                have c2y : w1.cell? ⟨q, 2, none⟩ = some (.string (bs tl)) := (HFB.out.gr gg1).cell 2
                have d0y : w1.cell? ⟨w.heap.size, 0, none⟩ = some (.slice (some ⟨b, off, none⟩) n cap) := (HBX.out.gr gg1).cell 0
                obtain ⟨hij, hi0⟩ := HIJ.out
                have p0y : w1.cell? ⟨b, off + j * 3, none⟩ = some (.string (bs last)) := (gg1.cells.1 b _ hbx).trans p0x
                simp only [OnQ]
                clear g1 gd c0d
                repeat (go_big_quiet_step (fail))
                refine wpQuiet_nil ?_
                intro _ hw'
                obtain ⟨nq, hw''⟩ := hw'
                subst hw''
                have gg2 : Gr wx (w1.drewN nq) := Gr.drewN gg1 nq
                clear hij hi0
                go_wp2_with fail
                go_ret
                exact ⟨by rw [HF.out]; rfl, hg0.trans (hgx.trans gg2)⟩
      · obtain rfl : i = n := by omega
        have HF : Sec (goodFrom [] fs = true) := sec (by rw [HG.out, List.drop_eq_nil_of_le (by omega)]; rfl)
        clear hlt hi
        go_wp2_with fail
        go_ret
        exact ⟨by rw [HF.out]; rfl, hg0.trans hg⟩
  · have HG0 : Sec (goodFs fs = false) := sec (by unfold goodFs; rw [decide_eq_false (fun h => h400 (by omega)), Bool.false_and])
    rw [HG0.out]
    have q400 : (400 : Int) < (n : Int) := by omega
    clear hx hl
    go_enter Tryz.func75, Tryz.ntmps75
    go_wp2_with fail
    go_ret
    exact ⟨rfl, (Gr.refl w).alloc _⟩
end Go.Proofs.YtoamnifnfkgbiaaGreatDoor

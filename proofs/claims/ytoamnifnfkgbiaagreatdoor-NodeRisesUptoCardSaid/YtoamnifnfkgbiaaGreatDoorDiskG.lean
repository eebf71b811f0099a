/-
  cartularyref.GoodDisk, disk.Good by their contracts.
-/
import Derived.Test.YtoamnifnfkgbiaaGreatDoorDiskA
import Derived.Deep.RegionHeld3
namespace Go.Proofs.YtoamnifnfkgbiaaGreatDoor
open Go.RowKit
set_option linter.unusedVariables false
theorem ltB_asym {a b : List UInt8} (h : ltB a b = true) : ltB b a = false := by
  cases hb : ltB b a
  · rfl
  · have := ltB_trans a b a h hb
    rw [ltB_irr] at this
    cases this
theorem goodFrom_cons {last : List UInt8} {f : Fl} {r : List Fl} : goodFrom last (f :: r) = (fileOk f && ltB last f.1 && goodFrom f.1 r) := rfl

set_option maxRecDepth 100000 in
set_option maxHeartbeats 4000000 in
theorem drgood_any (fs : List Fl) (A : Option Addr) (n cap : Nat) (f : Int) (w : World) (hn : n ≤ 1099511627776) (hx : FRow w A n fs) (hs : ∀ f ∈ fs, f.1.length ≤ 1099511627776 ∧ f.2.1.length ≤ 1099511627776 ∧ f.2.2.length ≤ 1099511627776) :
    Calls Tryz.prog 86 #[diskV A n cap f] w fun e w' => e = .returned (.bool (goodFs fs)) ∧ Gr w w' := by
  unfold diskV
  have hl := hx.len
  go_enter Tryz.func86, Tryz.ntmps86
  go_wp2_with fail
  try rw [show ({ data := #[] } : ByteArray) = bs [] from rfl]
  have hb1 := Blk.new w 24 #[.slice A n cap, .int .i64 f]
  have hg0 := (Gr.refl w).alloc (.cells #[.slice A n cap, .int .i64 f] 24)
  obtain ⟨wa, hwa⟩ : ∃ x, x = w.alloc (.cells #[.slice A n cap, .int .i64 f] 24) := ⟨_, rfl⟩
  rw [← hwa] at hb1 hg0
  rw [← hwa]
  have HX := sec (hx.gr hg0)
  have HB := sec hb1
  have HSZ := sec hs
  clear hwa hx hb1 hs
  go_loopw [3, 9, 5] (fun v iv _ wr => ∃ (i : Nat) (last : List UInt8), v = .string (bs last) ∧ iv = .int .i64 (i : Int) ∧ i ≤ n ∧ Sec (goodFrom [] fs = goodFrom last (fs.drop i)) ∧ Gr wa wr) (fun _ iv _ _ => n - (intOf iv).toNat)
  case atStart => exact ⟨0, [], rfl, rfl, by omega, sec rfl, Gr.refl _⟩
  case round =>
    obtain ⟨i, last, rfl, rfl, hi, HG, hg⟩ := hrel
    by_cases hlt : i < n
    · have hif : i < fs.length := by omega
      have hii : (i : Int) < (n : Int) := by omega
      have hsz := HSZ.out fs[i] (List.getElem_mem hif)
      have hgo := HG.out
      rw [List.drop_eq_getElem_cons hif, goodFrom_cons] at hgo
      obtain ⟨b, off, rfl, e0, e1, e2⟩ := (HX.out.gr hg).cell hif
      obtain ⟨x, hx⟩ : ∃ x, x = fs[i] := ⟨_, rfl⟩
      rw [← hx] at e0 e1 e2 hsz hgo
      clear hx hif
      obtain ⟨nm, sf, tl⟩ := x
      simp only at e0 e1 e2 hsz hgo
      have HGO := sec hgo
      have HN := sec (fun w => fileName_any nm w (by omega))
      obtain ⟨h1, h2, h3⟩ := hsz
      clear hgo
      have HNB : Sec (∀ B, namedB nm = B → namedB nm = B) := sec fun _ h => h
      cases hnb : namedB nm with
      | false =>
        have HF : Sec (goodFs fs = false) := sec (by unfold goodFs; rw [HGO.out]; unfold fileOk; rw [hnb]; simp)
        rw [hnb] at HN
        clear hnb
        go_wp2_with (go_at_call 114; refine Calls.mono (HN.out _) ?_; rintro e w1 ⟨rfl, g1⟩)
        go_ret
        exact ⟨by rw [HF.out]; rfl, hg0.trans ((hg.alloc _).trans g1)⟩
      | true =>
        rw [hnb] at HN
        cases hlt2 : ltB last nm with
        | false =>
          have q1 : (Op.bytesLess nm last || nm == last) = true := by
            cases h : Op.bytesLess nm last
            · rw [ltB_tri nm last h hlt2]; simp
            · rfl
          have HF : Sec (goodFs fs = false) := sec (by unfold goodFs; rw [HGO.out]; unfold fileOk; rw [hlt2]; simp)
          clear hlt2 hnb
          go_wp2_with (go_at_call 114; refine Calls.mono (HN.out _) ?_; rintro e w1 ⟨rfl, g1⟩; have hFB := (Blk.new wr 105 #[.string (bs nm), .string (bs sf), .string (bs tl)]).gr g1; have c0f : w1.cell? ⟨wr.heap.size, 0, none⟩ = some (.string (bs nm)) := hFB.cell 0; have c1f : w1.cell? ⟨wr.heap.size, 1, none⟩ = some (.string (bs sf)) := hFB.cell 1; have c2f : w1.cell? ⟨wr.heap.size, 2, none⟩ = some (.string (bs tl)) := hFB.cell 2; clear hFB)
          go_ret
          exact ⟨by rw [HF.out]; rfl, hg0.trans ((hg.alloc _).trans g1)⟩
        | true =>
          have q1 : Op.bytesLess nm last = false := ltB_asym hlt2
          have q2 : (nm == last) = false := by
            rw [beq_eq_false_iff_ne]
            intro e; subst e; rw [ltB_irr] at hlt2; cases hlt2
          by_cases hs1 : sf.length ≤ 1048576
          · have q3 : ¬ (1048576 : Int) < (sf.length : Int) := by omega
            by_cases hs2 : sf.length + tl.length ≤ 1048576
            · have q4 : ¬ (1048576 : Int) < (sf.length : Int) + (tl.length : Int) := by omega
              have HOK : Sec (goodFrom [] fs = goodFrom nm (fs.drop (i + 1))) := sec (by
                rw [HGO.out]; unfold fileOk; rw [hnb, hlt2, decide_eq_true ⟨hs1, hs2⟩]; rfl)
              clear hnb hlt2 hs1 hs2
              go_wp2_with (go_at_call 114; refine Calls.mono (HN.out _) ?_; rintro e w1 ⟨rfl, g1⟩; have hFB := (Blk.new wr 105 #[.string (bs nm), .string (bs sf), .string (bs tl)]).gr g1; have c0f : w1.cell? ⟨wr.heap.size, 0, none⟩ = some (.string (bs nm)) := hFB.cell 0; have c1f : w1.cell? ⟨wr.heap.size, 1, none⟩ = some (.string (bs sf)) := hFB.cell 1; have c2f : w1.cell? ⟨wr.heap.size, 2, none⟩ = some (.string (bs tl)) := hFB.cell 2; clear hFB)
              go_roundw
              case rel => exact ⟨i + 1, nm, rfl, by go_num, by omega, HOK, (hg.alloc _).trans g1⟩
              case measure => simp [intOf]; omega
            · have q4 : (1048576 : Int) < (sf.length : Int) + (tl.length : Int) := by omega
              have hd : decide (sf.length ≤ 1048576 ∧ sf.length + tl.length ≤ 1048576) = false := decide_eq_false (fun h => hs2 h.2)
              have HF : Sec (goodFs fs = false) := sec (by unfold goodFs; rw [HGO.out]; unfold fileOk; rw [hd]; simp)
              clear hlt2 hnb hd hs1 hs2
              go_wp2_with (go_at_call 114; refine Calls.mono (HN.out _) ?_; rintro e w1 ⟨rfl, g1⟩; have hFB := (Blk.new wr 105 #[.string (bs nm), .string (bs sf), .string (bs tl)]).gr g1; have c0f : w1.cell? ⟨wr.heap.size, 0, none⟩ = some (.string (bs nm)) := hFB.cell 0; have c1f : w1.cell? ⟨wr.heap.size, 1, none⟩ = some (.string (bs sf)) := hFB.cell 1; have c2f : w1.cell? ⟨wr.heap.size, 2, none⟩ = some (.string (bs tl)) := hFB.cell 2; clear hFB)
              go_ret
              exact ⟨by rw [HF.out]; rfl, hg0.trans ((hg.alloc _).trans g1)⟩
          · have q3 : (1048576 : Int) < (sf.length : Int) := by omega
            have hd : decide (sf.length ≤ 1048576 ∧ sf.length + tl.length ≤ 1048576) = false := decide_eq_false (fun h => hs1 h.1)
            have HF : Sec (goodFs fs = false) := sec (by unfold goodFs; rw [HGO.out]; unfold fileOk; rw [hd]; simp)
            clear hlt2 hnb hd hs1
            go_wp2_with (go_at_call 114; refine Calls.mono (HN.out _) ?_; rintro e w1 ⟨rfl, g1⟩; have hFB := (Blk.new wr 105 #[.string (bs nm), .string (bs sf), .string (bs tl)]).gr g1; have c0f : w1.cell? ⟨wr.heap.size, 0, none⟩ = some (.string (bs nm)) := hFB.cell 0; have c1f : w1.cell? ⟨wr.heap.size, 1, none⟩ = some (.string (bs sf)) := hFB.cell 1; have c2f : w1.cell? ⟨wr.heap.size, 2, none⟩ = some (.string (bs tl)) := hFB.cell 2; clear hFB)
            go_ret
            exact ⟨by rw [HF.out]; rfl, hg0.trans ((hg.alloc _).trans g1)⟩
    · obtain rfl : i = n := by omega
      have hgd := HG.out
      rw [List.drop_eq_nil_of_le (by omega)] at hgd
      have d1 : wr.cell? ⟨w.heap.size, 0, none⟩ = some (.slice A i cap) := (HB.out.gr hg).cell 0
      have HF : Sec (goodFs fs = decide ((i : Int) ≤ 400)) := sec (by
        unfold goodFs; rw [hgd, hl, show goodFrom last [] = true from rfl, Bool.and_true]
        exact decide_eq_decide.2 (by omega))
      clear hgd hlt hi
      go_wp2_with fail
      all_goals
        go_ret
        exact ⟨by rw [HF.out]; simp, hg0.trans hg⟩
end Go.Proofs.YtoamnifnfkgbiaaGreatDoor

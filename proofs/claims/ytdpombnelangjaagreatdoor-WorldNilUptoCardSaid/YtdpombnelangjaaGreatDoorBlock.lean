/-
  sum.block by its contract.
-/
import Derived.Test.YtdpombnelangjaaGreatDoorShaL
import Derived.Test.YtdpombnelangjaaGreatDoorElems
import Derived.Laws.CopyOwn
import Derived.Laws.Rows
namespace Go.Proofs.YtdpombnelangjaaGreatDoor
open Go.RowKit
/-- the table of the rounds lies in block 0 -/
structure TabK (w : World) : Prop where
  at_ : ∀ i, i < 64 → w.cell? ⟨0, i, none⟩ = some (u32V (kAt i))
theorem TabK.gr {w w' : World} (h : TabK w) (g : Gr w w') : TabK w' :=
  ⟨fun i hi => (g.below.cell (p := ⟨0, i, none⟩) (World.block_lt_of_cell? w _ (h.at_ i hi))).trans (h.at_ i hi)⟩

def s8V (s : S8) : Array Value := #[u32V s.a, u32V s.b, u32V s.c, u32V s.d, u32V s.e, u32V s.f, u32V s.g, u32V s.h]
theorem s8V_at (s : S8) (i : Nat) (h : i < 8) : (s8V s)[i]? = some (.int .u32 ((s.list.getD i 0).toNat : Int)) := by
  match i, h with
  | 0, _ => rfl
  | 1, _ => rfl
  | 2, _ => rfl
  | 3, _ => rfl
  | 4, _ => rfl
  | 5, _ => rfl
  | 6, _ => rfl
  | 7, _ => rfl
def zero8 : Array Value := #[.int .u32 0, .int .u32 0, .int .u32 0, .int .u32 0, .int .u32 0, .int .u32 0, .int .u32 0, .int .u32 0]
def wCells (b : List UInt8) (n : Nat) : Array Value := ((List.range 64).map fun m => u32V (if m < n then wSched b m else 0)).toArray
theorem wCells_zero (b : List UInt8) : wCells b 0 = #[.int .u32 0, .int .u32 0, .int .u32 0, .int .u32 0, .int .u32 0, .int .u32 0, .int .u32 0, .int .u32 0, .int .u32 0, .int .u32 0, .int .u32 0, .int .u32 0, .int .u32 0, .int .u32 0, .int .u32 0, .int .u32 0, .int .u32 0, .int .u32 0, .int .u32 0, .int .u32 0, .int .u32 0, .int .u32 0, .int .u32 0, .int .u32 0, .int .u32 0, .int .u32 0, .int .u32 0, .int .u32 0, .int .u32 0, .int .u32 0, .int .u32 0, .int .u32 0, .int .u32 0, .int .u32 0, .int .u32 0, .int .u32 0, .int .u32 0, .int .u32 0, .int .u32 0, .int .u32 0, .int .u32 0, .int .u32 0, .int .u32 0, .int .u32 0, .int .u32 0, .int .u32 0, .int .u32 0, .int .u32 0, .int .u32 0, .int .u32 0, .int .u32 0, .int .u32 0, .int .u32 0, .int .u32 0, .int .u32 0, .int .u32 0, .int .u32 0, .int .u32 0, .int .u32 0, .int .u32 0, .int .u32 0, .int .u32 0, .int .u32 0, .int .u32 0] := by kernel_rfl
theorem wCells_set (b : List UInt8) (n : Nat) : (wCells b n).setIfInBounds n (u32V (wSched b n)) = wCells b (n + 1) := by
  unfold wCells
  rw [List.setIfInBounds_toArray]
  congr 1
  apply List.ext_getElem
  · simp
  · intro i h1 h2
    rw [List.getElem_set]
    simp at h1 h2
    by_cases e : n = i
    · subst e; simp
    · have : (i < n) ↔ (i < n + 1) := by omega
      simp [e, this]
theorem wCells_size (b : List UInt8) (n : Nat) : (wCells b n).size = 64 := by unfold wCells; simp
theorem wCells_at (b : List UInt8) (n i : Nat) (h : i < n) (h' : i < 64) : (wCells b n)[i]? = some (u32V (wSched b i)) := by
  unfold wCells
  simp [h, h']

set_option maxRecDepth 100000 in
set_option maxHeartbeats 4000000 in
theorem block_any (s0 : S8) (b : List UInt8) (w : World) (hb : b.length = 64) (hT : TabK w) :
    Calls Tryz.prog 119 #[.agg (s8V s0), .string (bs b)] w fun e w' => e = .returned (.agg (s8V (blockS s0 b))) ∧ Gr w w' := by
  have hb1 : (64 : Int) ≤ (b.length : Int) := by omega
  have HB := sec hb
  clear hb
  unfold s8V
  go_enter Tryz.func119, Tryz.ntmps119
  go_wp2_with fail
  go_loopw [17, 6] (fun iv _ wr => ∃ i : Nat, iv = .int .i64 i ∧ i ≤ 16 ∧ Blk wr w.heap.size 138 (s8V s0) ∧ Blk wr (w.heap.size + 1) 138 zero8 ∧ Blk wr (w.heap.size + 1 + 1) 241 (wCells b i) ∧ Gr w wr)
    (fun iv _ _ => 16 - (intOf iv).toNat)
  case atStart =>
    refine ⟨0, rfl, by omega, ((Blk.new _ _ _).alloc _).alloc _, (?_ : Blk _ _ _ _).alloc _, ?_, (((Gr.refl _).alloc _).alloc _).alloc _⟩
    · have := Blk.new (w.alloc (.cells (s8V s0) 138)) 138 zero8
      rw [World.size_alloc] at this
      exact this
    · have := Blk.new ((w.alloc (.cells (s8V s0) 138)).alloc (.cells zero8 138)) 241 (wCells b 0)
      rw [World.size_alloc, World.size_alloc, wCells_zero] at this
      rw [wCells_zero]
      exact this
  case round =>
    obtain ⟨i, rfl, hi, hB2, hB4, hB5, hg⟩ := hrel
    by_cases hlt : i < 16
    · have q0 : IntKind.i64.wrap (4 * (i : Int)) = 4 * (i : Int) := IntWalk.i64_in _ (by omega)
      have q1 : IntKind.i64.wrap (4 * (i : Int) + 1) = 4 * (i : Int) + 1 := IntWalk.i64_in _ (by omega)
      have q2 : IntKind.i64.wrap (4 * (i : Int) + 2) = 4 * (i : Int) + 2 := IntWalk.i64_in _ (by omega)
      have q3 : IntKind.i64.wrap (4 * (i : Int) + 3) = 4 * (i : Int) + 3 := IntWalk.i64_in _ (by omega)
      have r0 : (0 : Int) ≤ 4 * (i : Int) ∧ 4 * (i : Int) < (b.length : Int) := by omega
      have r1 : (0 : Int) ≤ 4 * (i : Int) + 1 ∧ 4 * (i : Int) + 1 < (b.length : Int) := by omega
      have r2 : (0 : Int) ≤ 4 * (i : Int) + 2 ∧ 4 * (i : Int) + 2 < (b.length : Int) := by omega
      have r3 : (0 : Int) ≤ 4 * (i : Int) + 3 ∧ 4 * (i : Int) + 3 < (b.length : Int) := by omega
      have t0 : (4 * (i : Int)).toNat = 4 * i := by omega
      have t1 : (4 * (i : Int) + 1).toNat = 4 * i + 1 := by omega
      have t2 : (4 * (i : Int) + 2).toNat = 4 * i + 2 := by omega
      have t3 : (4 * (i : Int) + 3).toNat = 4 * i + 3 := by omega
      have hi16 : (i : Int) < 16 := by omega
      have hi64 : (i : Int) < 64 := by omega
      have b0 : 4 * i < b.length := by omega
      have b1 : 4 * i + 1 < b.length := by omega
      have b2 : 4 * i + 2 < b.length := by omega
      have b3 : 4 * i + 3 < b.length := by omega
      have hw := word_or' b[4 * i] b[4 * i + 1] b[4 * i + 2] b[4 * i + 3]
      have hws : wSched b i = wordAt b (4 * i) := wSched_lo hlt
      have hwn : ((wordAt b (4 * i)).toNat : Int) = ((b[4 * i].toNat * 16777216 + b[4 * i + 1].toNat * 65536 + b[4 * i + 2].toNat * 256 + b[4 * i + 3].toNat : Nat) : Int) := by
        rw [wordAt_toNat]
        simp [byteAt, List.getD, List.getElem?_eq_getElem b0, List.getElem?_eq_getElem b1, List.getElem?_eq_getElem b2, List.getElem?_eq_getElem b3]
      have HW := sec (hw.trans hwn.symm)
      have HS := sec hws
      clear hw hws hwn
      have hc : ∃ v, wr.cell? ⟨w.heap.size + 1 + 1, i, none⟩ = some v := ⟨_, (hB5.cell i).trans (Array.getElem?_eq_getElem (by rw [wCells_size]; omega))⟩
      obtain ⟨v5, hc5⟩ := hc
      have hf5 := hB5.frozen i
      go_wp2
      go_still_tail 31, (by kernel_rfl)
      change wpList _ _ _ _ _ wr.drew
      go_wp2
      go_roundw
      case rel =>
        rw [HW.out]
        have h5 := hB5.drew.set_ i (u32V (wSched b i))
        rw [wCells_set, HS.out] at h5
        exact ⟨i + 1, by go_num, by omega, hB2.drew.far (by simp; omega) _, hB4.drew.far (by simp) _, h5, hg.drew.setCell (by simp; omega) _⟩
      case measure => simp [intOf]; omega
    · obtain rfl : i = 16 := by omega
      clear hlt hi
      rw [show ((16 : Nat) : Int) = 16 from rfl]
      go_wp2_with fail
      go_loopw [7, 8, 9] (fun iv _ _ wr => ∃ i : Nat, iv = .int .i64 i ∧ 16 ≤ i ∧ i ≤ 64 ∧ Blk wr w.heap.size 138 (s8V s0) ∧ Blk wr (w.heap.size + 1) 138 zero8 ∧ Blk wr (w.heap.size + 1 + 1) 241 (wCells b i) ∧ Gr w wr)
        (fun iv _ _ _ => 64 - (intOf iv).toNat)
      case atStart => exact ⟨16, rfl, by omega, by omega, hB2, hB4, hB5, hg⟩
      case round =>
        clear hB2 hB4 hB5 hg
        obtain ⟨i, rfl, hi0, hi, hB2, hB4, hB5, hg⟩ := hrel
        by_cases hlt : i < 64
        · have q15 : IntKind.i64.wrap ((i : Int) - 15) = (i : Int) - 15 := IntWalk.i64_in _ (by omega)
          have q2 : IntKind.i64.wrap ((i : Int) - 2) = (i : Int) - 2 := IntWalk.i64_in _ (by omega)
          have q16 : IntKind.i64.wrap ((i : Int) - 16) = (i : Int) - 16 := IntWalk.i64_in _ (by omega)
          have q7 : IntKind.i64.wrap ((i : Int) - 7) = (i : Int) - 7 := IntWalk.i64_in _ (by omega)
          have r15 : (0 : Int) ≤ (i : Int) - 15 ∧ (i : Int) - 15 < 64 := by omega
          have r2 : (0 : Int) ≤ (i : Int) - 2 ∧ (i : Int) - 2 < 64 := by omega
          have r16 : (0 : Int) ≤ (i : Int) - 16 ∧ (i : Int) - 16 < 64 := by omega
          have r7 : (0 : Int) ≤ (i : Int) - 7 ∧ (i : Int) - 7 < 64 := by omega
          have e16 : (16 : Int) ≤ (i : Int) := by omega
          have e7 : (7 : Int) ≤ (i : Int) := by omega
          have t15 : ((i : Int) - 15).toNat = i - 15 := by omega
          have t2 : ((i : Int) - 2).toNat = i - 2 := by omega
          have t16 : ((i : Int) - 16).toNat = i - 16 := by omega
          have t7 : ((i : Int) - 7).toNat = i - 7 := by omega
          have c15 : wr.cell? ⟨w.heap.size + 1 + 1, i - 15, none⟩ = some (.int .u32 ((wSched b (i - 15)).toNat : Int)) := (hB5.cell _).trans (wCells_at b i _ (by omega) (by omega))
          have c2 : wr.cell? ⟨w.heap.size + 1 + 1, i - 2, none⟩ = some (.int .u32 ((wSched b (i - 2)).toNat : Int)) := (hB5.cell _).trans (wCells_at b i _ (by omega) (by omega))
          have c16 : wr.cell? ⟨w.heap.size + 1 + 1, i - 16, none⟩ = some (.int .u32 ((wSched b (i - 16)).toNat : Int)) := (hB5.cell _).trans (wCells_at b i _ (by omega) (by omega))
          have c7 : wr.cell? ⟨w.heap.size + 1 + 1, i - 7, none⟩ = some (.int .u32 ((wSched b (i - 7)).toNat : Int)) := (hB5.cell _).trans (wCells_at b i _ (by omega) (by omega))
          have hws := wSched_hi (b := b) (t := i) (by omega)
          have HS := sec hws
          clear hws
          have hc : ∃ v, wr.cell? ⟨w.heap.size + 1 + 1, i, none⟩ = some v := ⟨_, (hB5.cell i).trans (Array.getElem?_eq_getElem (by rw [wCells_size]; omega))⟩
          obtain ⟨v5, hc5⟩ := hc
          have hf5 := hB5.frozen i
          have hi64 : (i : Int) < 64 := by omega
          go_wp2
          go_quiet (fail)
          go_wp2
          refine region_still_tail_w 29 (by kernel_rfl) (by kernel_rfl) ?_
          simp only [List.take_succ_cons, List.take_zero, List.drop_succ_cons, List.drop_zero]
          intro wd hwd
          have d16 : wd.cell? ⟨w.heap.size + 1 + 1, i - 16, none⟩ = some (.int .u32 ((wSched b (i - 16)).toNat : Int)) := by subst hwd; exact c16
          have d7 : wd.cell? ⟨w.heap.size + 1 + 1, i - 7, none⟩ = some (.int .u32 ((wSched b (i - 7)).toNat : Int)) := by subst hwd; exact c7
          have dc5 : wd.cell? ⟨w.heap.size + 1 + 1, i, none⟩ = some v5 := by subst hwd; exact hc5
          have df5 : wd.frozen? ⟨w.heap.size + 1 + 1, i, none⟩ = false := by subst hwd; exact hf5
          have D2 : Blk wd w.heap.size 138 (s8V s0) := by subst hwd; exact (hB2.drewN _).drew
          have D4 : Blk wd (w.heap.size + 1) 138 zero8 := by subst hwd; exact (hB4.drewN _).drew
          have D5 : Blk wd (w.heap.size + 1 + 1) 241 (wCells b i) := by subst hwd; exact (hB5.drewN _).drew
          have Dg : Gr w wd := by subst hwd; exact (hg.drewN _).drew
          clear hwd c16 c7 c15 c2 hc5 hf5 hB2 hB4 hB5 hg
          repeat (first | still_step | still_call (turn_any _ _ _ (by decide) (by decide)))
          refine wpStill_nil ?_
          go_wp2
          go_roundw
          case rel =>
            have h5 := D5.set_ i (u32V (wSched b i))
            rw [wCells_set, HS.out] at h5
            exact ⟨i + 1, by go_num, by omega, by omega, D2.far (by simp; omega) _, D4.far (by simp) _, h5, Dg.setCell (by simp; omega) _⟩
          case measure => simp [intOf]; omega
        · obtain rfl : i = 64 := by omega
          clear hlt hi hi0
          rw [show ((64 : Nat) : Int) = 64 from rfl]
          have k0 : wr.cell? ⟨w.heap.size, 0, none⟩ = some (.int .u32 (s0.a.toNat : Int)) := hB2.cell 0
          have k1 : wr.cell? ⟨w.heap.size, 1, none⟩ = some (.int .u32 (s0.b.toNat : Int)) := hB2.cell 1
          have k2 : wr.cell? ⟨w.heap.size, 2, none⟩ = some (.int .u32 (s0.c.toNat : Int)) := hB2.cell 2
          have k3 : wr.cell? ⟨w.heap.size, 3, none⟩ = some (.int .u32 (s0.d.toNat : Int)) := hB2.cell 3
          have k4 : wr.cell? ⟨w.heap.size, 4, none⟩ = some (.int .u32 (s0.e.toNat : Int)) := hB2.cell 4
          have k5 : wr.cell? ⟨w.heap.size, 5, none⟩ = some (.int .u32 (s0.f.toNat : Int)) := hB2.cell 5
          have k6 : wr.cell? ⟨w.heap.size, 6, none⟩ = some (.int .u32 (s0.g.toNat : Int)) := hB2.cell 6
          have k7 : wr.cell? ⟨w.heap.size, 7, none⟩ = some (.int .u32 (s0.h.toNat : Int)) := hB2.cell 7
          go_wp2_with fail
          obtain ⟨q, hq⟩ : ∃ q, q = wr.heap.size := ⟨_, rfl⟩
          have hql : w.heap.size + 1 + 1 < q := by have := hB5.lt; omega
          have E2 := hB2.alloc (.cells (s8V s0) 138)
          have E4 := hB4.alloc (.cells (s8V s0) 138)
          have E5 := hB5.alloc (.cells (s8V s0) 138)
          have Eg := hg.alloc (.cells (s8V s0) 138)
          have EN := Blk.new wr 138 (s8V s0)
          rw [← hq] at EN
          rw [← hq]
          clear hq k0 k1 k2 k3 k4 k5 k6 k7 hB2 hB4 hB5 hg
          go_loopw [94, 11, 12, 13, 14, 15] (fun iv _ _ _ _ _ wr => ∃ i : Nat, iv = .int .i64 i ∧ i ≤ 64 ∧ Blk wr w.heap.size 138 (s8V s0) ∧ Blk wr (w.heap.size + 1) 138 zero8 ∧ Blk wr (w.heap.size + 1 + 1) 241 (wCells b 64) ∧ Gr w wr ∧ Blk wr q 138 (s8V (rounds b s0 i)))
            (fun iv _ _ _ _ _ _ => 64 - (intOf iv).toNat)
          case atStart => exact ⟨0, rfl, by omega, E2, E4, E5, Eg, EN⟩
          case round =>
            clear E2 E4 E5 Eg EN
            obtain ⟨i, rfl, hi, hB2, hB4, hB5, hg, hBq⟩ := hrel
            by_cases hlt : i < 64
            · have hi64 : (i : Int) < 64 := by omega
              obtain ⟨S, hS⟩ : ∃ S, S = rounds b s0 i := ⟨_, rfl⟩
              have hSn : rounds b s0 (i + 1) = round (kAt i) (wSched b i) S := by rw [hS]; rfl
              rw [← hS] at hBq
              have HSn := sec hSn
              clear hS hSn
              have c0 : wr.cell? ⟨q, 0, none⟩ = some (.int .u32 (S.a.toNat : Int)) := hBq.cell 0
              have c4 : wr.cell? ⟨q, 4, none⟩ = some (.int .u32 (S.e.toNat : Int)) := hBq.cell 4
              go_wp2
              go_quiet (fail)
              go_wp2
              clear c0 c4
              refine region_still_tail_w 30 (by kernel_rfl) (by kernel_rfl) ?_
              simp only [List.take_succ_cons, List.take_zero, List.drop_succ_cons, List.drop_zero]
              intro wd hwd
              have D2 : Blk wd w.heap.size 138 (s8V s0) := by subst hwd; exact (hB2.drewN _).drew
              have D4 : Blk wd (w.heap.size + 1) 138 zero8 := by subst hwd; exact (hB4.drewN _).drew
              have D5 : Blk wd (w.heap.size + 1 + 1) 241 (wCells b 64) := by subst hwd; exact (hB5.drewN _).drew
              have Dq : Blk wd q 138 (s8V S) := by subst hwd; exact (hBq.drewN _).drew
              have Dg : Gr w wd := by subst hwd; exact (hg.drewN _).drew
              clear hwd hB2 hB4 hB5 hBq hg
              have c5 : wd.cell? ⟨q, 5, none⟩ = some (.int .u32 (S.f.toNat : Int)) := Dq.cell 5
              have c6 : wd.cell? ⟨q, 6, none⟩ = some (.int .u32 (S.g.toNat : Int)) := Dq.cell 6
              have c7 : wd.cell? ⟨q, 7, none⟩ = some (.int .u32 (S.h.toNat : Int)) := Dq.cell 7
              have ck : wd.cell? ⟨0, i, none⟩ = some (.int .u32 ((kAt i).toNat : Int)) := (hT.gr Dg).at_ i hlt
              have cw : wd.cell? ⟨w.heap.size + 1 + 1, i, none⟩ = some (.int .u32 ((wSched b i).toNat : Int)) := (D5.cell _).trans (wCells_at b 64 i hlt hlt)
              repeat (first | still_step | still_call (turn_any _ _ _ (by decide) (by decide)))
              refine wpStill_nil ?_
              go_wp2
              clear c5 c6 c7 ck cw
              refine region_still_tail_w 24 (by kernel_rfl) (by kernel_rfl) ?_
              simp only [List.take_succ_cons, List.take_zero, List.drop_succ_cons, List.drop_zero]
              intro we hwe
              have F2 : Blk we w.heap.size 138 (s8V s0) := by subst hwe; exact D2.drew
              have F4 : Blk we (w.heap.size + 1) 138 zero8 := by subst hwe; exact D4.drew
              have F5 : Blk we (w.heap.size + 1 + 1) 241 (wCells b 64) := by subst hwe; exact D5.drew
              have Fq : Blk we q 138 (s8V S) := by subst hwe; exact Dq.drew
              have Fg : Gr w we := by subst hwe; exact Dg.drew
              clear hwe D2 D4 D5 Dq Dg
              have c1 : we.cell? ⟨q, 1, none⟩ = some (.int .u32 (S.b.toNat : Int)) := Fq.cell 1
              have c2 : we.cell? ⟨q, 2, none⟩ = some (.int .u32 (S.c.toNat : Int)) := Fq.cell 2
              repeat (first | still_step | still_call (turn_any _ _ _ (by decide) (by decide)))
              refine wpStill_nil ?_
              go_wp2
              clear c1 c2
              refine region_still_tail_w 2 (by kernel_rfl) (by kernel_rfl) ?_
              simp only [List.take_succ_cons, List.take_zero, List.drop_succ_cons, List.drop_zero]
              intro wf hwf
              have G2 : Blk wf w.heap.size 138 (s8V s0) := by subst hwf; exact F2.drew
              have G4 : Blk wf (w.heap.size + 1) 138 zero8 := by subst hwf; exact F4.drew
              have G5 : Blk wf (w.heap.size + 1 + 1) 241 (wCells b 64) := by subst hwf; exact F5.drew
              have Gq : Blk wf q 138 (s8V S) := by subst hwf; exact Fq.drew
              have Gg : Gr w wf := by subst hwf; exact Fg.drew
              clear hwf F2 F4 F5 Fq Fg
              repeat still_step
              refine wpStill_nil ?_
              refine wpList_copy_splice rfl (.tmp 155) (.tmp 156) _ _ rfl 137 rfl rfl (some ⟨q, 1, none⟩) (some ⟨q, 0, none⟩) 7 7 7 8 rfl rfl q 1 [u32V S.a, u32V S.b, u32V S.c, u32V S.d, u32V S.e, u32V S.f, u32V S.g, u32V S.h] _ Gq [u32V S.a, u32V S.b, u32V S.c, u32V S.d, u32V S.e, u32V S.f, u32V S.g] rfl ?_ (by simp) ?_ q wf (RowKit.Below.refl _ _) (Nat.le_refl _) ?_
              · intro _
                refine ⟨rfl, _, rfl, ?_⟩
                intro j v h
                have hj : j < 7 := by obtain ⟨hl, _⟩ := List.getElem?_eq_some_iff.mp h; simpa using hl
                rw [show Addr.add ⟨q, 0, none⟩ j = ⟨q, j, none⟩ by simp [Addr.add]; omega, Gq.cell]
                match j, hj, h with
                | 0, _, h => exact h
                | 1, _, h => exact h
                | 2, _, h => exact h
                | 3, _, h => exact h
                | 4, _, h => exact h
                | 5, _, h => exact h
                | 6, _, h => exact h
              · intro v hv
                simp only [List.mem_cons, List.not_mem_nil, or_false] at hv
                rcases hv with rfl | rfl | rfl | rfl | rfl | rfl | rfl <;> rfl
              · intro wh hh hbl
                have Hq : Blk wh q 138 #[u32V S.a, u32V S.a, u32V S.b, u32V S.c, u32V S.d, u32V S.e, u32V S.f, u32V S.g] := hh
                have H2 := G2.below hbl (by omega)
                have H4 := G4.below hbl (by omega)
                have H5 := G5.below hbl (by omega)
                have Hg : Gr w wh := Gr.below (Below.trans Gg (Below.mono hbl (by omega)))
                clear hh hbl G2 G4 G5 Gq Gg
                have c4 : wh.cell? ⟨q, 4, none⟩ = some (.int .u32 (S.d.toNat : Int)) := Hq.cell 4
                have c0 : wh.cell? ⟨q, 0, none⟩ = some (.int .u32 (S.a.toNat : Int)) := Hq.cell 0
                have f4 := Hq.frozen 4
                have f0 := Hq.frozen 0
                go_wp2
                go_roundw
                case rel =>
                  have h5 := (Hq.set_ 4 (u32V (addW S.d (tW (kAt i) (wSched b i) S)))).set_ 0 (u32V (addW (tW (kAt i) (wSched b i) S) (uW S)))
                  have e : ((#[u32V S.a, u32V S.a, u32V S.b, u32V S.c, u32V S.d, u32V S.e, u32V S.f, u32V S.g] : Array Value).setIfInBounds 4 (u32V (addW S.d (tW (kAt i) (wSched b i) S)))).setIfInBounds 0 (u32V (addW (tW (kAt i) (wSched b i) S) (uW S))) = s8V (rounds b s0 (i + 1)) := by
                    rw [HSn.out, tW_eq, uW_eq]; rfl
                  rw [e] at h5
                  exact ⟨i + 1, by go_num, by omega, (H2.far (by simp; omega) _).far (by simp; omega) _, (H4.far (by simp; omega) _).far (by simp; omega) _, (H5.far (by simp; omega) _).far (by simp; omega) _, (Hg.setCell (by simp; omega) _).setCell (by simp; omega) _, h5⟩
                case measure => simp [intOf]; omega
            · obtain rfl : i = 64 := by omega
              clear hlt hi
              rw [show ((64 : Nat) : Int) = 64 from rfl]
              obtain ⟨S, hS⟩ : ∃ S, S = rounds b s0 64 := ⟨_, rfl⟩
              rw [← hS] at hBq
              have HSn := sec hS
              clear hS
              go_wp2_with fail
              go_loopw [168, 16] (fun iv _ wr => ∃ i : Nat, iv = .int .i64 i ∧ i ≤ 8 ∧ Blk wr w.heap.size 138 (addCells s0 S i) ∧ Blk wr (w.heap.size + 1) 138 zero8 ∧ Gr w wr ∧ Blk wr q 138 (s8V S))
                (fun iv _ _ => 8 - (intOf iv).toNat)
              case atStart => exact ⟨0, rfl, by omega, hB2, hB4, hg, hBq⟩
              case round =>
                clear hB2 hB4 hB5 hBq hg
                obtain ⟨i, rfl, hi, hB2, hB4, hg, hBq⟩ := hrel
                by_cases hlt : i < 8
                · have hi8 : (i : Int) < 8 := by omega
                  have c2 : wr.cell? ⟨w.heap.size, i, none⟩ = some (.int .u32 ((s0.list.getD i 0).toNat : Int)) := (hB2.cell i).trans (addCells_at s0 S i hlt)
                  have cq : wr.cell? ⟨q, i, none⟩ = some (.int .u32 ((S.list.getD i 0).toNat : Int)) := (hBq.cell i).trans (s8V_at S i hlt)
                  have f2 := hB2.frozen i
                  obtain ⟨x, hx⟩ : ∃ x, x = s0.list.getD i 0 := ⟨_, rfl⟩
                  obtain ⟨y, hy⟩ : ∃ y, y = S.list.getD i 0 := ⟨_, rfl⟩
                  rw [← hx] at c2
                  rw [← hy] at cq
                  have HX := sec hx
                  have HY := sec hy
                  clear hx hy
                  go_wp2
                  go_still_tail 8, (by kernel_rfl)
                  change wpList _ _ _ _ _ wr.drew
                  go_wp2
                  go_roundw
                  case rel =>
                    have h2 := hB2.drew.set_ i (u32V (addW (s0.list.getD i 0) (S.list.getD i 0)))
                    rw [addCells_set, ← HX.out, ← HY.out] at h2
                    exact ⟨i + 1, by go_num, by omega, h2, hB4.drew.far (by simp) _, hg.drew.setCell (by simp) _, hBq.drew.far (by simp; omega) _⟩
                  case measure => simp [intOf]; omega
                · obtain rfl : i = 8 := by omega
                  clear hlt hi
                  rw [show ((8 : Nat) : Int) = 8 from rfl]
                  have e8 : addCells s0 S 8 = s8V (blockS s0 b) := by rw [HSn.out]; rfl
                  rw [e8] at hB2
                  clear e8
                  obtain ⟨R, hR⟩ : ∃ R, R = blockS s0 b := ⟨_, rfl⟩
                  rw [← hR] at hB2
                  have HR := sec hR
                  clear hR HSn
                  have k0 : wr.cell? ⟨w.heap.size, 0, none⟩ = some (.int .u32 (R.a.toNat : Int)) := hB2.cell 0
                  have k1 : wr.cell? ⟨w.heap.size, 1, none⟩ = some (.int .u32 (R.b.toNat : Int)) := hB2.cell 1
                  have k2 : wr.cell? ⟨w.heap.size, 2, none⟩ = some (.int .u32 (R.c.toNat : Int)) := hB2.cell 2
                  have k3 : wr.cell? ⟨w.heap.size, 3, none⟩ = some (.int .u32 (R.d.toNat : Int)) := hB2.cell 3
                  have k4 : wr.cell? ⟨w.heap.size, 4, none⟩ = some (.int .u32 (R.e.toNat : Int)) := hB2.cell 4
                  have k5 : wr.cell? ⟨w.heap.size, 5, none⟩ = some (.int .u32 (R.f.toNat : Int)) := hB2.cell 5
                  have k6 : wr.cell? ⟨w.heap.size, 6, none⟩ = some (.int .u32 (R.g.toNat : Int)) := hB2.cell 6
                  have k7 : wr.cell? ⟨w.heap.size, 7, none⟩ = some (.int .u32 (R.h.toNat : Int)) := hB2.cell 7
                  have z0 : wr.cell? ⟨w.heap.size + 1, 0, none⟩ = some (.int .u32 0) := hB4.cell 0
                  have z1 : wr.cell? ⟨w.heap.size + 1, 1, none⟩ = some (.int .u32 0) := hB4.cell 1
                  have z2 : wr.cell? ⟨w.heap.size + 1, 2, none⟩ = some (.int .u32 0) := hB4.cell 2
                  have z3 : wr.cell? ⟨w.heap.size + 1, 3, none⟩ = some (.int .u32 0) := hB4.cell 3
                  have z4 : wr.cell? ⟨w.heap.size + 1, 4, none⟩ = some (.int .u32 0) := hB4.cell 4
                  have z5 : wr.cell? ⟨w.heap.size + 1, 5, none⟩ = some (.int .u32 0) := hB4.cell 5
                  have z6 : wr.cell? ⟨w.heap.size + 1, 6, none⟩ = some (.int .u32 0) := hB4.cell 6
                  have z7 : wr.cell? ⟨w.heap.size + 1, 7, none⟩ = some (.int .u32 0) := hB4.cell 7
                  have f0 := hB4.frozen 0
                  have f1 := hB4.frozen 1
                  have f2 := hB4.frozen 2
                  have f3 := hB4.frozen 3
                  have f4 := hB4.frozen 4
                  have f5 := hB4.frozen 5
                  have f6 := hB4.frozen 6
                  have f7 := hB4.frozen 7
                  go_wp2
                  have hz := (((((((hB4.set_ 0 (u32V R.a)).set_ 1 (u32V R.b)).set_ 2 (u32V R.c)).set_ 3 (u32V R.d)).set_ 4 (u32V R.e)).set_ 5 (u32V R.f)).set_ 6 (u32V R.g)).set_ 7 (u32V R.h)
                  have ez : (((((((zero8.setIfInBounds 0 (u32V R.a)).setIfInBounds 1 (u32V R.b)).setIfInBounds 2 (u32V R.c)).setIfInBounds 3 (u32V R.d)).setIfInBounds 4 (u32V R.e)).setIfInBounds 5 (u32V R.f)).setIfInBounds 6 (u32V R.g)).setIfInBounds 7 (u32V R.h) = s8V R := rfl
                  rw [ez] at hz
                  refine bodyPost_ret (results_cell_row rfl _ _ (w.heap.size + 1) _ (s8V R) (0, 0) _ rfl hz rfl rfl rfl) rfl ?_
                  rw [HR.out]
                  exact ⟨rfl, (((((((hg.setCell (by simp) _).setCell (by simp) _).setCell (by simp) _).setCell (by simp) _).setCell (by simp) _).setCell (by simp) _).setCell (by simp) _).setCell (by simp) _⟩
end Go.Proofs.YtdpombnelangjaaGreatDoor

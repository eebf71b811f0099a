/-
  cartularyref.Block by its contract.
-/
import Derived.Test.YtdpombnelangjaaGreatDoorRSha
import Derived.Test.YtdpombnelangjaaGreatDoorRingL
import Derived.Test.YtdpombnelangjaaGreatDoorBlock
namespace Go.Proofs.YtdpombnelangjaaGreatDoor
open Go.RowKit
theorem rword_any' (b : List UInt8) (m : Nat) (n : Int) (w : World) (hn : n = (m : Int)) (h : m + 4 ≤ b.length) (h63 : b.length < 9223372036854775807) :
    Calls Tryz.prog 163 #[.string (bs b), .int .i64 n] w fun e w' => e = .returned (.int .u32 ((wordAt b m).toNat : Int)) ∧ Gr w w' := by
  subst hn
  exact rword_any b m w h h63
theorem Blk.setRow_far {w : World} {g k : Nat} {t : TypeId} {cs : Array Value} (h : Blk w g t cs) (hk : g ≠ k) (ds : Array Value) : Blk (w.setRow k ds) g t cs := (setRow_other w k g ds hk).trans h
theorem Blk.new' {w : World} {g : Nat} (h : g = w.heap.size) (t : TypeId) (cs : Array Value) : Blk (w.alloc (.cells cs t)) g t cs := by
  subst h
  exact Blk.new w t cs

theorem w_mod (x : UInt32) : (x.toNat : Int) % 4294967296 = (x.toNat : Int) := by have := x.toNat_lt; omega
theorem w_wrap (x : UInt32) : IntKind.u32.wrap (x.toNat : Int) = (x.toNat : Int) := by rw [IntKind.wrap_u32]; exact w_mod x
attribute [go_sem] w_mod w_wrap
set_option maxRecDepth 100000 in
set_option maxHeartbeats 4000000 in
theorem rblock_any (s0 : S8) (b : List UInt8) (w : World) (hb : b.length = 64) :
    Calls Tryz.prog 120 #[.agg (s8V s0), .string (bs b)] w fun e w' => e = .returned (.agg (s8V (blockS s0 b))) ∧ Gr w w' := by
  have hb1 : (b.length : Int) = 64 := by omega
  unfold s8V
  go_enter Tryz.func120, Tryz.ntmps120
  go_wp2_with (first
    | (go_at_call 162; refine (rounds_any _).mono ?_; rintro e w1 ⟨rfl, g1⟩)
    | refine wpList_store_row rfl 241 (.tmp 6) (.tmp 24) rfl _ kCells rfl rfl _ _ (Blk.new _ _ _) (by kernel_rfl) (by kernel_rfl) (by kernel_rfl) ?_
    | fail)
  have h2 : Blk w1 w.heap.size 138 (s8V s0) := Blk.gr ((Blk.new w _ _).alloc _) g1
  have h4 : Blk w1 (w.heap.size + 1) 138 zero8 := by
    have := Blk.new (w.alloc (.cells (s8V s0) 138)) 138 zero8
    rw [World.size_alloc] at this
    exact this.gr g1
  have hg0 : Gr w w1 := (((Gr.refl w).alloc _).alloc _).trans g1
  have hk : w.heap.size + 1 < w1.heap.size := h4.lt
  clear g1
  obtain ⟨k, hkk⟩ : ∃ k, k = w1.heap.size := ⟨_, rfl⟩
  rw [← hkk] at hk
  rw [← hkk]
  go_loopw [25, 8] (fun iv _ wr => ∃ i : Nat, iv = .int .i64 i ∧ i ≤ 16 ∧ Blk wr w.heap.size 138 (s8V s0) ∧ Blk wr (w.heap.size + 1) 138 zero8 ∧ Blk wr k 241 kCells ∧ Blk wr (k + 1) 245 (rCells b i) ∧ Gr w wr)
    (fun iv _ _ => 16 - (intOf iv).toNat)
  case atStart =>
    subst hkk
    refine ⟨0, rfl, by omega, ((h2.alloc _).setRow_far (by omega) _).alloc _, ((h4.alloc _).setRow_far (by omega) _).alloc _, Blk.alloc (setRow_heap _ _ _ kCells _ _ (Blk.new w1 _ _)) _, ?_, Gr.alloc (below_setRow (hg0.alloc _) (by omega) _) _⟩
    rw [rCells_zero]
    refine Blk.new' ?_ _ _
    rw [size_setRow, World.size_alloc]
  case round =>
    clear h2 h4 hg0 hkk
    obtain ⟨i, rfl, hi, hB2, hB4, hBk, hBr, hg⟩ := hrel
    by_cases hlt : i < 16
    · have q0 : IntKind.i64.wrap (4 * (i : Int)) = 4 * (i : Int) := IntWalk.i64_in _ (by omega)
      have hi16 : (i : Int) < 16 := by omega
      have hws : wSched b i = wordAt b (4 * i) := wSched_lo hlt
      have HS := sec hws
      clear hws
      go_wp2_with (
        (go_at_call 163; refine (rword_any' b (4 * i) _ _ (by omega) (by omega) (by omega)).mono ?_; rintro e w3 ⟨rfl, g3⟩; have hc : ∃ v, w3.cell? ⟨k + 1, i, none⟩ = some v := ⟨_, ((hBr.gr g3).cell i).trans (Array.getElem?_eq_getElem (by rw [rCells_size]; omega))⟩; obtain ⟨v5, hc5⟩ := hc; have hf5 := (hBr.gr g3).frozen i))
      go_roundw
      case rel =>
        have h5 := (hBr.gr g3).set_ i (u32V (wSched b i))
        rw [rCells_set, HS.out] at h5
        exact ⟨i + 1, by go_num, by omega, (hB2.gr g3).far (by simp; omega) _, (hB4.gr g3).far (by simp; omega) _, (hBk.gr g3).far (by simp) _, h5, (hg.trans g3).setCell (by simp; omega) _⟩
      case measure => simp [intOf]; omega
    · obtain rfl : i = 16 := by omega
      clear hlt hi
      rw [show ((16 : Nat) : Int) = 16 from rfl]
      rw [ring_start] at hBr
      have k0 : wr.cell? ⟨w.heap.size, 0, none⟩ = some (.int .u32 (s0.a.toNat : Int)) := hB2.cell 0
      have k1 : wr.cell? ⟨w.heap.size, 1, none⟩ = some (.int .u32 (s0.b.toNat : Int)) := hB2.cell 1
      have k2 : wr.cell? ⟨w.heap.size, 2, none⟩ = some (.int .u32 (s0.c.toNat : Int)) := hB2.cell 2
      have k3 : wr.cell? ⟨w.heap.size, 3, none⟩ = some (.int .u32 (s0.d.toNat : Int)) := hB2.cell 3
      have k4 : wr.cell? ⟨w.heap.size, 4, none⟩ = some (.int .u32 (s0.e.toNat : Int)) := hB2.cell 4
      have k5 : wr.cell? ⟨w.heap.size, 5, none⟩ = some (.int .u32 (s0.f.toNat : Int)) := hB2.cell 5
      have k6 : wr.cell? ⟨w.heap.size, 6, none⟩ = some (.int .u32 (s0.g.toNat : Int)) := hB2.cell 6
      have k7 : wr.cell? ⟨w.heap.size, 7, none⟩ = some (.int .u32 (s0.h.toNat : Int)) := hB2.cell 7
      go_wp2_with fail
      go_quiet (fail)
      go_wp2_with fail
      have E2 := hB2.drewN nq
      have E4 := hB4.drewN nq
      have Ek := hBk.drewN nq
      have Er := hBr.drewN nq
      have Eg := hg.drewN nq
      clear hB2 hB4 hBk hBr hg k0 k1 k2 k3 k4 k5 k6 k7
      go_loopw [51, 9, 10, 11, 12, 13, 14, 15, 16, 17, 18, 19, 20, 21, 22, 23] (fun iv va vb vc vd ve vf vg vh _ _ _ _ _ _ _ wr => ∃ i : Nat, iv = .int .i64 i ∧ i ≤ 64 ∧
          va = .int .u32 ((rounds b s0 i).a.toNat : Int) ∧ vb = .int .u32 ((rounds b s0 i).b.toNat : Int) ∧ vc = .int .u32 ((rounds b s0 i).c.toNat : Int) ∧ vd = .int .u32 ((rounds b s0 i).d.toNat : Int) ∧ ve = .int .u32 ((rounds b s0 i).e.toNat : Int) ∧ vf = .int .u32 ((rounds b s0 i).f.toNat : Int) ∧ vg = .int .u32 ((rounds b s0 i).g.toNat : Int) ∧ vh = .int .u32 ((rounds b s0 i).h.toNat : Int) ∧
          Blk wr w.heap.size 138 (s8V s0) ∧ Blk wr (w.heap.size + 1) 138 zero8 ∧ Blk wr k 241 kCells ∧ Blk wr (k + 1) 245 (ring b (max i 16)) ∧ Gr w wr)
        (fun iv _ _ _ _ _ _ _ _ _ _ _ _ _ _ _ _ => 64 - (intOf iv).toNat)
      case atStart => exact ⟨0, rfl, by omega, rfl, rfl, rfl, rfl, rfl, rfl, rfl, rfl, E2, E4, Ek, Er, Eg⟩
      case round =>
        clear E2 E4 Ek Er Eg
        obtain ⟨i, rfl, hi, rfl, rfl, rfl, rfl, rfl, rfl, rfl, rfl, hB2, hB4, hBk, hBr, hg⟩ := hrel
        obtain ⟨S, hS⟩ : ∃ S, S = rounds b s0 i := ⟨_, rfl⟩
        rw [← hS]
        by_cases hlt : i < 64
        · have hSn : rounds b s0 (i + 1) = round (kAt i) (wSched b i) S := by rw [hS]; rfl
          have HSn := sec hSn
          clear hS hSn
          have hi64 : (i : Int) < 64 := by omega
          have tm : ((i : Int) % 16).toNat = i % 16 := by omega
          have hj0 : (0 : Int) ≤ (i : Int) % 16 := by omega
          have hj1 : (i : Int) % 16 < 16 := by omega
          have hj : (0 : Int) ≤ (i : Int) % 16 ∧ (i : Int) % 16 < 16 := ⟨hj0, hj1⟩
          by_cases h16 : i < 16
          · have hi16 : ¬ (16 : Int) ≤ (i : Int) := by omega
            go_wp2_with fail
            have hmx : max i 16 = max (i + 1) 16 := by omega
            rw [hmx] at hBr
            clear hmx hi16
            refine region_still_tail_w 23 (by kernel_rfl) (by kernel_rfl) ?_
            simp only [List.take_succ_cons, List.take_zero, List.drop_succ_cons, List.drop_zero]
            intro wd hwd
            have D2 : Blk wd w.heap.size 138 (s8V s0) := by subst hwd; exact hB2.drew
            have D4 : Blk wd (w.heap.size + 1) 138 zero8 := by subst hwd; exact hB4.drew
            have Dk : Blk wd k 241 kCells := by subst hwd; exact hBk.drew
            have Dr : Blk wd (k + 1) 245 (ring b (max (i + 1) 16)) := by subst hwd; exact hBr.drew
            have Dg : Gr w wd := by subst hwd; exact hg.drew
            clear hwd hB2 hB4 hBk hBr hg
            have ck : wd.cell? ⟨k, i, none⟩ = some (.int .u32 ((kAt i).toNat : Int)) := (Dk.cell i).trans (kCells_at i hlt)
            have cr : wd.cell? ⟨k + 1, i % 16, none⟩ = some (.int .u32 ((wSched b i).toNat : Int)) := (Dr.cell _).trans (ring_at b _ _ i (by omega) (by unfold rIdx; omega))
            repeat (first | still_step | still_call (rturn_any _ _ _ (by decide) (by decide)))
            refine wpStill_nil ?_
            go_wp2_with (first
              | (go_at_call 161; refine (rturn_any _ _ _ (by decide) (by decide)).mono ?_; rintro e wz ⟨rfl, rfl⟩))
            go_roundw
            case rel =>
              have ea := aW_eq (kAt i) (wSched b i) S
              have ey := yW_eq (kAt i) (wSched b i) S
              have hr := HSn.out
              refine ⟨i + 1, by go_num, by omega, ?_, ?_, ?_, ?_, ?_, ?_, ?_, ?_, D2, D4, Dk, Dr, Dg⟩
              · rw [hr]; exact congrArg (fun x : UInt32 => Value.int .u32 (x.toNat : Int)) ea
              · rw [hr]; rfl
              · rw [hr]; rfl
              · rw [hr]; rfl
              · rw [hr]; exact congrArg (fun x : UInt32 => Value.int .u32 ((S.d + x).toNat : Int)) ey
              · rw [hr]; rfl
              · rw [hr]; rfl
              · rw [hr]; rfl
            case measure => simp [intOf]; omega
          · have e16 : (16 : Int) ≤ (i : Int) := by omega
            have hmx : max i 16 = i := by omega
            have hmx' : max (i + 1) 16 = i + 1 := by omega
            rw [hmx] at hBr
            have HM := sec hmx'
            clear hmx hmx'
            have q1 : IntKind.i64.wrap ((i : Int) + 1) = (i : Int) + 1 := IntWalk.i64_in _ (by omega)
            have q14 : IntKind.i64.wrap ((i : Int) + 14) = (i : Int) + 14 := IntWalk.i64_in _ (by omega)
            have q9 : IntKind.i64.wrap ((i : Int) + 9) = (i : Int) + 9 := IntWalk.i64_in _ (by omega)
            have p1 : (0 : Int) ≤ (i : Int) + 1 := by omega
            have p14 : (0 : Int) ≤ (i : Int) + 14 := by omega
            have p9 : (0 : Int) ≤ (i : Int) + 9 := by omega
            have t1 : (((i : Int) + 1) % 16).toNat = (i + 1) % 16 := by omega
            have t14 : (((i : Int) + 14) % 16).toNat = (i + 14) % 16 := by omega
            have t9 : (((i : Int) + 9) % 16).toNat = (i + 9) % 16 := by omega
            have r1 : (0 : Int) ≤ ((i : Int) + 1) % 16 ∧ ((i : Int) + 1) % 16 < 16 := by omega
            have r14 : (0 : Int) ≤ ((i : Int) + 14) % 16 ∧ ((i : Int) + 14) % 16 < 16 := by omega
            have r9 : (0 : Int) ≤ ((i : Int) + 9) % 16 ∧ ((i : Int) + 9) % 16 < 16 := by omega
            have cp : wr.cell? ⟨k + 1, (i + 1) % 16, none⟩ = some (.int .u32 ((wSched b (i - 15)).toNat : Int)) := (hBr.cell _).trans (ring_at b i _ _ (by omega) (rIdx_1 i (by omega) hlt))
            have cq : wr.cell? ⟨k + 1, (i + 14) % 16, none⟩ = some (.int .u32 ((wSched b (i - 2)).toNat : Int)) := (hBr.cell _).trans (ring_at b i _ _ (by omega) (rIdx_14 i (by omega) hlt))
            obtain ⟨P, hP⟩ : ∃ P, P = wSched b (i - 15) := ⟨_, rfl⟩
            obtain ⟨R, hR⟩ : ∃ R, R = wSched b (i - 2) := ⟨_, rfl⟩
            rw [← hP] at cp
            rw [← hR] at cq
            have hws := wSched_hi (b := b) (t := i) h16
            rw [← hP, ← hR] at hws
            have HS := sec hws
            clear hws hP hR
            go_wp2_with fail
            go_quiet (fail)
            go_wp2_with fail
            refine region_still_tail_w 15 (by kernel_rfl) (by kernel_rfl) ?_
            simp only [List.take_succ_cons, List.take_zero, List.drop_succ_cons, List.drop_zero]
            intro wa hwa
            have A2 : Blk wa w.heap.size 138 (s8V s0) := by subst hwa; exact (hB2.drewN _).drew
            have A4 : Blk wa (w.heap.size + 1) 138 zero8 := by subst hwa; exact (hB4.drewN _).drew
            have Ak : Blk wa k 241 kCells := by subst hwa; exact (hBk.drewN _).drew
            have Ar : Blk wa (k + 1) 245 (ring b i) := by subst hwa; exact (hBr.drewN _).drew
            have Ag : Gr w wa := by subst hwa; exact (hg.drewN _).drew
            clear hwa hB2 hB4 hBk hBr hg cp cq
            have ca : wa.cell? ⟨k + 1, i % 16, none⟩ = some (.int .u32 ((wSched b (i - 16)).toNat : Int)) := (Ar.cell _).trans (ring_at b i _ _ (by omega) (rIdx_0 i (by omega)))
            have fa := Ar.frozen (i % 16)
            repeat (first | still_step | still_call (rturn_any _ _ _ (by decide) (by decide)))
            refine wpStill_nil ?_
            go_wp2_with fail
            refine region_still_tail_w 10 (by kernel_rfl) (by kernel_rfl) ?_
            simp only [List.take_succ_cons, List.take_zero, List.drop_succ_cons, List.drop_zero]
            intro wb hwb
            obtain ⟨v1, hv1⟩ : ∃ v1, v1 = addW (wSched b (i - 16)) (xorW (xorW (rotr P 7) (rotr P 18)) (shr P 3)) := ⟨_, rfl⟩
            have B2 : Blk wb w.heap.size 138 (s8V s0) := by subst hwb; exact (A2.far (by simp; omega) _).drew
            have B4 : Blk wb (w.heap.size + 1) 138 zero8 := by subst hwb; exact (A4.far (by simp; omega) _).drew
            have Bk : Blk wb k 241 kCells := by subst hwb; exact (Ak.far (by simp) _).drew
            have Br : Blk wb (k + 1) 245 ((ring b i).setIfInBounds (i % 16) (u32V v1)) := by subst hwb; subst hv1; exact (Ar.set_ _ _).drew
            have Bg : Gr w wb := by subst hwb; exact (Ag.setCell (by simp; omega) _).drew
            clear hwb A2 A4 Ak Ar Ag ca fa
            have cb : wb.cell? ⟨k + 1, i % 16, none⟩ = some (.int .u32 (v1.toNat : Int)) := (Br.cell _).trans (by rw [Array.getElem?_setIfInBounds_self_of_lt (by rw [ring_size]; omega)]; rfl)
            have c9 : wb.cell? ⟨k + 1, (i + 9) % 16, none⟩ = some (.int .u32 ((wSched b (i - 7)).toNat : Int)) := (Br.cell _).trans (by rw [Array.getElem?_setIfInBounds_ne (by omega)]; exact ring_at b i _ _ (by omega) (rIdx_9 i (by omega) hlt))
            have fb := Br.frozen (i % 16)
            have m9 : ((i : Int) + 9).tmod 16 = ((i : Int) + 9) % 16 := Int.tmod_eq_emod_of_nonneg (by omega)
            have HV1 := sec hv1
            clear hv1
            repeat still_step
            refine wpStill_nil ?_
            go_wp2_with fail
            refine region_still_tail_w 15 (by kernel_rfl) (by kernel_rfl) ?_
            simp only [List.take_succ_cons, List.take_zero, List.drop_succ_cons, List.drop_zero]
            intro wc hwc
            obtain ⟨v2, hv2⟩ : ∃ v2, v2 = addW v1 (wSched b (i - 7)) := ⟨_, rfl⟩
            have C2 : Blk wc w.heap.size 138 (s8V s0) := by subst hwc; exact (B2.far (by simp; omega) _).drew
            have C4 : Blk wc (w.heap.size + 1) 138 zero8 := by subst hwc; exact (B4.far (by simp; omega) _).drew
            have Ck : Blk wc k 241 kCells := by subst hwc; exact (Bk.far (by simp) _).drew
            have Cr : Blk wc (k + 1) 245 ((ring b i).setIfInBounds (i % 16) (u32V v2)) := by
              subst hwc; subst hv2
              have := (Br.set_ (i % 16) (u32V (addW v1 (wSched b (i - 7))))).drew
              rw [Array.setIfInBounds_setIfInBounds] at this
              exact this
            have Cg : Gr w wc := by subst hwc; exact (Bg.setCell (by simp; omega) _).drew
            clear hwc B2 B4 Bk Br Bg cb c9 fb
            have cc : wc.cell? ⟨k + 1, i % 16, none⟩ = some (.int .u32 (v2.toNat : Int)) := (Cr.cell _).trans (by rw [Array.getElem?_setIfInBounds_self_of_lt (by rw [ring_size]; omega)]; rfl)
            have fc := Cr.frozen (i % 16)
            have HV2 := sec hv2
            clear hv2
            repeat (first | still_step | still_call (rturn_any _ _ _ (by decide) (by decide)))
            refine wpStill_nil ?_
            go_wp2_with fail
            refine region_still_tail_w 23 (by kernel_rfl) (by kernel_rfl) ?_
            simp only [List.take_succ_cons, List.take_zero, List.drop_succ_cons, List.drop_zero]
            intro wd hwd
            have D2 : Blk wd w.heap.size 138 (s8V s0) := by subst hwd; exact (C2.far (by simp; omega) _).drew
            have D4 : Blk wd (w.heap.size + 1) 138 zero8 := by subst hwd; exact (C4.far (by simp; omega) _).drew
            have Dk : Blk wd k 241 kCells := by subst hwd; exact (Ck.far (by simp) _).drew
            have Dr : Blk wd (k + 1) 245 (ring b (max (i + 1) 16)) := by
              subst hwd
              have h5 := (Cr.set_ (i % 16) (u32V (addW v2 (xorW (xorW (rotr R 17) (rotr R 19)) (shr R 10))))).drew
              have e5 : ((ring b i).setIfInBounds (i % 16) (u32V v2)).setIfInBounds (i % 16) (u32V (addW v2 (xorW (xorW (rotr R 17) (rotr R 19)) (shr R 10)))) = ring b (i + 1) := by
                rw [Array.setIfInBounds_setIfInBounds, show addW v2 (xorW (xorW (rotr R 17) (rotr R 19)) (shr R 10)) = wSched b i by rw [HV2.out, HV1.out, HS.out]; rfl, ring_set b i (by omega) (by omega)]
              rw [e5] at h5
              rw [HM.out]
              exact h5
            have Dg : Gr w wd := by subst hwd; exact (Cg.setCell (by simp; omega) _).drew
            clear hwd C2 C4 Ck Cr Cg cc fc q1 q14 q9 m9 p1 p14 p9 t1 t14 t9 r1 r14 r9
            have ck : wd.cell? ⟨k, i, none⟩ = some (.int .u32 ((kAt i).toNat : Int)) := (Dk.cell i).trans (kCells_at i hlt)
            have cr : wd.cell? ⟨k + 1, i % 16, none⟩ = some (.int .u32 ((wSched b i).toNat : Int)) := (Dr.cell _).trans (ring_at b _ _ i (by omega) (by unfold rIdx; omega))
            repeat (first | still_step | still_call (rturn_any _ _ _ (by decide) (by decide)))
            refine wpStill_nil ?_
            go_wp2_with (first
              | (go_at_call 161; refine (rturn_any _ _ _ (by decide) (by decide)).mono ?_; rintro e wz ⟨rfl, rfl⟩))
            go_roundw
            case rel =>
              have ea := aW_eq (kAt i) (wSched b i) S
              have ey := yW_eq (kAt i) (wSched b i) S
              have hr := HSn.out
              refine ⟨i + 1, by go_num, by omega, ?_, ?_, ?_, ?_, ?_, ?_, ?_, ?_, D2, D4, Dk, Dr, Dg⟩
              · rw [hr]; exact congrArg (fun x : UInt32 => Value.int .u32 (x.toNat : Int)) ea
              · rw [hr]; rfl
              · rw [hr]; rfl
              · rw [hr]; rfl
              · rw [hr]; exact congrArg (fun x : UInt32 => Value.int .u32 ((S.d + x).toNat : Int)) ey
              · rw [hr]; rfl
              · rw [hr]; rfl
              · rw [hr]; rfl
            case measure => simp [intOf]; omega
        · obtain rfl : i = 64 := by omega
          clear hlt hi
          rw [show ((64 : Nat) : Int) = 64 from rfl]
          have HSn := sec hS
          clear hS
          have k0 : wr.cell? ⟨w.heap.size, 0, none⟩ = some (.int .u32 (s0.a.toNat : Int)) := hB2.cell 0
          have k1 : wr.cell? ⟨w.heap.size, 1, none⟩ = some (.int .u32 (s0.b.toNat : Int)) := hB2.cell 1
          have k2 : wr.cell? ⟨w.heap.size, 2, none⟩ = some (.int .u32 (s0.c.toNat : Int)) := hB2.cell 2
          have k3 : wr.cell? ⟨w.heap.size, 3, none⟩ = some (.int .u32 (s0.d.toNat : Int)) := hB2.cell 3
          have k4 : wr.cell? ⟨w.heap.size, 4, none⟩ = some (.int .u32 (s0.e.toNat : Int)) := hB2.cell 4
          have k5 : wr.cell? ⟨w.heap.size, 5, none⟩ = some (.int .u32 (s0.f.toNat : Int)) := hB2.cell 5
          have k6 : wr.cell? ⟨w.heap.size, 6, none⟩ = some (.int .u32 (s0.g.toNat : Int)) := hB2.cell 6
          have k7 : wr.cell? ⟨w.heap.size, 7, none⟩ = some (.int .u32 (s0.h.toNat : Int)) := hB2.cell 7
          go_wp2_with (refine wpList_store_row rfl 138 (.tmp 4) (.tmp 204) rfl (w.heap.size + 1) (s8V (addS s0 S)) rfl (by rfl) _ _ hB4 (by kernel_rfl) (by kernel_rfl) (by kernel_rfl) ?_)
          refine bodyPost_ret (results_cell_row rfl _ _ (w.heap.size + 1) _ (s8V (addS s0 S)) (0, 0) _ rfl (setRow_heap _ _ _ _ _ _ hB4) rfl rfl (by kernel_rfl)) rfl ?_
          refine ⟨?_, below_setRow hg (by omega) _⟩
          rw [HSn.out]
          rfl
end Go.Proofs.YtdpombnelangjaaGreatDoor

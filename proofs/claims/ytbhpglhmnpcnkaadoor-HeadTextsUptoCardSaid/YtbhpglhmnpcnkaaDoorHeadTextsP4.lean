/-
  What the walk of cartularylaw.HeadTexts leans on, part 4 of 7: contracts and plain laws. No conditions.
-/
import Derived.Test.YtbhpglhmnpcnkaaDoorHeadTextsP3
import Derived.Deep.RegionHeld3
import Derived.Test.YtbhpglhmnpcnkaaDoorHeadTextsP1
import Derived.Test.YtbhpglhmnpcnkaaDoorHeadTextsP2
import Derived.StillTailTactics
namespace Go.Proofs.YtbhpglhmnpcnkaaDoor

/-- the ring while it is filled -/
def rCells (b : List UInt8) (n : Nat) : Array Value := ((List.range 16).map fun m => u32V (if m < n then wSched b m else 0)).toArray
theorem rCells_size (b : List UInt8) (n : Nat) : (rCells b n).size = 16 := by unfold rCells; simp
theorem rCells_zero (b : List UInt8) : rCells b 0 = #[.int .u32 0, .int .u32 0, .int .u32 0, .int .u32 0, .int .u32 0, .int .u32 0, .int .u32 0, .int .u32 0, .int .u32 0, .int .u32 0, .int .u32 0, .int .u32 0, .int .u32 0, .int .u32 0, .int .u32 0, .int .u32 0] := by kernel_rfl
theorem rCells_set (b : List UInt8) (n : Nat) : (rCells b n).setIfInBounds n (u32V (wSched b n)) = rCells b (n + 1) := by
  unfold rCells
  rw [List.setIfInBounds_toArray]
  congr 1
  apply List.ext_getElem
  · simp
  · intro i h1 h2
    rw [List.getElem_set]
    simp at h1 h2
    by_cases e : n = i
    · subst e; simp
    · have : (i < n) ↔ (i < n + 1) := by omega
      simp [e, this]

/-- the word that lies in slot j ahead of round t (16 ≤ t) -/
def rIdx (t j : Nat) : Nat := t - 16 + (j + 1024 - t) % 16
def ring (b : List UInt8) (t : Nat) : Array Value := ((List.range 16).map fun j => u32V (wSched b (rIdx t j))).toArray
theorem ring_size (b : List UInt8) (n : Nat) : (ring b n).size = 16 := by unfold ring; simp
theorem ring_start (b : List UInt8) : rCells b 16 = ring b 16 := by
  unfold rCells ring
  refine congrArg List.toArray (List.map_congr_left ?_)
  intro j hj
  have : j < 16 := by simpa using hj
  have e : rIdx 16 j = j := by unfold rIdx; omega
  simp [this, e]
theorem ring_at (b : List UInt8) (t j m : Nat) (hj : j < 16) (hm : rIdx t j = m) : (ring b t)[j]? = some (.int .u32 ((wSched b m).toNat : Int)) := by
  subst hm
  unfold ring
  simp [hj, u32V]
theorem ring_set (b : List UInt8) (t : Nat) (h : 16 ≤ t) (h' : t < 1024) : (ring b t).setIfInBounds (t % 16) (u32V (wSched b t)) = ring b (t + 1) := by
  unfold ring
  rw [List.setIfInBounds_toArray]
  congr 1
  apply List.ext_getElem
  · simp
  · intro i h1 h2
    rw [List.getElem_set]
    simp at h1 h2
    by_cases e : t % 16 = i
    · have : rIdx (t + 1) i = t := by unfold rIdx; omega
      simp [e, this]
    · have : rIdx (t + 1) i = rIdx t i := by unfold rIdx; omega
      simp [e, this]
theorem rIdx_0 (i : Nat) : i < 1024 → rIdx i (i % 16) = i - 16 := by intro _; unfold rIdx; omega
theorem rIdx_1 (i : Nat) (h : 16 ≤ i) (h' : i < 64) : rIdx i ((i + 1) % 16) = i - 15 := by unfold rIdx; omega
theorem rIdx_14 (i : Nat) (h : 16 ≤ i) (h' : i < 64) : rIdx i ((i + 14) % 16) = i - 2 := by unfold rIdx; omega
theorem rIdx_9 (i : Nat) (h : 16 ≤ i) (h' : i < 64) : rIdx i ((i + 9) % 16) = i - 7 := by unfold rIdx; omega
/-! ### the document's round as the walk spells it -/
def yW (k w : UInt32) (s : S8) : UInt32 := addW (addW (addW (addW s.h (xorW (xorW (rotr s.e 6) (rotr s.e 11)) (rotr s.e 25))) (xorW s.g (andW s.e (xorW s.f s.g)))) k) w
theorem yW_eq (k w : UInt32) (s : S8) : yW k w s = tOf k w s := by
  unfold yW tOf
  rw [show xorW s.g (andW s.e (xorW s.f s.g)) = chP s.e s.f s.g from ch_eq s.e s.f s.g]
  rfl
theorem aW_eq (k w : UInt32) (s : S8) : addW (addW (yW k w s) (xorW (xorW (rotr s.a 2) (rotr s.a 13)) (rotr s.a 22))) (orW (andW s.a s.b) (andW s.c (orW s.a s.b))) = tOf k w s + uOf s := by
  rw [yW_eq, show orW (andW s.a s.b) (andW s.c (orW s.a s.b)) = mjP s.a s.b s.c from mj_eq s.a s.b s.c]
  exact UInt32.add_assoc _ _ _
end Go.Proofs.YtbhpglhmnpcnkaaDoor

namespace Go.Proofs.YtbhpglhmnpcnkaaDoor
open Go.RowKit

theorem rword_any' (b : List UInt8) (m : Nat) (n : Int) (w : World) (hn : n = (m : Int)) (h : m + 4 ≤ b.length) (h63 : b.length < 9223372036854775807) :
    Calls Tryd.prog 107 #[.string (bs b), .int .i64 n] w fun e w' => e = .returned (.int .u32 ((wordAt b m).toNat : Int)) ∧ Gr w w' := by
  subst hn
  exact rword_any b m w h h63
theorem Blk.setRow_far {w : World} {g k : Nat} {t : TypeId} {cs : Array Value} (h : Blk w g t cs) (hk : g ≠ k) (ds : Array Value) : Blk (w.setRow k ds) g t cs := (setRow_other w k g ds hk).trans h
theorem Blk.new' {w : World} {g : Nat} (h : g = w.heap.size) (t : TypeId) (cs : Array Value) : Blk (w.alloc (.cells cs t)) g t cs := by
  subst h
  exact Blk.new w t cs

theorem w_mod (x : UInt32) : (x.toNat : Int) % 4294967296 = (x.toNat : Int) := by have := x.toNat_lt; omega
theorem w_wrap (x : UInt32) : IntKind.u32.wrap (x.toNat : Int) = (x.toNat : Int) := by rw [IntKind.wrap_u32]; exact w_mod x
attribute [go_sem] w_mod w_wrap

set_option maxRecDepth 100000 in
set_option maxHeartbeats 4000000 in
theorem rblock_any (s0 : S8) (b : List UInt8) (w : World) (hb : b.length = 64) :
    Calls Tryd.prog 85 #[.agg (s8V s0), .string (bs b)] w fun e w' => e = .returned (.agg (s8V (blockS s0 b))) ∧ Gr w w' := by
  have hb1 : (b.length : Int) = 64 := by omega
  unfold s8V
  go_enter Tryd.func85, Tryd.ntmps85
  go_wp2_with (first
    | (go_at_call 106; refine (rounds_any _).mono ?_; rintro e w1 ⟨rfl, g1⟩)
    | refine wpList_store_row rfl 139 (.tmp 6) (.tmp 24) rfl _ kCells rfl rfl _ _ (Blk.new _ _ _) (by kernel_rfl) (by kernel_rfl) (by kernel_rfl) ?_
    | fail)
  have h2 : Blk w1 w.heap.size 99 (s8V s0) := Blk.gr ((Blk.new w _ _).alloc _) g1
  have h4 : Blk w1 (w.heap.size + 1) 99 zero8 := by
    have := Blk.new (w.alloc (.cells (s8V s0) 99)) 99 zero8
    rw [World.size_alloc] at this
    exact this.gr g1
  have hg0 : Gr w w1 := (((Gr.refl w).alloc _).alloc _).trans g1
  have hk : w.heap.size + 1 < w1.heap.size := h4.lt
  clear g1
  obtain ⟨k, hkk⟩ : ∃ k, k = w1.heap.size := ⟨_, rfl⟩
  rw [← hkk] at hk
  rw [← hkk]
  go_loopw [25, 8] (fun iv _ wr => ∃ i : Nat, iv = .int .i64 i ∧ i ≤ 16 ∧ Blk wr w.heap.size 99 (s8V s0) ∧ Blk wr (w.heap.size + 1) 99 zero8 ∧ Blk wr k 139 kCells ∧ Blk wr (k + 1) 141 (rCells b i) ∧ Gr w wr)
    (fun iv _ _ => 16 - (intOf iv).toNat)
  case atStart =>
    subst hkk
    refine ⟨0, rfl, by omega, ((h2.alloc _).setRow_far (by omega) _).alloc _, ((h4.alloc _).setRow_far (by omega) _).alloc _, Blk.alloc (setRow_heap _ _ _ kCells _ _ (Blk.new w1 _ _)) _, ?_, Gr.alloc (below_setRow (hg0.alloc _) (by omega) _) _⟩
    rw [rCells_zero]
    refine Blk.new' ?_ _ _
    rw [size_setRow, World.size_alloc]
  case round =>
    clear h2 h4 hg0 hkk
    obtain ⟨i, rfl, hi, hB2, hB4, hBk, hBr, hg⟩ := hrel
    by_cases hlt : i < 16
    · have q0 : IntKind.i64.wrap (4 * (i : Int)) = 4 * (i : Int) := IntWalk.i64_in _ (by omega)
      have hi16 : (i : Int) < 16 := by omega
      have hws : wSched b i = wordAt b (4 * i) := wSched_lo hlt
      have HS := sec hws
      clear hws
      go_wp2_with (
        (go_at_call 107; refine (rword_any' b (4 * i) _ _ (by omega) (by omega) (by omega)).mono ?_; rintro e w3 ⟨rfl, g3⟩; have hc : ∃ v, w3.cell? ⟨k + 1, i, none⟩ = some v := ⟨_, ((hBr.gr g3).cell i).trans (Array.getElem?_eq_getElem (by rw [rCells_size]; omega))⟩; obtain ⟨v5, hc5⟩ := hc; have hf5 := (hBr.gr g3).frozen i))
      go_roundw
      case rel =>
        have h5 := (hBr.gr g3).set_ i (u32V (wSched b i))
        rw [rCells_set, HS.out] at h5
        exact ⟨i + 1, by go_num, by omega, (hB2.gr g3).far (by simp; omega) _, (hB4.gr g3).far (by simp; omega) _, (hBk.gr g3).far (by simp) _, h5, (hg.trans g3).setCell (by simp; omega) _⟩
      case measure => simp [intOf]; omega
    · obtain rfl : i = 16 := by omega
      clear hlt hi
      rw [show ((16 : Nat) : Int) = 16 from rfl]
      rw [ring_start] at hBr
      have k0 : wr.cell? ⟨w.heap.size, 0, none⟩ = some (.int .u32 (s0.a.toNat : Int)) := hB2.cell 0
      have k1 : wr.cell? ⟨w.heap.size, 1, none⟩ = some (.int .u32 (s0.b.toNat : Int)) := hB2.cell 1
      have k2 : wr.cell? ⟨w.heap.size, 2, none⟩ = some (.int .u32 (s0.c.toNat : Int)) := hB2.cell 2
      have k3 : wr.cell? ⟨w.heap.size, 3, none⟩ = some (.int .u32 (s0.d.toNat : Int)) := hB2.cell 3
      have k4 : wr.cell? ⟨w.heap.size, 4, none⟩ = some (.int .u32 (s0.e.toNat : Int)) := hB2.cell 4
      have k5 : wr.cell? ⟨w.heap.size, 5, none⟩ = some (.int .u32 (s0.f.toNat : Int)) := hB2.cell 5
      have k6 : wr.cell? ⟨w.heap.size, 6, none⟩ = some (.int .u32 (s0.g.toNat : Int)) := hB2.cell 6
      have k7 : wr.cell? ⟨w.heap.size, 7, none⟩ = some (.int .u32 (s0.h.toNat : Int)) := hB2.cell 7
      go_wp2_with fail
      go_quiet (fail)
      go_wp2_with fail
      have E2 := hB2.drewN nq
      have E4 := hB4.drewN nq
      have Ek := hBk.drewN nq
      have Er := hBr.drewN nq
      have Eg := hg.drewN nq
      clear hB2 hB4 hBk hBr hg k0 k1 k2 k3 k4 k5 k6 k7
      go_loopw [51, 9, 10, 11, 12, 13, 14, 15, 16, 17, 18, 19, 20, 21, 22, 23] (fun iv va vb vc vd ve vf vg vh _ _ _ _ _ _ _ wr => ∃ i : Nat, iv = .int .i64 i ∧ i ≤ 64 ∧
          va = .int .u32 ((rounds b s0 i).a.toNat : Int) ∧ vb = .int .u32 ((rounds b s0 i).b.toNat : Int) ∧ vc = .int .u32 ((rounds b s0 i).c.toNat : Int) ∧ vd = .int .u32 ((rounds b s0 i).d.toNat : Int) ∧ ve = .int .u32 ((rounds b s0 i).e.toNat : Int) ∧ vf = .int .u32 ((rounds b s0 i).f.toNat : Int) ∧ vg = .int .u32 ((rounds b s0 i).g.toNat : Int) ∧ vh = .int .u32 ((rounds b s0 i).h.toNat : Int) ∧
          Blk wr w.heap.size 99 (s8V s0) ∧ Blk wr (w.heap.size + 1) 99 zero8 ∧ Blk wr k 139 kCells ∧ Blk wr (k + 1) 141 (ring b (max i 16)) ∧ Gr w wr)
        (fun iv _ _ _ _ _ _ _ _ _ _ _ _ _ _ _ _ => 64 - (intOf iv).toNat)
      case atStart => exact ⟨0, rfl, by omega, rfl, rfl, rfl, rfl, rfl, rfl, rfl, rfl, E2, E4, Ek, Er, Eg⟩
      case round =>
        clear E2 E4 Ek Er Eg
        obtain ⟨i, rfl, hi, rfl, rfl, rfl, rfl, rfl, rfl, rfl, rfl, hB2, hB4, hBk, hBr, hg⟩ := hrel
        obtain ⟨S, hS⟩ : ∃ S, S = rounds b s0 i := ⟨_, rfl⟩
        rw [← hS]
        by_cases hlt : i < 64
        · have hSn : rounds b s0 (i + 1) = round (kAt i) (wSched b i) S := by rw [hS]; rfl
          have HSn := sec hSn
          clear hS hSn
          have hi64 : (i : Int) < 64 := by omega
          have tm : ((i : Int) % 16).toNat = i % 16 := by omega
          have hj0 : (0 : Int) ≤ (i : Int) % 16 := by omega
          have hj1 : (i : Int) % 16 < 16 := by omega
          have hj : (0 : Int) ≤ (i : Int) % 16 ∧ (i : Int) % 16 < 16 := ⟨hj0, hj1⟩
          by_cases h16 : i < 16
          · have hi16 : ¬ (16 : Int) ≤ (i : Int) := by omega
            go_wp2_with fail
            have hmx : max i 16 = max (i + 1) 16 := by omega
            rw [hmx] at hBr
            clear hmx hi16
            refine region_still_tail_w 23 (by kernel_rfl) (by kernel_rfl) ?_
            simp only [List.take_succ_cons, List.take_zero, List.drop_succ_cons, List.drop_zero]
            intro wd hwd
            have D2 : Blk wd w.heap.size 99 (s8V s0) := by subst hwd; exact hB2.drew
            have D4 : Blk wd (w.heap.size + 1) 99 zero8 := by subst hwd; exact hB4.drew
            have Dk : Blk wd k 139 kCells := by subst hwd; exact hBk.drew
            have Dr : Blk wd (k + 1) 141 (ring b (max (i + 1) 16)) := by subst hwd; exact hBr.drew
            have Dg : Gr w wd := by subst hwd; exact hg.drew
            clear hwd hB2 hB4 hBk hBr hg
            have ck : wd.cell? ⟨k, i, none⟩ = some (.int .u32 ((kAt i).toNat : Int)) := (Dk.cell i).trans (kCells_at i hlt)
            have cr : wd.cell? ⟨k + 1, i % 16, none⟩ = some (.int .u32 ((wSched b i).toNat : Int)) := (Dr.cell _).trans (ring_at b _ _ i (by omega) (by unfold rIdx; omega))
            repeat (first | still_step | still_call (rturn_any _ _ _ (by decide) (by decide)))
            refine wpStill_nil ?_
            go_wp2_with (first
              | (go_at_call 105; refine (rturn_any _ _ _ (by decide) (by decide)).mono ?_; rintro e wz ⟨rfl, rfl⟩))
            go_roundw
            case rel =>
              have ea := aW_eq (kAt i) (wSched b i) S
              have ey := yW_eq (kAt i) (wSched b i) S
              have hr := HSn.out
              refine ⟨i + 1, by go_num, by omega, ?_, ?_, ?_, ?_, ?_, ?_, ?_, ?_, D2, D4, Dk, Dr, Dg⟩
              · rw [hr]; exact congrArg (fun x : UInt32 => Value.int .u32 (x.toNat : Int)) ea
              · rw [hr]; rfl
              · rw [hr]; rfl
              · rw [hr]; rfl
              · rw [hr]; exact congrArg (fun x : UInt32 => Value.int .u32 ((S.d + x).toNat : Int)) ey
              · rw [hr]; rfl
              · rw [hr]; rfl
              · rw [hr]; rfl
            case measure => simp [intOf]; omega
          · have e16 : (16 : Int) ≤ (i : Int) := by omega
            have hmx : max i 16 = i := by omega
            have hmx' : max (i + 1) 16 = i + 1 := by omega
            rw [hmx] at hBr
            have HM := sec hmx'
            clear hmx hmx'
            have q1 : IntKind.i64.wrap ((i : Int) + 1) = (i : Int) + 1 := IntWalk.i64_in _ (by omega)
            have q14 : IntKind.i64.wrap ((i : Int) + 14) = (i : Int) + 14 := IntWalk.i64_in _ (by omega)
            have q9 : IntKind.i64.wrap ((i : Int) + 9) = (i : Int) + 9 := IntWalk.i64_in _ (by omega)
            have p1 : (0 : Int) ≤ (i : Int) + 1 := by omega
            have p14 : (0 : Int) ≤ (i : Int) + 14 := by omega
            have p9 : (0 : Int) ≤ (i : Int) + 9 := by omega
            have t1 : (((i : Int) + 1) % 16).toNat = (i + 1) % 16 := by omega
            have t14 : (((i : Int) + 14) % 16).toNat = (i + 14) % 16 := by omega
            have t9 : (((i : Int) + 9) % 16).toNat = (i + 9) % 16 := by omega
            have r1 : (0 : Int) ≤ ((i : Int) + 1) % 16 ∧ ((i : Int) + 1) % 16 < 16 := by omega
            have r14 : (0 : Int) ≤ ((i : Int) + 14) % 16 ∧ ((i : Int) + 14) % 16 < 16 := by omega
            have r9 : (0 : Int) ≤ ((i : Int) + 9) % 16 ∧ ((i : Int) + 9) % 16 < 16 := by omega
            have cp : wr.cell? ⟨k + 1, (i + 1) % 16, none⟩ = some (.int .u32 ((wSched b (i - 15)).toNat : Int)) := (hBr.cell _).trans (ring_at b i _ _ (by omega) (rIdx_1 i (by omega) hlt))
            have cq : wr.cell? ⟨k + 1, (i + 14) % 16, none⟩ = some (.int .u32 ((wSched b (i - 2)).toNat : Int)) := (hBr.cell _).trans (ring_at b i _ _ (by omega) (rIdx_14 i (by omega) hlt))
            obtain ⟨P, hP⟩ : ∃ P, P = wSched b (i - 15) := ⟨_, rfl⟩
            obtain ⟨R, hR⟩ : ∃ R, R = wSched b (i - 2) := ⟨_, rfl⟩
            rw [← hP] at cp
            rw [← hR] at cq
            have hws := wSched_hi (b := b) (t := i) h16
            rw [← hP, ← hR] at hws
            have HS := sec hws
            clear hws hP hR
            go_wp2_with fail
            go_quiet (fail)
            go_wp2_with fail
            refine region_still_tail_w 15 (by kernel_rfl) (by kernel_rfl) ?_
            simp only [List.take_succ_cons, List.take_zero, List.drop_succ_cons, List.drop_zero]
            intro wa hwa
            have A2 : Blk wa w.heap.size 99 (s8V s0) := by subst hwa; exact (hB2.drewN _).drew
            have A4 : Blk wa (w.heap.size + 1) 99 zero8 := by subst hwa; exact (hB4.drewN _).drew
            have Ak : Blk wa k 139 kCells := by subst hwa; exact (hBk.drewN _).drew
            have Ar : Blk wa (k + 1) 141 (ring b i) := by subst hwa; exact (hBr.drewN _).drew
            have Ag : Gr w wa := by subst hwa; exact (hg.drewN _).drew
            clear hwa hB2 hB4 hBk hBr hg cp cq
            have ca : wa.cell? ⟨k + 1, i % 16, none⟩ = some (.int .u32 ((wSched b (i - 16)).toNat : Int)) := (Ar.cell _).trans (ring_at b i _ _ (by omega) (rIdx_0 i (by omega)))
            have fa := Ar.frozen (i % 16)
            repeat (first | still_step | still_call (rturn_any _ _ _ (by decide) (by decide)))
            refine wpStill_nil ?_
            go_wp2_with fail
            refine region_still_tail_w 10 (by kernel_rfl) (by kernel_rfl) ?_
            simp only [List.take_succ_cons, List.take_zero, List.drop_succ_cons, List.drop_zero]
            intro wb hwb
            obtain ⟨v1, hv1⟩ : ∃ v1, v1 = addW (wSched b (i - 16)) (xorW (xorW (rotr P 7) (rotr P 18)) (shr P 3)) := ⟨_, rfl⟩
            have B2 : Blk wb w.heap.size 99 (s8V s0) := by subst hwb; exact (A2.far (by simp; omega) _).drew
            have B4 : Blk wb (w.heap.size + 1) 99 zero8 := by subst hwb; exact (A4.far (by simp; omega) _).drew
            have Bk : Blk wb k 139 kCells := by subst hwb; exact (Ak.far (by simp) _).drew
            have Br : Blk wb (k + 1) 141 ((ring b i).setIfInBounds (i % 16) (u32V v1)) := by subst hwb; subst hv1; exact (Ar.set_ _ _).drew
            have Bg : Gr w wb := by subst hwb; exact (Ag.setCell (by simp; omega) _).drew
            clear hwb A2 A4 Ak Ar Ag ca fa
            have cb : wb.cell? ⟨k + 1, i % 16, none⟩ = some (.int .u32 (v1.toNat : Int)) := (Br.cell _).trans (by rw [Array.getElem?_setIfInBounds_self_of_lt (by rw [ring_size]; omega)]; rfl)
            have c9 : wb.cell? ⟨k + 1, (i + 9) % 16, none⟩ = some (.int .u32 ((wSched b (i - 7)).toNat : Int)) := (Br.cell _).trans (by rw [Array.getElem?_setIfInBounds_ne (by omega)]; exact ring_at b i _ _ (by omega) (rIdx_9 i (by omega) hlt))
            have fb := Br.frozen (i % 16)
            have m9 : ((i : Int) + 9).tmod 16 = ((i : Int) + 9) % 16 := Int.tmod_eq_emod_of_nonneg (by omega)
            have HV1 := sec hv1
            clear hv1
            repeat still_step
            refine wpStill_nil ?_
            go_wp2_with fail
            refine region_still_tail_w 15 (by kernel_rfl) (by kernel_rfl) ?_
            simp only [List.take_succ_cons, List.take_zero, List.drop_succ_cons, List.drop_zero]
            intro wc hwc
            obtain ⟨v2, hv2⟩ : ∃ v2, v2 = addW v1 (wSched b (i - 7)) := ⟨_, rfl⟩
            have C2 : Blk wc w.heap.size 99 (s8V s0) := by subst hwc; exact (B2.far (by simp; omega) _).drew
            have C4 : Blk wc (w.heap.size + 1) 99 zero8 := by subst hwc; exact (B4.far (by simp; omega) _).drew
            have Ck : Blk wc k 139 kCells := by subst hwc; exact (Bk.far (by simp) _).drew
            have Cr : Blk wc (k + 1) 141 ((ring b i).setIfInBounds (i % 16) (u32V v2)) := by
              subst hwc; subst hv2
              have := (Br.set_ (i % 16) (u32V (addW v1 (wSched b (i - 7))))).drew
              rw [Array.setIfInBounds_setIfInBounds] at this
              exact this
            have Cg : Gr w wc := by subst hwc; exact (Bg.setCell (by simp; omega) _).drew
            clear hwc B2 B4 Bk Br Bg cb c9 fb
            have cc : wc.cell? ⟨k + 1, i % 16, none⟩ = some (.int .u32 (v2.toNat : Int)) := (Cr.cell _).trans (by rw [Array.getElem?_setIfInBounds_self_of_lt (by rw [ring_size]; omega)]; rfl)
            have fc := Cr.frozen (i % 16)
            have HV2 := sec hv2
            clear hv2
            repeat (first | still_step | still_call (rturn_any _ _ _ (by decide) (by decide)))
            refine wpStill_nil ?_
            go_wp2_with fail
            refine region_still_tail_w 23 (by kernel_rfl) (by kernel_rfl) ?_
            simp only [List.take_succ_cons, List.take_zero, List.drop_succ_cons, List.drop_zero]
            intro wd hwd
            have D2 : Blk wd w.heap.size 99 (s8V s0) := by subst hwd; exact (C2.far (by simp; omega) _).drew
            have D4 : Blk wd (w.heap.size + 1) 99 zero8 := by subst hwd; exact (C4.far (by simp; omega) _).drew
            have Dk : Blk wd k 139 kCells := by subst hwd; exact (Ck.far (by simp) _).drew
            have Dr : Blk wd (k + 1) 141 (ring b (max (i + 1) 16)) := by
              subst hwd
              have h5 := (Cr.set_ (i % 16) (u32V (addW v2 (xorW (xorW (rotr R 17) (rotr R 19)) (shr R 10))))).drew
              have e5 : ((ring b i).setIfInBounds (i % 16) (u32V v2)).setIfInBounds (i % 16) (u32V (addW v2 (xorW (xorW (rotr R 17) (rotr R 19)) (shr R 10)))) = ring b (i + 1) := by
                rw [Array.setIfInBounds_setIfInBounds, show addW v2 (xorW (xorW (rotr R 17) (rotr R 19)) (shr R 10)) = wSched b i by rw [HV2.out, HV1.out, HS.out]; rfl, ring_set b i (by omega) (by omega)]
              rw [e5] at h5
              rw [HM.out]
              exact h5
            have Dg : Gr w wd := by subst hwd; exact (Cg.setCell (by simp; omega) _).drew
            clear hwd C2 C4 Ck Cr Cg cc fc q1 q14 q9 m9 p1 p14 p9 t1 t14 t9 r1 r14 r9
            have ck : wd.cell? ⟨k, i, none⟩ = some (.int .u32 ((kAt i).toNat : Int)) := (Dk.cell i).trans (kCells_at i hlt)
            have cr : wd.cell? ⟨k + 1, i % 16, none⟩ = some (.int .u32 ((wSched b i).toNat : Int)) := (Dr.cell _).trans (ring_at b _ _ i (by omega) (by unfold rIdx; omega))
            repeat (first | still_step | still_call (rturn_any _ _ _ (by decide) (by decide)))
            refine wpStill_nil ?_
            go_wp2_with (first
              | (go_at_call 105; refine (rturn_any _ _ _ (by decide) (by decide)).mono ?_; rintro e wz ⟨rfl, rfl⟩))
            go_roundw
            case rel =>
              have ea := aW_eq (kAt i) (wSched b i) S
              have ey := yW_eq (kAt i) (wSched b i) S
              have hr := HSn.out
              refine ⟨i + 1, by go_num, by omega, ?_, ?_, ?_, ?_, ?_, ?_, ?_, ?_, D2, D4, Dk, Dr, Dg⟩
              · rw [hr]; exact congrArg (fun x : UInt32 => Value.int .u32 (x.toNat : Int)) ea
              · rw [hr]; rfl
              · rw [hr]; rfl
              · rw [hr]; rfl
              · rw [hr]; exact congrArg (fun x : UInt32 => Value.int .u32 ((S.d + x).toNat : Int)) ey
              · rw [hr]; rfl
              · rw [hr]; rfl
              · rw [hr]; rfl
            case measure => simp [intOf]; omega
        · obtain rfl : i = 64 := by omega
          clear hlt hi
          rw [show ((64 : Nat) : Int) = 64 from rfl]
          have HSn := sec hS
          clear hS
          have k0 : wr.cell? ⟨w.heap.size, 0, none⟩ = some (.int .u32 (s0.a.toNat : Int)) := hB2.cell 0
          have k1 : wr.cell? ⟨w.heap.size, 1, none⟩ = some (.int .u32 (s0.b.toNat : Int)) := hB2.cell 1
          have k2 : wr.cell? ⟨w.heap.size, 2, none⟩ = some (.int .u32 (s0.c.toNat : Int)) := hB2.cell 2
          have k3 : wr.cell? ⟨w.heap.size, 3, none⟩ = some (.int .u32 (s0.d.toNat : Int)) := hB2.cell 3
          have k4 : wr.cell? ⟨w.heap.size, 4, none⟩ = some (.int .u32 (s0.e.toNat : Int)) := hB2.cell 4
          have k5 : wr.cell? ⟨w.heap.size, 5, none⟩ = some (.int .u32 (s0.f.toNat : Int)) := hB2.cell 5
          have k6 : wr.cell? ⟨w.heap.size, 6, none⟩ = some (.int .u32 (s0.g.toNat : Int)) := hB2.cell 6
          have k7 : wr.cell? ⟨w.heap.size, 7, none⟩ = some (.int .u32 (s0.h.toNat : Int)) := hB2.cell 7
          go_wp2_with (refine wpList_store_row rfl 99 (.tmp 4) (.tmp 204) rfl (w.heap.size + 1) (s8V (addS s0 S)) rfl (by rfl) _ _ hB4 (by kernel_rfl) (by kernel_rfl) (by kernel_rfl) ?_)
          refine bodyPost_ret (results_cell_row rfl _ _ (w.heap.size + 1) _ (s8V (addS s0 S)) (0, 0) _ rfl (setRow_heap _ _ _ _ _ _ hB4) rfl rfl (by kernel_rfl)) rfl ?_
          refine ⟨?_, below_setRow hg (by omega) _⟩
          rw [HSn.out]
          rfl
end Go.Proofs.YtbhpglhmnpcnkaaDoor

namespace Go.Proofs.YtbhpglhmnpcnkaaDoor
open Go.RowKit
set_option linter.unusedVariables false

set_option maxRecDepth 100000 in
set_option maxHeartbeats 1000000 in
theorem start_any (w : World) : Calls Tryd.prog 68 #[] w fun e w' => e = .returned (.agg (s8V startS)) ∧ Gr w w' := by
  go_enter Tryd.func68, Tryd.ntmps68
  go_wp2
  exact bodyPost_ret (v := .agg (s8V startS)) (by simp [results, Tryd.results68, go_sem]; rfl) rfl ⟨rfl, (Gr.refl w).alloc _⟩

theorem be4_len (x : UInt32) : (be4 x).length = 4 := rfl
/-- three bytes and a half: a row of four bytes just built, as a string -/
theorem conv_four (w : World) (x : UInt32) :
    (convert 67 9 (.slice (some ⟨w.heap.size, 0, none⟩) 4 4)).run Tryd.prog (w.alloc (.cells #[.int .u8 ((x.toNat : Int) / 16777216), .int .u8 ((x.toNat : Int) / 65536 % 256), .int .u8 ((x.toNat : Int) / 256 % 256), .int .u8 ((x.toNat : Int) % 256)] 5)) =
      .ok (.string (bs (be4 x))) (w.alloc (.cells #[.int .u8 ((x.toNat : Int) / 16777216), .int .u8 ((x.toNat : Int) / 65536 % 256), .int .u8 ((x.toNat : Int) / 256 % 256), .int .u8 ((x.toNat : Int) % 256)] 5)) := by
  refine run_conv_at Tryd.underlying67 Tryd.underlying5 Tryd.underlying9 _ _ 0 4 (be4 x) ?_
  intro j u hu
  rw [← be4_cells] at hu
  rw [Nat.zero_add, World.cell?_alloc_mark]
  simpa using hu

set_option maxRecDepth 100000 in
set_option maxHeartbeats 1000000 in
theorem rtext_any (S : S8) (w : World) : Calls Tryd.prog 66 #[.agg (s8V S)] w fun e w' => e = .returned (.string (bs (text8 S))) ∧ Gr w w' := by
  go_enter Tryd.func66, Tryd.ntmps66
  go_wp2_with (refine wpList_load_blk rfl 99 (.tmp 1) rfl (g := w.heap.size) rfl (Blk.new w _ _) A.u8 ?_)
  go_loopw [3, 7, 5] (fun v iv _ wr => ∃ (j : Nat) (l : List UInt8), iv = .int .i64 j ∧ j ≤ 8 ∧ v = .string (bs l) ∧ l.length ≤ 4 * j ∧ Sec (l = (S.list.take j).flatMap be4) ∧ Gr w wr)
    (fun _ iv _ _ => 8 - (intOf iv).toNat)
  case atStart => exact ⟨0, [], rfl, by omega, rfl, by simp, sec rfl, (Gr.refl w).alloc _⟩
  case round =>
    obtain ⟨j, l, rfl, hj, rfl, hll, HL, hg⟩ := hrel
    have hcase : j = 0 ∨ j = 1 ∨ j = 2 ∨ j = 3 ∨ j = 4 ∨ j = 5 ∨ j = 6 ∨ j = 7 ∨ j = 8 := by omega
    clear hj
    unfold s8V
    rcases hcase with rfl | rfl | rfl | rfl | rfl | rfl | rfl | rfl | rfl
    · have i0 := index_s8_0 S
      have hx := S.a.toNat_lt
      have hcv := conv_four wr S.a
      have h63 : ¬ 9223372036854775807 < l.length + (be4 S.a).length := by rw [be4_len]; omega
      go_wp2_with fail
      go_roundw
      case rel => exact ⟨1, l ++ be4 S.a, rfl, by omega, rfl, by rw [List.length_append, be4_len]; omega, sec (by rw [HL.out]; rfl), hg.alloc _⟩
      case measure => simp [intOf]
    · have i0 := index_s8_1 S
      have hx := S.b.toNat_lt
      have hcv := conv_four wr S.b
      have h63 : ¬ 9223372036854775807 < l.length + (be4 S.b).length := by rw [be4_len]; omega
      go_wp2_with fail
      go_roundw
      case rel => exact ⟨2, l ++ be4 S.b, rfl, by omega, rfl, by rw [List.length_append, be4_len]; omega, sec (by rw [HL.out]; rfl), hg.alloc _⟩
      case measure => simp [intOf]
    · have i0 := index_s8_2 S
      have hx := S.c.toNat_lt
      have hcv := conv_four wr S.c
      have h63 : ¬ 9223372036854775807 < l.length + (be4 S.c).length := by rw [be4_len]; omega
      go_wp2_with fail
      go_roundw
      case rel => exact ⟨3, l ++ be4 S.c, rfl, by omega, rfl, by rw [List.length_append, be4_len]; omega, sec (by rw [HL.out]; rfl), hg.alloc _⟩
      case measure => simp [intOf]
    · have i0 := index_s8_3 S
      have hx := S.d.toNat_lt
      have hcv := conv_four wr S.d
      have h63 : ¬ 9223372036854775807 < l.length + (be4 S.d).length := by rw [be4_len]; omega
      go_wp2_with fail
      go_roundw
      case rel => exact ⟨4, l ++ be4 S.d, rfl, by omega, rfl, by rw [List.length_append, be4_len]; omega, sec (by rw [HL.out]; rfl), hg.alloc _⟩
      case measure => simp [intOf]
    · have i0 := index_s8_4 S
      have hx := S.e.toNat_lt
      have hcv := conv_four wr S.e
      have h63 : ¬ 9223372036854775807 < l.length + (be4 S.e).length := by rw [be4_len]; omega
      go_wp2_with fail
      go_roundw
      case rel => exact ⟨5, l ++ be4 S.e, rfl, by omega, rfl, by rw [List.length_append, be4_len]; omega, sec (by rw [HL.out]; rfl), hg.alloc _⟩
      case measure => simp [intOf]
    · have i0 := index_s8_5 S
      have hx := S.f.toNat_lt
      have hcv := conv_four wr S.f
      have h63 : ¬ 9223372036854775807 < l.length + (be4 S.f).length := by rw [be4_len]; omega
      go_wp2_with fail
      go_roundw
      case rel => exact ⟨6, l ++ be4 S.f, rfl, by omega, rfl, by rw [List.length_append, be4_len]; omega, sec (by rw [HL.out]; rfl), hg.alloc _⟩
      case measure => simp [intOf]
    · have i0 := index_s8_6 S
      have hx := S.g.toNat_lt
      have hcv := conv_four wr S.g
      have h63 : ¬ 9223372036854775807 < l.length + (be4 S.g).length := by rw [be4_len]; omega
      go_wp2_with fail
      go_roundw
      case rel => exact ⟨7, l ++ be4 S.g, rfl, by omega, rfl, by rw [List.length_append, be4_len]; omega, sec (by rw [HL.out]; rfl), hg.alloc _⟩
      case measure => simp [intOf]
    · have i0 := index_s8_7 S
      have hx := S.h.toNat_lt
      have hcv := conv_four wr S.h
      have h63 : ¬ 9223372036854775807 < l.length + (be4 S.h).length := by rw [be4_len]; omega
      go_wp2_with fail
      go_roundw
      case rel => exact ⟨8, l ++ be4 S.h, rfl, by omega, rfl, by rw [List.length_append, be4_len]; omega, sec (by rw [HL.out]; rfl), hg.alloc _⟩
      case measure => simp [intOf]
    · go_wp2_with fail
      go_ret
      exact ⟨by rw [HL.out]; rfl, hg⟩

set_option maxRecDepth 100000 in
set_option maxHeartbeats 1000000 in
theorem over_any (s : S8) (b : List UInt8) (w : World) (hb : b.length < 4611686018427387904) (hm : b.length % 64 = 0) :
    Calls Tryd.prog 67 #[.agg (s8V s), .string (bs b)] w fun e w' => e = .returned (.agg (s8V (overS s b))) ∧ Gr w w' := by
  have HM := sec hm
  clear hm
  have hz : Blk ((w.alloc (.cells (s8V s) 99)).alloc (.cells zero8 99)) (w.heap.size + 1) 99 zero8 := Blk.new1 w _ _ _
  have hx : Blk ((w.alloc (.cells (s8V s) 99)).alloc (.cells zero8 99)) w.heap.size 99 (s8V s) := (Blk.new w _ _).alloc _
  have HZ := sec hz
  have HX := sec hx
  clear hz hx
  go_enter Tryd.func67, Tryd.ntmps67
  go_wp2_with fail
  go_loopw [5] (fun v wr => ∃ (i : Nat) (S : S8), v = .int .i64 (64 * (i : Int)) ∧ 64 * i ≤ b.length ∧ Sec (overS S (b.drop (64 * i)) = overS s b) ∧ Blk wr w.heap.size 99 (s8V S) ∧ Blk wr (w.heap.size + 1) 99 zero8 ∧ Gr w wr)
    (fun v _ => b.length - (intOf v).toNat)
  case atStart => exact ⟨0, s, rfl, by omega, sec (by rw [Nat.mul_zero, List.drop_zero]), HX.out, HZ.out, ((Gr.refl w).alloc _).alloc _⟩
  case round =>
    obtain ⟨i, S, rfl, hi, HO, hS, hZ, hg⟩ := hrel
    by_cases hlt : 64 * i < b.length
    · have hlt' : 64 * i + 64 ≤ b.length := by have := HM.out; omega
      have q64 : IntKind.i64.wrap (64 * (i : Int) + 64) = 64 * (i : Int) + 64 := IntWalk.i64_in _ (by omega)
      have hli : 64 * (i : Int) < (b.length : Int) := by omega
      have hl2 : 64 * (i : Int) + 64 ≤ (b.length : Int) := by omega
      have hi0 : (0 : Int) ≤ 64 * (i : Int) := by omega
      have hi1 : (0 : Int) ≤ 64 * (i : Int) + 64 := by omega
      have hi2 : 64 * (i : Int) ≤ 64 * (i : Int) + 64 := by omega
      have ht1 : (64 * (i : Int)).toNat = 64 * i := by omega
      have ht2 : (64 * (i : Int) + 64).toNat = 64 * i + 64 := by omega
      go_wp2_with fail
      refine region_still_tail_w 6 (by kernel_rfl) (by kernel_rfl) ?_
      simp only [List.take_succ_cons, List.take_zero, List.drop_succ_cons, List.drop_zero]
      intro wd hwd
      have D2 : Blk wd w.heap.size 99 (s8V S) := by subst hwd; exact hS.drew
      have D4 : Blk wd (w.heap.size + 1) 99 zero8 := by subst hwd; exact hZ.drew
      have Dg : Gr w wd := by subst hwd; exact hg.drew
      clear hwd hS hZ hg
      have c0 : wd.cell? ⟨w.heap.size, 0, none⟩ = some (.int .u32 (S.a.toNat : Int)) := D2.cell 0
      have c1 : wd.cell? ⟨w.heap.size, 1, none⟩ = some (.int .u32 (S.b.toNat : Int)) := D2.cell 1
      have c2 : wd.cell? ⟨w.heap.size, 2, none⟩ = some (.int .u32 (S.c.toNat : Int)) := D2.cell 2
      have c3 : wd.cell? ⟨w.heap.size, 3, none⟩ = some (.int .u32 (S.d.toNat : Int)) := D2.cell 3
      have c4 : wd.cell? ⟨w.heap.size, 4, none⟩ = some (.int .u32 (S.e.toNat : Int)) := D2.cell 4
      have c5 : wd.cell? ⟨w.heap.size, 5, none⟩ = some (.int .u32 (S.f.toNat : Int)) := D2.cell 5
      have c6 : wd.cell? ⟨w.heap.size, 6, none⟩ = some (.int .u32 (S.g.toNat : Int)) := D2.cell 6
      have c7 : wd.cell? ⟨w.heap.size, 7, none⟩ = some (.int .u32 (S.h.toNat : Int)) := D2.cell 7
      repeat still_step
      refine wpStill_nil ?_
      clear c0 c1 c2 c3 c4 c5 c6 c7
      have hsub : sub b (64 * i) (64 * i + 64) = (b.drop (64 * i)).take 64 := by unfold sub; congr 1; omega
      have hsl : (sub b (64 * i) (64 * i + 64)).length = 64 := by rw [sub_len _ _ _ hlt']; omega
      obtain ⟨B, hB⟩ : ∃ B, B = sub b (64 * i) (64 * i + 64) := ⟨_, rfl⟩
      rw [← hB] at hsub hsl ⊢
      obtain ⟨R, hR⟩ : ∃ R, R = blockS S B := ⟨_, rfl⟩
      have HO2 : Sec (overS R (b.drop (64 * (i + 1))) = overS s b) := sec (by
        rw [← HO.out, overS_hi (b := b.drop (64 * i)) (by rw [List.length_drop]; omega), ← hsub, ← hR, List.drop_drop, Nat.mul_add])
      have HSL := sec hsl
      clear hB hsub hsl
      go_wp2_with (first
        | (refine wpList_store_blk rfl 99 (.tmp 2) (.tmp 18) rfl (g := w.heap.size) rfl rfl E2 A.u8 rfl (s8V_one R) ?_; intro w4 h4 hg4)
        | (go_at_call 85; refine (rblock_any S B _ HSL.out).mono ?_; rw [← hR]; rintro e w3 ⟨rfl, g3⟩; clear hR; have E2 := D2.gr g3; have E4 := D4.gr g3; have Eg := Dg.trans g3; clear g3))
      go_roundw
      case rel => exact ⟨i + 1, R, by go_num, by omega, HO2, h4, E4.only hg4 (by omega), Eg.only hg4 (Nat.le_refl _)⟩
      case measure => simp [intOf]; omega
    · have hnl : b.drop (64 * i) = [] := List.drop_eq_nil_of_le (by omega)
      have HE : Sec (S = overS s b) := sec (by rw [← HO.out, hnl, overS_lo (by simp)])
      have hli : ¬ 64 * (i : Int) < (b.length : Int) := by omega
      clear hnl HO
      go_wp2_with (first
        | (refine wpList_load_blk rfl 99 (.tmp 2) rfl (g := w.heap.size) rfl hS A.u8 ?_)
        | (refine wpList_store_blk rfl 99 (.tmp 4) (.tmp 19) rfl (g := w.heap.size + 1) rfl rfl hZ A.u8 rfl (s8V_one S) ?_; intro w4 h4 hg4))
      refine bodyPost_ret (results_blk rfl _ rfl h4 A.u8) rfl ?_
      rw [HE.out]
      exact ⟨rfl, hg.only hg4 (by omega)⟩
end Go.Proofs.YtbhpglhmnpcnkaaDoor

namespace Go.Proofs.YtbhpglhmnpcnkaaDoor
open Go.RowKit
set_option linter.unusedVariables false

/-- the eight bytes while they are filled, from behind -/
def pByte (m e : Nat) : Value := .int .u8 ((8 * m / 256 ^ e % 256 : Nat) : Int)
def pArr (m j : Nat) : Array Value := ((List.range 8).map fun i => if 8 - j ≤ i then pByte m (7 - i) else .int .u8 0).toArray
theorem pArr_size (m j : Nat) : (pArr m j).size = 8 := by unfold pArr; simp
theorem pArr_zero (m : Nat) : pArr m 0 = #[.int .u8 0, .int .u8 0, .int .u8 0, .int .u8 0, .int .u8 0, .int .u8 0, .int .u8 0, .int .u8 0] := by kernel_rfl
theorem pArr_set (m j : Nat) (hj : j < 8) : (pArr m j).setIfInBounds (7 - j) (pByte m j) = pArr m (j + 1) := by
  unfold pArr
  rw [List.setIfInBounds_toArray]
  congr 1
  apply List.ext_getElem
  · simp
  · intro i h1 h2
    rw [List.getElem_set]
    simp only [List.getElem_map, List.getElem_range, List.length_set, List.length_map, List.length_range] at h1 ⊢
    by_cases e : 7 - j = i
    · subst e
      rw [if_pos rfl, if_pos (by omega), show 7 - (7 - j) = j by omega]
    · rw [if_neg e]
      by_cases h : 8 - j ≤ i
      · rw [if_pos h, if_pos (by omega)]
      · rw [if_neg h, if_neg (by omega)]
theorem pArr_full (m : Nat) : (pArr m 8).toList = (be8 (8 * m)).map byteV := by
  simp [pArr, List.range_succ, be8, byteV, pByte]

set_option maxRecDepth 100000 in
set_option maxHeartbeats 2000000 in
theorem padded_any (r : List UInt8) (m : Nat) (w : World) (hr : r.length < 1152921504606846976) (hm : m < 1152921504606846976) :
    Calls Tryd.prog 69 #[.string (bs r), .int .i64 m] w fun e w' => e = .returned (.string (bs (padTo r m))) ∧ Gr w w' := by
  have hr1 : ¬ 9223372036854775807 < r.length + 1 := by omega
  have hz := Blk.new w 121 (pArr m 0)
  rw [pArr_zero] at hz
  have HZ := sec hz
  clear hz
  go_enter Tryd.func69, Tryd.ntmps69
  go_wp2_with fail
  go_loop [5] (fun v => ∃ (i : Nat) (l : List UInt8), v = .string (bs l) ∧ i ≤ zerosFor r.length ∧ Sec (l = r ++ [128] ++ List.replicate i 0))
    (fun v => 1152921504606847200 - lenOf v)
  case atStart => exact ⟨0, r ++ [128], rfl, Nat.zero_le _, sec (by simp)⟩
  case round =>
    obtain ⟨i, l, rfl, hi, HL⟩ := hrel
    have hz : zerosFor r.length = (119 - r.length % 64) % 64 := rfl
    have hll : l.length = r.length + 1 + i := by rw [HL.out]; simp; omega
    by_cases hlt : i < zerosFor r.length
    · have t1 : ((l.length : Int) % 64 == 56) = false := by rw [beq_eq_false_iff_ne]; omega
      have t2 : ((l.length : Int) % 64 != 56) = true := by rw [bne_iff_ne]; omega
      have hl200 : l.length < 1152921504606847190 := by omega
      have h63 : ¬ 9223372036854775807 < l.length + 1 := by omega
      have HI := sec hlt
      clear hz hll hlt hi
      go_wp2_with fail
      go_round
      case rel =>
        exact ⟨i + 1, l ++ [0], rfl, HI.out, sec (by rw [HL.out, List.append_assoc, ← List.replicate_succ'])⟩
      case measure => simp [lenOf, bs_size]; omega
    · obtain rfl : i = zerosFor r.length := by omega
      have t1 : ((l.length : Int) % 64 == 56) = true := by rw [beq_iff_eq]; omega
      have t2 : ((l.length : Int) % 64 != 56) = false := by rw [bne_eq_false_iff_eq]; omega
      have hl63 : ¬ 9223372036854775807 < l.length + 8 := by omega
      clear hz hll hlt hi
      have hm8 : (m : Int) * 8 < 18446744073709551616 := by omega
      go_wp2_with fail
      clear t1 t2
      have hl8 : m * 8 = 8 * m / 256 ^ 0 := by omega
      have HN0 : Sec (m * 8 = 8 * m / 256 ^ 0) := sec hl8
      clear hl8
      go_loopw [7, 8] (fun v k wr => ∃ (j N : Nat) (K : Int), v = .int .u64 (N : Int) ∧ k = .int .i64 K ∧ Sec (K = 7 - (j : Int)) ∧ j ≤ 8 ∧ Sec (N = 8 * m / 256 ^ j) ∧ N < 18446744073709551616 ∧ Blk wr w.heap.size 121 (pArr m j) ∧ Gr w wr)
        (fun _ k _ => (intOf k + 1).toNat)
      case atStart => exact ⟨0, m * 8, 7, by simp, rfl, sec (by omega), by omega, HN0, by omega, by rw [pArr_zero]; exact HZ.out, (Gr.refl w).alloc _⟩
      case round =>
        obtain ⟨j, N, K, rfl, rfl, HK, hj, HN, hN, hB, hg⟩ := hrel
        by_cases hlt : j < 8
        · have hK0 : 0 ≤ K := by have := HK.out; omega
          have hK8 : K < 8 := by have := HK.out; omega
          have hKt : K.toNat = 7 - j := by have := HK.out; omega
          have hc : ∃ v, wr.cell? ⟨w.heap.size, 7 - j, none⟩ = some v := ⟨_, (hB.cell _).trans (Array.getElem?_eq_getElem (by rw [pArr_size]; omega))⟩
          obtain ⟨v, hc⟩ := hc
          have hf := hB.frozen (7 - j)
          have HD : Sec (N / 256 = 8 * m / 256 ^ (j + 1)) := sec (by rw [HN.out, Nat.div_div_eq_div_mul, Nat.pow_succ])
          have HP : Sec (pByte m j = .int .u8 ((N : Int) % 256)) := sec (by unfold pByte; rw [← HN.out]; simp)
          go_wp2_with fail
          go_roundw
          case rel => exact ⟨j + 1, N / 256, K - 1, by simp, rfl, sec (by have := HK.out; omega), by omega, HD, by omega, by rw [← pArr_set m j hlt, HP.out]; exact hB.set_ _ _, hg.setCell (Nat.le_refl _) _⟩
          case measure => simp [intOf]; omega
        · obtain rfl : j = 8 := by omega
          obtain rfl : K = -1 := by have := HK.out; omega
          have hcv : (convert 67 9 (.slice (some ⟨w.heap.size, 0, none⟩) 8 8)).run Tryd.prog wr = .ok (.string (bs (be8 (8 * m)))) wr :=
            run_conv_at Tryd.underlying67 Tryd.underlying5 Tryd.underlying9 wr w.heap.size 0 8 (be8 (8 * m)) (fun j u hu => by
              rw [Nat.zero_add, hB.cell, ← pArr_full] at *
              simpa using hu)
          have hl63' : ¬ 9223372036854775807 < l.length + (be8 (8 * m)).length := by rw [be8_len]; exact hl63
          go_wp2_with fail
          go_ret
          exact ⟨by rw [HL.out]; rfl, hg⟩
end Go.Proofs.YtbhpglhmnpcnkaaDoor

namespace Go.Proofs.YtbhpglhmnpcnkaaDoor
open Go.RowKit
set_option linter.unusedVariables false

set_option maxRecDepth 100000 in
set_option maxHeartbeats 4000000 in
theorem rsum_any (b : List UInt8) (w : World) (hb : b.length ≤ 576460752303423488) :
    Calls Tryd.prog 48 #[.string (bs b)] w fun e w' => e = .returned (.string (bs (sha b))) ∧ Gr w w' := by
  have e1 : ((b.length : Int) - (b.length : Int) % 64) = ((b.length / 64 * 64 : Nat) : Int) := by omega
  obtain ⟨k, hk⟩ : ∃ k, k = b.length / 64 * 64 := ⟨_, rfl⟩
  rw [← hk] at e1
  have hk1 : k ≤ b.length := by omega
  have hk2 : (k : Int) ≤ (b.length : Int) := by omega
  have hk3 : k % 64 = 0 := by omega
  have HD : Sec (b.drop k = restOf b) := sec (by rw [hk]; rfl)
  have HT : Sec (overS startS (b.take k) = overS startS b) := sec (by rw [hk]; exact overS_take _ _ _ rfl)
  have hl : (b.take k).length = k := by rw [List.length_take]; omega
  have HL := sec hl
  have H3 := sec hk3
  have hrl : (restOf b).length < 1152921504606846976 := by rw [restOf_len]; omega
  have HRL := sec hrl
  have hbl : b.length < 1152921504606846976 := by omega
  clear hk hl hk3 hrl
  have HP : Sec ((padTo (restOf b) b.length).length % 64 = 0) := sec (padTo_mod _ _)
  have HQ : Sec ((padTo (restOf b) b.length).length < 4611686018427387904) := sec (by rw [padTo_len, restOf_len]; unfold zerosFor; omega)
  have HS : Sec (sha b = text8 (overS (overS startS b) (padTo (restOf b) b.length))) := sec rfl
  have HM : Sec (k < 4611686018427387904) := sec (by omega)
  obtain ⟨R, hR⟩ : ∃ R, R = restOf b := ⟨_, rfl⟩
  rw [← hR] at HD HRL HP HQ HS
  obtain ⟨S, hS⟩ : ∃ S, S = overS startS b := ⟨_, rfl⟩
  rw [← hS] at HT HS
  clear hR hS
  go_enter Tryd.func48, Tryd.ntmps48
  go_wp2_with fail
  go_region_held3 (fun w' => Gr w w') (first | assumption | exact (Gr.refl _).drew | exact Gr.refl _)
    (first
      | (go_at_call 68; refine (start_any _).mono ?_; rintro e w1 ⟨rfl, g1⟩; have gg1 : Gr w w1 := Gr.trans (by assumption) g1)
      | (go_at_call 69; rw [HD.out]; refine (padded_any R b.length _ HRL.out hbl).mono ?_; rintro e w3 ⟨rfl, g3⟩; have gg3 : Gr w w3 := Gr.trans (by assumption) g3)
      | (go_at_call 66; refine (rtext_any _ _).mono ?_; rintro e w5 ⟨rfl, g5⟩; have gg5 : Gr w w5 := Gr.trans (by assumption) g5)
      | (go_at_call 67; with_reducible refine Calls.mono (over_any startS (b.take k) _ (by rw [HL.out]; exact HM.out) (by rw [HL.out]; exact H3.out)) ?_; rw [HT.out]; rintro e w2 ⟨rfl, g2⟩; have gg2 : Gr w w2 := Gr.trans (by assumption) g2)
      | (go_at_call 67; refine (over_any S (padTo R b.length) _ HQ.out HP.out).mono ?_; rintro e w4 ⟨rfl, g4⟩; have gg4 : Gr w w4 := Gr.trans (by assumption) g4))
  go_wp2_with fail
  go_ret
  exact ⟨by rw [HS.out]; rfl, gg5⟩
end Go.Proofs.YtbhpglhmnpcnkaaDoor

namespace Go.Proofs.YtbhpglhmnpcnkaaDoor

def leafH (s : List UInt8) : List UInt8 := sha ([0] ++ s)
def nodeH (a b : List UInt8) : List UInt8 := sha ([1] ++ a ++ b)
theorem leafH_len (s : List UInt8) : (leafH s).length = 32 := rfl
theorem nodeH_len (a b : List UInt8) : (nodeH a b).length = 32 := rfl

/-! ### the greatest power of two below a number -/
def halfN (n : Nat) : Nat := 2 ^ Nat.log2 (n - 1)
theorem halfN_of {n h : Nat} (h1 : 2 ^ h < n) (h2 : n ≤ 2 ^ (h + 1)) : halfN n = 2 ^ h := by
  unfold halfN
  have h0 : n - 1 ≠ 0 := by have := Nat.two_pow_pos h; omega
  rw [(Nat.log2_eq_iff (k := h) h0).2 ⟨by omega, by omega⟩]
theorem halfN_small {n : Nat} (h : n ≤ 2) : halfN n = 1 := by
  have : n = 0 ∨ n = 1 ∨ n = 2 := by omega
  rcases this with rfl | rfl | rfl <;> decide
theorem halfN_spec {n : Nat} (hn : 1 < n) : ∃ h, halfN n = 2 ^ h ∧ 2 ^ h < n ∧ n ≤ 2 ^ (h + 1) := by
  have h0 : n - 1 ≠ 0 := by omega
  have := (Nat.log2_eq_iff (n := n - 1) (k := Nat.log2 (n - 1)) h0).1 rfl
  exact ⟨Nat.log2 (n - 1), rfl, by omega, by omega⟩
theorem halfN_pos (n : Nat) : 0 < halfN n := Nat.two_pow_pos _
theorem halfN_lt {n : Nat} (hn : 1 < n) : halfN n < n := by
  obtain ⟨h, e, h1, _⟩ := halfN_spec hn
  rw [e]; exact h1

/-! ### roots -/
def rootL (l : List (List UInt8)) : List UInt8 :=
  if _h0 : l.length = 0 then sha []
  else if _h1 : l.length = 1 then leafH (l.getD 0 [])
  else nodeH (rootL (l.take (halfN l.length))) (rootL (l.drop (halfN l.length)))
termination_by l.length
decreasing_by
  · rw [List.length_take]; have := halfN_lt (n := l.length) (by omega); omega
  · rw [List.length_drop]; have := halfN_pos l.length; omega
theorem rootL_nil : rootL [] = sha [] := by rw [rootL]; rfl
theorem rootL_one (s : List UInt8) : rootL [s] = leafH s := by rw [rootL]; rfl
theorem rootL_more {l : List (List UInt8)} (h : 1 < l.length) : rootL l = nodeH (rootL (l.take (halfN l.length))) (rootL (l.drop (halfN l.length))) := by
  rw [rootL, dif_neg (by omega), dif_neg (by omega)]
theorem rootL_len (l : List (List UInt8)) : (rootL l).length = 32 := by
  rw [rootL]
  split
  · rfl
  · split <;> rfl

/-! ### a path from above: the last sum first -/
def upR (leaf : List UInt8) (n i : Nat) : List (List UInt8) → List UInt8 × Bool
  | [] => if n = 1 then (leaf, true) else ([], false)
  | last :: r =>
    if n = 1 then (leaf, false)
    else if i < halfN n then ((nodeH (upR leaf (halfN n) i r).1 last), (upR leaf (halfN n) i r).2)
    else ((nodeH last (upR leaf (n - halfN n) (i - halfN n) r).1), (upR leaf (n - halfN n) (i - halfN n) r).2)
theorem upR_len (leaf : List UInt8) (hl : leaf.length ≤ 32) : ∀ (r : List (List UInt8)) (n i : Nat), (upR leaf n i r).1.length ≤ 32
  | [], n, i => by unfold upR; split <;> simp [hl]
  | last :: r, n, i => by
    unfold upR
    split
    · exact hl
    · split <;> exact Nat.le_of_eq (nodeH_len _ _)

/-! ### a path from below -/
def strip (at_ last : Nat) : Nat × Nat := if _h : at_ % 2 = 0 ∧ 0 < at_ then strip (at_ / 2) (last / 2) else (at_, last)
termination_by at_
decreasing_by omega
theorem strip_go {a l : Nat} (h : a % 2 = 0 ∧ 0 < a) : strip a l = strip (a / 2) (l / 2) := by rw [strip, dif_pos h]
theorem strip_end {a l : Nat} (h : ¬ (a % 2 = 0 ∧ 0 < a)) : strip a l = (a, l) := by rw [strip, dif_neg h]
def ckI (at_ last : Nat) (r : List UInt8) : List (List UInt8) → Option (List UInt8)
  | [] => if last = 0 then some r else none
  | p :: ps =>
    if last = 0 then none
    else if at_ % 2 = 1 ∨ at_ = last then ckI ((strip at_ last).1 / 2) ((strip at_ last).2 / 2) (nodeH p r) ps
    else ckI (at_ / 2) (last / 2) (nodeH r p) ps

/-- on which side the sums stand, from below: true: on the left -/
def sides (at_ last : Nat) : List Bool :=
  if _h : last = 0 then []
  else if at_ % 2 = 1 then true :: sides (at_ / 2) (last / 2)
  else if at_ = last then sides (at_ / 2) (last / 2)
  else false :: sides (at_ / 2) (last / 2)
termination_by last
decreasing_by all_goals omega
theorem sides_zero (a : Nat) : sides a 0 = [] := by rw [sides, dif_pos rfl]
theorem sides_odd {a l : Nat} (hl : l ≠ 0) (h : a % 2 = 1) : sides a l = true :: sides (a / 2) (l / 2) := by rw [sides, dif_neg hl, if_pos h]
theorem sides_eq {a l : Nat} (hl : l ≠ 0) (h : a % 2 = 0) (e : a = l) : sides a l = sides (a / 2) (l / 2) := by rw [sides, dif_neg hl, if_neg (by omega), if_pos e]
theorem sides_even {a l : Nat} (hl : l ≠ 0) (h : a % 2 = 0) (e : a ≠ l) : sides a l = false :: sides (a / 2) (l / 2) := by rw [sides, dif_neg hl, if_neg (by omega), if_neg e]
theorem sides_strip : ∀ (a l : Nat), l ≠ 0 → a ≤ l → (a % 2 = 1 ∨ a = l) → sides a l = true :: sides ((strip a l).1 / 2) ((strip a l).2 / 2) := by
  intro a
  induction a using Nat.strongRecOn with
  | ind a ih =>
    intro l hl hle h
    by_cases ho : a % 2 = 1
    · rw [strip_end (by omega), sides_odd hl ho]
    · have e : a = l := by omega
      subst e
      rw [strip_go ⟨by omega, by omega⟩, sides_eq hl (by omega) rfl]
      exact ih (a / 2) (by omega) (a / 2) (by omega) (Nat.le_refl _) (.inr rfl)

def runS : List Bool → List UInt8 → List (List UInt8) → Option (List UInt8)
  | [], r, [] => some r
  | [], _, _ :: _ => none
  | _ :: _, _, [] => none
  | b :: bs, r, p :: ps => runS bs (if b then nodeH p r else nodeH r p) ps
theorem ckI_runS : ∀ (ps : List (List UInt8)) (a l : Nat) (r : List UInt8), a ≤ l → ckI a l r ps = runS (sides a l) r ps := by
  intro ps
  induction ps with
  | nil =>
    intro a l r hle
    unfold ckI
    by_cases hl : l = 0
    · subst hl; rw [sides_zero, if_pos rfl]; rfl
    · rw [if_neg hl]
      have : ∃ b bs, sides a l = b :: bs := by
        by_cases h : a % 2 = 1 ∨ a = l
        · exact ⟨_, _, sides_strip a l hl hle h⟩
        · exact ⟨_, _, sides_even hl (by omega) (by omega)⟩
      obtain ⟨b, bs, e⟩ := this
      rw [e]; rfl
  | cons p ps ih =>
    intro a l r hle
    unfold ckI
    by_cases hl : l = 0
    · subst hl; rw [sides_zero, if_pos rfl]; rfl
    · rw [if_neg hl]
      by_cases h : a % 2 = 1 ∨ a = l
      · rw [if_pos h, sides_strip a l hl hle h, ih]
        · rfl
        · have : ∀ a l : Nat, a ≤ l → (strip a l).1 ≤ (strip a l).2 := by
            intro a
            induction a using Nat.strongRecOn with
            | ind a ih =>
              intro l hle
              by_cases hh : a % 2 = 0 ∧ 0 < a
              · rw [strip_go hh]; exact ih _ (by omega) _ (by omega)
              · rw [strip_end hh]; exact hle
          have := this a l hle
          omega
      · rw [if_neg h, sides_even hl (by omega) (by omega), ih _ _ _ (by omega)]
        rfl
theorem runS_snoc : ∀ (ds : List Bool) (b : Bool) (r : List UInt8) (ps : List (List UInt8)) (p : List UInt8),
    runS (ds ++ [b]) r (ps ++ [p]) = (runS ds r ps).map (fun s => if b then nodeH p s else nodeH s p) := by
  intro ds
  induction ds with
  | nil =>
    intro b r ps p
    cases ps with
    | nil => rfl
    | cons q qs =>
      cases qs <;> rfl
  | cons d ds ih =>
    intro b r ps p
    cases ps with
    | nil => cases ds <;> rfl
    | cons q qs => exact ih b _ qs p
theorem runS_snoc_nil (ds : List Bool) (b : Bool) (r : List UInt8) : runS (ds ++ [b]) r [] = none := by cases ds <;> rfl

/-- the topmost sum stands on the right of a place in the left half -/
theorem sides_left : ∀ (h i m : Nat), i < 2 ^ h → 2 ^ h ≤ m → m < 2 ^ (h + 1) → sides i m = sides i (2 ^ h - 1) ++ [false] := by
  intro h
  induction h with
  | zero =>
    intro i m h1 h2 h3
    obtain rfl : i = 0 := by omega
    obtain rfl : m = 1 := by omega
    rw [sides_even (by omega) (by omega) (by omega), sides_zero]
    rfl
  | succ h ih =>
    intro i m h1 h2 h3
    have hp := Nat.two_pow_pos h
    have e1 : 2 ^ (h + 1) = 2 * 2 ^ h := by rw [Nat.pow_succ]; omega
    have e2 : 2 ^ (h + 1 + 1) = 2 * 2 ^ (h + 1) := by rw [Nat.pow_succ]; omega
    have hd : (2 ^ (h + 1) - 1) / 2 = 2 ^ h - 1 := by omega
    have hi := ih (i / 2) (m / 2) (by omega) (by omega) (by omega)
    by_cases ho : i % 2 = 1
    · rw [sides_odd (by omega) ho, sides_odd (l := 2 ^ (h + 1) - 1) (by omega) ho, hd, hi]; rfl
    · rw [sides_even (by omega) (by omega) (by omega), sides_even (l := 2 ^ (h + 1) - 1) (by omega) (by omega) (by omega), hd, hi]; rfl
theorem sides_right : ∀ (h i m : Nat), 2 ^ h ≤ i → i ≤ m → m < 2 ^ (h + 1) → sides i m = sides (i - 2 ^ h) (m - 2 ^ h) ++ [true] := by
  intro h
  induction h with
  | zero =>
    intro i m h1 h2 h3
    obtain rfl : i = 1 := by omega
    obtain rfl : m = 1 := by omega
    rw [sides_odd (by omega) (by omega)]
    show true :: sides 0 0 = sides 0 0 ++ [true]
    rw [sides_zero]; rfl
  | succ h ih =>
    intro i m h1 h2 h3
    have hp := Nat.two_pow_pos h
    have e1 : 2 ^ (h + 1) = 2 * 2 ^ h := by rw [Nat.pow_succ]; omega
    have e2 : 2 ^ (h + 1 + 1) = 2 * 2 ^ (h + 1) := by rw [Nat.pow_succ]; omega
    have hi := ih (i / 2) (m / 2) (by omega) (by omega) (by omega)
    have d1 : (i - 2 ^ (h + 1)) / 2 = i / 2 - 2 ^ h := by omega
    have d2 : (m - 2 ^ (h + 1)) / 2 = m / 2 - 2 ^ h := by omega
    by_cases ho : i % 2 = 1
    · rw [sides_odd (by omega) ho, sides_odd (a := i - 2 ^ (h + 1)) (by omega) (by omega), d1, d2, hi]; rfl
    · by_cases e : i = m
      · subst e
        rw [sides_eq (by omega) (by omega) rfl, hi]
        by_cases hz : i - 2 ^ (h + 1) = 0
        · have hz2 : i / 2 - 2 ^ h = 0 := by omega
          rw [hz, hz2]
        · rw [sides_eq (a := i - 2 ^ (h + 1)) hz (by omega) rfl, d1]
      · rw [sides_even (by omega) (by omega) e, sides_even (a := i - 2 ^ (h + 1)) (by omega) (by omega) (by omega), d1, d2, hi]; rfl

/-- P9.4: from above and from below the same -/
theorem up_run (leaf : List UInt8) : ∀ (r : List (List UInt8)) (n i : Nat), i < n → (if (upR leaf n i r).2 then some (upR leaf n i r).1 else none) = runS (sides i (n - 1)) leaf r.reverse := by
  intro r
  induction r with
  | nil =>
    intro n i hi
    unfold upR
    by_cases h1 : n = 1
    · subst h1
      rw [if_pos rfl, sides_zero]; rfl
    · rw [if_neg h1]
      obtain ⟨h, e, k1, k2⟩ := halfN_spec (n := n) (by omega)
      by_cases hi2 : i < 2 ^ h
      · rw [sides_left h i (n - 1) hi2 (by omega) (by omega)]
        exact (runS_snoc_nil _ _ _).symm
      · rw [sides_right h i (n - 1) (by omega) (by omega) (by omega)]
        exact (runS_snoc_nil _ _ _).symm
  | cons last r ih =>
    intro n i hi
    unfold upR
    rw [List.reverse_cons]
    by_cases h1 : n = 1
    · subst h1
      rw [if_pos rfl, sides_zero]
      cases r.reverse <;> rfl
    · rw [if_neg h1]
      obtain ⟨h, e, k1, k2⟩ := halfN_spec (n := n) (by omega)
      have hp := Nat.two_pow_pos h
      rw [e]
      by_cases hi2 : i < 2 ^ h
      · rw [if_pos hi2, sides_left h i (n - 1) hi2 (by omega) (by omega), runS_snoc, ← ih (2 ^ h) i hi2]
        cases (upR leaf (2 ^ h) i r).2 <;> rfl
      · rw [if_neg hi2, sides_right h i (n - 1) (by omega) (by omega) (by omega), runS_snoc, show n - 1 - 2 ^ h = n - 2 ^ h - 1 by omega, ← ih (n - 2 ^ h) (i - 2 ^ h) (by omega)]
        cases (upR leaf (n - 2 ^ h) (i - 2 ^ h) r).2 <;> rfl
theorem up_ckI (leaf : List UInt8) (ps : List (List UInt8)) (n i : Nat) (hi : i < n) : (if (upR leaf n i ps.reverse).2 then some (upR leaf n i ps.reverse).1 else none) = ckI i (n - 1) leaf ps := by
  rw [up_run leaf ps.reverse n i hi, List.reverse_reverse, ckI_runS ps i (n - 1) leaf (by omega)]
end Go.Proofs.YtbhpglhmnpcnkaaDoor

namespace Go.Proofs.YtbhpglhmnpcnkaaDoor
open Go.RowKit
set_option linter.unusedVariables false

theorem half_end {n k : Nat} (hp : ∃ h, k = 2 ^ h) (h1 : k = 1 ∨ k < n) (h2 : ¬ 2 * k < n) : k = halfN n := by
  obtain ⟨h, rfl⟩ := hp
  have hh := Nat.two_pow_pos h
  by_cases hn : n ≤ 2
  · rw [halfN_small hn]; omega
  · rw [halfN_of (h := h) (by omega) (by rw [Nat.pow_succ]; omega)]

set_option maxRecDepth 100000 in
set_option maxHeartbeats 1000000 in
theorem half_any (n : Nat) (w : World) (hn : n ≤ 1099511627776) :
    Calls Tryd.prog 64 #[.int .i64 (n : Int)] w fun e w' => e = .returned (.int .i64 (halfN n : Int)) ∧ w' = w := by
  go_enter Tryd.func64, Tryd.ntmps64
  go_wp2_with fail
  go_loopw [3] (fun v wr => ∃ k : Nat, v = .int .i64 (k : Int) ∧ Sec (∃ h, k = 2 ^ h) ∧ (k = 1 ∨ k < n) ∧ 0 < k ∧ wr = w)
    (fun v _ => 2 * n + 2 - (intOf v).toNat)
  case atStart => exact ⟨1, rfl, sec ⟨0, rfl⟩, .inl rfl, by omega, rfl⟩
  case round =>
    obtain ⟨k, rfl, HP, hk, hk0, rfl⟩ := hrel
    by_cases hlt : 2 * k < n
    · have hlti : 2 * (k : Int) < (n : Int) := by omega
      have hk2 : k < n := by omega
      clear hk
      go_wp2_with fail
      go_roundw
      case rel => exact ⟨k * 2, by go_num, sec (by obtain ⟨h, e⟩ := HP.out; exact ⟨h + 1, by rw [e, Nat.pow_succ]⟩), .inr (by omega), by omega, by trivial⟩
      case measure => simp [intOf]; omega
    · have hlti : ¬ 2 * (k : Int) < (n : Int) := by omega
      have HE := sec (half_end HP.out hk hlt)
      have hk2 : k ≤ 1099511627777 := by omega
      clear hk hlt
      go_wp2_with fail
      go_ret
      exact ⟨by rw [← HE.out]; rfl, by trivial⟩

set_option maxHeartbeats 1000000 in
theorem leaf_any (s : List UInt8) (w : World) (hT : TabK w) (hs : s.length ≤ 1099511627776) :
    Calls Tryd.prog 63 #[.string (bs s)] w fun e w' => e = .returned (.string (bs (leafH s))) ∧ Gr w w' := by
  have HF : Sec (leafH s = sha ([0] ++ s)) := sec rfl
  have HL : Sec (([0] ++ s : List UInt8).length ≤ 576460752303423488) := sec (by simp; omega)
  have h63 : ¬ 9223372036854775807 < 1 + s.length := by omega
  go_enter Tryd.func63, Tryd.ntmps63
  go_wp2_with (go_at_call 51; refine (sum_any ([0] ++ s) _ hT HL.out).mono ?_; rintro e w1 ⟨rfl, g1⟩)
  go_ret
  exact ⟨by rw [HF.out]; rfl, g1⟩
set_option maxHeartbeats 1000000 in
theorem node_any (a b : List UInt8) (w : World) (hT : TabK w) (ha : a.length ≤ 1099511627776) (hb : b.length ≤ 1099511627776) :
    Calls Tryd.prog 65 #[.string (bs a), .string (bs b)] w fun e w' => e = .returned (.string (bs (nodeH a b))) ∧ Gr w w' := by
  have HF : Sec (nodeH a b = sha ([1] ++ a ++ b)) := sec rfl
  have HL : Sec (([1] ++ a ++ b : List UInt8).length ≤ 576460752303423488) := sec (by simp; omega)
  have h63 : ¬ 9223372036854775807 < 1 + a.length := by omega
  have h64 : ¬ 9223372036854775807 < 1 + a.length + b.length := by omega
  go_enter Tryd.func65, Tryd.ntmps65
  go_wp2_with (go_at_call 51; refine (sum_any ([1] ++ a ++ b) _ hT HL.out).mono ?_; rintro e w1 ⟨rfl, g1⟩)
  go_ret
  exact ⟨by rw [HF.out]; rfl, g1⟩
end Go.Proofs.YtbhpglhmnpcnkaaDoor

namespace Go.Proofs.YtbhpglhmnpcnkaaDoor
open Go.RowKit
set_option linter.unusedVariables false

def Short (ss : List (List UInt8)) : Prop := ∀ s ∈ ss, s.length ≤ 1099511627776
theorem Short.take {ss : List (List UInt8)} (h : Short ss) (k : Nat) : Short (ss.take k) := fun s hs => h s (List.mem_of_mem_take hs)
theorem Short.drop {ss : List (List UInt8)} (h : Short ss) (k : Nat) : Short (ss.drop k) := fun s hs => h s (List.mem_of_mem_drop hs)
theorem StrRow.take {w : World} {A : Option Addr} {n : Nat} {ss : List (List UInt8)} (h : StrRow w A n ss) (k : Nat) (hk : k ≤ n) : StrRow w A k (ss.take k) := by
  refine ⟨?_, fun hk0 => ?_⟩
  · have := h.len; simp; omega
  · obtain ⟨b, off, e, hc⟩ := Row.at_ h (by omega)
    refine ⟨b, off, e, fun i v hv => hc i v ?_⟩
    rw [List.map_take] at hv
    obtain ⟨hl, hg⟩ := List.getElem?_eq_some_iff.1 hv
    rw [List.getElem_take] at hg
    rw [List.length_take] at hl
    exact List.getElem?_eq_some_iff.2 ⟨by omega, hg⟩
theorem StrRow.drop {w : World} {b off n : Nat} {ss : List (List UInt8)} (h : StrRow w (some ⟨b, off, none⟩) n ss) (k : Nat) (hk : k ≤ n) : StrRow w (some ⟨b, off + k, none⟩) (n - k) (ss.drop k) := by
  refine ⟨?_, fun hk0 => ?_⟩
  · have := h.len; simp; omega
  · obtain ⟨b', off', e, hc⟩ := Row.at_ h (by omega)
    injection e with e
    injection e with e1 e2 _
    subst e1 e2
    refine ⟨b, off + k, rfl, fun i v hv => ?_⟩
    rw [List.map_drop, List.getElem?_drop] at hv
    rw [Nat.add_assoc]
    exact hc _ v hv

set_option maxRecDepth 100000 in
set_option maxHeartbeats 2000000 in
theorem root_any (N : Nat) : ∀ (ss : List (List UInt8)) (A : Option Addr) (n cap : Nat) (w : World), ss.length ≤ N → n ≤ 1099511627776 → n ≤ cap → StrRow w A n ss → Short ss → TabK w →
    Calls Tryd.prog 47 #[.slice A n cap] w fun e w' => e = .returned (.string (bs (rootL ss))) ∧ Gr w w' := by
  induction N with
  | zero =>
    intro ss A n cap w hN hn hcap hrow hs hT
    have hl := hrow.len
    obtain rfl : ss = [] := List.eq_nil_of_length_eq_zero (by omega)
    obtain rfl : n = 0 := by simpa using hl.symm
    have HR := sec rootL_nil
    clear hl
    go_enter Tryd.func47, Tryd.ntmps47
    go_wp2_with (go_at_call 51; refine (sum_any [] _ hT (by simp)).mono ?_; rintro e w1 ⟨rfl, g1⟩)
    go_ret
    exact ⟨by rw [HR.out]; rfl, g1⟩
  | succ N ih =>
    intro ss A n cap w hN hn hcap hrow hs hT
    have hl := hrow.len
    by_cases h0 : n = 0
    · subst h0
      obtain rfl : ss = [] := List.eq_nil_of_length_eq_zero hl
      have HR := sec rootL_nil
      clear hl ih
      go_enter Tryd.func47, Tryd.ntmps47
      go_wp2_with (go_at_call 51; refine (sum_any [] _ hT (by simp)).mono ?_; rintro e w1 ⟨rfl, g1⟩)
      go_ret
      exact ⟨by rw [HR.out]; rfl, g1⟩
    · by_cases h1 : n = 1
      · subst h1
        obtain ⟨s, rfl⟩ : ∃ s, ss = [s] := by
          match ss, hl with
          | [s], _ => exact ⟨s, rfl⟩
        have HR := sec (rootL_one s)
        have hsl := hs s (by simp)
        obtain ⟨b, off, rfl, hc⟩ := hrow.cell (i := 0) (by simp)
        simp at hc
        clear hl ih h0 hs
        go_enter Tryd.func47, Tryd.ntmps47
        go_wp2_with (go_at_call 63; refine (leaf_any s _ hT hsl).mono ?_; rintro e w1 ⟨rfl, g1⟩)
        go_ret
        exact ⟨by rw [HR.out]; rfl, g1⟩
      · have hlt : 1 < n := by omega
        have t0 : ((n : Int) == 0) = false := by rw [beq_eq_false_iff_ne]; omega
        have t1 : ((n : Int) == 1) = false := by rw [beq_eq_false_iff_ne]; omega
        have hkl := halfN_lt hlt
        have hkp := halfN_pos n
        have hR := rootL_more (l := ss) (by omega)
        rw [hl] at hR
        have HH : Sec (∀ w, Calls Tryd.prog 64 #[.int .i64 (n : Int)] w fun e w' => e = .returned (.int .i64 (halfN n : Int)) ∧ w' = w) := sec fun w => half_any n w hn
        obtain ⟨b, off, rfl, _⟩ := Row.at_ hrow (by omega)
        obtain ⟨k, hk⟩ : ∃ k, k = halfN n := ⟨_, rfl⟩
        rw [← hk] at hkl hkp hR HH
        have hT1 := hrow.take k (by omega)
        have hT2 := hrow.drop k (by omega)
        have IH1 : Sec (∀ w', Gr w w' → Calls Tryd.prog 47 #[.slice (some ⟨b, off, none⟩) k cap] w' fun e w'' => e = .returned (.string (bs (rootL (ss.take k)))) ∧ Gr w' w'') :=
          sec fun w' g => ih (ss.take k) _ k cap w' (by simp; omega) (by omega) (by omega) (hT1.gr g) (hs.take k) (hT.gr g)
        have IH2 : Sec (∀ w', Gr w w' → Calls Tryd.prog 47 #[.slice (some ⟨b, off + k, none⟩) (n - k : Nat) (cap - k : Nat)] w' fun e w'' => e = .returned (.string (bs (rootL (ss.drop k)))) ∧ Gr w' w'') :=
          sec fun w' g => ih (ss.drop k) _ (n - k) (cap - k) w' (by simp; omega) (by omega) (by omega) (hT2.gr g) (hs.drop k) (hT.gr g)
        have HR := sec hR
        have hki : (k : Int) ≤ (n : Int) := by omega
        have hkc : (k : Int) ≤ (cap : Int) := by omega
        have hkc2 : ¬ cap = k := by omega
        clear hT1 hT2 hR hk ih hl h0 h1 hrow hs hN
        go_enter Tryd.func47, Tryd.ntmps47
        go_wp2_with (go_at_call 64; with_reducible refine Calls.mono (HH.out _) ?_; rintro e w1 ⟨rfl, rfl⟩)
        have HL1 := sec (show (rootL (ss.take k)).length ≤ 1099511627776 by rw [rootL_len]; omega)
        have HL2 := sec (show (rootL (ss.drop k)).length ≤ 1099511627776 by rw [rootL_len]; omega)
        obtain ⟨R1, hR1⟩ : ∃ R, R = rootL (ss.take k) := ⟨_, rfl⟩
        obtain ⟨R2, hR2⟩ : ∃ R, R = rootL (ss.drop k) := ⟨_, rfl⟩
        rw [← hR1] at IH1 HL1 HR
        rw [← hR2] at IH2 HL2 HR
        clear hR1 hR2
        go_region_held3 (fun w' => Gr w1 w') (first | assumption | exact (Gr.refl _).drew | exact Gr.refl _)
          (first
            | (go_at_call 47; with_reducible refine Calls.mono (IH1.out _ (by assumption)) ?_; rintro e w2 ⟨rfl, g2⟩; have gg2 : Gr w1 w2 := Gr.trans (by assumption) g2)
            | (go_at_call 47; with_reducible refine Calls.mono (IH2.out _ (by assumption)) ?_; rintro e w3 ⟨rfl, g3⟩; have gg3 : Gr w1 w3 := Gr.trans (by assumption) g3)
            | (go_at_call 65; with_reducible refine Calls.mono (node_any R1 R2 _ (hT.gr (by assumption)) HL1.out HL2.out) ?_; rintro e w4 ⟨rfl, g4⟩; have gg4 : Gr w1 w4 := Gr.trans (by assumption) g4))
        all_goals
          go_wp2_with fail
          go_ret
          exact ⟨by rw [HR.out]; rfl, by assumption⟩
end Go.Proofs.YtbhpglhmnpcnkaaDoor

namespace Go.Proofs.YtbhpglhmnpcnkaaDoor
open Go.RowKit
set_option linter.unusedVariables false

set_option maxRecDepth 100000 in
set_option maxHeartbeats 1000000 in
theorem empty_any (w : World) (hT : TabK w) : Calls Tryd.prog 21 #[] w fun e w' => e = .returned (.agg (headC 0 (sha []))) ∧ Gr w w' := by
  have hR : ∀ w, TabK w → Calls Tryd.prog 47 #[.slice none 0 0] w fun e w' => e = .returned (.string (bs (sha []))) ∧ Gr w w' := by
    intro w hT
    have := root_any 0 [] none 0 0 w (by simp) (by omega) (by omega) ⟨rfl, fun h => absurd h (by omega)⟩ (by intro s h; cases h) hT
    rw [rootL_nil] at this
    exact this
  have HR := sec hR
  clear hR
  go_enter Tryd.func21, Tryd.ntmps21
  go_wp2_with (first
    | (refine wpList_store_blk rfl 26 (.tmp 0) (.tmp 2) rfl (g := w.heap.size) (cs' := headC 0 (sha [])) rfl rfl hB A.head rfl (headC_one _ _) ?_; intro w2 h2 hg2)
    | (go_at_call 47; refine Calls.mono (HR.out _ (hT.gr ((Gr.refl w).alloc _))) ?_; rintro e w1 ⟨rfl, g1⟩; have hB := (Blk.new w 26 (headC 0 [])).gr g1; have gg1 : Gr w w1 := Gr.trans ((Gr.refl w).alloc _) g1))

  refine bodyPost_ret (results_blk rfl _ rfl h2 A.head) rfl ?_
  exact ⟨rfl, Gr.only gg1 hg2 (Nat.le_refl _)⟩
set_option maxRecDepth 100000 in
set_option maxHeartbeats 1000000 in
theorem nohead_any (w : World) : Calls Tryd.prog 22 #[] w fun e w' => e = .returned (.agg (headC 0 (sha []))) ∧ Gr w w' := by
  go_enter Tryd.func22, Tryd.ntmps22
  go_wp2_with (first
    | (refine wpList_store_blk rfl 26 (.tmp 0) (.tmp 2) rfl (g := w.heap.size) (cs' := headC 0 (sha [])) rfl rfl hB A.head rfl (headC_one _ _) ?_; intro w2 h2 hg2)
    | (go_at_call 48; refine (rsum_any [] _ (by simp)).mono ?_; rintro e w1 ⟨rfl, g1⟩; have hB := (Blk.new w 26 (headC 0 [])).gr g1; have gg1 : Gr w w1 := Gr.trans ((Gr.refl w).alloc _) g1))

  refine bodyPost_ret (results_blk rfl _ rfl h2 A.head) rfl ?_
  exact ⟨rfl, Gr.only gg1 hg2 (Nat.le_refl _)⟩


end Go.Proofs.YtbhpglhmnpcnkaaDoor

namespace Go.Proofs.YtbhpglhmnpcnkaaDoor
open Go.RowKit
set_option linter.unusedVariables false

/-- P6.7: the files, the fuse, the error -/
def crashR (fs : List Fl) (f keep : Int) : List Fl × Int × Int :=
  if goodFs fs = true ∧ 0 ≤ keep then (fs.map (crashF keep.toNat), -1, 0) else (fs, f, 3)
def crashTo (K i : Nat) (fs : List Fl) : List Fl := (fs.take i).map (crashF K) ++ fs.drop i
theorem crashTo_zero (K : Nat) (fs : List Fl) : crashTo K 0 fs = fs := by simp [crashTo]
theorem crashTo_all (K : Nat) (fs : List Fl) : crashTo K fs.length fs = fs.map (crashF K) := by simp [crashTo]
theorem crashTo_len (K i : Nat) (fs : List Fl) : (crashTo K i fs).length = fs.length := by simp [crashTo]; omega
theorem crashTo_get (K i : Nat) (fs : List Fl) (h : i < fs.length) : (crashTo K i fs)[i]'(by rw [crashTo_len]; exact h) = fs[i] := by
  unfold crashTo
  rw [List.getElem_append_right (by rw [List.length_map, List.length_take]; exact Nat.min_le_left _ _)]
  rw [List.getElem_drop]
  congr 1
  rw [List.length_map, List.length_take]
  omega
theorem crashTo_succ (K i : Nat) (fs : List Fl) (h : i < fs.length) : crashTo K (i + 1) fs = (crashTo K i fs).set i (crashF K fs[i]) := by
  unfold crashTo
  rw [List.set_append_right _ _ (by rw [List.length_map, List.length_take]; exact Nat.min_le_left _ _)]
  rw [List.take_succ_eq_append_getElem h, List.map_append, List.drop_eq_getElem_cons h]
  rw [List.length_map, List.length_take, Nat.min_eq_left (Nat.le_of_lt h), Nat.sub_self, List.set_cons_zero, List.append_assoc]
  rfl

theorem own_low {w : World} {B B' e size n : Nat} {v : Value} {xs : List Value} (h : w.ownsRow B e size v n xs) (hle : B' ≤ B) : w.ownsRow B' e size v n xs := by
  refine ⟨h.1, ?_⟩
  rcases h.2 with h0 | ⟨g, cap, cur, hv, hB, r⟩
  · exact .inl h0
  · exact .inr ⟨g, cap, cur, hv, Nat.le_trans hle hB, r⟩
theorem own_set {w : World} {B e size n cap g : Nat} {xs : List Value} (h : w.ownsRow B e size (.slice (some ⟨g, 0, none⟩) n cap) n xs) (j : Nat) (hj : j < xs.length) (u : Value) :
    (w.setCell ⟨g, j, none⟩ u).ownsRow B e size (.slice (some ⟨g, 0, none⟩) n cap) n (xs.set j u) := by
  have hl := h.1
  refine ⟨by rw [List.length_set]; exact hl, ?_⟩
  rcases h.2 with ⟨h0, _⟩ | ⟨g', cap', cur, hv, hB, hh, hle, hm, hs, ht⟩
  · cases h0
  · injection hv with hv hv2 hv3
    injection hv with hv
    injection hv with hv _ _
    subst hv hv3
    refine .inr ⟨g, cap, cur.setIfInBounds j u, rfl, hB, ?_, hle, hm, by rw [Array.size_setIfInBounds]; exact hs, ?_⟩
    · have : Blk w g e cur := hh
      exact this.set_ j u
    · rw [Array.toList_setIfInBounds, List.take_set, ht]
theorem flat_set (fs : List Fl) : ∀ (i : Nat) (h : i < fs.length) (j : Nat) (u : Value) (f' : Fl), j < 3 → fileC f' = (fileC fs[i]).set j u → (fs.flatMap fileC).set (i * 3 + j) u = (fs.set i f').flatMap fileC := by
  induction fs with
  | nil => intro i h; simp at h
  | cons f r ih =>
    intro i h j u f' hj he
    cases i with
    | zero =>
      simp only [List.getElem_cons_zero] at he
      rw [List.flatMap_cons, List.set_append_left _ _ (by simp [fileC]; omega), Nat.zero_mul, Nat.zero_add, ← he]
      rfl
    | succ i =>
      simp only [List.getElem_cons_succ] at he
      have := ih i (by simpa using h) j u f' hj he
      rw [List.flatMap_cons, List.set_append_right _ _ (by simp [fileC]; omega), List.set_cons_succ, List.flatMap_cons, ← this]
      congr 2
      simp [fileC]; omega

theorem own_file2 {w : World} {B e n cap g : Nat} {fs : List Fl} (h : w.ownsRow B e 3 (.slice (some ⟨g, 0, none⟩) n cap) n (fs.flatMap fileC)) (i : Nat) (nm sf tl s t : List UInt8) (hi : fs[i]? = some (nm, sf, tl)) :
    ((w.setCell ⟨g, i * 3 + 1, none⟩ (.string (bs s))).setCell ⟨g, i * 3 + 2, none⟩ (.string (bs t))).ownsRow B e 3 (.slice (some ⟨g, 0, none⟩) n cap) n ((fs.set i (nm, s, t)).flatMap fileC) := by
  obtain ⟨hl, hg⟩ := List.getElem?_eq_some_iff.1 hi
  have hfl : (fs.flatMap fileC).length = fs.length * 3 := flat_len fileC 3 (fun _ => rfl) fs
  have o1 := own_set h (i * 3 + 1) (by rw [hfl]; omega) (.string (bs s))
  rw [flat_set fs i hl 1 (.string (bs s)) (nm, s, tl) (by omega) (by rw [hg]; rfl)] at o1
  have hfl2 : ((fs.set i (nm, s, tl)).flatMap fileC).length = fs.length * 3 := by rw [flat_len fileC 3 (fun _ => rfl), List.length_set]
  have o2 := own_set o1 (i * 3 + 2) (by rw [hfl2]; omega) (.string (bs t))
  rw [flat_set (fs.set i (nm, s, tl)) i (by rw [List.length_set]; exact hl) 2 (.string (bs t)) (nm, s, t) (by omega) (by rw [List.getElem_set_self]; rfl), List.set_set] at o2
  exact o2

set_option maxRecDepth 100000 in
set_option maxHeartbeats 4000000 in
theorem crash_any (fs : List Fl) (A : Option Addr) (n cap : Nat) (f keep : Int) (w : World) (hn : n ≤ 1099511627776) (hx : FRow w A n fs) (hA : A = none → n = 0 ∧ cap = 0) (hs : ∀ f ∈ fs, f.1.length ≤ 1099511627776 ∧ f.2.1.length ≤ 1099511627776 ∧ f.2.2.length ≤ 1099511627776) :
    Calls Tryd.prog 26 #[diskV A n cap f, .int .i64 keep] w fun e w' => ∃ A' cap', e = .returned (.tuple #[diskV A' n cap' (crashR fs f keep).2.1, .int .i64 (crashR fs f keep).2.2]) ∧ FRow w' A' n (crashR fs f keep).1 ∧ Gr w w' ∧ (A' = A ∨ w'.ownsRow w.heap.size 87 3 (.slice A' n cap') n ((crashR fs f keep).1.flatMap fileC)) := by
  have hg0 := ((Gr.refl w).alloc (.cells #[.slice A n cap, .int .i64 f] 24)).alloc (.cells #[.slice none 0 0, .int .i64 0] 24)
  have hb1 := (Blk.new w 24 #[.slice A n cap, .int .i64 f]).alloc (.cells #[.slice none 0 0, .int .i64 0] 24)
  have hb2 := Blk.new1 w (.cells #[.slice A n cap, .int .i64 f] 24) 24 #[.slice none 0 0, .int .i64 0]
  have HG := sec (dgood_any fs A n cap f _ hn (hx.gr hg0) hs)
  have hl := hx.len
  have HX := sec (hx.gr hg0)
  obtain ⟨wa, hwa⟩ : ∃ x, x = (w.alloc (.cells #[.slice A n cap, .int .i64 f] 24)).alloc (.cells #[.slice none 0 0, .int .i64 0] 24) := ⟨_, rfl⟩
  rw [← hwa] at hg0 hb1 hb2 HG HX
  obtain ⟨p, hp⟩ : ∃ p, p = w.heap.size := ⟨_, rfl⟩
  have hwp : w.heap.size ≤ p := by omega
  rw [← hp] at hb1 hb2
  have c0 : wa.cell? ⟨p, 0, none⟩ = some (.slice A n cap) := hb1.cell 0
  have c1 : wa.cell? ⟨p, 1, none⟩ = some (.int .i64 f) := hb1.cell 1
  have HB := sec hb1
  have HR2 := sec hb2
  have HX0 := sec hx
  clear hb1 hb2 hs hx
  unfold diskV at HG
  unfold diskV
  by_cases hgk : goodFs fs = true ∧ 0 ≤ keep
  · have HR : Sec (crashR fs f keep = (fs.map (crashF keep.toNat), -1, 0)) := sec (by unfold crashR; rw [if_pos hgk])
    rw [HR.out]
    obtain ⟨hgf, hk0⟩ := hgk
    have hsz := goodFs_ok hgf
    rw [hgf] at HG
    have q1 : decide (keep < 0) = false := decide_eq_false (by omega)
    clear hgf
    obtain ⟨K, rfl⟩ : ∃ K : Nat, keep = (K : Int) := ⟨keep.toNat, by omega⟩
    rw [Int.toNat_natCast]
    go_enter Tryd.func26, Tryd.ntmps26
    go_wp2_with (first | (rw [← hwa, ← hp]; clear hwa hp; go_wp2_with fail) | (go_at_call 54; refine Calls.mono HG.out ?_; rintro e w1 ⟨rfl, g1⟩; have c0y : w1.cell? ⟨p, 0, none⟩ = some (.slice A n cap) := (HB.out.gr g1).cell 0) | (go_at_call 55; refine Calls.mono (clone_any fs A n cap _ hn (HX.out.gr g1) hA) ?_; rintro e w2 ⟨A', cap', rfl, hown, g2⟩))
    have hg2 := g1.trans g2
    have hb1 := (HB.out.gr hg2).alloc (.cells #[.slice A' n cap', .int .i64 (-1)] 24)
    have hb2 := (HR2.out.gr hg2).alloc (.cells #[.slice A' n cap', .int .i64 (-1)] 24)
    have hb3 := Blk.new w2 24 #[.slice A' n cap', .int .i64 (-1)]
    have hgb := hg2.alloc (.cells #[.slice A' n cap', .int .i64 (-1)] 24)
    have hown2 := own_gr hown ((Gr.refl w2).alloc (.cells #[.slice A' n cap', .int .i64 (-1)] 24))
    have hwq : w.heap.size ≤ w2.heap.size := Nat.le_trans hg0.size hg2.size
    have hw1 : w.heap.size ≤ w1.heap.size := Nat.le_trans hg0.size g1.size
    obtain ⟨wb, hwb⟩ : ∃ x, x = w2.alloc (.cells #[.slice A' n cap', .int .i64 (-1)] 24) := ⟨_, rfl⟩
    obtain ⟨q, hq⟩ : ∃ q, q = w2.heap.size := ⟨_, rfl⟩
    rw [← hwb] at hb1 hb2 hb3 hgb hown2
    rw [← hq] at hb3 hwq
    rw [← hwb, ← hq]
    have hgB := hg0.trans hgb
    obtain ⟨B1, hB1⟩ : ∃ B1, B1 = w1.heap.size := ⟨_, rfl⟩
    rw [← hB1] at hown2 hw1
    rw [← crashTo_zero K fs] at hown2
    have HO := sec hown2
    have HB2 := sec hb2
    have HB3 := sec hb3
    have HSZ := sec hsz
    clear hown hown2 hb1 hb2 hb3 hwb hq hg2 g1 g2 hgb HX HB c0 c1 c0y hB1 HG hg0 hsz
    go_loopw [24, 7, 8] (fun iv _ _ wr => ∃ i : Nat, iv = .int .i64 (i : Int) ∧ i ≤ n ∧ Sec (wr.ownsRow B1 87 3 (.slice A' n cap') n ((crashTo K i fs).flatMap fileC)) ∧ Sec (Blk wr (p + 1) 24 #[.slice none 0 0, .int .i64 0]) ∧ Sec (Blk wr q 24 #[.slice A' n cap', .int .i64 (-1)]) ∧ Gr w wr) (fun iv _ _ _ => n - (intOf iv).toNat)
    case atStart => exact ⟨0, rfl, by omega, HO, HB2, HB3, hgB⟩
    case round =>
      obtain ⟨i, rfl, hi, HOw, H2, H3, hg⟩ := hrel
      by_cases hlt : i < n
      · have hif : i < fs.length := by omega
        have hii : (i : Int) < (n : Int) := by omega
        obtain ⟨b, off, rfl, e0, e1, e2⟩ := FRow.cell (fs := crashTo K i fs) (Row.own HOw.out) (i := i) (by rw [crashTo_len]; exact hif)
        rw [crashTo_get K i fs hif] at e0 e1 e2
        have hbo : off = 0 ∧ B1 ≤ b := by
          rcases HOw.out.2 with ⟨h, h0⟩ | ⟨g, _, _, h, hB, _⟩
          · injection h with h; cases h
          · injection h with h; injection h with h; injection h with h h'; exact ⟨h', by omega⟩
        obtain ⟨rfl, hBb⟩ := hbo
        have fz : ∀ j, wr.frozen? ⟨b, j, none⟩ = false := fun j => HOw.out.frozenAt j
        have f1 : wr.frozen? ⟨b, 0 + i * 3 + 1, none⟩ = false := fz _
        have f2 : wr.frozen? ⟨b, 0 + i * 3 + 2, none⟩ = false := fz _
        have hsz := HSZ.out fs[i] (List.getElem_mem hif)
        have HSU : Sec (crashTo K (i + 1) fs = (crashTo K i fs).set i (crashF K fs[i])) := sec (crashTo_succ K i fs hif)
        have HGT : Sec ((crashTo K i fs)[i]? = some fs[i]) := sec (by rw [List.getElem?_eq_getElem (by rw [crashTo_len]; exact hif), crashTo_get K i fs hif])
        obtain ⟨x, hxx⟩ : ∃ x, x = fs[i] := ⟨_, rfl⟩
        rw [← hxx] at e0 e1 e2 hsz HSU HGT
        clear hxx hif
        obtain ⟨nm, sf, tl⟩ := x
        simp only [Nat.zero_add] at e0 e1 e2 hsz HSU f1 f2
        obtain ⟨_, hz1, hz2⟩ := hsz
        have hqb : b ≠ q := fun e => by
          have := own_blk_ne HOw.out H3.out (by decide)
          exact this (by rw [e]; rfl)
        have d3 : wr.cell? ⟨q, 0, none⟩ = some (.slice (some ⟨b, 0, none⟩) n cap') := H3.out.cell 0
        have hpb : b ≠ p + 1 := fun e => by
          have := own_blk_ne HOw.out H2.out (by decide)
          exact this (by rw [e]; rfl)
        have hpq : w.heap.size ≤ p + 1 := by omega
        have hwb : w.heap.size ≤ b := by omega
        have hnext : ∀ s : List UInt8, s = sf ++ tl.take K → ((wr.setCell ⟨b, i * 3 + 1, none⟩ (.string (bs s))).setCell ⟨b, i * 3 + 2, none⟩ (.string (bs []))).ownsRow B1 87 3 (.slice (some ⟨b, 0, none⟩) n cap') n ((crashTo K (i + 1) fs).flatMap fileC) := fun s hs => by
          have := own_file2 HOw.out i nm sf tl s [] HGT.out
          rw [HSU.out, crashF, ← hs]; exact this
        have HNX := sec hnext
        have HK2 : Sec (∀ s : List UInt8, Blk ((wr.setCell ⟨b, i * 3 + 1, none⟩ (.string (bs s))).setCell ⟨b, i * 3 + 2, none⟩ (.string (bs []))) (p + 1) 24 #[.slice none 0 0, .int .i64 0]) := sec (fun s => (H2.out.far (p := ⟨b, i * 3 + 1, none⟩) (Ne.symm hpb) _).far (p := ⟨b, i * 3 + 2, none⟩) (Ne.symm hpb) _)
        have HK3 : Sec (∀ s : List UInt8, Blk ((wr.setCell ⟨b, i * 3 + 1, none⟩ (.string (bs s))).setCell ⟨b, i * 3 + 2, none⟩ (.string (bs []))) q 24 #[.slice (some ⟨b, 0, none⟩) n cap', .int .i64 (-1)]) := sec (fun s => (H3.out.far (p := ⟨b, i * 3 + 1, none⟩) (Ne.symm hqb) _).far (p := ⟨b, i * 3 + 2, none⟩) (Ne.symm hqb) _)
        have HKG : Sec (∀ s : List UInt8, Gr w ((wr.setCell ⟨b, i * 3 + 1, none⟩ (.string (bs s))).setCell ⟨b, i * 3 + 2, none⟩ (.string (bs [])))) := sec (fun s => (hg.setCell (p := ⟨b, i * 3 + 1, none⟩) hwb _).setCell (p := ⟨b, i * 3 + 2, none⟩) hwb _)
        clear hnext HSU HGT fz hpq hpb hqb HO HB2 HB3 hgB
        by_cases hkl : K ≤ tl.length
        · have q2 : (K : Int) ≤ (tl.length : Int) := by omega
          go_wp2_with fail
          go_region
          go_wp2_with fail
          go_roundw
          case rel => exact ⟨i + 1, by go_num, by omega, sec (HNX.out _ rfl), sec (HK2.out _), sec (HK3.out _), (HKG.out _).drew⟩
          case measure => simp [intOf]; omega
        · have q2 : ¬ (K : Int) ≤ (tl.length : Int) := by omega
          have htk : tl.take K = tl := List.take_of_length_le (by omega)
          rw [htk] at HNX
          clear htk
          go_wp2_with fail
          go_region
          go_wp2_with fail
          go_roundw
          case rel => exact ⟨i + 1, by go_num, by omega, sec (HNX.out _ rfl), sec (HK2.out _), sec (HK3.out _), (HKG.out _).drew⟩
          case measure => simp [intOf]; omega
      · obtain rfl : i = n := by omega
        have d30 : wr.cell? ⟨q, 0, none⟩ = some (.slice A' i cap') := H3.out.cell 0
        have d31 : wr.cell? ⟨q, 1, none⟩ = some (.int .i64 (-1)) := H3.out.cell 1
        have d20 : wr.cell? ⟨p + 1, 0, none⟩ = some (.slice none 0 0) := H2.out.cell 0
        have d21 : wr.cell? ⟨p + 1, 1, none⟩ = some (.int .i64 0) := H2.out.cell 1
        have f20 : wr.frozen? ⟨p + 1, 0, none⟩ = false := H2.out.frozen 0
        have f21 : wr.frozen? ⟨p + 1, 1, none⟩ = false := H2.out.frozen 1
        clear hlt hi
        go_wp2_with fail
        have hB5 := (H2.out.set_ 0 (.slice A' i cap')).set_ 1 (.int .i64 (-1))
        refine bodyPost_ret (results_blk_tmp rfl _ rfl hB5 aggDisk) rfl ?_
        have hne := own_blk_ne HOw.out H2.out (by decide)
        have ho3 := ownsRow_setCell_other (ownsRow_setCell_other HOw.out (a := ⟨p + 1, 0, none⟩) hne (.slice A' i cap')) (a := ⟨p + 1, 1, none⟩) hne (.int .i64 (-1))
        rw [← hl, crashTo_all, hl] at ho3
        refine ⟨A', cap', rfl, Row.own ho3, (hg.setCell (p := ⟨p + 1, 0, none⟩) (by show w.heap.size ≤ p + 1; omega) _).setCell (p := ⟨p + 1, 1, none⟩) (by show w.heap.size ≤ p + 1; omega) _, .inr (own_low ho3 (by omega))⟩
  · have HR : Sec (crashR fs f keep = (fs, f, 3)) := sec (by unfold crashR; rw [if_neg hgk])
    rw [HR.out]
    have hW : ∀ w1, Gr wa w1 → Blk ((w1.setCell ⟨p + 1, 0, none⟩ (.slice A n cap)).setCell ⟨p + 1, 1, none⟩ (.int .i64 f)) (p + 1) 24 #[.slice A n cap, .int .i64 f] := fun w1 g1 => ((HR2.out.gr g1).set_ 0 (.slice A n cap)).set_ 1 (.int .i64 f)
    have hV : ∀ w1, Gr wa w1 → Gr w ((w1.setCell ⟨p + 1, 0, none⟩ (.slice A n cap)).setCell ⟨p + 1, 1, none⟩ (.int .i64 f)) := fun w1 g1 => ((hg0.trans g1).setCell (p := ⟨p + 1, 0, none⟩) (by show w.heap.size ≤ p + 1; omega) _).setCell (p := ⟨p + 1, 1, none⟩) (by show w.heap.size ≤ p + 1; omega) _
    have HW := sec hW
    have HV := sec hV
    clear hW hV
    cases hgf : goodFs fs with
    | false =>
      rw [hgf] at HG
      clear hgf hgk
      go_enter Tryd.func26, Tryd.ntmps26
      go_wp2_with (first | (rw [← hwa, ← hp]; clear hwa hp; go_wp2_with fail) | (go_at_call 54; refine Calls.mono HG.out ?_; rintro e w1 ⟨rfl, g1⟩; have c0y : w1.cell? ⟨p, 0, none⟩ = some (.slice A n cap) := (HB.out.gr g1).cell 0; have c1y : w1.cell? ⟨p, 1, none⟩ = some (.int .i64 f) := (HB.out.gr g1).cell 1; have d20 : w1.cell? ⟨p + 1, 0, none⟩ = some (.slice none 0 0) := (HR2.out.gr g1).cell 0; have d21 : w1.cell? ⟨p + 1, 1, none⟩ = some (.int .i64 0) := (HR2.out.gr g1).cell 1; have f20 : w1.frozen? ⟨p + 1, 0, none⟩ = false := (HR2.out.gr g1).frozen 0; have f21 : w1.frozen? ⟨p + 1, 1, none⟩ = false := (HR2.out.gr g1).frozen 1))
      refine bodyPost_ret (results_blk_tmp rfl _ rfl (HW.out w1 g1) aggDisk) rfl ?_
      exact ⟨A, cap, rfl, FRow.gr HX0.out (HV.out w1 g1), HV.out w1 g1, .inl rfl⟩
    | true =>
      rw [hgf] at HG
      have q1 : decide (keep < 0) = true := decide_eq_true (by have : ¬ 0 ≤ keep := fun h => hgk ⟨hgf, h⟩; omega)
      clear hgf hgk
      go_enter Tryd.func26, Tryd.ntmps26
      go_wp2_with (first | (rw [← hwa, ← hp]; clear hwa hp; go_wp2_with fail) | (go_at_call 54; refine Calls.mono HG.out ?_; rintro e w1 ⟨rfl, g1⟩; have c0y : w1.cell? ⟨p, 0, none⟩ = some (.slice A n cap) := (HB.out.gr g1).cell 0; have c1y : w1.cell? ⟨p, 1, none⟩ = some (.int .i64 f) := (HB.out.gr g1).cell 1; have d20 : w1.cell? ⟨p + 1, 0, none⟩ = some (.slice none 0 0) := (HR2.out.gr g1).cell 0; have d21 : w1.cell? ⟨p + 1, 1, none⟩ = some (.int .i64 0) := (HR2.out.gr g1).cell 1; have f20 : w1.frozen? ⟨p + 1, 0, none⟩ = false := (HR2.out.gr g1).frozen 0; have f21 : w1.frozen? ⟨p + 1, 1, none⟩ = false := (HR2.out.gr g1).frozen 1))
      refine bodyPost_ret (results_blk_tmp rfl _ rfl (HW.out w1 g1) aggDisk) rfl ?_
      exact ⟨A, cap, rfl, FRow.gr HX0.out (HV.out w1 g1), HV.out w1 g1, .inl rfl⟩
end Go.Proofs.YtbhpglhmnpcnkaaDoor

namespace Go.Proofs.YtbhpglhmnpcnkaaDoor
open Go.RowKit
set_option linter.unusedVariables false

theorem Row.lit {w : World} {g : Nat} {t : TypeId} {cs : Array Value} (h : Blk w g t cs) : Row w cs.size (some ⟨g, 0, none⟩) 1 cs.toList :=
  ⟨by simp, fun _ => ⟨g, 0, rfl, fun i v hv => by rw [Nat.zero_add, h.cell]; simpa using hv⟩⟩
theorem map_succ (K i : Nat) (fs : List Fl) (h : i < fs.length) : ((fs.take (i + 1)).map (crashF K)).flatMap fileC = ((fs.take i).map (crashF K)).flatMap fileC ++ fileC (crashF K fs[i]) := by
  rw [List.take_succ_eq_append_getElem h, List.map_append, List.flatMap_append]
  simp

set_option maxRecDepth 100000 in
set_option maxHeartbeats 4000000 in
theorem rcrash_any (fs : List Fl) (A : Option Addr) (n cap : Nat) (f keep : Int) (w : World) (hn : n ≤ 1099511627776) (hx : FRow w A n fs) (hA : A = none → n = 0 ∧ cap = 0) (hs : ∀ f ∈ fs, f.1.length ≤ 1099511627776 ∧ f.2.1.length ≤ 1099511627776 ∧ f.2.2.length ≤ 1099511627776) :
    Calls Tryd.prog 29 #[diskV A n cap f, .int .i64 keep] w fun e w' => ∃ A' cap', e = .returned (.tuple #[diskV A' n cap' (crashR fs f keep).2.1, .int .i64 (crashR fs f keep).2.2]) ∧ FRow w' A' n (crashR fs f keep).1 ∧ Gr w w' ∧ (A' = A ∨ w'.ownsRow w.heap.size 87 3 (.slice A' n cap') n ((crashR fs f keep).1.flatMap fileC)) := by
  have hg0 := ((Gr.refl w).alloc (.cells #[.slice A n cap, .int .i64 f] 24)).alloc (.cells #[.slice none 0 0, .int .i64 0] 24)
  have hb1 := (Blk.new w 24 #[.slice A n cap, .int .i64 f]).alloc (.cells #[.slice none 0 0, .int .i64 0] 24)
  have hb2 := Blk.new1 w (.cells #[.slice A n cap, .int .i64 f] 24) 24 #[.slice none 0 0, .int .i64 0]
  have HG := sec (drgood_any fs A n cap f _ hn (hx.gr hg0) hs)
  have hl := hx.len
  have HX := sec (hx.gr hg0)
  obtain ⟨wa, hwa⟩ : ∃ x, x = (w.alloc (.cells #[.slice A n cap, .int .i64 f] 24)).alloc (.cells #[.slice none 0 0, .int .i64 0] 24) := ⟨_, rfl⟩
  rw [← hwa] at hg0 hb1 hb2 HG HX
  obtain ⟨p, hp⟩ : ∃ p, p = w.heap.size := ⟨_, rfl⟩
  have hwp : w.heap.size ≤ p := by omega
  rw [← hp] at hb1 hb2
  have c0 : wa.cell? ⟨p, 0, none⟩ = some (.slice A n cap) := hb1.cell 0
  have c1 : wa.cell? ⟨p, 1, none⟩ = some (.int .i64 f) := hb1.cell 1
  have HB := sec hb1
  have HR2 := sec hb2
  have HX0 := sec hx
  clear hb1 hb2 hs hx
  unfold diskV at HG
  unfold diskV
  by_cases hgk : goodFs fs = true ∧ 0 ≤ keep
  · have HR : Sec (crashR fs f keep = (fs.map (crashF keep.toNat), -1, 0)) := sec (by unfold crashR; rw [if_pos hgk])
    rw [HR.out]
    obtain ⟨hgf, hk0⟩ := hgk
    have hsz := goodFs_ok hgf
    rw [hgf] at HG
    have q1 : decide (keep < 0) = false := decide_eq_false (by omega)
    clear hgf
    obtain ⟨K, rfl⟩ : ∃ K : Nat, keep = (K : Int) := ⟨keep.toNat, by omega⟩
    rw [Int.toNat_natCast]
    go_enter Tryd.func29, Tryd.ntmps29
    go_wp2_with (first | (rw [← hwa, ← hp]; clear hwa hp; go_wp2_with fail) | (go_at_call 57; refine Calls.mono HG.out ?_; rintro e w1 ⟨rfl, g1⟩; have HX1 := sec (HX.out.gr g1); have c0z : (w1.alloc (.cells #[.slice none 0 0, .int .i64 (-1)] 24)).cell? ⟨p, 0, none⟩ = some (.slice A n cap) := ((HB.out.gr g1).alloc _).cell 0; have c0y : w1.cell? ⟨p, 0, none⟩ = some (.slice A n cap) := (HB.out.gr g1).cell 0))
    have hb2 := (HR2.out.gr g1).alloc (.cells #[.slice none 0 0, .int .i64 (-1)] 24)
    have hb3 := Blk.new w1 24 #[.slice none 0 0, .int .i64 (-1)]
    have hgb := g1.alloc (.cells #[.slice none 0 0, .int .i64 (-1)] 24)
    have hx1 := HX1.out.gr ((Gr.refl w1).alloc (.cells #[.slice none 0 0, .int .i64 (-1)] 24))
    have hwq : w.heap.size ≤ w1.heap.size := Nat.le_trans hg0.size g1.size
    obtain ⟨wb, hwb⟩ : ∃ x, x = w1.alloc (.cells #[.slice none 0 0, .int .i64 (-1)] 24) := ⟨_, rfl⟩
    obtain ⟨q, hq⟩ : ∃ q, q = w1.heap.size := ⟨_, rfl⟩
    have hpq : p + 1 < w1.heap.size := (HR2.out.gr g1).lt
    rw [← hwb] at hb2 hb3 hgb hx1
    rw [← hq] at hb3 hwq hpq
    rw [← hwb, ← hq]
    have hgB := hg0.trans hgb
    have HB2 := sec hb2
    have HB3 := sec hb3
    have HSZ := sec hsz
    have HO : Sec (wb.ownsRow w.heap.size 87 3 (.slice none 0 0) 0 (((fs.take 0).map (crashF K)).flatMap fileC)) := sec (World.ownsRow_nil _ _ _ _)
    clear hb2 hb3 hwb hq g1 hgb c0z HX HX1 hx1 HB c0 c1 c0y HG hg0 hsz HR2 HR
    go_loopw [22, 8, 9] (fun iv _ _ wr => ∃ (i : Nat) (A1 : Option Addr) (k1 : Nat), iv = .int .i64 (i : Int) ∧ i ≤ n ∧ Sec (wr.ownsRow w.heap.size 87 3 (.slice A1 i k1) i (((fs.take i).map (crashF K)).flatMap fileC)) ∧ Sec (Blk wr (p + 1) 24 #[.slice none 0 0, .int .i64 0]) ∧ Sec (Blk wr q 24 #[.slice A1 i k1, .int .i64 (-1)]) ∧ Gr w wr) (fun iv _ _ _ => n - (intOf iv).toNat)
    case atStart => exact ⟨0, none, 0, rfl, by omega, HO, HB2, HB3, hgB⟩
    case round =>
      clear HO HB2 HB3 hgB
      obtain ⟨i, A1, k1, rfl, hi, HOw, H2, H3, hg⟩ := hrel
      by_cases hlt : i < n
      · have hif : i < fs.length := by omega
        have hii : (i : Int) < (n : Int) := by omega
        obtain ⟨b, off, rfl, e0, e1, e2⟩ := (HX0.out.gr hg).cell hif
        have hsz := HSZ.out fs[i] (List.getElem_mem hif)
        have HMS : Sec (((fs.take (i + 1)).map (crashF K)).flatMap fileC = ((fs.take i).map (crashF K)).flatMap fileC ++ fileC (crashF K fs[i])) := sec (map_succ K i fs hif)
        obtain ⟨x, hxx⟩ : ∃ x, x = fs[i] := ⟨_, rfl⟩
        rw [← hxx] at e0 e1 e2 hsz HMS
        clear hxx hif
        obtain ⟨nm, sf, tl⟩ := x
        simp only at e0 e1 e2 hsz HMS
        obtain ⟨_, hz1, hz2⟩ := hsz
        have d3 : wr.cell? ⟨q, 0, none⟩ = some (.slice A1 i k1) := H3.out.cell 0
        have fq0 : wr.frozen? ⟨q, 0, none⟩ = false := H3.out.frozen 0
        have hb1 : (i + 1) * 48 ≤ 140737488355328 := by omega
        have hb2 : i + 1 ≤ maxLen := by unfold maxLen; omega
        have hql := H3.out.lt
        have hq0 : wr.heap.size ≠ q := by omega
        have HNE := sec (own_blk_ne HOw.out H3.out (by decide))
        have HNP := sec (own_blk_ne HOw.out H2.out (by decide))
        have hws := hg.size
        by_cases hkl : tl.length ≤ K
        · have q2 : (tl.length : Int) ≤ (K : Int) := by omega
          have htk : tl.take K = tl := List.take_of_length_le (by omega)
          simp only [crashF, htk] at HMS
          clear htk
          go_wp2_with (refine wpList_append_row E.file rfl (.tmp 36) (.tmp 44) rfl (B := w.heap.size) (A0 := A1) (n0 := i) (cap0 := k1) rfl (own_gr HOw.out (((Gr.refl wr).alloc _).alloc _)) rfl (Row.lit (Blk.new1 wr _ 87 #[.string (bs nm), .string (bs (sf ++ tl)), .string (bs [])])) (by intro h; cases h) (by intro u hu; simp at hu; rcases hu with rfl | rfl | rfl <;> rfl) hb1 hb2 (by simp; omega) ?_; intro A2 k2 w2 hown hgn; have h3 := ((H3.out.alloc (.cells #[.string (bs nm), .string (bs sf), .string (bs tl)] 87)).alloc (.cells #[.string (bs nm), .string (bs (sf ++ tl)), .string (bs [])] 87)).grown hgn (Ne.symm HNE.out); have h2 := ((H2.out.alloc (.cells #[.string (bs nm), .string (bs sf), .string (bs tl)] 87)).alloc (.cells #[.string (bs nm), .string (bs (sf ++ tl)), .string (bs [])] 87)).grown hgn (Ne.symm HNP.out); have dq0 : w2.cell? ⟨q, 0, none⟩ = some (.slice A1 i k1) := h3.cell 0; have fq : w2.frozen? ⟨q, 0, none⟩ = false := h3.frozen 0)
          go_roundw
          case rel =>
            refine ⟨i + 1, A2, k2, by go_num, by omega, sec ?_, sec (h2.far (p := ⟨q, 0, none⟩) (by show p + 1 ≠ q; omega) _), sec (h3.set_ 0 (.slice A2 (i + 1) k2)), ?_⟩
            · rw [HMS.out]
              exact ownsRow_setCell_other hown (a := ⟨q, 0, none⟩) (own_blk_ne hown h3 (by decide)) _
            · exact (Gr.grown ((hg.alloc _).alloc _) hgn (fun k hk => (HOw.out.lt k hk).1)).setCell (p := ⟨q, 0, none⟩) hwq _
          case measure => simp [intOf]; omega
        · have q2 : ¬ (tl.length : Int) ≤ (K : Int) := by omega
          have q3 : K ≤ tl.length := by omega
          simp only [crashF] at HMS
          go_wp2_with (refine wpList_append_row E.file rfl (.tmp 36) (.tmp 44) rfl (B := w.heap.size) (A0 := A1) (n0 := i) (cap0 := k1) rfl (own_gr HOw.out (((Gr.refl wr).alloc _).alloc _)) rfl (Row.lit (Blk.new1 wr _ 87 #[.string (bs nm), .string (bs (sf ++ (tl.take K))), .string (bs [])])) (by intro h; cases h) (by intro u hu; simp at hu; rcases hu with rfl | rfl | rfl <;> rfl) hb1 hb2 (by simp; omega) ?_; intro A2 k2 w2 hown hgn; have h3 := ((H3.out.alloc (.cells #[.string (bs nm), .string (bs sf), .string (bs tl)] 87)).alloc (.cells #[.string (bs nm), .string (bs (sf ++ (tl.take K))), .string (bs [])] 87)).grown hgn (Ne.symm HNE.out); have h2 := ((H2.out.alloc (.cells #[.string (bs nm), .string (bs sf), .string (bs tl)] 87)).alloc (.cells #[.string (bs nm), .string (bs (sf ++ (tl.take K))), .string (bs [])] 87)).grown hgn (Ne.symm HNP.out); have dq0 : w2.cell? ⟨q, 0, none⟩ = some (.slice A1 i k1) := h3.cell 0; have fq : w2.frozen? ⟨q, 0, none⟩ = false := h3.frozen 0)
          go_roundw
          case rel =>
            refine ⟨i + 1, A2, k2, by go_num, by omega, sec ?_, sec (h2.far (p := ⟨q, 0, none⟩) (by show p + 1 ≠ q; omega) _), sec (h3.set_ 0 (.slice A2 (i + 1) k2)), ?_⟩
            · rw [HMS.out]
              exact ownsRow_setCell_other hown (a := ⟨q, 0, none⟩) (own_blk_ne hown h3 (by decide)) _
            · exact (Gr.grown ((hg.alloc _).alloc _) hgn (fun k hk => (HOw.out.lt k hk).1)).setCell (p := ⟨q, 0, none⟩) hwq _
          case measure => simp [intOf]; omega
      · obtain rfl : i = n := by omega
        have d30 : wr.cell? ⟨q, 0, none⟩ = some (.slice A1 i k1) := H3.out.cell 0
        have d31 : wr.cell? ⟨q, 1, none⟩ = some (.int .i64 (-1)) := H3.out.cell 1
        have d20 : wr.cell? ⟨p + 1, 0, none⟩ = some (.slice none 0 0) := H2.out.cell 0
        have d21 : wr.cell? ⟨p + 1, 1, none⟩ = some (.int .i64 0) := H2.out.cell 1
        have f20 : wr.frozen? ⟨p + 1, 0, none⟩ = false := H2.out.frozen 0
        have f21 : wr.frozen? ⟨p + 1, 1, none⟩ = false := H2.out.frozen 1
        clear hlt hi
        go_wp2_with fail
        have hB5 := (H2.out.set_ 0 (.slice A1 i k1)).set_ 1 (.int .i64 (-1))
        refine bodyPost_ret (results_blk_tmp rfl _ rfl hB5 aggDisk) rfl ?_
        have hne := own_blk_ne HOw.out H2.out (by decide)
        have ho3 := ownsRow_setCell_other (ownsRow_setCell_other HOw.out (a := ⟨p + 1, 0, none⟩) hne (.slice A1 i k1)) (a := ⟨p + 1, 1, none⟩) hne (.int .i64 (-1))
        rw [show fs.take i = fs from List.take_of_length_le (by omega)] at ho3
        refine ⟨A1, k1, rfl, Row.own ho3, (hg.setCell (p := ⟨p + 1, 0, none⟩) (by show w.heap.size ≤ p + 1; omega) _).setCell (p := ⟨p + 1, 1, none⟩) (by show w.heap.size ≤ p + 1; omega) _, .inr ho3⟩
  · have HR : Sec (crashR fs f keep = (fs, f, 3)) := sec (by unfold crashR; rw [if_neg hgk])
    rw [HR.out]
    have hW : ∀ w1, Gr wa w1 → Blk ((w1.setCell ⟨p + 1, 0, none⟩ (.slice A n cap)).setCell ⟨p + 1, 1, none⟩ (.int .i64 f)) (p + 1) 24 #[.slice A n cap, .int .i64 f] := fun w1 g1 => ((HR2.out.gr g1).set_ 0 (.slice A n cap)).set_ 1 (.int .i64 f)
    have hV : ∀ w1, Gr wa w1 → Gr w ((w1.setCell ⟨p + 1, 0, none⟩ (.slice A n cap)).setCell ⟨p + 1, 1, none⟩ (.int .i64 f)) := fun w1 g1 => ((hg0.trans g1).setCell (p := ⟨p + 1, 0, none⟩) (by show w.heap.size ≤ p + 1; omega) _).setCell (p := ⟨p + 1, 1, none⟩) (by show w.heap.size ≤ p + 1; omega) _
    have HW := sec hW
    have HV := sec hV
    clear hW hV
    cases hgf : goodFs fs with
    | false =>
      rw [hgf] at HG
      clear hgf hgk
      go_enter Tryd.func29, Tryd.ntmps29
      go_wp2_with (first | (rw [← hwa, ← hp]; clear hwa hp; go_wp2_with fail) | (go_at_call 57; refine Calls.mono HG.out ?_; rintro e w1 ⟨rfl, g1⟩; have c0y : w1.cell? ⟨p, 0, none⟩ = some (.slice A n cap) := (HB.out.gr g1).cell 0; have c1y : w1.cell? ⟨p, 1, none⟩ = some (.int .i64 f) := (HB.out.gr g1).cell 1; have d20 : w1.cell? ⟨p + 1, 0, none⟩ = some (.slice none 0 0) := (HR2.out.gr g1).cell 0; have d21 : w1.cell? ⟨p + 1, 1, none⟩ = some (.int .i64 0) := (HR2.out.gr g1).cell 1; have f20 : w1.frozen? ⟨p + 1, 0, none⟩ = false := (HR2.out.gr g1).frozen 0; have f21 : w1.frozen? ⟨p + 1, 1, none⟩ = false := (HR2.out.gr g1).frozen 1))
      refine bodyPost_ret (results_blk_tmp rfl _ rfl (HW.out w1 g1) aggDisk) rfl ?_
      exact ⟨A, cap, rfl, FRow.gr HX0.out (HV.out w1 g1), HV.out w1 g1, .inl rfl⟩
    | true =>
      rw [hgf] at HG
      have q1 : decide (keep < 0) = true := decide_eq_true (by have : ¬ 0 ≤ keep := fun h => hgk ⟨hgf, h⟩; omega)
      clear hgf hgk
      go_enter Tryd.func29, Tryd.ntmps29
      go_wp2_with (first | (rw [← hwa, ← hp]; clear hwa hp; go_wp2_with fail) | (go_at_call 57; refine Calls.mono HG.out ?_; rintro e w1 ⟨rfl, g1⟩; have c0y : w1.cell? ⟨p, 0, none⟩ = some (.slice A n cap) := (HB.out.gr g1).cell 0; have c1y : w1.cell? ⟨p, 1, none⟩ = some (.int .i64 f) := (HB.out.gr g1).cell 1; have d20 : w1.cell? ⟨p + 1, 0, none⟩ = some (.slice none 0 0) := (HR2.out.gr g1).cell 0; have d21 : w1.cell? ⟨p + 1, 1, none⟩ = some (.int .i64 0) := (HR2.out.gr g1).cell 1; have f20 : w1.frozen? ⟨p + 1, 0, none⟩ = false := (HR2.out.gr g1).frozen 0; have f21 : w1.frozen? ⟨p + 1, 1, none⟩ = false := (HR2.out.gr g1).frozen 1))
      refine bodyPost_ret (results_blk_tmp rfl _ rfl (HW.out w1 g1) aggDisk) rfl ?_
      exact ⟨A, cap, rfl, FRow.gr HX0.out (HV.out w1 g1), HV.out w1 g1, .inl rfl⟩
end Go.Proofs.YtbhpglhmnpcnkaaDoor

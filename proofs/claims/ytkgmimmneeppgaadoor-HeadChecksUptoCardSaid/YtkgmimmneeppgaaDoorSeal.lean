/-
  sum.Seal by its contract.
-/
import Derived.Test.YtkgmimmneeppgaaDoorSumS
import Derived.Laws.MakeOwn
import Derived.Laws.BitsLemmas
import Derived.Deep.RegionLaw
import Derived.Deep.RegionHeld3
namespace Go.Proofs.YtkgmimmneeppgaaDoor
open Go.RowKit
set_option linter.unusedVariables false
/-- 64 bytes while they are filled -/
def kArr (x : UInt8) (K : List UInt8) (n : Nat) : Array Value := ((List.range 64).map fun j => if j < n then byteV (K.getD j 0 ^^^ x) else Value.int .u8 0).toArray
theorem kArr_size (x : UInt8) (K : List UInt8) (n : Nat) : (kArr x K n).size = 64 := by unfold kArr; simp
theorem kArr_set (x : UInt8) (K : List UInt8) (n : Nat) : (kArr x K n).setIfInBounds n (byteV (K.getD n 0 ^^^ x)) = kArr x K (n + 1) := by
  unfold kArr
  rw [List.setIfInBounds_toArray]
  congr 1
  apply List.ext_getElem
  · simp
  · intro i h1 h2
    rw [List.getElem_set]
    simp only [List.getElem_map, List.getElem_range]
    by_cases e : n = i
    · subst e; rw [if_pos rfl, if_pos (by omega)]
    · rw [if_neg e]
      by_cases h : i < n
      · rw [if_pos h, if_pos (by omega)]
      · rw [if_neg h, if_neg (by omega)]
theorem kArr_full (x : UInt8) (K : List UInt8) : (kArr x K 64).toList = (xorPad x K).map byteV := by
  unfold kArr xorPad
  simp only [List.map_map]
  refine List.map_congr_left ?_
  intro j hj
  have : j < 64 := by simpa using hj
  rw [if_pos this]; rfl
def zero64 : Array Value := #[.int .u8 0, .int .u8 0, .int .u8 0, .int .u8 0, .int .u8 0, .int .u8 0, .int .u8 0, .int .u8 0, .int .u8 0, .int .u8 0, .int .u8 0, .int .u8 0, .int .u8 0, .int .u8 0, .int .u8 0, .int .u8 0, .int .u8 0, .int .u8 0, .int .u8 0, .int .u8 0, .int .u8 0, .int .u8 0, .int .u8 0, .int .u8 0, .int .u8 0, .int .u8 0, .int .u8 0, .int .u8 0, .int .u8 0, .int .u8 0, .int .u8 0, .int .u8 0, .int .u8 0, .int .u8 0, .int .u8 0, .int .u8 0, .int .u8 0, .int .u8 0, .int .u8 0, .int .u8 0, .int .u8 0, .int .u8 0, .int .u8 0, .int .u8 0, .int .u8 0, .int .u8 0, .int .u8 0, .int .u8 0, .int .u8 0, .int .u8 0, .int .u8 0, .int .u8 0, .int .u8 0, .int .u8 0, .int .u8 0, .int .u8 0, .int .u8 0, .int .u8 0, .int .u8 0, .int .u8 0, .int .u8 0, .int .u8 0, .int .u8 0, .int .u8 0]
theorem kArr_zero (x : UInt8) (K : List UInt8) : kArr x K 0 = zero64 := by kernel_rfl
theorem x_xor (a c : UInt8) : bits .xor .u8 (a.toNat : Int) (c.toNat : Int) = ((c ^^^ a).toNat : Int) := by
  have h1 := a.toNat_lt
  have h2 := c.toNat_lt
  rw [u8_xor_nat a.toNat c.toNat (by omega) (by omega), UInt8.toNat_xor, Nat.xor_comm]
theorem x_zero (a : UInt8) : (0 : UInt8) ^^^ a = a := by
  apply UInt8.eq_of_toBitVec_eq
  rw [UInt8.toBitVec_xor]; exact BitVec.zero_xor
theorem conv_arr (w : World) {g : Nat} {t : TypeId} {cs : Array Value} {l : List UInt8} (hB : Blk w g t cs) (h : cs.toList = l.map byteV) (n : Nat) (hn : l.length = n) :
    (convert 69 9 (.slice (some ⟨g, 0, none⟩) n n)).run Tryd.prog w = .ok (.string (bs l)) w := by
  subst hn
  refine run_conv_at Tryd.underlying69 Tryd.underlying5 Tryd.underlying9 w g 0 _ l (fun j u hu => ?_)
  rw [Nat.zero_add, hB.cell, ← h] at *
  simpa using hu

set_option maxRecDepth 100000 in
set_option maxHeartbeats 2000000 in
theorem seal_any (key b : List UInt8) (w : World) (hT : TabK w) (hk : key.length ≤ 288230376151711744) (hb : b.length ≤ 288230376151711744) :
    Calls Tryd.prog 36 #[.string (bs key), .string (bs b)] w fun e w' => e = .returned (.string (bs (seal' key b))) ∧ Gr w w' := by
  obtain ⟨K, hK⟩ : ∃ K, K = keyOf key := ⟨_, rfl⟩
  have hKl : K.length ≤ 64 := by rw [hK]; exact keyOf_len key
  have HF : Sec (seal' key b = sha (xorPad 0x5c K ++ sha (xorPad 0x36 K ++ b))) := sec (by rw [hK]; rfl)
  have HK := sec hK
  clear hK
  by_cases hlt : 64 < key.length
  · have HS : Sec (sha key = K) := sec (by rw [HK.out]; unfold keyOf; rw [if_pos hlt])
    have hlti : (64 : Int) < (key.length : Int) := by omega
    go_enter Tryd.func36, Tryd.ntmps36
    go_wp2_with ((go_at_call 62; refine (sum_any key _ hT (by omega)).mono ?_; rw [HS.out]; rintro e w1 ⟨rfl, g1⟩))
    have HZ5 : Sec (Blk ((w1.alloc (.cells zero64 86)).alloc (.cells zero64 86)) w1.heap.size 86 zero64) := sec ((Blk.new w1 _ _).alloc _)
    have HZ6 : Sec (Blk ((w1.alloc (.cells zero64 86)).alloc (.cells zero64 86)) (w1.heap.size + 1) 86 zero64) := sec (Blk.new1 w1 _ _ _)
    have HG : Sec (Gr w ((w1.alloc (.cells zero64 86)).alloc (.cells zero64 86))) := sec ((g1.alloc _).alloc _)
    obtain ⟨q, hq⟩ : ∃ q, q = w1.heap.size := ⟨_, rfl⟩
    have hwb : w.heap.size ≤ q := by rw [hq]; exact g1.size
    rw [← hq] at HZ5 HZ6
    rw [← hq]
    clear hq
    go_loopw [13, 7] (fun iv _ wr => ∃ i : Nat, iv = .int .i64 i ∧ i ≤ 64 ∧ Blk wr q 86 (kArr 0x36 K i) ∧ Blk wr (q + 1) 86 (kArr 0x5c K i) ∧ Gr w wr)
      (fun iv _ _ => 64 - (intOf iv).toNat)
    case atStart => exact ⟨0, rfl, by omega, by rw [kArr_zero]; exact HZ5.out, by rw [kArr_zero]; exact HZ6.out, HG.out⟩
    case round =>
      obtain ⟨i, rfl, hi, hB5, hB6, hg⟩ := hrel
      by_cases h64 : i < 64
      · have hi64 : (i : Int) < 64 := by omega
        have z5 : ∃ v, wr.cell? ⟨q, i, none⟩ = some v := ⟨_, (hB5.cell i).trans (Array.getElem?_eq_getElem (by rw [kArr_size]; omega))⟩
        have z6 : ∃ v, wr.cell? ⟨q + 1, i, none⟩ = some v := ⟨_, (hB6.cell i).trans (Array.getElem?_eq_getElem (by rw [kArr_size]; omega))⟩
        obtain ⟨v5, z5⟩ := z5
        obtain ⟨v6, z6⟩ := z6
        have f5 := hB5.frozen i
        have f6 := hB6.frozen i
        by_cases hik : i < K.length
        · have hiki : (i : Int) < (K.length : Int) := by omega
          obtain ⟨c, hc⟩ : ∃ c, c = K[i] := ⟨_, rfl⟩
          have hgd : K.getD i 0 = c := by rw [hc]; simp [hik]
          have hci : (bs K)[i]'(by rw [bs_size]; exact hik) = c := by rw [bs_get, hc]
          have e5 := kArr_set 0x36 K i
          have e6 := kArr_set 0x5c K i
          rw [hgd] at e5 e6
          have E5 := sec e5
          have E6 := sec e6
          have HC := sec hc
          have x5 : bits .xor .u8 54 (c.toNat : Int) = ((c ^^^ 0x36).toNat : Int) := x_xor 0x36 c
          have x6 : bits .xor .u8 92 (c.toNat : Int) = ((c ^^^ 0x5c).toNat : Int) := x_xor 0x5c c
          clear e5 e6 hc hgd
          go_wp2_with fail
          refine region_still_tail_w 8 (by kernel_rfl) (by kernel_rfl) ?_
          simp only [List.take_succ_cons, List.take_zero, List.drop_succ_cons, List.drop_zero]
          intro wd hwd
          have D5 : Blk wd q 86 ((kArr 0x36 K i).setIfInBounds i (.int .u8 54)) := by subst hwd; exact ((hB5.set_ i (.int .u8 54)).far (by simp) _).drew
          have D6 : Blk wd (q + 1) 86 ((kArr 0x5c K i).setIfInBounds i (.int .u8 92)) := by subst hwd; exact ((hB6.far (by simp) _).set_ i (.int .u8 92)).drew
          have Dg : Gr w wd := by subst hwd; exact ((hg.setCell (by simp; omega) _).setCell (by simp; omega) _).drew
          clear hwd hB5 hB6 hg z5 z6 f5 f6
          have c5 : wd.cell? ⟨q, i, none⟩ = some (.int .u8 54) := (D5.cell i).trans (Array.getElem?_setIfInBounds_self_of_lt (by rw [kArr_size]; exact h64))
          have f5 := D5.frozen i
          repeat still_step
          refine wpStill_nil ?_
          go_wp2_with fail
          clear c5 f5
          refine region_still_tail_w 8 (by kernel_rfl) (by kernel_rfl) ?_
          simp only [List.take_succ_cons, List.take_zero, List.drop_succ_cons, List.drop_zero]
          intro we hwe
          have F5 : Blk we q 86 (kArr 0x36 K (i + 1)) := by
            subst hwe
            have h5 := (D5.set_ i (.int .u8 ((c ^^^ 0x36).toNat : Int))).drew
            rw [Array.setIfInBounds_setIfInBounds, show (kArr 0x36 K i).setIfInBounds i (.int .u8 ((c ^^^ 0x36).toNat : Int)) = kArr 0x36 K (i + 1) from E5.out] at h5
            exact h5
          have F6 : Blk we (q + 1) 86 ((kArr 0x5c K i).setIfInBounds i (.int .u8 92)) := by subst hwe; exact (D6.far (by simp) _).drew
          have Fg : Gr w we := by subst hwe; exact (Dg.setCell (by simp; omega) _).drew
          clear hwe D5 D6 Dg
          have c6 : we.cell? ⟨q + 1, i, none⟩ = some (.int .u8 92) := (F6.cell i).trans (Array.getElem?_setIfInBounds_self_of_lt (by rw [kArr_size]; exact h64))
          have f6 := F6.frozen i
          repeat still_step
          refine wpStill_nil ?_
          go_wp2_with fail
          go_roundw
          case rel =>
            have h6 := F6.set_ i (.int .u8 ((c ^^^ 0x5c).toNat : Int))
            have e6 : ((kArr 0x5c K i).setIfInBounds i (.int .u8 92)).setIfInBounds i (.int .u8 ((c ^^^ 0x5c).toNat : Int)) = kArr 0x5c K (i + 1) := by
              rw [Array.setIfInBounds_setIfInBounds]; exact E6.out
            rw [e6] at h6
            exact ⟨i + 1, by go_num, by omega, F5.far (by simp) _, h6, Fg.setCell (by simp; omega) _⟩
          case measure => simp [intOf]; omega
        · have hiki : ¬ (i : Int) < (K.length : Int) := by omega
          have hgd : K.getD i 0 = 0 := by simp [List.getD]; rw [List.getElem?_eq_none (by omega)]; rfl
          have e5 := kArr_set 0x36 K i
          have e6 := kArr_set 0x5c K i
          rw [hgd, x_zero] at e5 e6
          have E5 := sec e5
          have E6 := sec e6
          clear e5 e6 hgd
          go_wp2_with fail
          go_roundw
          case rel =>
            have h5 := hB5.set_ i (.int .u8 54)
            have h6 := (hB6.far (p := ⟨q, i, none⟩) (by simp) (.int .u8 54)).set_ i (.int .u8 92)
            rw [show (kArr 0x36 K i).setIfInBounds i (.int .u8 54) = kArr 0x36 K (i + 1) from E5.out] at h5
            rw [show (kArr 0x5c K i).setIfInBounds i (.int .u8 92) = kArr 0x5c K (i + 1) from E6.out] at h6
            exact ⟨i + 1, by go_num, by omega, h5.far (by simp) _, h6, (hg.setCell (by simp; omega) _).setCell (by simp; omega) _⟩
          case measure => simp [intOf]; omega
      · obtain rfl : i = 64 := by omega
        clear h64 hi
        rw [show ((64 : Nat) : Int) = 64 from rfl]
        go_wp2_with fail
        have k5 := kArr_full 0x36 K
        have k6 := kArr_full 0x5c K
        have K5 := sec k5
        have K6 := sec k6
        have hP5 : (xorPad 0x36 K).length = 64 := xorPad_len _ _
        have hP6 : (xorPad 0x5c K).length = 64 := xorPad_len _ _
        obtain ⟨P5, hQ5⟩ : ∃ P, P = xorPad 0x36 K := ⟨_, rfl⟩
        obtain ⟨P6, hQ6⟩ : ∃ P, P = xorPad 0x5c K := ⟨_, rfl⟩
        rw [← hQ5, ← hQ6] at HF
        rw [← hQ5] at K5 hP5
        rw [← hQ6] at K6 hP6
        have HP5 := sec hP5
        have HP6 := sec hP6
        have hl5 : ¬ 9223372036854775807 < P5.length + b.length := by omega
        have hl6 : ¬ 9223372036854775807 < P6.length + (sha (P5 ++ b)).length := by rw [sha_len]; omega
        have HL5 : Sec ((P5 ++ b).length ≤ 576460752303423488) := sec (by rw [List.length_append]; omega)
        have HL6 : Sec ((P6 ++ sha (P5 ++ b)).length ≤ 576460752303423488) := sec (by rw [List.length_append, sha_len]; omega)
        clear k5 k6 hQ5 hQ6 hP5 hP6
        go_region_held3 (fun w' => (convert 69 9 (.slice (some ⟨q, 0, none⟩) 64 64)).run Tryd.prog w' = .ok (.string (bs P5)) w' ∧ (convert 69 9 (.slice (some ⟨q + 1, 0, none⟩) 64 64)).run Tryd.prog w' = .ok (.string (bs P6)) w' ∧ Gr w w')
          (first | with_reducible assumption | exact ⟨conv_arr _ hB5.drew K5.out 64 HP5.out, conv_arr _ hB6.drew K6.out 64 HP6.out, hg.drew⟩ | exact ⟨conv_arr _ hB5 K5.out 64 HP5.out, conv_arr _ hB6 K6.out 64 HP6.out, hg⟩ | exact ⟨conv_arr _ e5 K5.out 64 HP5.out, conv_arr _ e6 K6.out 64 HP6.out, eg⟩ | exact ⟨conv_arr _ i5 K5.out 64 HP5.out, conv_arr _ i6 K6.out 64 HP6.out, ig⟩)
          (first
            | (go_at_call 62; with_reducible refine Calls.mono (sum_any (P5 ++ b) _ (hT.gr hg.drew) HL5.out) ?_; rintro e w3 ⟨rfl, k⟩; have e5 := hB5.drew.gr k; have e6 := hB6.drew.gr k; have eg := hg.drew.trans k; clear k)
            | (go_at_call 62; with_reducible refine Calls.mono (sum_any (P6 ++ sha (P5 ++ b)) _ (hT.gr eg) HL6.out) ?_; rintro e w4 ⟨rfl, k⟩; have i5 := e5.gr k; have i6 := e6.gr k; have ig := eg.trans k; clear k))
        all_goals
          go_wp2_with fail
          go_ret
          exact ⟨by rw [HF.out]; rfl, ig⟩
  · have hlti : ¬ (64 : Int) < (key.length : Int) := by omega
    obtain rfl : K = key := by rw [HK.out]; unfold keyOf; rw [if_neg hlt]
    go_enter Tryd.func36, Tryd.ntmps36
    go_wp2_with fail
    have HZ5 : Sec (Blk ((w.alloc (.cells zero64 86)).alloc (.cells zero64 86)) w.heap.size 86 zero64) := sec ((Blk.new w _ _).alloc _)
    have HZ6 : Sec (Blk ((w.alloc (.cells zero64 86)).alloc (.cells zero64 86)) (w.heap.size + 1) 86 zero64) := sec (Blk.new1 w _ _ _)
    have HG : Sec (Gr w ((w.alloc (.cells zero64 86)).alloc (.cells zero64 86))) := sec (((Gr.refl w).alloc _).alloc _)
    obtain ⟨q, hq⟩ : ∃ q, q = w.heap.size := ⟨_, rfl⟩
    have hwb : w.heap.size ≤ q := by rw [hq]; exact Nat.le_refl _
    rw [← hq] at HZ5 HZ6
    rw [← hq]
    clear hq
    go_loopw [13, 7] (fun iv _ wr => ∃ i : Nat, iv = .int .i64 i ∧ i ≤ 64 ∧ Blk wr q 86 (kArr 0x36 K i) ∧ Blk wr (q + 1) 86 (kArr 0x5c K i) ∧ Gr w wr)
      (fun iv _ _ => 64 - (intOf iv).toNat)
    case atStart => exact ⟨0, rfl, by omega, by rw [kArr_zero]; exact HZ5.out, by rw [kArr_zero]; exact HZ6.out, HG.out⟩
    case round =>
      obtain ⟨i, rfl, hi, hB5, hB6, hg⟩ := hrel
      by_cases h64 : i < 64
      · have hi64 : (i : Int) < 64 := by omega
        have z5 : ∃ v, wr.cell? ⟨q, i, none⟩ = some v := ⟨_, (hB5.cell i).trans (Array.getElem?_eq_getElem (by rw [kArr_size]; omega))⟩
        have z6 : ∃ v, wr.cell? ⟨q + 1, i, none⟩ = some v := ⟨_, (hB6.cell i).trans (Array.getElem?_eq_getElem (by rw [kArr_size]; omega))⟩
        obtain ⟨v5, z5⟩ := z5
        obtain ⟨v6, z6⟩ := z6
        have f5 := hB5.frozen i
        have f6 := hB6.frozen i
        by_cases hik : i < K.length
        · have hiki : (i : Int) < (K.length : Int) := by omega
          obtain ⟨c, hc⟩ : ∃ c, c = K[i] := ⟨_, rfl⟩
          have hgd : K.getD i 0 = c := by rw [hc]; simp [hik]
          have hci : (bs K)[i]'(by rw [bs_size]; exact hik) = c := by rw [bs_get, hc]
          have e5 := kArr_set 0x36 K i
          have e6 := kArr_set 0x5c K i
          rw [hgd] at e5 e6
          have E5 := sec e5
          have E6 := sec e6
          have HC := sec hc
          have x5 : bits .xor .u8 54 (c.toNat : Int) = ((c ^^^ 0x36).toNat : Int) := x_xor 0x36 c
          have x6 : bits .xor .u8 92 (c.toNat : Int) = ((c ^^^ 0x5c).toNat : Int) := x_xor 0x5c c
          clear e5 e6 hc hgd
          go_wp2_with fail
          refine region_still_tail_w 8 (by kernel_rfl) (by kernel_rfl) ?_
          simp only [List.take_succ_cons, List.take_zero, List.drop_succ_cons, List.drop_zero]
          intro wd hwd
          have D5 : Blk wd q 86 ((kArr 0x36 K i).setIfInBounds i (.int .u8 54)) := by subst hwd; exact ((hB5.set_ i (.int .u8 54)).far (by simp) _).drew
          have D6 : Blk wd (q + 1) 86 ((kArr 0x5c K i).setIfInBounds i (.int .u8 92)) := by subst hwd; exact ((hB6.far (by simp) _).set_ i (.int .u8 92)).drew
          have Dg : Gr w wd := by subst hwd; exact ((hg.setCell (by simp; omega) _).setCell (by simp; omega) _).drew
          clear hwd hB5 hB6 hg z5 z6 f5 f6
          have c5 : wd.cell? ⟨q, i, none⟩ = some (.int .u8 54) := (D5.cell i).trans (Array.getElem?_setIfInBounds_self_of_lt (by rw [kArr_size]; exact h64))
          have f5 := D5.frozen i
          repeat still_step
          refine wpStill_nil ?_
          go_wp2_with fail
          clear c5 f5
          refine region_still_tail_w 8 (by kernel_rfl) (by kernel_rfl) ?_
          simp only [List.take_succ_cons, List.take_zero, List.drop_succ_cons, List.drop_zero]
          intro we hwe
          have F5 : Blk we q 86 (kArr 0x36 K (i + 1)) := by
            subst hwe
            have h5 := (D5.set_ i (.int .u8 ((c ^^^ 0x36).toNat : Int))).drew
            rw [Array.setIfInBounds_setIfInBounds, show (kArr 0x36 K i).setIfInBounds i (.int .u8 ((c ^^^ 0x36).toNat : Int)) = kArr 0x36 K (i + 1) from E5.out] at h5
            exact h5
          have F6 : Blk we (q + 1) 86 ((kArr 0x5c K i).setIfInBounds i (.int .u8 92)) := by subst hwe; exact (D6.far (by simp) _).drew
          have Fg : Gr w we := by subst hwe; exact (Dg.setCell (by simp; omega) _).drew
          clear hwe D5 D6 Dg
          have c6 : we.cell? ⟨q + 1, i, none⟩ = some (.int .u8 92) := (F6.cell i).trans (Array.getElem?_setIfInBounds_self_of_lt (by rw [kArr_size]; exact h64))
          have f6 := F6.frozen i
          repeat still_step
          refine wpStill_nil ?_
          go_wp2_with fail
          go_roundw
          case rel =>
            have h6 := F6.set_ i (.int .u8 ((c ^^^ 0x5c).toNat : Int))
            have e6 : ((kArr 0x5c K i).setIfInBounds i (.int .u8 92)).setIfInBounds i (.int .u8 ((c ^^^ 0x5c).toNat : Int)) = kArr 0x5c K (i + 1) := by
              rw [Array.setIfInBounds_setIfInBounds]; exact E6.out
            rw [e6] at h6
            exact ⟨i + 1, by go_num, by omega, F5.far (by simp) _, h6, Fg.setCell (by simp; omega) _⟩
          case measure => simp [intOf]; omega
        · have hiki : ¬ (i : Int) < (K.length : Int) := by omega
          have hgd : K.getD i 0 = 0 := by simp [List.getD]; rw [List.getElem?_eq_none (by omega)]; rfl
          have e5 := kArr_set 0x36 K i
          have e6 := kArr_set 0x5c K i
          rw [hgd, x_zero] at e5 e6
          have E5 := sec e5
          have E6 := sec e6
          clear e5 e6 hgd
          go_wp2_with fail
          go_roundw
          case rel =>
            have h5 := hB5.set_ i (.int .u8 54)
            have h6 := (hB6.far (p := ⟨q, i, none⟩) (by simp) (.int .u8 54)).set_ i (.int .u8 92)
            rw [show (kArr 0x36 K i).setIfInBounds i (.int .u8 54) = kArr 0x36 K (i + 1) from E5.out] at h5
            rw [show (kArr 0x5c K i).setIfInBounds i (.int .u8 92) = kArr 0x5c K (i + 1) from E6.out] at h6
            exact ⟨i + 1, by go_num, by omega, h5.far (by simp) _, h6, (hg.setCell (by simp; omega) _).setCell (by simp; omega) _⟩
          case measure => simp [intOf]; omega
      · obtain rfl : i = 64 := by omega
        clear h64 hi
        rw [show ((64 : Nat) : Int) = 64 from rfl]
        go_wp2_with fail
        have k5 := kArr_full 0x36 K
        have k6 := kArr_full 0x5c K
        have K5 := sec k5
        have K6 := sec k6
        have hP5 : (xorPad 0x36 K).length = 64 := xorPad_len _ _
        have hP6 : (xorPad 0x5c K).length = 64 := xorPad_len _ _
        obtain ⟨P5, hQ5⟩ : ∃ P, P = xorPad 0x36 K := ⟨_, rfl⟩
        obtain ⟨P6, hQ6⟩ : ∃ P, P = xorPad 0x5c K := ⟨_, rfl⟩
        rw [← hQ5, ← hQ6] at HF
        rw [← hQ5] at K5 hP5
        rw [← hQ6] at K6 hP6
        have HP5 := sec hP5
        have HP6 := sec hP6
        have hl5 : ¬ 9223372036854775807 < P5.length + b.length := by omega
        have hl6 : ¬ 9223372036854775807 < P6.length + (sha (P5 ++ b)).length := by rw [sha_len]; omega
        have HL5 : Sec ((P5 ++ b).length ≤ 576460752303423488) := sec (by rw [List.length_append]; omega)
        have HL6 : Sec ((P6 ++ sha (P5 ++ b)).length ≤ 576460752303423488) := sec (by rw [List.length_append, sha_len]; omega)
        clear k5 k6 hQ5 hQ6 hP5 hP6
        go_region_held3 (fun w' => (convert 69 9 (.slice (some ⟨q, 0, none⟩) 64 64)).run Tryd.prog w' = .ok (.string (bs P5)) w' ∧ (convert 69 9 (.slice (some ⟨q + 1, 0, none⟩) 64 64)).run Tryd.prog w' = .ok (.string (bs P6)) w' ∧ Gr w w')
          (first | with_reducible assumption | exact ⟨conv_arr _ hB5.drew K5.out 64 HP5.out, conv_arr _ hB6.drew K6.out 64 HP6.out, hg.drew⟩ | exact ⟨conv_arr _ hB5 K5.out 64 HP5.out, conv_arr _ hB6 K6.out 64 HP6.out, hg⟩ | exact ⟨conv_arr _ e5 K5.out 64 HP5.out, conv_arr _ e6 K6.out 64 HP6.out, eg⟩ | exact ⟨conv_arr _ i5 K5.out 64 HP5.out, conv_arr _ i6 K6.out 64 HP6.out, ig⟩)
          (first
            | (go_at_call 62; with_reducible refine Calls.mono (sum_any (P5 ++ b) _ (hT.gr hg.drew) HL5.out) ?_; rintro e w3 ⟨rfl, k⟩; have e5 := hB5.drew.gr k; have e6 := hB6.drew.gr k; have eg := hg.drew.trans k; clear k)
            | (go_at_call 62; with_reducible refine Calls.mono (sum_any (P6 ++ sha (P5 ++ b)) _ (hT.gr eg) HL6.out) ?_; rintro e w4 ⟨rfl, k⟩; have i5 := e5.gr k; have i6 := e6.gr k; have ig := eg.trans k; clear k))
        all_goals
          go_wp2_with fail
          go_ret
          exact ⟨by rw [HF.out]; rfl, ig⟩
end Go.Proofs.YtkgmimmneeppgaaDoor

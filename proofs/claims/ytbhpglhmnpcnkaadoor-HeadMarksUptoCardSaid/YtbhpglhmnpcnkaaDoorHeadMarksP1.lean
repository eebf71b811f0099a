/-
  What the walk of cartularylaw.HeadMarks leans on, part 1 of 1: contracts and plain laws. No conditions.
-/
import Derived.Test.YtbhpglhmnpcnkaaDoorHeadT
import Derived.Test.YtbhpglhmnpcnkaaDoorSumS
import Derived.Laws.MakeOwn
import Derived.Laws.BitsLemmas
import Derived.Deep.RegionLaw
import Derived.Deep.RegionHeld3
import Derived.Test.YtbhpglhmnpcnkaaDoorRSumS
import Derived.Test.YtbhpglhmnpcnkaaDoorBlock
import Derived.Test.YtbhpglhmnpcnkaaDoorCards
import Derived.Test.YtbhpglhmnpcnkaaDoorTie
import Derived.ProofKit
import Derived.Deep.DeepHandedRow
import Derived.Lib.LaidTab
namespace Go.Proofs.YtbhpglhmnpcnkaaDoor
set_option maxRecDepth 100000
open Go.RowKit
set_option linter.unusedVariables false

theorem aggHead : AggOk 26 2 := A.head
theorem hdTxt0 (R : List UInt8) (h : R.length = 32) : (hdTxt 0 R).2 = 0 ∧ (hdTxt 0 R).1.length = 33 := by
  have hE : hdE 0 R = 0 := by
    unfold hdE
    rw [if_neg (by decide), if_pos h]
  unfold hdTxt
  rw [if_pos hE]
  refine ⟨rfl, ?_⟩
  have h1 : (numS 0).length = 1 := by
    rw [numS_in (by omega) (by omega)]
    have a := num_pos 0
    have b := num_len 0 0 (by decide)
    have e : (0 : Int).toNat = 0 := rfl
    rw [e]
    omega
  rw [List.length_append, h1, h]
set_option maxHeartbeats 1000000 in
theorem leaves0_any (w : World) : Calls Tryd.prog 60 #[.slice none 0 0] w fun e w' => e = .returned (.tuple #[.slice none 0 0, .int .i64 0]) ∧ w' = w := by
  go_enter Tryd.func60, Tryd.ntmps60
  go_wp2_with fail
  go_loopw [11, 4, 6, 7, 8] (fun iv v4 _ _ _ wr => iv = .int .i64 0 ∧ v4 = .slice none 0 0 ∧ wr = w) (fun _ _ _ _ _ _ => 0)
  case atStart => exact ⟨rfl, rfl, rfl⟩
  case round =>
    obtain ⟨rfl, rfl, rfl⟩ := hrel
    go_wp2_with fail
    go_ret2
    exact ⟨rfl, rfl⟩

set_option maxHeartbeats 1000000 in
theorem of0_any (w : World) (hT : TabK w) : Calls Tryd.prog 36 #[.slice none 0 0] w fun e w' => e = .returned (.tuple #[.agg (headC 0 (sha [])), .int .i64 0]) ∧ Gr w w' := by
  have HR : Sec (∀ W, Gr w W → Calls Tryd.prog 47 #[.slice none 0 0] W fun e w' => e = .returned (.string (bs (sha []))) ∧ Gr W w') := sec (fun W g => by
    have := root_any 0 [] none 0 0 W (by simp) (by omega) (by omega) ⟨rfl, fun h => absurd h (by omega)⟩ (by intro s h; cases h) (hT.gr g)
    rw [rootL_nil] at this
    exact this)
  clear hT
  go_enter Tryd.func36, Tryd.ntmps36
  go_wp2_with (first
    | (refine wpList_store_blk rfl 26 (.tmp 2) (.tmp 23) rfl (g := w.heap.size) (cs' := headC 0 (sha [])) rfl rfl hB A.head rfl (headC_one _ _) ?_; intro w2 h2 hg2)
    | (go_at_call 60; refine Calls.mono (leaves0_any _) ?_; rintro e w3 ⟨rfl, rfl⟩)
    | (go_at_call 47; refine Calls.mono (HR.out _ ((Gr.refl w).alloc _)) ?_; rintro e w1 ⟨rfl, g1⟩; have hB := (Blk.new w 26 (headC 0 [])).gr g1; have gg1 : Gr w w1 := Gr.trans ((Gr.refl w).alloc _) g1))
  refine bodyPost_ret (results_blk_tmp rfl _ rfl h2 A.head) rfl ?_
  exact ⟨rfl, Gr.only gg1 hg2 (Nat.le_refl _)⟩
set_option maxHeartbeats 1000000 in
theorem heads_any (w : World) (hT : TabK w) : Calls Tryd.prog 14 #[] w fun e w' => e = .returned (.bool true) ∧ Gr w w' := by
  have HOf := sec (of0_any w hT)
  have HEm : Sec (∀ W, Gr w W → Calls Tryd.prog 21 #[] W fun e w' => e = .returned (.agg (headC 0 (sha []))) ∧ Gr W w') := sec (fun W g => empty_any W (hT.gr g))
  have hl := sha_len []
  obtain ⟨R, hR⟩ : ∃ R, R = sha [] := ⟨_, rfl⟩
  rw [← hR] at HEm HOf hl
  clear hR hT
  obtain ⟨t0, t1⟩ := hdTxt0 R hl
  have HTx : Sec (∀ W, Calls Tryd.prog 15 #[.agg (headC 0 R)] W fun e w' => e = .returned (.tuple #[.string (bs (hdTxt 0 R).1), .int .i64 0]) ∧ Gr W w') := sec (fun W => by
    have h := htext_any 0 R W (by omega)
    rw [t0] at h
    exact h)
  obtain ⟨X, hX⟩ : ∃ X, X = (hdTxt 0 R).1 := ⟨_, rfl⟩
  rw [← hX] at HTx t1
  have hx33 : (X.length : Int) = 33 := by omega
  unfold headC at HOf HEm HTx
  clear hX t0
  go_enter Tryd.func14, Tryd.ntmps14
  go_wp2_with (first
    | (go_at_call 36; refine Calls.mono HOf.out ?_; rintro e w1 ⟨rfl, g1⟩)
    | (go_at_call 15; refine Calls.mono (HTx.out _) ?_; rintro e w2 ⟨rfl, g2⟩; have hb := (Blk.new w1 26 #[.int .i64 0, .string (bs R)]).gr g2; have gg2 : Gr w w2 := (g1.alloc _).trans g2; have x0 : w2.cell? ⟨w1.heap.size, 0, none⟩ = some (.int .i64 0) := hb.cell 0; have x1 : w2.cell? ⟨w1.heap.size, 1, none⟩ = some (.string (bs R)) := hb.cell 1))
  have g2d : Gr w2 w2.drew := (Gr.refl _).drew
  have HSK : Sec (∀ w', Gr w2 w' → w'.cell? ⟨w1.heap.size, 0, none⟩ = some (.int .i64 0) ∧ w'.cell? ⟨w1.heap.size, 1, none⟩ = some (.string (bs R)) ∧ Gr w2 w') := sec (fun w' g => ⟨(hb.gr g).cell 0, (hb.gr g).cell 1, g⟩)
  go_region_held3 (fun w' => w'.cell? ⟨w1.heap.size, 0, none⟩ = some (.int .i64 0) ∧ w'.cell? ⟨w1.heap.size, 1, none⟩ = some (.string (bs R)) ∧ Gr w2 w')
    (first | with_reducible assumption | with_reducible exact HSK.out _ g2d | with_reducible exact HSK.out _ g4 | fail)
    (first
      | (go_at_call 21; (with_reducible refine Calls.mono (HEm.out w2.drew (gg2.trans g2d)) ?_); rintro e w4 ⟨rfl, g4'⟩; have g4 : Gr w2 w4 := Gr.trans g2d g4')
      | fail)
  all_goals (go_wp2_with fail; go_ret; exact ⟨rfl, gg2.trans g4⟩)
end Go.Proofs.YtbhpglhmnpcnkaaDoor

namespace Go.Proofs.YtbhpglhmnpcnkaaDoor
open Go.RowKit
set_option linter.unusedVariables false

/-- 64 bytes while they are filled -/
def kArr (x : UInt8) (K : List UInt8) (n : Nat) : Array Value := ((List.range 64).map fun j => if j < n then byteV (K.getD j 0 ^^^ x) else Value.int .u8 0).toArray
theorem kArr_size (x : UInt8) (K : List UInt8) (n : Nat) : (kArr x K n).size = 64 := by unfold kArr; simp
theorem kArr_set (x : UInt8) (K : List UInt8) (n : Nat) : (kArr x K n).setIfInBounds n (byteV (K.getD n 0 ^^^ x)) = kArr x K (n + 1) := by
  unfold kArr
  rw [List.setIfInBounds_toArray]
  congr 1
  apply List.ext_getElem
  · simp
  · intro i h1 h2
    rw [List.getElem_set]
    simp only [List.getElem_map, List.getElem_range]
    by_cases e : n = i
    · subst e; rw [if_pos rfl, if_pos (by omega)]
    · rw [if_neg e]
      by_cases h : i < n
      · rw [if_pos h, if_pos (by omega)]
      · rw [if_neg h, if_neg (by omega)]
theorem kArr_full (x : UInt8) (K : List UInt8) : (kArr x K 64).toList = (xorPad x K).map byteV := by
  unfold kArr xorPad
  simp only [List.map_map]
  refine List.map_congr_left ?_
  intro j hj
  have : j < 64 := by simpa using hj
  rw [if_pos this]; rfl
def zero64 : Array Value := #[.int .u8 0, .int .u8 0, .int .u8 0, .int .u8 0, .int .u8 0, .int .u8 0, .int .u8 0, .int .u8 0, .int .u8 0, .int .u8 0, .int .u8 0, .int .u8 0, .int .u8 0, .int .u8 0, .int .u8 0, .int .u8 0, .int .u8 0, .int .u8 0, .int .u8 0, .int .u8 0, .int .u8 0, .int .u8 0, .int .u8 0, .int .u8 0, .int .u8 0, .int .u8 0, .int .u8 0, .int .u8 0, .int .u8 0, .int .u8 0, .int .u8 0, .int .u8 0, .int .u8 0, .int .u8 0, .int .u8 0, .int .u8 0, .int .u8 0, .int .u8 0, .int .u8 0, .int .u8 0, .int .u8 0, .int .u8 0, .int .u8 0, .int .u8 0, .int .u8 0, .int .u8 0, .int .u8 0, .int .u8 0, .int .u8 0, .int .u8 0, .int .u8 0, .int .u8 0, .int .u8 0, .int .u8 0, .int .u8 0, .int .u8 0, .int .u8 0, .int .u8 0, .int .u8 0, .int .u8 0, .int .u8 0, .int .u8 0, .int .u8 0, .int .u8 0]
theorem kArr_zero (x : UInt8) (K : List UInt8) : kArr x K 0 = zero64 := by kernel_rfl
theorem x_xor (a c : UInt8) : bits .xor .u8 (a.toNat : Int) (c.toNat : Int) = ((c ^^^ a).toNat : Int) := by
  have h1 := a.toNat_lt
  have h2 := c.toNat_lt
  rw [u8_xor_nat a.toNat c.toNat (by omega) (by omega), UInt8.toNat_xor, Nat.xor_comm]
theorem x_zero (a : UInt8) : (0 : UInt8) ^^^ a = a := by
  apply UInt8.eq_of_toBitVec_eq
  rw [UInt8.toBitVec_xor]; exact BitVec.zero_xor
theorem conv_arr (w : World) {g : Nat} {t : TypeId} {cs : Array Value} {l : List UInt8} (hB : Blk w g t cs) (h : cs.toList = l.map byteV) (n : Nat) (hn : l.length = n) :
    (convert 67 9 (.slice (some ⟨g, 0, none⟩) n n)).run Tryd.prog w = .ok (.string (bs l)) w := by
  subst hn
  refine run_conv_at Tryd.underlying67 Tryd.underlying5 Tryd.underlying9 w g 0 _ l (fun j u hu => ?_)
  rw [Nat.zero_add, hB.cell, ← h] at *
  simpa using hu

set_option maxRecDepth 100000 in
set_option maxHeartbeats 2000000 in
theorem seal_any (key b : List UInt8) (w : World) (hT : TabK w) (hk : key.length ≤ 288230376151711744) (hb : b.length ≤ 288230376151711744) :
    Calls Tryd.prog 34 #[.string (bs key), .string (bs b)] w fun e w' => e = .returned (.string (bs (seal' key b))) ∧ Gr w w' := by
  obtain ⟨K, hK⟩ : ∃ K, K = keyOf key := ⟨_, rfl⟩
  have hKl : K.length ≤ 64 := by rw [hK]; exact keyOf_len key
  have HF : Sec (seal' key b = sha (xorPad 0x5c K ++ sha (xorPad 0x36 K ++ b))) := sec (by rw [hK]; rfl)
  have HK := sec hK
  clear hK
  by_cases hlt : 64 < key.length
  · have HS : Sec (sha key = K) := sec (by rw [HK.out]; unfold keyOf; rw [if_pos hlt])
    have hlti : (64 : Int) < (key.length : Int) := by omega
    go_enter Tryd.func34, Tryd.ntmps34
    go_wp2_with ((go_at_call 51; refine (sum_any key _ hT (by omega)).mono ?_; rw [HS.out]; rintro e w1 ⟨rfl, g1⟩))
    have HZ5 : Sec (Blk ((w1.alloc (.cells zero64 89)).alloc (.cells zero64 89)) w1.heap.size 89 zero64) := sec ((Blk.new w1 _ _).alloc _)
    have HZ6 : Sec (Blk ((w1.alloc (.cells zero64 89)).alloc (.cells zero64 89)) (w1.heap.size + 1) 89 zero64) := sec (Blk.new1 w1 _ _ _)
    have HG : Sec (Gr w ((w1.alloc (.cells zero64 89)).alloc (.cells zero64 89))) := sec ((g1.alloc _).alloc _)
    obtain ⟨q, hq⟩ : ∃ q, q = w1.heap.size := ⟨_, rfl⟩
    have hwb : w.heap.size ≤ q := by rw [hq]; exact g1.size
    rw [← hq] at HZ5 HZ6
    rw [← hq]
    clear hq
    go_loopw [13, 7] (fun iv _ wr => ∃ i : Nat, iv = .int .i64 i ∧ i ≤ 64 ∧ Blk wr q 89 (kArr 0x36 K i) ∧ Blk wr (q + 1) 89 (kArr 0x5c K i) ∧ Gr w wr)
      (fun iv _ _ => 64 - (intOf iv).toNat)
    case atStart => exact ⟨0, rfl, by omega, by rw [kArr_zero]; exact HZ5.out, by rw [kArr_zero]; exact HZ6.out, HG.out⟩
    case round =>
      obtain ⟨i, rfl, hi, hB5, hB6, hg⟩ := hrel
      by_cases h64 : i < 64
      · have hi64 : (i : Int) < 64 := by omega
        have z5 : ∃ v, wr.cell? ⟨q, i, none⟩ = some v := ⟨_, (hB5.cell i).trans (Array.getElem?_eq_getElem (by rw [kArr_size]; omega))⟩
        have z6 : ∃ v, wr.cell? ⟨q + 1, i, none⟩ = some v := ⟨_, (hB6.cell i).trans (Array.getElem?_eq_getElem (by rw [kArr_size]; omega))⟩
        obtain ⟨v5, z5⟩ := z5
        obtain ⟨v6, z6⟩ := z6
        have f5 := hB5.frozen i
        have f6 := hB6.frozen i
        by_cases hik : i < K.length
        · have hiki : (i : Int) < (K.length : Int) := by omega
          obtain ⟨c, hc⟩ : ∃ c, c = K[i] := ⟨_, rfl⟩
          have hgd : K.getD i 0 = c := by rw [hc]; simp [hik]
          have hci : (bs K)[i]'(by rw [bs_size]; exact hik) = c := by rw [bs_get, hc]
          have e5 := kArr_set 0x36 K i
          have e6 := kArr_set 0x5c K i
          rw [hgd] at e5 e6
          have E5 := sec e5
          have E6 := sec e6
          have HC := sec hc
          have x5 : bits .xor .u8 54 (c.toNat : Int) = ((c ^^^ 0x36).toNat : Int) := x_xor 0x36 c
          have x6 : bits .xor .u8 92 (c.toNat : Int) = ((c ^^^ 0x5c).toNat : Int) := x_xor 0x5c c
          clear e5 e6 hc hgd
          go_wp2_with fail
          refine region_still_tail_w 8 (by kernel_rfl) (by kernel_rfl) ?_
          simp only [List.take_succ_cons, List.take_zero, List.drop_succ_cons, List.drop_zero]
          intro wd hwd
          have D5 : Blk wd q 89 ((kArr 0x36 K i).setIfInBounds i (.int .u8 54)) := by subst hwd; exact ((hB5.set_ i (.int .u8 54)).far (by simp) _).drew
          have D6 : Blk wd (q + 1) 89 ((kArr 0x5c K i).setIfInBounds i (.int .u8 92)) := by subst hwd; exact ((hB6.far (by simp) _).set_ i (.int .u8 92)).drew
          have Dg : Gr w wd := by subst hwd; exact ((hg.setCell (by simp; omega) _).setCell (by simp; omega) _).drew
          clear hwd hB5 hB6 hg z5 z6 f5 f6
          have c5 : wd.cell? ⟨q, i, none⟩ = some (.int .u8 54) := (D5.cell i).trans (Array.getElem?_setIfInBounds_self_of_lt (by rw [kArr_size]; exact h64))
          have f5 := D5.frozen i
          repeat still_step
          refine wpStill_nil ?_
          go_wp2_with fail
          clear c5 f5
          refine region_still_tail_w 8 (by kernel_rfl) (by kernel_rfl) ?_
          simp only [List.take_succ_cons, List.take_zero, List.drop_succ_cons, List.drop_zero]
          intro we hwe
          have F5 : Blk we q 89 (kArr 0x36 K (i + 1)) := by
            subst hwe
            have h5 := (D5.set_ i (.int .u8 ((c ^^^ 0x36).toNat : Int))).drew
            rw [Array.setIfInBounds_setIfInBounds, show (kArr 0x36 K i).setIfInBounds i (.int .u8 ((c ^^^ 0x36).toNat : Int)) = kArr 0x36 K (i + 1) from E5.out] at h5
            exact h5
          have F6 : Blk we (q + 1) 89 ((kArr 0x5c K i).setIfInBounds i (.int .u8 92)) := by subst hwe; exact (D6.far (by simp) _).drew
          have Fg : Gr w we := by subst hwe; exact (Dg.setCell (by simp; omega) _).drew
          clear hwe D5 D6 Dg
          have c6 : we.cell? ⟨q + 1, i, none⟩ = some (.int .u8 92) := (F6.cell i).trans (Array.getElem?_setIfInBounds_self_of_lt (by rw [kArr_size]; exact h64))
          have f6 := F6.frozen i
          repeat still_step
          refine wpStill_nil ?_
          go_wp2_with fail
          go_roundw
          case rel =>
            have h6 := F6.set_ i (.int .u8 ((c ^^^ 0x5c).toNat : Int))
            have e6 : ((kArr 0x5c K i).setIfInBounds i (.int .u8 92)).setIfInBounds i (.int .u8 ((c ^^^ 0x5c).toNat : Int)) = kArr 0x5c K (i + 1) := by
              rw [Array.setIfInBounds_setIfInBounds]; exact E6.out
            rw [e6] at h6
            exact ⟨i + 1, by go_num, by omega, F5.far (by simp) _, h6, Fg.setCell (by simp; omega) _⟩
          case measure => simp [intOf]; omega
        · have hiki : ¬ (i : Int) < (K.length : Int) := by omega
          have hgd : K.getD i 0 = 0 := by simp [List.getD]; rw [List.getElem?_eq_none (by omega)]; rfl
          have e5 := kArr_set 0x36 K i
          have e6 := kArr_set 0x5c K i
          rw [hgd, x_zero] at e5 e6
          have E5 := sec e5
          have E6 := sec e6
          clear e5 e6 hgd
          go_wp2_with fail
          go_roundw
          case rel =>
            have h5 := hB5.set_ i (.int .u8 54)
            have h6 := (hB6.far (p := ⟨q, i, none⟩) (by simp) (.int .u8 54)).set_ i (.int .u8 92)
            rw [show (kArr 0x36 K i).setIfInBounds i (.int .u8 54) = kArr 0x36 K (i + 1) from E5.out] at h5
            rw [show (kArr 0x5c K i).setIfInBounds i (.int .u8 92) = kArr 0x5c K (i + 1) from E6.out] at h6
            exact ⟨i + 1, by go_num, by omega, h5.far (by simp) _, h6, (hg.setCell (by simp; omega) _).setCell (by simp; omega) _⟩
          case measure => simp [intOf]; omega
      · obtain rfl : i = 64 := by omega
        clear h64 hi
        rw [show ((64 : Nat) : Int) = 64 from rfl]
        go_wp2_with fail
        have k5 := kArr_full 0x36 K
        have k6 := kArr_full 0x5c K
        have K5 := sec k5
        have K6 := sec k6
        have hP5 : (xorPad 0x36 K).length = 64 := xorPad_len _ _
        have hP6 : (xorPad 0x5c K).length = 64 := xorPad_len _ _
        obtain ⟨P5, hQ5⟩ : ∃ P, P = xorPad 0x36 K := ⟨_, rfl⟩
        obtain ⟨P6, hQ6⟩ : ∃ P, P = xorPad 0x5c K := ⟨_, rfl⟩
        rw [← hQ5, ← hQ6] at HF
        rw [← hQ5] at K5 hP5
        rw [← hQ6] at K6 hP6
        have HP5 := sec hP5
        have HP6 := sec hP6
        have hl5 : ¬ 9223372036854775807 < P5.length + b.length := by omega
        have hl6 : ¬ 9223372036854775807 < P6.length + (sha (P5 ++ b)).length := by rw [sha_len]; omega
        have HL5 : Sec ((P5 ++ b).length ≤ 576460752303423488) := sec (by rw [List.length_append]; omega)
        have HL6 : Sec ((P6 ++ sha (P5 ++ b)).length ≤ 576460752303423488) := sec (by rw [List.length_append, sha_len]; omega)
        clear k5 k6 hQ5 hQ6 hP5 hP6
        go_region_held3 (fun w' => (convert 67 9 (.slice (some ⟨q, 0, none⟩) 64 64)).run Tryd.prog w' = .ok (.string (bs P5)) w' ∧ (convert 67 9 (.slice (some ⟨q + 1, 0, none⟩) 64 64)).run Tryd.prog w' = .ok (.string (bs P6)) w' ∧ Gr w w')
          (first | with_reducible assumption | exact ⟨conv_arr _ hB5.drew K5.out 64 HP5.out, conv_arr _ hB6.drew K6.out 64 HP6.out, hg.drew⟩ | exact ⟨conv_arr _ hB5 K5.out 64 HP5.out, conv_arr _ hB6 K6.out 64 HP6.out, hg⟩ | exact ⟨conv_arr _ e5 K5.out 64 HP5.out, conv_arr _ e6 K6.out 64 HP6.out, eg⟩ | exact ⟨conv_arr _ i5 K5.out 64 HP5.out, conv_arr _ i6 K6.out 64 HP6.out, ig⟩)
          (first
            | (go_at_call 51; with_reducible refine Calls.mono (sum_any (P5 ++ b) _ (hT.gr hg.drew) HL5.out) ?_; rintro e w3 ⟨rfl, k⟩; have e5 := hB5.drew.gr k; have e6 := hB6.drew.gr k; have eg := hg.drew.trans k; clear k)
            | (go_at_call 51; with_reducible refine Calls.mono (sum_any (P6 ++ sha (P5 ++ b)) _ (hT.gr eg) HL6.out) ?_; rintro e w4 ⟨rfl, k⟩; have i5 := e5.gr k; have i6 := e6.gr k; have ig := eg.trans k; clear k))
        all_goals
          go_wp2_with fail
          go_ret
          exact ⟨by rw [HF.out]; rfl, ig⟩
  · have hlti : ¬ (64 : Int) < (key.length : Int) := by omega
    obtain rfl : K = key := by rw [HK.out]; unfold keyOf; rw [if_neg hlt]
    go_enter Tryd.func34, Tryd.ntmps34
    go_wp2_with fail
    have HZ5 : Sec (Blk ((w.alloc (.cells zero64 89)).alloc (.cells zero64 89)) w.heap.size 89 zero64) := sec ((Blk.new w _ _).alloc _)
    have HZ6 : Sec (Blk ((w.alloc (.cells zero64 89)).alloc (.cells zero64 89)) (w.heap.size + 1) 89 zero64) := sec (Blk.new1 w _ _ _)
    have HG : Sec (Gr w ((w.alloc (.cells zero64 89)).alloc (.cells zero64 89))) := sec (((Gr.refl w).alloc _).alloc _)
    obtain ⟨q, hq⟩ : ∃ q, q = w.heap.size := ⟨_, rfl⟩
    have hwb : w.heap.size ≤ q := by rw [hq]; exact Nat.le_refl _
    rw [← hq] at HZ5 HZ6
    rw [← hq]
    clear hq
    go_loopw [13, 7] (fun iv _ wr => ∃ i : Nat, iv = .int .i64 i ∧ i ≤ 64 ∧ Blk wr q 89 (kArr 0x36 K i) ∧ Blk wr (q + 1) 89 (kArr 0x5c K i) ∧ Gr w wr)
      (fun iv _ _ => 64 - (intOf iv).toNat)
    case atStart => exact ⟨0, rfl, by omega, by rw [kArr_zero]; exact HZ5.out, by rw [kArr_zero]; exact HZ6.out, HG.out⟩
    case round =>
      obtain ⟨i, rfl, hi, hB5, hB6, hg⟩ := hrel
      by_cases h64 : i < 64
      · have hi64 : (i : Int) < 64 := by omega
        have z5 : ∃ v, wr.cell? ⟨q, i, none⟩ = some v := ⟨_, (hB5.cell i).trans (Array.getElem?_eq_getElem (by rw [kArr_size]; omega))⟩
        have z6 : ∃ v, wr.cell? ⟨q + 1, i, none⟩ = some v := ⟨_, (hB6.cell i).trans (Array.getElem?_eq_getElem (by rw [kArr_size]; omega))⟩
        obtain ⟨v5, z5⟩ := z5
        obtain ⟨v6, z6⟩ := z6
        have f5 := hB5.frozen i
        have f6 := hB6.frozen i
        by_cases hik : i < K.length
        · have hiki : (i : Int) < (K.length : Int) := by omega
          obtain ⟨c, hc⟩ : ∃ c, c = K[i] := ⟨_, rfl⟩
          have hgd : K.getD i 0 = c := by rw [hc]; simp [hik]
          have hci : (bs K)[i]'(by rw [bs_size]; exact hik) = c := by rw [bs_get, hc]
          have e5 := kArr_set 0x36 K i
          have e6 := kArr_set 0x5c K i
          rw [hgd] at e5 e6
          have E5 := sec e5
          have E6 := sec e6
          have HC := sec hc
          have x5 : bits .xor .u8 54 (c.toNat : Int) = ((c ^^^ 0x36).toNat : Int) := x_xor 0x36 c
          have x6 : bits .xor .u8 92 (c.toNat : Int) = ((c ^^^ 0x5c).toNat : Int) := x_xor 0x5c c
          clear e5 e6 hc hgd
          go_wp2_with fail
          refine region_still_tail_w 8 (by kernel_rfl) (by kernel_rfl) ?_
          simp only [List.take_succ_cons, List.take_zero, List.drop_succ_cons, List.drop_zero]
          intro wd hwd
          have D5 : Blk wd q 89 ((kArr 0x36 K i).setIfInBounds i (.int .u8 54)) := by subst hwd; exact ((hB5.set_ i (.int .u8 54)).far (by simp) _).drew
          have D6 : Blk wd (q + 1) 89 ((kArr 0x5c K i).setIfInBounds i (.int .u8 92)) := by subst hwd; exact ((hB6.far (by simp) _).set_ i (.int .u8 92)).drew
          have Dg : Gr w wd := by subst hwd; exact ((hg.setCell (by simp; omega) _).setCell (by simp; omega) _).drew
          clear hwd hB5 hB6 hg z5 z6 f5 f6
          have c5 : wd.cell? ⟨q, i, none⟩ = some (.int .u8 54) := (D5.cell i).trans (Array.getElem?_setIfInBounds_self_of_lt (by rw [kArr_size]; exact h64))
          have f5 := D5.frozen i
          repeat still_step
          refine wpStill_nil ?_
          go_wp2_with fail
          clear c5 f5
          refine region_still_tail_w 8 (by kernel_rfl) (by kernel_rfl) ?_
          simp only [List.take_succ_cons, List.take_zero, List.drop_succ_cons, List.drop_zero]
          intro we hwe
          have F5 : Blk we q 89 (kArr 0x36 K (i + 1)) := by
            subst hwe
            have h5 := (D5.set_ i (.int .u8 ((c ^^^ 0x36).toNat : Int))).drew
            rw [Array.setIfInBounds_setIfInBounds, show (kArr 0x36 K i).setIfInBounds i (.int .u8 ((c ^^^ 0x36).toNat : Int)) = kArr 0x36 K (i + 1) from E5.out] at h5
            exact h5
          have F6 : Blk we (q + 1) 89 ((kArr 0x5c K i).setIfInBounds i (.int .u8 92)) := by subst hwe; exact (D6.far (by simp) _).drew
          have Fg : Gr w we := by subst hwe; exact (Dg.setCell (by simp; omega) _).drew
          clear hwe D5 D6 Dg
          have c6 : we.cell? ⟨q + 1, i, none⟩ = some (.int .u8 92) := (F6.cell i).trans (Array.getElem?_setIfInBounds_self_of_lt (by rw [kArr_size]; exact h64))
          have f6 := F6.frozen i
          repeat still_step
          refine wpStill_nil ?_
          go_wp2_with fail
          go_roundw
          case rel =>
            have h6 := F6.set_ i (.int .u8 ((c ^^^ 0x5c).toNat : Int))
            have e6 : ((kArr 0x5c K i).setIfInBounds i (.int .u8 92)).setIfInBounds i (.int .u8 ((c ^^^ 0x5c).toNat : Int)) = kArr 0x5c K (i + 1) := by
              rw [Array.setIfInBounds_setIfInBounds]; exact E6.out
            rw [e6] at h6
            exact ⟨i + 1, by go_num, by omega, F5.far (by simp) _, h6, Fg.setCell (by simp; omega) _⟩
          case measure => simp [intOf]; omega
        · have hiki : ¬ (i : Int) < (K.length : Int) := by omega
          have hgd : K.getD i 0 = 0 := by simp [List.getD]; rw [List.getElem?_eq_none (by omega)]; rfl
          have e5 := kArr_set 0x36 K i
          have e6 := kArr_set 0x5c K i
          rw [hgd, x_zero] at e5 e6
          have E5 := sec e5
          have E6 := sec e6
          clear e5 e6 hgd
          go_wp2_with fail
          go_roundw
          case rel =>
            have h5 := hB5.set_ i (.int .u8 54)
            have h6 := (hB6.far (p := ⟨q, i, none⟩) (by simp) (.int .u8 54)).set_ i (.int .u8 92)
            rw [show (kArr 0x36 K i).setIfInBounds i (.int .u8 54) = kArr 0x36 K (i + 1) from E5.out] at h5
            rw [show (kArr 0x5c K i).setIfInBounds i (.int .u8 92) = kArr 0x5c K (i + 1) from E6.out] at h6
            exact ⟨i + 1, by go_num, by omega, h5.far (by simp) _, h6, (hg.setCell (by simp; omega) _).setCell (by simp; omega) _⟩
          case measure => simp [intOf]; omega
      · obtain rfl : i = 64 := by omega
        clear h64 hi
        rw [show ((64 : Nat) : Int) = 64 from rfl]
        go_wp2_with fail
        have k5 := kArr_full 0x36 K
        have k6 := kArr_full 0x5c K
        have K5 := sec k5
        have K6 := sec k6
        have hP5 : (xorPad 0x36 K).length = 64 := xorPad_len _ _
        have hP6 : (xorPad 0x5c K).length = 64 := xorPad_len _ _
        obtain ⟨P5, hQ5⟩ : ∃ P, P = xorPad 0x36 K := ⟨_, rfl⟩
        obtain ⟨P6, hQ6⟩ : ∃ P, P = xorPad 0x5c K := ⟨_, rfl⟩
        rw [← hQ5, ← hQ6] at HF
        rw [← hQ5] at K5 hP5
        rw [← hQ6] at K6 hP6
        have HP5 := sec hP5
        have HP6 := sec hP6
        have hl5 : ¬ 9223372036854775807 < P5.length + b.length := by omega
        have hl6 : ¬ 9223372036854775807 < P6.length + (sha (P5 ++ b)).length := by rw [sha_len]; omega
        have HL5 : Sec ((P5 ++ b).length ≤ 576460752303423488) := sec (by rw [List.length_append]; omega)
        have HL6 : Sec ((P6 ++ sha (P5 ++ b)).length ≤ 576460752303423488) := sec (by rw [List.length_append, sha_len]; omega)
        clear k5 k6 hQ5 hQ6 hP5 hP6
        go_region_held3 (fun w' => (convert 67 9 (.slice (some ⟨q, 0, none⟩) 64 64)).run Tryd.prog w' = .ok (.string (bs P5)) w' ∧ (convert 67 9 (.slice (some ⟨q + 1, 0, none⟩) 64 64)).run Tryd.prog w' = .ok (.string (bs P6)) w' ∧ Gr w w')
          (first | with_reducible assumption | exact ⟨conv_arr _ hB5.drew K5.out 64 HP5.out, conv_arr _ hB6.drew K6.out 64 HP6.out, hg.drew⟩ | exact ⟨conv_arr _ hB5 K5.out 64 HP5.out, conv_arr _ hB6 K6.out 64 HP6.out, hg⟩ | exact ⟨conv_arr _ e5 K5.out 64 HP5.out, conv_arr _ e6 K6.out 64 HP6.out, eg⟩ | exact ⟨conv_arr _ i5 K5.out 64 HP5.out, conv_arr _ i6 K6.out 64 HP6.out, ig⟩)
          (first
            | (go_at_call 51; with_reducible refine Calls.mono (sum_any (P5 ++ b) _ (hT.gr hg.drew) HL5.out) ?_; rintro e w3 ⟨rfl, k⟩; have e5 := hB5.drew.gr k; have e6 := hB6.drew.gr k; have eg := hg.drew.trans k; clear k)
            | (go_at_call 51; with_reducible refine Calls.mono (sum_any (P6 ++ sha (P5 ++ b)) _ (hT.gr eg) HL6.out) ?_; rintro e w4 ⟨rfl, k⟩; have i5 := e5.gr k; have i6 := e6.gr k; have ig := eg.trans k; clear k))
        all_goals
          go_wp2_with fail
          go_ret
          exact ⟨by rw [HF.out]; rfl, ig⟩
end Go.Proofs.YtbhpglhmnpcnkaaDoor

namespace Go.Proofs.YtbhpglhmnpcnkaaDoor
open Go.RowKit
set_option linter.unusedVariables false

theorem BRow.set {w : World} {B g cap : Nat} {l : List UInt8} (h : BRow w B g cap l) (i : Nat) (hi : i < l.length) (c : UInt8) : BRow (w.setCell ⟨g, i, none⟩ (byteV c)) B g cap (l.set i c) := by
  refine ⟨h.base, by simpa using h.lt, by simpa using h.le, h.max, fun j hj => ⟨?_, by rw [World.frozen?_setCell]; exact (h.there j hj).2⟩, fun j u hu => ?_⟩
  · by_cases e : i = j
    · subst e
      obtain ⟨u, hu⟩ := Option.isSome_iff_exists.1 (h.there i hj).1
      rw [World.cell?_setCell_same w _ _ hu]; rfl
    · rw [World.cell?_setCell_other w _ _ _ (by intro e'; injection e' with _ e2 _; exact e e2)]
      exact (h.there j hj).1
  · by_cases e : i = j
    · subst e
      have : i < cap := Nat.lt_of_lt_of_le hi h.le
      obtain ⟨v, hv⟩ := Option.isSome_iff_exists.1 (h.there i this).1
      rw [World.cell?_setCell_same w _ _ hv]
      rw [← hu]
      simp [hi]
    · rw [World.cell?_setCell_other w _ _ _ (by intro e'; injection e' with _ e2 _; exact e e2)]
      refine h.at_ j u ?_
      rw [← hu]
      simp [e]

/-- the first i bytes turned -/
def mixL (x : UInt8) (K : List UInt8) (i : Nat) : List UInt8 := (K.take i).map (· ^^^ x) ++ K.drop i
theorem mixL_len (x : UInt8) (K : List UInt8) (i : Nat) : (mixL x K i).length = K.length := by
  unfold mixL
  rw [List.length_append, List.length_map, List.length_take, List.length_drop]
  omega
theorem mixL_set (x : UInt8) (K : List UInt8) (i : Nat) (hi : i < K.length) : (mixL x K i).set i (K[i] ^^^ x) = mixL x K (i + 1) := by
  unfold mixL
  have hl : ((K.take i).map (· ^^^ x)).length = i := by rw [List.length_map, List.length_take]; omega
  rw [List.set_append_right _ _ (by omega), hl, Nat.sub_self, List.drop_eq_getElem_cons hi, List.take_succ_eq_append_getElem hi, List.map_append]
  simp only [List.set_cons_zero, List.map_cons, List.map_nil, List.append_assoc, List.cons_append, List.nil_append]
theorem mixL_at (x : UInt8) (K : List UInt8) (i : Nat) (hi : i < K.length) : (mixL x K i)[i]'(by rw [mixL_len]; exact hi) = K[i] := by
  unfold mixL
  have hl : ((K.take i).map (· ^^^ x)).length = i := by rw [List.length_map, List.length_take]; omega
  rw [List.getElem_append_right (by omega)]
  simp only [hl, Nat.sub_self, List.getElem_drop, Nat.add_zero]

set_option maxRecDepth 100000 in
set_option maxHeartbeats 1000000 in
theorem seal1_any (x : UInt8) (q : Nat) (K : List UInt8) (w : World) (hc : w.cell? ⟨q, 0, none⟩ = some (.string (bs K))) (hK : K.length ≤ 4611686018427387904) :
    Calls Tryd.prog 59 #[.int .u8 (x.toNat : Int), .pointer (some ⟨q, 0, none⟩)] w fun e w' => e = .returned (.string (bs (K.map (· ^^^ x)))) ∧ Gr w w' := by
  obtain ⟨w2, cap, hcv, hg2, hB⟩ := conv_brow Tryd.underlying9 Tryd.underlying67 Tryd.underlying5 w K (by unfold maxLen; omega)
  have hM : mixL x K 0 = K := rfl
  go_enter Tryd.func59, Tryd.ntmps59
  go_wp2_with fail
  go_loopw [10, 5] (fun iv _ wr => ∃ i : Nat, iv = .int .i64 (i : Int) ∧ i ≤ K.length ∧ BRow wr w.heap.size w.heap.size cap (mixL x K i) ∧ Gr w wr)
    (fun iv _ _ => K.length - (intOf iv).toNat)
  case atStart => exact ⟨0, rfl, by omega, by rw [hM]; exact hB, hg2⟩
  case round =>
    clear hM hcv hB hg2 hc
    obtain ⟨i, rfl, hi, hB, hg⟩ := hrel
    have hl := mixL_len x K i
    by_cases hlt : i < K.length
    · have hli : (i : Int) < (K.length : Int) := by omega
      have hcl := hB.at_ i (byteV K[i]) (by rw [List.getElem?_map, List.getElem?_eq_getElem (by omega), mixL_at x K i hlt]; rfl)
      have hf := (hB.there i (by have := hB.le; omega)).2
      obtain ⟨c, hcc⟩ : ∃ c, c = K[i] := ⟨_, rfl⟩
      have hset := mixL_set x K i hlt
      rw [← hcc] at hset hcl
      have HS := sec hset
      unfold byteV at hcl
      have HL := sec (show i < (mixL x K i).length by omega)
      have hx : bits .xor .u8 (c.toNat : Int) (x.toNat : Int) = ((c ^^^ x).toNat : Int) := by
        have h1 := c.toNat_lt
        have h2 := x.toNat_lt
        rw [u8_xor_nat c.toNat x.toNat (by omega) (by omega), UInt8.toNat_xor]
      clear hset hcc hl
      go_wp2_with fail
      go_roundw
      case rel =>
        refine ⟨i + 1, by go_num, by omega, ?_, hg.setCell (by simp) _⟩
        rw [← HS.out]
        exact hB.set i HL.out (c ^^^ x)
      case measure => simp [intOf]; omega
    · obtain rfl : i = K.length := by omega
      have he : mixL x K K.length = K.map (· ^^^ x) := by unfold mixL; simp
      have hcv := hB.conv Tryd.underlying67 Tryd.underlying5 Tryd.underlying9
      rw [hl, he] at hcv
      clear hl he hlt hi
      go_wp2_with fail
      go_ret
      exact ⟨rfl, hg⟩

def padK (K : List UInt8) : List UInt8 := K ++ List.replicate (64 - K.length) 0
theorem padK_xor (x : UInt8) (K : List UInt8) (h : K.length ≤ 64) : (padK K).map (· ^^^ x) = xorPad x K := by
  apply List.ext_getElem
  · rw [xorPad_len]; unfold padK; simp; omega
  · intro i h1 h2
    unfold padK xorPad at *
    simp only [List.getElem_map, List.getElem_range]
    by_cases e : i < K.length
    · rw [List.getElem_append_left e]; simp [e]
    · rw [List.getElem_append_right (by omega)]
      simp only [List.getElem_replicate]
      have : K.getD i 0 = 0 := by simp [List.getD]; rw [List.getElem?_eq_none (by omega)]; rfl
      rw [this]

set_option maxRecDepth 100000 in
set_option maxHeartbeats 1000000 in
theorem rseal_any (key b : List UInt8) (w : World) (hk : key.length ≤ 288230376151711744) (hb : b.length ≤ 288230376151711744) :
    Calls Tryd.prog 35 #[.string (bs key), .string (bs b)] w fun e w' => e = .returned (.string (bs (seal' key b))) ∧ Gr w w' := by
  obtain ⟨K, hK⟩ : ∃ K, K = keyOf key := ⟨_, rfl⟩
  have hKl : K.length ≤ 64 := by rw [hK]; exact keyOf_len key
  have HF : Sec (seal' key b = sha (xorPad 0x5c K ++ sha (xorPad 0x36 K ++ b))) := sec (by rw [hK]; rfl)
  have HK := sec hK
  have hmf : ∀ (fn : Fn) (first cap : Array Value) (w : World), (Instr.makeFunc fn first cap).run Tryd.prog w = .ok (.func fn first cap) w := fun _ _ _ _ => rfl
  clear hK
  have K5 := sec (padK_xor 0x5c K hKl)
  have K6 := sec (padK_xor 0x36 K hKl)
  have c5 : ∀ (q : Nat) (w : World), w.cell? ⟨q, 0, none⟩ = some (.string (bs (padK K))) → Calls Tryd.prog 59 #[.int .u8 92, .pointer (some ⟨q, 0, none⟩)] w fun e w' => e = .returned (.string (bs (xorPad 0x5c K))) ∧ Gr w w' := by
    intro q w hc
    rw [← K5.out]
    exact seal1_any 0x5c q (padK K) w hc (by unfold padK; simp; omega)
  have c6 : ∀ (q : Nat) (w : World), w.cell? ⟨q, 0, none⟩ = some (.string (bs (padK K))) → Calls Tryd.prog 59 #[.int .u8 54, .pointer (some ⟨q, 0, none⟩)] w fun e w' => e = .returned (.string (bs (xorPad 0x36 K))) ∧ Gr w w' := by
    intro q w hc
    rw [← K6.out]
    exact seal1_any 0x36 q (padK K) w hc (by unfold padK; simp; omega)
  have C5 := sec c5
  have C6 := sec c6
  clear c5 c6
  by_cases hlt : 64 < key.length
  · have HS : Sec (sha key = K) := sec (by rw [HK.out]; unfold keyOf; rw [if_pos hlt])
    have hlti : (64 : Int) < (key.length : Int) := by omega
    go_enter Tryd.func35, Tryd.ntmps35
    go_wp2_with (go_at_call 48; refine (rsum_any key _ (by omega)).mono ?_; rw [HS.out]; rintro e w1 ⟨rfl, g1⟩; have hb1 := (Blk.new w 9 #[Value.string (bs key)]).gr g1; have hc1 := hb1.cell 0; have hf1 := hb1.frozen 0)
    obtain ⟨q, hq⟩ : ∃ q, q = w.heap.size := ⟨_, rfl⟩
    have hqs : w.heap.size ≤ q := by rw [hq]; exact Nat.le_refl _
    have HB : Sec (Blk (w1.setCell ⟨q, 0, none⟩ (.string (bs K))) q 9 #[.string (bs K)]) := sec (by
      rw [hq]
      exact hb1.set_ 0 (.string (bs K)))
    have HG : Sec (Gr w (w1.setCell ⟨q, 0, none⟩ (.string (bs K)))) := sec ((Gr.trans ((Gr.refl w).alloc _) g1).setCell (by simpa using hqs) _)
    clear hb1 hc1 hf1 g1
    rw [← hq]
    clear hq
    go_loopw [] (fun wr => ∃ j : Nat, j ≤ 64 - K.length ∧ Blk wr q 9 #[.string (bs (K ++ List.replicate j 0))] ∧ Gr w wr)
      (fun wr => 64 - lenOf ((wr.cell? ⟨q, 0, none⟩).getD (.int .i64 0)))
    case atStart => exact ⟨0, by omega, by rw [List.replicate_zero, List.append_nil]; exact HB.out, HG.out⟩
    case round =>
      obtain ⟨j, hj, hB, hg⟩ := hrel
      have hc := hB.cell 0
      have hf := hB.frozen 0
      have hll : (K ++ List.replicate j (0 : UInt8)).length = K.length + j := by simp
      by_cases hjl : j < 64 - K.length
      · obtain ⟨L, hL⟩ : ∃ L, L = K ++ List.replicate j (0 : UInt8) := ⟨_, rfl⟩
        rw [← hL] at hc hB hll
        have hlt : (L.length : Int) < 64 := by omega
        have h63 : ¬ 9223372036854775807 < L.length + 1 := by omega
        have HL := sec hL
        have HJ := sec hjl
        simp at hc
        clear hL hjl hj hll
        go_wp2_with fail
        go_roundw
        case rel => exact ⟨j + 1, by have := HJ.out; omega, by rw [List.replicate_succ', ← List.append_assoc, ← HL.out]; exact hB.set_ 0 _, hg.setCell (by simpa using hqs) _⟩
        case measure =>
          have h2 := (hB.set_ 0 (.string (bs (L ++ [0])))).cell 0
          simp [h2, hc, lenOf, bs_size]
          omega
      · obtain rfl : j = 64 - K.length := by omega
        have hlt : ¬ ((K ++ List.replicate (64 - K.length) (0 : UInt8)).length : Int) < 64 := by omega
        have HP : K ++ List.replicate (64 - K.length) (0 : UInt8) = padK K := rfl
        rw [HP] at hc hB hlt
        simp at hc
        clear hll hj hjl HP
        have hP5 : (xorPad 0x5c K).length = 64 := xorPad_len _ _
        have hP6 : (xorPad 0x36 K).length = 64 := xorPad_len _ _
        obtain ⟨P5, hQ5⟩ : ∃ P, P = xorPad 0x5c K := ⟨_, rfl⟩
        obtain ⟨P6, hQ6⟩ : ∃ P, P = xorPad 0x36 K := ⟨_, rfl⟩
        rw [← hQ5, ← hQ6] at HF
        rw [← hQ5] at hP5 C5
        rw [← hQ6] at hP6 C6
        have hl6 : ¬ 9223372036854775807 < P6.length + b.length := by omega
        have hl5 : ¬ 9223372036854775807 < P5.length + (sha (P6 ++ b)).length := by rw [sha_len]; omega
        have HL6 : Sec ((P6 ++ b).length ≤ 576460752303423488) := sec (by rw [List.length_append]; omega)
        have HL5 : Sec ((P5 ++ sha (P6 ++ b)).length ≤ 576460752303423488) := sec (by rw [List.length_append, sha_len]; omega)
        clear hQ5 hQ6 hP5 hP6
        go_wp2_with (first
          | (go_at_call 59; with_reducible refine Calls.mono (C5.out q _ hc) ?_; rintro e w3 ⟨rfl, g3⟩; have c3 := (hB.gr g3).cell 0; simp at c3; have gg3 := hg.trans g3)
          | (go_at_call 59; with_reducible refine Calls.mono (C6.out q _ c3) ?_; rintro e w4 ⟨rfl, g4⟩; have gg4 := gg3.trans g4)
          | (go_at_call 48; with_reducible refine Calls.mono (rsum_any (P6 ++ b) _ HL6.out) ?_; rintro e w5 ⟨rfl, g5⟩; have gg5 := gg4.trans g5)
          | (go_at_call 48; with_reducible refine Calls.mono (rsum_any (P5 ++ sha (P6 ++ b)) _ HL5.out) ?_; rintro e w6 ⟨rfl, g6⟩; have gg6 := gg5.trans g6))
        go_ret
        exact ⟨by rw [HF.out]; rfl, gg6⟩
  · have hlti : ¬ (64 : Int) < (key.length : Int) := by omega
    obtain rfl : K = key := by rw [HK.out]; unfold keyOf; rw [if_neg hlt]
    go_enter Tryd.func35, Tryd.ntmps35
    go_wp2_with fail
    obtain ⟨q, hq⟩ : ∃ q, q = w.heap.size := ⟨_, rfl⟩
    have hqs : w.heap.size ≤ q := by rw [hq]; exact Nat.le_refl _
    have HB : Sec (Blk (w.alloc (.cells #[.string (bs K)] 9)) q 9 #[.string (bs K)]) := sec (by
      rw [hq]
      exact Blk.new w _ _)
    have HG : Sec (Gr w (w.alloc (.cells #[.string (bs K)] 9))) := sec ((Gr.refl w).alloc _)
    rw [← hq]
    clear hq
    go_loopw [] (fun wr => ∃ j : Nat, j ≤ 64 - K.length ∧ Blk wr q 9 #[.string (bs (K ++ List.replicate j 0))] ∧ Gr w wr)
      (fun wr => 64 - lenOf ((wr.cell? ⟨q, 0, none⟩).getD (.int .i64 0)))
    case atStart => exact ⟨0, by omega, by rw [List.replicate_zero, List.append_nil]; exact HB.out, HG.out⟩
    case round =>
      obtain ⟨j, hj, hB, hg⟩ := hrel
      have hc := hB.cell 0
      have hf := hB.frozen 0
      have hll : (K ++ List.replicate j (0 : UInt8)).length = K.length + j := by simp
      by_cases hjl : j < 64 - K.length
      · obtain ⟨L, hL⟩ : ∃ L, L = K ++ List.replicate j (0 : UInt8) := ⟨_, rfl⟩
        rw [← hL] at hc hB hll
        have hlt : (L.length : Int) < 64 := by omega
        have h63 : ¬ 9223372036854775807 < L.length + 1 := by omega
        have HL := sec hL
        have HJ := sec hjl
        simp at hc
        clear hL hjl hj hll
        go_wp2_with fail
        go_roundw
        case rel => exact ⟨j + 1, by have := HJ.out; omega, by rw [List.replicate_succ', ← List.append_assoc, ← HL.out]; exact hB.set_ 0 _, hg.setCell (by simpa using hqs) _⟩
        case measure =>
          have h2 := (hB.set_ 0 (.string (bs (L ++ [0])))).cell 0
          simp [h2, hc, lenOf, bs_size]
          omega
      · obtain rfl : j = 64 - K.length := by omega
        have hlt : ¬ ((K ++ List.replicate (64 - K.length) (0 : UInt8)).length : Int) < 64 := by omega
        have HP : K ++ List.replicate (64 - K.length) (0 : UInt8) = padK K := rfl
        rw [HP] at hc hB hlt
        simp at hc
        clear hll hj hjl HP
        have hP5 : (xorPad 0x5c K).length = 64 := xorPad_len _ _
        have hP6 : (xorPad 0x36 K).length = 64 := xorPad_len _ _
        obtain ⟨P5, hQ5⟩ : ∃ P, P = xorPad 0x5c K := ⟨_, rfl⟩
        obtain ⟨P6, hQ6⟩ : ∃ P, P = xorPad 0x36 K := ⟨_, rfl⟩
        rw [← hQ5, ← hQ6] at HF
        rw [← hQ5] at hP5 C5
        rw [← hQ6] at hP6 C6
        have hl6 : ¬ 9223372036854775807 < P6.length + b.length := by omega
        have hl5 : ¬ 9223372036854775807 < P5.length + (sha (P6 ++ b)).length := by rw [sha_len]; omega
        have HL6 : Sec ((P6 ++ b).length ≤ 576460752303423488) := sec (by rw [List.length_append]; omega)
        have HL5 : Sec ((P5 ++ sha (P6 ++ b)).length ≤ 576460752303423488) := sec (by rw [List.length_append, sha_len]; omega)
        clear hQ5 hQ6 hP5 hP6
        go_wp2_with (first
          | (go_at_call 59; with_reducible refine Calls.mono (C5.out q _ hc) ?_; rintro e w3 ⟨rfl, g3⟩; have c3 := (hB.gr g3).cell 0; simp at c3; have gg3 := hg.trans g3)
          | (go_at_call 59; with_reducible refine Calls.mono (C6.out q _ c3) ?_; rintro e w4 ⟨rfl, g4⟩; have gg4 := gg3.trans g4)
          | (go_at_call 48; with_reducible refine Calls.mono (rsum_any (P6 ++ b) _ HL6.out) ?_; rintro e w5 ⟨rfl, g5⟩; have gg5 := gg4.trans g5)
          | (go_at_call 48; with_reducible refine Calls.mono (rsum_any (P5 ++ sha (P6 ++ b)) _ HL5.out) ?_; rintro e w6 ⟨rfl, g6⟩; have gg6 := gg5.trans g6))
        go_ret
        exact ⟨by rw [HF.out]; rfl, gg6⟩
end Go.Proofs.YtbhpglhmnpcnkaaDoor

namespace Go.Proofs.YtbhpglhmnpcnkaaDoor
set_option maxRecDepth 100000
open Go.RowKit
set_option linter.unusedVariables false

theorem aggMark : AggOk 37 2 := ⟨⟨_, Tryd.underlying37, rfl⟩, by kernel_rfl⟩
def markC (n : Int) (r : List UInt8) : Array Value := #[.int .i64 n, .string (bs r)]
theorem markC_one (n : Int) (r : List UInt8) : (markC n r).all (·.oneCell') = true := by simp [markC, Value.oneCell']
def hd4 : List UInt8 := [104, 101, 97, 100]
/-- P11.4: who, the seal, the error -/
def hdMk (who : Int) (key : List UInt8) (n : Int) (r : List UInt8) : Int × List UInt8 × Int :=
  if (hdTxt n r).2 = 0 then (if who < 0 ∨ 4 ≤ who then (0, [], 3) else (who, seal' key (hd4 ++ (hdTxt n r).1), 0)) else (0, [], (hdTxt n r).2)
theorem hdTxt_len (n : Int) (r : List UInt8) : (hdTxt n r).1.length ≤ 64 := by
  unfold hdTxt
  split
  · rename_i hE
    obtain ⟨h0, h1, h2⟩ := hdE_zero hE
    have hnl : (numS n).length ≤ 9 := by rw [numS_in h0 (by omega)]; exact num_len9 (by omega)
    simp only [List.length_append]
    omega
  · simp

set_option maxHeartbeats 4000000 in
theorem hmark_any (who : Int) (key : List UInt8) (n : Int) (r : List UInt8) (w : World) (hT : TabK w) (hk : key.length ≤ 1099511627776) (hr : r.length ≤ 1099511627776) :
    Calls Tryd.prog 12 #[.int .i64 who, .string (bs key), .agg (headC n r)] w fun e w' => e = .returned (.tuple #[.agg (markC (hdMk who key n r).1 (hdMk who key n r).2.1), .int .i64 (hdMk who key n r).2.2]) ∧ Gr w w' := by
  have hx := hdTxt_len n r
  have HTx := sec (fun w => htext_any n r w hr)
  have HSe : Sec (∀ w', Gr w w' → Calls Tryd.prog 34 #[.string (bs key), .string (bs (hd4 ++ (hdTxt n r).1))] w' fun e w'' => e = .returned (.string (bs (seal' key (hd4 ++ (hdTxt n r).1)))) ∧ Gr w' w'') := sec (fun w' g => seal_any key _ w' (hT.gr g) (by omega) (by simp only [List.length_append, hd4, List.length_cons, List.length_nil]; omega))
  obtain ⟨wa, hwa⟩ : ∃ x, x = (w.alloc (.cells (headC n r) 26)).alloc (.cells (markC 0 []) 37) := ⟨_, rfl⟩
  have hb : Blk wa w.heap.size 26 (headC n r) := by rw [hwa]; exact (Blk.new w _ _).alloc _
  have hm : Blk wa (w.heap.size + 1) 37 (markC 0 []) := by rw [hwa]; exact Blk.new1 w _ _ _
  have hg0 : Gr w wa := by rw [hwa]; exact ((Gr.refl w).alloc _).alloc _
  obtain ⟨p, hp⟩ : ∃ p, p = w.heap.size := ⟨_, rfl⟩
  have hwp : w.heap.size ≤ p + 1 := by omega
  rw [← hp] at hb hm
  unfold hdMk
  obtain ⟨tx, htx⟩ : ∃ t, t = (hdTxt n r).1 := ⟨_, rfl⟩
  obtain ⟨te, hte⟩ : ∃ t, t = (hdTxt n r).2 := ⟨_, rfl⟩
  rw [← htx, ← hte] at HTx
  rw [← htx] at HSe hx
  rw [← htx, ← hte]
  obtain ⟨S, hS⟩ : ∃ S, S = seal' key (hd4 ++ tx) := ⟨_, rfl⟩
  rw [← hS] at HSe
  rw [← hS]
  have HB := sec hb
  have HM := sec hm
  have c0 : wa.cell? ⟨p, 0, none⟩ = some (.int .i64 n) := hb.cell 0
  have c1 : wa.cell? ⟨p, 1, none⟩ = some (.string (bs r)) := hb.cell 1
  have HCELL : Sec (∀ w', Gr wa w' → w'.cell? ⟨p + 1, 0, none⟩ = some (.int .i64 0) ∧ w'.cell? ⟨p + 1, 1, none⟩ = some (.string (bs [])) ∧ w'.frozen? ⟨p + 1, 0, none⟩ = false ∧ w'.frozen? ⟨p + 1, 1, none⟩ = false) := sec (fun w' g => ⟨(HM.out.gr g).cell 0, (HM.out.gr g).cell 1, (HM.out.gr g).frozen 0, (HM.out.gr g).frozen 1⟩)
  have HC4 : Sec ((bs (hd4 ++ tx)) = { data := #[104, 101, 97, 100] } ++ bs tx) := sec (bs_append hd4 tx).symm
  have hcat : ¬ 9223372036854775807 < 4 + tx.length := by omega
  clear hb hm hx htx hte hS hT hk hr
  unfold headC at HTx hwa
  unfold markC at hwa
  unfold headC markC
  by_cases h0 : te = 0
  · rw [if_pos h0]
    subst h0
    by_cases h1 : who < 0
    · rw [if_pos (Or.inl h1)]
      have d1 : decide (who < 0) = true := decide_eq_true h1
      go_enter Tryd.func12, Tryd.ntmps12
      go_wp2_with (first
        | (rw [← hwa, ← hp]; clear hwa hp; go_wp2_with fail)
        | (go_at_call 15; refine Calls.mono (HTx.out _) ?_; rintro e w1 ⟨rfl, g1⟩; obtain ⟨y0, y1, z0, z1⟩ := HCELL.out w1 g1))
      refine bodyPost_ret (results_blk_tmp rfl _ rfl (((HM.out.gr g1).set_ 0 (.int .i64 0)).set_ 1 (.string (bs []))) aggMark) rfl ?_
      exact ⟨rfl, ((hg0.trans g1).setCell (p := ⟨p + 1, 0, none⟩) hwp _).setCell (p := ⟨p + 1, 1, none⟩) hwp _⟩
    · by_cases h2 : 4 ≤ who
      · rw [if_pos (Or.inr h2)]
        have d1 : decide (who < 0) = false := decide_eq_false h1
        have d2 : decide (4 ≤ who) = true := decide_eq_true (by omega)
        go_enter Tryd.func12, Tryd.ntmps12
        go_wp2_with (first
          | (rw [← hwa, ← hp]; clear hwa hp; go_wp2_with fail)
          | (go_at_call 15; refine Calls.mono (HTx.out _) ?_; rintro e w1 ⟨rfl, g1⟩; obtain ⟨y0, y1, z0, z1⟩ := HCELL.out w1 g1))
        refine bodyPost_ret (results_blk_tmp rfl _ rfl (((HM.out.gr g1).set_ 0 (.int .i64 0)).set_ 1 (.string (bs []))) aggMark) rfl ?_
        exact ⟨rfl, ((hg0.trans g1).setCell (p := ⟨p + 1, 0, none⟩) hwp _).setCell (p := ⟨p + 1, 1, none⟩) hwp _⟩
      · rw [if_neg (by omega)]
        have d1 : decide (who < 0) = false := decide_eq_false h1
        have d2 : decide (4 ≤ who) = false := decide_eq_false (by omega)
        rw [HC4.out] at HSe
        go_enter Tryd.func12, Tryd.ntmps12
        go_wp2_with (first
          | (rw [← hwa, ← hp]; clear hwa hp; go_wp2_with fail)
          | (go_at_call 15; refine Calls.mono (HTx.out _) ?_; rintro e w1 ⟨rfl, g1⟩)
          | (go_at_call 34; refine Calls.mono (HSe.out _ (hg0.trans g1)) ?_; rintro e w2 ⟨rfl, g2⟩; obtain ⟨y0, y1, z0, z1⟩ := HCELL.out w2 (g1.trans g2)))
        refine bodyPost_ret (results_blk_tmp rfl _ rfl (((HM.out.gr (g1.trans g2)).set_ 0 (.int .i64 who)).set_ 1 (.string (bs S))) aggMark) rfl ?_
        exact ⟨rfl, ((hg0.trans (g1.trans g2)).setCell (p := ⟨p + 1, 0, none⟩) hwp _).setCell (p := ⟨p + 1, 1, none⟩) hwp _⟩
  · rw [if_neg h0]
    have m0 : (te != 0) = true := by simpa using h0
    go_enter Tryd.func12, Tryd.ntmps12
    go_wp2_with (first
      | (rw [← hwa, ← hp]; clear hwa hp; go_wp2_with fail)
      | (go_at_call 15; refine Calls.mono (HTx.out _) ?_; rintro e w1 ⟨rfl, g1⟩; obtain ⟨y0, y1, z0, z1⟩ := HCELL.out w1 g1))
    refine bodyPost_ret (results_blk_tmp rfl _ rfl (((HM.out.gr g1).set_ 0 (.int .i64 0)).set_ 1 (.string (bs []))) aggMark) rfl ?_
    exact ⟨rfl, ((hg0.trans g1).setCell (p := ⟨p + 1, 0, none⟩) hwp _).setCell (p := ⟨p + 1, 1, none⟩) hwp _⟩

set_option maxHeartbeats 4000000 in
theorem rhmark_any (who : Int) (key : List UInt8) (n : Int) (r : List UInt8) (w : World) (hT : TabK w) (hk : key.length ≤ 1099511627776) (hr : r.length ≤ 1099511627776) :
    Calls Tryd.prog 13 #[.int .i64 who, .string (bs key), .agg (headC n r)] w fun e w' => e = .returned (.tuple #[.agg (markC (hdMk who key n r).1 (hdMk who key n r).2.1), .int .i64 (hdMk who key n r).2.2]) ∧ Gr w w' := by
  have hx := hdTxt_len n r
  have HTx := sec (fun w => rhtext_any n r w hr)
  have HSe : Sec (∀ w', Gr w w' → Calls Tryd.prog 35 #[.string (bs key), .string (bs (hd4 ++ (hdTxt n r).1))] w' fun e w'' => e = .returned (.string (bs (seal' key (hd4 ++ (hdTxt n r).1)))) ∧ Gr w' w'') := sec (fun w' g => rseal_any key _ w' (by omega) (by simp only [List.length_append, hd4, List.length_cons, List.length_nil]; omega))
  obtain ⟨wa, hwa⟩ : ∃ x, x = (w.alloc (.cells (headC n r) 26)).alloc (.cells (markC 0 []) 37) := ⟨_, rfl⟩
  have hb : Blk wa w.heap.size 26 (headC n r) := by rw [hwa]; exact (Blk.new w _ _).alloc _
  have hm : Blk wa (w.heap.size + 1) 37 (markC 0 []) := by rw [hwa]; exact Blk.new1 w _ _ _
  have hg0 : Gr w wa := by rw [hwa]; exact ((Gr.refl w).alloc _).alloc _
  obtain ⟨p, hp⟩ : ∃ p, p = w.heap.size := ⟨_, rfl⟩
  have hwp : w.heap.size ≤ p + 1 := by omega
  rw [← hp] at hb hm
  unfold hdMk
  obtain ⟨tx, htx⟩ : ∃ t, t = (hdTxt n r).1 := ⟨_, rfl⟩
  obtain ⟨te, hte⟩ : ∃ t, t = (hdTxt n r).2 := ⟨_, rfl⟩
  rw [← htx, ← hte] at HTx
  rw [← htx] at HSe hx
  rw [← htx, ← hte]
  obtain ⟨S, hS⟩ : ∃ S, S = seal' key (hd4 ++ tx) := ⟨_, rfl⟩
  rw [← hS] at HSe
  rw [← hS]
  have HB := sec hb
  have HM := sec hm
  have c0 : wa.cell? ⟨p, 0, none⟩ = some (.int .i64 n) := hb.cell 0
  have c1 : wa.cell? ⟨p, 1, none⟩ = some (.string (bs r)) := hb.cell 1
  have HCELL : Sec (∀ w', Gr wa w' → w'.cell? ⟨p + 1, 0, none⟩ = some (.int .i64 0) ∧ w'.cell? ⟨p + 1, 1, none⟩ = some (.string (bs [])) ∧ w'.frozen? ⟨p + 1, 0, none⟩ = false ∧ w'.frozen? ⟨p + 1, 1, none⟩ = false) := sec (fun w' g => ⟨(HM.out.gr g).cell 0, (HM.out.gr g).cell 1, (HM.out.gr g).frozen 0, (HM.out.gr g).frozen 1⟩)
  have HC4 : Sec ((bs (hd4 ++ tx)) = { data := #[104, 101, 97, 100] } ++ bs tx) := sec (bs_append hd4 tx).symm
  have hcat : ¬ 9223372036854775807 < 4 + tx.length := by omega
  clear hb hm hx htx hte hS hT hk hr
  unfold headC at HTx hwa
  unfold markC at hwa
  unfold headC markC
  by_cases h0 : te = 0
  · rw [if_pos h0]
    subst h0
    by_cases h1 : who < 0
    · rw [if_pos (Or.inl h1)]
      have d1 : decide (who < 0) = true := decide_eq_true h1
      go_enter Tryd.func13, Tryd.ntmps13
      go_wp2_with (first
        | (rw [← hwa, ← hp]; clear hwa hp; go_wp2_with fail)
        | (go_at_call 16; refine Calls.mono (HTx.out _) ?_; rintro e w1 ⟨rfl, g1⟩; obtain ⟨y0, y1, z0, z1⟩ := HCELL.out w1 g1))
      refine bodyPost_ret (results_blk_tmp rfl _ rfl (((HM.out.gr g1).set_ 0 (.int .i64 0)).set_ 1 (.string (bs []))) aggMark) rfl ?_
      exact ⟨rfl, ((hg0.trans g1).setCell (p := ⟨p + 1, 0, none⟩) hwp _).setCell (p := ⟨p + 1, 1, none⟩) hwp _⟩
    · by_cases h2 : 4 ≤ who
      · rw [if_pos (Or.inr h2)]
        have d1 : decide (who < 0) = false := decide_eq_false h1
        have d2 : decide (3 < who) = true := decide_eq_true (by omega)
        go_enter Tryd.func13, Tryd.ntmps13
        go_wp2_with (first
          | (rw [← hwa, ← hp]; clear hwa hp; go_wp2_with fail)
          | (go_at_call 16; refine Calls.mono (HTx.out _) ?_; rintro e w1 ⟨rfl, g1⟩; obtain ⟨y0, y1, z0, z1⟩ := HCELL.out w1 g1))
        refine bodyPost_ret (results_blk_tmp rfl _ rfl (((HM.out.gr g1).set_ 0 (.int .i64 0)).set_ 1 (.string (bs []))) aggMark) rfl ?_
        exact ⟨rfl, ((hg0.trans g1).setCell (p := ⟨p + 1, 0, none⟩) hwp _).setCell (p := ⟨p + 1, 1, none⟩) hwp _⟩
      · rw [if_neg (by omega)]
        have d1 : decide (who < 0) = false := decide_eq_false h1
        have d2 : decide (3 < who) = false := decide_eq_false (by omega)
        rw [HC4.out] at HSe
        go_enter Tryd.func13, Tryd.ntmps13
        go_wp2_with (first
          | (rw [← hwa, ← hp]; clear hwa hp; go_wp2_with fail)
          | (go_at_call 16; refine Calls.mono (HTx.out _) ?_; rintro e w1 ⟨rfl, g1⟩)
          | (go_at_call 35; refine Calls.mono (HSe.out _ (hg0.trans g1)) ?_; rintro e w2 ⟨rfl, g2⟩; obtain ⟨y0, y1, z0, z1⟩ := HCELL.out w2 (g1.trans g2)))
        refine bodyPost_ret (results_blk_tmp rfl _ rfl (((HM.out.gr (g1.trans g2)).set_ 0 (.int .i64 who)).set_ 1 (.string (bs S))) aggMark) rfl ?_
        exact ⟨rfl, ((hg0.trans (g1.trans g2)).setCell (p := ⟨p + 1, 0, none⟩) hwp _).setCell (p := ⟨p + 1, 1, none⟩) hwp _⟩
  · rw [if_neg h0]
    have m0 : (te != 0) = true := by simpa using h0
    go_enter Tryd.func13, Tryd.ntmps13
    go_wp2_with (first
      | (rw [← hwa, ← hp]; clear hwa hp; go_wp2_with fail)
      | (go_at_call 16; refine Calls.mono (HTx.out _) ?_; rintro e w1 ⟨rfl, g1⟩; obtain ⟨y0, y1, z0, z1⟩ := HCELL.out w1 g1))
    refine bodyPost_ret (results_blk_tmp rfl _ rfl (((HM.out.gr g1).set_ 0 (.int .i64 0)).set_ 1 (.string (bs []))) aggMark) rfl ?_
    exact ⟨rfl, ((hg0.trans g1).setCell (p := ⟨p + 1, 0, none⟩) hwp _).setCell (p := ⟨p + 1, 1, none⟩) hwp _⟩
end Go.Proofs.YtbhpglhmnpcnkaaDoor

namespace Go.Proofs.YtbhpglhmnpcnkaaDoor
set_option maxRecDepth 100000
open Go.RowKit Go.ChangeShapes Go.WideShapes
set_option linter.unusedVariables false

theorem open_head {w : World} {r : Reach} {base : Nat} {H : Type} {enc : TypeId × Value → H} {v : Value} {d : DataW H} {p : List MemPlace}
    (hv : Value.okWide Tryd.prog w r base 26 v) (hd : DataW.Trod enc Tryd.prog w 0 (fun _ => true) true 26 v d p) (hb : Rows.uptoBulk d ≤ 1048576) :
    ∃ n rt, v = .agg (headC n rt) ∧ rt.length ≤ 1048576 := by
  obtain ⟨cs, ⟨n, rt⟩, rfl, ⟨hc, _⟩, hs⟩ := open_structD_arg Tryd.underlying26 (opens_headD w) hv hd
  simp only at hc hs
  refine ⟨n, rt, ?_, by omega⟩
  unfold headC
  congr 1
  exact Array.toList_inj.1 hc
set_option maxHeartbeats 4000000 in
theorem headTexts_walk (n : Int) (r : List UInt8) (b : List UInt8) (W : World) (hr : r.length ≤ 1048576) (hbl : b.length ≤ 1048576) (hT : TabK W) :
    Calls Tryd.prog 5 #[.agg (headC n r), .string (bs b)] W fun e W' => e = .returned (.bool true) ∧ Gr W W' := by
  have hg0 := (Gr.refl W).alloc (.cells (headC n r) 26)
  have hb1 := Blk.new W 26 (headC n r)
  have hT1 := hT.gr hg0
  obtain ⟨wa, hwa⟩ : ∃ x, x = W.alloc (.cells (headC n r) 26) := ⟨_, rfl⟩
  rw [← hwa] at hg0 hb1 hT1
  obtain ⟨p, hp⟩ : ∃ p, p = W.heap.size := ⟨_, rfl⟩
  rw [← hp] at hb1
  have HT1 := sec (fun w => htext_any n r w (by omega))
  have HT2 := sec (fun w => rhtext_any n r w (by omega))
  have HR1 := sec (fun w => hread_any b w (by omega))
  have HR2 := sec (fun w => rhread_any b w (by omega))
  have HG1 := sec (fun w => hgood_any n r w (by omega))
  have HG2 := sec (fun w => rhgood_any n r w (by omega))
  have HEm : Sec (∀ w, Gr wa w → Calls Tryd.prog 21 #[] w fun e w' => e = .returned (.agg (headC 0 (sha []))) ∧ Gr w w') := sec (fun w g => empty_any w (hT1.gr g))
  have HNo : Sec (∀ w, Calls Tryd.prog 22 #[] w fun e w' => e = .returned (.agg (headC 0 (sha []))) ∧ Gr w w') := sec (fun w => nohead_any w)
  have HHs : Sec (∀ w, Gr wa w → Calls Tryd.prog 14 #[] w fun e w' => e = .returned (.bool true) ∧ Gr w w') := sec (fun w g => heads_any w (hT1.gr g))
  obtain ⟨Z, hZ⟩ : ∃ Z, Z = sha [] := ⟨_, rfl⟩
  rw [← hZ] at HEm HNo
  obtain ⟨T, hTT⟩ : ∃ T, T = hdTxt n r := ⟨_, rfl⟩
  rw [← hTT] at HT1 HT2
  obtain ⟨D, hD⟩ : ∃ D, D = hdRd b := ⟨_, rfl⟩
  rw [← hD] at HR1 HR2
  obtain ⟨E, hE⟩ : ∃ E, E = hdE n r := ⟨_, rfl⟩
  rw [← hE] at HG1 HG2
  obtain ⟨hz, hr2, he⟩ := D
  obtain ⟨tx, te⟩ := T
  have HB : Sec (Blk wa p 26 #[.int .i64 n, .string (bs r)]) := sec hb1
  have c0 : wa.cell? ⟨p, 0, none⟩ = some (.int .i64 n) := HB.out.cell 0
  have c1 : wa.cell? ⟨p, 1, none⟩ = some (.string (bs r)) := HB.out.cell 1
  clear hZ hTT hD hE hb1 hT hT1 hr hbl
  unfold headC at HT1 HT2 HR1 HR2 HG1 HG2 HEm HNo hwa
  unfold headC
  go_enter Tryd.func5, Tryd.ntmps5
  go_wp2_with (first
    | (rw [← hwa, ← hp]; clear hwa hp; go_wp2_with fail)
    | (go_at_call 15; refine Calls.mono (HT1.out _) ?_; rintro e w1 ⟨rfl, g1⟩; have d0 : w1.cell? ⟨p, 0, none⟩ = some (.int .i64 n) := (HB.out.gr g1).cell 0; have d1 : w1.cell? ⟨p, 1, none⟩ = some (.string (bs r)) := (HB.out.gr g1).cell 1)
    | (go_at_call 16; refine Calls.mono (HT2.out _) ?_; rintro e w2 ⟨rfl, g2⟩)
    | (go_at_call 17; refine Calls.mono (HR1.out _) ?_; rintro e w3 ⟨rfl, g3⟩; have hq3 := Blk.new w3 26 #[.int .i64 hz, .string (bs hr2)])
    | (go_at_call 18; refine Calls.mono (HR2.out _) ?_; rintro e w4 ⟨rfl, g4⟩))
  have HG7 := sec ((((g1.trans g2).trans g3).alloc (.cells #[.int .i64 hz, .string (bs hr2)] 26)).trans g4 |>.alloc (.cells #[.int .i64 hz, .string (bs hr2)] 26))
  have K1 := sec ((hq3.gr g4).alloc (.cells #[.int .i64 hz, .string (bs hr2)] 26))
  have K2 := sec (Blk.new w4 26 #[.int .i64 hz, .string (bs hr2)])
  obtain ⟨w7, hw7⟩ : ∃ x, x = w4.alloc (.cells #[.int .i64 hz, .string (bs hr2)] 26) := ⟨_, rfl⟩
  obtain ⟨pa, hpa⟩ : ∃ x, x = w3.heap.size := ⟨_, rfl⟩
  obtain ⟨pb, hpb⟩ : ∃ x, x = w4.heap.size := ⟨_, rfl⟩
  rw [← hw7] at HG7 K1 K2
  rw [← hpa] at K1
  rw [← hpb] at K2
  rw [← hw7, ← hpa, ← hpb]
  clear hw7 hpa hpb hq3 g4 g3 g2 g1 d0 d1 c0 c1
  have HSK : Sec (∀ w', Gr w7 w' → w'.cell? ⟨pa, 0, none⟩ = some (.int .i64 hz) ∧ w'.cell? ⟨pa, 1, none⟩ = some (.string (bs hr2)) ∧ w'.cell? ⟨pb, 0, none⟩ = some (.int .i64 hz) ∧ w'.cell? ⟨pb, 1, none⟩ = some (.string (bs hr2)) ∧ w'.cell? ⟨p, 0, none⟩ = some (.int .i64 n) ∧ w'.cell? ⟨p, 1, none⟩ = some (.string (bs r)) ∧ Gr w7 w') := sec (fun w' g => ⟨(K1.out.gr g).cell 0, (K1.out.gr g).cell 1, (K2.out.gr g).cell 0, (K2.out.gr g).cell 1, (HB.out.gr (HG7.out.trans g)).cell 0, (HB.out.gr (HG7.out.trans g)).cell 1, g⟩)
  clear K1 K2
  have g7 : Gr w7 w7.drew := (Gr.refl _).drew
  go_region_held3 (fun w' => w'.cell? ⟨pa, 0, none⟩ = some (.int .i64 hz) ∧ w'.cell? ⟨pa, 1, none⟩ = some (.string (bs hr2)) ∧ w'.cell? ⟨pb, 0, none⟩ = some (.int .i64 hz) ∧ w'.cell? ⟨pb, 1, none⟩ = some (.string (bs hr2)) ∧ w'.cell? ⟨p, 0, none⟩ = some (.int .i64 n) ∧ w'.cell? ⟨p, 1, none⟩ = some (.string (bs r)) ∧ Gr w7 w')
    (first | with_reducible assumption | with_reducible exact HSK.out _ g7 | with_reducible exact HSK.out _ g8 | with_reducible exact HSK.out _ g9 | with_reducible exact HSK.out _ g10 | with_reducible exact HSK.out _ g11 | with_reducible exact HSK.out _ g12 | fail)
    (first
      | (go_at_call 19; (with_reducible refine Calls.mono (HG1.out w7.drew) ?_); rintro e w8 ⟨rfl, g8'⟩; have g8 : Gr w7 w8 := Gr.trans g7 g8')
      | (go_at_call 20; (with_reducible refine Calls.mono (HG2.out w8) ?_); rintro e w9 ⟨rfl, g9'⟩; have g9 : Gr w7 w9 := Gr.trans g8 g9')
      | (go_at_call 21; (with_reducible refine Calls.mono (HEm.out w9 (HG7.out.trans g9)) ?_); rintro e w10 ⟨rfl, g10'⟩; have g10 : Gr w7 w10 := Gr.trans g9 g10')
      | (go_at_call 22; (with_reducible refine Calls.mono (HNo.out w10) ?_); rintro e w11 ⟨rfl, g11'⟩; have g11 : Gr w7 w11 := Gr.trans g10 g11')
      | (go_at_call 14; (with_reducible refine Calls.mono (HHs.out w11 (HG7.out.trans g11)) ?_); rintro e w12 ⟨rfl, g12'⟩; have g12 : Gr w7 w12 := Gr.trans g11 g12')
      | fail)
  all_goals (go_wp2_with fail; go_ret; exact ⟨rfl, hg0.trans (HG7.out.trans g12)⟩)
end Go.Proofs.YtbhpglhmnpcnkaaDoor

namespace Go.Proofs.YtbhpglhmnpcnkaaDoor
set_option maxRecDepth 100000
open Go.RowKit Go.ChangeShapes Go.WideShapes
set_option linter.unusedVariables false

set_option maxHeartbeats 4000000 in
theorem headMarks_walk (who : Int) (key : List UInt8) (n : Int) (r : List UInt8) (W : World) (_hi : -9223372036854775808 ≤ who ∧ who ≤ 9223372036854775807) (hk : key.length ≤ 1048576) (hr : r.length ≤ 1048576) (hT : TabK W) :
    Calls Tryd.prog 4 #[.int .i64 who, .string (bs key), .agg (headC n r)] W fun e W' => e = .returned (.bool true) ∧ Gr W W' := by
  have hg0 := (Gr.refl W).alloc (.cells (headC n r) 26)
  have hb1 := Blk.new W 26 (headC n r)
  have hT1 := hT.gr hg0
  obtain ⟨wa, hwa⟩ : ∃ x, x = W.alloc (.cells (headC n r) 26) := ⟨_, rfl⟩
  rw [← hwa] at hg0 hb1 hT1
  obtain ⟨p, hp⟩ : ∃ p, p = W.heap.size := ⟨_, rfl⟩
  rw [← hp] at hb1
  have HM1 : Sec (∀ w, Gr wa w → Calls Tryd.prog 12 #[.int .i64 who, .string (bs key), .agg (headC n r)] w fun e w' => e = .returned (.tuple #[.agg (markC (hdMk who key n r).1 (hdMk who key n r).2.1), .int .i64 (hdMk who key n r).2.2]) ∧ Gr w w') := sec (fun w g => hmark_any who key n r w (hT1.gr g) (by omega) (by omega))
  have HM2 : Sec (∀ w, Gr wa w → Calls Tryd.prog 13 #[.int .i64 who, .string (bs key), .agg (headC n r)] w fun e w' => e = .returned (.tuple #[.agg (markC (hdMk who key n r).1 (hdMk who key n r).2.1), .int .i64 (hdMk who key n r).2.2]) ∧ Gr w w') := sec (fun w g => rhmark_any who key n r w (hT1.gr g) (by omega) (by omega))
  have HHs : Sec (∀ w, Gr wa w → Calls Tryd.prog 14 #[] w fun e w' => e = .returned (.bool true) ∧ Gr w w') := sec (fun w g => heads_any w (hT1.gr g))
  obtain ⟨M, hM⟩ : ∃ M, M = hdMk who key n r := ⟨_, rfl⟩
  rw [← hM] at HM1 HM2
  obtain ⟨mw, ms, me⟩ := M
  have HB : Sec (Blk wa p 26 #[.int .i64 n, .string (bs r)]) := sec hb1
  have c0 : wa.cell? ⟨p, 0, none⟩ = some (.int .i64 n) := HB.out.cell 0
  have c1 : wa.cell? ⟨p, 1, none⟩ = some (.string (bs r)) := HB.out.cell 1
  have HGM : Sec (∀ w, Gr wa w → Gr wa (w.alloc (.cells #[.int .i64 mw, .string (bs ms)] 37))) := sec (fun w g => g.alloc _)
  clear hM hb1 hT hT1 hr hk
  unfold headC markC at HM1 HM2
  unfold headC at hwa
  unfold headC
  go_enter Tryd.func4, Tryd.ntmps4
  go_wp2_with (first
    | (rw [← hwa, ← hp]; clear hwa hp; go_wp2_with fail)
    | (go_at_call 12; refine Calls.mono (HM1.out _ (Gr.refl _)) ?_; rintro e w1 ⟨rfl, g1⟩; have hq1 := Blk.new w1 37 #[.int .i64 mw, .string (bs ms)]; have gg1 := HGM.out w1 g1; have d0 : (w1.alloc (.cells #[.int .i64 mw, .string (bs ms)] 37)).cell? ⟨p, 0, none⟩ = some (.int .i64 n) := (HB.out.gr gg1).cell 0; have d1 : (w1.alloc (.cells #[.int .i64 mw, .string (bs ms)] 37)).cell? ⟨p, 1, none⟩ = some (.string (bs r)) := (HB.out.gr gg1).cell 1)
    | (go_at_call 13; refine Calls.mono (HM2.out _ gg1) ?_; rintro e w2 ⟨rfl, g2⟩; have gg2 := HGM.out w2 (gg1.trans g2); have K1 := (hq1.gr g2).alloc (.cells #[.int .i64 mw, .string (bs ms)] 37); have K2 := Blk.new w2 37 #[.int .i64 mw, .string (bs ms)]; have x0 : (w2.alloc (.cells #[.int .i64 mw, .string (bs ms)] 37)).cell? ⟨w1.heap.size, 0, none⟩ = some (.int .i64 mw) := K1.cell 0; have x1 : (w2.alloc (.cells #[.int .i64 mw, .string (bs ms)] 37)).cell? ⟨w1.heap.size, 1, none⟩ = some (.string (bs ms)) := K1.cell 1; have y0 : (w2.alloc (.cells #[.int .i64 mw, .string (bs ms)] 37)).cell? ⟨w2.heap.size, 0, none⟩ = some (.int .i64 mw) := K2.cell 0; have y1 : (w2.alloc (.cells #[.int .i64 mw, .string (bs ms)] 37)).cell? ⟨w2.heap.size, 1, none⟩ = some (.string (bs ms)) := K2.cell 1)
    | (go_at_call 14; refine Calls.mono (HHs.out _ gg2) ?_; rintro e w8 ⟨rfl, g8⟩))
  go_ret
  exact ⟨rfl, hg0.trans (gg2.trans g8)⟩
end Go.Proofs.YtbhpglhmnpcnkaaDoor

namespace Go.Proofs.YtbhpglhmnpcnkaaDoor
open Go.RowKit Go.ChangeShapes Go.WideShapes Go.ChangeAt
set_option linter.unusedVariables false

theorem gTab : Tryd.prog.globalNamed "cartulary/sum.table" = some 0 := by kernel_rfl
theorem gTabType : (Tryd.prog.globals[0]?).map (·.type) = some 139 := by kernel_rfl
theorem cellsTab : Tryd.prog.cellsOf 139 = 64 := by kernel_rfl
theorem cellsU32 : Tryd.prog.cellsOf 98 = 1 := by kernel_rfl
def kInts : List Int := kTab.map fun x => (x.toNat : Int)
theorem table_of {W : World} {rest : List (String × DataW Unit)} (h : laidMet Tryd.prog (("cartulary/sum.table", Rows.laid_cartulary_sum_table) :: rest) W) : TabK W := by
  have ht : Lib.TabIs Tryd.prog W "cartulary/sum.table" .u32 kInts :=
    Lib.tabIs_of_head (rest := rest) gTab gTabType Tryd.underlying139 Tryd.underlying98 cellsU32 cellsTab h
  refine ⟨fun i hi => ?_⟩
  have hl : i < kInts.length := by unfold kInts; rw [List.length_map, kTab_len]; exact hi
  have := ht.cell gTab i hl
  rw [this]
  have : i < kTab.length := by rw [kTab_len]; exact hi
  simp [kInts, kAt, u32V, this]

/-- the numbers of a listed variable, flat -/
def flatW : Nat → DataW Unit → List Value
  | 0, _ => []
  | _ + 1, .lit (.int k z) => [.int k z]
  | n + 1, .agg xs => xs.flatMap (flatW n)
  | _ + 1, _ => []
/-- a heap in which each listed variable holds what its initialiser lays -/
noncomputable def laidHeap (l : List (String × DataW Unit)) (h : Array Obj) : Array Obj :=
  l.foldl (fun h x => match Tryd.prog.globalNamed x.1 with
    | some g => h.modify g fun
      | .cells _ t frozen => .cells (flatW 8 x.2).toArray t frozen
      | o => o
    | none => h) h
/-- a world for a witness: the settled one, the listed variables holding what their initialisers lay -/
noncomputable def laidWorld (l : List (String × DataW Unit)) (os : Os) : World :=
  { World.holding Tryd.prog os ⟨#[], #[], []⟩ with heap := laidHeap l (World.holding Tryd.prog os ⟨#[], #[], []⟩).heap }
end Go.Proofs.YtbhpglhmnpcnkaaDoor

/-
  PkB: contracts and plain laws joined (22 texts). No conditions but those that each states.
-/
import Derived.Test.YtmmpekdbknclcaaDoorEnd
import Derived.Test.YtmmpekdbknclcaaDoorRBlock
import Derived.Deep.RegionHeld3
import Derived.Test.YtmmpekdbknclcaaDoorSumL
import Derived.Test.YtmmpekdbknclcaaDoorPkA
import Derived.StillTailTactics
import Derived.Test.YtmmpekdbknclcaaDoorRowsG
import Derived.ProofKit
import Derived.OpenShut
import Derived.ChangeOld
import Derived.Test.YtmmpekdbknclcaaDoorAgg
import Derived.Deep.RegionWith
import Derived.Laws.MakeOwn
import Derived.Laws.BitsLemmas
import Derived.Deep.RegionLaw
import Derived.Test.YtmmpekdbknclcaaDoorElems
import Derived.Laws.AppendOwnNone
import Derived.Deep.AppendLies
namespace Go.Proofs.YtmmpekdbknclcaaDoor
open Go.RowKit
set_option linter.unusedVariables false
theorem goodB_start : goodB [] 0 = true := by decide
theorem goodB_rest (b : List UInt8) (h : b.length < 1152921504606846976) : goodB (restOf b) (b.length : Int) = true := by
  rw [goodB_iff, restOf_len]
  omega

set_option maxRecDepth 100000 in
set_option maxHeartbeats 1000000 in
theorem sum_any (b : List UInt8) (w : World) (hT : TabK w) (hb : b.length ≤ 576460752303423488) :
    Calls Tryd.prog 37 #[.string (bs b)] w fun e w' => e = .returned (.string (bs (sha b))) ∧ Gr w w' := by
  have HG := sec (goodB_rest b (by omega))
  have HS : Sec (sha b = endOf (overS startS b) (restOf b) b.length) := sec rfl
  have HZ := sec (show (0 : Int) + (b.length : Int) < 1152921504606846976 by omega)
  have HA : Sec (([] : List UInt8) ++ b = b) := sec rfl
  have HN : Sec ((0 : Int) + (b.length : Int) = (b.length : Int)) := sec (by omega)
  obtain ⟨S, hS⟩ : ∃ S, S = overS startS b := ⟨_, rfl⟩
  obtain ⟨R, hR⟩ : ∃ R, R = restOf b := ⟨_, rfl⟩
  rw [← hS, ← hR] at HS
  rw [← hR] at HG
  have HSS := sec hS
  have HRR := sec hR
  clear hS hR
  go_enter Tryd.func37, Tryd.ntmps37
  go_wp2_with (first
    | (refine wpList_store_blk rfl 84 (.tmp 3) (.tmp 11) rfl (g := w2.heap.size) rfl rfl (Blk.new w2 _ _) A.state rfl (stCells_one _ _ _) ?_; intro w3 h3 hg3; have gg3 : Gr w w3 := Gr.only (g2.alloc _) hg3 g2.size; clear hg3)
    | (refine wpList_load_blk rfl 84 (.tmp 3) rfl (g := w2.heap.size) rfl h3 A.state ?_)
    | (go_at_call 53; refine (begin_any _).mono ?_; rintro e w1 ⟨rfl, g1⟩)
    | (go_at_call 52; refine (add_ok startS [] 0 b _ (hT.gr g1) goodB_start hb HZ.out).mono ?_; rw [HA.out, HN.out, ← HSS.out, ← HRR.out]; rintro e w2 ⟨rfl, g2'⟩; have g2 := g1.trans g2'; clear g2' g1)
    | (go_at_call 54; refine (end_ok S R b.length _ (hT.gr gg3) HG.out).mono ?_; rw [← HS.out]; rintro e w4 ⟨rfl, g4⟩))
  go_ret
  exact ⟨rfl, gg3.trans g4⟩
end Go.Proofs.YtmmpekdbknclcaaDoor

namespace Go.Proofs.YtmmpekdbknclcaaDoor
open Go.RowKit
set_option linter.unusedVariables false
set_option maxRecDepth 100000 in
set_option maxHeartbeats 1000000 in
theorem start_any (w : World) : Calls Tryd.prog 61 #[] w fun e w' => e = .returned (.agg (s8V startS)) ∧ Gr w w' := by
  go_enter Tryd.func61, Tryd.ntmps61
  go_wp2
  exact bodyPost_ret (v := .agg (s8V startS)) (by simp [results, Tryd.results61, go_sem]; rfl) rfl ⟨rfl, (Gr.refl w).alloc _⟩

theorem be4_len (x : UInt32) : (be4 x).length = 4 := rfl
/-- three bytes and a half: a row of four bytes just built, as a string -/
theorem conv_four (w : World) (x : UInt32) :
    (convert 60 9 (.slice (some ⟨w.heap.size, 0, none⟩) 4 4)).run Tryd.prog (w.alloc (.cells #[.int .u8 ((x.toNat : Int) / 16777216), .int .u8 ((x.toNat : Int) / 65536 % 256), .int .u8 ((x.toNat : Int) / 256 % 256), .int .u8 ((x.toNat : Int) % 256)] 5)) =
      .ok (.string (bs (be4 x))) (w.alloc (.cells #[.int .u8 ((x.toNat : Int) / 16777216), .int .u8 ((x.toNat : Int) / 65536 % 256), .int .u8 ((x.toNat : Int) / 256 % 256), .int .u8 ((x.toNat : Int) % 256)] 5)) := by
  refine run_conv_at Tryd.underlying60 Tryd.underlying5 Tryd.underlying9 _ _ 0 4 (be4 x) ?_
  intro j u hu
  rw [← be4_cells] at hu
  rw [Nat.zero_add, World.cell?_alloc_mark]
  simpa using hu

set_option maxRecDepth 100000 in
set_option maxHeartbeats 1000000 in
theorem rtext_any (S : S8) (w : World) : Calls Tryd.prog 59 #[.agg (s8V S)] w fun e w' => e = .returned (.string (bs (text8 S))) ∧ Gr w w' := by
  go_enter Tryd.func59, Tryd.ntmps59
  go_wp2_with (refine wpList_load_blk rfl 82 (.tmp 1) rfl (g := w.heap.size) rfl (Blk.new w _ _) A.u8 ?_)
  go_loopw [3, 7, 5] (fun v iv _ wr => ∃ (j : Nat) (l : List UInt8), iv = .int .i64 j ∧ j ≤ 8 ∧ v = .string (bs l) ∧ l.length ≤ 4 * j ∧ Sec (l = (S.list.take j).flatMap be4) ∧ Gr w wr)
    (fun _ iv _ _ => 8 - (intOf iv).toNat)
  case atStart => exact ⟨0, [], rfl, by omega, rfl, by simp, sec rfl, (Gr.refl w).alloc _⟩
  case round =>
    obtain ⟨j, l, rfl, hj, rfl, hll, HL, hg⟩ := hrel
    have hcase : j = 0 ∨ j = 1 ∨ j = 2 ∨ j = 3 ∨ j = 4 ∨ j = 5 ∨ j = 6 ∨ j = 7 ∨ j = 8 := by omega
    clear hj
    unfold s8V
    rcases hcase with rfl | rfl | rfl | rfl | rfl | rfl | rfl | rfl | rfl
    · have i0 := index_s8_0 S
      have hx := S.a.toNat_lt
      have hcv := conv_four wr S.a
      have h63 : ¬ 9223372036854775807 < l.length + (be4 S.a).length := by rw [be4_len]; omega
      go_wp2_with fail
      go_roundw
      case rel => exact ⟨1, l ++ be4 S.a, rfl, by omega, rfl, by rw [List.length_append, be4_len]; omega, sec (by rw [HL.out]; rfl), hg.alloc _⟩
      case measure => simp [intOf]
    · have i0 := index_s8_1 S
      have hx := S.b.toNat_lt
      have hcv := conv_four wr S.b
      have h63 : ¬ 9223372036854775807 < l.length + (be4 S.b).length := by rw [be4_len]; omega
      go_wp2_with fail
      go_roundw
      case rel => exact ⟨2, l ++ be4 S.b, rfl, by omega, rfl, by rw [List.length_append, be4_len]; omega, sec (by rw [HL.out]; rfl), hg.alloc _⟩
      case measure => simp [intOf]
    · have i0 := index_s8_2 S
      have hx := S.c.toNat_lt
      have hcv := conv_four wr S.c
      have h63 : ¬ 9223372036854775807 < l.length + (be4 S.c).length := by rw [be4_len]; omega
      go_wp2_with fail
      go_roundw
      case rel => exact ⟨3, l ++ be4 S.c, rfl, by omega, rfl, by rw [List.length_append, be4_len]; omega, sec (by rw [HL.out]; rfl), hg.alloc _⟩
      case measure => simp [intOf]
    · have i0 := index_s8_3 S
      have hx := S.d.toNat_lt
      have hcv := conv_four wr S.d
      have h63 : ¬ 9223372036854775807 < l.length + (be4 S.d).length := by rw [be4_len]; omega
      go_wp2_with fail
      go_roundw
      case rel => exact ⟨4, l ++ be4 S.d, rfl, by omega, rfl, by rw [List.length_append, be4_len]; omega, sec (by rw [HL.out]; rfl), hg.alloc _⟩
      case measure => simp [intOf]
    · have i0 := index_s8_4 S
      have hx := S.e.toNat_lt
      have hcv := conv_four wr S.e
      have h63 : ¬ 9223372036854775807 < l.length + (be4 S.e).length := by rw [be4_len]; omega
      go_wp2_with fail
      go_roundw
      case rel => exact ⟨5, l ++ be4 S.e, rfl, by omega, rfl, by rw [List.length_append, be4_len]; omega, sec (by rw [HL.out]; rfl), hg.alloc _⟩
      case measure => simp [intOf]
    · have i0 := index_s8_5 S
      have hx := S.f.toNat_lt
      have hcv := conv_four wr S.f
      have h63 : ¬ 9223372036854775807 < l.length + (be4 S.f).length := by rw [be4_len]; omega
      go_wp2_with fail
      go_roundw
      case rel => exact ⟨6, l ++ be4 S.f, rfl, by omega, rfl, by rw [List.length_append, be4_len]; omega, sec (by rw [HL.out]; rfl), hg.alloc _⟩
      case measure => simp [intOf]
    · have i0 := index_s8_6 S
      have hx := S.g.toNat_lt
      have hcv := conv_four wr S.g
      have h63 : ¬ 9223372036854775807 < l.length + (be4 S.g).length := by rw [be4_len]; omega
      go_wp2_with fail
      go_roundw
      case rel => exact ⟨7, l ++ be4 S.g, rfl, by omega, rfl, by rw [List.length_append, be4_len]; omega, sec (by rw [HL.out]; rfl), hg.alloc _⟩
      case measure => simp [intOf]
    · have i0 := index_s8_7 S
      have hx := S.h.toNat_lt
      have hcv := conv_four wr S.h
      have h63 : ¬ 9223372036854775807 < l.length + (be4 S.h).length := by rw [be4_len]; omega
      go_wp2_with fail
      go_roundw
      case rel => exact ⟨8, l ++ be4 S.h, rfl, by omega, rfl, by rw [List.length_append, be4_len]; omega, sec (by rw [HL.out]; rfl), hg.alloc _⟩
      case measure => simp [intOf]
    · go_wp2_with fail
      go_ret
      exact ⟨by rw [HL.out]; rfl, hg⟩

set_option maxRecDepth 100000 in
set_option maxHeartbeats 1000000 in
theorem over_any (s : S8) (b : List UInt8) (w : World) (hb : b.length < 4611686018427387904) (hm : b.length % 64 = 0) :
    Calls Tryd.prog 60 #[.agg (s8V s), .string (bs b)] w fun e w' => e = .returned (.agg (s8V (overS s b))) ∧ Gr w w' := by
  have HM := sec hm
  clear hm
  have hz : Blk ((w.alloc (.cells (s8V s) 82)).alloc (.cells zero8 82)) (w.heap.size + 1) 82 zero8 := Blk.new1 w _ _ _
  have hx : Blk ((w.alloc (.cells (s8V s) 82)).alloc (.cells zero8 82)) w.heap.size 82 (s8V s) := (Blk.new w _ _).alloc _
  have HZ := sec hz
  have HX := sec hx
  clear hz hx
  go_enter Tryd.func60, Tryd.ntmps60
  go_wp2_with fail
  go_loopw [5] (fun v wr => ∃ (i : Nat) (S : S8), v = .int .i64 (64 * (i : Int)) ∧ 64 * i ≤ b.length ∧ Sec (overS S (b.drop (64 * i)) = overS s b) ∧ Blk wr w.heap.size 82 (s8V S) ∧ Blk wr (w.heap.size + 1) 82 zero8 ∧ Gr w wr)
    (fun v _ => b.length - (intOf v).toNat)
  case atStart => exact ⟨0, s, rfl, by omega, sec (by rw [Nat.mul_zero, List.drop_zero]), HX.out, HZ.out, ((Gr.refl w).alloc _).alloc _⟩
  case round =>
    obtain ⟨i, S, rfl, hi, HO, hS, hZ, hg⟩ := hrel
    by_cases hlt : 64 * i < b.length
    · have hlt' : 64 * i + 64 ≤ b.length := by have := HM.out; omega
      have q64 : IntKind.i64.wrap (64 * (i : Int) + 64) = 64 * (i : Int) + 64 := IntWalk.i64_in _ (by omega)
      have hli : 64 * (i : Int) < (b.length : Int) := by omega
      have hl2 : 64 * (i : Int) + 64 ≤ (b.length : Int) := by omega
      have hi0 : (0 : Int) ≤ 64 * (i : Int) := by omega
      have hi1 : (0 : Int) ≤ 64 * (i : Int) + 64 := by omega
      have hi2 : 64 * (i : Int) ≤ 64 * (i : Int) + 64 := by omega
      have ht1 : (64 * (i : Int)).toNat = 64 * i := by omega
      have ht2 : (64 * (i : Int) + 64).toNat = 64 * i + 64 := by omega
      go_wp2_with fail
      refine region_still_tail_w 6 (by kernel_rfl) (by kernel_rfl) ?_
      simp only [List.take_succ_cons, List.take_zero, List.drop_succ_cons, List.drop_zero]
      intro wd hwd
      have D2 : Blk wd w.heap.size 82 (s8V S) := by subst hwd; exact hS.drew
      have D4 : Blk wd (w.heap.size + 1) 82 zero8 := by subst hwd; exact hZ.drew
      have Dg : Gr w wd := by subst hwd; exact hg.drew
      clear hwd hS hZ hg
      have c0 : wd.cell? ⟨w.heap.size, 0, none⟩ = some (.int .u32 (S.a.toNat : Int)) := D2.cell 0
      have c1 : wd.cell? ⟨w.heap.size, 1, none⟩ = some (.int .u32 (S.b.toNat : Int)) := D2.cell 1
      have c2 : wd.cell? ⟨w.heap.size, 2, none⟩ = some (.int .u32 (S.c.toNat : Int)) := D2.cell 2
      have c3 : wd.cell? ⟨w.heap.size, 3, none⟩ = some (.int .u32 (S.d.toNat : Int)) := D2.cell 3
      have c4 : wd.cell? ⟨w.heap.size, 4, none⟩ = some (.int .u32 (S.e.toNat : Int)) := D2.cell 4
      have c5 : wd.cell? ⟨w.heap.size, 5, none⟩ = some (.int .u32 (S.f.toNat : Int)) := D2.cell 5
      have c6 : wd.cell? ⟨w.heap.size, 6, none⟩ = some (.int .u32 (S.g.toNat : Int)) := D2.cell 6
      have c7 : wd.cell? ⟨w.heap.size, 7, none⟩ = some (.int .u32 (S.h.toNat : Int)) := D2.cell 7
      repeat still_step
      refine wpStill_nil ?_
      clear c0 c1 c2 c3 c4 c5 c6 c7
      have hsub : sub b (64 * i) (64 * i + 64) = (b.drop (64 * i)).take 64 := by unfold sub; congr 1; omega
      have hsl : (sub b (64 * i) (64 * i + 64)).length = 64 := by rw [sub_len _ _ _ hlt']; omega
      obtain ⟨B, hB⟩ : ∃ B, B = sub b (64 * i) (64 * i + 64) := ⟨_, rfl⟩
      rw [← hB] at hsub hsl ⊢
      obtain ⟨R, hR⟩ : ∃ R, R = blockS S B := ⟨_, rfl⟩
      have HO2 : Sec (overS R (b.drop (64 * (i + 1))) = overS s b) := sec (by
        rw [← HO.out, overS_hi (b := b.drop (64 * i)) (by rw [List.length_drop]; omega), ← hsub, ← hR, List.drop_drop, Nat.mul_add])
      have HSL := sec hsl
      clear hB hsub hsl
      go_wp2_with (first
        | (refine wpList_store_blk rfl 82 (.tmp 2) (.tmp 18) rfl (g := w.heap.size) rfl rfl E2 A.u8 rfl (s8V_one R) ?_; intro w4 h4 hg4)
        | (go_at_call 71; refine (rblock_any S B _ HSL.out).mono ?_; rw [← hR]; rintro e w3 ⟨rfl, g3⟩; clear hR; have E2 := D2.gr g3; have E4 := D4.gr g3; have Eg := Dg.trans g3; clear g3))
      go_roundw
      case rel => exact ⟨i + 1, R, by go_num, by omega, HO2, h4, E4.only hg4 (by omega), Eg.only hg4 (Nat.le_refl _)⟩
      case measure => simp [intOf]; omega
    · have hnl : b.drop (64 * i) = [] := List.drop_eq_nil_of_le (by omega)
      have HE : Sec (S = overS s b) := sec (by rw [← HO.out, hnl, overS_lo (by simp)])
      have hli : ¬ 64 * (i : Int) < (b.length : Int) := by omega
      clear hnl HO
      go_wp2_with (first
        | (refine wpList_load_blk rfl 82 (.tmp 2) rfl (g := w.heap.size) rfl hS A.u8 ?_)
        | (refine wpList_store_blk rfl 82 (.tmp 4) (.tmp 19) rfl (g := w.heap.size + 1) rfl rfl hZ A.u8 rfl (s8V_one S) ?_; intro w4 h4 hg4))
      refine bodyPost_ret (results_blk rfl _ rfl h4 A.u8) rfl ?_
      rw [HE.out]
      exact ⟨rfl, hg.only hg4 (by omega)⟩
end Go.Proofs.YtmmpekdbknclcaaDoor

namespace Go.Proofs.YtmmpekdbknclcaaDoor
open Go.RowKit
set_option linter.unusedVariables false
/-- the eight bytes while they are filled, from behind -/
def pByte (m e : Nat) : Value := .int .u8 ((8 * m / 256 ^ e % 256 : Nat) : Int)
def pArr (m j : Nat) : Array Value := ((List.range 8).map fun i => if 8 - j ≤ i then pByte m (7 - i) else .int .u8 0).toArray
theorem pArr_size (m j : Nat) : (pArr m j).size = 8 := by unfold pArr; simp
theorem pArr_zero (m : Nat) : pArr m 0 = #[.int .u8 0, .int .u8 0, .int .u8 0, .int .u8 0, .int .u8 0, .int .u8 0, .int .u8 0, .int .u8 0] := by kernel_rfl
theorem pArr_set (m j : Nat) (hj : j < 8) : (pArr m j).setIfInBounds (7 - j) (pByte m j) = pArr m (j + 1) := by
  unfold pArr
  rw [List.setIfInBounds_toArray]
  congr 1
  apply List.ext_getElem
  · simp
  · intro i h1 h2
    rw [List.getElem_set]
    simp only [List.getElem_map, List.getElem_range, List.length_set, List.length_map, List.length_range] at h1 ⊢
    by_cases e : 7 - j = i
    · subst e
      rw [if_pos rfl, if_pos (by omega), show 7 - (7 - j) = j by omega]
    · rw [if_neg e]
      by_cases h : 8 - j ≤ i
      · rw [if_pos h, if_pos (by omega)]
      · rw [if_neg h, if_neg (by omega)]
theorem pArr_full (m : Nat) : (pArr m 8).toList = (be8 (8 * m)).map byteV := by
  simp [pArr, List.range_succ, be8, byteV, pByte]

set_option maxRecDepth 100000 in
set_option maxHeartbeats 2000000 in
theorem padded_any (r : List UInt8) (m : Nat) (w : World) (hr : r.length < 1152921504606846976) (hm : m < 1152921504606846976) :
    Calls Tryd.prog 62 #[.string (bs r), .int .i64 m] w fun e w' => e = .returned (.string (bs (padTo r m))) ∧ Gr w w' := by
  have hr1 : ¬ 9223372036854775807 < r.length + 1 := by omega
  have hz := Blk.new w 101 (pArr m 0)
  rw [pArr_zero] at hz
  have HZ := sec hz
  clear hz
  go_enter Tryd.func62, Tryd.ntmps62
  go_wp2_with fail
  go_loop [5] (fun v => ∃ (i : Nat) (l : List UInt8), v = .string (bs l) ∧ i ≤ zerosFor r.length ∧ Sec (l = r ++ [128] ++ List.replicate i 0))
    (fun v => 1152921504606847200 - lenOf v)
  case atStart => exact ⟨0, r ++ [128], rfl, Nat.zero_le _, sec (by simp)⟩
  case round =>
    obtain ⟨i, l, rfl, hi, HL⟩ := hrel
    have hz : zerosFor r.length = (119 - r.length % 64) % 64 := rfl
    have hll : l.length = r.length + 1 + i := by rw [HL.out]; simp; omega
    by_cases hlt : i < zerosFor r.length
    · have t1 : ((l.length : Int) % 64 == 56) = false := by rw [beq_eq_false_iff_ne]; omega
      have t2 : ((l.length : Int) % 64 != 56) = true := by rw [bne_iff_ne]; omega
      have hl200 : l.length < 1152921504606847190 := by omega
      have h63 : ¬ 9223372036854775807 < l.length + 1 := by omega
      have HI := sec hlt
      clear hz hll hlt hi
      go_wp2_with fail
      go_round
      case rel =>
        exact ⟨i + 1, l ++ [0], rfl, HI.out, sec (by rw [HL.out, List.append_assoc, ← List.replicate_succ'])⟩
      case measure => simp [lenOf, bs_size]; omega
    · obtain rfl : i = zerosFor r.length := by omega
      have t1 : ((l.length : Int) % 64 == 56) = true := by rw [beq_iff_eq]; omega
      have t2 : ((l.length : Int) % 64 != 56) = false := by rw [bne_eq_false_iff_eq]; omega
      have hl63 : ¬ 9223372036854775807 < l.length + 8 := by omega
      clear hz hll hlt hi
      have hm8 : (m : Int) * 8 < 18446744073709551616 := by omega
      go_wp2_with fail
      clear t1 t2
      have hl8 : m * 8 = 8 * m / 256 ^ 0 := by omega
      have HN0 : Sec (m * 8 = 8 * m / 256 ^ 0) := sec hl8
      clear hl8
      go_loopw [7, 8] (fun v k wr => ∃ (j N : Nat) (K : Int), v = .int .u64 (N : Int) ∧ k = .int .i64 K ∧ Sec (K = 7 - (j : Int)) ∧ j ≤ 8 ∧ Sec (N = 8 * m / 256 ^ j) ∧ N < 18446744073709551616 ∧ Blk wr w.heap.size 101 (pArr m j) ∧ Gr w wr)
        (fun _ k _ => (intOf k + 1).toNat)
      case atStart => exact ⟨0, m * 8, 7, by simp, rfl, sec (by omega), by omega, HN0, by omega, by rw [pArr_zero]; exact HZ.out, (Gr.refl w).alloc _⟩
      case round =>
        obtain ⟨j, N, K, rfl, rfl, HK, hj, HN, hN, hB, hg⟩ := hrel
        by_cases hlt : j < 8
        · have hK0 : 0 ≤ K := by have := HK.out; omega
          have hK8 : K < 8 := by have := HK.out; omega
          have hKt : K.toNat = 7 - j := by have := HK.out; omega
          have hc : ∃ v, wr.cell? ⟨w.heap.size, 7 - j, none⟩ = some v := ⟨_, (hB.cell _).trans (Array.getElem?_eq_getElem (by rw [pArr_size]; omega))⟩
          obtain ⟨v, hc⟩ := hc
          have hf := hB.frozen (7 - j)
          have HD : Sec (N / 256 = 8 * m / 256 ^ (j + 1)) := sec (by rw [HN.out, Nat.div_div_eq_div_mul, Nat.pow_succ])
          have HP : Sec (pByte m j = .int .u8 ((N : Int) % 256)) := sec (by unfold pByte; rw [← HN.out]; simp)
          go_wp2_with fail
          go_roundw
          case rel => exact ⟨j + 1, N / 256, K - 1, by simp, rfl, sec (by have := HK.out; omega), by omega, HD, by omega, by rw [← pArr_set m j hlt, HP.out]; exact hB.set_ _ _, hg.setCell (Nat.le_refl _) _⟩
          case measure => simp [intOf]; omega
        · obtain rfl : j = 8 := by omega
          obtain rfl : K = -1 := by have := HK.out; omega
          have hcv : (convert 60 9 (.slice (some ⟨w.heap.size, 0, none⟩) 8 8)).run Tryd.prog wr = .ok (.string (bs (be8 (8 * m)))) wr :=
            run_conv_at Tryd.underlying60 Tryd.underlying5 Tryd.underlying9 wr w.heap.size 0 8 (be8 (8 * m)) (fun j u hu => by
              rw [Nat.zero_add, hB.cell, ← pArr_full] at *
              simpa using hu)
          have hl63' : ¬ 9223372036854775807 < l.length + (be8 (8 * m)).length := by rw [be8_len]; exact hl63
          go_wp2_with fail
          go_ret
          exact ⟨by rw [HL.out]; rfl, hg⟩
end Go.Proofs.YtmmpekdbknclcaaDoor

namespace Go.Proofs.YtmmpekdbknclcaaDoor
open Go.RowKit
set_option linter.unusedVariables false
set_option maxRecDepth 100000 in
set_option maxHeartbeats 4000000 in
theorem rsum_any (b : List UInt8) (w : World) (hb : b.length ≤ 576460752303423488) :
    Calls Tryd.prog 48 #[.string (bs b)] w fun e w' => e = .returned (.string (bs (sha b))) ∧ Gr w w' := by
  have e1 : ((b.length : Int) - (b.length : Int) % 64) = ((b.length / 64 * 64 : Nat) : Int) := by omega
  obtain ⟨k, hk⟩ : ∃ k, k = b.length / 64 * 64 := ⟨_, rfl⟩
  rw [← hk] at e1
  have hk1 : k ≤ b.length := by omega
  have hk2 : (k : Int) ≤ (b.length : Int) := by omega
  have hk3 : k % 64 = 0 := by omega
  have HD : Sec (b.drop k = restOf b) := sec (by rw [hk]; rfl)
  have HT : Sec (overS startS (b.take k) = overS startS b) := sec (by rw [hk]; exact overS_take _ _ _ rfl)
  have hl : (b.take k).length = k := by rw [List.length_take]; omega
  have HL := sec hl
  have H3 := sec hk3
  have hrl : (restOf b).length < 1152921504606846976 := by rw [restOf_len]; omega
  have HRL := sec hrl
  have hbl : b.length < 1152921504606846976 := by omega
  clear hk hl hk3 hrl
  have HP : Sec ((padTo (restOf b) b.length).length % 64 = 0) := sec (padTo_mod _ _)
  have HQ : Sec ((padTo (restOf b) b.length).length < 4611686018427387904) := sec (by rw [padTo_len, restOf_len]; unfold zerosFor; omega)
  have HS : Sec (sha b = text8 (overS (overS startS b) (padTo (restOf b) b.length))) := sec rfl
  have HM : Sec (k < 4611686018427387904) := sec (by omega)
  obtain ⟨R, hR⟩ : ∃ R, R = restOf b := ⟨_, rfl⟩
  rw [← hR] at HD HRL HP HQ HS
  obtain ⟨S, hS⟩ : ∃ S, S = overS startS b := ⟨_, rfl⟩
  rw [← hS] at HT HS
  clear hR hS
  go_enter Tryd.func48, Tryd.ntmps48
  go_wp2_with fail
  go_region_held3 (fun w' => Gr w w') (first | assumption | exact (Gr.refl _).drew | exact Gr.refl _)
    (first
      | (go_at_call 61; refine (start_any _).mono ?_; rintro e w1 ⟨rfl, g1⟩; have gg1 : Gr w w1 := Gr.trans (by assumption) g1)
      | (go_at_call 62; rw [HD.out]; refine (padded_any R b.length _ HRL.out hbl).mono ?_; rintro e w3 ⟨rfl, g3⟩; have gg3 : Gr w w3 := Gr.trans (by assumption) g3)
      | (go_at_call 59; refine (rtext_any _ _).mono ?_; rintro e w5 ⟨rfl, g5⟩; have gg5 : Gr w w5 := Gr.trans (by assumption) g5)
      | (go_at_call 60; with_reducible refine Calls.mono (over_any startS (b.take k) _ (by rw [HL.out]; exact HM.out) (by rw [HL.out]; exact H3.out)) ?_; rw [HT.out]; rintro e w2 ⟨rfl, g2⟩; have gg2 : Gr w w2 := Gr.trans (by assumption) g2)
      | (go_at_call 60; refine (over_any S (padTo R b.length) _ HQ.out HP.out).mono ?_; rintro e w4 ⟨rfl, g4⟩; have gg4 : Gr w w4 := Gr.trans (by assumption) g4))
  go_wp2_with fail
  go_ret
  exact ⟨by rw [HS.out]; rfl, gg5⟩
end Go.Proofs.YtmmpekdbknclcaaDoor

namespace Go.Proofs.YtmmpekdbknclcaaDoor
def leafH (s : List UInt8) : List UInt8 := sha ([0] ++ s)
def nodeH (a b : List UInt8) : List UInt8 := sha ([1] ++ a ++ b)
/-! ### the greatest power of two below a number -/
def halfN (n : Nat) : Nat := 2 ^ Nat.log2 (n - 1)
theorem halfN_spec {n : Nat} (hn : 1 < n) : ∃ h, halfN n = 2 ^ h ∧ 2 ^ h < n ∧ n ≤ 2 ^ (h + 1) := by
  have h0 : n - 1 ≠ 0 := by omega
  have := (Nat.log2_eq_iff (n := n - 1) (k := Nat.log2 (n - 1)) h0).1 rfl
  exact ⟨Nat.log2 (n - 1), rfl, by omega, by omega⟩
theorem halfN_pos (n : Nat) : 0 < halfN n := Nat.two_pow_pos _
theorem halfN_lt {n : Nat} (hn : 1 < n) : halfN n < n := by
  obtain ⟨h, e, h1, _⟩ := halfN_spec hn
  rw [e]; exact h1

/-! ### roots -/
def rootL (l : List (List UInt8)) : List UInt8 :=
  if _h0 : l.length = 0 then sha []
  else if _h1 : l.length = 1 then leafH (l.getD 0 [])
  else nodeH (rootL (l.take (halfN l.length))) (rootL (l.drop (halfN l.length)))
termination_by l.length
decreasing_by
  · rw [List.length_take]; have := halfN_lt (n := l.length) (by omega); omega
  · rw [List.length_drop]; have := halfN_pos l.length; omega
theorem rootL_len (l : List (List UInt8)) : (rootL l).length = 32 := by
  rw [rootL]
  split
  · rfl
  · split <;> rfl

/-! ### a path from above: the last sum first -/
/-! ### a path from below -/
end Go.Proofs.YtmmpekdbknclcaaDoor

namespace Go.Proofs.YtmmpekdbknclcaaDoor
open Go.RowKit
set_option linter.unusedVariables false
def Short (ss : List (List UInt8)) : Prop := ∀ s ∈ ss, s.length ≤ 1099511627776
theorem Short.take {ss : List (List UInt8)} (h : Short ss) (k : Nat) : Short (ss.take k) := fun s hs => h s (List.mem_of_mem_take hs)
theorem Short.drop {ss : List (List UInt8)} (h : Short ss) (k : Nat) : Short (ss.drop k) := fun s hs => h s (List.mem_of_mem_drop hs)
theorem StrRow.take {w : World} {A : Option Addr} {n : Nat} {ss : List (List UInt8)} (h : StrRow w A n ss) (k : Nat) (hk : k ≤ n) : StrRow w A k (ss.take k) := by
  refine ⟨?_, fun hk0 => ?_⟩
  · have := h.len; simp; omega
  · obtain ⟨b, off, e, hc⟩ := Row.at_ h (by omega)
    refine ⟨b, off, e, fun i v hv => hc i v ?_⟩
    rw [List.map_take] at hv
    obtain ⟨hl, hg⟩ := List.getElem?_eq_some_iff.1 hv
    rw [List.getElem_take] at hg
    rw [List.length_take] at hl
    exact List.getElem?_eq_some_iff.2 ⟨by omega, hg⟩
theorem StrRow.drop {w : World} {b off n : Nat} {ss : List (List UInt8)} (h : StrRow w (some ⟨b, off, none⟩) n ss) (k : Nat) (hk : k ≤ n) : StrRow w (some ⟨b, off + k, none⟩) (n - k) (ss.drop k) := by
  refine ⟨?_, fun hk0 => ?_⟩
  · have := h.len; simp; omega
  · obtain ⟨b', off', e, hc⟩ := Row.at_ h (by omega)
    injection e with e
    injection e with e1 e2 _
    subst e1 e2
    refine ⟨b, off + k, rfl, fun i v hv => ?_⟩
    rw [List.map_drop, List.getElem?_drop] at hv
    rw [Nat.add_assoc]
    exact hc _ v hv

end Go.Proofs.YtmmpekdbknclcaaDoor

namespace Go.Proofs.YtmmpekdbknclcaaDoor
open Go.RowKit
set_option linter.unusedVariables false
theorem own_low {w : World} {B B' e size n : Nat} {v : Value} {xs : List Value} (h : w.ownsRow B e size v n xs) (hle : B' ≤ B) : w.ownsRow B' e size v n xs := by
  refine ⟨h.1, ?_⟩
  rcases h.2 with h0 | ⟨g, cap, cur, hv, hB, r⟩
  · exact .inl h0
  · exact .inr ⟨g, cap, cur, hv, Nat.le_trans hle hB, r⟩
theorem own_set {w : World} {B e size n cap g : Nat} {xs : List Value} (h : w.ownsRow B e size (.slice (some ⟨g, 0, none⟩) n cap) n xs) (j : Nat) (hj : j < xs.length) (u : Value) :
    (w.setCell ⟨g, j, none⟩ u).ownsRow B e size (.slice (some ⟨g, 0, none⟩) n cap) n (xs.set j u) := by
  have hl := h.1
  refine ⟨by rw [List.length_set]; exact hl, ?_⟩
  rcases h.2 with ⟨h0, _⟩ | ⟨g', cap', cur, hv, hB, hh, hle, hm, hs, ht⟩
  · cases h0
  · injection hv with hv hv2 hv3
    injection hv with hv
    injection hv with hv _ _
    subst hv hv3
    refine .inr ⟨g, cap, cur.setIfInBounds j u, rfl, hB, ?_, hle, hm, by rw [Array.size_setIfInBounds]; exact hs, ?_⟩
    · have : Blk w g e cur := hh
      exact this.set_ j u
    · rw [Array.toList_setIfInBounds, List.take_set, ht]
end Go.Proofs.YtmmpekdbknclcaaDoor

namespace Go.Proofs.YtmmpekdbknclcaaDoor
open Go.RowKit
set_option linter.unusedVariables false
theorem Row.lit {w : World} {g : Nat} {t : TypeId} {cs : Array Value} (h : Blk w g t cs) : Row w cs.size (some ⟨g, 0, none⟩) 1 cs.toList :=
  ⟨by simp, fun _ => ⟨g, 0, rfl, fun i v hv => by rw [Nat.zero_add, h.cell]; simpa using hv⟩⟩
end Go.Proofs.YtmmpekdbknclcaaDoor

namespace Go.Proofs.YtmmpekdbknclcaaDoor
set_option maxRecDepth 100000
open Go.RowKit Go.ChangeShapes Go.WideShapes
/-- a value of type t, k cells, reads as some a (R), of size sz a at most its bulk -/
structure Opens (w : World) (t : TypeId) (k : Nat) {α : Type} (R : List Value → α → Prop) (sz : α → Nat) : Prop where
  cells : Tryd.prog.cellsOf t = k
  open_ : ∀ {H : Type} (enc : TypeId × Value → H) (fuel : Nat) (cs : List Value) (x : DataW H × List MemPlace),
    DataW.trod enc Tryd.prog w 0 (fun _ => true) true fuel t cs = some x → cs.length = k ∧ ∃ a, R cs a ∧ sz a ≤ Rows.uptoBulk x.1

def intR (cs : List Value) (n : Int) : Prop := cs = [.int .i64 n] ∧ -9223372036854775808 ≤ n ∧ n ≤ 9223372036854775807
def strR (cs : List Value) (l : List UInt8) : Prop := cs = [.string (bs l)]
theorem opens_int {t : TypeId} (ht : Tryd.prog.underlying t = some (.int .i64)) (hc : Tryd.prog.cellsOf t = 1) (w : World) : Opens w t 1 intR (fun _ => 1) :=
  ⟨hc, fun enc fuel cs x h => by
    obtain ⟨n, rfl, rfl, hw⟩ := DataW.trod_int ht h
    exact ⟨rfl, n, ⟨rfl, by simpa [Lit.wf, IntKind.min, IntKind.max, IntKind.signed, IntKind.bits] using hw⟩, by simp [Rows.uptoBulk]⟩⟩
theorem opens_string {t : TypeId} (ht : Tryd.prog.underlying t = some .string) (hc : Tryd.prog.cellsOf t = 1) (w : World) : Opens w t 1 strR (fun l => l.length + 1) :=
  ⟨hc, fun enc fuel cs x h => by
    obtain ⟨s, rfl, rfl, _⟩ := DataW.trod_string ht h
    obtain ⟨l, rfl⟩ := bs_of s
    exact ⟨rfl, l, rfl, by simp [Rows.uptoBulk, bs_data]⟩⟩
/-- the reading by other words -/
theorem Opens.map {w : World} {t : TypeId} {k : Nat} {α β : Type} {R : List Value → α → Prop} {sz : α → Nat} (h : Opens w t k R sz) {R' : List Value → β → Prop} {sz' : β → Nat} (f : α → β) (hR : ∀ cs a, R cs a → R' cs (f a)) (hs : ∀ a, sz' (f a) ≤ sz a) : Opens w t k R' sz' :=
  ⟨h.cells, fun enc fuel cs x hx => by
    obtain ⟨hl, a, ha, hb⟩ := h.open_ enc fuel cs x hx
    exact ⟨hl, f a, hR _ _ ha, Nat.le_trans (hs a) hb⟩⟩

/-! ### structs -/
structure OpensF (w : World) (fl : List Field) (off k : Nat) {β : Type} (R : List Value → β → Prop) (sz : β → Nat) : Prop where
  open_ : ∀ {H : Type} (enc : TypeId × Value → H) (n : Nat) (cs : List Value) (ys : List (DataW H × List MemPlace)), ys.length = fl.length →
    (∀ (i : Nat) (f : Field), fl[i]? = some f → DataW.trod enc Tryd.prog w 0 (fun _ => true) true n f.type ((cs.drop f.offset).take (Tryd.prog.cellsOf f.type)) = ys[i]?) →
    cs.length = off + k → ∃ b, R (cs.drop off) b ∧ sz b ≤ Rows.uptoBulkAll (ys.map (·.1))
def nilR (cs : List Value) (_ : Unit) : Prop := cs = []
def consR {α β : Type} (k : Nat) (R : List Value → α → Prop) (R' : List Value → β → Prop) (cs : List Value) (a : α × β) : Prop := ∃ c1 c2, cs = c1 ++ c2 ∧ c1.length = k ∧ R c1 a.1 ∧ R' c2 a.2
theorem opensF_nil (w : World) (off : Nat) : OpensF w [] off 0 nilR (fun _ => 0) :=
  ⟨fun enc n cs ys _ _ hl => ⟨(), List.drop_eq_nil_of_le (by omega), by simp⟩⟩
theorem opensF_cons {w : World} {f : Field} {fl : List Field} {off k k' : Nat} {α β : Type} {R : List Value → α → Prop} {sz : α → Nat} {R' : List Value → β → Prop} {sz' : β → Nat}
    (hf : f.offset = off) (h : Opens w f.type k R sz) (h' : OpensF w fl (off + k) k' R' sz') : OpensF w (f :: fl) off (k + k') (consR k R R') (fun a => sz a.1 + sz' a.2) :=
  ⟨fun enc n cs ys hy hat hl => by
    cases ys with
    | nil => simp at hy
    | cons y ys =>
      have h0 := hat 0 f rfl
      rw [hf, h.cells] at h0
      obtain ⟨hk, a, ha, hb⟩ := h.open_ enc n _ y h0
      obtain ⟨b, hb1, hb2⟩ := h'.open_ enc n cs ys (by simpa using hy) (fun i g hg => hat (i + 1) g (by simpa using hg)) (by omega)
      refine ⟨(a, b), ⟨(cs.drop off).take k, cs.drop (off + k), ?_, hk, ha, hb1⟩, ?_⟩
      · rw [← List.drop_drop]; exact (List.take_append_drop k _).symm
      · simp only [List.map_cons, Rows.uptoBulkAll]; omega⟩
theorem opens_struct {w : World} {t : TypeId} {fs : Array Field} {k : Nat} {β : Type} {R : List Value → β → Prop} {sz : β → Nat} (ht : Tryd.prog.underlying t = some (.struct fs)) (hc : Tryd.prog.cellsOf t = k) (h : OpensF w fs.toList 0 k R sz) : Opens w t k R (fun b => sz b + 1) :=
  ⟨hc, fun enc fuel cs x hx => by
    obtain ⟨xs, n, _, rfl, hl, hxl, hf⟩ := DataW.trod_struct ht hx
    obtain ⟨b, hb, hs⟩ := h.open_ enc n cs xs (by simpa using hxl) (fun i f hi => hf i f (by simpa using hi)) (by rw [hl, hc]; omega)
    exact ⟨hl.trans hc, b, by simpa using hb, by simp only [Rows.uptoBulk]; omega⟩⟩

/-! ### slices -/
def sliceR {α : Type} (w : World) (k : Nat) (R : List Value → α → Prop) (cs : List Value) (xs : List α) : Prop :=
  ∃ A c, cs = [.slice A xs.length c] ∧ xs.length ≤ c ∧ (c ≤ maxLen ∧ (A = none → c = 0)) ∧ (0 < xs.length → ∃ b off, A = some ⟨b, off, none⟩ ∧ ∀ i (h : i < xs.length), ∃ ci, R ci xs[i] ∧ ci.length = k ∧ ∀ j v, ci[j]? = some v → w.cell? ⟨b, off + i * k + j, none⟩ = some v)
def szs {α : Type} (sz : α → Nat) : List α → Nat
  | [] => 0
  | x :: r => sz x + szs sz r

theorem build_list {α : Type} (p : Nat → α → Prop) : ∀ n, (∀ i, i < n → ∃ a, p i a) → ∃ xs : List α, xs.length = n ∧ ∀ i (h : i < xs.length), p i xs[i]
  | 0, _ => ⟨[], rfl, fun i h => absurd h (by simp)⟩
  | n + 1, h => by
    obtain ⟨xs, hl, hx⟩ := build_list p n (fun i hi => h i (by omega))
    obtain ⟨a, ha⟩ := h n (by omega)
    refine ⟨xs ++ [a], by simp [hl], fun i hi => ?_⟩
    by_cases e : i < xs.length
    · rw [List.getElem_append_left e]; exact hx i e
    · have : i = n := by simp at hi; omega
      subst this
      rw [List.getElem_append_right (by omega)]
      simpa [hl] using ha
theorem szs_le {H α : Type} (sz : α → Nat) : ∀ (xs : List α) (ds : List (DataW H)), xs.length = ds.length → (∀ i (h : i < xs.length) (h' : i < ds.length), sz xs[i] ≤ Rows.uptoBulk ds[i]) → szs sz xs ≤ Rows.uptoBulkAll ds
  | [], [], _, _ => by simp [szs]
  | x :: xs, d :: ds, hl, h => by
    have h0 := h 0 (by simp) (by simp)
    have := szs_le sz xs ds (by simpa using hl) (fun i hi hi' => h (i + 1) (by simp; omega) (by simp; omega))
    simp only [szs, Rows.uptoBulkAll]
    simp at h0
    omega
  | [], _ :: _, hl, _ => by simp at hl
  | _ :: _, [], hl, _ => by simp at hl

theorem add_of_add (a : Addr) (i j : Nat) : (a.add i).add j = a.add (i + j) := by
  unfold Addr.add
  by_cases hi : i = 0 <;> by_cases hj : j = 0 <;> simp [hi, hj, Nat.add_assoc]
theorem add_spot {b off i : Nat} : (⟨b, off, none⟩ : Addr).add i = ⟨b, off + i, none⟩ := by unfold Addr.add; split <;> simp_all

theorem opens_slice {w : World} {t e : TypeId} {k : Nat} {α : Type} {R : List Value → α → Prop} {sz : α → Nat} (ht : Tryd.prog.underlying t = some (.slice e)) (hc : Tryd.prog.cellsOf t = 1) (h : Opens w e k R sz) (hk : 0 < k) :
    Opens w t 1 (sliceR w k R) (fun xs => szs sz xs + 1) :=
  ⟨hc, fun {H} enc fuel cs x hx => by
    rcases DataW.trod_slice ht hx with ⟨rfl, rfl⟩ | ⟨a, len, cap, elems, rest, n, _, rfl, rfl, _, hlc, hcm, hlen, hel, _, _⟩
    · exact ⟨rfl, [], ⟨none, 0, rfl, by simp, ⟨by simp [maxLen], fun _ => rfl⟩, fun h0 => absurd h0 (by simp)⟩, by simp [szs, Rows.uptoBulk]⟩
    · have hi : ∀ i, i < len → ∃ y : α × List Value, (∀ (h' : i < elems.length), sz y.1 ≤ Rows.uptoBulk (elems[i].1)) ∧ R y.2 y.1 ∧ y.2.length = k ∧ ∀ j v, y.2[j]? = some v → w.cell? (a.add (i * k + j)) = some v := by
        intro i hi
        have h1 := hel i hi
        have hil : i < elems.length := by omega
        rw [List.getElem?_eq_getElem hil, Option.bind_eq_some_iff] at h1
        obtain ⟨ci, hci, hti⟩ := h1
        obtain ⟨hl, y, hy, hs⟩ := h.open_ enc n ci _ hti
        rw [h.cells] at hci
        obtain ⟨_, _, hcell⟩ := World.cells?_some hci
        refine ⟨(y, ci), fun _ => hs, hy, hl, fun j v hv => ?_⟩
        have hj : j < k := by rw [← hl]; exact (List.getElem?_eq_some_iff.1 hv).1
        rw [← add_of_add, hcell j hj]; exact hv
      obtain ⟨ys, hyl, hys⟩ := build_list (fun i (y : α × List Value) => (∀ (h' : i < elems.length), sz y.1 ≤ Rows.uptoBulk (elems[i].1)) ∧ R y.2 y.1 ∧ y.2.length = k ∧ ∀ j v, y.2[j]? = some v → w.cell? (a.add (i * k + j)) = some v) len hi
      refine ⟨rfl, ys.map (·.1), ⟨some a, cap, by simp [hyl], by simp; omega, ⟨hcm, fun h => by cases h⟩, fun h0 => ?_⟩, ?_⟩
      · obtain ⟨b, off, spot⟩ := a
        have h00 := hys 0 (by simpa using h0)
        obtain ⟨_, _, hl0, hc0⟩ := h00
        have hv := hc0 0 _ (List.getElem?_eq_getElem (by rw [hl0]; exact hk))
        have hsp : spot = none := by simpa [Addr.add] using World.cell?_spot hv
        subst hsp
        refine ⟨b, off, rfl, fun i hi => ?_⟩
        have hi' : i < ys.length := by simpa using hi
        obtain ⟨_, hR, hl, hcell⟩ := hys i hi'
        refine ⟨ys[i].2, by simpa using hR, hl, fun j v hv => ?_⟩
        have := hcell j v hv
        rw [add_spot, ← Nat.add_assoc] at this
        exact this
      · simp only [Rows.uptoBulk]
        have := szs_le (H := H) sz (ys.map (·.1)) (elems.map (·.1)) (by simp; omega) (fun i hi hi' => by
          have hi2 : i < ys.length := by simpa using hi
          have := (hys i hi2).1 (by simpa using hi')
          simpa using this)
        omega⟩

/-- where an element's cells are told by it alone: a row -/
theorem sliceR_row {α : Type} {w : World} {k : Nat} {R : List Value → α → Prop} (f : α → List Value) (hf : ∀ x, (f x).length = k) (hk : 0 < k) (hR : ∀ ci x, R ci x → ci = f x) {cs : List Value} {xs : List α} (h : sliceR w k R cs xs) :
    ∃ A c, cs = [.slice A xs.length c] ∧ xs.length ≤ c ∧ c ≤ maxLen ∧ Row w k A xs.length (xs.flatMap f) := by
  obtain ⟨A, c, hcs, h1, h2, hat⟩ := h
  refine ⟨A, c, hcs, h1, h2.1, flat_len f k hf xs, fun hn => ?_⟩
  obtain ⟨b, off, e, hel⟩ := hat hn
  refine ⟨b, off, e, fun j v hv => ?_⟩
  have hjl : j < xs.length * k := by rw [← flat_len f k hf xs]; exact (List.getElem?_eq_some_iff.1 hv).1
  have hi : j / k < xs.length := (Nat.div_lt_iff_lt_mul hk).2 hjl
  have hr : j % k < k := Nat.mod_lt _ hk
  have ej : j / k * k + j % k = j := by rw [Nat.mul_comm]; exact Nat.div_add_mod j k
  obtain ⟨ci, hci, _, hcell⟩ := hel (j / k) hi
  rw [hR ci _ hci] at hcell
  rw [← ej, flat_at f k hf xs (j / k) hi (j % k) hr] at hv
  have := hcell (j % k) v hv
  rw [Nat.add_assoc, ej] at this
  exact this
theorem szs_len {α : Type} (sz : α → Nat) (h1 : ∀ x, 1 ≤ sz x) : ∀ xs : List α, xs.length ≤ szs sz xs
  | [] => by simp
  | x :: r => by have := szs_len sz h1 r; have := h1 x; simp only [szs, List.length_cons]; omega
theorem szs_mem {α : Type} (sz : α → Nat) {xs : List α} {x : α} (h : x ∈ xs) : sz x ≤ szs sz xs := by
  induction xs with
  | nil => cases h
  | cons y r ih =>
    simp only [szs]
    rcases List.mem_cons.1 h with rfl | h
    · omega
    · have := ih h; omega

/-! ### arguments -/
theorem open_arg {w : World} {t : TypeId} {k : Nat} {α : Type} {R : List Value → α → Prop} {sz : α → Nat} (h : Opens w t k R sz) {H : Type} {enc : TypeId × Value → H} {v : Value} {d : DataW H} {p : List MemPlace}
    (hd : DataW.Trod enc Tryd.prog w 0 (fun _ => true) true t v d p) : ∃ a, R v.cells.toList a ∧ sz a ≤ Rows.uptoBulk d ∧ v.cells.toList.length = k := by
  obtain ⟨fuel, hf⟩ := hd
  obtain ⟨hl, a, ha, hs⟩ := h.open_ enc fuel _ _ hf
  exact ⟨a, ha, hs, hl⟩
theorem open_slice_arg {w : World} {r : Reach} {base : Nat} {t e : TypeId} (ht : Tryd.prog.underlying t = some (.slice e)) {k : Nat} {α : Type} {R : List Value → α → Prop} {sz : List α → Nat} (h : Opens w t 1 (sliceR w k R) sz) {H : Type} {enc : TypeId × Value → H} {v : Value} {d : DataW H} {p : List MemPlace}
    (hv : Value.okWide Tryd.prog w r base t v) (hd : DataW.Trod enc Tryd.prog w 0 (fun _ => true) true t v d p) : ∃ A c xs, v = .slice A xs.length c ∧ sliceR w k R [.slice A xs.length c] xs ∧ sz xs ≤ Rows.uptoBulk d := by
  obtain ⟨a0, n0, c0, rfl⟩ := okWide_slice ht hv
  obtain ⟨xs, hR, hs, _⟩ := open_arg h hd
  have hR' := hR
  obtain ⟨A, c, hcs, _⟩ := hR
  have e : [Value.slice a0 n0 c0] = [.slice A xs.length c] := by simpa [Value.cells] using hcs
  simp only [List.cons.injEq, and_true] at e
  refine ⟨A, c, xs, e, ?_, hs⟩
  rw [← e]
  simpa [Value.cells] using hR'
end Go.Proofs.YtmmpekdbknclcaaDoor

namespace Go.Proofs.YtmmpekdbknclcaaDoor
set_option maxRecDepth 100000
open Go.RowKit Go.ChangeShapes Go.WideShapes
theorem open_structD_arg {w : World} {r : Reach} {base : Nat} {t : TypeId} {fs : Array Field} (ht : Tryd.prog.underlying t = some (.struct fs)) {k : Nat} {α : Type} {R : List Value → α → Prop} {sz : α → Nat} (h : Opens w t k R sz) {H : Type} {enc : TypeId × Value → H} {v : Value} {d : DataW H} {p : List MemPlace}
    (hv : Value.okWide Tryd.prog w r base t v) (hd : DataW.Trod enc Tryd.prog w 0 (fun _ => true) true t v d p) : ∃ cs a, v = .agg cs ∧ R cs.toList a ∧ sz a ≤ Rows.uptoBulk d := by
  obtain ⟨cs, rfl, _⟩ := okWide_struct ht hv
  obtain ⟨a, ha, hs, _⟩ := open_arg h hd
  exact ⟨cs, a, rfl, by simpa [Value.cells] using ha, hs⟩
end Go.Proofs.YtmmpekdbknclcaaDoor

namespace Go.Proofs.YtmmpekdbknclcaaDoor
open Go.RowKit
set_option linter.unusedVariables false
/-- what is wrong with a head -/
def hdE (n : Int) (r : List UInt8) : Int := if n < 0 ∨ 200 < n then 3 else if r.length = 32 then 0 else 2
end Go.Proofs.YtmmpekdbknclcaaDoor
namespace Go.Proofs.YtmmpekdbknclcaaDoor
open Go.RowKit
set_option linter.unusedVariables false
end Go.Proofs.YtmmpekdbknclcaaDoor
namespace Go.Proofs.YtmmpekdbknclcaaDoor
open Go.RowKit
set_option linter.unusedVariables false
end Go.Proofs.YtmmpekdbknclcaaDoor
namespace Go.Proofs.YtmmpekdbknclcaaDoor
open Go.RowKit
set_option linter.unusedVariables false
end Go.Proofs.YtmmpekdbknclcaaDoor
namespace Go.Proofs.YtmmpekdbknclcaaDoor
open Go.RowKit
set_option linter.unusedVariables false
end Go.Proofs.YtmmpekdbknclcaaDoor
namespace Go.Proofs.YtmmpekdbknclcaaDoor
open Go.RowKit
set_option linter.unusedVariables false
end Go.Proofs.YtmmpekdbknclcaaDoor
namespace Go.Proofs.YtmmpekdbknclcaaDoor
open Go.RowKit
set_option linter.unusedVariables false
end Go.Proofs.YtmmpekdbknclcaaDoor
namespace Go.Proofs.YtmmpekdbknclcaaDoor
set_option maxRecDepth 100000
open Go.RowKit Go.ChangeShapes Go.WideShapes
set_option linter.unusedVariables false
end Go.Proofs.YtmmpekdbknclcaaDoor
namespace Go.Proofs.YtmmpekdbknclcaaDoor
set_option maxRecDepth 100000
open Go.RowKit
set_option linter.unusedVariables false
end Go.Proofs.YtmmpekdbknclcaaDoor

namespace Go.Proofs.YtmmpekdbknclcaaDoor
set_option maxRecDepth 100000
open Go.RowKit
set_option linter.unusedVariables false
/-- a head's bytes -/
def hdTxt (n : Int) (r : List UInt8) : List UInt8 × Int := if hdE n r = 0 then (numS n ++ r, 0) else ([], hdE n r)
end Go.Proofs.YtmmpekdbknclcaaDoor

namespace Go.Proofs.YtmmpekdbknclcaaDoor
open Go.RowKit
set_option linter.unusedVariables false
/-- 64 bytes while they are filled -/
def kArr (x : UInt8) (K : List UInt8) (n : Nat) : Array Value := ((List.range 64).map fun j => if j < n then byteV (K.getD j 0 ^^^ x) else Value.int .u8 0).toArray
theorem kArr_size (x : UInt8) (K : List UInt8) (n : Nat) : (kArr x K n).size = 64 := by unfold kArr; simp
theorem kArr_set (x : UInt8) (K : List UInt8) (n : Nat) : (kArr x K n).setIfInBounds n (byteV (K.getD n 0 ^^^ x)) = kArr x K (n + 1) := by
  unfold kArr
  rw [List.setIfInBounds_toArray]
  congr 1
  apply List.ext_getElem
  · simp
  · intro i h1 h2
    rw [List.getElem_set]
    simp only [List.getElem_map, List.getElem_range]
    by_cases e : n = i
    · subst e; rw [if_pos rfl, if_pos (by omega)]
    · rw [if_neg e]
      by_cases h : i < n
      · rw [if_pos h, if_pos (by omega)]
      · rw [if_neg h, if_neg (by omega)]
theorem kArr_full (x : UInt8) (K : List UInt8) : (kArr x K 64).toList = (xorPad x K).map byteV := by
  unfold kArr xorPad
  simp only [List.map_map]
  refine List.map_congr_left ?_
  intro j hj
  have : j < 64 := by simpa using hj
  rw [if_pos this]; rfl
def zero64 : Array Value := #[.int .u8 0, .int .u8 0, .int .u8 0, .int .u8 0, .int .u8 0, .int .u8 0, .int .u8 0, .int .u8 0, .int .u8 0, .int .u8 0, .int .u8 0, .int .u8 0, .int .u8 0, .int .u8 0, .int .u8 0, .int .u8 0, .int .u8 0, .int .u8 0, .int .u8 0, .int .u8 0, .int .u8 0, .int .u8 0, .int .u8 0, .int .u8 0, .int .u8 0, .int .u8 0, .int .u8 0, .int .u8 0, .int .u8 0, .int .u8 0, .int .u8 0, .int .u8 0, .int .u8 0, .int .u8 0, .int .u8 0, .int .u8 0, .int .u8 0, .int .u8 0, .int .u8 0, .int .u8 0, .int .u8 0, .int .u8 0, .int .u8 0, .int .u8 0, .int .u8 0, .int .u8 0, .int .u8 0, .int .u8 0, .int .u8 0, .int .u8 0, .int .u8 0, .int .u8 0, .int .u8 0, .int .u8 0, .int .u8 0, .int .u8 0, .int .u8 0, .int .u8 0, .int .u8 0, .int .u8 0, .int .u8 0, .int .u8 0, .int .u8 0, .int .u8 0]
theorem kArr_zero (x : UInt8) (K : List UInt8) : kArr x K 0 = zero64 := by kernel_rfl
theorem x_xor (a c : UInt8) : bits .xor .u8 (a.toNat : Int) (c.toNat : Int) = ((c ^^^ a).toNat : Int) := by
  have h1 := a.toNat_lt
  have h2 := c.toNat_lt
  rw [u8_xor_nat a.toNat c.toNat (by omega) (by omega), UInt8.toNat_xor, Nat.xor_comm]
theorem x_zero (a : UInt8) : (0 : UInt8) ^^^ a = a := by
  apply UInt8.eq_of_toBitVec_eq
  rw [UInt8.toBitVec_xor]; exact BitVec.zero_xor
theorem conv_arr (w : World) {g : Nat} {t : TypeId} {cs : Array Value} {l : List UInt8} (hB : Blk w g t cs) (h : cs.toList = l.map byteV) (n : Nat) (hn : l.length = n) :
    (convert 60 9 (.slice (some ⟨g, 0, none⟩) n n)).run Tryd.prog w = .ok (.string (bs l)) w := by
  subst hn
  refine run_conv_at Tryd.underlying60 Tryd.underlying5 Tryd.underlying9 w g 0 _ l (fun j u hu => ?_)
  rw [Nat.zero_add, hB.cell, ← h] at *
  simpa using hu

set_option maxRecDepth 100000 in
set_option maxHeartbeats 2000000 in
theorem seal_any (key b : List UInt8) (w : World) (hT : TabK w) (hk : key.length ≤ 288230376151711744) (hb : b.length ≤ 288230376151711744) :
    Calls Tryd.prog 19 #[.string (bs key), .string (bs b)] w fun e w' => e = .returned (.string (bs (seal' key b))) ∧ Gr w w' := by
  obtain ⟨K, hK⟩ : ∃ K, K = keyOf key := ⟨_, rfl⟩
  have hKl : K.length ≤ 64 := by rw [hK]; exact keyOf_len key
  have HF : Sec (seal' key b = sha (xorPad 0x5c K ++ sha (xorPad 0x36 K ++ b))) := sec (by rw [hK]; rfl)
  have HK := sec hK
  clear hK
  by_cases hlt : 64 < key.length
  · have HS : Sec (sha key = K) := sec (by rw [HK.out]; unfold keyOf; rw [if_pos hlt])
    have hlti : (64 : Int) < (key.length : Int) := by omega
    go_enter Tryd.func19, Tryd.ntmps19
    go_wp2_with ((go_at_call 37; refine (sum_any key _ hT (by omega)).mono ?_; rw [HS.out]; rintro e w1 ⟨rfl, g1⟩))
    have HZ5 : Sec (Blk ((w1.alloc (.cells zero64 67)).alloc (.cells zero64 67)) w1.heap.size 67 zero64) := sec ((Blk.new w1 _ _).alloc _)
    have HZ6 : Sec (Blk ((w1.alloc (.cells zero64 67)).alloc (.cells zero64 67)) (w1.heap.size + 1) 67 zero64) := sec (Blk.new1 w1 _ _ _)
    have HG : Sec (Gr w ((w1.alloc (.cells zero64 67)).alloc (.cells zero64 67))) := sec ((g1.alloc _).alloc _)
    obtain ⟨q, hq⟩ : ∃ q, q = w1.heap.size := ⟨_, rfl⟩
    have hwb : w.heap.size ≤ q := by rw [hq]; exact g1.size
    rw [← hq] at HZ5 HZ6
    rw [← hq]
    clear hq
    go_loopw [13, 7] (fun iv _ wr => ∃ i : Nat, iv = .int .i64 i ∧ i ≤ 64 ∧ Blk wr q 67 (kArr 0x36 K i) ∧ Blk wr (q + 1) 67 (kArr 0x5c K i) ∧ Gr w wr)
      (fun iv _ _ => 64 - (intOf iv).toNat)
    case atStart => exact ⟨0, rfl, by omega, by rw [kArr_zero]; exact HZ5.out, by rw [kArr_zero]; exact HZ6.out, HG.out⟩
    case round =>
      obtain ⟨i, rfl, hi, hB5, hB6, hg⟩ := hrel
      by_cases h64 : i < 64
      · have hi64 : (i : Int) < 64 := by omega
        have z5 : ∃ v, wr.cell? ⟨q, i, none⟩ = some v := ⟨_, (hB5.cell i).trans (Array.getElem?_eq_getElem (by rw [kArr_size]; omega))⟩
        have z6 : ∃ v, wr.cell? ⟨q + 1, i, none⟩ = some v := ⟨_, (hB6.cell i).trans (Array.getElem?_eq_getElem (by rw [kArr_size]; omega))⟩
        obtain ⟨v5, z5⟩ := z5
        obtain ⟨v6, z6⟩ := z6
        have f5 := hB5.frozen i
        have f6 := hB6.frozen i
        by_cases hik : i < K.length
        · have hiki : (i : Int) < (K.length : Int) := by omega
          obtain ⟨c, hc⟩ : ∃ c, c = K[i] := ⟨_, rfl⟩
          have hgd : K.getD i 0 = c := by rw [hc]; simp [hik]
          have hci : (bs K)[i]'(by rw [bs_size]; exact hik) = c := by rw [bs_get, hc]
          have e5 := kArr_set 0x36 K i
          have e6 := kArr_set 0x5c K i
          rw [hgd] at e5 e6
          have E5 := sec e5
          have E6 := sec e6
          have HC := sec hc
          have x5 : bits .xor .u8 54 (c.toNat : Int) = ((c ^^^ 0x36).toNat : Int) := x_xor 0x36 c
          have x6 : bits .xor .u8 92 (c.toNat : Int) = ((c ^^^ 0x5c).toNat : Int) := x_xor 0x5c c
          clear e5 e6 hc hgd
          go_wp2_with fail
          refine region_still_tail_w 8 (by kernel_rfl) (by kernel_rfl) ?_
          simp only [List.take_succ_cons, List.take_zero, List.drop_succ_cons, List.drop_zero]
          intro wd hwd
          have D5 : Blk wd q 67 ((kArr 0x36 K i).setIfInBounds i (.int .u8 54)) := by subst hwd; exact ((hB5.set_ i (.int .u8 54)).far (by simp) _).drew
          have D6 : Blk wd (q + 1) 67 ((kArr 0x5c K i).setIfInBounds i (.int .u8 92)) := by subst hwd; exact ((hB6.far (by simp) _).set_ i (.int .u8 92)).drew
          have Dg : Gr w wd := by subst hwd; exact ((hg.setCell (by simp; omega) _).setCell (by simp; omega) _).drew
          clear hwd hB5 hB6 hg z5 z6 f5 f6
          have c5 : wd.cell? ⟨q, i, none⟩ = some (.int .u8 54) := (D5.cell i).trans (Array.getElem?_setIfInBounds_self_of_lt (by rw [kArr_size]; exact h64))
          have f5 := D5.frozen i
          repeat still_step
          refine wpStill_nil ?_
          go_wp2_with fail
          clear c5 f5
          refine region_still_tail_w 8 (by kernel_rfl) (by kernel_rfl) ?_
          simp only [List.take_succ_cons, List.take_zero, List.drop_succ_cons, List.drop_zero]
          intro we hwe
          have F5 : Blk we q 67 (kArr 0x36 K (i + 1)) := by
            subst hwe
            have h5 := (D5.set_ i (.int .u8 ((c ^^^ 0x36).toNat : Int))).drew
            rw [Array.setIfInBounds_setIfInBounds, show (kArr 0x36 K i).setIfInBounds i (.int .u8 ((c ^^^ 0x36).toNat : Int)) = kArr 0x36 K (i + 1) from E5.out] at h5
            exact h5
          have F6 : Blk we (q + 1) 67 ((kArr 0x5c K i).setIfInBounds i (.int .u8 92)) := by subst hwe; exact (D6.far (by simp) _).drew
          have Fg : Gr w we := by subst hwe; exact (Dg.setCell (by simp; omega) _).drew
          clear hwe D5 D6 Dg
          have c6 : we.cell? ⟨q + 1, i, none⟩ = some (.int .u8 92) := (F6.cell i).trans (Array.getElem?_setIfInBounds_self_of_lt (by rw [kArr_size]; exact h64))
          have f6 := F6.frozen i
          repeat still_step
          refine wpStill_nil ?_
          go_wp2_with fail
          go_roundw
          case rel =>
            have h6 := F6.set_ i (.int .u8 ((c ^^^ 0x5c).toNat : Int))
            have e6 : ((kArr 0x5c K i).setIfInBounds i (.int .u8 92)).setIfInBounds i (.int .u8 ((c ^^^ 0x5c).toNat : Int)) = kArr 0x5c K (i + 1) := by
              rw [Array.setIfInBounds_setIfInBounds]; exact E6.out
            rw [e6] at h6
            exact ⟨i + 1, by go_num, by omega, F5.far (by simp) _, h6, Fg.setCell (by simp; omega) _⟩
          case measure => simp [intOf]; omega
        · have hiki : ¬ (i : Int) < (K.length : Int) := by omega
          have hgd : K.getD i 0 = 0 := by simp [List.getD]; rw [List.getElem?_eq_none (by omega)]; rfl
          have e5 := kArr_set 0x36 K i
          have e6 := kArr_set 0x5c K i
          rw [hgd, x_zero] at e5 e6
          have E5 := sec e5
          have E6 := sec e6
          clear e5 e6 hgd
          go_wp2_with fail
          go_roundw
          case rel =>
            have h5 := hB5.set_ i (.int .u8 54)
            have h6 := (hB6.far (p := ⟨q, i, none⟩) (by simp) (.int .u8 54)).set_ i (.int .u8 92)
            rw [show (kArr 0x36 K i).setIfInBounds i (.int .u8 54) = kArr 0x36 K (i + 1) from E5.out] at h5
            rw [show (kArr 0x5c K i).setIfInBounds i (.int .u8 92) = kArr 0x5c K (i + 1) from E6.out] at h6
            exact ⟨i + 1, by go_num, by omega, h5.far (by simp) _, h6, (hg.setCell (by simp; omega) _).setCell (by simp; omega) _⟩
          case measure => simp [intOf]; omega
      · obtain rfl : i = 64 := by omega
        clear h64 hi
        rw [show ((64 : Nat) : Int) = 64 from rfl]
        go_wp2_with fail
        have k5 := kArr_full 0x36 K
        have k6 := kArr_full 0x5c K
        have K5 := sec k5
        have K6 := sec k6
        have hP5 : (xorPad 0x36 K).length = 64 := xorPad_len _ _
        have hP6 : (xorPad 0x5c K).length = 64 := xorPad_len _ _
        obtain ⟨P5, hQ5⟩ : ∃ P, P = xorPad 0x36 K := ⟨_, rfl⟩
        obtain ⟨P6, hQ6⟩ : ∃ P, P = xorPad 0x5c K := ⟨_, rfl⟩
        rw [← hQ5, ← hQ6] at HF
        rw [← hQ5] at K5 hP5
        rw [← hQ6] at K6 hP6
        have HP5 := sec hP5
        have HP6 := sec hP6
        have hl5 : ¬ 9223372036854775807 < P5.length + b.length := by omega
        have hl6 : ¬ 9223372036854775807 < P6.length + (sha (P5 ++ b)).length := by rw [sha_len]; omega
        have HL5 : Sec ((P5 ++ b).length ≤ 576460752303423488) := sec (by rw [List.length_append]; omega)
        have HL6 : Sec ((P6 ++ sha (P5 ++ b)).length ≤ 576460752303423488) := sec (by rw [List.length_append, sha_len]; omega)
        clear k5 k6 hQ5 hQ6 hP5 hP6
        go_region_held3 (fun w' => (convert 60 9 (.slice (some ⟨q, 0, none⟩) 64 64)).run Tryd.prog w' = .ok (.string (bs P5)) w' ∧ (convert 60 9 (.slice (some ⟨q + 1, 0, none⟩) 64 64)).run Tryd.prog w' = .ok (.string (bs P6)) w' ∧ Gr w w')
          (first | with_reducible assumption | exact ⟨conv_arr _ hB5.drew K5.out 64 HP5.out, conv_arr _ hB6.drew K6.out 64 HP6.out, hg.drew⟩ | exact ⟨conv_arr _ hB5 K5.out 64 HP5.out, conv_arr _ hB6 K6.out 64 HP6.out, hg⟩ | exact ⟨conv_arr _ e5 K5.out 64 HP5.out, conv_arr _ e6 K6.out 64 HP6.out, eg⟩ | exact ⟨conv_arr _ i5 K5.out 64 HP5.out, conv_arr _ i6 K6.out 64 HP6.out, ig⟩)
          (first
            | (go_at_call 37; with_reducible refine Calls.mono (sum_any (P5 ++ b) _ (hT.gr hg.drew) HL5.out) ?_; rintro e w3 ⟨rfl, k⟩; have e5 := hB5.drew.gr k; have e6 := hB6.drew.gr k; have eg := hg.drew.trans k; clear k)
            | (go_at_call 37; with_reducible refine Calls.mono (sum_any (P6 ++ sha (P5 ++ b)) _ (hT.gr eg) HL6.out) ?_; rintro e w4 ⟨rfl, k⟩; have i5 := e5.gr k; have i6 := e6.gr k; have ig := eg.trans k; clear k))
        all_goals
          go_wp2_with fail
          go_ret
          exact ⟨by rw [HF.out]; rfl, ig⟩
  · have hlti : ¬ (64 : Int) < (key.length : Int) := by omega
    obtain rfl : K = key := by rw [HK.out]; unfold keyOf; rw [if_neg hlt]
    go_enter Tryd.func19, Tryd.ntmps19
    go_wp2_with fail
    have HZ5 : Sec (Blk ((w.alloc (.cells zero64 67)).alloc (.cells zero64 67)) w.heap.size 67 zero64) := sec ((Blk.new w _ _).alloc _)
    have HZ6 : Sec (Blk ((w.alloc (.cells zero64 67)).alloc (.cells zero64 67)) (w.heap.size + 1) 67 zero64) := sec (Blk.new1 w _ _ _)
    have HG : Sec (Gr w ((w.alloc (.cells zero64 67)).alloc (.cells zero64 67))) := sec (((Gr.refl w).alloc _).alloc _)
    obtain ⟨q, hq⟩ : ∃ q, q = w.heap.size := ⟨_, rfl⟩
    have hwb : w.heap.size ≤ q := by rw [hq]; exact Nat.le_refl _
    rw [← hq] at HZ5 HZ6
    rw [← hq]
    clear hq
    go_loopw [13, 7] (fun iv _ wr => ∃ i : Nat, iv = .int .i64 i ∧ i ≤ 64 ∧ Blk wr q 67 (kArr 0x36 K i) ∧ Blk wr (q + 1) 67 (kArr 0x5c K i) ∧ Gr w wr)
      (fun iv _ _ => 64 - (intOf iv).toNat)
    case atStart => exact ⟨0, rfl, by omega, by rw [kArr_zero]; exact HZ5.out, by rw [kArr_zero]; exact HZ6.out, HG.out⟩
    case round =>
      obtain ⟨i, rfl, hi, hB5, hB6, hg⟩ := hrel
      by_cases h64 : i < 64
      · have hi64 : (i : Int) < 64 := by omega
        have z5 : ∃ v, wr.cell? ⟨q, i, none⟩ = some v := ⟨_, (hB5.cell i).trans (Array.getElem?_eq_getElem (by rw [kArr_size]; omega))⟩
        have z6 : ∃ v, wr.cell? ⟨q + 1, i, none⟩ = some v := ⟨_, (hB6.cell i).trans (Array.getElem?_eq_getElem (by rw [kArr_size]; omega))⟩
        obtain ⟨v5, z5⟩ := z5
        obtain ⟨v6, z6⟩ := z6
        have f5 := hB5.frozen i
        have f6 := hB6.frozen i
        by_cases hik : i < K.length
        · have hiki : (i : Int) < (K.length : Int) := by omega
          obtain ⟨c, hc⟩ : ∃ c, c = K[i] := ⟨_, rfl⟩
          have hgd : K.getD i 0 = c := by rw [hc]; simp [hik]
          have hci : (bs K)[i]'(by rw [bs_size]; exact hik) = c := by rw [bs_get, hc]
          have e5 := kArr_set 0x36 K i
          have e6 := kArr_set 0x5c K i
          rw [hgd] at e5 e6
          have E5 := sec e5
          have E6 := sec e6
          have HC := sec hc
          have x5 : bits .xor .u8 54 (c.toNat : Int) = ((c ^^^ 0x36).toNat : Int) := x_xor 0x36 c
          have x6 : bits .xor .u8 92 (c.toNat : Int) = ((c ^^^ 0x5c).toNat : Int) := x_xor 0x5c c
          clear e5 e6 hc hgd
          go_wp2_with fail
          refine region_still_tail_w 8 (by kernel_rfl) (by kernel_rfl) ?_
          simp only [List.take_succ_cons, List.take_zero, List.drop_succ_cons, List.drop_zero]
          intro wd hwd
          have D5 : Blk wd q 67 ((kArr 0x36 K i).setIfInBounds i (.int .u8 54)) := by subst hwd; exact ((hB5.set_ i (.int .u8 54)).far (by simp) _).drew
          have D6 : Blk wd (q + 1) 67 ((kArr 0x5c K i).setIfInBounds i (.int .u8 92)) := by subst hwd; exact ((hB6.far (by simp) _).set_ i (.int .u8 92)).drew
          have Dg : Gr w wd := by subst hwd; exact ((hg.setCell (by simp; omega) _).setCell (by simp; omega) _).drew
          clear hwd hB5 hB6 hg z5 z6 f5 f6
          have c5 : wd.cell? ⟨q, i, none⟩ = some (.int .u8 54) := (D5.cell i).trans (Array.getElem?_setIfInBounds_self_of_lt (by rw [kArr_size]; exact h64))
          have f5 := D5.frozen i
          repeat still_step
          refine wpStill_nil ?_
          go_wp2_with fail
          clear c5 f5
          refine region_still_tail_w 8 (by kernel_rfl) (by kernel_rfl) ?_
          simp only [List.take_succ_cons, List.take_zero, List.drop_succ_cons, List.drop_zero]
          intro we hwe
          have F5 : Blk we q 67 (kArr 0x36 K (i + 1)) := by
            subst hwe
            have h5 := (D5.set_ i (.int .u8 ((c ^^^ 0x36).toNat : Int))).drew
            rw [Array.setIfInBounds_setIfInBounds, show (kArr 0x36 K i).setIfInBounds i (.int .u8 ((c ^^^ 0x36).toNat : Int)) = kArr 0x36 K (i + 1) from E5.out] at h5
            exact h5
          have F6 : Blk we (q + 1) 67 ((kArr 0x5c K i).setIfInBounds i (.int .u8 92)) := by subst hwe; exact (D6.far (by simp) _).drew
          have Fg : Gr w we := by subst hwe; exact (Dg.setCell (by simp; omega) _).drew
          clear hwe D5 D6 Dg
          have c6 : we.cell? ⟨q + 1, i, none⟩ = some (.int .u8 92) := (F6.cell i).trans (Array.getElem?_setIfInBounds_self_of_lt (by rw [kArr_size]; exact h64))
          have f6 := F6.frozen i
          repeat still_step
          refine wpStill_nil ?_
          go_wp2_with fail
          go_roundw
          case rel =>
            have h6 := F6.set_ i (.int .u8 ((c ^^^ 0x5c).toNat : Int))
            have e6 : ((kArr 0x5c K i).setIfInBounds i (.int .u8 92)).setIfInBounds i (.int .u8 ((c ^^^ 0x5c).toNat : Int)) = kArr 0x5c K (i + 1) := by
              rw [Array.setIfInBounds_setIfInBounds]; exact E6.out
            rw [e6] at h6
            exact ⟨i + 1, by go_num, by omega, F5.far (by simp) _, h6, Fg.setCell (by simp; omega) _⟩
          case measure => simp [intOf]; omega
        · have hiki : ¬ (i : Int) < (K.length : Int) := by omega
          have hgd : K.getD i 0 = 0 := by simp [List.getD]; rw [List.getElem?_eq_none (by omega)]; rfl
          have e5 := kArr_set 0x36 K i
          have e6 := kArr_set 0x5c K i
          rw [hgd, x_zero] at e5 e6
          have E5 := sec e5
          have E6 := sec e6
          clear e5 e6 hgd
          go_wp2_with fail
          go_roundw
          case rel =>
            have h5 := hB5.set_ i (.int .u8 54)
            have h6 := (hB6.far (p := ⟨q, i, none⟩) (by simp) (.int .u8 54)).set_ i (.int .u8 92)
            rw [show (kArr 0x36 K i).setIfInBounds i (.int .u8 54) = kArr 0x36 K (i + 1) from E5.out] at h5
            rw [show (kArr 0x5c K i).setIfInBounds i (.int .u8 92) = kArr 0x5c K (i + 1) from E6.out] at h6
            exact ⟨i + 1, by go_num, by omega, h5.far (by simp) _, h6, (hg.setCell (by simp; omega) _).setCell (by simp; omega) _⟩
          case measure => simp [intOf]; omega
      · obtain rfl : i = 64 := by omega
        clear h64 hi
        rw [show ((64 : Nat) : Int) = 64 from rfl]
        go_wp2_with fail
        have k5 := kArr_full 0x36 K
        have k6 := kArr_full 0x5c K
        have K5 := sec k5
        have K6 := sec k6
        have hP5 : (xorPad 0x36 K).length = 64 := xorPad_len _ _
        have hP6 : (xorPad 0x5c K).length = 64 := xorPad_len _ _
        obtain ⟨P5, hQ5⟩ : ∃ P, P = xorPad 0x36 K := ⟨_, rfl⟩
        obtain ⟨P6, hQ6⟩ : ∃ P, P = xorPad 0x5c K := ⟨_, rfl⟩
        rw [← hQ5, ← hQ6] at HF
        rw [← hQ5] at K5 hP5
        rw [← hQ6] at K6 hP6
        have HP5 := sec hP5
        have HP6 := sec hP6
        have hl5 : ¬ 9223372036854775807 < P5.length + b.length := by omega
        have hl6 : ¬ 9223372036854775807 < P6.length + (sha (P5 ++ b)).length := by rw [sha_len]; omega
        have HL5 : Sec ((P5 ++ b).length ≤ 576460752303423488) := sec (by rw [List.length_append]; omega)
        have HL6 : Sec ((P6 ++ sha (P5 ++ b)).length ≤ 576460752303423488) := sec (by rw [List.length_append, sha_len]; omega)
        clear k5 k6 hQ5 hQ6 hP5 hP6
        go_region_held3 (fun w' => (convert 60 9 (.slice (some ⟨q, 0, none⟩) 64 64)).run Tryd.prog w' = .ok (.string (bs P5)) w' ∧ (convert 60 9 (.slice (some ⟨q + 1, 0, none⟩) 64 64)).run Tryd.prog w' = .ok (.string (bs P6)) w' ∧ Gr w w')
          (first | with_reducible assumption | exact ⟨conv_arr _ hB5.drew K5.out 64 HP5.out, conv_arr _ hB6.drew K6.out 64 HP6.out, hg.drew⟩ | exact ⟨conv_arr _ hB5 K5.out 64 HP5.out, conv_arr _ hB6 K6.out 64 HP6.out, hg⟩ | exact ⟨conv_arr _ e5 K5.out 64 HP5.out, conv_arr _ e6 K6.out 64 HP6.out, eg⟩ | exact ⟨conv_arr _ i5 K5.out 64 HP5.out, conv_arr _ i6 K6.out 64 HP6.out, ig⟩)
          (first
            | (go_at_call 37; with_reducible refine Calls.mono (sum_any (P5 ++ b) _ (hT.gr hg.drew) HL5.out) ?_; rintro e w3 ⟨rfl, k⟩; have e5 := hB5.drew.gr k; have e6 := hB6.drew.gr k; have eg := hg.drew.trans k; clear k)
            | (go_at_call 37; with_reducible refine Calls.mono (sum_any (P6 ++ sha (P5 ++ b)) _ (hT.gr eg) HL6.out) ?_; rintro e w4 ⟨rfl, k⟩; have i5 := e5.gr k; have i6 := e6.gr k; have ig := eg.trans k; clear k))
        all_goals
          go_wp2_with fail
          go_ret
          exact ⟨by rw [HF.out]; rfl, ig⟩
end Go.Proofs.YtmmpekdbknclcaaDoor

namespace Go.Proofs.YtmmpekdbknclcaaDoor
open Go.RowKit
set_option linter.unusedVariables false
theorem BRow.set {w : World} {B g cap : Nat} {l : List UInt8} (h : BRow w B g cap l) (i : Nat) (hi : i < l.length) (c : UInt8) : BRow (w.setCell ⟨g, i, none⟩ (byteV c)) B g cap (l.set i c) := by
  refine ⟨h.base, by simpa using h.lt, by simpa using h.le, h.max, fun j hj => ⟨?_, by rw [World.frozen?_setCell]; exact (h.there j hj).2⟩, fun j u hu => ?_⟩
  · by_cases e : i = j
    · subst e
      obtain ⟨u, hu⟩ := Option.isSome_iff_exists.1 (h.there i hj).1
      rw [World.cell?_setCell_same w _ _ hu]; rfl
    · rw [World.cell?_setCell_other w _ _ _ (by intro e'; injection e' with _ e2 _; exact e e2)]
      exact (h.there j hj).1
  · by_cases e : i = j
    · subst e
      have : i < cap := Nat.lt_of_lt_of_le hi h.le
      obtain ⟨v, hv⟩ := Option.isSome_iff_exists.1 (h.there i this).1
      rw [World.cell?_setCell_same w _ _ hv]
      rw [← hu]
      simp [hi]
    · rw [World.cell?_setCell_other w _ _ _ (by intro e'; injection e' with _ e2 _; exact e e2)]
      refine h.at_ j u ?_
      rw [← hu]
      simp [e]

/-- the first i bytes turned -/
def mixL (x : UInt8) (K : List UInt8) (i : Nat) : List UInt8 := (K.take i).map (· ^^^ x) ++ K.drop i
theorem mixL_len (x : UInt8) (K : List UInt8) (i : Nat) : (mixL x K i).length = K.length := by
  unfold mixL
  rw [List.length_append, List.length_map, List.length_take, List.length_drop]
  omega
theorem mixL_set (x : UInt8) (K : List UInt8) (i : Nat) (hi : i < K.length) : (mixL x K i).set i (K[i] ^^^ x) = mixL x K (i + 1) := by
  unfold mixL
  have hl : ((K.take i).map (· ^^^ x)).length = i := by rw [List.length_map, List.length_take]; omega
  rw [List.set_append_right _ _ (by omega), hl, Nat.sub_self, List.drop_eq_getElem_cons hi, List.take_succ_eq_append_getElem hi, List.map_append]
  simp only [List.set_cons_zero, List.map_cons, List.map_nil, List.append_assoc, List.cons_append, List.nil_append]
theorem mixL_at (x : UInt8) (K : List UInt8) (i : Nat) (hi : i < K.length) : (mixL x K i)[i]'(by rw [mixL_len]; exact hi) = K[i] := by
  unfold mixL
  have hl : ((K.take i).map (· ^^^ x)).length = i := by rw [List.length_map, List.length_take]; omega
  rw [List.getElem_append_right (by omega)]
  simp only [hl, Nat.sub_self, List.getElem_drop, Nat.add_zero]

set_option maxRecDepth 100000 in
set_option maxHeartbeats 1000000 in
theorem seal1_any (x : UInt8) (q : Nat) (K : List UInt8) (w : World) (hc : w.cell? ⟨q, 0, none⟩ = some (.string (bs K))) (hK : K.length ≤ 4611686018427387904) :
    Calls Tryd.prog 49 #[.int .u8 (x.toNat : Int), .pointer (some ⟨q, 0, none⟩)] w fun e w' => e = .returned (.string (bs (K.map (· ^^^ x)))) ∧ Gr w w' := by
  obtain ⟨w2, cap, hcv, hg2, hB⟩ := conv_brow Tryd.underlying9 Tryd.underlying60 Tryd.underlying5 w K (by unfold maxLen; omega)
  have hM : mixL x K 0 = K := rfl
  go_enter Tryd.func49, Tryd.ntmps49
  go_wp2_with fail
  go_loopw [10, 5] (fun iv _ wr => ∃ i : Nat, iv = .int .i64 (i : Int) ∧ i ≤ K.length ∧ BRow wr w.heap.size w.heap.size cap (mixL x K i) ∧ Gr w wr)
    (fun iv _ _ => K.length - (intOf iv).toNat)
  case atStart => exact ⟨0, rfl, by omega, by rw [hM]; exact hB, hg2⟩
  case round =>
    clear hM hcv hB hg2 hc
    obtain ⟨i, rfl, hi, hB, hg⟩ := hrel
    have hl := mixL_len x K i
    by_cases hlt : i < K.length
    · have hli : (i : Int) < (K.length : Int) := by omega
      have hcl := hB.at_ i (byteV K[i]) (by rw [List.getElem?_map, List.getElem?_eq_getElem (by omega), mixL_at x K i hlt]; rfl)
      have hf := (hB.there i (by have := hB.le; omega)).2
      obtain ⟨c, hcc⟩ : ∃ c, c = K[i] := ⟨_, rfl⟩
      have hset := mixL_set x K i hlt
      rw [← hcc] at hset hcl
      have HS := sec hset
      unfold byteV at hcl
      have HL := sec (show i < (mixL x K i).length by omega)
      have hx : bits .xor .u8 (c.toNat : Int) (x.toNat : Int) = ((c ^^^ x).toNat : Int) := by
        have h1 := c.toNat_lt
        have h2 := x.toNat_lt
        rw [u8_xor_nat c.toNat x.toNat (by omega) (by omega), UInt8.toNat_xor]
      clear hset hcc hl
      go_wp2_with fail
      go_roundw
      case rel =>
        refine ⟨i + 1, by go_num, by omega, ?_, hg.setCell (by simp) _⟩
        rw [← HS.out]
        exact hB.set i HL.out (c ^^^ x)
      case measure => simp [intOf]; omega
    · obtain rfl : i = K.length := by omega
      have he : mixL x K K.length = K.map (· ^^^ x) := by unfold mixL; simp
      have hcv := hB.conv Tryd.underlying60 Tryd.underlying5 Tryd.underlying9
      rw [hl, he] at hcv
      clear hl he hlt hi
      go_wp2_with fail
      go_ret
      exact ⟨rfl, hg⟩

def padK (K : List UInt8) : List UInt8 := K ++ List.replicate (64 - K.length) 0
theorem padK_xor (x : UInt8) (K : List UInt8) (h : K.length ≤ 64) : (padK K).map (· ^^^ x) = xorPad x K := by
  apply List.ext_getElem
  · rw [xorPad_len]; unfold padK; simp; omega
  · intro i h1 h2
    unfold padK xorPad at *
    simp only [List.getElem_map, List.getElem_range]
    by_cases e : i < K.length
    · rw [List.getElem_append_left e]; simp [e]
    · rw [List.getElem_append_right (by omega)]
      simp only [List.getElem_replicate]
      have : K.getD i 0 = 0 := by simp [List.getD]; rw [List.getElem?_eq_none (by omega)]; rfl
      rw [this]

set_option maxRecDepth 100000 in
set_option maxHeartbeats 1000000 in
theorem rseal_any (key b : List UInt8) (w : World) (hk : key.length ≤ 288230376151711744) (hb : b.length ≤ 288230376151711744) :
    Calls Tryd.prog 29 #[.string (bs key), .string (bs b)] w fun e w' => e = .returned (.string (bs (seal' key b))) ∧ Gr w w' := by
  obtain ⟨K, hK⟩ : ∃ K, K = keyOf key := ⟨_, rfl⟩
  have hKl : K.length ≤ 64 := by rw [hK]; exact keyOf_len key
  have HF : Sec (seal' key b = sha (xorPad 0x5c K ++ sha (xorPad 0x36 K ++ b))) := sec (by rw [hK]; rfl)
  have HK := sec hK
  have hmf : ∀ (fn : Fn) (first cap : Array Value) (w : World), (Instr.makeFunc fn first cap).run Tryd.prog w = .ok (.func fn first cap) w := fun _ _ _ _ => rfl
  clear hK
  have K5 := sec (padK_xor 0x5c K hKl)
  have K6 := sec (padK_xor 0x36 K hKl)
  have c5 : ∀ (q : Nat) (w : World), w.cell? ⟨q, 0, none⟩ = some (.string (bs (padK K))) → Calls Tryd.prog 49 #[.int .u8 92, .pointer (some ⟨q, 0, none⟩)] w fun e w' => e = .returned (.string (bs (xorPad 0x5c K))) ∧ Gr w w' := by
    intro q w hc
    rw [← K5.out]
    exact seal1_any 0x5c q (padK K) w hc (by unfold padK; simp; omega)
  have c6 : ∀ (q : Nat) (w : World), w.cell? ⟨q, 0, none⟩ = some (.string (bs (padK K))) → Calls Tryd.prog 49 #[.int .u8 54, .pointer (some ⟨q, 0, none⟩)] w fun e w' => e = .returned (.string (bs (xorPad 0x36 K))) ∧ Gr w w' := by
    intro q w hc
    rw [← K6.out]
    exact seal1_any 0x36 q (padK K) w hc (by unfold padK; simp; omega)
  have C5 := sec c5
  have C6 := sec c6
  clear c5 c6
  by_cases hlt : 64 < key.length
  · have HS : Sec (sha key = K) := sec (by rw [HK.out]; unfold keyOf; rw [if_pos hlt])
    have hlti : (64 : Int) < (key.length : Int) := by omega
    go_enter Tryd.func29, Tryd.ntmps29
    go_wp2_with (go_at_call 48; refine (rsum_any key _ (by omega)).mono ?_; rw [HS.out]; rintro e w1 ⟨rfl, g1⟩; have hb1 := (Blk.new w 9 #[Value.string (bs key)]).gr g1; have hc1 := hb1.cell 0; have hf1 := hb1.frozen 0)
    obtain ⟨q, hq⟩ : ∃ q, q = w.heap.size := ⟨_, rfl⟩
    have hqs : w.heap.size ≤ q := by rw [hq]; exact Nat.le_refl _
    have HB : Sec (Blk (w1.setCell ⟨q, 0, none⟩ (.string (bs K))) q 9 #[.string (bs K)]) := sec (by
      rw [hq]
      exact hb1.set_ 0 (.string (bs K)))
    have HG : Sec (Gr w (w1.setCell ⟨q, 0, none⟩ (.string (bs K)))) := sec ((Gr.trans ((Gr.refl w).alloc _) g1).setCell (by simpa using hqs) _)
    clear hb1 hc1 hf1 g1
    rw [← hq]
    clear hq
    go_loopw [] (fun wr => ∃ j : Nat, j ≤ 64 - K.length ∧ Blk wr q 9 #[.string (bs (K ++ List.replicate j 0))] ∧ Gr w wr)
      (fun wr => 64 - lenOf ((wr.cell? ⟨q, 0, none⟩).getD (.int .i64 0)))
    case atStart => exact ⟨0, by omega, by rw [List.replicate_zero, List.append_nil]; exact HB.out, HG.out⟩
    case round =>
      obtain ⟨j, hj, hB, hg⟩ := hrel
      have hc := hB.cell 0
      have hf := hB.frozen 0
      have hll : (K ++ List.replicate j (0 : UInt8)).length = K.length + j := by simp
      by_cases hjl : j < 64 - K.length
      · obtain ⟨L, hL⟩ : ∃ L, L = K ++ List.replicate j (0 : UInt8) := ⟨_, rfl⟩
        rw [← hL] at hc hB hll
        have hlt : (L.length : Int) < 64 := by omega
        have h63 : ¬ 9223372036854775807 < L.length + 1 := by omega
        have HL := sec hL
        have HJ := sec hjl
        simp at hc
        clear hL hjl hj hll
        go_wp2_with fail
        go_roundw
        case rel => exact ⟨j + 1, by have := HJ.out; omega, by rw [List.replicate_succ', ← List.append_assoc, ← HL.out]; exact hB.set_ 0 _, hg.setCell (by simpa using hqs) _⟩
        case measure =>
          have h2 := (hB.set_ 0 (.string (bs (L ++ [0])))).cell 0
          simp [h2, hc, lenOf, bs_size]
          omega
      · obtain rfl : j = 64 - K.length := by omega
        have hlt : ¬ ((K ++ List.replicate (64 - K.length) (0 : UInt8)).length : Int) < 64 := by omega
        have HP : K ++ List.replicate (64 - K.length) (0 : UInt8) = padK K := rfl
        rw [HP] at hc hB hlt
        simp at hc
        clear hll hj hjl HP
        have hP5 : (xorPad 0x5c K).length = 64 := xorPad_len _ _
        have hP6 : (xorPad 0x36 K).length = 64 := xorPad_len _ _
        obtain ⟨P5, hQ5⟩ : ∃ P, P = xorPad 0x5c K := ⟨_, rfl⟩
        obtain ⟨P6, hQ6⟩ : ∃ P, P = xorPad 0x36 K := ⟨_, rfl⟩
        rw [← hQ5, ← hQ6] at HF
        rw [← hQ5] at hP5 C5
        rw [← hQ6] at hP6 C6
        have hl6 : ¬ 9223372036854775807 < P6.length + b.length := by omega
        have hl5 : ¬ 9223372036854775807 < P5.length + (sha (P6 ++ b)).length := by rw [sha_len]; omega
        have HL6 : Sec ((P6 ++ b).length ≤ 576460752303423488) := sec (by rw [List.length_append]; omega)
        have HL5 : Sec ((P5 ++ sha (P6 ++ b)).length ≤ 576460752303423488) := sec (by rw [List.length_append, sha_len]; omega)
        clear hQ5 hQ6 hP5 hP6
        go_wp2_with (first
          | (go_at_call 49; with_reducible refine Calls.mono (C5.out q _ hc) ?_; rintro e w3 ⟨rfl, g3⟩; have c3 := (hB.gr g3).cell 0; simp at c3; have gg3 := hg.trans g3)
          | (go_at_call 49; with_reducible refine Calls.mono (C6.out q _ c3) ?_; rintro e w4 ⟨rfl, g4⟩; have gg4 := gg3.trans g4)
          | (go_at_call 48; with_reducible refine Calls.mono (rsum_any (P6 ++ b) _ HL6.out) ?_; rintro e w5 ⟨rfl, g5⟩; have gg5 := gg4.trans g5)
          | (go_at_call 48; with_reducible refine Calls.mono (rsum_any (P5 ++ sha (P6 ++ b)) _ HL5.out) ?_; rintro e w6 ⟨rfl, g6⟩; have gg6 := gg5.trans g6))
        go_ret
        exact ⟨by rw [HF.out]; rfl, gg6⟩
  · have hlti : ¬ (64 : Int) < (key.length : Int) := by omega
    obtain rfl : K = key := by rw [HK.out]; unfold keyOf; rw [if_neg hlt]
    go_enter Tryd.func29, Tryd.ntmps29
    go_wp2_with fail
    obtain ⟨q, hq⟩ : ∃ q, q = w.heap.size := ⟨_, rfl⟩
    have hqs : w.heap.size ≤ q := by rw [hq]; exact Nat.le_refl _
    have HB : Sec (Blk (w.alloc (.cells #[.string (bs K)] 9)) q 9 #[.string (bs K)]) := sec (by
      rw [hq]
      exact Blk.new w _ _)
    have HG : Sec (Gr w (w.alloc (.cells #[.string (bs K)] 9))) := sec ((Gr.refl w).alloc _)
    rw [← hq]
    clear hq
    go_loopw [] (fun wr => ∃ j : Nat, j ≤ 64 - K.length ∧ Blk wr q 9 #[.string (bs (K ++ List.replicate j 0))] ∧ Gr w wr)
      (fun wr => 64 - lenOf ((wr.cell? ⟨q, 0, none⟩).getD (.int .i64 0)))
    case atStart => exact ⟨0, by omega, by rw [List.replicate_zero, List.append_nil]; exact HB.out, HG.out⟩
    case round =>
      obtain ⟨j, hj, hB, hg⟩ := hrel
      have hc := hB.cell 0
      have hf := hB.frozen 0
      have hll : (K ++ List.replicate j (0 : UInt8)).length = K.length + j := by simp
      by_cases hjl : j < 64 - K.length
      · obtain ⟨L, hL⟩ : ∃ L, L = K ++ List.replicate j (0 : UInt8) := ⟨_, rfl⟩
        rw [← hL] at hc hB hll
        have hlt : (L.length : Int) < 64 := by omega
        have h63 : ¬ 9223372036854775807 < L.length + 1 := by omega
        have HL := sec hL
        have HJ := sec hjl
        simp at hc
        clear hL hjl hj hll
        go_wp2_with fail
        go_roundw
        case rel => exact ⟨j + 1, by have := HJ.out; omega, by rw [List.replicate_succ', ← List.append_assoc, ← HL.out]; exact hB.set_ 0 _, hg.setCell (by simpa using hqs) _⟩
        case measure =>
          have h2 := (hB.set_ 0 (.string (bs (L ++ [0])))).cell 0
          simp [h2, hc, lenOf, bs_size]
          omega
      · obtain rfl : j = 64 - K.length := by omega
        have hlt : ¬ ((K ++ List.replicate (64 - K.length) (0 : UInt8)).length : Int) < 64 := by omega
        have HP : K ++ List.replicate (64 - K.length) (0 : UInt8) = padK K := rfl
        rw [HP] at hc hB hlt
        simp at hc
        clear hll hj hjl HP
        have hP5 : (xorPad 0x5c K).length = 64 := xorPad_len _ _
        have hP6 : (xorPad 0x36 K).length = 64 := xorPad_len _ _
        obtain ⟨P5, hQ5⟩ : ∃ P, P = xorPad 0x5c K := ⟨_, rfl⟩
        obtain ⟨P6, hQ6⟩ : ∃ P, P = xorPad 0x36 K := ⟨_, rfl⟩
        rw [← hQ5, ← hQ6] at HF
        rw [← hQ5] at hP5 C5
        rw [← hQ6] at hP6 C6
        have hl6 : ¬ 9223372036854775807 < P6.length + b.length := by omega
        have hl5 : ¬ 9223372036854775807 < P5.length + (sha (P6 ++ b)).length := by rw [sha_len]; omega
        have HL6 : Sec ((P6 ++ b).length ≤ 576460752303423488) := sec (by rw [List.length_append]; omega)
        have HL5 : Sec ((P5 ++ sha (P6 ++ b)).length ≤ 576460752303423488) := sec (by rw [List.length_append, sha_len]; omega)
        clear hQ5 hQ6 hP5 hP6
        go_wp2_with (first
          | (go_at_call 49; with_reducible refine Calls.mono (C5.out q _ hc) ?_; rintro e w3 ⟨rfl, g3⟩; have c3 := (hB.gr g3).cell 0; simp at c3; have gg3 := hg.trans g3)
          | (go_at_call 49; with_reducible refine Calls.mono (C6.out q _ c3) ?_; rintro e w4 ⟨rfl, g4⟩; have gg4 := gg3.trans g4)
          | (go_at_call 48; with_reducible refine Calls.mono (rsum_any (P6 ++ b) _ HL6.out) ?_; rintro e w5 ⟨rfl, g5⟩; have gg5 := gg4.trans g5)
          | (go_at_call 48; with_reducible refine Calls.mono (rsum_any (P5 ++ sha (P6 ++ b)) _ HL5.out) ?_; rintro e w6 ⟨rfl, g6⟩; have gg6 := gg5.trans g6))
        go_ret
        exact ⟨by rw [HF.out]; rfl, gg6⟩
end Go.Proofs.YtmmpekdbknclcaaDoor

namespace Go.Proofs.YtmmpekdbknclcaaDoor
set_option maxRecDepth 100000
open Go.RowKit
set_option linter.unusedVariables false
def hd4 : List UInt8 := [104, 101, 97, 100]
end Go.Proofs.YtmmpekdbknclcaaDoor

namespace Go.Proofs.YtmmpekdbknclcaaDoor
set_option maxRecDepth 100000
open Go.RowKit Go.ChangeShapes Go.WideShapes
theorem flat_single {α β : Type} (f : α → β) : ∀ xs : List α, xs.flatMap (fun l => [f l]) = xs.map f
  | [] => rfl
  | x :: r => by rw [List.flatMap_cons, flat_single f r]; rfl
end Go.Proofs.YtmmpekdbknclcaaDoor

namespace Go.Proofs.YtmmpekdbknclcaaDoor
set_option maxRecDepth 100000
open Go.RowKit Go.ChangeShapes Go.WideShapes
set_option linter.unusedVariables false
structure StrsIn (w : World) (A : Option Addr) (c : Nat) (l : List (List UInt8)) : Prop where
  row : StrRow w A l.length l
  len : l.length ≤ 1048576
  size : ∀ x ∈ l, x.length ≤ 1048576
  cap : l.length ≤ c
  nil : A = none → l.length = 0 ∧ c = 0
def szStr (l : List UInt8) : Nat := l.length + 1
theorem strs_in {w : World} {A : Option Addr} {c : Nat} {l : List (List UInt8)} (hR : sliceR w 1 strR [.slice A l.length c] l) (hb : szs szStr l ≤ 1048576) : StrsIn w A c l := by
  obtain ⟨A', c', e', h1, h2, hrow⟩ := sliceR_row (k := 1) (fun l => [strV l]) (fun _ => rfl) (by omega) (fun ci x h => h) hR
  simp only [List.cons.injEq, and_true, Value.slice.injEq, true_and] at e'
  obtain ⟨rfl, rfl⟩ := e'
  obtain ⟨A2, c2, e2, _, h3, _⟩ := hR
  simp only [List.cons.injEq, and_true, Value.slice.injEq, true_and] at e2
  obtain ⟨rfl, rfl⟩ := e2
  have hl := szs_len szStr (fun x => Nat.succ_le_succ (Nat.zero_le _)) l
  rw [flat_single] at hrow
  refine ⟨hrow, by omega, fun x hx => ?_, h1, fun h => ?_⟩
  · have h5 := szs_mem szStr hx
    unfold szStr at h5 hb
    omega
  · have := h3.2 h
    omega
end Go.Proofs.YtmmpekdbknclcaaDoor

namespace Go.Proofs.YtmmpekdbknclcaaDoor
open Go.RowKit
set_option linter.unusedVariables false
theorem strV_oneCell {ss : List (List UInt8)} : ∀ u ∈ ss.map strV, u.oneCell' = true := by
  intro u hu
  obtain ⟨c, _, rfl⟩ := List.mem_map.1 hu
  rfl
set_option maxRecDepth 100000 in
set_option maxHeartbeats 1000000 in
theorem strings_any (ss : List (List UInt8)) (m : Nat) (A : Option Addr) (cap : Nat) (w : World) (hm : m ≤ 1099511627776) (hrow : StrRow w A m ss) (hA : A = none → m = 0 ∧ cap = 0) :
    Calls Tryd.prog 12 #[.slice A m cap] w fun e w' => ∃ A' cap', e = .returned (.slice A' m cap') ∧ w'.ownsRow w.heap.size 9 1 (.slice A' m cap') m (ss.map strV) ∧ Gr w w' := by
  obtain ⟨i0, hi0, hz0, hz1, hz2⟩ := info_parts E.str.info
  have hlen := hrow.len
  cases A with
  | none =>
    obtain ⟨rfl, rfl⟩ := hA rfl
    obtain rfl : ss = [] := List.eq_nil_of_length_eq_zero hlen
    go_enter Tryd.func12, Tryd.ntmps12
    go_wp2_with (refine wpList_append_own_none rfl (.const (.slice none 0 0)) (.tmp 3) 22 rfl w.heap.size 9 i0 1 E.str.under hi0 _ 0 [] rfl (World.ownsRow_nil _ _ _ _) rfl ?_)
    go_ret
    exact ⟨none, 0, rfl, World.ownsRow_nil _ _ _ _, Gr.refl _⟩
  | some ad =>
    have hnews : ∀ j u, (ss.map strV)[j]? = some u → w.cell? (ad.add j) = some u := by
      intro j u hu
      have hj : j < ss.length := by have := (List.getElem?_eq_some_iff.1 hu).1; simpa using this
      obtain ⟨b, off, e, hc⟩ := Row.at_ hrow (by omega)
      injection e with e
      subst e
      have : (⟨b, off, none⟩ : Addr).add j = ⟨b, off + j, none⟩ := by unfold Addr.add; split <;> simp_all
      rw [this]
      exact hc j u hu
    have HN := sec hnews
    have HL := sec hlen
    clear hnews hrow
    go_enter Tryd.func12, Tryd.ntmps12
    go_wp2_with (refine wpList_append_own _ rfl (.const (.slice none 0 0)) (.tmp 3) 22 rfl w.heap.size 9 i0 (.string (bs [])) 1 16 E.str.under hi0 hz0 hz1 hz2 E.str.zcells (by omega) _ 0 [] rfl (World.ownsRow_nil _ _ _ _) ad m cap (ss.map strV) rfl (by rw [List.length_map, HL.out, Nat.mul_one]) HN.out strV_oneCell (by unfold maxLen; omega) (by omega) (Nat.le_refl _) ?_; intro v' w' hown hgr hnil)
    go_ret
    rw [Nat.zero_add, List.nil_append] at hown
    have hg : Gr w w' := (Gr.refl w).grown hgr (by rintro k hk; cases hk)
    rcases hown.2 with ⟨rfl, h0⟩ | ⟨g, cap', cur, rfl, _⟩
    · subst h0
      exact ⟨none, 0, rfl, hown, hg⟩
    · exact ⟨some ⟨g, 0, none⟩, cap', rfl, hown, hg⟩
end Go.Proofs.YtmmpekdbknclcaaDoor

namespace Go.Proofs.YtmmpekdbknclcaaDoor
set_option maxRecDepth 100000
open Go.RowKit Go.ChangeShapes Go.WideShapes
set_option linter.unusedVariables false
/-! ### marks in a row -/
def markL (x : Int × List UInt8) : List Value := [.int .i64 x.1, .string (bs x.2)]
theorem markL_one {fs : List (Int × List UInt8)} : ∀ u ∈ fs.flatMap markL, u.oneCell' = true := by
  intro u hu
  obtain ⟨f, _, h⟩ := List.mem_flatMap.1 hu
  simp only [markL, List.mem_cons, List.not_mem_nil, or_false] at h
  rcases h with rfl | rfl <;> rfl
def MRow (w : World) (A : Option Addr) (n : Nat) (ms : List (Int × List UInt8)) : Prop := Row w 2 A n (ms.flatMap markL)
theorem MRow.gr {w w' : World} {A : Option Addr} {n : Nat} {ms : List (Int × List UInt8)} (h : MRow w A n ms) (g : Gr w w') : MRow w' A n ms := Row.gr h g
theorem MRow.len {w : World} {A : Option Addr} {n : Nat} {ms : List (Int × List UInt8)} (h : MRow w A n ms) : ms.length = n := Row.flen markL (fun _ => rfl) (by omega) h
theorem MRow.cell {w : World} {A : Option Addr} {n : Nat} {ms : List (Int × List UInt8)} (h : MRow w A n ms) {i : Nat} (hi : i < ms.length) :
    ∃ b off, A = some ⟨b, off, none⟩ ∧ w.cell? ⟨b, off + i * 2, none⟩ = some (.int .i64 ms[i].1) ∧ w.cell? ⟨b, off + i * 2 + 1, none⟩ = some (.string (bs ms[i].2)) := by
  obtain ⟨b, off, e, _, hc⟩ := Row.fcell markL (fun _ => rfl) (by omega) h hi
  exact ⟨b, off, e, hc 0 _ rfl, hc 1 _ rfl⟩

/-! ### keys and a sealed head as arguments -/
def szMark (x : Int × List UInt8) : Nat := x.2.length + 1
structure MarksIn (w : World) (A : Option Addr) (c : Nat) (l : List (Int × List UInt8)) : Prop where
  row : MRow w A l.length l
  len : l.length ≤ 1048576
  size : ∀ x ∈ l, x.2.length ≤ 1048576
  cap : l.length ≤ c
  nil : A = none → l.length = 0 ∧ c = 0
theorem marks_in {w : World} {A : Option Addr} {c : Nat} {l : List (Int × List UInt8)} (hR : sliceR w 2 (fun cs (x : Int × List UInt8) => cs = markL x) [.slice A l.length c] l) (hb : szs szMark l ≤ 1048576) : MarksIn w A c l := by
  obtain ⟨A', c', e', h1, h2, hrow⟩ := sliceR_row markL (fun _ => rfl) (by omega) (fun ci x h => h) hR
  simp only [List.cons.injEq, and_true, Value.slice.injEq, true_and] at e'
  obtain ⟨rfl, rfl⟩ := e'
  obtain ⟨A2, c2, e2, _, h3, _⟩ := hR
  simp only [List.cons.injEq, and_true, Value.slice.injEq, true_and] at e2
  obtain ⟨rfl, rfl⟩ := e2
  have hl := szs_len szMark (fun x => Nat.succ_le_succ (Nat.zero_le _)) l
  refine ⟨hrow, by omega, fun x hx => ?_, h1, fun h => ?_⟩
  · have h5 := szs_mem szMark hx
    unfold szMark at h5 hb
    omega
  · have := h3.2 h
    omega
def keysA (A : Option Addr) (n c : Nat) (B : Option Addr) (m d : Nat) (need : Int) : Array Value := #[.slice A n c, .slice B m d, .int .i64 need]
def sealA (n : Int) (r : List UInt8) (A : Option Addr) (k c : Nat) : Array Value := #[.int .i64 n, .string (bs r), .slice A k c]
theorem opens_keys (w : World) : Opens w 24 3 (fun cs (x : List (List UInt8) × List (List UInt8) × Int) => ∃ A c B d, cs = [.slice A x.1.length c, .slice B x.2.1.length d, .int .i64 x.2.2] ∧ sliceR w 1 strR [.slice A x.1.length c] x.1 ∧ sliceR w 1 strR [.slice B x.2.1.length d] x.2.1) (fun x => szs szStr x.1 + szs szStr x.2.1) :=
  (opens_struct Tryd.underlying24 (by kernel_rfl) (opensF_cons rfl (opens_slice Tryd.underlying22 (by kernel_rfl) (opens_string Tryd.underlying9 (by kernel_rfl) w) (by omega)) (opensF_cons rfl (opens_slice Tryd.underlying22 (by kernel_rfl) (opens_string Tryd.underlying9 (by kernel_rfl) w) (by omega)) (opensF_cons rfl (opens_int Tryd.underlying3 (by kernel_rfl) w) (opensF_nil w 3))))).map
    (fun a => (a.1, a.2.1, a.2.2.1)) (by
      rintro cs ⟨ss, ws, n, _⟩ ⟨c1, c2, rfl, _, h1, d1, d2, rfl, _, h2, e1, e2, rfl, _, h3, h4⟩
      have h1' := h1
      have h2' := h2
      obtain ⟨A, c, hc, _⟩ := h1
      obtain ⟨B, d, hd, _⟩ := h2
      simp only at hc hd
      subst hc
      subst hd
      obtain ⟨h5, _⟩ := h3
      simp only at h5
      subst h5
      simp only [nilR] at h4
      subst h4
      exact ⟨A, c, B, d, rfl, h1', h2'⟩) (by intro a; simp only; unfold szStr; omega)
theorem open_keys {w : World} {r : Reach} {base : Nat} {H : Type} {enc : TypeId × Value → H} {v : Value} {d : DataW H} {p : List MemPlace}
    (hv : Value.okWide Tryd.prog w r base 24 v) (hd : DataW.Trod enc Tryd.prog w 0 (fun _ => true) true 24 v d p) (hb : Rows.uptoBulk d ≤ 1048576) :
    ∃ A c B e need ss ws, v = .agg (keysA A (List.length ss) c B (List.length ws) e need) ∧ StrsIn w A c ss ∧ StrsIn w B e ws := by
  obtain ⟨cs, ⟨ss, ws, need⟩, rfl, ⟨A, c, B, e, hc, h1, h2⟩, hs⟩ := open_structD_arg Tryd.underlying24 (opens_keys w) hv hd
  simp only at hc h1 h2 hs
  refine ⟨A, c, B, e, need, ss, ws, ?_, strs_in h1 (by omega), strs_in h2 (by omega)⟩
  unfold keysA
  congr 1
  exact Array.toList_inj.1 hc
/-! ### P11.5 -/
/-- the marks behind a last one: the error -/
def ckM (ws : List (List UInt8)) (b : List UInt8) : Int → List (Int × List UInt8) → Int
  | _, [] => 0
  | last, (w, s) :: r => if w ≤ last ∨ 3 < w ∨ (ws.length : Int) ≤ w then 3 else if seal' (ws.getD w.toNat []) b = s then ckM ws b w r else 13
/-- P11.5: the error -/
def ckH (ws : List (List UInt8)) (n : Int) (r : List UInt8) (ms : List (Int × List UInt8)) : Int :=
  if (hdTxt n r).2 = 0 then (if ckM ws (hd4 ++ (hdTxt n r).1) (-1) ms = 0 then (if ms.length < 3 then 13 else 0) else ckM ws (hd4 ++ (hdTxt n r).1) (-1) ms) else (hdTxt n r).2
/-- where the loop stands: i marks seen, all of them right; the last one's number -/
def ckSeen (ws : List (List UInt8)) (b : List UInt8) (ms : List (Int × List UInt8)) (i : Nat) (last : Int) : Prop :=
  ckM ws b (-1) ms = ckM ws b last (ms.drop i) ∧ (i = 0 → last = -1) ∧ (∀ h : 0 < i ∧ i ≤ ms.length, last = (ms[i - 1]'(by omega)).1 ∧ 0 ≤ last)
theorem ckSeen0 (ws : List (List UInt8)) (b : List UInt8) (ms : List (Int × List UInt8)) : ckSeen ws b ms 0 (-1) := ⟨rfl, fun _ => rfl, fun h => absurd h.1 (by omega)⟩
theorem ckM_cons (ws : List (List UInt8)) (b : List UInt8) (last w : Int) (s : List UInt8) (r : List (Int × List UInt8)) :
    ckM ws b last ((w, s) :: r) = if w ≤ last ∨ 3 < w ∨ (ws.length : Int) ≤ w then 3 else if seal' (ws.getD w.toNat []) b = s then ckM ws b w r else 13 := rfl
theorem ckSeen.here {ws : List (List UInt8)} {b : List UInt8} {ms : List (Int × List UInt8)} {i : Nat} {last : Int} (h : ckSeen ws b ms i last) (hi : i < ms.length) :
    ckM ws b (-1) ms = if ms[i].1 ≤ last ∨ 3 < ms[i].1 ∨ (ws.length : Int) ≤ ms[i].1 then 3 else if seal' (ws.getD ms[i].1.toNat []) b = ms[i].2 then ckM ws b ms[i].1 (ms.drop (i + 1)) else 13 := by
  rw [h.1, List.drop_eq_getElem_cons hi]
  exact ckM_cons ..
theorem ckSeen.next {ws : List (List UInt8)} {b : List UInt8} {ms : List (Int × List UInt8)} {i : Nat} {last : Int} (h : ckSeen ws b ms i last) (hi : i < ms.length)
    (h1 : ¬ (ms[i].1 ≤ last ∨ 3 < ms[i].1 ∨ (ws.length : Int) ≤ ms[i].1)) (h2 : seal' (ws.getD ms[i].1.toNat []) b = ms[i].2) : ckSeen ws b ms (i + 1) ms[i].1 := by
  refine ⟨?_, fun e => absurd e (by omega), fun _ => ⟨rfl, ?_⟩⟩
  · rw [h.here hi, if_neg h1, if_pos h2]
  · have hl : -1 ≤ last := by
      by_cases e : i = 0
      · have := h.2.1 e; omega
      · have := (h.2.2 ⟨by omega, by omega⟩).2; omega
    omega
theorem ckSeen.done {ws : List (List UInt8)} {b : List UInt8} {ms : List (Int × List UInt8)} {i : Nat} {last : Int} (h : ckSeen ws b ms i last) (hi : ms.length ≤ i) : ckM ws b (-1) ms = 0 := by
  rw [h.1, List.drop_eq_nil_of_le hi]
  rfl
theorem ckSeen.low {ws : List (List UInt8)} {b : List UInt8} {ms : List (Int × List UInt8)} {i : Nat} {last : Int} (h : ckSeen ws b ms i last) (hi : i ≤ ms.length) : -1 ≤ last := by
  by_cases e : i = 0
  · have := h.2.1 e; omega
  · have := (h.2.2 ⟨by omega, by omega⟩).2; omega
end Go.Proofs.YtmmpekdbknclcaaDoor

namespace Go.Proofs.YtmmpekdbknclcaaDoor
set_option maxRecDepth 100000
open Go.RowKit
set_option linter.unusedVariables false
/-- P10.5: is a seal right -/
def rgB (ss : List (List UInt8)) (b : List UInt8) (w : Int) (sl : List UInt8) : Bool := decide (w < (ss.length : Int)) && (seal' (ss.getD w.toNat []) b == sl)
def rgL (ss : List (List UInt8)) (b : List UInt8) (s : Stp) : List Bool := List.zipWith (rgB ss b) s.who s.seals
/-- P10.5: the error -/
def stCk (ss : List (List UInt8)) (need at_ : Int) (s : Stp) : Int :=
  if stE s = 0 then (if (bodyR at_ s).2 = 0 then (if (rgL ss (bodyR at_ s).1 s).all id = true ∧ need ≤ (s.who.length : Int) then 0 else 13) else (bodyR at_ s).2) else stE s
theorem rgL_len {ss : List (List UInt8)} {b : List UInt8} {s : Stp} (h : s.seals.length = s.who.length) : (rgL ss b s).length = s.who.length := by
  unfold rgL; rw [List.length_zipWith, h, Nat.min_self]
theorem rgL_get {ss : List (List UInt8)} {b : List UInt8} {s : Stp} {i : Nat} (hi : i < s.who.length) (hs : i < s.seals.length) (h : i < (rgL ss b s).length) : (rgL ss b s)[i] = rgB ss b s.who[i] s.seals[i] := by
  exact List.getElem_zipWith (h := h)
theorem all_take (l : List Bool) (i : Nat) (h : i < l.length) (ha : (l.take i).all id = true) : (l.take (i + 1)).all id = l[i] := by
  rw [List.take_succ_eq_append_getElem h, List.all_append, ha]; simp
theorem all_bad (l : List Bool) (i : Nat) (h : i < l.length) (hb : l[i] = false) : l.all id = false := by
  rw [List.all_eq_false]
  exact ⟨l[i], List.getElem_mem h, by simp [hb]⟩
theorem count_take (l : List Bool) (i : Nat) (h : i < l.length) : (l.take (i + 1)).count true = (l.take i).count true + (if l[i] = true then 1 else 0) := by
  rw [List.take_succ_eq_append_getElem h, List.count_append]
  cases l[i] <;> rfl
theorem count_all (l : List Bool) : (l.count true < l.length ↔ l.all id = false) := by
  induction l with
  | nil => simp
  | cons b r ih =>
    have hle := List.count_le_length (a := true) (l := r)
    cases b
    · rw [List.count_cons_of_ne (by simp)]
      simp only [List.length_cons, List.all_cons, id, Bool.false_and, iff_true]
      omega
    · rw [List.count_cons_self]
      simp only [List.length_cons, List.all_cons, id, Bool.true_and]
      rw [← ih]
      omega

set_option maxHeartbeats 8000000 in
theorem stCheck_any (A0 : Option Addr) (m c0 : Nat) (B0 : Option Addr) (m' d0 : Nat) (need : Int) (ss : List (List UInt8)) (at_ : Int) (s : Stp) (A : Option Addr) (c : Nat) (B : Option Addr) (d : Nat) (w : World)
    (hK : StrRow w A0 m ss) (hm : m ≤ 1099511627776) (hss : ∀ x ∈ ss, x.length ≤ 1099511627776) (hR : StR w s A c B d) (hz : StSz 1099511627776 s) (hT : TabK w) :
    Calls Tryd.prog 10 #[.agg (keysA A0 m c0 B0 m' d0 need), .int .i64 at_, .agg (stepA s A c B d)] w fun e w' => e = .returned (.int .i64 (stCk ss need at_ s)) ∧ Gr w w' := by
  obtain ⟨wa, hwa⟩ : ∃ x, x = (w.alloc (.cells (keysA A0 m c0 B0 m' d0 need) 24)).alloc (.cells (stepA s A c B d) 37) := ⟨_, rfl⟩
  have hk : Blk wa w.heap.size 24 (keysA A0 m c0 B0 m' d0 need) := by rw [hwa]; exact (Blk.new w _ _).alloc _
  have hb : Blk wa (w.heap.size + 1) 37 (stepA s A c B d) := by rw [hwa]; exact Blk.new1 w _ _ _
  have hg0 : Gr w wa := by rw [hwa]; exact ((Gr.refl w).alloc _).alloc _
  obtain ⟨p, hp⟩ : ∃ p, p = w.heap.size := ⟨_, rfl⟩
  rw [← hp] at hk hb
  have HGo : Sec (Calls Tryd.prog 17 #[.agg (stepA s A c B d)] wa fun e w' => e = .returned (.int .i64 (stE s)) ∧ Gr wa w') := sec (stGood_any s A c B d wa (hR.gr hg0) hz)
  have HBo : Sec (∀ W, Calls Tryd.prog 18 #[.int .i64 at_, .agg (stepA s A c B d)] W fun e w' => e = .returned (.tuple #[.string (bs (bodyR at_ s).1), .int .i64 (bodyR at_ s).2]) ∧ Gr W w') := sec (fun W => stBody_any at_ s A c B d W hz)
  have HBL := sec (bodyR_len at_ s)
  have HSe : Sec (∀ key : List UInt8, key.length ≤ 1099511627776 → ∀ w', Gr wa w' → Calls Tryd.prog 19 #[.string (bs key), .string (bs (bodyR at_ s).1)] w' fun e w'' => e = .returned (.string (bs (seal' key (bodyR at_ s).1))) ∧ Gr w' w'') := sec (fun key hkey w' g => seal_any key _ w' (hT.gr (hg0.trans g)) (by omega) (by have := HBL.out; omega))
  have HW := sec (hR.who.gr hg0)
  have HS := sec (hR.seals.gr hg0)
  have HKR := sec (hK.gr hg0)
  have HKL := sec (StrRow.len hK)
  have HSS := sec hss
  have hwl := hz.who
  have hsl := hz.seals
  have HSE := sec (fun h => stE_zero (s := s) h)
  obtain ⟨V, hV⟩ : ∃ V : Int, V = stCk ss need at_ s := ⟨_, rfl⟩
  rw [← hV]
  have HV := sec hV
  obtain ⟨E, hE⟩ : ∃ E, E = stE s := ⟨_, rfl⟩
  rw [← hE] at HGo HSE
  have HE := sec hE
  obtain ⟨b, hbb⟩ : ∃ b, b = (bodyR at_ s).1 := ⟨_, rfl⟩
  obtain ⟨be, hbe⟩ : ∃ b, b = (bodyR at_ s).2 := ⟨_, rfl⟩
  rw [← hbb, ← hbe] at HBo
  rw [← hbb] at HSe
  have HVV : Sec (V = if E = 0 then (if be = 0 then (if (rgL ss b s).all id = true ∧ need ≤ (s.who.length : Int) then 0 else 13) else be) else E) := sec (by rw [HV.out, hbb, hbe, hE]; rfl)
  clear hV hE hbb hbe HV HE HBL
  obtain ⟨r, o, n, who, seals⟩ := s
  unfold stepA at hb hwa HGo HBo
  unfold keysA at hk hwa
  unfold stepA keysA
  simp only at hb hwa hwl hsl HW HS HGo HBo HVV HSE ⊢
  have HCELL : Sec (∀ w', Gr wa w' → w'.cell? ⟨p, 0, none⟩ = some (.slice A0 m c0) ∧ w'.cell? ⟨p, 2, none⟩ = some (.int .i64 need) ∧ w'.cell? ⟨p + 1, 0, none⟩ = some (.string (bs r)) ∧ w'.cell? ⟨p + 1, 1, none⟩ = some (.string (bs o)) ∧ w'.cell? ⟨p + 1, 2, none⟩ = some (.string (bs n)) ∧ w'.cell? ⟨p + 1, 3, none⟩ = some (.slice A who.length c) ∧ w'.cell? ⟨p + 1, 4, none⟩ = some (.slice B seals.length d)) := sec (fun w' g => ⟨(hk.gr g).cell 0, (hk.gr g).cell 2, (hb.gr g).cell 0, (hb.gr g).cell 1, (hb.gr g).cell 2, (hb.gr g).cell 3, (hb.gr g).cell 4⟩)
  clear hb hk hK hss hR hz hT
  obtain ⟨u0, u1, u2, u3, u4, u5, u6⟩ := HCELL.out wa (Gr.refl _)
  by_cases h0 : E = 0
  · obtain ⟨-, -, -, -, z4, z5, z6, z7, -⟩ := HSE.out h0
    try simp only at z4 z5 z6 z7
    have HV1 : Sec (V = if be = 0 then (if (rgL ss b ⟨r, o, n, who, seals⟩).all id = true ∧ need ≤ (who.length : Int) then 0 else 13) else be) := sec (by rw [HVV.out, if_pos h0])
    subst h0
    by_cases h1 : be = 0
    · have HV2 : Sec (V = if (rgL ss b ⟨r, o, n, who, seals⟩).all id = true ∧ need ≤ (who.length : Int) then 0 else 13) := sec (by rw [HV1.out, if_pos h1])
      have HSL := sec z5
      have HZ7 := sec z7
      have HRL : Sec ((rgL ss b ⟨r, o, n, who, seals⟩).length = who.length) := sec (rgL_len (s := ⟨r, o, n, who, seals⟩) z5)
      subst h1
      clear HVV HV1 HSE z5 z6 z7
      go_enter Tryd.func10, Tryd.ntmps10
      go_upto_region 1 with fail
      rw [← hwa, ← hp]
      clear hwa hp
      go_wp2_with (first
        | (go_at_call 17; refine Calls.mono HGo.out ?_; rintro e w1 ⟨rfl, g1⟩; obtain ⟨v0, v1, v2, v3, v4, v5, v6⟩ := HCELL.out w1 g1)
        | (go_at_call 18; refine Calls.mono (HBo.out _) ?_; rintro e w2 ⟨rfl, g2'⟩; have g2 : Gr wa w2 := Gr.trans g1 g2'; obtain ⟨t0, t1, t2, t3, t4, t5, t6⟩ := HCELL.out w2 g2))
      clear u0 u1 u2 u3 u4 u5 u6 v0 v1 v2 v3 v4 v5 v6 t0 t1 t2 t3 t4 t5 t6
      go_loopg [29, 10, 11] who.length (fun fuel iv _ _ wr => ∃ i : Nat, iv = .int .i64 (i : Int) ∧ who.length ≤ i + fuel ∧ i ≤ who.length ∧ Sec (((rgL ss b ⟨r, o, n, who, seals⟩).take i).all id = true) ∧ Gr wa wr)
      case atStart => exact ⟨0, rfl, by omega, by omega, sec rfl, g2⟩
      case round =>
        clear g1 g2 g2'
        obtain ⟨i, rfl, hik, hi, HAL, gw⟩ := hrel
        by_cases hlt : i < who.length
        · have hsl2 : i < seals.length := by have := HSL.out; omega
          have hii : (i : Int) < (who.length : Int) := by omega
          have hjj : (i : Int) < (seals.length : Int) := by omega
          have hrl : i < (rgL ss b ⟨r, o, n, who, seals⟩).length := by rw [HRL.out]; exact hlt
          have HGET := sec (rgL_get (ss := ss) (b := b) (s := ⟨r, o, n, who, seals⟩) hlt hsl2 hrl)
          have HAT := sec (all_take _ i hrl HAL.out)
          have HBAD := sec (all_bad _ i hrl)
          have hwz := HZ7.out _ (List.getElem_mem hlt)
          obtain ⟨bk, off, rfl, e0⟩ := (HW.out.gr gw).cell hlt
          obtain ⟨bk2, off2, rfl, -⟩ := (HS.out.gr gw).cell hsl2
          have HX1 : Sec (∀ W, Gr wa W → W.cell? ⟨p, 0, none⟩ = some (.slice A0 m c0) ∧ W.cell? ⟨p + 1, 4, none⟩ = some (.slice (some ⟨bk2, off2, none⟩) seals.length d) ∧ W.cell? ⟨bk2, off2 + i, none⟩ = some (.string (bs seals[i])) ∧ Gr wa W) := sec (fun W g => by
            obtain ⟨b', o', e', h'⟩ := (HS.out.gr g).cell hsl2
            injection e' with e'; injection e' with e3 e4 _
            subst e3 e4
            exact ⟨(HCELL.out W g).1, (HCELL.out W g).2.2.2.2.2.2, h', g⟩)
          obtain ⟨mw, hmw⟩ : ∃ x, x = who[i] := ⟨_, rfl⟩
          obtain ⟨sl, hslx⟩ : ∃ x, x = seals[i] := ⟨_, rfl⟩
          try simp only at HGET
          rw [← hmw, ← hslx] at HGET
          rw [← hmw] at e0 hwz
          rw [← hslx] at HX1
          obtain ⟨a, rfl⟩ : ∃ a : Nat, mw = (a : Int) := ⟨mw.toNat, by omega⟩
          have HII := sec hlt
          have hkl := HKL.out
          clear hmw hslx hsl2 hwz
          obtain ⟨y0, y1, y2, -⟩ := HX1.out wr gw
          by_cases ham : a < m
          · have haw : a < ss.length := by omega
            have hgd : ss.getD (a : Int).toNat [] = ss[a] := by rw [Int.toNat_natCast, List.getD_eq_getElem?_getD, List.getElem?_eq_getElem haw]; rfl
            have HRG : Sec (rgB ss b (a : Int) sl = (seal' ss[a] b == sl)) := sec (by unfold rgB; rw [decide_eq_true (show (a : Int) < (ss.length : Int) by omega), hgd]; rfl)
            obtain ⟨bk3, off3, rfl, -⟩ := (HKR.out.gr gw).cell haw
            have hwsz := HSS.out ss[a] (List.getElem_mem haw)
            have HKP0 : Sec (∀ W, Gr wa W → W.cell? ⟨bk3, off3 + a, none⟩ = some (.string (bs ss[a]))) := sec (fun W g => by
              obtain ⟨b', o', e', h'⟩ := (HKR.out.gr g).cell haw
              injection e' with e'; injection e' with e3 e4 _
              subst e3 e4
              exact h')
            obtain ⟨key, hkey⟩ : ∃ key, key = ss[a] := ⟨_, rfl⟩
            rw [← hkey] at hwsz HRG HKP0
            have HSk := sec (fun W (g : Gr wa W) => HSe.out key hwsz W g)
            obtain ⟨sv, hsv⟩ : ∃ sv, sv = seal' key b := ⟨_, rfl⟩
            rw [← hsv] at HSk HRG
            have q0 : decide (m ≤ a) = false := decide_eq_false (by omega)
            have ham' : (a : Int) < (m : Int) := by omega
            have HKP : Sec (∀ W, Gr wa W → W.cell? ⟨p, 0, none⟩ = some (.slice (some ⟨bk3, off3, none⟩) m c0) ∧ W.cell? ⟨p + 1, 4, none⟩ = some (.slice (some ⟨bk2, off2, none⟩) seals.length d) ∧ W.cell? ⟨bk2, off2 + i, none⟩ = some (.string (bs sl)) ∧ W.cell? ⟨bk3, off3 + a, none⟩ = some (.string (bs key)) ∧ Gr wa W) := sec (fun W g => ⟨(HX1.out W g).1, (HX1.out W g).2.1, (HX1.out W g).2.2.1, HKP0.out W g, g⟩)
            have gd : Gr wa wr.drew := gw.drew
            clear hkey hsv hwsz hgd haw ham hkl
            by_cases hsl3 : sv = sl
            · have HNX : Sec (((rgL ss b ⟨r, o, n, who, seals⟩).take (i + 1)).all id = true) := sec (by rw [HAT.out, HGET.out, HRG.out, hsl3]; simp)
              subst hsl3
              go_wp2_with fail
              go_region_held3 (fun W => W.cell? ⟨p, 0, none⟩ = some (.slice (some ⟨bk3, off3, none⟩) m c0) ∧ W.cell? ⟨p + 1, 4, none⟩ = some (.slice (some ⟨bk2, off2, none⟩) seals.length d) ∧ W.cell? ⟨bk2, off2 + i, none⟩ = some (.string (bs sv)) ∧ W.cell? ⟨bk3, off3 + a, none⟩ = some (.string (bs key)) ∧ Gr wa W)
                (first | with_reducible assumption | with_reducible exact HKP.out _ gd | with_reducible exact HKP.out _ g4 | fail)
                (first
                  | (go_at_call 19; (with_reducible refine Calls.mono (HSk.out wr.drew gd) ?_); rintro e w4 ⟨rfl, g4'⟩; have g4 : Gr wa w4 := Gr.trans gd g4')
                  | fail)
              all_goals
                go_wp2_with fail
                go_roundg (gk - 1)
                case rel => exact ⟨i + 1, by go_num, by omega, HII.out, HNX, g4⟩
                case measure => have := HII.out; omega
            · have HV13 : Sec (V = 13) := sec (by
                have hx : (sv == sl) = false := by rw [beq_eq_false_iff_ne]; exact hsl3
                rw [HV2.out, HBAD.out (by rw [HGET.out, HRG.out, hx]), if_neg (by simp)])
              have hne : (sv == sl) = false := by rw [beq_eq_false_iff_ne]; exact hsl3
              have hne2 : (sv != sl) = true := by rw [bne_iff_ne]; exact hsl3
              clear hsl3
              go_wp2_with fail
              go_region_held3 (fun W => W.cell? ⟨p, 0, none⟩ = some (.slice (some ⟨bk3, off3, none⟩) m c0) ∧ W.cell? ⟨p + 1, 4, none⟩ = some (.slice (some ⟨bk2, off2, none⟩) seals.length d) ∧ W.cell? ⟨bk2, off2 + i, none⟩ = some (.string (bs sl)) ∧ W.cell? ⟨bk3, off3 + a, none⟩ = some (.string (bs key)) ∧ Gr wa W)
                (first | with_reducible assumption | with_reducible exact HKP.out _ gd | with_reducible exact HKP.out _ g4 | fail)
                (first
                  | (go_at_call 19; (with_reducible refine Calls.mono (HSk.out wr.drew gd) ?_); rintro e w4 ⟨rfl, g4'⟩; have g4 : Gr wa w4 := Gr.trans gd g4')
                  | fail)
              all_goals
                go_wp2_with fail
                go_ret
                exact ⟨by rw [HV13.out]; rfl, hg0.trans g4⟩
          · have HRG : Sec (rgB ss b (a : Int) sl = false) := sec (by unfold rgB; rw [decide_eq_false (show ¬ (a : Int) < (ss.length : Int) by omega)]; rfl)
            have HV13 : Sec (V = 13) := sec (by rw [HV2.out, HBAD.out (by rw [HGET.out, HRG.out]), if_neg (by simp)])
            have q0 : decide (m ≤ a) = true := decide_eq_true (by omega)
            clear ham hkl
            go_wp2_with fail
            go_quiet (fail)
            go_wp2_with fail
            go_ret
            exact ⟨by rw [HV13.out]; rfl, hg0.trans (Gr.drewN gw _)⟩
        · have HALL : Sec ((rgL ss b ⟨r, o, n, who, seals⟩).all id = true) := sec (by
            have h := HAL.out
            rwa [List.take_of_length_le (by rw [HRL.out]; omega)] at h)
          obtain hE2 : i = who.length := by omega
          obtain ⟨y0, y1, y2, y3, y4, y5, y6⟩ := HCELL.out wr gw
          have q : decide (i < who.length) = false := decide_eq_false hlt
          clear hE2 hlt hik
          by_cases hn : need ≤ (who.length : Int)
          · have q1 : decide ((who.length : Int) < need) = false := decide_eq_false (by omega)
            have HV0 : Sec (V = 0) := sec (by rw [HV2.out, if_pos ⟨HALL.out, hn⟩])
            clear hn
            go_wp2_with fail
            go_ret
            exact ⟨by rw [HV0.out]; rfl, hg0.trans gw⟩
          · have q1 : decide ((who.length : Int) < need) = true := decide_eq_true (by omega)
            have HV0 : Sec (V = 13) := sec (by rw [HV2.out, if_neg (fun h => hn h.2)])
            clear hn
            go_wp2_with fail
            go_ret
            exact ⟨by rw [HV0.out]; rfl, hg0.trans gw⟩
    · have HV0 : Sec (V = be) := sec (by rw [HV1.out, if_neg h1])
      have m0 : (be != 0) = true := by simpa using h1
      clear HVV HV1 HSE z4 z5 z6 z7
      go_enter Tryd.func10, Tryd.ntmps10
      go_upto_region 1 with fail
      rw [← hwa, ← hp]
      clear hwa hp
      go_wp2_with (first
        | (go_at_call 17; refine Calls.mono HGo.out ?_; rintro e w1 ⟨rfl, g1⟩; obtain ⟨v0, v1, v2, v3, v4, v5, v6⟩ := HCELL.out w1 g1)
        | (go_at_call 18; refine Calls.mono (HBo.out _) ?_; rintro e w2 ⟨rfl, g2'⟩))
      go_ret
      exact ⟨by rw [HV0.out]; rfl, hg0.trans (g1.trans g2')⟩
  · have HV0 : Sec (V = E) := sec (by rw [HVV.out, if_neg h0])
    have m0 : (E != 0) = true := by simpa using h0
    clear HVV HSE
    go_enter Tryd.func10, Tryd.ntmps10
    go_upto_region 1 with fail
    rw [← hwa, ← hp]
    clear hwa hp
    go_wp2_with (go_at_call 17; refine Calls.mono HGo.out ?_; rintro e w1 ⟨rfl, g1⟩)
    go_ret
    exact ⟨by rw [HV0.out]; rfl, hg0.trans g1⟩
end Go.Proofs.YtmmpekdbknclcaaDoor

namespace Go.Proofs.YtmmpekdbknclcaaDoor
set_option maxRecDepth 100000
open Go.RowKit
set_option linter.unusedVariables false
theorem E.ints : ElemOk 35 3 (.int .i64 0) 1 8 := ⟨Tryd.underlying35, by kernel_rfl, rfl, by omega⟩
theorem iV_one {l : List Int} : ∀ u ∈ l.map iV, u.oneCell' = true := by
  intro u hu
  obtain ⟨x, _, rfl⟩ := List.mem_map.1 hu
  rfl
theorem sV_one {l : List (List UInt8)} : ∀ u ∈ l.map strV, u.oneCell' = true := by
  intro u hu
  obtain ⟨x, _, rfl⟩ := List.mem_map.1 hu
  rfl
theorem stepA_one (s : Stp) (A : Option Addr) (c : Nat) (B : Option Addr) (d : Nat) : (stepA s A c B d).all (·.oneCell') = true := by simp [stepA, Value.oneCell']
theorem own_nil {w : World} {k e n cap : Nat} {A : Option Addr} {xs : List Value} (h : w.ownsRow k e 1 (.slice A n cap) n xs) : A = none → n = 0 ∧ cap = 0 := by
  intro e
  rcases h.2 with ⟨h, h0⟩ | ⟨g, _, _, h, _⟩
  · injection h with _ h2 h3
    exact ⟨h0, h3⟩
  · injection h with h2 _ _
    rw [e] at h2; cases h2
/-- a slice's address is one of a row's cells -/
def PlainA (A : Option Addr) : Prop := ∀ ad, A = some ad → ∃ b off, ad = ⟨b, off, none⟩
theorem own_cap {w : World} {k e n cap : Nat} {A : Option Addr} {xs : List Value} (h : w.ownsRow k e 1 (.slice A n cap) n xs) : n ≤ cap := by
  rcases h.2 with ⟨h, h0⟩ | ⟨g, cap', cur, h, _, _, hle, _⟩
  · omega
  · injection h with _ _ h3
    subst h3
    exact hle
end Go.Proofs.YtmmpekdbknclcaaDoor

namespace Go.Proofs.YtmmpekdbknclcaaDoor
set_option maxRecDepth 100000
open Go.RowKit
set_option linter.unusedVariables false
/-- where x comes to stand -/
def kx (who : List Int) (x : Int) : Nat := (who.takeWhile fun y => decide (y < x)).length
theorem kx_of (x : Int) : ∀ (who : List Int) (k : Nat), k ≤ who.length → (∀ j (h : j < who.length), j < k → who[j] < x) → (∀ h : k < who.length, ¬ who[k] < x) → kx who x = k
  | [], k, hk, _, _ => by simp at hk; subst hk; rfl
  | y :: r, 0, _, _, h2 => by
    have := h2 (by simp)
    unfold kx
    rw [List.takeWhile_cons, if_neg (by simpa using this)]
    rfl
  | y :: r, k + 1, hk, h1, h2 => by
    have hy := h1 0 (by simp) (by omega)
    have ih := kx_of x r k (by simpa using hk) (fun j hj hjk => by have := h1 (j + 1) (by simpa using hj) (by omega); simpa using this) (fun h => by have := h2 (by simpa using h); simpa using this)
    unfold kx at ih ⊢
    rw [List.takeWhile_cons, if_pos (by simpa using hy), List.length_cons, ih]
/-- the list with x at its place -/
def insL {α : Type} (k : Nat) (x : α) (l : List α) : List α := l.take k ++ [x] ++ l.drop k
theorem insL_len {α : Type} (k : Nat) (x : α) (l : List α) : (insL k x l).length = l.length + 1 := by
  unfold insL
  simp only [List.length_append, List.length_take, List.length_cons, List.length_nil, List.length_drop]
  omega
def stpZ : Stp := ⟨[], [], [], [], []⟩
/-- P10.4 -/
def stSg (s : Stp) (at_ x : Int) (key : List UInt8) : Stp × Int :=
  if stE s = 0 then
    (if (bodyR at_ s).2 = 0 then
      (if x < 0 ∨ 7 < x then (stpZ, 3)
      else if s.who[kx s.who x]? = some x then (stpZ, 8)
      else (⟨s.r, s.o, s.n, insL (kx s.who x) x s.who, insL (kx s.who x) (seal' key (bodyR at_ s).1) s.seals⟩, 0))
    else (stpZ, (bodyR at_ s).2))
  else (stpZ, stE s)
theorem row1 {W : World} {g : Nat} {T : TypeId} {u : Value} (h : Blk W g T #[u]) : Row W 1 (some ⟨g, 0, none⟩) 1 [u] := by
  refine ⟨by simp, fun _ => ⟨g, 0, rfl, fun i v hi => ?_⟩⟩
  have := h.cell i
  rw [Nat.zero_add, this]
  simpa using hi
/-- the first k of a row -/
theorem Row.take1 {w : World} {n : Nat} {A : Option Addr} {vs : List Value} (h : Row w 1 A n vs) (k : Nat) (hk : k ≤ n) : Row w 1 A k (vs.take k) := by
  have hl := h.len
  refine ⟨by rw [List.length_take]; omega, fun h0 => ?_⟩
  obtain ⟨b, off, e, hc⟩ := h.at_ (by omega)
  refine ⟨b, off, e, fun i v hi => hc i v ?_⟩
  rw [List.getElem?_take] at hi
  split at hi
  · exact hi
  · cases hi
/-- what is behind the first k of a row -/
theorem Row.drop1 {w : World} {n b off : Nat} {vs : List Value} (h : Row w 1 (some ⟨b, off, none⟩) n vs) (k : Nat) (hk : k ≤ n) : Row w 1 (some ⟨b, off + k, none⟩) (n - k) (vs.drop k) := by
  have hl := h.len
  refine ⟨by rw [List.length_drop]; omega, fun h0 => ?_⟩
  obtain ⟨b', off', e, hc⟩ := h.at_ (by omega)
  injection e with e; injection e with e1 e2 _
  subst e1 e2
  refine ⟨b, off + k, rfl, fun i v hi => ?_⟩
  rw [List.getElem?_drop] at hi
  have := hc (k + i) v hi
  rwa [← Nat.add_assoc] at this
theorem Row.none1 {w : World} {A : Option Addr} {vs : List Value} (n : Nat) (h : vs.length ≤ n) : Row w 1 A 0 (vs.drop n) := by
  rw [List.drop_eq_nil_of_le h]
  exact Row.nil w 1 A
/-- append of one piece that was just built, one cell, at a step of a region that draws its order -/
theorem step_append_oneS {ops : Array Oper} {o : Oper} {a : Act} {K : Act → World → Prop} {Q : Exit → Act → World → Prop} {X : Prop} {w : World} {t e : TypeId} {z : Value} {bytes : Nat}
    (E : ElemOk t e z 1 bytes) (hgd : o.guard = none) (s x : Operand) (ho : o.op = .call { callee := .builtin .append, args := #[s, x], argTypes := #[t, t] })
    {A : Option Addr} {B n cap : Nat} {xs : List Value} (hs : a.eval s = .slice A n cap) (hown : w.ownsRow B e 1 (.slice A n cap) n xs)
    {u : Value} {c : Nat} (hx : a.eval x = .slice (some ⟨w.heap.size, 0, none⟩) 1 c) (h1 : u.oneCell' = true)
    (hbytes : (n + 1) * bytes ≤ 140737488355328) (h63 : n + 1 ≤ maxLen) (hB : B ≤ w.heap.size)
    (h : ∀ g cap' w', w'.ownsRow B e 1 (.slice (some ⟨g, 0, none⟩) (n + 1) cap') (n + 1) (xs ++ [u]) → w.grownBy w' (Value.ownBlock (.slice A n cap)) → K (a.put o.dst (.slice (some ⟨g, 0, none⟩) (n + 1) cap')) w') :
    if Region.wanted o (yielded ops a.tmps) = true then Oper.wp Tryd.prog o a (w.alloc (.cells #[u] e)) K Q else X := by
  obtain ⟨i0, hi0, hz0, hz1, hz2⟩ := info_parts E.info
  refine step_append_lies _ hgd s x t ho B e i0 z 1 bytes E.under hi0 hz0 hz1 hz2 E.zcells E.pos _ n xs hs (hown.alloc _) ⟨w.heap.size, 0, none⟩ 1 c [u] hx (by simp) ?_ (by intro v hv; simp at hv; subst hv; exact h1) (by omega) h63 hbytes (by simp; omega) _ rfl ?_
  · intro j v hv
    have hc : (w.alloc (.cells #[u] e)).cell? ⟨w.heap.size, j, none⟩ = (#[u] : Array Value)[j]? := World.cell?_alloc_mark w #[u] e (0, 0) j
    rw [add_zero_block, hc]
    simpa using hv
  · intro g cap' w' hown' hg hat _
    exact h g cap' w' hown' ⟨hg.os, hg.tape, hg.output, by have := hg.size; simp at this; omega, fun k hk hne => (hg.block k (by simp; omega) hne).trans (Below.heap_alloc w _ k hk)⟩
theorem own_lowS {w : World} {B B' e size n : Nat} {v : Value} {xs : List Value} (h : w.ownsRow B e size v n xs) (hle : B' ≤ B) : w.ownsRow B' e size v n xs := by
  refine ⟨h.1, ?_⟩
  rcases h.2 with h0 | ⟨g, cap, cur, hv, hB, r⟩
  · exact .inl h0
  · exact .inr ⟨g, cap, cur, hv, Nat.le_trans hle hB, r⟩
theorem StR.zero (w : World) : StR w stpZ none 0 none 0 := ⟨Row.nil w 1 none, Row.nil w 1 none, fun _ => ⟨rfl, rfl⟩, fun _ => ⟨rfl, rfl⟩, Nat.le_refl _, Nat.le_refl _⟩
/-- behind the first field's turn -/
structure SgMid (w : World) (p : Nat) (r o n : List UInt8) (N : Nat) (who' : List Int) (B : Option Addr) (m d : Nat) (wx : World) : Prop where
  ex : ∃ A1 c1, Blk wx p 37 #[.string (bs r), .string (bs o), .string (bs n), .slice A1 N c1, .slice B m d] ∧ wx.ownsRow (p + 1 + 1) 3 1 (.slice A1 N c1) N (who'.map iV)
  z : Blk wx (p + 1) 37 #[.string (bs []), .string (bs []), .string (bs []), .slice none 0 0, .slice none 0 0]
  gr : Gr w wx
theorem sgMid_set {w W : World} {p N c1 : Nat} {r o n : List UInt8} {A A1 B : Option Addr} {c m d nn : Nat} {who' : List Int} (hb : Blk W p 37 #[.string (bs r), .string (bs o), .string (bs n), .slice A nn c, .slice B m d])
    (hz : Blk W (p + 1) 37 #[.string (bs []), .string (bs []), .string (bs []), .slice none 0 0, .slice none 0 0]) (g : Gr w W) (hp : w.heap.size ≤ p)
    (ho : W.ownsRow (p + 1 + 1) 3 1 (.slice A1 N c1) N (who'.map iV)) : SgMid w p r o n N who' B m d (W.setCell ⟨p, 3, none⟩ (.slice A1 N c1)) :=
  ⟨⟨A1, c1, hb.set_ 3 _, ownsRow_setCell_other ho (a := ⟨p, 3, none⟩) (fun e => by have h1 := (ho.lt p e).1; omega) _⟩, hz.far (p := ⟨p, 3, none⟩) (by show p + 1 ≠ p; omega) _, g.setCell (p := ⟨p, 3, none⟩) hp _⟩
/-- behind both -/
structure SgEnd (w : World) (p : Nat) (r o n : List UInt8) (N : Nat) (who' : List Int) (seals' : List (List UInt8)) (wx : World) : Prop where
  ex : ∃ A1 c1 B1 d1, Blk wx p 37 #[.string (bs r), .string (bs o), .string (bs n), .slice A1 N c1, .slice B1 N d1] ∧ wx.ownsRow (p + 1 + 1) 3 1 (.slice A1 N c1) N (who'.map iV) ∧ wx.ownsRow (p + 1 + 1) 9 1 (.slice B1 N d1) N (seals'.map strV)
  z : Blk wx (p + 1) 37 #[.string (bs []), .string (bs []), .string (bs []), .slice none 0 0, .slice none 0 0]
  gr : Gr w wx
theorem sgEnd_set {w W : World} {p N c1 d1 : Nat} {r o n : List UInt8} {A1 B B1 : Option Addr} {m d : Nat} {who' : List Int} {seals' : List (List UInt8)} (hb : Blk W p 37 #[.string (bs r), .string (bs o), .string (bs n), .slice A1 N c1, .slice B m d])
    (hz : Blk W (p + 1) 37 #[.string (bs []), .string (bs []), .string (bs []), .slice none 0 0, .slice none 0 0]) (g : Gr w W) (hp : w.heap.size ≤ p)
    (ho : W.ownsRow (p + 1 + 1) 3 1 (.slice A1 N c1) N (who'.map iV)) (ho2 : W.ownsRow (p + 1 + 1) 9 1 (.slice B1 N d1) N (seals'.map strV)) : SgEnd w p r o n N who' seals' (W.setCell ⟨p, 4, none⟩ (.slice B1 N d1)) :=
  ⟨⟨A1, c1, B1, d1, hb.set_ 4 _, ownsRow_setCell_other ho (a := ⟨p, 4, none⟩) (fun e => by have h1 := (ho.lt p e).1; omega) _, ownsRow_setCell_other ho2 (a := ⟨p, 4, none⟩) (fun e => by have h1 := (ho2.lt p e).1; omega) _⟩, hz.far (p := ⟨p, 4, none⟩) (by show p + 1 ≠ p; omega) _, g.setCell (p := ⟨p, 4, none⟩) hp _⟩
theorem ins_map {α β : Type} (f : α → β) (k : Nat) (x : α) (l : List α) : (insL k x l).map f = (l.map f).take k ++ [f x] ++ (l.map f).drop k := by
  unfold insL
  simp [List.map_take, List.map_drop]
end Go.Proofs.YtmmpekdbknclcaaDoor

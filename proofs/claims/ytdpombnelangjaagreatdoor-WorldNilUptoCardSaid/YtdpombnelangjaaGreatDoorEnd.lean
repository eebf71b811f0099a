/-
  sum.End by its contract.
-/
import Derived.Test.YtdpombnelangjaaGreatDoorSum
import Derived.Test.YtdpombnelangjaaGreatDoorBRow
import Derived.Test.YtdpombnelangjaaGreatDoorElems
namespace Go.Proofs.YtdpombnelangjaaGreatDoor
open Go.RowKit
set_option linter.unusedVariables false
theorem be_byte {n : Nat} {k : Int} (h : k = ((n % 256 : Nat) : Int)) : (#[Value.int .u8 k] : Array Value).toList = [UInt8.ofNat n].map byteV := by subst h; simp [byteV]
theorem index_s8_0 (S : S8) (w : World) : (Instr.index 138 (.agg #[u32V S.a, u32V S.b, u32V S.c, u32V S.d, u32V S.e, u32V S.f, u32V S.g, u32V S.h]) (.int .i64 0)).run Tryz.prog w = .ok (.int .u32 (S.a.toNat : Int)) w := by kernel_rfl
theorem index_s8_1 (S : S8) (w : World) : (Instr.index 138 (.agg #[u32V S.a, u32V S.b, u32V S.c, u32V S.d, u32V S.e, u32V S.f, u32V S.g, u32V S.h]) (.int .i64 1)).run Tryz.prog w = .ok (.int .u32 (S.b.toNat : Int)) w := by kernel_rfl
theorem index_s8_2 (S : S8) (w : World) : (Instr.index 138 (.agg #[u32V S.a, u32V S.b, u32V S.c, u32V S.d, u32V S.e, u32V S.f, u32V S.g, u32V S.h]) (.int .i64 2)).run Tryz.prog w = .ok (.int .u32 (S.c.toNat : Int)) w := by kernel_rfl
theorem index_s8_3 (S : S8) (w : World) : (Instr.index 138 (.agg #[u32V S.a, u32V S.b, u32V S.c, u32V S.d, u32V S.e, u32V S.f, u32V S.g, u32V S.h]) (.int .i64 3)).run Tryz.prog w = .ok (.int .u32 (S.d.toNat : Int)) w := by kernel_rfl
theorem index_s8_4 (S : S8) (w : World) : (Instr.index 138 (.agg #[u32V S.a, u32V S.b, u32V S.c, u32V S.d, u32V S.e, u32V S.f, u32V S.g, u32V S.h]) (.int .i64 4)).run Tryz.prog w = .ok (.int .u32 (S.e.toNat : Int)) w := by kernel_rfl
theorem index_s8_5 (S : S8) (w : World) : (Instr.index 138 (.agg #[u32V S.a, u32V S.b, u32V S.c, u32V S.d, u32V S.e, u32V S.f, u32V S.g, u32V S.h]) (.int .i64 5)).run Tryz.prog w = .ok (.int .u32 (S.f.toNat : Int)) w := by kernel_rfl
theorem index_s8_6 (S : S8) (w : World) : (Instr.index 138 (.agg #[u32V S.a, u32V S.b, u32V S.c, u32V S.d, u32V S.e, u32V S.f, u32V S.g, u32V S.h]) (.int .i64 6)).run Tryz.prog w = .ok (.int .u32 (S.g.toNat : Int)) w := by kernel_rfl
theorem index_s8_7 (S : S8) (w : World) : (Instr.index 138 (.agg #[u32V S.a, u32V S.b, u32V S.c, u32V S.d, u32V S.e, u32V S.f, u32V S.g, u32V S.h]) (.int .i64 7)).run Tryz.prog w = .ok (.int .u32 (S.h.toNat : Int)) w := by kernel_rfl
theorem be4_cells (x : UInt32) : [Value.int .u8 ((x.toNat : Int) / 16777216), .int .u8 ((x.toNat : Int) / 65536 % 256), .int .u8 ((x.toNat : Int) / 256 % 256), .int .u8 ((x.toNat : Int) % 256)] = (be4 x).map byteV := by
  have := x.toNat_lt
  simp [be4, byteV]
  omega
theorem own_be4 {w : World} {B e n : Nat} {v : Value} {l : List UInt8} {x : UInt32} (h : w.ownsRow B e 1 v n (l.map byteV ++ [Value.int .u8 ((x.toNat : Int) / 16777216), .int .u8 ((x.toNat : Int) / 65536 % 256), .int .u8 ((x.toNat : Int) / 256 % 256), .int .u8 ((x.toNat : Int) % 256)])) :
    w.ownsRow B e 1 v n ((l ++ be4 x).map byteV) := by
  rw [List.map_append, ← be4_cells]; exact h
def sliceLen : Value → Nat
  | .slice _ n _ => n
  | _ => 0

set_option maxRecDepth 100000 in
set_option maxHeartbeats 1000000 in
theorem end_no (s : S8) (r : List UInt8) (m : Int) (w : World) (hr : r.length < 4611686018427387904) (hg : goodB r m = false) :
    Calls Tryz.prog 79 #[stV s r m] w fun e w' => e = .returned (.tuple #[.string (bs []), .int .i64 3]) ∧ Gr w w' := by
  unfold stV stCells
  have HG := sec hg
  clear hg
  go_enter Tryz.func79, Tryz.ntmps79
  go_wp2_with ((go_at_call 118; refine (good_any s r m _ hr).mono ?_; rw [HG.out]; rintro e w1 ⟨rfl, g1⟩))
  go_ret2
  exact ⟨rfl, ((Gr.refl w).alloc _).trans g1⟩

set_option maxRecDepth 100000 in
set_option maxHeartbeats 4000000 in
theorem end_ok (s : S8) (r : List UInt8) (m : Nat) (w : World) (hT : TabK w) (hg : goodB r m = true) :
    Calls Tryz.prog 79 #[stV s r m] w fun e w' => e = .returned (.tuple #[.string (bs (endOf s r m)), .int .i64 0]) ∧ Gr w w' := by
  have hg' := (goodB_iff r m).1 hg
  obtain ⟨hm0, hm1, hm2⟩ := hg'
  have hr64 : r.length < 64 := by omega
  have hr : r.length < 4611686018427387904 := by omega
  have HG := sec hg
  clear hg hm2 hm0
  unfold stV stCells
  go_enter Tryz.func79, Tryz.ntmps79
  go_wp2_with ((go_at_call 118; refine (good_any s r m _ hr).mono ?_; rw [HG.out]; rintro e w1 ⟨rfl, g1⟩; have hS : Blk w1 w.heap.size 140 (stCells s r m) := (Blk.new w _ _).gr g1; have hg1 : Gr w w1 := ((Gr.refl w).alloc _).trans g1; clear g1; have cr : w1.cell? ⟨w.heap.size, 8, none⟩ = some (.string (bs r)) := hS.cell 8; obtain ⟨w2, cap, hcv, hg2, hB⟩ := conv_brow Tryz.underlying9 Tryz.underlying105 Tryz.underlying5 w1 (r ++ [128]) (by unfold maxLen; simp; omega)))
  have hS2 : Blk w2 w.heap.size 140 (stCells s r m) := hS.gr hg2
  have hgt : Gr w w2 := hg1.trans hg2
  have hB2 : BRow w2 w.heap.size w1.heap.size cap (r ++ [128]) := ⟨hg1.size, hB.lt, hB.le, hB.max, hB.there, hB.at_⟩
  have hT2 := hT
  obtain ⟨g0, hg0⟩ : ∃ g0, g0 = w1.heap.size := ⟨_, rfl⟩
  rw [← hg0] at hB2
  rw [← hg0]
  have hgne : g0 ≠ w.heap.size := by have := hS.lt; omega
  clear hg0 hB hg1 hg2 hS cr hcv hT2
  go_loopw [4] (fun v wr => ∃ (g cap i : Nat) (l : List UInt8), v = .slice (some ⟨g, 0, none⟩) l.length cap ∧ g ≠ w.heap.size ∧ i ≤ zerosFor r.length ∧ Sec (l = r ++ [128] ++ List.replicate i 0) ∧ BRow wr w.heap.size g cap l ∧ Blk wr w.heap.size 140 (stCells s r m) ∧ Gr w wr)
    (fun v _ => 200 - sliceLen v)
  case atStart => exact ⟨g0, cap, 0, r ++ [128], by simp, hgne, Nat.zero_le _, sec (by simp), hB2, hS2, hgt⟩
  case round =>
    clear hS2 hgt hB2 hgne
    obtain ⟨g, cap, i, l, rfl, hne, hi, HL, hB, hS, hg⟩ := hrel
    have hz : zerosFor r.length = (119 - r.length % 64) % 64 := rfl
    have hll : l.length = r.length + 1 + i := by rw [HL.out]; simp; omega
    by_cases hlt : i < zerosFor r.length
    · have t1 : ((l.length : Int) % 64 == 56) = false := by rw [beq_eq_false_iff_ne]; omega
      have t2 : ((l.length : Int) % 64 != 56) = true := by rw [bne_iff_ne]; omega
      have hl200 : l.length < 190 := by omega
      have HI := sec hlt
      clear hz hll hlt hi
      go_wp2_with (refine wpList_append_brow E.u8 rfl (.tmp 20) (.tmp 21) rfl rfl hB [0] rfl rfl rfl (by omega) hg ?_; intro g' cap' w' hB' hgn hgc hg')
      go_roundw
      case rel =>
        exact ⟨g', cap', i + 1, l ++ [0], by simp, far_of hgc hne hS.lt, HI.out, sec (by rw [HL.out, List.append_assoc, ← List.replicate_succ']), hB', hS.only hgn hne.symm, hg'⟩
      case measure => simp [sliceLen]; omega
    · obtain rfl : i = zerosFor r.length := by omega
      have t1 : ((l.length : Int) % 64 == 56) = true := by rw [beq_iff_eq]; omega
      have t2 : ((l.length : Int) % 64 != 56) = false := by rw [bne_eq_false_iff_eq]; omega
      obtain ⟨P, hP⟩ : ∃ P, P = r ++ [128] ++ List.replicate (zerosFor r.length) 0 := ⟨_, rfl⟩
      have hPl : P.length ≤ 128 := by rw [hP, ← HL.out]; omega
      have HP := sec hP
      have HL2 : Sec (l = P ++ (be8 (8 * m)).take 0) := sec (by rw [HL.out, hP]; simp)
      clear hlt hi hz hll hP
      go_wp2_with fail
      clear t1 t2
      go_loopw [4, 5] (fun v k wr => ∃ (g cap j : Nat) (K : Int) (l : List UInt8), v = .slice (some ⟨g, 0, none⟩) l.length cap ∧ k = .int .i64 K ∧ Sec (K = 56 - 8 * (j : Int)) ∧ g ≠ w.heap.size ∧ j ≤ 8 ∧ Sec (l = P ++ (be8 (8 * m)).take j) ∧ BRow wr w.heap.size g cap l ∧ Blk wr w.heap.size 140 (stCells s r m) ∧ Gr w wr)
        (fun _ k _ => (intOf k + 8).toNat)
      case atStart => exact ⟨g, cap, 0, 56, l, rfl, rfl, sec (by omega), hne, by omega, HL2, hB, hS, hg⟩
      case round =>
        clear hB hS hg HL HL2 hne
        obtain ⟨g, cap, j, K, l, rfl, rfl, HK, hne, hj, HL, hB, hS, hg⟩ := hrel
        have hl200 : l.length < 190 := by rw [HL.out, List.length_append, List.length_take]; simp [be8_len]; omega
        have cm : wr.cell? ⟨w.heap.size, 9, none⟩ = some (.int .i64 m) := hS.cell 9
        have e8 : IntKind.i64.wrap (8 * (m : Int)) = 8 * (m : Int) := IntWalk.i64_in _ (by omega)
        have hm0 : (0 : Int) ≤ 8 * (m : Int) := by omega
        have hcase : j = 0 ∨ j = 1 ∨ j = 2 ∨ j = 3 ∨ j = 4 ∨ j = 5 ∨ j = 6 ∨ j = 7 ∨ j = 8 := by omega
        clear hj
        rcases hcase with rfl | rfl | rfl | rfl | rfl | rfl | rfl | rfl | rfl
        · obtain rfl : K = 56 := by have := HK.out; omega
          go_wp2_with (refine wpList_append_brow E.u8 rfl (.tmp 27) (.tmp 35) rfl rfl hB [UInt8.ofNat (8 * m / 72057594037927936)] rfl (be_byte (by omega)) rfl (by omega) hg ?_; intro g' cap' w' hB' hgn hgc hg')
          go_roundw
          case rel => exact ⟨g', cap', 1, 48, _, by simp, rfl, sec (by omega), far_of hgc hne hS.lt, by omega, sec (by rw [HL.out, List.append_assoc]; rfl), hB', hS.only hgn hne.symm, hg'⟩
          case measure => simp [intOf]
        · obtain rfl : K = 48 := by have := HK.out; omega
          go_wp2_with (refine wpList_append_brow E.u8 rfl (.tmp 27) (.tmp 35) rfl rfl hB [UInt8.ofNat (8 * m / 281474976710656)] rfl (be_byte (by omega)) rfl (by omega) hg ?_; intro g' cap' w' hB' hgn hgc hg')
          go_roundw
          case rel => exact ⟨g', cap', 2, 40, _, by simp, rfl, sec (by omega), far_of hgc hne hS.lt, by omega, sec (by rw [HL.out, List.append_assoc]; rfl), hB', hS.only hgn hne.symm, hg'⟩
          case measure => simp [intOf]
        · obtain rfl : K = 40 := by have := HK.out; omega
          go_wp2_with (refine wpList_append_brow E.u8 rfl (.tmp 27) (.tmp 35) rfl rfl hB [UInt8.ofNat (8 * m / 1099511627776)] rfl (be_byte (by omega)) rfl (by omega) hg ?_; intro g' cap' w' hB' hgn hgc hg')
          go_roundw
          case rel => exact ⟨g', cap', 3, 32, _, by simp, rfl, sec (by omega), far_of hgc hne hS.lt, by omega, sec (by rw [HL.out, List.append_assoc]; rfl), hB', hS.only hgn hne.symm, hg'⟩
          case measure => simp [intOf]
        · obtain rfl : K = 32 := by have := HK.out; omega
          go_wp2_with (refine wpList_append_brow E.u8 rfl (.tmp 27) (.tmp 35) rfl rfl hB [UInt8.ofNat (8 * m / 4294967296)] rfl (be_byte (by omega)) rfl (by omega) hg ?_; intro g' cap' w' hB' hgn hgc hg')
          go_roundw
          case rel => exact ⟨g', cap', 4, 24, _, by simp, rfl, sec (by omega), far_of hgc hne hS.lt, by omega, sec (by rw [HL.out, List.append_assoc]; rfl), hB', hS.only hgn hne.symm, hg'⟩
          case measure => simp [intOf]
        · obtain rfl : K = 24 := by have := HK.out; omega
          go_wp2_with (refine wpList_append_brow E.u8 rfl (.tmp 27) (.tmp 35) rfl rfl hB [UInt8.ofNat (8 * m / 16777216)] rfl (be_byte (by omega)) rfl (by omega) hg ?_; intro g' cap' w' hB' hgn hgc hg')
          go_roundw
          case rel => exact ⟨g', cap', 5, 16, _, by simp, rfl, sec (by omega), far_of hgc hne hS.lt, by omega, sec (by rw [HL.out, List.append_assoc]; rfl), hB', hS.only hgn hne.symm, hg'⟩
          case measure => simp [intOf]
        · obtain rfl : K = 16 := by have := HK.out; omega
          go_wp2_with (refine wpList_append_brow E.u8 rfl (.tmp 27) (.tmp 35) rfl rfl hB [UInt8.ofNat (8 * m / 65536)] rfl (be_byte (by omega)) rfl (by omega) hg ?_; intro g' cap' w' hB' hgn hgc hg')
          go_roundw
          case rel => exact ⟨g', cap', 6, 8, _, by simp, rfl, sec (by omega), far_of hgc hne hS.lt, by omega, sec (by rw [HL.out, List.append_assoc]; rfl), hB', hS.only hgn hne.symm, hg'⟩
          case measure => simp [intOf]
        · obtain rfl : K = 8 := by have := HK.out; omega
          go_wp2_with (refine wpList_append_brow E.u8 rfl (.tmp 27) (.tmp 35) rfl rfl hB [UInt8.ofNat (8 * m / 256)] rfl (be_byte (by omega)) rfl (by omega) hg ?_; intro g' cap' w' hB' hgn hgc hg')
          go_roundw
          case rel => exact ⟨g', cap', 7, 0, _, by simp, rfl, sec (by omega), far_of hgc hne hS.lt, by omega, sec (by rw [HL.out, List.append_assoc]; rfl), hB', hS.only hgn hne.symm, hg'⟩
          case measure => simp [intOf]
        · obtain rfl : K = 0 := by have := HK.out; omega
          go_wp2_with (refine wpList_append_brow E.u8 rfl (.tmp 27) (.tmp 35) rfl rfl hB [UInt8.ofNat (8 * m)] rfl (be_byte (by omega)) rfl (by omega) hg ?_; intro g' cap' w' hB' hgn hgc hg')
          go_roundw
          case rel => exact ⟨g', cap', 8, -8, _, by simp, rfl, sec (by omega), far_of hgc hne hS.lt, by omega, sec (by rw [HL.out, List.append_assoc]; rfl), hB', hS.only hgn hne.symm, hg'⟩
          case measure => simp [intOf]
        · obtain rfl : K = -8 := by have := HK.out; omega
          have HL2 : Sec (l = padTo r m) := sec (by rw [HL.out, HP.out]; rfl)
          have HM : Sec (l.length % 64 = 0) := sec (by rw [HL2.out]; exact padTo_mod r m)
          have HO : Sec (overS s l = overS s (padTo r m)) := sec (by rw [HL2.out])
          clear cm e8 hm0 HL HL2
          have hrow : Row wr 1 (some ⟨g, 0, none⟩) l.length (l.map byteV) := ⟨by simp, fun _ => ⟨g, 0, rfl, fun i v hv => by rw [Nat.zero_add]; exact hB.at_ i v hv⟩⟩
          have hcap := hB.le
          have hgl := hB.lt
          go_wp2_with fail
          clear hB
          go_loopw [4] (fun v wr => ∃ (S : S8) (ad : Option Addr) (cap : Nat) (l : List UInt8), v = .slice ad l.length cap ∧ l.length ≤ cap ∧ l.length ≤ 200 ∧ Sec (l.length % 64 = 0) ∧ Sec (overS S l = overS s (padTo r m)) ∧ Row wr 1 ad l.length (l.map byteV) ∧ (∀ b off, ad = some ⟨b, off, none⟩ → b ≠ w.heap.size) ∧ Blk wr w.heap.size 140 (stCells S r m) ∧ Gr w wr)
            (fun v _ => sliceLen v)
          case atStart => exact ⟨s, _, cap, l, rfl, hcap, by omega, HM, HO, hrow, fun b off h => by cases h; exact hne, hS, hg⟩
          case round =>
            clear hS hg hrow hcap hgl hne HM HO
            obtain ⟨S, ad, cap, l, rfl, hcap, hl200, HM, HO, hrow, hne, hS, hg⟩ := hrel
            by_cases hlt : 0 < l.length
            · have h64 : 64 ≤ l.length := by have := HM.out; omega
              obtain ⟨g, off, rfl, hc⟩ := hrow.at_ hlt
              have hne1 := hne g off rfl
              have hcl : 64 ≤ cap := by omega
              have hci : (64 : Int) ≤ (cap : Int) := by omega
              have hli : (64 : Int) ≤ (l.length : Int) := by omega
              have hl64 : (l.take 64).length = 64 := by rw [List.length_take]; omega
              have HO2 : Sec (overS (blockS S (l.take 64)) (l.drop 64) = overS s (padTo r m)) := sec ((overS_hi (s := S) (b := l) (by omega)).symm.trans HO.out)
              have HL64 := sec hl64
              have HM2 : Sec ((l.drop 64).length % 64 = 0) := sec (by have := HM.out; rw [List.length_drop]; omega)
              have HLd : Sec ((l.drop 64).length = l.length - 64) := sec (by rw [List.length_drop])
              have hcells : ∀ j u, ((l.take 64).map byteV)[j]? = some u → ∀ w', Gr wr w' → w'.cell? ⟨g, off + j, none⟩ = some u := by
                intro j u hu w' hgw
                have hj : j < 64 := by have := (List.getElem?_eq_some_iff.1 hu).1; simp at this; omega
                have hu' : (l.map byteV)[j]? = some u := by
                  rw [List.map_take, List.getElem?_take, if_pos hj] at hu
                  exact hu
                have := hc j u hu'
                rw [hgw.cells.1 g (off + j) (World.block_lt_of_cell? wr _ this)]
                exact this
              have HC := sec hcells
              have HRow : Sec (∀ w', Gr wr w' → Row w' 1 (some ⟨g, off + 64, none⟩) (l.drop 64).length ((l.drop 64).map byteV)) := sec (by
                intro w' hgw
                refine ⟨by simp, fun _ => ⟨g, off + 64, rfl, fun i v hv => ?_⟩⟩
                rw [List.map_drop, List.getElem?_drop] at hv
                have := hc _ v hv
                rw [Nat.add_assoc, hgw.cells.1 g _ (World.block_lt_of_cell? wr _ this)]
                exact this)
              clear hl64 hcells hrow hne HM HO hc
              go_wp2_with fail
              refine region_still_tail_w 5 (by kernel_rfl) (by kernel_rfl) ?_
              simp only [List.take_succ_cons, List.take_zero, List.drop_succ_cons, List.drop_zero]
              intro wd hwd
              have D2 : Blk wd w.heap.size 140 (stCells S r m) := by subst hwd; exact hS.drew
              have Dg0 : Gr wr wd := by subst hwd; exact (Gr.refl wr).drew
              have Dg : Gr w wd := by subst hwd; exact hg.drew
              clear hwd hS hg
              have hcv : (convert 105 9 (.slice (some ⟨g, off, none⟩) 64 cap)).run Tryz.prog wd = .ok (.string (bs (l.take 64))) wd := by
                have := run_conv_at Tryz.underlying105 Tryz.underlying5 Tryz.underlying9 wd g off cap (l.take 64) (fun j u hu => HC.out j u hu wd Dg0)
                rwa [HL64.out] at this
              have c0 : wd.cell? ⟨w.heap.size, 0, none⟩ = some (.int .u32 (S.a.toNat : Int)) := D2.cell 0
              have c1 : wd.cell? ⟨w.heap.size, 1, none⟩ = some (.int .u32 (S.b.toNat : Int)) := D2.cell 1
              have c2 : wd.cell? ⟨w.heap.size, 2, none⟩ = some (.int .u32 (S.c.toNat : Int)) := D2.cell 2
              have c3 : wd.cell? ⟨w.heap.size, 3, none⟩ = some (.int .u32 (S.d.toNat : Int)) := D2.cell 3
              have c4 : wd.cell? ⟨w.heap.size, 4, none⟩ = some (.int .u32 (S.e.toNat : Int)) := D2.cell 4
              have c5 : wd.cell? ⟨w.heap.size, 5, none⟩ = some (.int .u32 (S.f.toNat : Int)) := D2.cell 5
              have c6 : wd.cell? ⟨w.heap.size, 6, none⟩ = some (.int .u32 (S.g.toNat : Int)) := D2.cell 6
              have c7 : wd.cell? ⟨w.heap.size, 7, none⟩ = some (.int .u32 (S.h.toNat : Int)) := D2.cell 7
              repeat still_step
              refine wpStill_nil ?_
              clear c0 c1 c2 c3 c4 c5 c6 c7 hcv
              obtain ⟨R, hR⟩ : ∃ R, R = blockS S (l.take 64) := ⟨_, rfl⟩
              have HRR := sec hR
              by_cases hcap64 : cap = 64
              · subst hcap64
                go_wp2_with (first
                  | (refine wpList_store_part rfl 138 (.tmp 46) (.tmp 45) rfl (g := w.heap.size) (off := 0) rfl rfl E2 A.u8 (Nat.le_of_ble_eq_true rfl) (s8V_one R) ?_; intro w4 h4 hg4)
                  | (go_at_call 119; refine (block_any S (l.take 64) _ HL64.out (hT.gr Dg)).mono ?_; rw [← hR]; rintro e w3 ⟨rfl, g3⟩; clear hR; have E2 := D2.gr g3; have Eg := Dg.trans g3; have Eg0 := Dg0.trans g3; clear g3))
                go_roundw
                case rel =>
                  have hd0 : l.drop 64 = [] := List.drop_eq_nil_of_le (by omega)
                  refine ⟨R, some ⟨g, off, none⟩, 0, l.drop 64, ?_, by simp [hd0], by simp [hd0], HM2, by rw [HRR.out]; exact HO2, by rw [hd0]; exact Row.nil _ _ _, fun b off h => by cases h; exact hne1, h4, Eg.only hg4 (Nat.le_refl _)⟩
                  simp; omega
                case measure => simp [sliceLen]; omega
              · have hcapi : ¬ (cap : Int) = 64 := by omega
                go_wp2_with (first
                  | (refine wpList_store_part rfl 138 (.tmp 46) (.tmp 45) rfl (g := w.heap.size) (off := 0) rfl rfl E2 A.u8 (Nat.le_of_ble_eq_true rfl) (s8V_one R) ?_; intro w4 h4 hg4)
                  | (go_at_call 119; refine (block_any S (l.take 64) _ HL64.out (hT.gr Dg)).mono ?_; rw [← hR]; rintro e w3 ⟨rfl, g3⟩; clear hR; have E2 := D2.gr g3; have Eg := Dg.trans g3; have Eg0 := Dg0.trans g3; clear g3))
                go_roundw
                case rel =>
                  refine ⟨R, some ⟨g, off + 64, none⟩, cap - 64, l.drop 64, ?_, by rw [List.length_drop]; omega, by rw [List.length_drop]; omega, HM2, by rw [HRR.out]; exact HO2, ?_, fun b off h => by cases h; exact hne1, h4, Eg.only hg4 (Nat.le_refl _)⟩
                  · simp
                  · exact (HRow.out w3 Eg0).only hg4 (fun _ b off h => by cases h; exact hne1)
                case measure => simp [sliceLen]; omega
            · obtain rfl : l = [] := List.eq_nil_of_length_eq_zero (by omega)
              have HS : Sec (S = overS s (padTo r m)) := sec (by rw [← HO.out, overS_lo (by simp)])
              clear HM HO hrow hne hcap hl200 hlt
              go_wp2_with (refine wpList_load_at rfl 138 (.tmp 49) rfl (g := w.heap.size) (off := 0) rfl (xs := s8V S) A.u8 (hS.part 0 rfl) ?_)
              have HX := sec hS
              clear hS
              go_loopw [6, 51, 8] (fun v iv _ wr => ∃ (j : Nat) (ad : Option Addr) (cap : Nat), iv = .int .i64 j ∧ j ≤ 8 ∧ v = .slice ad (4 * j) cap ∧ wr.ownsRow w.heap.size 5 1 (.slice ad (4 * j) cap) (4 * j) (((S.list.take j).flatMap be4).map byteV) ∧ Gr w wr)
                (fun _ iv _ _ => 8 - (intOf iv).toNat)
              case atStart => exact ⟨0, none, 0, rfl, by omega, rfl, World.ownsRow_nil _ _ _ _, hg⟩
              case round =>
                clear hg
                obtain ⟨j, ad, cap, rfl, hj, rfl, hown, hg⟩ := hrel
                have hcase : j = 0 ∨ j = 1 ∨ j = 2 ∨ j = 3 ∨ j = 4 ∨ j = 5 ∨ j = 6 ∨ j = 7 ∨ j = 8 := by omega
                clear hj
                unfold s8V
                rcases hcase with rfl | rfl | rfl | rfl | rfl | rfl | rfl | rfl | rfl
                · have i0 := index_s8_0 S
                  have hx := S.a.toNat_lt
                  go_wp2_with (refine wpList_append_new E.u8 rfl (.tmp 54) (.tmp 66) rfl rfl hown rfl rfl (by simp [Value.oneCell']) (by omega) (by omega) (by unfold maxLen; omega) hg ?_; intro g' cap' w' hown' hg')
                  go_roundw
                  case rel => exact ⟨1, some ⟨g', 0, none⟩, cap', rfl, by omega, rfl, own_be4 (x := S.a) hown', hg'⟩
                  case measure => simp [intOf]
                · have i0 := index_s8_1 S
                  have hx := S.b.toNat_lt
                  go_wp2_with (refine wpList_append_new E.u8 rfl (.tmp 54) (.tmp 66) rfl rfl hown rfl rfl (by simp [Value.oneCell']) (by omega) (by omega) (by unfold maxLen; omega) hg ?_; intro g' cap' w' hown' hg')
                  go_roundw
                  case rel => exact ⟨2, some ⟨g', 0, none⟩, cap', rfl, by omega, rfl, own_be4 (x := S.b) hown', hg'⟩
                  case measure => simp [intOf]
                · have i0 := index_s8_2 S
                  have hx := S.c.toNat_lt
                  go_wp2_with (refine wpList_append_new E.u8 rfl (.tmp 54) (.tmp 66) rfl rfl hown rfl rfl (by simp [Value.oneCell']) (by omega) (by omega) (by unfold maxLen; omega) hg ?_; intro g' cap' w' hown' hg')
                  go_roundw
                  case rel => exact ⟨3, some ⟨g', 0, none⟩, cap', rfl, by omega, rfl, own_be4 (x := S.c) hown', hg'⟩
                  case measure => simp [intOf]
                · have i0 := index_s8_3 S
                  have hx := S.d.toNat_lt
                  go_wp2_with (refine wpList_append_new E.u8 rfl (.tmp 54) (.tmp 66) rfl rfl hown rfl rfl (by simp [Value.oneCell']) (by omega) (by omega) (by unfold maxLen; omega) hg ?_; intro g' cap' w' hown' hg')
                  go_roundw
                  case rel => exact ⟨4, some ⟨g', 0, none⟩, cap', rfl, by omega, rfl, own_be4 (x := S.d) hown', hg'⟩
                  case measure => simp [intOf]
                · have i0 := index_s8_4 S
                  have hx := S.e.toNat_lt
                  go_wp2_with (refine wpList_append_new E.u8 rfl (.tmp 54) (.tmp 66) rfl rfl hown rfl rfl (by simp [Value.oneCell']) (by omega) (by omega) (by unfold maxLen; omega) hg ?_; intro g' cap' w' hown' hg')
                  go_roundw
                  case rel => exact ⟨5, some ⟨g', 0, none⟩, cap', rfl, by omega, rfl, own_be4 (x := S.e) hown', hg'⟩
                  case measure => simp [intOf]
                · have i0 := index_s8_5 S
                  have hx := S.f.toNat_lt
                  go_wp2_with (refine wpList_append_new E.u8 rfl (.tmp 54) (.tmp 66) rfl rfl hown rfl rfl (by simp [Value.oneCell']) (by omega) (by omega) (by unfold maxLen; omega) hg ?_; intro g' cap' w' hown' hg')
                  go_roundw
                  case rel => exact ⟨6, some ⟨g', 0, none⟩, cap', rfl, by omega, rfl, own_be4 (x := S.f) hown', hg'⟩
                  case measure => simp [intOf]
                · have i0 := index_s8_6 S
                  have hx := S.g.toNat_lt
                  go_wp2_with (refine wpList_append_new E.u8 rfl (.tmp 54) (.tmp 66) rfl rfl hown rfl rfl (by simp [Value.oneCell']) (by omega) (by omega) (by unfold maxLen; omega) hg ?_; intro g' cap' w' hown' hg')
                  go_roundw
                  case rel => exact ⟨7, some ⟨g', 0, none⟩, cap', rfl, by omega, rfl, own_be4 (x := S.g) hown', hg'⟩
                  case measure => simp [intOf]
                · have i0 := index_s8_7 S
                  have hx := S.h.toNat_lt
                  go_wp2_with (refine wpList_append_new E.u8 rfl (.tmp 54) (.tmp 66) rfl rfl hown rfl rfl (by simp [Value.oneCell']) (by omega) (by omega) (by unfold maxLen; omega) hg ?_; intro g' cap' w' hown' hg')
                  go_roundw
                  case rel => exact ⟨8, some ⟨g', 0, none⟩, cap', rfl, by omega, rfl, own_be4 (x := S.h) hown', hg'⟩
                  case measure => simp [intOf]
                · have hcv : (convert 105 9 (.slice ad 32 cap)).run Tryz.prog wr = .ok (.string (bs (text8 S))) wr := run_conv_own Tryz.underlying105 Tryz.underlying5 Tryz.underlying9 (n := 32) hown
                  go_wp2_with fail
                  go_ret2
                  exact ⟨by rw [HS.out]; rfl, hg⟩
end Go.Proofs.YtdpombnelangjaaGreatDoor

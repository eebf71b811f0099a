/-
  cartularyref.Seal by its contract.
-/
import Derived.Test.YtkgmimmneeppgaaDoorSeal
import Derived.Test.YtkgmimmneeppgaaDoorRSumS
namespace Go.Proofs.YtkgmimmneeppgaaDoor
open Go.RowKit
set_option linter.unusedVariables false
theorem BRow.set {w : World} {B g cap : Nat} {l : List UInt8} (h : BRow w B g cap l) (i : Nat) (hi : i < l.length) (c : UInt8) : BRow (w.setCell ⟨g, i, none⟩ (byteV c)) B g cap (l.set i c) := by
  refine ⟨h.base, by simpa using h.lt, by simpa using h.le, h.max, fun j hj => ⟨?_, by rw [World.frozen?_setCell]; exact (h.there j hj).2⟩, fun j u hu => ?_⟩
  · by_cases e : i = j
    · subst e
      obtain ⟨u, hu⟩ := Option.isSome_iff_exists.1 (h.there i hj).1
      rw [World.cell?_setCell_same w _ _ hu]; rfl
    · rw [World.cell?_setCell_other w _ _ _ (by intro e'; injection e' with _ e2 _; exact e e2)]
      exact (h.there j hj).1
  · by_cases e : i = j
    · subst e
      have : i < cap := Nat.lt_of_lt_of_le hi h.le
      obtain ⟨v, hv⟩ := Option.isSome_iff_exists.1 (h.there i this).1
      rw [World.cell?_setCell_same w _ _ hv]
      rw [← hu]
      simp [hi]
    · rw [World.cell?_setCell_other w _ _ _ (by intro e'; injection e' with _ e2 _; exact e e2)]
      refine h.at_ j u ?_
      rw [← hu]
      simp [e]

/-- the first i bytes turned -/
def mixL (x : UInt8) (K : List UInt8) (i : Nat) : List UInt8 := (K.take i).map (· ^^^ x) ++ K.drop i
theorem mixL_len (x : UInt8) (K : List UInt8) (i : Nat) : (mixL x K i).length = K.length := by
  unfold mixL
  rw [List.length_append, List.length_map, List.length_take, List.length_drop]
  omega
theorem mixL_set (x : UInt8) (K : List UInt8) (i : Nat) (hi : i < K.length) : (mixL x K i).set i (K[i] ^^^ x) = mixL x K (i + 1) := by
  unfold mixL
  have hl : ((K.take i).map (· ^^^ x)).length = i := by rw [List.length_map, List.length_take]; omega
  rw [List.set_append_right _ _ (by omega), hl, Nat.sub_self, List.drop_eq_getElem_cons hi, List.take_succ_eq_append_getElem hi, List.map_append]
  simp only [List.set_cons_zero, List.map_cons, List.map_nil, List.append_assoc, List.cons_append, List.nil_append]
theorem mixL_at (x : UInt8) (K : List UInt8) (i : Nat) (hi : i < K.length) : (mixL x K i)[i]'(by rw [mixL_len]; exact hi) = K[i] := by
  unfold mixL
  have hl : ((K.take i).map (· ^^^ x)).length = i := by rw [List.length_map, List.length_take]; omega
  rw [List.getElem_append_right (by omega)]
  simp only [hl, Nat.sub_self, List.getElem_drop, Nat.add_zero]

set_option maxRecDepth 100000 in
set_option maxHeartbeats 1000000 in
theorem seal1_any (x : UInt8) (q : Nat) (K : List UInt8) (w : World) (hc : w.cell? ⟨q, 0, none⟩ = some (.string (bs K))) (hK : K.length ≤ 4611686018427387904) :
    Calls Tryd.prog 65 #[.int .u8 (x.toNat : Int), .pointer (some ⟨q, 0, none⟩)] w fun e w' => e = .returned (.string (bs (K.map (· ^^^ x)))) ∧ Gr w w' := by
  obtain ⟨w2, cap, hcv, hg2, hB⟩ := conv_brow Tryd.underlying9 Tryd.underlying69 Tryd.underlying5 w K (by unfold maxLen; omega)
  have hM : mixL x K 0 = K := rfl
  go_enter Tryd.func65, Tryd.ntmps65
  go_wp2_with fail
  go_loopw [10, 5] (fun iv _ wr => ∃ i : Nat, iv = .int .i64 (i : Int) ∧ i ≤ K.length ∧ BRow wr w.heap.size w.heap.size cap (mixL x K i) ∧ Gr w wr)
    (fun iv _ _ => K.length - (intOf iv).toNat)
  case atStart => exact ⟨0, rfl, by omega, by rw [hM]; exact hB, hg2⟩
  case round =>
    clear hM hcv hB hg2 hc
    obtain ⟨i, rfl, hi, hB, hg⟩ := hrel
    have hl := mixL_len x K i
    by_cases hlt : i < K.length
    · have hli : (i : Int) < (K.length : Int) := by omega
      have hcl := hB.at_ i (byteV K[i]) (by rw [List.getElem?_map, List.getElem?_eq_getElem (by omega), mixL_at x K i hlt]; rfl)
      have hf := (hB.there i (by have := hB.le; omega)).2
      obtain ⟨c, hcc⟩ : ∃ c, c = K[i] := ⟨_, rfl⟩
      have hset := mixL_set x K i hlt
      rw [← hcc] at hset hcl
      have HS := sec hset
      unfold byteV at hcl
      have HL := sec (show i < (mixL x K i).length by omega)
      have hx : bits .xor .u8 (c.toNat : Int) (x.toNat : Int) = ((c ^^^ x).toNat : Int) := by
        have h1 := c.toNat_lt
        have h2 := x.toNat_lt
        rw [u8_xor_nat c.toNat x.toNat (by omega) (by omega), UInt8.toNat_xor]
      clear hset hcc hl
      go_wp2_with fail
      go_roundw
      case rel =>
        refine ⟨i + 1, by go_num, by omega, ?_, hg.setCell (by simp) _⟩
        rw [← HS.out]
        exact hB.set i HL.out (c ^^^ x)
      case measure => simp [intOf]; omega
    · obtain rfl : i = K.length := by omega
      have he : mixL x K K.length = K.map (· ^^^ x) := by unfold mixL; simp
      have hcv := hB.conv Tryd.underlying69 Tryd.underlying5 Tryd.underlying9
      rw [hl, he] at hcv
      clear hl he hlt hi
      go_wp2_with fail
      go_ret
      exact ⟨rfl, hg⟩

def padK (K : List UInt8) : List UInt8 := K ++ List.replicate (64 - K.length) 0
theorem padK_xor (x : UInt8) (K : List UInt8) (h : K.length ≤ 64) : (padK K).map (· ^^^ x) = xorPad x K := by
  apply List.ext_getElem
  · rw [xorPad_len]; unfold padK; simp; omega
  · intro i h1 h2
    unfold padK xorPad at *
    simp only [List.getElem_map, List.getElem_range]
    by_cases e : i < K.length
    · rw [List.getElem_append_left e]; simp [e]
    · rw [List.getElem_append_right (by omega)]
      simp only [List.getElem_replicate]
      have : K.getD i 0 = 0 := by simp [List.getD]; rw [List.getElem?_eq_none (by omega)]; rfl
      rw [this]

set_option maxRecDepth 100000 in
set_option maxHeartbeats 1000000 in
theorem rseal_any (key b : List UInt8) (w : World) (hk : key.length ≤ 288230376151711744) (hb : b.length ≤ 288230376151711744) :
    Calls Tryd.prog 39 #[.string (bs key), .string (bs b)] w fun e w' => e = .returned (.string (bs (seal' key b))) ∧ Gr w w' := by
  obtain ⟨K, hK⟩ : ∃ K, K = keyOf key := ⟨_, rfl⟩
  have hKl : K.length ≤ 64 := by rw [hK]; exact keyOf_len key
  have HF : Sec (seal' key b = sha (xorPad 0x5c K ++ sha (xorPad 0x36 K ++ b))) := sec (by rw [hK]; rfl)
  have HK := sec hK
  have hmf : ∀ (fn : Fn) (first cap : Array Value) (w : World), (Instr.makeFunc fn first cap).run Tryd.prog w = .ok (.func fn first cap) w := fun _ _ _ _ => rfl
  clear hK
  have K5 := sec (padK_xor 0x5c K hKl)
  have K6 := sec (padK_xor 0x36 K hKl)
  have c5 : ∀ (q : Nat) (w : World), w.cell? ⟨q, 0, none⟩ = some (.string (bs (padK K))) → Calls Tryd.prog 65 #[.int .u8 92, .pointer (some ⟨q, 0, none⟩)] w fun e w' => e = .returned (.string (bs (xorPad 0x5c K))) ∧ Gr w w' := by
    intro q w hc
    rw [← K5.out]
    exact seal1_any 0x5c q (padK K) w hc (by unfold padK; simp; omega)
  have c6 : ∀ (q : Nat) (w : World), w.cell? ⟨q, 0, none⟩ = some (.string (bs (padK K))) → Calls Tryd.prog 65 #[.int .u8 54, .pointer (some ⟨q, 0, none⟩)] w fun e w' => e = .returned (.string (bs (xorPad 0x36 K))) ∧ Gr w w' := by
    intro q w hc
    rw [← K6.out]
    exact seal1_any 0x36 q (padK K) w hc (by unfold padK; simp; omega)
  have C5 := sec c5
  have C6 := sec c6
  clear c5 c6
  by_cases hlt : 64 < key.length
  · have HS : Sec (sha key = K) := sec (by rw [HK.out]; unfold keyOf; rw [if_pos hlt])
    have hlti : (64 : Int) < (key.length : Int) := by omega
    go_enter Tryd.func39, Tryd.ntmps39
    go_wp2_with (go_at_call 64; refine (rsum_any key _ (by omega)).mono ?_; rw [HS.out]; rintro e w1 ⟨rfl, g1⟩; have hb1 := (Blk.new w 9 #[Value.string (bs key)]).gr g1; have hc1 := hb1.cell 0; have hf1 := hb1.frozen 0)
    obtain ⟨q, hq⟩ : ∃ q, q = w.heap.size := ⟨_, rfl⟩
    have hqs : w.heap.size ≤ q := by rw [hq]; exact Nat.le_refl _
    have HB : Sec (Blk (w1.setCell ⟨q, 0, none⟩ (.string (bs K))) q 9 #[.string (bs K)]) := sec (by
      rw [hq]
      exact hb1.set_ 0 (.string (bs K)))
    have HG : Sec (Gr w (w1.setCell ⟨q, 0, none⟩ (.string (bs K)))) := sec ((Gr.trans ((Gr.refl w).alloc _) g1).setCell (by simpa using hqs) _)
    clear hb1 hc1 hf1 g1
    rw [← hq]
    clear hq
    go_loopw [] (fun wr => ∃ j : Nat, j ≤ 64 - K.length ∧ Blk wr q 9 #[.string (bs (K ++ List.replicate j 0))] ∧ Gr w wr)
      (fun wr => 64 - lenOf ((wr.cell? ⟨q, 0, none⟩).getD (.int .i64 0)))
    case atStart => exact ⟨0, by omega, by rw [List.replicate_zero, List.append_nil]; exact HB.out, HG.out⟩
    case round =>
      obtain ⟨j, hj, hB, hg⟩ := hrel
      have hc := hB.cell 0
      have hf := hB.frozen 0
      have hll : (K ++ List.replicate j (0 : UInt8)).length = K.length + j := by simp
      by_cases hjl : j < 64 - K.length
      · obtain ⟨L, hL⟩ : ∃ L, L = K ++ List.replicate j (0 : UInt8) := ⟨_, rfl⟩
        rw [← hL] at hc hB hll
        have hlt : (L.length : Int) < 64 := by omega
        have h63 : ¬ 9223372036854775807 < L.length + 1 := by omega
        have HL := sec hL
        have HJ := sec hjl
        simp at hc
        clear hL hjl hj hll
        go_wp2_with fail
        go_roundw
        case rel => exact ⟨j + 1, by have := HJ.out; omega, by rw [List.replicate_succ', ← List.append_assoc, ← HL.out]; exact hB.set_ 0 _, hg.setCell (by simpa using hqs) _⟩
        case measure =>
          have h2 := (hB.set_ 0 (.string (bs (L ++ [0])))).cell 0
          simp [h2, hc, lenOf, bs_size]
          omega
      · obtain rfl : j = 64 - K.length := by omega
        have hlt : ¬ ((K ++ List.replicate (64 - K.length) (0 : UInt8)).length : Int) < 64 := by omega
        have HP : K ++ List.replicate (64 - K.length) (0 : UInt8) = padK K := rfl
        rw [HP] at hc hB hlt
        simp at hc
        clear hll hj hjl HP
        have hP5 : (xorPad 0x5c K).length = 64 := xorPad_len _ _
        have hP6 : (xorPad 0x36 K).length = 64 := xorPad_len _ _
        obtain ⟨P5, hQ5⟩ : ∃ P, P = xorPad 0x5c K := ⟨_, rfl⟩
        obtain ⟨P6, hQ6⟩ : ∃ P, P = xorPad 0x36 K := ⟨_, rfl⟩
        rw [← hQ5, ← hQ6] at HF
        rw [← hQ5] at hP5 C5
        rw [← hQ6] at hP6 C6
        have hl6 : ¬ 9223372036854775807 < P6.length + b.length := by omega
        have hl5 : ¬ 9223372036854775807 < P5.length + (sha (P6 ++ b)).length := by rw [sha_len]; omega
        have HL6 : Sec ((P6 ++ b).length ≤ 576460752303423488) := sec (by rw [List.length_append]; omega)
        have HL5 : Sec ((P5 ++ sha (P6 ++ b)).length ≤ 576460752303423488) := sec (by rw [List.length_append, sha_len]; omega)
        clear hQ5 hQ6 hP5 hP6
        go_wp2_with (first
          | (go_at_call 65; with_reducible refine Calls.mono (C5.out q _ hc) ?_; rintro e w3 ⟨rfl, g3⟩; have c3 := (hB.gr g3).cell 0; simp at c3; have gg3 := hg.trans g3)
          | (go_at_call 65; with_reducible refine Calls.mono (C6.out q _ c3) ?_; rintro e w4 ⟨rfl, g4⟩; have gg4 := gg3.trans g4)
          | (go_at_call 64; with_reducible refine Calls.mono (rsum_any (P6 ++ b) _ HL6.out) ?_; rintro e w5 ⟨rfl, g5⟩; have gg5 := gg4.trans g5)
          | (go_at_call 64; with_reducible refine Calls.mono (rsum_any (P5 ++ sha (P6 ++ b)) _ HL5.out) ?_; rintro e w6 ⟨rfl, g6⟩; have gg6 := gg5.trans g6))
        go_ret
        exact ⟨by rw [HF.out]; rfl, gg6⟩
  · have hlti : ¬ (64 : Int) < (key.length : Int) := by omega
    obtain rfl : K = key := by rw [HK.out]; unfold keyOf; rw [if_neg hlt]
    go_enter Tryd.func39, Tryd.ntmps39
    go_wp2_with fail
    obtain ⟨q, hq⟩ : ∃ q, q = w.heap.size := ⟨_, rfl⟩
    have hqs : w.heap.size ≤ q := by rw [hq]; exact Nat.le_refl _
    have HB : Sec (Blk (w.alloc (.cells #[.string (bs K)] 9)) q 9 #[.string (bs K)]) := sec (by
      rw [hq]
      exact Blk.new w _ _)
    have HG : Sec (Gr w (w.alloc (.cells #[.string (bs K)] 9))) := sec ((Gr.refl w).alloc _)
    rw [← hq]
    clear hq
    go_loopw [] (fun wr => ∃ j : Nat, j ≤ 64 - K.length ∧ Blk wr q 9 #[.string (bs (K ++ List.replicate j 0))] ∧ Gr w wr)
      (fun wr => 64 - lenOf ((wr.cell? ⟨q, 0, none⟩).getD (.int .i64 0)))
    case atStart => exact ⟨0, by omega, by rw [List.replicate_zero, List.append_nil]; exact HB.out, HG.out⟩
    case round =>
      obtain ⟨j, hj, hB, hg⟩ := hrel
      have hc := hB.cell 0
      have hf := hB.frozen 0
      have hll : (K ++ List.replicate j (0 : UInt8)).length = K.length + j := by simp
      by_cases hjl : j < 64 - K.length
      · obtain ⟨L, hL⟩ : ∃ L, L = K ++ List.replicate j (0 : UInt8) := ⟨_, rfl⟩
        rw [← hL] at hc hB hll
        have hlt : (L.length : Int) < 64 := by omega
        have h63 : ¬ 9223372036854775807 < L.length + 1 := by omega
        have HL := sec hL
        have HJ := sec hjl
        simp at hc
        clear hL hjl hj hll
        go_wp2_with fail
        go_roundw
        case rel => exact ⟨j + 1, by have := HJ.out; omega, by rw [List.replicate_succ', ← List.append_assoc, ← HL.out]; exact hB.set_ 0 _, hg.setCell (by simpa using hqs) _⟩
        case measure =>
          have h2 := (hB.set_ 0 (.string (bs (L ++ [0])))).cell 0
          simp [h2, hc, lenOf, bs_size]
          omega
      · obtain rfl : j = 64 - K.length := by omega
        have hlt : ¬ ((K ++ List.replicate (64 - K.length) (0 : UInt8)).length : Int) < 64 := by omega
        have HP : K ++ List.replicate (64 - K.length) (0 : UInt8) = padK K := rfl
        rw [HP] at hc hB hlt
        simp at hc
        clear hll hj hjl HP
        have hP5 : (xorPad 0x5c K).length = 64 := xorPad_len _ _
        have hP6 : (xorPad 0x36 K).length = 64 := xorPad_len _ _
        obtain ⟨P5, hQ5⟩ : ∃ P, P = xorPad 0x5c K := ⟨_, rfl⟩
        obtain ⟨P6, hQ6⟩ : ∃ P, P = xorPad 0x36 K := ⟨_, rfl⟩
        rw [← hQ5, ← hQ6] at HF
        rw [← hQ5] at hP5 C5
        rw [← hQ6] at hP6 C6
        have hl6 : ¬ 9223372036854775807 < P6.length + b.length := by omega
        have hl5 : ¬ 9223372036854775807 < P5.length + (sha (P6 ++ b)).length := by rw [sha_len]; omega
        have HL6 : Sec ((P6 ++ b).length ≤ 576460752303423488) := sec (by rw [List.length_append]; omega)
        have HL5 : Sec ((P5 ++ sha (P6 ++ b)).length ≤ 576460752303423488) := sec (by rw [List.length_append, sha_len]; omega)
        clear hQ5 hQ6 hP5 hP6
        go_wp2_with (first
          | (go_at_call 65; with_reducible refine Calls.mono (C5.out q _ hc) ?_; rintro e w3 ⟨rfl, g3⟩; have c3 := (hB.gr g3).cell 0; simp at c3; have gg3 := hg.trans g3)
          | (go_at_call 65; with_reducible refine Calls.mono (C6.out q _ c3) ?_; rintro e w4 ⟨rfl, g4⟩; have gg4 := gg3.trans g4)
          | (go_at_call 64; with_reducible refine Calls.mono (rsum_any (P6 ++ b) _ HL6.out) ?_; rintro e w5 ⟨rfl, g5⟩; have gg5 := gg4.trans g5)
          | (go_at_call 64; with_reducible refine Calls.mono (rsum_any (P5 ++ sha (P6 ++ b)) _ HL5.out) ?_; rintro e w6 ⟨rfl, g6⟩; have gg6 := gg5.trans g6))
        go_ret
        exact ⟨by rw [HF.out]; rfl, gg6⟩
end Go.Proofs.YtkgmimmneeppgaaDoor

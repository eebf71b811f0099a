/-
  sum.Hex by its contract.
-/
import Derived.Test.YtojiheelacmniaaDoorSumS
import Derived.Test.YtojiheelacmniaaDoorAbc
import Derived.Laws.MakeOwn
import Derived.Laws.BitsLemmas
import Derived.Deep.RegionLaw
namespace Go.Proofs.YtojiheelacmniaaDoor
open Go.RowKit
set_option linter.unusedVariables false

/-- append of one piece that was just built, at a step of a region that draws its order -/
theorem step_append_new {ops : Array Oper} {o : Oper} {a : Act} {K : Act → World → Prop} {Q : Exit → Act → World → Prop} {X : Prop} {w : World} {t e : TypeId} {z : Value} {size bytes : Nat}
    (E : ElemOk t e z size bytes) (hgd : o.guard = none) (s x : Operand) (ho : o.op = .call { callee := .builtin .append, args := #[s, x], argTypes := #[t, t] })
    {A : Option Addr} {B n cap : Nat} {xs : List Value} (hs : a.eval s = .slice A n cap) (hown : w.ownsRow B e size (.slice A n cap) n xs)
    {cs : Array Value} {m c : Nat} (hx : a.eval x = .slice (some ⟨w.heap.size, 0, none⟩) m c) (hl : cs.size = m * size) (h1 : ∀ u ∈ cs.toList, u.oneCell' = true) (hm : 0 < m)
    (hbytes : (n + m) * bytes ≤ 140737488355328) (h63 : n + m ≤ maxLen) (hB : B ≤ w.heap.size)
    (h : ∀ g cap' w', w'.ownsRow B e size (.slice (some ⟨g, 0, none⟩) (n + m) cap') (n + m) (xs ++ cs.toList) → w.grownBy w' (Value.ownBlock (.slice A n cap)) → (Value.ownBlock (.slice A n cap) = some g ∨ w.heap.size ≤ g) →
      K (a.put o.dst (.slice (some ⟨g, 0, none⟩) (n + m) cap')) w') :
    if Region.wanted o (yielded ops a.tmps) = true then Oper.wp Tryd.prog o a (w.alloc (.cells cs e)) K Q else X := by
  obtain ⟨i0, hi0, hz0, hz1, hz2⟩ := info_parts E.info
  refine step_append_lies _ hgd s x t ho B e i0 z size bytes E.under hi0 hz0 hz1 hz2 E.zcells E.pos _ n xs hs (hown.alloc _) ⟨w.heap.size, 0, none⟩ m c cs.toList hx (by simpa using hl) ?_ h1 hm h63 hbytes (by simp; omega) _ rfl ?_
  · intro j u hu
    have hc : (w.alloc (.cells cs e)).cell? ⟨w.heap.size, j, none⟩ = cs[j]? := World.cell?_alloc_mark w cs e (0, 0) j
    rw [add_zero_block, hc]
    simpa using hu
  · intro g cap' w' hown' hg hat _
    refine h g cap' w' hown' ⟨hg.os, hg.tape, hg.output, by have := hg.size; simp at this; omega, fun k hk hne => (hg.block k (by simp; omega) hne).trans (Below.heap_alloc w _ k hk)⟩ ?_
    rcases hat with h | h
    · exact .inl h
    · right; simp at h; omega
theorem digit_at (n : Nat) (h : n < 16) (k : Int) (hk : k = (n : Int)) (w : World) :
    (Instr.index 9 (.string (bs [48, 49, 50, 51, 52, 53, 54, 55, 56, 57, 97, 98, 99, 100, 101, 102])) (.int .u8 k)).run Tryd.prog w = .ok (byteV (hexD n)) w := by
  subst hk
  rw [run_index_string w 9 _ _ _ Tryd.underlying9]
  have h16 : (n : Int) < 16 := by omega
  simp only [bs_size, List.length_cons, List.length_nil]
  rw [dif_pos ⟨by omega, by omega⟩]
  simp [bs_get, hexD, hexL, byteV, List.getD, h]
theorem and15 (c : UInt8) : bits .and .u8 (c.toNat : Int) 15 = ((c.toNat % 16 : Nat) : Int) := by
  have := c.toNat_lt
  exact (u8_and_nat c.toNat 15 (by omega) (by omega)).trans (congrArg _ (Nat.and_two_pow_sub_one_eq_mod c.toNat 4))

set_option maxRecDepth 100000 in
set_option maxHeartbeats 1000000 in
theorem hex_any (b : List UInt8) (w : World) (hb : b.length ≤ 17592186044416) :
    Calls Tryd.prog 22 #[.string (bs b)] w fun e w' => e = .returned (.string (bs (hexOf b))) ∧ Gr w w' := by
  obtain ⟨i0, hi0, hz0, hz1, hz2⟩ := info_parts E.u8.info
  obtain ⟨w1, hmk, hown, hgr⟩ := run_make_own (P := Tryd.prog) w w.heap.size 44 5 i0 (.int .u8 0) 1 Tryd.underlying44 hi0 hz0 hz1 .i64 .i64 (2 * b.length) (by rw [hz2]; omega) (by unfold maxLen; omega) (Nat.le_refl _)
  have hg1 : Gr w w1 := (Gr.refl w).grown hgr (by rintro k hk; cases hk)
  have e2 : ((2 * b.length : Nat) : Int) = 2 * (b.length : Int) := by simp
  rw [e2] at hmk
  obtain ⟨w2, cap, hcv, hg2, hB⟩ := conv_brow Tryd.underlying9 Tryd.underlying44 Tryd.underlying5 w1 b (by unfold maxLen; omega)
  have hown2 := own_gr hown hg2
  have hmsz := (hown.lt w.heap.size rfl).2
  have hgt := hg1.trans hg2
  have hb1 : w.heap.size ≤ w1.heap.size := hg1.size
  clear hgr hg1 hg2 hown e2 hi0 hz0 hz1 hz2
  go_enter Tryd.func22, Tryd.ntmps22
  go_wp2_with fail
  obtain ⟨g1, hg1⟩ : ∃ g1, g1 = w1.heap.size := ⟨_, rfl⟩
  rw [← hg1] at hB
  rw [← hg1]
  have hne : w.heap.size ≠ g1 := by
    have := (hown2.lt w.heap.size rfl).2
    have : g1 = w1.heap.size := hg1
    have h1 := hmsz
    omega
  have hB0 : BRow w2 w.heap.size g1 cap b := ⟨by omega, hB.lt, hB.le, hB.max, hB.there, hB.at_⟩
  clear hB hg1 hb1 hmsz hmk hcv
  rw [show ({ data := #[] } : ByteArray) = bs [] from rfl]
  go_loopw [3, 13, 5] (fun v iv _ wr => ∃ (j n : Nat) (ad : Option Addr) (cap2 : Nat), iv = .int .i64 j ∧ j ≤ b.length ∧ v = .slice ad n cap2 ∧ n = 2 * j ∧ wr.ownsRow w.heap.size 5 1 (.slice ad n cap2) n ((hexOf (b.take j)).map byteV) ∧ Value.ownBlock (.slice ad n cap2) ≠ some g1 ∧ BRow wr w.heap.size g1 cap b ∧ Gr w wr)
    (fun _ iv _ _ => b.length - (intOf iv).toNat)
  case atStart => exact ⟨0, 0, _, _, rfl, by omega, rfl, rfl, hown2, by simp [Value.ownBlock]; exact hne, hB0, hgt⟩
  case round =>
    clear hown2 hB0 hgt hne
    obtain ⟨j, n, ad, cap2, rfl, hj, rfl, hn, hown, hne, hB, hg⟩ := hrel
    by_cases hlt : j < b.length
    · have hji : (j : Int) < (b.length : Int) := by omega
      have hbc : wr.cell? ⟨g1, j, none⟩ = some (.int .u8 (b[j].toNat : Int)) := hB.at_ j _ (by simp [hlt, byteV])
      obtain ⟨c, hc⟩ : ∃ c, c = b[j] := ⟨_, rfl⟩
      rw [← hc] at hbc
      have HC := sec hc
      have hn2 : n + 2 ≤ 140737488355328 := by omega
      have hn3 : n + 2 ≤ maxLen := by unfold maxLen; omega
      have HH : Sec ((hexOf (b.take (j + 1))) = hexOf (b.take j) ++ [hexD (c.toNat / 16), hexD (c.toNat % 16)]) := sec (by
        rw [hc, List.take_succ_eq_append_getElem hlt, hexOf_snoc])
      have i1 := digit_at (c.toNat / 16) (by have := c.toNat_lt; omega) ((c.toNat : Int) / 16) (by simp)
      have i2 := digit_at (c.toNat % 16) (by omega) ((c.toNat : Int) % 16) (by simp)
      have a15 := and15 c
      rw [show ((c.toNat % 16 : Nat) : Int) = (c.toNat : Int) % 16 by simp] at a15
      have HN := sec hn
      clear hc hn
      unfold byteV at i1 i2
      go_wp2_with fail
      go_region_law ((refine step_append_new E.u8 rfl (.tmp 17) (.tmp 24) rfl rfl (w := wr.drew) hown.drew rfl rfl (by simp [Value.oneCell']) (by omega) (by omega) hn3 hg.size ?_; intro g' cap' w' hown' hgn hat))
      all_goals
        go_wp2_with fail
        go_roundw
        case rel =>
          refine ⟨j + 1, n + 2, some ⟨g', 0, none⟩, cap', by go_num, by omega, rfl, by have := HN.out; omega, ?_, ?_, ?_, ?_⟩
          · rw [HH.out, List.map_append]
            exact hown'
          · intro e
            have e' : g' = g1 := by simpa [Value.ownBlock] using e
            subst e'
            rcases hat with h | h
            · exact hne h
            · have := hB.lt; simp at h; omega
          · have hb' : w'.heap[g1]? = wr.drew.heap[g1]? := hgn.block g1 hB.lt (fun e => hne e.symm)
            exact ⟨hB.base, Nat.lt_of_lt_of_le hB.lt hgn.size, hB.le, hB.max, fun j hj => by rw [World.cell?_of_block (a := ⟨g1, j, none⟩) hb', World.frozen?_of_block (a := ⟨g1, j, none⟩) hb']; exact hB.there j hj, fun j u hu => by rw [World.cell?_of_block (a := ⟨g1, j, none⟩) hb']; exact hB.at_ j u hu⟩
          · exact hg.drew.grown hgn (fun k hk => (hown.lt k hk).1)
        case measure => simp [intOf]; omega
    · obtain rfl : j = b.length := by omega
      have hcv : (convert 44 9 (.slice ad n cap2)).run Tryd.prog wr = .ok (.string (bs (hexOf b))) wr := by
        have := run_conv_own Tryd.underlying44 Tryd.underlying5 Tryd.underlying9 hown
        rwa [List.take_length] at this
      clear hn
      go_wp2_with fail
      go_ret
      exact ⟨rfl, hg⟩

theorem sha_abc : bs (hexOf (sha [97, 98, 99])) = bs [98, 97, 55, 56, 49, 54, 98, 102, 56, 102, 48, 49, 99, 102, 101, 97, 52, 49, 52, 49, 52, 48, 100, 101, 53, 100, 97, 101, 50, 50, 50, 51, 98, 48, 48, 51, 54, 49, 97, 51, 57, 54, 49, 55, 55, 97, 57, 99, 98, 52, 49, 48, 102, 102, 54, 49, 102, 50, 48, 48, 49, 53, 97, 100] :=
  congrArg bs Abc.hex

set_option maxRecDepth 100000 in
set_option maxHeartbeats 1000000 in
theorem sums_any (w : World) (hT : TabK w) : Calls Tryd.prog 9 #[] w fun e w' => e = .returned (.bool true) ∧ Gr w w' := by
  have HA := sec sha_abc
  go_enter Tryd.func9, Tryd.ntmps9
  go_wp2_with (first
    | (go_at_call 7; refine (sum_any [97, 98, 99] _ hT (by simp)).mono ?_; rintro e w1 ⟨rfl, g1⟩)
    | (go_at_call 22; refine (hex_any (sha [97, 98, 99]) _ (by rw [sha_len]; omega)).mono ?_; rw [HA.out]; rintro e w2 ⟨rfl, g2⟩))
  go_ret
  exact ⟨rfl, g1.trans g2⟩
end Go.Proofs.YtojiheelacmniaaDoor

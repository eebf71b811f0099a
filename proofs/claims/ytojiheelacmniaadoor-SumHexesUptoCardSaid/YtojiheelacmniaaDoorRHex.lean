/-
  cartularyref.Hex by its contract.
-/
import Derived.Test.YtojiheelacmniaaDoorUnhex
import Derived.Test.YtojiheelacmniaaDoorLies
namespace Go.Proofs.YtojiheelacmniaaDoor
open Go.RowKit
set_option linter.unusedVariables false

/-- the two digits of a byte -/
def hex2 (c : UInt8) : List UInt8 := [UInt8.ofNat (c.toNat / 16), UInt8.ofNat (c.toNat % 16)]
theorem hexOf_take (b : List UInt8) (j : Nat) (h : j < b.length) : hexOf (b.take (j + 1)) = hexOf (b.take j) ++ [hexD (b[j].toNat / 16), hexD (b[j].toNat % 16)] := by
  rw [List.take_succ_eq_append_getElem h, hexOf_snoc]

set_option maxRecDepth 100000 in
set_option maxHeartbeats 2000000 in
theorem rhex_any (b : List UInt8) (w : World) (hb : b.length ≤ 17592186044416) :
    Calls Tryd.prog 23 #[.string (bs b)] w fun e w' => e = .returned (.string (bs (hexOf b))) ∧ Gr w w' := by
  obtain ⟨w2, cap, hcv, hgt, hB0⟩ := conv_brow Tryd.underlying9 Tryd.underlying44 Tryd.underlying5 w b (by unfold maxLen; omega)
  go_enter Tryd.func23, Tryd.ntmps23
  go_wp2_with fail
  obtain ⟨g1, hg1⟩ : ∃ g1, g1 = w.heap.size := ⟨_, rfl⟩
  have hB1 : BRow w2 w.heap.size g1 cap b := by rw [hg1]; exact hB0
  have hg1' : w.heap.size ≤ g1 := by rw [hg1]; exact Nat.le_refl _
  rw [← hg1]
  clear hg1 hB0 hcv
  rw [show ({ data := #[] } : ByteArray) = bs [] from rfl]
  go_loopw [3, 11, 5, 7] (fun v iv _ _ wr => ∃ (j n : Nat) (ad : Option Addr) (cap2 : Nat), iv = .int .i64 j ∧ j ≤ b.length ∧ v = .slice ad n cap2 ∧ Sec (n = 2 * j) ∧ wr.ownsRow w.heap.size 5 1 (.slice ad n cap2) n ((hexOf (b.take j)).map byteV) ∧ Value.ownBlock (.slice ad n cap2) ≠ some g1 ∧ BRow wr w.heap.size g1 cap b ∧ Gr w wr)
    (fun _ iv _ _ _ => b.length - (intOf iv).toNat)
  case atStart => exact ⟨0, 0, none, 0, rfl, by omega, rfl, sec rfl, World.ownsRow_nil _ _ _ _, by simp [Value.ownBlock], hB1, hgt⟩
  case round =>
    clear hB1 hgt
    obtain ⟨j, n, ad, cap2, rfl, hj, rfl, HN, hown, hne, hB, hg⟩ := hrel
    by_cases hlt : j < b.length
    · have hji : (j : Int) < (b.length : Int) := by omega
      have hbc : wr.cell? ⟨g1, j, none⟩ = some (.int .u8 (b[j].toNat : Int)) := hB.at_ j _ (by simp [hlt, byteV])
      have HH := sec (hexOf_take b j hlt)
      obtain ⟨c, hc⟩ : ∃ c, c = b[j] := ⟨_, rfl⟩
      rw [← hc] at hbc HH
      have hcl := c.toNat_lt
      clear hc
      go_wp2_with fail
      obtain ⟨wo, hwo⟩ : ∃ wo : World, wo = wr := ⟨_, rfl⟩
      rw [← hwo] at hbc hown hB hg
      rw [← hwo]
      clear hwo
      have hq0 : Blk (wo.alloc (.cells #[.int .u8 ((c.toNat : Int) / 16), .int .u8 ((c.toNat : Int) % 16)] 5)) wo.heap.size 5 #[.int .u8 ((c.toNat : Int) / 16), .int .u8 ((c.toNat : Int) % 16)] := Blk.new wo _ _
      have hown0 := hown.alloc (.cells #[.int .u8 ((c.toNat : Int) / 16), .int .u8 ((c.toNat : Int) % 16)] 5)
      have hB0 := hB.gr ((Gr.refl wo).alloc (.cells #[.int .u8 ((c.toNat : Int) / 16), .int .u8 ((c.toNat : Int) % 16)] 5))
      have hg0 := hg.alloc (.cells #[.int .u8 ((c.toNat : Int) / 16), .int .u8 ((c.toNat : Int) % 16)] 5)
      have hne2 : Value.ownBlock (.slice ad n cap2) ≠ some wo.heap.size := by
        intro e
        have := (hown.lt _ e).2
        omega
      obtain ⟨q2, hq2⟩ : ∃ q2, q2 = wo.heap.size := ⟨_, rfl⟩
      have hq2g : g1 ≠ q2 := by rw [hq2]; have := hB.lt; omega
      rw [← hq2] at hq0 hne2
      rw [← hq2]
      have HQ := sec hq0
      have HO := sec hown0
      have HB := sec hB0
      have HG := sec hg0
      clear hq2 hbc hq0 hown0 hB0 hg0 hB hown hg
      go_loopw [3, 21, 7] (fun v kv _ wr => ∃ (k m : Nat) (ad : Option Addr) (cap2 : Nat), kv = .int .i64 k ∧ k ≤ 2 ∧ v = .slice ad m cap2 ∧ Sec (m = n + k) ∧ wr.ownsRow w.heap.size 5 1 (.slice ad m cap2) m ((hexOf (b.take j) ++ [hexD (c.toNat / 16), hexD (c.toNat % 16)].take k).map byteV) ∧ Value.ownBlock (.slice ad m cap2) ≠ some g1 ∧ Value.ownBlock (.slice ad m cap2) ≠ some q2 ∧ BRow wr w.heap.size g1 cap b ∧ Blk wr q2 5 #[.int .u8 ((c.toNat : Int) / 16), .int .u8 ((c.toNat : Int) % 16)] ∧ Gr w wr)
        (fun _ kv _ _ => 2 - (intOf kv).toNat)
      case atStart => exact ⟨0, n, ad, cap2, rfl, by omega, rfl, sec rfl, by rw [List.take_zero, List.append_nil]; exact HO.out, hne, hne2, HB.out, HQ.out, HG.out⟩
      case round =>
        clear HQ HO HB HG hne hne2
        obtain ⟨k, m, ad, cap2, rfl, hk, rfl, HM, hown, hne, hne2, hB, hq, hg⟩ := hrel
        have hnb : n + 2 ≤ 140737488355328 := by have := HN.out; omega
        have hmm : m + 1 ≤ 140737488355328 + k := by have := HM.out; omega
        have hmm2 : m ≤ 140737488355326 + k := by have := HM.out; omega
        have hc0 := hq.cell 0
        have hc1 := hq.cell 1
        simp at hc0 hc1
        have hkk : k = 0 ∨ k = 1 ∨ k = 2 := by omega
        clear hk
        rcases hkk with rfl | rfl | rfl
        · have i1 := digit_at (c.toNat / 16) (by omega) ((c.toNat : Int) / 16) (by simp) wr
          have hmk : m + 1 ≤ 140737488355328 := by omega
          have hm1 : m + 1 ≤ maxLen := by unfold maxLen; omega
          have hq1 : g1 < wr.heap.size := hB.lt
          have hq3 : q2 < wr.heap.size := hq.lt
          unfold byteV at i1
          clear hmm hmm2
          rw [show ((0 : Nat) : Int) = 0 from rfl]
          go_wp2_with (refine wpList_append_oneL E.u8 rfl (.tmp 25) (.tmp 28) rfl rfl hown rfl rfl (by omega) hm1 hg.size ?_; intro g' cap' w' hown' hgn hat)
          go_roundw
          case rel =>
            refine ⟨0 + 1, m + 1, some ⟨g', 0, none⟩, cap', by go_num, by omega, rfl, sec (by have := HM.out; omega), ?_, ?_, ?_, hB.grown hgn hne, hq.grown hgn (fun e => hne2 e.symm), hg.grown hgn (fun k hk => (hown.lt k hk).1)⟩
            · rw [List.map_append] at hown' ⊢
              simpa [byteV] using hown'
            · simpa [Value.ownBlock] using lies_ne hat hne hq1
            · simpa [Value.ownBlock] using lies_ne hat hne2 hq3
          case measure => simp [intOf]
        · have i1 := digit_at (c.toNat % 16) (by omega) ((c.toNat : Int) % 16) (by simp) wr
          have hmk : m + 1 ≤ 140737488355328 := by omega
          have hm1 : m + 1 ≤ maxLen := by unfold maxLen; omega
          have hq1 : g1 < wr.heap.size := hB.lt
          have hq3 : q2 < wr.heap.size := hq.lt
          unfold byteV at i1
          clear hmm hmm2
          rw [show ((1 : Nat) : Int) = 1 from rfl]
          go_wp2_with (refine wpList_append_oneL E.u8 rfl (.tmp 25) (.tmp 28) rfl rfl hown rfl rfl (by omega) hm1 hg.size ?_; intro g' cap' w' hown' hgn hat)
          go_roundw
          case rel =>
            refine ⟨1 + 1, m + 1, some ⟨g', 0, none⟩, cap', by go_num, by omega, rfl, sec (by have := HM.out; omega), ?_, ?_, ?_, hB.grown hgn hne, hq.grown hgn (fun e => hne2 e.symm), hg.grown hgn (fun k hk => (hown.lt k hk).1)⟩
            · rw [List.map_append] at hown' ⊢
              simpa [byteV] using hown'
            · simpa [Value.ownBlock] using lies_ne hat hne hq1
            · simpa [Value.ownBlock] using lies_ne hat hne2 hq3
          case measure => simp [intOf]
        · clear hmm hmm2
          rw [show ((2 : Nat) : Int) = 2 from rfl]
          go_wp2_with fail
          go_roundw
          case rel =>
            refine ⟨j + 1, m, ad, cap2, by go_num, by omega, rfl, sec (by have := HM.out; have := HN.out; omega), ?_, hne, hB, hg⟩
            rw [HH.out]
            exact hown
          case measure => simp [intOf]; omega
    · obtain rfl : j = b.length := by omega
      have hcv : (convert 44 9 (.slice ad n cap2)).run Tryd.prog wr = .ok (.string (bs (hexOf b))) wr := by
        have := run_conv_own Tryd.underlying44 Tryd.underlying5 Tryd.underlying9 hown
        rwa [List.take_length] at this
      clear hlt hj
      go_wp2_with fail
      go_ret
      exact ⟨rfl, hg⟩
end Go.Proofs.YtojiheelacmniaaDoor

/-
  StoreSweepsUptoDone: contracts and plain laws joined (11 texts). No conditions but those that each states.
-/
import Derived.Test.YtoamnifnfkgbiaaGreatDoorPkR1
import Derived.Test.YtoamnifnfkgbiaaGreatDoorPkR2
import Derived.Test.YtoamnifnfkgbiaaGreatDoorLies
import Derived.Deep.RegionHeld3
import Derived.Test.YtoamnifnfkgbiaaGreatDoorBase
import Derived.Test.YtoamnifnfkgbiaaGreatDoorContS
import Derived.ProofKit
import Derived.OpenShut
import Derived.ChangeOld
import Derived.SizedLaws
import Derived.JoinedCond
namespace Go.Proofs.YtoamnifnfkgbiaaGreatDoor
open Go.RowKit
set_option linter.unusedVariables false
/-- the id that a file's name says -/
def swI (nm : List UInt8) : Option (List UInt8) :=
  if nm.head? = some 111 then (match unhex (nm.drop 1) with | some id => if id.length = 32 then some id else none | none => none) else none
/-- is this file to go? -/
def swB (keep : List (List UInt8)) (nm : List UInt8) : Bool := match swI nm with | some id => !decide (id ∈ keep) | none => false
/-- file by file -/
def swGo (keep : List (List UInt8)) : List (List UInt8) → List Fl → Int → List Fl × Int × Int
  | [], fs, f => (fs, f, 0)
  | nm :: r, fs, f => if swB keep nm = true then (if (stepR (rmF nm) fs f).2.2 = 0 then swGo keep r (stepR (rmF nm) fs f).1 (stepR (rmF nm) fs f).2.1 else stepR (rmF nm) fs f) else swGo keep r fs f
/-- P7.6, by the list to keep -/
def sweepR (fs : List Fl) (f : Int) (r : List (List UInt8) × Int) : List Fl × Int × Int := if r.2 = 0 then swGo r.1 (fs.map (·.1)) fs f else (fs, f, r.2)
theorem swI_head {nm : List UInt8} (h : ¬ nm.head? = some 111) : swI nm = none := by unfold swI; rw [if_neg h]
theorem swI_odd {nm : List UInt8} (h : unhex (nm.drop 1) = none) : swI nm = none := by
  unfold swI
  split
  · rw [h]
  · rfl
theorem swI_at {nm id : List UInt8} (h : nm.head? = some 111) (h2 : unhex (nm.drop 1) = some id) : swI nm = if id.length = 32 then some id else none := by
  unfold swI; rw [if_pos h, h2]
theorem swI_65 {nm : List UInt8} (h : nm.length ≠ 65) : swI nm = none := by
  unfold swI
  split
  · rename_i hh
    split
    · rename_i id hu
      split
      · rename_i hl
        have h2 := unhex_len _ _ (Nat.le_refl _) hu
        have h3 : nm.length = (nm.drop 1).length + 1 := by
          cases nm with
          | nil => cases hh
          | cons c t => simp
        omega
      · rfl
    · rfl
  · rfl
theorem swB_none {keep : List (List UInt8)} {nm : List UInt8} (h : swI nm = none) : swB keep nm = false := by unfold swB; rw [h]
theorem swB_some {keep : List (List UInt8)} {nm id : List UInt8} (h : swI nm = some id) : swB keep nm = !decide (id ∈ keep) := by unfold swB; rw [h]
theorem swGo_skip {keep r : List (List UInt8)} {nm : List UInt8} {fs : List Fl} {f : Int} (h : swB keep nm = false) : swGo keep (nm :: r) fs f = swGo keep r fs f := by rw [swGo, if_neg (by rw [h]; decide)]
theorem swGo_go {keep r : List (List UInt8)} {nm : List UInt8} {fs : List Fl} {f : Int} (h : swB keep nm = true) (h2 : (stepR (rmF nm) fs f).2.2 = 0) : swGo keep (nm :: r) fs f = swGo keep r (stepR (rmF nm) fs f).1 (stepR (rmF nm) fs f).2.1 := by rw [swGo, if_pos h, if_pos h2]
theorem swGo_end {keep r : List (List UInt8)} {nm : List UInt8} {fs : List Fl} {f : Int} (h : swB keep nm = true) (h2 : (stepR (rmF nm) fs f).2.2 ≠ 0) : swGo keep (nm :: r) fs f = stepR (rmF nm) fs f := by rw [swGo, if_pos h, if_neg h2]
theorem rm_sz {nm : List UInt8} {fs : List Fl} (f : Int) (h : Sz fs) : Sz (stepR (rmF nm) fs f).1 := stepR_sz (rmF_sz nm) f h
end Go.Proofs.YtoamnifnfkgbiaaGreatDoor

namespace Go.Proofs.YtoamnifnfkgbiaaGreatDoor
open Go.RowKit
set_option linter.unusedVariables false
def uhV : Option (List UInt8) → Value
  | some o => .tuple #[.string (bs o), .int .i64 0]
  | none => .tuple #[.string (bs []), .int .i64 2]
theorem unhex_odd : ∀ (n : Nat) (s : List UInt8), s.length = 2 * n + 1 → unhex s = none
  | _, [], h => by simp at h
  | _, [_], _ => rfl
  | 0, _ :: _ :: _, h => by simp at h
  | n + 1, a :: b :: r, h => by
    unfold unhex
    rw [unhex_odd n r (by simp at h; omega)]
    split <;> rfl
theorem unhex_step (s : List UInt8) (i : Nat) (h : i + 1 < s.length) : unhex (s.drop i) = if unD s[i] < 16 ∧ unD s[i + 1] < 16 then (unhex (s.drop (i + 2))).map (UInt8.ofNat (unD s[i] * 16 + unD s[i + 1]) :: ·) else none := by
  rw [List.drop_eq_getElem_cons (show i < s.length by omega), List.drop_eq_getElem_cons h]
  rfl
theorem hex_or (x y : Nat) (hx : x < 16) (hy : y < 16) : bits .or .u8 ((x : Int) * 16) (y : Int) = (((UInt8.ofNat (x * 16 + y)).toNat : Nat) : Int) := by
  have h : ∀ x y : Fin 16, bits .or .u8 ((x.val : Int) * 16) (y.val : Int) = (((UInt8.ofNat (x.val * 16 + y.val)).toNat : Nat) : Int) := by decide +kernel
  exact h ⟨x, hx⟩ ⟨y, hy⟩

set_option maxRecDepth 100000 in
set_option maxHeartbeats 1000000 in
theorem unhex_any (s : List UInt8) (w : World) (hs : s.length ≤ 17592186044416) :
    Calls Tryz.prog 66 #[.string (bs s)] w fun e w' => e = .returned (uhV (unhex s)) ∧ Gr w w' := by
  by_cases hev : s.length % 2 = 0
  · have t1 : ((s.length : Int) % 2 == 0) = true := by rw [beq_iff_eq]; omega
    have t2 : ((s.length : Int) % 2 != 0) = false := by rw [bne_eq_false_iff_eq]; omega
    have HEV := sec hev
    clear hev
    go_enter Tryz.func66, Tryz.ntmps66
    go_wp2_with fail
    clear t1 t2
    go_loopw [4, 5, 6, 7] (fun v iv _ _ wr => ∃ (i n : Nat) (ad : Option Addr) (cap : Nat) (o : List UInt8), iv = .int .i64 (i : Int) ∧ i ≤ s.length ∧ Sec (i % 2 = 0) ∧ v = .slice ad n cap ∧ 2 * n ≤ i ∧ wr.ownsRow w.heap.size 5 1 (.slice ad n cap) n (o.map byteV) ∧ Sec (unhex s = (unhex (s.drop i)).map (o ++ ·)) ∧ Gr w wr)
      (fun _ iv _ _ _ => s.length - (intOf iv).toNat)
    case atStart => exact ⟨0, 0, none, 0, [], rfl, by omega, sec rfl, rfl, by omega, World.ownsRow_nil _ _ _ _, sec (by rw [List.drop_zero]; cases unhex s <;> rfl), Gr.refl w⟩
    case round =>
      obtain ⟨i, n, ad, cap, o, rfl, hi, HI, rfl, hn, hown, HU, hg⟩ := hrel
      by_cases hlt : i < s.length
      · have hlt1 : i + 1 < s.length := by have := HI.out; have := HEV.out; omega
        have HL := sec hlt
        have hli : (i : Int) < (s.length : Int) := by omega
        have hli1 : (i : Int) + 1 < (s.length : Int) := by omega
        have hst := unhex_step s i hlt1
        obtain ⟨a, ha⟩ : ∃ a, a = s[i] := ⟨_, rfl⟩
        obtain ⟨b, hb⟩ : ∃ b, b = s[i + 1] := ⟨_, rfl⟩
        rw [← ha, ← hb] at hst
        have HST := sec hst
        have hca : (bs s)[i]'(by rw [bs_size]; exact hlt) = a := by rw [bs_get, ha]
        have hcb : (bs s)[i + 1]'(by rw [bs_size]; exact hlt1) = b := by rw [bs_get, hb]
        clear ha hb hst
        have hua := unD_le a
        have hub := unD_le b
        go_wp2_with fail
        go_quiet (first
          | (with_reducible refine Calls.mono (digit_any a _) ?_; rintro e w1 ⟨rfl, rfl⟩; exact ⟨rfl, _, rfl⟩)
          | (with_reducible refine Calls.mono (digit_any b _) ?_; rintro e w1 ⟨rfl, rfl⟩; exact ⟨rfl, _, rfl⟩))
        clear hca hcb
        obtain ⟨wq, hwq⟩ : ∃ wq, wq = wr.drewN nq := ⟨_, rfl⟩
        have hgq : Gr w wq := by rw [hwq]; exact hg.drewN nq
        have hownq : wq.ownsRow w.heap.size 5 1 (.slice ad n cap) n (o.map byteV) := by rw [hwq]; exact hown
        rw [← hwq]
        clear hwq hown hg
        by_cases h15 : unD a < 16
        · have k15 : ¬ (15 : Int) < (unD a : Int) := by omega
          by_cases h16 : unD b < 16
          · have k16 : ¬ (15 : Int) < (unD b : Int) := by omega
            have hor := hex_or (unD a) (unD b) h15 h16
            obtain ⟨c, hc⟩ : ∃ c, c = UInt8.ofNat (unD a * 16 + unD b) := ⟨_, rfl⟩
            rw [← hc] at hor
            have HC := sec hc
            have H2 := sec (And.intro h15 h16)
            clear hc h15 h16 hua hub hlt1
            go_wp2_with (refine wpList_append_new E.u8 rfl (.tmp 33) (.tmp 38) rfl rfl hownq rfl rfl (by simp [Value.oneCell']) (by omega) (by omega) (by unfold maxLen; omega) hgq ?_; intro g' cap' w' hown' hg')
            go_roundw
            case rel =>
              refine ⟨i + 2, n + 1, some ⟨g', 0, none⟩, cap', o ++ [c], by go_num, by have := HL.out; omega, sec (by have := HI.out; omega), rfl, by omega, ?_, sec ?_, hg'⟩
              · rw [List.map_append]; exact hown'
              · rw [HU.out, HST.out, if_pos H2.out, HC.out]
                cases unhex (s.drop (i + 2)) <;> simp
            case measure => simp [intOf]; have := HL.out; omega
          · have k16 : (15 : Int) < (unD b : Int) := by omega
            have HN : Sec (unhex s = none) := sec (by rw [HU.out, HST.out, if_neg (fun h => h16 h.2)]; rfl)
            clear h15 h16
            go_wp2_with fail
            go_ret2
            exact ⟨by rw [HN.out]; rfl, hgq⟩
        · have k15 : (15 : Int) < (unD a : Int) := by omega
          have HN : Sec (unhex s = none) := sec (by rw [HU.out, HST.out, if_neg (fun h => h15 h.1)]; rfl)
          clear h15
          go_wp2_with fail
          go_ret2
          exact ⟨by rw [HN.out]; rfl, hgq⟩
      · obtain rfl : i = s.length := by omega
        clear hlt hi
        have HR : Sec (unhex s = some o) := sec (by rw [HU.out, List.drop_length]; simp [unhex])
        have hcv : (convert 140 9 (.slice ad n cap)).run Tryz.prog wr = .ok (.string (bs o)) wr := by
          have hn : n = o.length := by have := hown.1; simp at this; exact this.symm
          have := run_conv_own Tryz.underlying140 Tryz.underlying5 Tryz.underlying9 (n := n) (w := wr) (l := o) (by rw [hn] at hown ⊢; exact hown)
          exact this
        go_wp2_with fail
        go_ret2
        exact ⟨by rw [HR.out]; rfl, hg⟩
  · have t1 : ((s.length : Int) % 2 == 0) = false := by rw [beq_eq_false_iff_ne]; omega
    have t2 : ((s.length : Int) % 2 != 0) = true := by rw [bne_iff_ne]; omega
    have HN := sec (unhex_odd (s.length / 2) s (by omega))
    clear hev
    go_enter Tryz.func66, Tryz.ntmps66
    go_wp2_with fail
    go_ret2
    exact ⟨by rw [HN.out]; rfl, Gr.refl w⟩
end Go.Proofs.YtoamnifnfkgbiaaGreatDoor

namespace Go.Proofs.YtoamnifnfkgbiaaGreatDoor
open Go.RowKit
set_option linter.unusedVariables false
/-- the two digits of a byte -/
def hex2 (c : UInt8) : List UInt8 := [UInt8.ofNat (c.toNat / 16), UInt8.ofNat (c.toNat % 16)]
theorem hexOf_take (b : List UInt8) (j : Nat) (h : j < b.length) : hexOf (b.take (j + 1)) = hexOf (b.take j) ++ [hexD (b[j].toNat / 16), hexD (b[j].toNat % 16)] := by
  rw [List.take_succ_eq_append_getElem h, hexOf_snoc]

set_option maxRecDepth 100000 in
set_option maxHeartbeats 2000000 in
theorem rhex_any (b : List UInt8) (w : World) (hb : b.length ≤ 17592186044416) :
    Calls Tryz.prog 74 #[.string (bs b)] w fun e w' => e = .returned (.string (bs (hexOf b))) ∧ Gr w w' := by
  obtain ⟨w2, cap, hcv, hgt, hB0⟩ := conv_brow Tryz.underlying9 Tryz.underlying140 Tryz.underlying5 w b (by unfold maxLen; omega)
  go_enter Tryz.func74, Tryz.ntmps74
  go_wp2_with fail
  obtain ⟨g1, hg1⟩ : ∃ g1, g1 = w.heap.size := ⟨_, rfl⟩
  have hB1 : BRow w2 w.heap.size g1 cap b := by rw [hg1]; exact hB0
  have hg1' : w.heap.size ≤ g1 := by rw [hg1]; exact Nat.le_refl _
  rw [← hg1]
  clear hg1 hB0 hcv
  rw [show ({ data := #[] } : ByteArray) = bs [] from rfl]
  go_loopw [3, 11, 5, 7] (fun v iv _ _ wr => ∃ (j n : Nat) (ad : Option Addr) (cap2 : Nat), iv = .int .i64 j ∧ j ≤ b.length ∧ v = .slice ad n cap2 ∧ Sec (n = 2 * j) ∧ wr.ownsRow w.heap.size 5 1 (.slice ad n cap2) n ((hexOf (b.take j)).map byteV) ∧ Value.ownBlock (.slice ad n cap2) ≠ some g1 ∧ BRow wr w.heap.size g1 cap b ∧ Gr w wr)
    (fun _ iv _ _ _ => b.length - (intOf iv).toNat)
  case atStart => exact ⟨0, 0, none, 0, rfl, by omega, rfl, sec rfl, World.ownsRow_nil _ _ _ _, by simp [Value.ownBlock], hB1, hgt⟩
  case round =>
    clear hB1 hgt
    obtain ⟨j, n, ad, cap2, rfl, hj, rfl, HN, hown, hne, hB, hg⟩ := hrel
    by_cases hlt : j < b.length
    · have hji : (j : Int) < (b.length : Int) := by omega
      have hbc : wr.cell? ⟨g1, j, none⟩ = some (.int .u8 (b[j].toNat : Int)) := hB.at_ j _ (by simp [hlt, byteV])
      have HH := sec (hexOf_take b j hlt)
      obtain ⟨c, hc⟩ : ∃ c, c = b[j] := ⟨_, rfl⟩
      rw [← hc] at hbc HH
      have hcl := c.toNat_lt
      clear hc
      go_wp2_with fail
      obtain ⟨wo, hwo⟩ : ∃ wo : World, wo = wr := ⟨_, rfl⟩
      rw [← hwo] at hbc hown hB hg
      rw [← hwo]
      clear hwo
      have hq0 : Blk (wo.alloc (.cells #[.int .u8 ((c.toNat : Int) / 16), .int .u8 ((c.toNat : Int) % 16)] 5)) wo.heap.size 5 #[.int .u8 ((c.toNat : Int) / 16), .int .u8 ((c.toNat : Int) % 16)] := Blk.new wo _ _
      have hown0 := hown.alloc (.cells #[.int .u8 ((c.toNat : Int) / 16), .int .u8 ((c.toNat : Int) % 16)] 5)
      have hB0 := hB.gr ((Gr.refl wo).alloc (.cells #[.int .u8 ((c.toNat : Int) / 16), .int .u8 ((c.toNat : Int) % 16)] 5))
      have hg0 := hg.alloc (.cells #[.int .u8 ((c.toNat : Int) / 16), .int .u8 ((c.toNat : Int) % 16)] 5)
      have hne2 : Value.ownBlock (.slice ad n cap2) ≠ some wo.heap.size := by
        intro e
        have := (hown.lt _ e).2
        omega
      obtain ⟨q2, hq2⟩ : ∃ q2, q2 = wo.heap.size := ⟨_, rfl⟩
      have hq2g : g1 ≠ q2 := by rw [hq2]; have := hB.lt; omega
      rw [← hq2] at hq0 hne2
      rw [← hq2]
      have HQ := sec hq0
      have HO := sec hown0
      have HB := sec hB0
      have HG := sec hg0
      clear hq2 hbc hq0 hown0 hB0 hg0 hB hown hg
      go_loopw [3, 21, 7] (fun v kv _ wr => ∃ (k m : Nat) (ad : Option Addr) (cap2 : Nat), kv = .int .i64 k ∧ k ≤ 2 ∧ v = .slice ad m cap2 ∧ Sec (m = n + k) ∧ wr.ownsRow w.heap.size 5 1 (.slice ad m cap2) m ((hexOf (b.take j) ++ [hexD (c.toNat / 16), hexD (c.toNat % 16)].take k).map byteV) ∧ Value.ownBlock (.slice ad m cap2) ≠ some g1 ∧ Value.ownBlock (.slice ad m cap2) ≠ some q2 ∧ BRow wr w.heap.size g1 cap b ∧ Blk wr q2 5 #[.int .u8 ((c.toNat : Int) / 16), .int .u8 ((c.toNat : Int) % 16)] ∧ Gr w wr)
        (fun _ kv _ _ => 2 - (intOf kv).toNat)
      case atStart => exact ⟨0, n, ad, cap2, rfl, by omega, rfl, sec rfl, by rw [List.take_zero, List.append_nil]; exact HO.out, hne, hne2, HB.out, HQ.out, HG.out⟩
      case round =>
        clear HQ HO HB HG hne hne2
        obtain ⟨k, m, ad, cap2, rfl, hk, rfl, HM, hown, hne, hne2, hB, hq, hg⟩ := hrel
        have hnb : n + 2 ≤ 140737488355328 := by have := HN.out; omega
        have hmm : m + 1 ≤ 140737488355328 + k := by have := HM.out; omega
        have hmm2 : m ≤ 140737488355326 + k := by have := HM.out; omega
        have hc0 := hq.cell 0
        have hc1 := hq.cell 1
        simp at hc0 hc1
        have hkk : k = 0 ∨ k = 1 ∨ k = 2 := by omega
        clear hk
        rcases hkk with rfl | rfl | rfl
        · have i1 := digit_at (c.toNat / 16) (by omega) ((c.toNat : Int) / 16) (by simp) wr
          have hmk : m + 1 ≤ 140737488355328 := by omega
          have hm1 : m + 1 ≤ maxLen := by unfold maxLen; omega
          have hq1 : g1 < wr.heap.size := hB.lt
          have hq3 : q2 < wr.heap.size := hq.lt
          unfold byteV at i1
          clear hmm hmm2
          rw [show ((0 : Nat) : Int) = 0 from rfl]
          go_wp2_with (refine wpList_append_oneL E.u8 rfl (.tmp 25) (.tmp 28) rfl rfl hown rfl rfl (by omega) hm1 hg.size ?_; intro g' cap' w' hown' hgn hat)
          go_roundw
          case rel =>
            refine ⟨0 + 1, m + 1, some ⟨g', 0, none⟩, cap', by go_num, by omega, rfl, sec (by have := HM.out; omega), ?_, ?_, ?_, hB.grown hgn hne, hq.grown hgn (fun e => hne2 e.symm), hg.grown hgn (fun k hk => (hown.lt k hk).1)⟩
            · rw [List.map_append] at hown' ⊢
              simpa [byteV] using hown'
            · simpa [Value.ownBlock] using lies_ne hat hne hq1
            · simpa [Value.ownBlock] using lies_ne hat hne2 hq3
          case measure => simp [intOf]
        · have i1 := digit_at (c.toNat % 16) (by omega) ((c.toNat : Int) % 16) (by simp) wr
          have hmk : m + 1 ≤ 140737488355328 := by omega
          have hm1 : m + 1 ≤ maxLen := by unfold maxLen; omega
          have hq1 : g1 < wr.heap.size := hB.lt
          have hq3 : q2 < wr.heap.size := hq.lt
          unfold byteV at i1
          clear hmm hmm2
          rw [show ((1 : Nat) : Int) = 1 from rfl]
          go_wp2_with (refine wpList_append_oneL E.u8 rfl (.tmp 25) (.tmp 28) rfl rfl hown rfl rfl (by omega) hm1 hg.size ?_; intro g' cap' w' hown' hgn hat)
          go_roundw
          case rel =>
            refine ⟨1 + 1, m + 1, some ⟨g', 0, none⟩, cap', by go_num, by omega, rfl, sec (by have := HM.out; omega), ?_, ?_, ?_, hB.grown hgn hne, hq.grown hgn (fun e => hne2 e.symm), hg.grown hgn (fun k hk => (hown.lt k hk).1)⟩
            · rw [List.map_append] at hown' ⊢
              simpa [byteV] using hown'
            · simpa [Value.ownBlock] using lies_ne hat hne hq1
            · simpa [Value.ownBlock] using lies_ne hat hne2 hq3
          case measure => simp [intOf]
        · clear hmm hmm2
          rw [show ((2 : Nat) : Int) = 2 from rfl]
          go_wp2_with fail
          go_roundw
          case rel =>
            refine ⟨j + 1, m, ad, cap2, by go_num, by omega, rfl, sec (by have := HM.out; have := HN.out; omega), ?_, hne, hB, hg⟩
            rw [HH.out]
            exact hown
          case measure => simp [intOf]; omega
    · obtain rfl : j = b.length := by omega
      have hcv : (convert 140 9 (.slice ad n cap2)).run Tryz.prog wr = .ok (.string (bs (hexOf b))) wr := by
        have := run_conv_own Tryz.underlying140 Tryz.underlying5 Tryz.underlying9 hown
        rwa [List.take_length] at this
      clear hlt hj
      go_wp2_with fail
      go_ret
      exact ⟨rfl, hg⟩
end Go.Proofs.YtoamnifnfkgbiaaGreatDoor

namespace Go.Proofs.YtoamnifnfkgbiaaGreatDoor
set_option maxRecDepth 100000
open Go.RowKit
set_option linter.unusedVariables false
set_option maxHeartbeats 8000000 in
theorem rstoGet_any (fs : List Fl) (id : List UInt8) (A : Option Addr) (n cap : Nat) (f : Int) (w : World) (hn : n ≤ 1099511627776) (hx : FRow w A n fs) (hs : ∀ f ∈ fs, f.1.length ≤ 1099511627776 ∧ f.2.1.length ≤ 1099511627776 ∧ f.2.2.length ≤ 1099511627776) (hid : id.length ≤ 1099511627776) :
    Calls Tryz.prog 25 #[diskV A n cap f, .string (bs id)] w fun e w' => e = .returned (.tuple #[.string (bs (getO fs id).1), .int .i64 (getO fs id).2]) ∧ Gr w w' := by
  have hg0 := (Gr.refl w).alloc (.cells #[.slice A n cap, .int .i64 f] 24)
  have hb1 := Blk.new w 24 #[.slice A n cap, .int .i64 f]
  obtain ⟨wa, hwa⟩ : ∃ x, x = w.alloc (.cells #[.slice A n cap, .int .i64 f] 24) := ⟨_, rfl⟩
  rw [← hwa] at hg0 hb1
  obtain ⟨p, hp⟩ : ∃ p, p = w.heap.size := ⟨_, rfl⟩
  rw [← hp] at hb1
  have HRd : Sec (∀ W, Gr wa W → Calls Tryz.prog 73 #[diskV A n cap f, .string (bs (fileN id))] W fun e w' => e = .returned (.tuple #[.string (bs (readR fs (fileN id)).1), .int .i64 (readR fs (fileN id)).2]) ∧ Gr W w') := sec (fun W g => rread_any fs (fileN id) A n cap f W hn (hx.gr (hg0.trans g)) hs)
  have HRL := readR_le fs (fileN id)
  obtain ⟨V, hV⟩ : ∃ V, V = getO fs id := ⟨_, rfl⟩
  obtain ⟨⟨r, er⟩, hR⟩ : ∃ R, R = readR fs (fileN id) := ⟨_, rfl⟩
  have HV : Sec (V = if id.length = 32 then (if er = 0 then (if sha r = id then (r, 0) else ([], 5)) else ([], er)) else ([], 2)) := sec (by rw [hV]; unfold getO; rw [← hR])
  rw [← hR] at HRd HRL
  rw [← hV]
  simp only at HRL HRd
  unfold diskV at HRd
  unfold diskV
  have HId : Sec (∀ W, Gr wa W → Calls Tryz.prog 57 #[.string (bs r)] W fun e w' => e = .returned (.string (bs (sha r))) ∧ Gr W w') := sec (fun W g => rsum_any r W (by omega))
  have HSK : Sec (∀ W, Gr wa W → W.cell? ⟨p, 0, none⟩ = some (.slice A n cap) ∧ W.cell? ⟨p, 1, none⟩ = some (.int .i64 f) ∧ Gr wa W) := sec (fun W g => ⟨(hb1.gr g).cell 0, (hb1.gr g).cell 1, g⟩)

  have hxl := hexOf_len id
  have HHx := sec (fun W => rhex_any id W (by omega))
  obtain ⟨X, hX⟩ : ∃ X, X = hexOf id := ⟨_, rfl⟩
  rw [← hX] at HHx hxl
  rw [show fileN id = 111 :: X by rw [hX]; rfl] at HRd
  have hcat : ¬ 9223372036854775807 < 1 + X.length := by omega
  clear hX hxl
  obtain ⟨c0, c1, _⟩ := HSK.out wa (Gr.refl _)
  clear hx hs hV hR hb1
  by_cases h32 : id.length = 32
  case neg =>
    have q1 : ((id.length : Int) != 32) = true := by rw [bne_iff_ne]; omega
    have HX : Sec (V = ([], 2)) := sec (by rw [HV.out, if_neg h32])
    clear h32 HV
    go_enter Tryz.func25, Tryz.ntmps25
    go_wp2_with fail
    go_ret2
    rw [HX.out]
    rw [← hwa]
    exact ⟨rfl, hg0⟩
  have q1 : ((id.length : Int) != 32) = false := by rw [bne_eq_false_iff_eq]; omega
  have HV2 : Sec (V = if er = 0 then (if sha r = id then (r, 0) else ([], 5)) else ([], er)) := sec (by rw [HV.out, if_pos h32])
  clear h32 HV
  by_cases her : er = 0
  case neg =>
    have q2 : (er != 0) = true := by rw [bne_iff_ne]; exact her
    have HX : Sec (V = ([], er)) := sec (by rw [HV2.out, if_neg her])
    clear her HV2
    go_enter Tryz.func25, Tryz.ntmps25
    go_upto_region 3 with fail
    rw [← hwa, ← hp]
    clear hwa hp
    have gd : Gr wa wa.drew := (Gr.refl _).drew
    go_region_held3 (fun w' => w'.cell? ⟨p, 0, none⟩ = some (.slice A n cap) ∧ w'.cell? ⟨p, 1, none⟩ = some (.int .i64 f) ∧ Gr wa w')
      (first | with_reducible assumption | with_reducible exact HSK.out _ gd | with_reducible exact HSK.out _ g1 | with_reducible exact HSK.out _ g2 | with_reducible exact HSK.out _ (Gr.refl _) | fail)
      (first
        | (go_at_call 74; (with_reducible refine Calls.mono (HHx.out wa.drew) ?_); rintro e w1 ⟨rfl, g1'⟩; have g1 : Gr wa w1 := Gr.trans gd g1')
        | (go_at_call 73; (with_reducible refine Calls.mono (HRd.out w1 g1) ?_); rintro e w2 ⟨rfl, g2'⟩; have g2 : Gr wa w2 := Gr.trans g1 g2')
        | fail)
    all_goals (go_wp2_with fail; go_ret2; rw [HX.out]; exact ⟨rfl, hg0.trans g2⟩)
  subst her
  cases hq : sha r == id with
  | true =>
    have hq' : sha r = id := by simpa using hq
    have HX : Sec (V = (r, 0)) := sec (by rw [HV2.out, if_pos rfl, if_pos hq'])
    rw [hq'] at HId
    clear hq hq' HV2
    go_enter Tryz.func25, Tryz.ntmps25
    go_upto_region 3 with fail
    rw [← hwa, ← hp]
    clear hwa hp
    have gd : Gr wa wa.drew := (Gr.refl _).drew
    go_region_held3 (fun w' => w'.cell? ⟨p, 0, none⟩ = some (.slice A n cap) ∧ w'.cell? ⟨p, 1, none⟩ = some (.int .i64 f) ∧ Gr wa w')
      (first | with_reducible assumption | with_reducible exact HSK.out _ gd | with_reducible exact HSK.out _ g1 | with_reducible exact HSK.out _ g2 | with_reducible exact HSK.out _ (Gr.refl _) | fail)
      (first
        | (go_at_call 74; (with_reducible refine Calls.mono (HHx.out wa.drew) ?_); rintro e w1 ⟨rfl, g1'⟩; have g1 : Gr wa w1 := Gr.trans gd g1')
        | (go_at_call 73; (with_reducible refine Calls.mono (HRd.out w1 g1) ?_); rintro e w2 ⟨rfl, g2'⟩; have g2 : Gr wa w2 := Gr.trans g1 g2')
        | fail)
    all_goals (go_wp2_with (go_at_call 57; (with_reducible refine Calls.mono (HId.out _ g2) ?_); rintro e w3 ⟨rfl, g3⟩); go_ret2; rw [HX.out]; exact ⟨rfl, (hg0.trans g2).trans g3⟩)
  | false =>
    have hq' : ¬ sha r = id := by simpa using hq
    have HX : Sec (V = ([], 5)) := sec (by rw [HV2.out, if_pos rfl, if_neg hq'])
    obtain ⟨S, hS⟩ : ∃ S, S = sha r := ⟨_, rfl⟩
    rw [← hS] at HId hq
    clear hq' hS HV2
    go_enter Tryz.func25, Tryz.ntmps25
    go_upto_region 3 with fail
    rw [← hwa, ← hp]
    clear hwa hp
    have gd : Gr wa wa.drew := (Gr.refl _).drew
    go_region_held3 (fun w' => w'.cell? ⟨p, 0, none⟩ = some (.slice A n cap) ∧ w'.cell? ⟨p, 1, none⟩ = some (.int .i64 f) ∧ Gr wa w')
      (first | with_reducible assumption | with_reducible exact HSK.out _ gd | with_reducible exact HSK.out _ g1 | with_reducible exact HSK.out _ g2 | with_reducible exact HSK.out _ (Gr.refl _) | fail)
      (first
        | (go_at_call 74; (with_reducible refine Calls.mono (HHx.out wa.drew) ?_); rintro e w1 ⟨rfl, g1'⟩; have g1 : Gr wa w1 := Gr.trans gd g1')
        | (go_at_call 73; (with_reducible refine Calls.mono (HRd.out w1 g1) ?_); rintro e w2 ⟨rfl, g2'⟩; have g2 : Gr wa w2 := Gr.trans g1 g2')
        | fail)
    all_goals (go_wp2_with (go_at_call 57; (with_reducible refine Calls.mono (HId.out _ g2) ?_); rintro e w3 ⟨rfl, g3⟩); go_ret2; rw [HX.out]; exact ⟨rfl, (hg0.trans g2).trans g3⟩)
end Go.Proofs.YtoamnifnfkgbiaaGreatDoor

namespace Go.Proofs.YtoamnifnfkgbiaaGreatDoor
set_option maxRecDepth 100000
open Go.RowKit
set_option linter.unusedVariables false
set_option maxHeartbeats 2000000 in
theorem clo1_any (fs : List Fl) (A : Option Addr) (n cap : Nat) (f : Int) (q : Nat) (w : World) (hn : n ≤ 1099511627776) (hx : FRow w A n fs) (hs : ∀ f ∈ fs, f.1.length ≤ 1099511627776 ∧ f.2.1.length ≤ 1099511627776 ∧ f.2.2.length ≤ 1099511627776) (hT : TabK w) (hb : Blk w q 24 #[.slice A n cap, .int .i64 f]) :
    Tells 72 #[.pointer (some ⟨q, 0, none⟩)] (getO fs) w := by
  intro W x g hx2
  have HG := sec (stoGet_any fs x A n cap f W hn (hx.gr g) hs hx2 (hT.gr g))
  have c0 : W.cell? ⟨q, 0, none⟩ = some (.slice A n cap) := (hb.gr g).cell 0
  have c1 : W.cell? ⟨q, 1, none⟩ = some (.int .i64 f) := (hb.gr g).cell 1
  obtain ⟨⟨s, er⟩, hR⟩ : ∃ r, r = getO fs x := ⟨_, rfl⟩
  rw [← hR] at HG
  rw [← hR]
  unfold diskV at HG
  clear hR hb hx hs g hT
  show Calls _ _ #[.string (bs x), .pointer (some ⟨q, 0, none⟩)] _ _
  go_enter Tryz.func72, Tryz.ntmps72
  go_wp2_with (go_at_call 63; (with_reducible refine Calls.mono HG.out ?_); rintro e w1 ⟨rfl, g1⟩)
  go_ret2
  exact ⟨rfl, g1⟩
set_option maxHeartbeats 2000000 in
theorem clo2_any (fs : List Fl) (A : Option Addr) (n cap : Nat) (f : Int) (q : Nat) (w : World) (hn : n ≤ 1099511627776) (hx : FRow w A n fs) (hs : ∀ f ∈ fs, f.1.length ≤ 1099511627776 ∧ f.2.1.length ≤ 1099511627776 ∧ f.2.2.length ≤ 1099511627776) (hb : Blk w q 24 #[.slice A n cap, .int .i64 f]) :
    Tells 69 #[.pointer (some ⟨q, 0, none⟩)] (getO fs) w := by
  intro W x g hx2
  have HG := sec (rstoGet_any fs x A n cap f W hn (hx.gr g) hs hx2)
  have c0 : W.cell? ⟨q, 0, none⟩ = some (.slice A n cap) := (hb.gr g).cell 0
  have c1 : W.cell? ⟨q, 1, none⟩ = some (.int .i64 f) := (hb.gr g).cell 1
  obtain ⟨⟨s, er⟩, hR⟩ : ∃ r, r = getO fs x := ⟨_, rfl⟩
  rw [← hR] at HG
  rw [← hR]
  unfold diskV at HG
  clear hR hb hx hs g
  show Calls _ _ #[.string (bs x), .pointer (some ⟨q, 0, none⟩)] _ _
  go_enter Tryz.func69, Tryz.ntmps69
  go_wp2_with (go_at_call 25; (with_reducible refine Calls.mono HG.out ?_); rintro e w1 ⟨rfl, g1⟩)
  go_ret2
  exact ⟨rfl, g1⟩
set_option maxHeartbeats 2000000 in
theorem clo3_any (fs : List Fl) (A : Option Addr) (n cap : Nat) (f : Int) (q : Nat) (w : World) (hn : n ≤ 1099511627776) (hx : FRow w A n fs) (hs : ∀ f ∈ fs, f.1.length ≤ 1099511627776 ∧ f.2.1.length ≤ 1099511627776 ∧ f.2.2.length ≤ 1099511627776) (hb : Blk w q 24 #[.slice A n cap, .int .i64 f]) :
    Tells 24 #[.pointer (some ⟨q, 0, none⟩)] (getO fs) w := by
  intro W x g hx2
  have HG := sec (rstoGet_any fs x A n cap f W hn (hx.gr g) hs hx2)
  have c0 : W.cell? ⟨q, 0, none⟩ = some (.slice A n cap) := (hb.gr g).cell 0
  have c1 : W.cell? ⟨q, 1, none⟩ = some (.int .i64 f) := (hb.gr g).cell 1
  obtain ⟨⟨s, er⟩, hR⟩ : ∃ r, r = getO fs x := ⟨_, rfl⟩
  rw [← hR] at HG
  rw [← hR]
  unfold diskV at HG
  clear hR hb hx hs g
  show Calls _ _ #[.string (bs x), .pointer (some ⟨q, 0, none⟩)] _ _
  go_enter Tryz.func24, Tryz.ntmps24
  go_wp2_with (go_at_call 25; (with_reducible refine Calls.mono HG.out ?_); rintro e w1 ⟨rfl, g1⟩)
  go_ret2
  exact ⟨rfl, g1⟩
set_option maxHeartbeats 4000000 in
theorem closure_any (fs : List Fl) (ids : List (List UInt8)) (A : Option Addr) (n cap : Nat) (f : Int) (B : Option Addr) (m d : Nat) (w : World) (hn : n ≤ 1099511627776) (hx : FRow w A n fs) (hs : ∀ f ∈ fs, f.1.length ≤ 1099511627776 ∧ f.2.1.length ≤ 1099511627776 ∧ f.2.2.length ≤ 1099511627776) (hT : TabK w)
    (hi : StrRow w B m ids) (hm : m ≤ 1099511627776) (hB : B = none → m = 0 ∧ d = 0) (hz : ∀ x ∈ ids, x.length ≤ 1099511627776) :
    Calls Tryz.prog 23 #[diskV A n cap f, .slice B m d] w (RcPost w (getO fs) ids) := by
  have eg := enters_own Tryz.func72 (by kernel_rfl) rfl
  have hmf : ∀ (fn : Fn) (first cap : Array Value) (w : World), (Instr.makeFunc fn first cap).run Tryz.prog w = .ok (.func fn first cap) w := fun _ _ _ _ => rfl
  have g0 : Gr w (w.alloc (.cells #[.slice A n cap, .int .i64 f] 24)) := (Gr.refl w).alloc _
  have b0 := Blk.new w 24 #[.slice A n cap, .int .i64 f]
  have HR := sec (reach_any _ _ (getO fs) eg ids B m d _ (clo1_any fs A n cap f w.heap.size _ hn (hx.gr g0) hs (hT.gr g0) b0) (getO_le fs) (hi.gr g0) hm hB hz)
  have HG := sec g0
  unfold diskV
  clear hx hs hT hi hB hz g0 b0 eg
  go_enter Tryz.func23, Tryz.ntmps23
  go_wp2_with (go_at_call 12; refine Calls.mono HR.out ?_; rintro e w1 ⟨L, A1, n1, c1, er, h1, rfl, h2, h3, h4, h5, g1⟩)
  go_ret2
  exact ⟨L, A1, n1, c1, er, h1, rfl, h2, h3, h4, h5, HG.out.trans g1⟩
end Go.Proofs.YtoamnifnfkgbiaaGreatDoor

namespace Go.Proofs.YtoamnifnfkgbiaaGreatDoor
set_option maxRecDepth 100000
open Go.RowKit
set_option linter.unusedVariables false
theorem head_take (s : List UInt8) : (s.take 1 == [111]) = decide (s.head? = some 111) := by
  cases s with
  | nil => rfl
  | cons c r =>
    by_cases h : c = 111
    · subst h; simp
    · have h2 : (c == 111) = false := by simpa using h
      simp [h]
set_option maxHeartbeats 2000000 in
theorem hasPre_any (s : List UInt8) (w : World) :
    Calls Tryz.prog 164 #[.string (bs s), .string (bs [111])] w fun e w' => e = .returned (.bool (decide (s.head? = some 111))) ∧ Gr w w' := by
  by_cases hl : 1 ≤ s.length
  · have ql : (1 : Int) ≤ (s.length : Int) := by omega
    have HT := head_take s
    cases hb : decide (s.head? = some 111) with
    | true =>
      rw [hb] at HT
      clear hb
      go_enter Tryz.func164, Tryz.ntmps164
      go_wp2_with fail
      go_ret
      exact ⟨rfl, Gr.refl _⟩
    | false =>
      rw [hb] at HT
      clear hb
      go_enter Tryz.func164, Tryz.ntmps164
      go_wp2_with fail
      go_ret
      exact ⟨rfl, Gr.refl _⟩
  · have ql : ¬ (1 : Int) ≤ (s.length : Int) := by omega
    have hd : decide (s.head? = some 111) = false := by
      have : s = [] := List.eq_nil_of_length_eq_zero (by omega)
      subst this; rfl
    rw [hd]
    go_enter Tryz.func164, Tryz.ntmps164
    go_wp2_with fail
    go_ret
    exact ⟨rfl, Gr.refl _⟩
set_option maxHeartbeats 2000000 in
theorem cutO_any (s : List UInt8) (w : World) :
    Calls Tryz.prog 65 #[.string (bs s), .string (bs [111])] w fun e w' => e = .returned (.tuple #[.string (bs (if s.head? = some 111 then s.drop 1 else s)), .bool (decide (s.head? = some 111))]) ∧ Gr w w' := by
  have HP := sec (fun w => hasPre_any s w)
  have HC : Sec (∀ w, Calls Tryz.prog 106 #[.string (bs s), .string (bs [111])] w fun e w' => e = .returned (.tuple #[.string (bs (if s.head? = some 111 then s.drop 1 else s)), .bool (decide (s.head? = some 111))]) ∧ Gr w w') := sec (fun w => by
    by_cases hh : s.head? = some 111
    · have hl : (1 : Int) ≤ (s.length : Int) := by
        cases s with
        | nil => cases hh
        | cons c r => simp only [List.length_cons]; omega
      rw [decide_eq_true hh] at HP
      rw [decide_eq_true hh, if_pos hh]
      clear hh
      go_enter Tryz.func106, Tryz.ntmps106
      go_wp2_with (go_at_call 164; (with_reducible refine Calls.mono (HP.out _) ?_); rintro e w1 ⟨rfl, g1⟩)
      go_ret2
      exact ⟨by rw [List.drop_one]; rfl, g1⟩
    · rw [decide_eq_false hh] at HP
      rw [decide_eq_false hh, if_neg hh]
      clear hh
      go_enter Tryz.func106, Tryz.ntmps106
      go_wp2_with (go_at_call 164; (with_reducible refine Calls.mono (HP.out _) ?_); rintro e w1 ⟨rfl, g1⟩)
      go_ret2
      exact ⟨rfl, g1⟩)
  obtain ⟨V, hV⟩ : ∃ V, V = (if s.head? = some 111 then s.drop 1 else s) := ⟨_, rfl⟩
  obtain ⟨B, hB⟩ : ∃ B, B = decide (s.head? = some 111) := ⟨_, rfl⟩
  rw [← hV, ← hB] at HC
  rw [← hV, ← hB]
  clear hV hB HP
  go_enter Tryz.func65, Tryz.ntmps65
  go_wp2_with (go_at_call 106; (with_reducible refine Calls.mono (HC.out _) ?_); rintro e w1 ⟨rfl, g1⟩)
  go_ret2
  exact ⟨rfl, g1⟩
end Go.Proofs.YtoamnifnfkgbiaaGreatDoor

namespace Go.Proofs.YtoamnifnfkgbiaaGreatDoor
set_option maxRecDepth 100000
open Go.RowKit
set_option linter.unusedVariables false
/-- a disk swept comes back -/
def SwPost (w : World) (fs : List Fl) (f : Int) (ids : List (List UInt8)) (A : Option Addr) (n cap : Nat) (e : Ending) (w' : World) : Prop :=
  ∃ r, RcSpec (getO fs) ids r ∧ StepPost (sweepR fs f r) A n cap fs w e w'

theorem strRow_ne {w : World} {A : Option Addr} {n p : Nat} {L : List (List UInt8)} {t : TypeId} {x y : Value} (h : StrRow w A n L) (hb : Blk w p t #[x, y]) (hx : ∀ s, x ≠ .string s) (hy : ∀ s, y ≠ .string s) : 0 < n → ∀ b' off, A = some ⟨b', off, none⟩ → b' ≠ p := by
  intro hn b' off e hp
  subst hp
  obtain ⟨b2, off2, e2, hc⟩ := h.cell (i := 0) (by have := h.len; omega)
  rw [e] at e2
  injection e2 with e2
  injection e2 with e3 e4
  subst e3 e4
  rw [hb.cell] at hc
  rcases Nat.lt_or_ge (off + 0) 2 with h2 | h2
  · rcases (by omega : off + 0 = 0 ∨ off + 0 = 1) with e | e
    · rw [e] at hc; injection hc with hc; exact hx _ hc
    · rw [e] at hc; injection hc with hc; exact hy _ hc
  · rw [Array.getElem?_eq_none (by simpa using h2)] at hc
    cases hc
theorem strRow_set {w : World} {A : Option Addr} {n p k : Nat} {L : List (List UInt8)} (h : StrRow w A n L) (hne : 0 < n → ∀ b' off, A = some ⟨b', off, none⟩ → b' ≠ p) (v : Value) : StrRow (w.setCell ⟨p, k, none⟩ v) A n L := h.only (grown_setCell w ⟨p, k, none⟩ v) hne
theorem pnext {w wr w5 w6 : World} {p q n cap n1 cap1 n' cap' : Nat} {A A1 A' : Option Addr} {fs gs gs' : List Fl} {u u' : Int} (h : PMid w p q A n cap fs gs u A1 n1 cap1 wr) (k5 : Gr wr w5) (k6 : Gr w5 w6) (hwp : w.heap.size ≤ p) (hpq : p ≠ q) (hn : A' = none → n' = 0 ∧ cap' = 0)
    (hr : (A' = A1 ∧ n' = n1 ∧ cap' = cap1 ∧ gs' = gs) ∨ w6.ownsRow w5.heap.size 105 3 (.slice A' n' cap') n' (gs'.flatMap fileC)) :
    PMid w p q A n cap fs gs' u' A' n' cap' ((w6.setCell ⟨p, 0, none⟩ (.slice A' n' cap')).setCell ⟨p, 1, none⟩ (.int .i64 u')) := by
  have hbd := h.dk.gr (k5.trans k6)
  refine ⟨(hbd.set_ 0 _).set_ 1 _, ((h.rs.gr (k5.trans k6)).far (p := ⟨p, 0, none⟩) (fun e => hpq e.symm) _).far (p := ⟨p, 1, none⟩) (fun e => hpq e.symm) _, ((h.gr.trans (k5.trans k6)).setCell (p := ⟨p, 0, none⟩) hwp _).setCell (p := ⟨p, 1, none⟩) hwp _, hn, ?_⟩
  rcases hr with ⟨rfl, rfl, rfl, rfl⟩ | hr
  · rcases h.row with h1 | h1
    · exact .inl h1
    · have h2 := own_gr h1 (k5.trans k6)
      have hne := own_blk_ne h2 hbd (by decide)
      exact .inr (ownsRow_setCell_other (ownsRow_setCell_other h2 (a := ⟨p, 0, none⟩) hne _) (a := ⟨p, 1, none⟩) hne _)
  · exact .inr (own_low (own_set2P hr (Nat.lt_of_lt_of_le h.dk.lt k5.size) _ _) (Nat.le_trans h.gr.size k5.size))
theorem PMid.gr' {w wr w' : World} {p q n cap n1 cap1 : Nat} {A A1 : Option Addr} {fs gs : List Fl} {u : Int} (h : PMid w p q A n cap fs gs u A1 n1 cap1 wr) (g : Gr wr w') : PMid w p q A n cap fs gs u A1 n1 cap1 w' :=
  ⟨h.dk.gr g, h.rs.gr g, h.gr.trans g, h.nil, h.row.imp id (fun k => own_gr k g)⟩
theorem PMid.frow {w wr : World} {p q n cap n1 cap1 : Nat} {A A1 : Option Addr} {fs gs : List Fl} {u : Int} (h : PMid w p q A n cap fs gs u A1 n1 cap1 wr) (hx : FRow w A n fs) : FRow wr A1 n1 gs := by
  rcases h.row with ⟨rfl, rfl, _, rfl⟩ | h1
  · exact hx.gr h.gr
  · exact Row.own h1
theorem PMid.le {w wr : World} {p q n cap n1 cap1 : Nat} {A A1 : Option Addr} {fs gs : List Fl} {u : Int} (h : PMid w p q A n cap fs gs u A1 n1 cap1 wr) (hx : n ≤ cap) : n1 ≤ cap1 := by
  rcases h.row with ⟨_, rfl, rfl, _⟩ | h1
  · exact hx
  · exact own_ncap h1

set_option maxHeartbeats 16000000 in
theorem sweep_any (fs : List Fl) (ids : List (List UInt8)) (A : Option Addr) (n cap : Nat) (f : Int) (B : Option Addr) (m d : Nat) (w : World) (hx : FRow w A n fs) (hnc : n ≤ cap) (hA : A = none → n = 0 ∧ cap = 0) (hz : Sz fs) (hf : -9223372036854775808 ≤ f ∧ f ≤ 9223372036854775807) (hT : TabK w)
    (hi : StrRow w B m ids) (hm : m ≤ 1099511627776) (hB : B = none → m = 0 ∧ d = 0) (hid : ∀ x ∈ ids, x.length ≤ 1099511627776) :
    Calls Tryz.prog 20 #[diskV A n cap f, .slice B m d] w (SwPost w fs f ids A n cap) := by
  have hln := hx.len
  have hn40 : n ≤ 1048576 := by have := hz.1; omega
  have HCl : Sec (∀ W, Gr w W → Calls Tryz.prog 23 #[diskV A n cap f, .slice B m d] W (RcPost W (getO fs) ids)) := sec (fun W g => closure_any fs ids A n cap f B m d W (by omega) (hx.gr g) hz.2 (hT.gr g) (hi.gr g) hm hB hid)
  have HKl : Sec (∀ W, Gr w W → Calls Tryz.prog 64 #[.slice A n cap] W fun e w' => ∃ A' cap', e = .returned (.slice A' n cap') ∧ w'.ownsRow W.heap.size 105 3 (.slice A' n cap') n (fs.flatMap fileC) ∧ Gr W w') := sec (fun W g => clone_any fs A n cap W (by omega) (hx.gr g) hA)
  unfold diskV at HCl
  unfold diskV
  have G0 : Gr w ((w.alloc (.cells #[.slice A n cap, .int .i64 f] 24)).alloc (.cells #[.slice none 0 0, .int .i64 0] 24)) := ((Gr.refl w).alloc _).alloc _
  have B0 := (Blk.new w 24 #[.slice A n cap, .int .i64 f]).alloc (.cells #[.slice none 0 0, .int .i64 0] 24)
  have Q0 := Blk.new1 w (.cells #[.slice A n cap, .int .i64 f] 24) 24 #[.slice none 0 0, .int .i64 0]
  obtain ⟨wa, hwa⟩ : ∃ x, x = (w.alloc (.cells #[.slice A n cap, .int .i64 f] 24)).alloc (.cells #[.slice none 0 0, .int .i64 0] 24) := ⟨_, rfl⟩
  rw [← hwa] at G0 B0 Q0
  obtain ⟨p, hp⟩ : ∃ p, p = w.heap.size := ⟨_, rfl⟩
  rw [← hp] at B0 Q0
  have hwp : w.heap.size ≤ p := by omega
  have hwq : w.heap.size ≤ p + 1 := by omega
  have hpl := B0.lt
  have hql := Q0.lt
  have HSK : Sec (∀ W, Gr wa W → W.cell? ⟨p, 0, none⟩ = some (.slice A n cap) ∧ W.cell? ⟨p, 1, none⟩ = some (.int .i64 f) ∧ W.cell? ⟨p + 1, 0, none⟩ = some (.slice none 0 0) ∧ W.cell? ⟨p + 1, 1, none⟩ = some (.int .i64 0) ∧ W.frozen? ⟨p, 0, none⟩ = false ∧ W.frozen? ⟨p, 1, none⟩ = false ∧ W.frozen? ⟨p + 1, 0, none⟩ = false ∧ W.frozen? ⟨p + 1, 1, none⟩ = false) := sec (fun W g => ⟨(B0.gr g).cell 0, (B0.gr g).cell 1, (Q0.gr g).cell 0, (Q0.gr g).cell 1, (B0.gr g).frozen 0, (B0.gr g).frozen 1, (Q0.gr g).frozen 0, (Q0.gr g).frozen 1⟩)
  have HQ := sec Q0
  have HB := sec B0
  have HG0 := sec G0
  have HA := sec hA
  have HX := sec hx
  have HZ := sec hz
  have HFU := sec hf
  have HT := sec hT
  clear hx hA hz hf hT hi hm hB hid B0 Q0 G0
  go_enter Tryz.func20, Tryz.ntmps20
  go_upto_region 1 with fail
  rw [← hwa, ← hp]
  clear hwa hp
  obtain ⟨c0, c1, q0, q1, f0, f1, y0, y1⟩ := HSK.out wa (Gr.refl _)
  go_upto_region 2 with (go_at_call 23; (with_reducible refine Calls.mono (HCl.out _ HG0.out) ?_); rintro e w1 ⟨L, A1, n1, cap1, er, hsp, rfl, r1, _, _, l1, g1⟩; obtain ⟨c0, c1, q0, q1, f0, f1, y0, y1⟩ := HSK.out w1 g1)
  have hn1 := r1.len
  by_cases her : er = 0
  case neg =>
    have qe : (er != 0) = true := by rw [bne_iff_ne]; exact her
    have HXX : sweepR fs f (L, er) = (fs, f, er) := by unfold sweepR; rw [if_neg her]
    clear her
    go_wp2_with fail
    refine bodyPost_ret (results_blk_tmp rfl _ rfl (((HQ.out.gr g1).set_ 0 (.slice A n cap)).set_ 1 (.int .i64 f)) aggDisk) rfl ?_
    refine ⟨(L, er), hsp, ?_⟩
    rw [HXX]
    exact ⟨A, n, cap, rfl, ((HG0.out.trans g1).setCell (p := ⟨p + 1, 0, none⟩) hwq _).setCell (p := ⟨p + 1, 1, none⟩) hwq _, HA.out, .inl ⟨rfl, rfl, rfl, rfl⟩⟩
  subst her
  have HSP : Sec (∀ gs u ee, swGo L (fs.map (·.1)) fs f = (gs, u, ee) → ∃ r, RcSpec (getO fs) ids r ∧ sweepR fs f r = (gs, u, ee)) := sec (fun gs u ee h => ⟨(L, 0), hsp, by unfold sweepR; rw [if_pos rfl]; exact h⟩)
  clear hsp
  have HR1 := sec r1
  have HL1 := sec l1
  clear r1 l1
  go_wp2_with (go_at_call 64; (with_reducible refine Calls.mono (HKl.out _ (HG0.out.trans g1)) ?_); rintro e w2 ⟨Ac, cc, rfl, oc, g2⟩)
  have HPM : Sec (PMid w p (p + 1) A n cap fs fs f A n cap w2) := sec ⟨HB.out.gr (g1.trans g2), HQ.out.gr (g1.trans g2), HG0.out.trans (g1.trans g2), HA.out, .inl ⟨rfl, rfl, rfl, rfl⟩⟩
  have HC0 := sec (And.intro oc (HR1.out.gr g2))
  have hpw : p + 1 < w1.heap.size := Nat.lt_of_lt_of_le hql g1.size
  have HN0 : Sec (fs.length = n) := sec hln
  clear c0 c1 q0 q1 f0 f1 y0 y1 oc g2
  go_loopw [28] (fun iv wr => ∃ (i : Nat) (gs : List Fl) (u : Int) (A' : Option Addr) (n' cap' : Nat), iv = .int .i64 (i : Int) ∧ i ≤ n ∧ Sec (PMid w p (p + 1) A n cap fs gs u A' n' cap' wr) ∧ Sec (wr.ownsRow w1.heap.size 105 3 (.slice Ac n cc) n (fs.flatMap fileC) ∧ StrRow wr A1 n1 L) ∧
      Sec (swGo L (fs.map (·.1)) fs f = swGo L ((fs.map (·.1)).drop i) gs u ∧ Sz gs ∧ -9223372036854775808 ≤ u ∧ u ≤ 9223372036854775807)) (fun iv _ => n - (intOf iv).toNat)
  case atStart => exact ⟨0, fs, f, A, n, cap, rfl, by omega, HPM, HC0, sec ⟨by rw [List.drop_zero], HZ.out, HFU.out⟩⟩
  case round =>
    clear HPM HC0
    obtain ⟨i, gs, u, A', n', cap', rfl, hi, HP, HC, HS⟩ := hrel
    have HNQ : Sec (∀ k W, (Value.slice A' n' cap').ownBlock = some k → W.ownsRow w.heap.size 105 3 (.slice A' n' cap') n' (gs.flatMap fileC) → Blk W (p + 1) 24 #[.slice none 0 0, .int .i64 0] → k ≠ p + 1) := sec (fun k W hk h hb hkp => by
      subst hkp
      exact own_blk_ne h hb (by decide) hk)
    have c0 : wr.cell? ⟨p, 0, none⟩ = some (.slice A' n' cap') := HP.out.dk.cell 0
    have c1 : wr.cell? ⟨p, 1, none⟩ = some (.int .i64 u) := HP.out.dk.cell 1
    have q0 : wr.cell? ⟨p + 1, 0, none⟩ = some (.slice none 0 0) := HP.out.rs.cell 0
    have q1 : wr.cell? ⟨p + 1, 1, none⟩ = some (.int .i64 0) := HP.out.rs.cell 1
    have f0 : wr.frozen? ⟨p + 1, 0, none⟩ = false := HP.out.rs.frozen 0
    have f1 : wr.frozen? ⟨p + 1, 1, none⟩ = false := HP.out.rs.frozen 1
    by_cases hlt : i < n
    · have hii : (i : Int) < (n : Int) := by omega
      have hlL : i < fs.length := by rw [HN0.out]; exact hlt
      obtain ⟨bb, off, rfl, x0, x1, x2⟩ := (show FRow wr Ac n fs from Row.own HC.out.1).cell hlL
      have hzz := (HZ.out.2 _ (List.getElem_mem hlL)).1
      have HDR : Sec ((fs.map (·.1)).drop i = fs[i].1 :: (fs.map (·.1)).drop (i + 1)) := sec (by rw [List.drop_eq_getElem_cons (by rw [List.length_map]; exact hlL), List.getElem_map])
      obtain ⟨y, hy⟩ : ∃ y, y = fs[i] := ⟨_, rfl⟩
      rw [← hy] at x0 x1 x2 hzz HDR
      obtain ⟨nm, sf, tl⟩ := y
      simp only at x0 x1 x2 hzz HDR
      have HLT := sec hlt
      clear hy hlt hlL
      have GA := (Gr.refl wr).alloc (.cells #[.string (bs nm), .string (bs sf), .string (bs tl)] 105)
      have BA := Blk.new wr 105 #[.string (bs nm), .string (bs sf), .string (bs tl)]
      have HCu := sec (fun W => cutO_any nm W)
      have HSKIP : Sec (swB L nm = false → swGo L (fs.map (·.1)) fs f = swGo L ((fs.map (·.1)).drop (i + 1)) gs u) := sec (fun h => by rw [HS.out.1, HDR.out, swGo_skip h])
      by_cases hh : nm.head? = some 111
      case neg =>
        rw [decide_eq_false hh, if_neg hh] at HCu
        have HNX := sec (HSKIP.out (swB_none (swI_head hh)))
        have HUi := sec (fun W => unhex_any nm W (by omega))
        clear hh HSKIP
        cases hu : unhex nm with
        | none =>
          rw [hu] at HUi
          unfold uhV at HUi
          simp only at HUi
          clear hu
          go_wp2_with (first
          | (go_at_call 65; (with_reducible refine Calls.mono (HCu.out _) ?_); rintro e v1 ⟨rfl, k1⟩)
          | (go_at_call 66; (with_reducible refine Calls.mono (HUi.out _) ?_); rintro e v2 ⟨rfl, k2⟩; have k12 := GA.trans (k1.trans k2)))
          go_roundw
          case rel => exact ⟨i + 1, gs, u, A', n', cap', by go_num, HLT.out, sec (HP.out.gr' k12), sec ⟨own_gr HC.out.1 k12, HC.out.2.gr k12⟩, sec ⟨HNX.out, HS.out.2⟩⟩
          case measure => simp [intOf]; have := HLT.out; omega
        | some id =>
          rw [hu] at HUi
          unfold uhV at HUi
          simp only at HUi
          clear hu
          go_wp2_with (first
          | (go_at_call 65; (with_reducible refine Calls.mono (HCu.out _) ?_); rintro e v1 ⟨rfl, k1⟩)
          | (go_at_call 66; (with_reducible refine Calls.mono (HUi.out _) ?_); rintro e v2 ⟨rfl, k2⟩; have k12 := GA.trans (k1.trans k2)))
          go_roundw
          case rel => exact ⟨i + 1, gs, u, A', n', cap', by go_num, HLT.out, sec (HP.out.gr' k12), sec ⟨own_gr HC.out.1 k12, HC.out.2.gr k12⟩, sec ⟨HNX.out, HS.out.2⟩⟩
          case measure => simp [intOf]; have := HLT.out; omega
      rw [decide_eq_true hh, if_pos hh] at HCu
      obtain ⟨s, hss⟩ : ∃ s, s = nm.drop 1 := ⟨_, rfl⟩
      have hsl : s.length ≤ 1099511627776 := by rw [hss, List.length_drop]; omega
      have HUi := sec (fun W => unhex_any s W (by omega))
      rw [← hss] at HCu
      cases hu : unhex s with
      | none =>
        have HNX := sec (HSKIP.out (swB_none (swI_odd (by rw [← hss]; exact hu))))
        rw [hu] at HUi
        unfold uhV at HUi
        simp only at HUi
        clear hu hh hss HSKIP
        go_wp2_with (first
          | (go_at_call 65; (with_reducible refine Calls.mono (HCu.out _) ?_); rintro e v1 ⟨rfl, k1⟩)
          | (go_at_call 66; (with_reducible refine Calls.mono (HUi.out _) ?_); rintro e v2 ⟨rfl, k2⟩; have k12 := GA.trans (k1.trans k2)))
        go_roundw
        case rel => exact ⟨i + 1, gs, u, A', n', cap', by go_num, HLT.out, sec (HP.out.gr' k12), sec ⟨own_gr HC.out.1 k12, HC.out.2.gr k12⟩, sec ⟨HNX.out, HS.out.2⟩⟩
        case measure => simp [intOf]; have := HLT.out; omega
      | some id =>
        have HAT := sec (swI_at hh (by rw [← hss]; exact hu))
        rw [hu] at HUi
        unfold uhV at HUi
        simp only at HUi
        clear hu hh hss
        by_cases h32 : id.length = 32
        case neg =>
          have q32 : ((id.length : Int) != 32) = true := by rw [bne_iff_ne]; omega
          have HNX := sec (HSKIP.out (swB_none (by rw [HAT.out, if_neg h32])))
          clear h32 HSKIP HAT
          go_wp2_with (first
          | (go_at_call 65; (with_reducible refine Calls.mono (HCu.out _) ?_); rintro e v1 ⟨rfl, k1⟩)
          | (go_at_call 66; (with_reducible refine Calls.mono (HUi.out _) ?_); rintro e v2 ⟨rfl, k2⟩; have k12 := GA.trans (k1.trans k2)))
          go_roundw
          case rel => exact ⟨i + 1, gs, u, A', n', cap', by go_num, HLT.out, sec (HP.out.gr' k12), sec ⟨own_gr HC.out.1 k12, HC.out.2.gr k12⟩, sec ⟨HNX.out, HS.out.2⟩⟩
          case measure => simp [intOf]; have := HLT.out; omega
        have q32 : ((id.length : Int) != 32) = false := by rw [bne_eq_false_iff_eq]; omega
        have HBB : Sec (swB L nm = !decide (id ∈ L)) := sec (swB_some (by rw [HAT.out, if_pos h32]))
        have HCo : Sec (∀ W, Gr wr W → Calls Tryz.prog 67 #[.slice A1 n1 cap1, .string (bs id)] W fun e w' => e = .returned (.bool (decide (id ∈ L))) ∧ Gr W w') := sec (fun W g => sliceContains_any L id A1 n1 cap1 W (HC.out.2.gr g) (by have := HL1.out; omega))
        clear h32 HAT
        by_cases hkeep : id ∈ L
        · rw [decide_eq_true hkeep] at HCo HBB
          have HNX := sec (HSKIP.out HBB.out)
          clear hkeep HSKIP HBB
          go_wp2_with (first
          | (go_at_call 65; (with_reducible refine Calls.mono (HCu.out _) ?_); rintro e v1 ⟨rfl, k1⟩)
          | (go_at_call 66; (with_reducible refine Calls.mono (HUi.out _) ?_); rintro e v2 ⟨rfl, k2⟩; have k12 := GA.trans (k1.trans k2))
          | (go_at_call 67; (with_reducible refine Calls.mono (HCo.out _ k12) ?_); rintro e v3 ⟨rfl, k3⟩; have k13 : Gr wr v3 := Gr.trans k12 k3; have x0 : v3.cell? ⟨p, 0, none⟩ = some (.slice A' n' cap') := (HP.out.dk.gr k13).cell 0; have x1 : v3.cell? ⟨p, 1, none⟩ = some (.int .i64 u) := (HP.out.dk.gr k13).cell 1; have xf0 : v3.frozen? ⟨p, 0, none⟩ = false := (HP.out.dk.gr k13).frozen 0; have xf1 : v3.frozen? ⟨p, 1, none⟩ = false := (HP.out.dk.gr k13).frozen 1; have xn : v3.cell? ⟨wr.heap.size, 0, none⟩ = some (.string (bs nm)) := (BA.gr (k1.trans (k2.trans k3))).cell 0))
          go_roundw
          case rel => exact ⟨i + 1, gs, u, A', n', cap', by go_num, HLT.out, sec (HP.out.gr' k13), sec ⟨own_gr HC.out.1 k13, HC.out.2.gr k13⟩, sec ⟨HNX.out, HS.out.2⟩⟩
          case measure => simp [intOf]; have := HLT.out; omega
        rw [decide_eq_false hkeep] at HCo HBB
        have HRm : Sec (∀ W, Gr wr W → Calls Tryz.prog 68 #[diskV A' n' cap' u, .string (bs nm)] W (StepPost (stepR (rmF nm) gs u) A' n' cap' gs W)) := sec (fun W g => remove_any nm gs A' n' cap' u W (by have h1 := (HP.out.frow HX.out).len; have h2 := HS.out.2.1.1; omega) ((HP.out.frow HX.out).gr g) HP.out.nil HS.out.2.1.2 HS.out.2.2)
        have HSz : Sec (Sz (stepR (rmF nm) gs u).1) := sec (rm_sz u HS.out.2.1)
        have HFz := sec (stepR_fuse (F := rmF nm) (fs := gs) HS.out.2.2)
        have HG2 : Sec ((stepR (rmF nm) gs u).2.2 = 0 → swGo L (fs.map (·.1)) fs f = swGo L ((fs.map (·.1)).drop (i + 1)) (stepR (rmF nm) gs u).1 (stepR (rmF nm) gs u).2.1) := sec (fun h => by rw [HS.out.1, HDR.out, swGo_go HBB.out h])
        have HG3 : Sec ((stepR (rmF nm) gs u).2.2 ≠ 0 → swGo L (fs.map (·.1)) fs f = stepR (rmF nm) gs u) := sec (fun h => by rw [HS.out.1, HDR.out, swGo_end HBB.out h])
        obtain ⟨⟨gs2, u2, e2⟩, hR2⟩ : ∃ r, r = stepR (rmF nm) gs u := ⟨_, rfl⟩
        rw [← hR2] at HRm HSz HFz HG2 HG3
        simp only at HSz HFz HG2 HG3
        unfold StepPost diskV at HRm
        simp only at HRm
        clear hkeep HSKIP HBB hR2
        by_cases he2 : e2 = 0
        · subst he2
          have HNX := sec (HG2.out rfl)
          clear HG2 HG3
          go_wp2_with (first
          | (go_at_call 65; (with_reducible refine Calls.mono (HCu.out _) ?_); rintro e v1 ⟨rfl, k1⟩)
          | (go_at_call 66; (with_reducible refine Calls.mono (HUi.out _) ?_); rintro e v2 ⟨rfl, k2⟩; have k12 := GA.trans (k1.trans k2))
          | (go_at_call 67; (with_reducible refine Calls.mono (HCo.out _ k12) ?_); rintro e v3 ⟨rfl, k3⟩; have k13 : Gr wr v3 := Gr.trans k12 k3; have x0 : v3.cell? ⟨p, 0, none⟩ = some (.slice A' n' cap') := (HP.out.dk.gr k13).cell 0; have x1 : v3.cell? ⟨p, 1, none⟩ = some (.int .i64 u) := (HP.out.dk.gr k13).cell 1; have xf0 : v3.frozen? ⟨p, 0, none⟩ = false := (HP.out.dk.gr k13).frozen 0; have xf1 : v3.frozen? ⟨p, 1, none⟩ = false := (HP.out.dk.gr k13).frozen 1; have xn : v3.cell? ⟨wr.heap.size, 0, none⟩ = some (.string (bs nm)) := (BA.gr (k1.trans (k2.trans k3))).cell 0)
          | (go_at_call 68; (with_reducible refine Calls.mono (HRm.out v3 k13) ?_); rintro e v4 ⟨A2, n2, cap2, rfl, k4, hA2, hrow2⟩; have y0 : v4.frozen? ⟨p, 0, none⟩ = false := (HP.out.dk.gr (k13.trans k4)).frozen 0; have y1 : v4.frozen? ⟨p, 1, none⟩ = false := (HP.out.dk.gr (k13.trans k4)).frozen 1; have yc0 : v4.cell? ⟨p, 0, none⟩ = some (.slice A' n' cap') := (HP.out.dk.gr (k13.trans k4)).cell 0; have yc1 : v4.cell? ⟨p, 1, none⟩ = some (.int .i64 u) := (HP.out.dk.gr (k13.trans k4)).cell 1; have z0 : v4.cell? ⟨p + 1, 0, none⟩ = some (.slice none 0 0) := (HP.out.rs.gr (k13.trans k4)).cell 0; have z1 : v4.cell? ⟨p + 1, 1, none⟩ = some (.int .i64 0) := (HP.out.rs.gr (k13.trans k4)).cell 1; have zf0 : v4.frozen? ⟨p + 1, 0, none⟩ = false := (HP.out.rs.gr (k13.trans k4)).frozen 0; have zf1 : v4.frozen? ⟨p + 1, 1, none⟩ = false := (HP.out.rs.gr (k13.trans k4)).frozen 1))
          go_roundw
          case rel =>
            have hP := pnext (u' := u2) HP.out k13 k4 hwp (by omega) hA2 hrow2
            have kk := k13.trans k4
            have ho : v4.ownsRow w1.heap.size 105 3 (.slice (some ⟨bb, off, none⟩) n cc) n (fs.flatMap fileC) := own_gr HC.out.1 kk
            have hne : (Value.slice (some ⟨bb, off, none⟩) n cc).ownBlock ≠ some p := fun e => by have := (ho.lt _ e).1; omega
            have hr := HC.out.2.gr kk
            have hrn := strRow_ne hr (HP.out.dk.gr kk) (fun s h => by cases h) (fun s h => by cases h)
            exact ⟨i + 1, gs2, u2, A2, n2, cap2, by go_num, HLT.out, sec hP, sec ⟨ownsRow_setCell_other (ownsRow_setCell_other ho (a := ⟨p, 0, none⟩) hne _) (a := ⟨p, 1, none⟩) hne _, strRow_set (strRow_set hr hrn _) hrn _⟩, sec ⟨HNX.out, HSz.out, HFz.out⟩⟩
          case measure => simp [intOf]; have := HLT.out; omega
        · have qe2 : (e2 != 0) = true := by rw [bne_iff_ne]; exact he2
          have HXX := HSP.out _ _ _ (HG3.out he2)
          clear HG2 HG3 he2
          go_wp2_with (first
          | (go_at_call 65; (with_reducible refine Calls.mono (HCu.out _) ?_); rintro e v1 ⟨rfl, k1⟩)
          | (go_at_call 66; (with_reducible refine Calls.mono (HUi.out _) ?_); rintro e v2 ⟨rfl, k2⟩; have k12 := GA.trans (k1.trans k2))
          | (go_at_call 67; (with_reducible refine Calls.mono (HCo.out _ k12) ?_); rintro e v3 ⟨rfl, k3⟩; have k13 : Gr wr v3 := Gr.trans k12 k3; have x0 : v3.cell? ⟨p, 0, none⟩ = some (.slice A' n' cap') := (HP.out.dk.gr k13).cell 0; have x1 : v3.cell? ⟨p, 1, none⟩ = some (.int .i64 u) := (HP.out.dk.gr k13).cell 1; have xf0 : v3.frozen? ⟨p, 0, none⟩ = false := (HP.out.dk.gr k13).frozen 0; have xf1 : v3.frozen? ⟨p, 1, none⟩ = false := (HP.out.dk.gr k13).frozen 1; have xn : v3.cell? ⟨wr.heap.size, 0, none⟩ = some (.string (bs nm)) := (BA.gr (k1.trans (k2.trans k3))).cell 0)
          | (go_at_call 68; (with_reducible refine Calls.mono (HRm.out v3 k13) ?_); rintro e v4 ⟨A2, n2, cap2, rfl, k4, hA2, hrow2⟩; have y0 : v4.frozen? ⟨p, 0, none⟩ = false := (HP.out.dk.gr (k13.trans k4)).frozen 0; have y1 : v4.frozen? ⟨p, 1, none⟩ = false := (HP.out.dk.gr (k13.trans k4)).frozen 1; have yc0 : v4.cell? ⟨p, 0, none⟩ = some (.slice A' n' cap') := (HP.out.dk.gr (k13.trans k4)).cell 0; have yc1 : v4.cell? ⟨p, 1, none⟩ = some (.int .i64 u) := (HP.out.dk.gr (k13.trans k4)).cell 1; have z0 : v4.cell? ⟨p + 1, 0, none⟩ = some (.slice none 0 0) := (HP.out.rs.gr (k13.trans k4)).cell 0; have z1 : v4.cell? ⟨p + 1, 1, none⟩ = some (.int .i64 0) := (HP.out.rs.gr (k13.trans k4)).cell 1; have zf0 : v4.frozen? ⟨p + 1, 0, none⟩ = false := (HP.out.rs.gr (k13.trans k4)).frozen 0; have zf1 : v4.frozen? ⟨p + 1, 1, none⟩ = false := (HP.out.rs.gr (k13.trans k4)).frozen 1))
          have hP := pnext (u' := u2) HP.out k13 k4 hwp (show p ≠ p + 1 by omega) hA2 hrow2
          refine bodyPost_ret (results_blk_tmp rfl _ rfl ((hP.rs.set_ 0 (.slice A2 n2 cap2)).set_ 1 (.int .i64 u2)) aggDisk) rfl ?_
          obtain ⟨r, hr1, hr2⟩ := HXX
          refine ⟨r, hr1, ?_⟩
          rw [hr2]
          obtain ⟨t1, t2⟩ := putEndS (q := p + 1) hP.gr hwq (fun k hk h hkp => by subst hkp; exact own_blk_ne h hP.rs (by decide) hk) hP.row (.slice A2 n2 cap2) (.int .i64 u2)
          exact ⟨A2, n2, cap2, rfl, t1, hP.nil, t2⟩
    · obtain rfl : i = n := by omega
      have HXX := HSP.out gs u 0 (by rw [HS.out.1, List.drop_of_length_le (by rw [List.length_map, HN0.out]; exact Nat.le_refl _)]; rfl)
      clear hlt
      go_wp2_with fail
      refine bodyPost_ret (results_blk_tmp rfl _ rfl ((HP.out.rs.set_ 0 (.slice A' n' cap')).set_ 1 (.int .i64 u)) aggDisk) rfl ?_
      obtain ⟨r, hr1, hr2⟩ := HXX
      refine ⟨r, hr1, ?_⟩
      rw [hr2]
      obtain ⟨t1, t2⟩ := putEndS (q := p + 1) HP.out.gr hwq (fun k hk h => HNQ.out k wr hk h HP.out.rs) HP.out.row (.slice A' n' cap') (.int .i64 u)
      exact ⟨A', n', cap', rfl, t1, HP.out.nil, t2⟩
end Go.Proofs.YtoamnifnfkgbiaaGreatDoor

namespace Go.Proofs.YtoamnifnfkgbiaaGreatDoor
open Go.RowKit
set_option linter.unusedVariables false
/-- what one byte does to the number and the count -/
def unN (n : Nat) (c : UInt8) : Nat := if unD c < 16 then 16 * n + unD c else n
def unOk (k : Nat) (c : UInt8) : Nat := if unD c < 16 then k + 1 else k
/-- the digit d is the byte c -/
theorem digit_is (d : Nat) (hd : d < 16) (c : UInt8) : (hexD d).toNat = c.toNat ↔ unD c = d := by
  have h : ∀ (d : Fin 16) (n : Fin 256), (hexD d.val).toNat = (UInt8.ofNat n.val).toNat ↔ unD (UInt8.ofNat n.val) = d.val := by decide +kernel
  have := h ⟨d, hd⟩ ⟨c.toNat, c.toNat_lt⟩
  simpa using this
theorem unhex_two (s : List UInt8) (i : Nat) (h : i + 1 < s.length) : unhex (s.drop i) = if unOk (unOk 0 s[i]) s[i + 1] = 2 then (unhex (s.drop (i + 2))).map (UInt8.ofNat (unN (unN 0 s[i]) s[i + 1]) :: ·) else none := by
  rw [unhex_step s i h]
  by_cases h1 : unD s[i] < 16
  · by_cases h2 : unD s[i + 1] < 16
    · simp [unOk, unN, h1, h2, Nat.mul_comm]
    · simp [unOk, h1, h2]
  · by_cases h2 : unD s[i + 1] < 16
    · simp [unOk, h1, h2]
    · simp [unOk, h1, h2]
theorem unhex_one (a : UInt8) : unhex [a] = none := rfl

/-- one byte against all sixteen digits: the inner loop's state -/
def unNd (n : Nat) (c : UInt8) (d : Nat) : Nat := if unD c < d then 16 * n + unD c else n
def unOkd (k : Nat) (c : UInt8) (d : Nat) : Nat := if unD c < d then k + 1 else k

theorem unNd_16 (n : Nat) (c : UInt8) : unNd n c 16 = unN n c := rfl
theorem unOkd_16 (k : Nat) (c : UInt8) : unOkd k c 16 = unOk k c := rfl
theorem unNd_hit (n : Nat) (c : UInt8) (d : Nat) (h : unD c = d) : unNd n c d = n ∧ unNd n c (d + 1) = 16 * n + d := by
  unfold unNd; rw [h]; simp
theorem unOkd_hit (n : Nat) (c : UInt8) (d : Nat) (h : unD c = d) : unOkd n c d = n ∧ unOkd n c (d + 1) = n + 1 := by
  unfold unOkd; rw [h]; simp
theorem unNd_miss (n : Nat) (c : UInt8) (d : Nat) (h : unD c ≠ d) : unNd n c (d + 1) = unNd n c d := by
  unfold unNd
  by_cases h1 : unD c < d
  · rw [if_pos h1, if_pos (by omega)]
  · rw [if_neg h1, if_neg (by omega)]
theorem unOkd_miss (n : Nat) (c : UInt8) (d : Nat) (h : unD c ≠ d) : unOkd n c (d + 1) = unOkd n c d := by
  unfold unOkd
  by_cases h1 : unD c < d
  · rw [if_pos h1, if_pos (by omega)]
  · rw [if_neg h1, if_neg (by omega)]
theorem unNd_lt (n : Nat) (c : UInt8) (d : Nat) : unNd n c d ≤ 16 * n + 16 := by
  have := unD_le c
  unfold unNd; split <;> omega
theorem unOkd_le (n : Nat) (c : UInt8) (d : Nat) : unOkd n c d ≤ n + 1 := by
  unfold unOkd; split <;> omega
def unNs (l : List UInt8) : Nat → Nat
  | 0 => 0
  | k + 1 => unN (unNs l k) (l.getD k 0)
def unOks (l : List UInt8) : Nat → Nat
  | 0 => 0
  | k + 1 => unOk (unOks l k) (l.getD k 0)
theorem digit_at64 (n : Nat) (h : n < 16) (w : World) :
    (Instr.index 9 (.string (bs [48, 49, 50, 51, 52, 53, 54, 55, 56, 57, 97, 98, 99, 100, 101, 102])) (.int .i64 (n : Int))).run Tryz.prog w = .ok (.int .u8 ((hexD n).toNat : Int)) w := by
  rw [run_index_string w 9 _ _ _ Tryz.underlying9]
  have h16 : (n : Int) < 16 := by omega
  simp only [bs_size, List.length_cons, List.length_nil]
  rw [dif_pos ⟨by omega, by omega⟩]
  simp [bs_get, hexD, hexL, List.getD, h]

set_option maxRecDepth 100000 in
set_option maxHeartbeats 4000000 in
theorem runhex_any (s : List UInt8) (w : World) (hs : s.length ≤ 17592186044416) :
    Calls Tryz.prog 70 #[.string (bs s)] w fun e w' => e = .returned (uhV (unhex s)) ∧ Gr w w' := by
  have HE : ∀ b : Bool, True := fun _ => trivial
  go_enter Tryz.func70, Tryz.ntmps70
  go_wp2_with fail
  go_loopw [4, 5, 6, 7, 9, 10] (fun v iv _ _ _ _ wr => ∃ (i n : Nat) (ad : Option Addr) (cap : Nat) (o : List UInt8), iv = .int .i64 (i : Int) ∧ i ≤ s.length ∧ Sec (i % 2 = 0) ∧ v = .slice ad n cap ∧ 2 * n ≤ i ∧ wr.ownsRow w.heap.size 5 1 (.slice ad n cap) n (o.map byteV) ∧ Sec (unhex s = (unhex (s.drop i)).map (o ++ ·)) ∧ Gr w wr)
    (fun _ iv _ _ _ _ _ => s.length - (intOf iv).toNat)
  case atStart => exact ⟨0, 0, none, 0, [], rfl, by omega, sec rfl, rfl, by omega, World.ownsRow_nil _ _ _ _, sec (by rw [List.drop_zero]; cases unhex s <;> rfl), Gr.refl w⟩
  case round =>
    obtain ⟨i, n, ad, cap, o, rfl, hi, HI, rfl, hn, hown, HU, hg⟩ := hrel
    by_cases hlt : i + 1 < s.length
    · have hli : (i : Int) + 1 < (s.length : Int) := by omega
      have HT := sec (unhex_two s i hlt)
      have HL := sec hlt
      obtain ⟨l, hl⟩ : ∃ l, l = sub s i (i + 2) := ⟨_, rfl⟩
      have hll : l.length = 2 := by rw [hl, sub_len _ _ _ (by omega)]; omega
      have hl0 : l.getD 0 0 = s[i] := by rw [hl]; simp [sub, List.getD, show i < s.length by omega]
      have hl1 : l.getD 1 0 = s[i + 1] := by rw [hl]; simp [sub, List.getD, hlt]
      rw [← hl0, ← hl1] at HT
      rw [show unOk (unOk 0 (l.getD 0 0)) (l.getD 1 0) = unOks l 2 from rfl, show unN (unN 0 (l.getD 0 0)) (l.getD 1 0) = unNs l 2 from rfl] at HT
      have hsub : (bs s).extract i (i + 2) = bs l := by rw [bs_extract, hl]
      have hs2 : sub s i (i + 2) = l := hl.symm
      obtain ⟨w2, cap2, hcv, hg2, hB⟩ := conv_brow Tryz.underlying9 Tryz.underlying140 Tryz.underlying5 wr l (by unfold maxLen; omega)
      rw [hll] at hcv
      have hown2 := own_gr hown hg2
      have hgw := hg.trans hg2
      clear hl hl0 hl1
      obtain ⟨wo, hwo⟩ : ∃ wo : World, wo = wr := ⟨_, rfl⟩
      obtain ⟨g1, hg1⟩ : ∃ g1, g1 = wr.heap.size := ⟨_, rfl⟩
      have hcells : ∀ j, j < 2 → w2.cell? ⟨g1, j, none⟩ = some (.int .u8 ((l.getD j 0).toNat : Int)) := by
        intro j hj
        rw [hg1]
        exact hB.at_ j _ (by simp [List.getD, byteV, show j < l.length by omega])
      have hB2 := sec hB
      clear hB
      go_wp2_with fail
      rw [← hg1]
      have HC := sec hcells
      have HH2 := sec hown2
      have HGW := sec hgw
      clear hg1 hwo hcells hown2 hgw hcv hg2 hown hg hsub hs2 hB2 hll
      go_loopw [25, 6, 7, 9, 10] (fun kv nv ov _ _ wr => ∃ k N K : Nat, kv = .int .i64 k ∧ k ≤ 2 ∧ nv = .int .i64 N ∧ ov = .int .i64 K ∧ Sec (N = unNs l k) ∧ Sec (K = unOks l k) ∧ (N ≤ 272 ∧ (k = 1 → N ≤ 16) ∧ (k = 0 → N = 0)) ∧ K ≤ k ∧ wr = w2)
        (fun kv _ _ _ _ _ => 2 - (intOf kv).toNat)
      case atStart => exact ⟨0, 0, 0, rfl, by omega, rfl, rfl, sec rfl, sec rfl, by omega, by omega, rfl⟩
      case round =>
        obtain ⟨k, N, K, rfl, hk, rfl, rfl, HN, HK, hN, hK, rfl⟩ := hrel
        by_cases hk2 : k < 2
        · have hc := HC.out k hk2
          have hK9 : K ≤ 2 := by omega
          have hki : (k : Int) < 2 := by omega
          have hN2 : N ≤ 1000 := by omega
          have HNN : Sec (16 * N + 16 ≤ 272 ∧ (k + 1 = 1 → 16 * N + 16 ≤ 16)) := sec (by
            have : k = 0 ∨ k = 1 := by omega
            rcases this with rfl | rfl
            · have := hN.2.2 rfl; omega
            · have := hN.2.1 rfl; omega)
          obtain ⟨c, hcc⟩ : ∃ c, c = l.getD k 0 := ⟨_, rfl⟩
          rw [← hcc] at hc
          have HCC := sec hcc
          have H2 := sec hk2
          have HKK := sec hK
          clear hcc hk2 hk hN hK
          go_wp2_with fail
          go_loopw [29, 6, 7, 10] (fun dv nv ov _ wr' => ∃ d N' K' : Nat, dv = .int .i64 d ∧ d ≤ 16 ∧ nv = .int .i64 N' ∧ ov = .int .i64 K' ∧ Sec (N' = unNd N c d) ∧ Sec (K' = unOkd K c d) ∧ N' ≤ 16 * N + 16 ∧ K' ≤ K + 1 ∧ wr' = wr)
            (fun dv _ _ _ _ => 16 - (intOf dv).toNat)
          case atStart => exact ⟨0, N, K, rfl, by omega, rfl, rfl, sec rfl, sec rfl, by omega, by omega, rfl⟩
          case round =>
            obtain ⟨d, N', K', rfl, hd, rfl, rfl, HN', HK', hN', hK', rfl⟩ := hrel
            by_cases hd16 : d < 16
            · have hdi : (d : Int) < 16 := by omega
              have i1 := digit_at64 d hd16
              have hiff := digit_is d hd16 c
              have hxl := (hexD d).toNat_lt
              obtain ⟨x, hx⟩ : ∃ x, x = (hexD d).toNat := ⟨_, rfl⟩
              rw [← hx] at i1 hiff hxl
              clear hx
              by_cases hh : unD c = d
              · have hxc : x = c.toNat := hiff.2 hh
                subst hxc
                obtain rfl : N' = N := HN'.out.trans (unNd_hit N c d hh).1
                obtain rfl : K' = K := HK'.out.trans (unOkd_hit K c d hh).1
                have H1 := sec (unNd_hit N' c d hh).2
                have H3 := sec (unOkd_hit K' c d hh).2
                clear hiff hh HN' HK'
                go_wp2_with fail
                go_roundw
                case rel => exact ⟨d + 1, 16 * N' + d, K' + 1, by go_num, by omega, by go_num, by go_num, sec H1.out.symm, sec H3.out.symm, by omega, by omega, by trivial⟩
                case measure => simp [intOf]; omega
              · have hxc : x ≠ c.toNat := fun e => hh (hiff.1 e)
                have t1 : ((x : Int) == (c.toNat : Int)) = false := by rw [beq_eq_false_iff_ne]; omega
                have H1 := sec (unNd_miss N c d hh)
                have H3 := sec (unOkd_miss K c d hh)
                clear hiff hh
                go_wp2_with fail
                go_roundw
                case rel => exact ⟨d + 1, N', K', by go_num, by omega, rfl, rfl, sec (by rw [H1.out]; exact HN'.out), sec (by rw [H3.out]; exact HK'.out), by omega, by omega, by trivial⟩
                case measure => simp [intOf]; omega
            · obtain rfl : d = 16 := by omega
              clear hd16 hd
              rw [show ((16 : Nat) : Int) = 16 from rfl]
              go_wp2_with fail
              go_roundw
              case rel =>
                refine ⟨k + 1, N', K', by go_num, by have := H2.out; omega, rfl, rfl, sec ?_, sec ?_, ⟨by have := HNN.out.1; omega, fun e => by have := HNN.out.2 e; omega, fun e => by omega⟩, by have := HKK.out; omega, by trivial⟩
                · rw [HN'.out, unNd_16, HN.out, HCC.out]; rfl
                · rw [HK'.out, unOkd_16, HK.out, HCC.out]; rfl
              case measure => simp [intOf]; have := H2.out; omega
        · obtain rfl : k = 2 := by omega
          rw [← HN.out, ← HK.out] at HT
          have hN2 : N ≤ 1000 := by omega
          clear hk2 hk hN
          rw [show ((2 : Nat) : Int) = 2 from rfl]
          by_cases hK2 : K = 2
          · subst hK2
            have hu : unhex s = (unhex (s.drop (i + 2))).map ((o ++ [UInt8.ofNat N]) ++ ·) := by
              rw [HU.out, HT.out, if_pos rfl]
              cases unhex (s.drop (i + 2)) <;> simp
            have HUU := sec hu
            clear hu
            have hown := HH2.out
            have hg := HGW.out
            have hnb : n + 1 ≤ 140737488355328 := by omega
            have hnm : n + 1 ≤ maxLen := by unfold maxLen; omega
            have HLT := sec hlt
            have hwr : (N : Int) % 256 = ((UInt8.ofNat N).toNat : Int) := by simp
            have HWR := sec hwr
            clear hwr
            go_wp2_with (refine wpList_append_new E.u8 rfl (.tmp 46) (.tmp 49) rfl rfl hown rfl rfl (by simp [Value.oneCell']) (by omega) (by omega) hnm hg ?_; intro g' cap' w' hown' hg')
            go_roundw
            case rel =>
              refine ⟨i + 2, n + 1, some ⟨g', 0, none⟩, cap', o ++ [UInt8.ofNat N], by go_num, by have := HLT.out; omega, sec (by have := HI.out; omega), rfl, by omega, ?_, HUU, hg'⟩
              rw [List.map_append]
              have := HWR.out
              simp only [this] at hown'
              exact hown'
            case measure => simp [intOf]; have := HLT.out; omega
          · have t1 : ((K : Int) == 2) = false := by rw [beq_eq_false_iff_ne]; omega
            have t2 : ((K : Int) != 2) = true := by rw [bne_iff_ne]; omega
            have HNO : Sec (unhex s = none) := sec (by rw [HU.out, HT.out, if_neg hK2]; rfl)
            clear hK2
            go_wp2_with fail
            go_ret2
            exact ⟨by rw [HNO.out]; rfl, HGW.out⟩
    · have hlti : ¬ (i : Int) + 1 < (s.length : Int) := by omega
      have hcv : (convert 140 9 (.slice ad n cap)).run Tryz.prog wr = .ok (.string (bs o)) wr := by
        have hn : n = o.length := by have := hown.1; simp at this; exact this.symm
        exact run_conv_own Tryz.underlying140 Tryz.underlying5 Tryz.underlying9 (n := n) (w := wr) (l := o) (by rw [hn] at hown ⊢; exact hown)
      have hI := HI.out
      by_cases hodd : s.length % 2 = 1
      · have t1 : ((s.length : Int) % 2 == 1) = true := by rw [beq_iff_eq]; omega
        have HNO : Sec (unhex s = none) := sec (unhex_odd (s.length / 2) s (by omega))
        clear hodd hI hlt
        go_wp2_with fail
        go_ret2
        exact ⟨by rw [HNO.out]; rfl, hg⟩
      · have t1 : ((s.length : Int) % 2 == 1) = false := by rw [beq_eq_false_iff_ne]; omega
        have HNO : Sec (unhex s = some o) := sec (by
          have : i = s.length := by omega
          rw [HU.out, this, List.drop_length]; simp [unhex])
        clear hodd hI hlt
        go_wp2_with fail
        go_ret2
        exact ⟨by rw [HNO.out]; rfl, hg⟩
end Go.Proofs.YtoamnifnfkgbiaaGreatDoor

namespace Go.Proofs.YtoamnifnfkgbiaaGreatDoor
set_option maxRecDepth 100000
open Go.RowKit
set_option linter.unusedVariables false
set_option maxHeartbeats 16000000 in
theorem rsweep_any (fs : List Fl) (ids : List (List UInt8)) (A : Option Addr) (n cap : Nat) (f : Int) (B : Option Addr) (m d : Nat) (w : World) (hx : FRow w A n fs) (hnc : n ≤ cap) (hA : A = none → n = 0 ∧ cap = 0) (hz : Sz fs) (hf : -9223372036854775808 ≤ f ∧ f ≤ 9223372036854775807)
    (hi : StrRow w B m ids) (hm : m ≤ 1048576) (hid : ∀ x ∈ ids, x.length ≤ 1099511627776) :
    Calls Tryz.prog 22 #[diskV A n cap f, .slice B m d] w (SwPost w fs f ids A n cap) := by
  have hln := hx.len
  have hn40 : n ≤ 1048576 := by have := hz.1; omega
  have eg := enters_own Tryz.func69 (by kernel_rfl) rfl
  unfold diskV
  have G0 : Gr w ((w.alloc (.cells #[.slice A n cap, .int .i64 f] 24)).alloc (.cells #[.slice none 0 0, .int .i64 0] 24)) := ((Gr.refl w).alloc _).alloc _
  have B0 := (Blk.new w 24 #[.slice A n cap, .int .i64 f]).alloc (.cells #[.slice none 0 0, .int .i64 0] 24)
  have Q0 := Blk.new1 w (.cells #[.slice A n cap, .int .i64 f] 24) 24 #[.slice none 0 0, .int .i64 0]
  obtain ⟨wa, hwa⟩ : ∃ x, x = (w.alloc (.cells #[.slice A n cap, .int .i64 f] 24)).alloc (.cells #[.slice none 0 0, .int .i64 0] 24) := ⟨_, rfl⟩
  rw [← hwa] at G0 B0 Q0
  obtain ⟨p, hp⟩ : ∃ p, p = w.heap.size := ⟨_, rfl⟩
  rw [← hp] at B0 Q0
  have HCl : Sec (∀ W, Gr wa W → Calls Tryz.prog 15 #[.func (.func 69) #[] #[.pointer (some ⟨p, 0, none⟩)], .slice B m d] W fun e w' => ∃ L A n c er, RcSpec (getO fs) ids (L, er) ∧ e = .returned (.tuple #[.slice A n c, .int .i64 er]) ∧ StrRow w' A n L ∧ L.length ≤ 400 ∧ Gr W w') := sec (fun W g => rclosed_any _ _ (getO fs) eg ids B m d W (clo2_any fs A n cap f p W (by omega) (hx.gr (G0.trans g)) hz.2 (B0.gr g)) (getO_le fs) (hi.gr (G0.trans g)) hm hid)
  have hmf : ∀ (fn : Fn) (first cap : Array Value) (w : World), (Instr.makeFunc fn first cap).run Tryz.prog w = .ok (.func fn first cap) w := fun _ _ _ _ => rfl
  have hwp : w.heap.size ≤ p := by omega
  have hwq : w.heap.size ≤ p + 1 := by omega
  have hpl := B0.lt
  have hql := Q0.lt
  have HSK : Sec (∀ W, Gr wa W → W.cell? ⟨p, 0, none⟩ = some (.slice A n cap) ∧ W.cell? ⟨p, 1, none⟩ = some (.int .i64 f) ∧ W.cell? ⟨p + 1, 0, none⟩ = some (.slice none 0 0) ∧ W.cell? ⟨p + 1, 1, none⟩ = some (.int .i64 0) ∧ W.frozen? ⟨p, 0, none⟩ = false ∧ W.frozen? ⟨p, 1, none⟩ = false ∧ W.frozen? ⟨p + 1, 0, none⟩ = false ∧ W.frozen? ⟨p + 1, 1, none⟩ = false) := sec (fun W g => ⟨(B0.gr g).cell 0, (B0.gr g).cell 1, (Q0.gr g).cell 0, (Q0.gr g).cell 1, (B0.gr g).frozen 0, (B0.gr g).frozen 1, (Q0.gr g).frozen 0, (Q0.gr g).frozen 1⟩)
  have HQ := sec Q0
  have HB := sec B0
  have HG0 := sec G0
  have HA := sec hA
  have HX := sec hx
  have HZ := sec hz
  have HFU := sec hf
  have HNC := sec hnc
  clear hx hA hz hf hi hm hid B0 Q0 G0 eg
  go_enter Tryz.func22, Tryz.ntmps22
  go_upto_region 1 with fail
  rw [← hwa, ← hp]
  clear hwa hp
  obtain ⟨c0, c1, q0, q1, f0, f1, y0, y1⟩ := HSK.out wa (Gr.refl _)
  go_upto_region 2 with (go_at_call 15; (with_reducible refine Calls.mono (HCl.out _ (Gr.refl _)) ?_); rintro e w1 ⟨L, A1, n1, cap1, er, hsp, rfl, r1, l1, g1⟩; obtain ⟨c0, c1, q0, q1, f0, f1, y0, y1⟩ := HSK.out w1 g1)
  have hn1 := r1.len
  by_cases her : er = 0
  case neg =>
    have qe : (er != 0) = true := by rw [bne_iff_ne]; exact her
    have HXX : sweepR fs f (L, er) = (fs, f, er) := by unfold sweepR; rw [if_neg her]
    clear her
    go_wp2_with fail
    refine bodyPost_ret (results_blk_tmp rfl _ rfl (((HQ.out.gr g1).set_ 0 (.slice A n cap)).set_ 1 (.int .i64 f)) aggDisk) rfl ?_
    refine ⟨(L, er), hsp, ?_⟩
    rw [HXX]
    exact ⟨A, n, cap, rfl, ((HG0.out.trans g1).setCell (p := ⟨p + 1, 0, none⟩) hwq _).setCell (p := ⟨p + 1, 1, none⟩) hwq _, HA.out, .inl ⟨rfl, rfl, rfl, rfl⟩⟩
  subst her
  have HSP : Sec (∀ gs u ee, swGo L (fs.map (·.1)) fs f = (gs, u, ee) → ∃ r, RcSpec (getO fs) ids r ∧ sweepR fs f r = (gs, u, ee)) := sec (fun gs u ee h => ⟨(L, 0), hsp, by unfold sweepR; rw [if_pos rfl]; exact h⟩)
  clear hsp
  have HR1 := sec r1
  have HL1 := sec l1
  clear r1 l1
  have hb1 : (0 + n) * 48 ≤ 140737488355328 := by omega
  have hb2 : 0 + n ≤ maxLen := by unfold maxLen; omega
  have HFR := sec (HX.out.gr (HG0.out.trans g1))
  go_wp2_with (at_builtin; refine wpList_append_row E.file rfl (.const (.slice none 0 0)) (.tmp 23) rfl (B := w1.heap.size) rfl (World.ownsRow_nil _ _ _ _) rfl HFR.out HA.out fileC_one hb1 hb2 (Nat.le_refl _) ?_; intro Ac cc w2 oc k2)
  have g2 : Gr w1 w2 := (Gr.refl w1).grown k2 (fun k hk => by simp [Value.ownBlock] at hk)
  rw [Nat.zero_add, List.nil_append] at oc
  have HPM : Sec (PMid w p (p + 1) A n cap fs fs f A n cap w2) := sec ⟨HB.out.gr (g1.trans g2), HQ.out.gr (g1.trans g2), HG0.out.trans (g1.trans g2), HA.out, .inl ⟨rfl, rfl, rfl, rfl⟩⟩
  have HC0 := sec (And.intro oc (HR1.out.gr g2))
  have hpw : p + 1 < w1.heap.size := Nat.lt_of_lt_of_le hql g1.size
  have HN0 : Sec (fs.length = n) := sec hln
  clear c0 c1 q0 q1 f0 f1 y0 y1 oc g2
  go_loopw [26] (fun iv wr => ∃ (i : Nat) (gs : List Fl) (u : Int) (A' : Option Addr) (n' cap' : Nat), iv = .int .i64 (i : Int) ∧ i ≤ n ∧ Sec (PMid w p (p + 1) A n cap fs gs u A' n' cap' wr) ∧ Sec (wr.ownsRow w1.heap.size 105 3 (.slice Ac n cc) n (fs.flatMap fileC) ∧ StrRow wr A1 n1 L) ∧
      Sec (swGo L (fs.map (·.1)) fs f = swGo L ((fs.map (·.1)).drop i) gs u ∧ Sz gs ∧ -9223372036854775808 ≤ u ∧ u ≤ 9223372036854775807)) (fun iv _ => n - (intOf iv).toNat)
  case atStart => exact ⟨0, fs, f, A, n, cap, rfl, by omega, HPM, HC0, sec ⟨by rw [List.drop_zero], HZ.out, HFU.out⟩⟩
  case round =>
    clear HPM HC0
    obtain ⟨i, gs, u, A', n', cap', rfl, hi, HP, HC, HS⟩ := hrel
    have HNQ : Sec (∀ k W, (Value.slice A' n' cap').ownBlock = some k → W.ownsRow w.heap.size 105 3 (.slice A' n' cap') n' (gs.flatMap fileC) → Blk W (p + 1) 24 #[.slice none 0 0, .int .i64 0] → k ≠ p + 1) := sec (fun k W hk h hb hkp => by
      subst hkp
      exact own_blk_ne h hb (by decide) hk)
    have c0 : wr.cell? ⟨p, 0, none⟩ = some (.slice A' n' cap') := HP.out.dk.cell 0
    have c1 : wr.cell? ⟨p, 1, none⟩ = some (.int .i64 u) := HP.out.dk.cell 1
    have q0 : wr.cell? ⟨p + 1, 0, none⟩ = some (.slice none 0 0) := HP.out.rs.cell 0
    have q1 : wr.cell? ⟨p + 1, 1, none⟩ = some (.int .i64 0) := HP.out.rs.cell 1
    have f0 : wr.frozen? ⟨p + 1, 0, none⟩ = false := HP.out.rs.frozen 0
    have f1 : wr.frozen? ⟨p + 1, 1, none⟩ = false := HP.out.rs.frozen 1
    by_cases hlt : i < n
    · have hii : (i : Int) < (n : Int) := by omega
      have hlL : i < fs.length := by rw [HN0.out]; exact hlt
      obtain ⟨bb, off, rfl, x0, x1, x2⟩ := (show FRow wr Ac n fs from Row.own HC.out.1).cell hlL
      have hzz := (HZ.out.2 _ (List.getElem_mem hlL)).1
      have HDR : Sec ((fs.map (·.1)).drop i = fs[i].1 :: (fs.map (·.1)).drop (i + 1)) := sec (by rw [List.drop_eq_getElem_cons (by rw [List.length_map]; exact hlL), List.getElem_map])
      obtain ⟨y, hy⟩ : ∃ y, y = fs[i] := ⟨_, rfl⟩
      rw [← hy] at x0 x1 x2 hzz HDR
      obtain ⟨nm, sf, tl⟩ := y
      simp only at x0 x1 x2 hzz HDR
      have HLT := sec hlt
      clear hy hlt hlL
      have GA := (Gr.refl wr).alloc (.cells #[.string (bs nm), .string (bs sf), .string (bs tl)] 105)
      have BA := Blk.new wr 105 #[.string (bs nm), .string (bs sf), .string (bs tl)]
      have HSKIP : Sec (swB L nm = false → swGo L (fs.map (·.1)) fs f = swGo L ((fs.map (·.1)).drop (i + 1)) gs u) := sec (fun h => by rw [HS.out.1, HDR.out, swGo_skip h])
      by_cases h65 : nm.length = 65
      case neg =>
        have q65 : ((nm.length : Int) != 65) = true := by rw [bne_iff_ne]; omega
        have HNX := sec (HSKIP.out (swB_none (swI_65 h65)))
        clear h65 HSKIP
        go_wp2_with fail
        go_roundw
        case rel => exact ⟨i + 1, gs, u, A', n', cap', by go_num, HLT.out, sec (HP.out.gr' GA), sec ⟨own_gr HC.out.1 GA, HC.out.2.gr GA⟩, sec ⟨HNX.out, HS.out.2⟩⟩
        case measure => simp [intOf]; have := HLT.out; omega
      have q65 : ((nm.length : Int) != 65) = false := by rw [bne_eq_false_iff_eq]; omega
      have hpos : 0 < nm.length := by omega
      have hle1 : (1 : Int) ≤ (nm.length : Int) := by omega
      obtain ⟨ch, hc⟩ : ∃ ch, ch = nm[0] := ⟨_, rfl⟩
      have hhd : nm.head? = some ch := by rw [hc]; cases nm with
        | nil => simp at hpos
        | cons a t => rfl
      have hcell : nm[0] = ch := hc.symm
      by_cases hh : ch.toNat = 111
      case neg =>
        have q1 : ((ch.toNat : Int) != 111) = true := by rw [bne_iff_ne]; omega
        have HNX := sec (HSKIP.out (swB_none (swI_head (by rw [hhd]; intro h; injection h with h; subst h; exact hh rfl))))
        clear hh hhd hc h65 HSKIP
        go_wp2_with fail
        go_roundw
        case rel => exact ⟨i + 1, gs, u, A', n', cap', by go_num, HLT.out, sec (HP.out.gr' GA), sec ⟨own_gr HC.out.1 GA, HC.out.2.gr GA⟩, sec ⟨HNX.out, HS.out.2⟩⟩
        case measure => simp [intOf]; have := HLT.out; omega
      have q1 : ((ch.toNat : Int) != 111) = false := by rw [bne_eq_false_iff_eq]; omega
      have HH : Sec (nm.head? = some 111) := sec (by rw [hhd, show ch = 111 from UInt8.toNat_inj.1 hh])
      have HN65 := sec h65
      clear hh hhd hc h65
      obtain ⟨s, hss⟩ : ∃ s, s = nm.tail := ⟨_, rfl⟩
      have hsl : s.length ≤ 1099511627776 := by rw [hss, List.length_tail]; omega
      have HUi := sec (fun W => runhex_any s W (by omega))
      rw [hss] at HUi
      cases hu : unhex s with
      | none =>
        have HNX := sec (HSKIP.out (swB_none (swI_odd (by rw [List.drop_one, ← hss]; exact hu))))
        rw [← hss, hu, hss] at HUi
        unfold uhV at HUi
        simp only at HUi
        clear hu hss hsl HSKIP
        go_wp2_with (first
          | (go_at_call 70; (with_reducible refine Calls.mono (HUi.out _) ?_); rintro e v2 ⟨rfl, k2⟩; have k12 := GA.trans k2))
        go_roundw
        case rel => exact ⟨i + 1, gs, u, A', n', cap', by go_num, HLT.out, sec (HP.out.gr' k12), sec ⟨own_gr HC.out.1 k12, HC.out.2.gr k12⟩, sec ⟨HNX.out, HS.out.2⟩⟩
        case measure => simp [intOf]; have := HLT.out; omega
      | some id =>
        have h32 : id.length = 32 := by have h1 := unhex_len _ _ (Nat.le_refl _) hu; have h2 := HN65.out; rw [hss, List.length_tail] at h1; omega
        have HBB : Sec (swB L nm = !decide (id ∈ L)) := sec (swB_some (by rw [swI_at HH.out (by rw [List.drop_one, ← hss]; exact hu), if_pos h32]))
        have HCo : Sec (∀ W, Gr wr W → Calls Tryz.prog 61 #[.slice A1 n1 cap1, .string (bs id)] W fun e w' => e = .returned (.bool (decide (id ∈ L))) ∧ Gr W w') := sec (fun W g => in_any L id A1 n1 cap1 W (HC.out.2.gr g) (by have := HL1.out; omega))
        rw [← hss, hu, hss] at HUi
        unfold uhV at HUi
        simp only at HUi
        clear hu hss hsl h32
        by_cases hkeep : id ∈ L
        · rw [decide_eq_true hkeep] at HCo HBB
          have HNX := sec (HSKIP.out HBB.out)
          clear hkeep HSKIP HBB
          go_wp2_with (first
          | (go_at_call 70; (with_reducible refine Calls.mono (HUi.out _) ?_); rintro e v2 ⟨rfl, k2⟩; have k12 := GA.trans k2)
          | (go_at_call 61; (with_reducible refine Calls.mono (HCo.out _ k12) ?_); rintro e v3 ⟨rfl, k3⟩; have k13 : Gr wr v3 := Gr.trans k12 k3; have x0 : v3.cell? ⟨p, 0, none⟩ = some (.slice A' n' cap') := (HP.out.dk.gr k13).cell 0; have x1 : v3.cell? ⟨p, 1, none⟩ = some (.int .i64 u) := (HP.out.dk.gr k13).cell 1; have xf0 : v3.frozen? ⟨p, 0, none⟩ = false := (HP.out.dk.gr k13).frozen 0; have xf1 : v3.frozen? ⟨p, 1, none⟩ = false := (HP.out.dk.gr k13).frozen 1; have xn : v3.cell? ⟨wr.heap.size, 0, none⟩ = some (.string (bs nm)) := (BA.gr (k2.trans k3)).cell 0))
          go_roundw
          case rel => exact ⟨i + 1, gs, u, A', n', cap', by go_num, HLT.out, sec (HP.out.gr' k13), sec ⟨own_gr HC.out.1 k13, HC.out.2.gr k13⟩, sec ⟨HNX.out, HS.out.2⟩⟩
          case measure => simp [intOf]; have := HLT.out; omega
        rw [decide_eq_false hkeep] at HCo HBB
        have HRm : Sec (∀ W, Gr wr W → Calls Tryz.prog 71 #[.int .i64 3, diskV A' n' cap' u, .string (bs nm), .string (bs [])] W (StepPost (stepR (rmF nm) gs u) A' n' cap' gs W)) := sec (fun W g => do3_any nm [] gs A' n' cap' u W (by have h1 := (HP.out.frow HX.out).len; have h2 := HS.out.2.1.1; omega) (HP.out.le HNC.out) ((HP.out.frow HX.out).gr g) HP.out.nil HS.out.2.1.2 HS.out.2.2 (by omega) (by simp))
        have HSz : Sec (Sz (stepR (rmF nm) gs u).1) := sec (rm_sz u HS.out.2.1)
        have HFz := sec (stepR_fuse (F := rmF nm) (fs := gs) HS.out.2.2)
        have HG2 : Sec ((stepR (rmF nm) gs u).2.2 = 0 → swGo L (fs.map (·.1)) fs f = swGo L ((fs.map (·.1)).drop (i + 1)) (stepR (rmF nm) gs u).1 (stepR (rmF nm) gs u).2.1) := sec (fun h => by rw [HS.out.1, HDR.out, swGo_go HBB.out h])
        have HG3 : Sec ((stepR (rmF nm) gs u).2.2 ≠ 0 → swGo L (fs.map (·.1)) fs f = stepR (rmF nm) gs u) := sec (fun h => by rw [HS.out.1, HDR.out, swGo_end HBB.out h])
        obtain ⟨⟨gs2, u2, e2⟩, hR2⟩ : ∃ r, r = stepR (rmF nm) gs u := ⟨_, rfl⟩
        rw [← hR2] at HRm HSz HFz HG2 HG3
        simp only at HSz HFz HG2 HG3
        unfold StepPost diskV at HRm
        simp only at HRm
        clear hkeep HSKIP HBB hR2
        by_cases he2 : e2 = 0
        · subst he2
          have HNX := sec (HG2.out rfl)
          clear HG2 HG3
          go_wp2_with (first
          | (go_at_call 70; (with_reducible refine Calls.mono (HUi.out _) ?_); rintro e v2 ⟨rfl, k2⟩; have k12 := GA.trans k2)
          | (go_at_call 61; (with_reducible refine Calls.mono (HCo.out _ k12) ?_); rintro e v3 ⟨rfl, k3⟩; have k13 : Gr wr v3 := Gr.trans k12 k3; have x0 : v3.cell? ⟨p, 0, none⟩ = some (.slice A' n' cap') := (HP.out.dk.gr k13).cell 0; have x1 : v3.cell? ⟨p, 1, none⟩ = some (.int .i64 u) := (HP.out.dk.gr k13).cell 1; have xf0 : v3.frozen? ⟨p, 0, none⟩ = false := (HP.out.dk.gr k13).frozen 0; have xf1 : v3.frozen? ⟨p, 1, none⟩ = false := (HP.out.dk.gr k13).frozen 1; have xn : v3.cell? ⟨wr.heap.size, 0, none⟩ = some (.string (bs nm)) := (BA.gr (k2.trans k3)).cell 0)
          | (go_at_call 71; (with_reducible refine Calls.mono (HRm.out v3 k13) ?_); rintro e v4 ⟨A2, n2, cap2, rfl, k4, hA2, hrow2⟩; have y0 : v4.frozen? ⟨p, 0, none⟩ = false := (HP.out.dk.gr (k13.trans k4)).frozen 0; have y1 : v4.frozen? ⟨p, 1, none⟩ = false := (HP.out.dk.gr (k13.trans k4)).frozen 1; have yc0 : v4.cell? ⟨p, 0, none⟩ = some (.slice A' n' cap') := (HP.out.dk.gr (k13.trans k4)).cell 0; have yc1 : v4.cell? ⟨p, 1, none⟩ = some (.int .i64 u) := (HP.out.dk.gr (k13.trans k4)).cell 1; have z0 : v4.cell? ⟨p + 1, 0, none⟩ = some (.slice none 0 0) := (HP.out.rs.gr (k13.trans k4)).cell 0; have z1 : v4.cell? ⟨p + 1, 1, none⟩ = some (.int .i64 0) := (HP.out.rs.gr (k13.trans k4)).cell 1; have zf0 : v4.frozen? ⟨p + 1, 0, none⟩ = false := (HP.out.rs.gr (k13.trans k4)).frozen 0; have zf1 : v4.frozen? ⟨p + 1, 1, none⟩ = false := (HP.out.rs.gr (k13.trans k4)).frozen 1))
          go_roundw
          case rel =>
            have hP := pnext (u' := u2) HP.out k13 k4 hwp (by omega) hA2 hrow2
            have kk := k13.trans k4
            have ho : v4.ownsRow w1.heap.size 105 3 (.slice (some ⟨bb, off, none⟩) n cc) n (fs.flatMap fileC) := own_gr HC.out.1 kk
            have hne : (Value.slice (some ⟨bb, off, none⟩) n cc).ownBlock ≠ some p := fun e => by have := (ho.lt _ e).1; omega
            have hr := HC.out.2.gr kk
            have hrn := strRow_ne hr (HP.out.dk.gr kk) (fun s h => by cases h) (fun s h => by cases h)
            exact ⟨i + 1, gs2, u2, A2, n2, cap2, by go_num, HLT.out, sec hP, sec ⟨ownsRow_setCell_other (ownsRow_setCell_other ho (a := ⟨p, 0, none⟩) hne _) (a := ⟨p, 1, none⟩) hne _, strRow_set (strRow_set hr hrn _) hrn _⟩, sec ⟨HNX.out, HSz.out, HFz.out⟩⟩
          case measure => simp [intOf]; have := HLT.out; omega
        · have qe2 : (e2 != 0) = true := by rw [bne_iff_ne]; exact he2
          have HXX := HSP.out _ _ _ (HG3.out he2)
          clear HG2 HG3 he2
          go_wp2_with (first
          | (go_at_call 70; (with_reducible refine Calls.mono (HUi.out _) ?_); rintro e v2 ⟨rfl, k2⟩; have k12 := GA.trans k2)
          | (go_at_call 61; (with_reducible refine Calls.mono (HCo.out _ k12) ?_); rintro e v3 ⟨rfl, k3⟩; have k13 : Gr wr v3 := Gr.trans k12 k3; have x0 : v3.cell? ⟨p, 0, none⟩ = some (.slice A' n' cap') := (HP.out.dk.gr k13).cell 0; have x1 : v3.cell? ⟨p, 1, none⟩ = some (.int .i64 u) := (HP.out.dk.gr k13).cell 1; have xf0 : v3.frozen? ⟨p, 0, none⟩ = false := (HP.out.dk.gr k13).frozen 0; have xf1 : v3.frozen? ⟨p, 1, none⟩ = false := (HP.out.dk.gr k13).frozen 1; have xn : v3.cell? ⟨wr.heap.size, 0, none⟩ = some (.string (bs nm)) := (BA.gr (k2.trans k3)).cell 0)
          | (go_at_call 71; (with_reducible refine Calls.mono (HRm.out v3 k13) ?_); rintro e v4 ⟨A2, n2, cap2, rfl, k4, hA2, hrow2⟩; have y0 : v4.frozen? ⟨p, 0, none⟩ = false := (HP.out.dk.gr (k13.trans k4)).frozen 0; have y1 : v4.frozen? ⟨p, 1, none⟩ = false := (HP.out.dk.gr (k13.trans k4)).frozen 1; have yc0 : v4.cell? ⟨p, 0, none⟩ = some (.slice A' n' cap') := (HP.out.dk.gr (k13.trans k4)).cell 0; have yc1 : v4.cell? ⟨p, 1, none⟩ = some (.int .i64 u) := (HP.out.dk.gr (k13.trans k4)).cell 1; have z0 : v4.cell? ⟨p + 1, 0, none⟩ = some (.slice none 0 0) := (HP.out.rs.gr (k13.trans k4)).cell 0; have z1 : v4.cell? ⟨p + 1, 1, none⟩ = some (.int .i64 0) := (HP.out.rs.gr (k13.trans k4)).cell 1; have zf0 : v4.frozen? ⟨p + 1, 0, none⟩ = false := (HP.out.rs.gr (k13.trans k4)).frozen 0; have zf1 : v4.frozen? ⟨p + 1, 1, none⟩ = false := (HP.out.rs.gr (k13.trans k4)).frozen 1))
          have hP := pnext (u' := u2) HP.out k13 k4 hwp (show p ≠ p + 1 by omega) hA2 hrow2
          refine bodyPost_ret (results_blk_tmp rfl _ rfl ((hP.rs.set_ 0 (.slice A2 n2 cap2)).set_ 1 (.int .i64 u2)) aggDisk) rfl ?_
          obtain ⟨r, hr1, hr2⟩ := HXX
          refine ⟨r, hr1, ?_⟩
          rw [hr2]
          obtain ⟨t1, t2⟩ := putEndS (q := p + 1) hP.gr hwq (fun k hk h hkp => by subst hkp; exact own_blk_ne h hP.rs (by decide) hk) hP.row (.slice A2 n2 cap2) (.int .i64 u2)
          exact ⟨A2, n2, cap2, rfl, t1, hP.nil, t2⟩
    · obtain rfl : i = n := by omega
      have HXX := HSP.out gs u 0 (by rw [HS.out.1, List.drop_of_length_le (by rw [List.length_map, HN0.out]; exact Nat.le_refl _)]; rfl)
      clear hlt
      go_wp2_with fail
      refine bodyPost_ret (results_blk_tmp rfl _ rfl ((HP.out.rs.set_ 0 (.slice A' n' cap')).set_ 1 (.int .i64 u)) aggDisk) rfl ?_
      obtain ⟨r, hr1, hr2⟩ := HXX
      refine ⟨r, hr1, ?_⟩
      rw [hr2]
      obtain ⟨t1, t2⟩ := putEndS (q := p + 1) HP.out.gr hwq (fun k hk h => HNQ.out k wr hk h HP.out.rs) HP.out.row (.slice A' n' cap') (.int .i64 u)
      exact ⟨A', n', cap', rfl, t1, HP.out.nil, t2⟩
end Go.Proofs.YtoamnifnfkgbiaaGreatDoor

namespace Go.Proofs.YtoamnifnfkgbiaaGreatDoor
set_option maxRecDepth 100000
open Go.RowKit
set_option linter.unusedVariables false
theorem rc_total (G : Tl) (ids : List (List UInt8)) : ∃ r, RcSpec G ids r ∧ r.1.length ≤ 400 := by
  by_cases hB : Big G ids
  · exact ⟨_, .inl ⟨hB, rfl⟩, by simp⟩
  by_cases hL : Lacks G ids
  · exact ⟨_, .inr (.inl ⟨hB, hL, rfl⟩), by simp⟩
  by_cases hW : Wrong G ids
  · exact ⟨_, .inr (.inr (.inl ⟨hB, hL, hW, rfl⟩)), by simp⟩
  have key : ∀ k : Nat, (∃ S : List (List UInt8), S.Nodup ∧ S.length = k ∧ ∀ x ∈ S, GR G ids x) ∨ (∃ S : List (List UInt8), S.Nodup ∧ ∀ x, x ∈ S ↔ GR G ids x) := by
    intro k
    induction k with
    | zero => exact .inl ⟨[], .nil, rfl, by simp⟩
    | succ k ih =>
      rcases ih with ⟨S, h1, h2, h3⟩ | h
      · by_cases hc : ∃ x, GR G ids x ∧ x ∉ S
        · obtain ⟨x, hg, hn⟩ := hc
          have hp := nodup_push h1 hn
          refine .inl ⟨S ++ [x], hp.1, by rw [List.length_append, h2]; rfl, fun y hy => ?_⟩
          rcases (hp.2 y).1 hy with h | h
          · exact h3 y h
          · rw [h]; exact hg
        · refine .inr ⟨S, h1, fun x => ⟨h3 x, fun hx => ?_⟩⟩
          by_cases hxs : x ∈ S
          · exact hxs
          · exact absurd ⟨x, hx, hxs⟩ hc
      · exact .inr h
  rcases key 401 with ⟨S, h1, h2, h3⟩ | ⟨S, h1, h2⟩
  · exact absurd ⟨S, h1, by omega, h3⟩ hB
  · have hs := rising_sort h1
    refine ⟨(S.mergeSort fun x y => decide (x ≤ y), 0), .inr (.inr (.inr ⟨hB, hL, hW, rfl, hs.1, fun x => (hs.2.1 x).trans (h2 x)⟩)), ?_⟩
    have h3 : ¬ 400 < S.length := fun h => hB ⟨S, h1, h, fun x hx => (h2 x).1 hx⟩
    simp only [hs.2.2]
    omega
theorem swGo_sz (keep : List (List UInt8)) : ∀ (names : List (List UInt8)) (fs : List Fl) (f : Int), Sz fs → Sz (swGo keep names fs f).1
  | [], fs, f, h => h
  | nm :: r, fs, f, h => by
    rw [swGo]
    split
    · split
      · exact swGo_sz keep r _ _ (rm_sz f h)
      · exact rm_sz f h
    · exact swGo_sz keep r _ _ h
theorem sweepR_sz {fs : List Fl} {f : Int} (r : List (List UInt8) × Int) (h : Sz fs) : Sz (sweepR fs f r).1 := by
  unfold sweepR
  split
  · exact swGo_sz _ _ _ _ h
  · exact h

set_option maxHeartbeats 16000000 in
theorem storeSweeps_walk (A : Option Addr) (cap : Nat) (fs : List Fl) (f : Int) (B : Option Addr) (d : Nat) (ids : List (List UInt8)) (W : World) (hd : DiskIn W A cap fs f)
    (hi : StrRow W B ids.length ids ∧ ids.length ≤ 1048576 ∧ (∀ x ∈ ids, x.length ≤ 1048576) ∧ ids.length ≤ d ∧ d ≤ maxLen ∧ (B = none → d = 0)) (hT : TabK W) :
    Calls Tryz.prog 5 #[diskV A fs.length cap f, .slice B ids.length d] W fun e W' => e = .returned (.bool true) ∧ Gr W W' := by
  obtain ⟨hrow, hlen, hsize, hnil, hfuse, hcap⟩ := hd
  obtain ⟨hi1, hi2, hi3, hi4, _, hi5⟩ := hi
  have hiN : B = none → ids.length = 0 ∧ d = 0 := fun e => by have := hi5 e; omega
  have hi40 : ∀ x ∈ ids, x.length ≤ 1099511627776 := fun x hx => by have := hi3 x hx; omega
  have hs : ∀ f ∈ fs, f.1.length ≤ 1099511627776 ∧ f.2.1.length ≤ 1099511627776 ∧ f.2.2.length ≤ 1099511627776 := fun x hx => by have := hsize x hx; omega
  have hz : Sz fs := ⟨hlen, hs⟩
  obtain ⟨n, hn⟩ : ∃ n, n = fs.length := ⟨_, rfl⟩
  rw [← hn] at hrow hlen hnil hcap
  rw [← hn]
  have hn40 : n ≤ 1099511627776 := by omega
  have hg0 := (Gr.refl W).alloc (.cells #[.slice A n cap, .int .i64 f] 24)
  have hb1 := Blk.new W 24 #[.slice A n cap, .int .i64 f]
  have hrow1 := hrow.gr hg0
  have hT1 := hT.gr hg0
  have hi6 := hi1.gr hg0
  obtain ⟨wa, hwa⟩ : ∃ x, x = W.alloc (.cells #[.slice A n cap, .int .i64 f] 24) := ⟨_, rfl⟩
  rw [← hwa] at hg0 hb1 hrow1 hT1 hi6
  obtain ⟨p, hp⟩ : ∃ p, p = W.heap.size := ⟨_, rfl⟩
  rw [← hp] at hb1
  have eg := enters_own Tryz.func24 (by kernel_rfl) rfl
  obtain ⟨⟨L, er⟩, hsp, hL4⟩ := rc_total (getO fs) ids
  simp only at hL4
  have hRz := (sweepR_sz (f := f) (L, er) hz).1
  obtain ⟨R, hR⟩ : ∃ R, R = sweepR fs f (L, er) := ⟨_, rfl⟩
  rw [← hR] at hRz
  have HCp : Sec (∀ w, Gr wa w → Calls Tryz.prog 21 #[diskV A n cap f] w fun e w' => ∃ A' cap', e = .returned (diskV A' n cap' f) ∧ (FRow w' A' n fs ∧ n ≤ cap' ∧ (A' = none → n = 0 ∧ cap' = 0)) ∧ Gr w w') := sec (fun w g => by
    refine (copyDisk_any fs A n cap f w hn40 (hrow1.gr g) hnil).mono ?_
    rintro e w' ⟨A', cap', rfl, ho, hA', g'⟩
    exact ⟨A', cap', rfl, ⟨Row.own ho, own_ncap ho, hA'⟩, g'⟩)
  have HSt : Sec (∀ w, Gr wa w → Calls Tryz.prog 14 #[.slice B ids.length d] w fun e w' => ∃ A' c', e = .returned (.slice A' ids.length c') ∧ (StrRow w' A' ids.length ids ∧ (A' = none → ids.length = 0 ∧ c' = 0)) ∧ Gr w w') := sec (fun w g => by
    refine (strings_any ids ids.length B d w (by omega) (hi6.gr g) hiN).mono ?_
    rintro e w' ⟨A', c', rfl, ho, g'⟩
    exact ⟨A', c', rfl, ⟨Row.own ho, own_nilK ho⟩, g'⟩)
  have HS1 : Sec (∀ w A' cap' A2 c2, (FRow w A' n fs ∧ n ≤ cap' ∧ (A' = none → n = 0 ∧ cap' = 0)) → (StrRow w A2 ids.length ids ∧ (A2 = none → ids.length = 0 ∧ c2 = 0)) → Gr wa w → Calls Tryz.prog 20 #[diskV A' n cap' f, .slice A2 ids.length c2] w fun e w' => ∃ A3 n3 cap3, e = .returned (.tuple #[diskV A3 n3 cap3 R.2.1, .int .i64 R.2.2]) ∧ FRow w' A3 n3 R.1 ∧ Gr w w') := sec (fun w A' cap' A2 c2 h h' g => by
    refine (sweep_any fs ids A' n cap' f A2 ids.length c2 w h.1 h.2.1 h.2.2 hz hfuse (hT1.gr g) h'.1 (by omega) h'.2 hi40).mono ?_
    rintro e w' ⟨r, hr, A3, n3, cap3, rfl, g', _, ha⟩
    obtain rfl := rcSpec_uniq hsp hr
    rw [hR]
    exact ⟨A3, n3, cap3, rfl, StepPost.row h.1 g' ha, g'⟩)
  have HS2 : Sec (∀ w, Gr wa w → Calls Tryz.prog 22 #[diskV A n cap f, .slice B ids.length d] w fun e w' => ∃ A3 n3 cap3, e = .returned (.tuple #[diskV A3 n3 cap3 R.2.1, .int .i64 R.2.2]) ∧ FRow w' A3 n3 R.1 ∧ Gr w w') := sec (fun w g => by
    refine (rsweep_any fs ids A n cap f B ids.length d w (hrow1.gr g) hcap hnil hz hfuse (hi6.gr g) hi2 hi40).mono ?_
    rintro e w' ⟨r, hr, A3, n3, cap3, rfl, g', _, ha⟩
    obtain rfl := rcSpec_uniq hsp hr
    rw [hR]
    exact ⟨A3, n3, cap3, rfl, StepPost.row (hrow1.gr g) g' ha, g'⟩)
  have HC1 : Sec (∀ w A' cap' A2 c2, (FRow w A' n fs ∧ n ≤ cap' ∧ (A' = none → n = 0 ∧ cap' = 0)) → (StrRow w A2 ids.length ids ∧ (A2 = none → ids.length = 0 ∧ c2 = 0)) → Gr wa w → Calls Tryz.prog 23 #[diskV A' n cap' f, .slice A2 ids.length c2] w fun e w' => ∃ A3 n3 c3, e = .returned (.tuple #[.slice A3 n3 c3, .int .i64 er]) ∧ StrRow w' A3 n3 L ∧ Gr w w') := sec (fun w A' cap' A2 c2 h h' g => by
    refine (closure_any fs ids A' n cap' f A2 ids.length c2 w hn40 h.1 hs (hT1.gr g) h'.1 (by omega) h'.2 hi40).mono ?_
    rintro e w' ⟨L', A3, n3, c3, er', hr, rfl, h3, _, _, _, g'⟩
    obtain ⟨rfl, rfl⟩ : L = L' ∧ er = er' := (by have hu := rcSpec_uniq hsp hr; injection hu with a b; exact ⟨a, b⟩)
    exact ⟨A3, n3, c3, rfl, h3, g'⟩)
  have HC2 : Sec (∀ w, Gr wa w → Calls Tryz.prog 15 #[.func (.func 24) #[] #[.pointer (some ⟨p, 0, none⟩)], .slice B ids.length d] w fun e w' => ∃ A3 n3 c3, e = .returned (.tuple #[.slice A3 n3 c3, .int .i64 er]) ∧ StrRow w' A3 n3 L ∧ Gr w w') := sec (fun w g => by
    refine (rclosed_any _ _ (getO fs) eg ids B ids.length d w (clo3_any fs A n cap f p w hn40 (hrow1.gr g) hs (hb1.gr g)) (getO_le fs) (hi6.gr g) hi2 hi40).mono ?_
    rintro e w' ⟨L', A3, n3, c3, er', hr, rfl, h3, _, g'⟩
    obtain ⟨rfl, rfl⟩ : L = L' ∧ er = er' := (by have hu := rcSpec_uniq hsp hr; injection hu with a b; exact ⟨a, b⟩)
    exact ⟨A3, n3, c3, rfl, h3, g'⟩)
  have HSS : Sec (∀ w A1 n1 c1 A2 n2 c2, StrRow w A1 n1 L → StrRow w A2 n2 L → Calls Tryz.prog 16 #[.slice A1 n1 c1, .slice A2 n2 c2] w fun e w' => e = .returned (.bool true) ∧ Gr w w') := sec (fun w A1 n1 c1 A2 n2 c2 h1 h2 => by
    have := sameStrings_any A1 A2 n1 n2 c1 c2 L L w h1 h2 (by have := h1.len; omega) (by have := h2.len; omega)
    simpa using this)
  obtain ⟨gs, u, e2⟩ := R
  have HSd : Sec (∀ w A1 n1 cap1 A2 n2 cap2, FRow w A1 n1 gs → FRow w A2 n2 gs → Calls Tryz.prog 26 #[diskV A1 n1 cap1 u, diskV A2 n2 cap2 u] w fun e w' => e = .returned (.bool true) ∧ Gr w w') := sec (fun w A1 n1 cap1 A2 n2 cap2 h1 h2 => by
    have e1 := h1.len
    have e2 := h2.len
    obtain rfl : n1 = n2 := by omega
    simp only at hRz
    exact sameDisk_any gs A1 A2 n1 cap1 cap2 u w (by omega) h1 h2)
  have HSo : Sec (∀ w, Gr wa w → Calls Tryz.prog 19 #[] w fun e w' => e = .returned (.bool true) ∧ Gr w w') := sec (fun w g => stores_any w (hT1.gr g))
  have HSK : Sec (∀ w, Gr wa w → w.cell? ⟨p, 0, none⟩ = some (.slice A n cap) ∧ w.cell? ⟨p, 1, none⟩ = some (.int .i64 f)) := sec (fun w g => ⟨(hb1.gr g).cell 0, (hb1.gr g).cell 1⟩)
  obtain ⟨c0, c1⟩ := HSK.out wa (Gr.refl _)
  have hmf : ∀ (fn : Fn) (first cap : Array Value) (w : World), (Instr.makeFunc fn first cap).run Tryz.prog w = .ok (.func fn first cap) w := fun _ _ _ _ => rfl
  have hqe : (e2 == e2) = true := beq_self_eq_true _
  have hqr : (er == er) = true := beq_self_eq_true _
  clear hs hz hsize hrow hrow1 hb1 hnil hn hlen hR hRz hcap hfuse hT hT1 hi1 hi2 hi3 hi4 hi5 hiN hi40 hi6 hsp hL4 eg
  unfold diskV at HCp HS1 HS2 HC1 HSd
  unfold diskV
  simp only at HS1 HS2
  go_enter Tryz.func5, Tryz.ntmps5
  go_upto_region 1 with fail
  rw [← hwa, ← hp]
  clear hwa hp
  go_wp2_with (first
    | (go_at_call 21; (with_reducible refine Calls.mono (HCp.out wa (Gr.refl _)) ?_); rintro e w1 ⟨A1, cap1, rfl, h1, g1⟩)
    | (go_at_call 14; (with_reducible refine Calls.mono (HSt.out w1 g1) ?_); rintro e w2 ⟨B2, d2, rfl, r2, g2'⟩; have g2 := g1.trans g2'; have h2 := And.intro (h1.1.gr g2') h1.2)
    | (go_at_call 20; (with_reducible refine Calls.mono (HS1.out w2 A1 cap1 B2 d2 h2 r2 g2) ?_); rintro e w5 ⟨A5, n5, cap5, rfl, h5, g5⟩; have gg5 : Gr wa w5 := g2.trans g5; obtain ⟨c05, c15⟩ := HSK.out _ (gg5.alloc (.cells #[.slice A5 n5 cap5, .int .i64 u] 24)); have hq5 := Blk.new w5 24 #[.slice A5 n5 cap5, .int .i64 u]; have h5' := h5.gr ((Gr.refl w5).alloc (.cells #[.slice A5 n5 cap5, .int .i64 u] 24)))
    | (go_at_call 22; (with_reducible refine Calls.mono (HS2.out _ (gg5.alloc _)) ?_); rintro e w6 ⟨A6, n6, cap6, rfl, h6, g6⟩; have gg6 : Gr wa (w6.alloc (.cells #[.slice A6 n6 cap6, .int .i64 u] 24)) := ((gg5.alloc _).trans g6).alloc _; obtain ⟨c06, c16⟩ := HSK.out _ gg6; have hq5' := (hq5.gr g6).alloc (.cells #[.slice A6 n6 cap6, .int .i64 u] 24); have hq6 := Blk.new w6 24 #[.slice A6 n6 cap6, .int .i64 u]; have h5'' := (h5'.gr g6).gr ((Gr.refl w6).alloc (.cells #[.slice A6 n6 cap6, .int .i64 u] 24)); have h6' := h6.gr ((Gr.refl w6).alloc (.cells #[.slice A6 n6 cap6, .int .i64 u] 24)))
    | (go_at_call 21; (with_reducible refine Calls.mono (HCp.out _ gg6) ?_); rintro e w7 ⟨A7, cap7, rfl, h7, g7⟩; have gg7 := gg6.trans g7)
    | (go_at_call 14; (with_reducible refine Calls.mono (HSt.out w7 gg7) ?_); rintro e w8 ⟨B8, d8, rfl, r8, g8⟩; have gg8 := gg7.trans g8; have h8 := And.intro (h7.1.gr g8) h7.2)
    | (go_at_call 23; (with_reducible refine Calls.mono (HC1.out w8 A7 cap7 B8 d8 h8 r8 gg8) ?_); rintro e w9 ⟨A9, n9, c9, rfl, r9, g9⟩; have gg9 := gg8.trans g9)
    | (go_at_call 15; (with_reducible refine Calls.mono (HC2.out w9 gg9) ?_); rintro e w10 ⟨A10, n10, c10, rfl, r10, g10⟩; have gg10 := gg9.trans g10; have z610 := ((g7.trans g8).trans g9).trans g10; have d0 : w10.cell? ⟨w5.heap.size, 0, none⟩ = some (.slice A5 n5 cap5) := (hq5'.gr z610).cell 0; have d1 : w10.cell? ⟨w5.heap.size, 1, none⟩ = some (.int .i64 u) := (hq5'.gr z610).cell 1; have b0 : w10.cell? ⟨w6.heap.size, 0, none⟩ = some (.slice A6 n6 cap6) := (hq6.gr z610).cell 0; have b1 : w10.cell? ⟨w6.heap.size, 1, none⟩ = some (.int .i64 u) := (hq6.gr z610).cell 1)
    | (go_at_call 26; (with_reducible refine Calls.mono (HSd.out w10 _ _ _ _ _ _ (h5''.gr z610) (h6'.gr z610)) ?_); rintro e w11 ⟨rfl, g11⟩; have gg11 := gg10.trans g11)
    | (go_at_call 16; (with_reducible refine Calls.mono (HSS.out w11 A9 n9 c9 A10 n10 c10 ((r9.gr g10).gr g11) (r10.gr g11)) ?_); rintro e w12 ⟨rfl, g12⟩; have gg12 := gg11.trans g12)
    | (go_at_call 19; (with_reducible refine Calls.mono (HSo.out w12 gg12) ?_); rintro e w13 ⟨rfl, g13⟩))
  go_ret
  exact ⟨rfl, hg0.trans (gg12.trans g13)⟩
end Go.Proofs.YtoamnifnfkgbiaaGreatDoor

namespace Go.Proofs.YtoamnifnfkgbiaaGreatDoor.lawStoreSweepsUpto
open Go.ChangeShapes Go.WideShapes Go.ChangeAt Go.RowKit
open Go.ChangeMaps (open_string shut_string)
set_option linter.unusedVariables false
theorem own : ownKnob Tryz.prog.godebug = none := by kernel_rfl
theorem laidOut : laidOutB Tryz.prog = true := by kernel_rfl

set_option maxRecDepth 100000 in
theorem contract (H : Type) (enc : TypeId × Value → H) (W : World) (base : Nat) (args : Array Value) (ds gs : List (DataW H)) (before : List MemPlace)
    (hval0 : ∀ (j : Nat) t v, Tryz.f5.params[j]? = some t → args[j]? = some v → Value.okWide Tryz.prog W .any base t v)
    (hW : DataW.Whole enc Tryz.prog Tryz.f5.params.toList Rows.storeSweepsSpec.vars false W args.toList ds gs before)
    (hk : Rows.uptoSmall H (ds ++ gs) = true)
    (hL : laidMetH Tryz.prog Rows.storeSweepsUptoRow.laid W) :
    Calls Tryz.prog 5 args W fun e W' => ∃ v, e = .returned v ∧ Rows.storeSweepsSpec.post enc Tryz.prog Tryz.f5 false true false false W args v W' := by
  have hval := hval0
  have hW' := hW
  obtain ⟨p, q, hA0, hV, rfl, hfz, hnd⟩ := hW
  have hA : DataW.TrodAll enc Tryz.prog W 0 (fun _ => true) true Tryz.f5.params.toList args.toList ds p := hA0
  rw [Tryz.params5] at hA hval
  obtain ⟨v0, vs0, d0, ds0, p0, q0, hargs, rfl, rfl, h0, r0⟩ := trodAll_cons hA
  obtain ⟨v1, vs1, d1, ds1, p1, q1, rfl, rfl, rfl, h1, r1⟩ := trodAll_cons r0
  obtain ⟨rfl, rfl, rfl⟩ := trodAll_nil r1
  obtain rfl : args = #[v0, v1] := by cases args; simp_all
  obtain ⟨rfl, rfl⟩ := trodVars_none hV
  have k0 := h0
  have lt0 : ∀ x ∈ p0, x.block < W.heap.size := by obtain ⟨m, hm⟩ := k0; exact DataW.trod_lt m _ _ _ hm
  have bk0 : Rows.uptoBulk d0 ≤ 1048576 := by
    have hb := of_decide_eq_true hk
    simp only [List.append_nil, Rows.uptoBulkAll] at hb
    omega
  obtain ⟨A0, c0, x0, f0, rfl, b0⟩ := open_disk (hval 0 24 v0 rfl rfl) h0 bk0
  have k1 := h1
  have lt1 : ∀ x ∈ p1, x.block < W.heap.size := by obtain ⟨m, hm⟩ := k1; exact DataW.trod_lt m _ _ _ hm
  have bk1 : Rows.uptoBulk d1 ≤ 1048576 := by
    have hb := of_decide_eq_true hk
    simp only [List.append_nil, Rows.uptoBulkAll] at hb
    omega
  obtain ⟨A1, c1, x1, rfl, b1⟩ := open_strs (hval 1 31 v1 rfl rfl) h1 bk1
  clear hA0 hval0
  refine (storeSweeps_walk A0 c0 x0 f0 A1 c1 x1 W b0 b1 (table_of hL)).mono fun e W' ⟨he, bel⟩ => ?_
  subst he
  exact ⟨_, rfl, _, _, _, [], _, [], hW', trodAll_mk1 (shut_bool Tryz.underlying4 _), (trodAll_cons_mk (Below.trod laidOut (by kernel_rfl) (of_decide_eq_true (by kernel_rfl)) k0 bel.below lt0) (trodAll_cons_mk (Below.trod laidOut (by kernel_rfl) (of_decide_eq_true (by kernel_rfl)) k1 bel.below lt1) trodAll_mk0)), rfl, bel.below.frame _, fun h => by cases h⟩

set_option maxRecDepth 100000 in
theorem laid_met (os : Os) : laidMet Tryz.prog Rows.storeSweepsUptoRow.laid ((laidWorld Rows.storeSweepsUptoRow.laid os).forCall (fun _ _ => 0) ⟨#[], #[.agg #[.slice none 0 0, .int .i64 0], .slice none 0 0], []⟩).memory :=
  laidMet_of_run' 8 (by kernel_rfl) (by kernel_rfl)
theorem reads (os : Os) {H : Type} (enc : TypeId × Value → H) : ∃ places, DataW.whole enc Tryz.prog ((laidWorld Rows.storeSweepsUptoRow.laid os).forCall (fun _ _ => 0) ⟨#[], #[.agg #[.slice none 0 0, .int .i64 0], .slice none 0 0], []⟩).memory Tryz.f5.params.toList Rows.storeSweepsSpec.vars false (#[.agg #[.slice none 0 0, .int .i64 0], .slice none 0 0] : Array Value).toList 8 = some ([.agg [.nil, .lit (.int .i64 0)], .nil], [], places) :=
  ⟨[], by kernel_rfl⟩
set_option maxRecDepth 100000 in
theorem lifted (os : Os) (started : os.Started) (H : Type) (enc : TypeId × Value → H) (F : Stop.Interp) :
    ReturnsInHanded {} Tryz.checked os 5 .any ((Rows.OpenSpec.upto Rows.storeSweepsSpec).preRow enc Tryz.prog Tryz.f5 Rows.storeSweepsUptoRow.domain false Rows.storeSweepsUptoRow.laid) (((Rows.OpenSpec.upto Rows.storeSweepsSpec).at F).post enc Tryz.prog Tryz.f5 false true false false) := by
  obtain ⟨places, hx⟩ := reads os enc
  refine returnsInHanded_of_row (C := Tryz.checked) (s := Rows.OpenSpec.upto Rows.storeSweepsSpec) own started (by kernel_rfl) Tryz.func5
    (witness_row_at (enc := enc) (C := Tryz.checked) false (laidWorld Rows.storeSweepsUptoRow.laid os) #[.agg #[.slice none 0 0, .int .i64 0], .slice none 0 0] rfl (by kernel_rfl) (by kernel_rfl) (by kernel_rfl)
      (OpenSpec.preRow_of_cond 8 hx (by kernel_rfl) (fun k hk => by cases hk; kernel_rfl) (by kernel_rfl) (laid_met os))) ?_
  intro W base args ds gs before hval hW _ hcond _ hL _ _
  exact contract H enc W base args ds gs before hval hW (hcond _ rfl) hL

theorem said : Rows.StoreSweepsUptoSaid :=
  OpenClaim.holds_of_cond 5 Tryz.f5 rfl rfl rfl rfl rfl rfl rfl ⟨rfl, rfl, rfl, rfl, rfl⟩ rfl rfl rfl rfl rfl (by kernel_rfl) Tryz.func5 (by kernel_rfl)
    (of_decide_eq_true (by kernel_rfl)) (by unfold Func.isWrapper; first | (rw [if_pos (by decide +kernel)]; kernel_rfl) | (rw [if_neg (by decide +kernel)]; exact ⟨rfl, rfl⟩))
    (fun os started H enc _ F => by rw [OpenClaim.pre_eq_preRow]; exact lifted os started H enc F)

theorem plain (f : FuncId) (fn : Func) (hf : Tryz.pinned.checked.prog.funcNamed "cartulary/cartularylaw.StoreSweeps" = some f) (hfn : Tryz.pinned.checked.prog.funcs[f]? = some fn) :
    false = Tryz.pinned.checked.prog.looks [] ∧ ∀ (j : Nat) t, fn.params[j]? = some t → Tryz.pinned.checked.prog.wantsStandIn t = false := by
  obtain rfl : f = 5 := Option.some.inj ((show Tryz.prog.funcNamed "cartulary/cartularylaw.StoreSweeps" = some 5 by kernel_rfl).symm.trans hf) |>.symm
  obtain rfl : fn = Tryz.f5 := (Option.some.inj (Tryz.func5.symm.trans hfn)).symm
  refine ⟨by kernel_rfl, fun j t ht => ?_⟩
  rw [Tryz.params5] at ht
  have hm := Array.mem_of_getElem? ht
  simp only [List.mem_toArray, List.mem_cons, List.not_mem_nil, or_false] at hm
  rcases hm with rfl | rfl
  · exact (show Tryz.prog.wantsStandIn 24 = false by kernel_rfl)
  · exact (show Tryz.prog.wantsStandIn 31 = false by kernel_rfl)
theorem proved : Rows.StoreSweepsUptoCardSaid :=
  Claim7.holds_tied_plain_at .later [] _ _ _ _ said (fun _ h => by cases h) (by kernel_rfl) (fun _ h => by cases h) storeSweepsUpto_row_tie rfl ⟨rfl, rfl⟩ (by kernel_rfl) rfl plain (by kernel_rfl)
end Go.Proofs.YtoamnifnfkgbiaaGreatDoor.lawStoreSweepsUpto

/-
  sum.Unhex by its contract.
-/
import Derived.Test.YtojiheelacmniaaDoorHexes
namespace Go.Proofs.YtojiheelacmniaaDoor
open Go.RowKit
set_option linter.unusedVariables false

def uhV : Option (List UInt8) → Value
  | some o => .tuple #[.string (bs o), .int .i64 0]
  | none => .tuple #[.string (bs []), .int .i64 2]
theorem unhex_odd : ∀ (n : Nat) (s : List UInt8), s.length = 2 * n + 1 → unhex s = none
  | _, [], h => by simp at h
  | _, [_], _ => rfl
  | 0, _ :: _ :: _, h => by simp at h
  | n + 1, a :: b :: r, h => by
    unfold unhex
    rw [unhex_odd n r (by simp at h; omega)]
    split <;> rfl
theorem unhex_step (s : List UInt8) (i : Nat) (h : i + 1 < s.length) : unhex (s.drop i) = if unD s[i] < 16 ∧ unD s[i + 1] < 16 then (unhex (s.drop (i + 2))).map (UInt8.ofNat (unD s[i] * 16 + unD s[i + 1]) :: ·) else none := by
  rw [List.drop_eq_getElem_cons (show i < s.length by omega), List.drop_eq_getElem_cons h]
  rfl
theorem hex_or (x y : Nat) (hx : x < 16) (hy : y < 16) : bits .or .u8 ((x : Int) * 16) (y : Int) = (((UInt8.ofNat (x * 16 + y)).toNat : Nat) : Int) := by
  have h : ∀ x y : Fin 16, bits .or .u8 ((x.val : Int) * 16) (y.val : Int) = (((UInt8.ofNat (x.val * 16 + y.val)).toNat : Nat) : Int) := by decide +kernel
  exact h ⟨x, hx⟩ ⟨y, hy⟩

set_option maxRecDepth 100000 in
set_option maxHeartbeats 1000000 in
theorem unhex_any (s : List UInt8) (w : World) (hs : s.length ≤ 17592186044416) :
    Calls Tryd.prog 20 #[.string (bs s)] w fun e w' => e = .returned (uhV (unhex s)) ∧ Gr w w' := by
  by_cases hev : s.length % 2 = 0
  · have t1 : ((s.length : Int) % 2 == 0) = true := by rw [beq_iff_eq]; omega
    have t2 : ((s.length : Int) % 2 != 0) = false := by rw [bne_eq_false_iff_eq]; omega
    have HEV := sec hev
    clear hev
    go_enter Tryd.func20, Tryd.ntmps20
    go_wp2_with fail
    clear t1 t2
    go_loopw [4, 5, 6, 7] (fun v iv _ _ wr => ∃ (i n : Nat) (ad : Option Addr) (cap : Nat) (o : List UInt8), iv = .int .i64 (i : Int) ∧ i ≤ s.length ∧ Sec (i % 2 = 0) ∧ v = .slice ad n cap ∧ 2 * n ≤ i ∧ wr.ownsRow w.heap.size 5 1 (.slice ad n cap) n (o.map byteV) ∧ Sec (unhex s = (unhex (s.drop i)).map (o ++ ·)) ∧ Gr w wr)
      (fun _ iv _ _ _ => s.length - (intOf iv).toNat)
    case atStart => exact ⟨0, 0, none, 0, [], rfl, by omega, sec rfl, rfl, by omega, World.ownsRow_nil _ _ _ _, sec (by rw [List.drop_zero]; cases unhex s <;> rfl), Gr.refl w⟩
    case round =>
      obtain ⟨i, n, ad, cap, o, rfl, hi, HI, rfl, hn, hown, HU, hg⟩ := hrel
      by_cases hlt : i < s.length
      · have hlt1 : i + 1 < s.length := by have := HI.out; have := HEV.out; omega
        have HL := sec hlt
        have hli : (i : Int) < (s.length : Int) := by omega
        have hli1 : (i : Int) + 1 < (s.length : Int) := by omega
        have hst := unhex_step s i hlt1
        obtain ⟨a, ha⟩ : ∃ a, a = s[i] := ⟨_, rfl⟩
        obtain ⟨b, hb⟩ : ∃ b, b = s[i + 1] := ⟨_, rfl⟩
        rw [← ha, ← hb] at hst
        have HST := sec hst
        have hca : (bs s)[i]'(by rw [bs_size]; exact hlt) = a := by rw [bs_get, ha]
        have hcb : (bs s)[i + 1]'(by rw [bs_size]; exact hlt1) = b := by rw [bs_get, hb]
        clear ha hb hst
        have hua := unD_le a
        have hub := unD_le b
        go_wp2_with fail
        go_quiet (first
          | (with_reducible refine Calls.mono (digit_any a _) ?_; rintro e w1 ⟨rfl, rfl⟩; exact ⟨rfl, _, rfl⟩)
          | (with_reducible refine Calls.mono (digit_any b _) ?_; rintro e w1 ⟨rfl, rfl⟩; exact ⟨rfl, _, rfl⟩))
        clear hca hcb
        obtain ⟨wq, hwq⟩ : ∃ wq, wq = wr.drewN nq := ⟨_, rfl⟩
        have hgq : Gr w wq := by rw [hwq]; exact hg.drewN nq
        have hownq : wq.ownsRow w.heap.size 5 1 (.slice ad n cap) n (o.map byteV) := by rw [hwq]; exact hown
        rw [← hwq]
        clear hwq hown hg
        by_cases h15 : unD a < 16
        · have k15 : ¬ (15 : Int) < (unD a : Int) := by omega
          by_cases h16 : unD b < 16
          · have k16 : ¬ (15 : Int) < (unD b : Int) := by omega
            have hor := hex_or (unD a) (unD b) h15 h16
            obtain ⟨c, hc⟩ : ∃ c, c = UInt8.ofNat (unD a * 16 + unD b) := ⟨_, rfl⟩
            rw [← hc] at hor
            have HC := sec hc
            have H2 := sec (And.intro h15 h16)
            clear hc h15 h16 hua hub hlt1
            go_wp2_with (refine wpList_append_new E.u8 rfl (.tmp 33) (.tmp 38) rfl rfl hownq rfl rfl (by simp [Value.oneCell']) (by omega) (by omega) (by unfold maxLen; omega) hgq ?_; intro g' cap' w' hown' hg')
            go_roundw
            case rel =>
              refine ⟨i + 2, n + 1, some ⟨g', 0, none⟩, cap', o ++ [c], by go_num, by have := HL.out; omega, sec (by have := HI.out; omega), rfl, by omega, ?_, sec ?_, hg'⟩
              · rw [List.map_append]; exact hown'
              · rw [HU.out, HST.out, if_pos H2.out, HC.out]
                cases unhex (s.drop (i + 2)) <;> simp
            case measure => simp [intOf]; have := HL.out; omega
          · have k16 : (15 : Int) < (unD b : Int) := by omega
            have HN : Sec (unhex s = none) := sec (by rw [HU.out, HST.out, if_neg (fun h => h16 h.2)]; rfl)
            clear h15 h16
            go_wp2_with fail
            go_ret2
            exact ⟨by rw [HN.out]; rfl, hgq⟩
        · have k15 : (15 : Int) < (unD a : Int) := by omega
          have HN : Sec (unhex s = none) := sec (by rw [HU.out, HST.out, if_neg (fun h => h15 h.1)]; rfl)
          clear h15
          go_wp2_with fail
          go_ret2
          exact ⟨by rw [HN.out]; rfl, hgq⟩
      · obtain rfl : i = s.length := by omega
        clear hlt hi
        have HR : Sec (unhex s = some o) := sec (by rw [HU.out, List.drop_length]; simp [unhex])
        have hcv : (convert 44 9 (.slice ad n cap)).run Tryd.prog wr = .ok (.string (bs o)) wr := by
          have hn : n = o.length := by have := hown.1; simp at this; exact this.symm
          have := run_conv_own Tryd.underlying44 Tryd.underlying5 Tryd.underlying9 (n := n) (w := wr) (l := o) (by rw [hn] at hown ⊢; exact hown)
          exact this
        go_wp2_with fail
        go_ret2
        exact ⟨by rw [HR.out]; rfl, hg⟩
  · have t1 : ((s.length : Int) % 2 == 0) = false := by rw [beq_eq_false_iff_ne]; omega
    have t2 : ((s.length : Int) % 2 != 0) = true := by rw [bne_iff_ne]; omega
    have HN := sec (unhex_odd (s.length / 2) s (by omega))
    clear hev
    go_enter Tryd.func20, Tryd.ntmps20
    go_wp2_with fail
    go_ret2
    exact ⟨by rw [HN.out]; rfl, Gr.refl w⟩
end Go.Proofs.YtojiheelacmniaaDoor

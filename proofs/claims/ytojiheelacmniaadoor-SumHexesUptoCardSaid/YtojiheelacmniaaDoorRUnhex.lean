/-
  cartularyref.Unhex by its contract.
-/
import Derived.Test.YtojiheelacmniaaDoorRHex
namespace Go.Proofs.YtojiheelacmniaaDoor
open Go.RowKit
set_option linter.unusedVariables false

/-- what one byte does to the number and the count -/
def unN (n : Nat) (c : UInt8) : Nat := if unD c < 16 then 16 * n + unD c else n
def unOk (k : Nat) (c : UInt8) : Nat := if unD c < 16 then k + 1 else k
/-- the digit d is the byte c -/
theorem digit_is (d : Nat) (hd : d < 16) (c : UInt8) : (hexD d).toNat = c.toNat ↔ unD c = d := by
  have h : ∀ (d : Fin 16) (n : Fin 256), (hexD d.val).toNat = (UInt8.ofNat n.val).toNat ↔ unD (UInt8.ofNat n.val) = d.val := by decide +kernel
  have := h ⟨d, hd⟩ ⟨c.toNat, c.toNat_lt⟩
  simpa using this
theorem unhex_two (s : List UInt8) (i : Nat) (h : i + 1 < s.length) : unhex (s.drop i) = if unOk (unOk 0 s[i]) s[i + 1] = 2 then (unhex (s.drop (i + 2))).map (UInt8.ofNat (unN (unN 0 s[i]) s[i + 1]) :: ·) else none := by
  rw [unhex_step s i h]
  by_cases h1 : unD s[i] < 16
  · by_cases h2 : unD s[i + 1] < 16
    · simp [unOk, unN, h1, h2, Nat.mul_comm]
    · simp [unOk, h1, h2]
  · by_cases h2 : unD s[i + 1] < 16
    · simp [unOk, h1, h2]
    · simp [unOk, h1, h2]
theorem unhex_one (a : UInt8) : unhex [a] = none := rfl

/-- one byte against all sixteen digits: the inner loop's state -/
def unNd (n : Nat) (c : UInt8) (d : Nat) : Nat := if unD c < d then 16 * n + unD c else n
def unOkd (k : Nat) (c : UInt8) (d : Nat) : Nat := if unD c < d then k + 1 else k

theorem unNd_16 (n : Nat) (c : UInt8) : unNd n c 16 = unN n c := rfl
theorem unOkd_16 (k : Nat) (c : UInt8) : unOkd k c 16 = unOk k c := rfl
theorem unNd_hit (n : Nat) (c : UInt8) (d : Nat) (h : unD c = d) : unNd n c d = n ∧ unNd n c (d + 1) = 16 * n + d := by
  unfold unNd; rw [h]; simp
theorem unOkd_hit (n : Nat) (c : UInt8) (d : Nat) (h : unD c = d) : unOkd n c d = n ∧ unOkd n c (d + 1) = n + 1 := by
  unfold unOkd; rw [h]; simp
theorem unNd_miss (n : Nat) (c : UInt8) (d : Nat) (h : unD c ≠ d) : unNd n c (d + 1) = unNd n c d := by
  unfold unNd
  by_cases h1 : unD c < d
  · rw [if_pos h1, if_pos (by omega)]
  · rw [if_neg h1, if_neg (by omega)]
theorem unOkd_miss (n : Nat) (c : UInt8) (d : Nat) (h : unD c ≠ d) : unOkd n c (d + 1) = unOkd n c d := by
  unfold unOkd
  by_cases h1 : unD c < d
  · rw [if_pos h1, if_pos (by omega)]
  · rw [if_neg h1, if_neg (by omega)]
theorem unNd_lt (n : Nat) (c : UInt8) (d : Nat) : unNd n c d ≤ 16 * n + 16 := by
  have := unD_le c
  unfold unNd; split <;> omega
theorem unOkd_le (n : Nat) (c : UInt8) (d : Nat) : unOkd n c d ≤ n + 1 := by
  unfold unOkd; split <;> omega
def unNs (l : List UInt8) : Nat → Nat
  | 0 => 0
  | k + 1 => unN (unNs l k) (l.getD k 0)
def unOks (l : List UInt8) : Nat → Nat
  | 0 => 0
  | k + 1 => unOk (unOks l k) (l.getD k 0)
theorem digit_at64 (n : Nat) (h : n < 16) (w : World) :
    (Instr.index 9 (.string (bs [48, 49, 50, 51, 52, 53, 54, 55, 56, 57, 97, 98, 99, 100, 101, 102])) (.int .i64 (n : Int))).run Tryd.prog w = .ok (.int .u8 ((hexD n).toNat : Int)) w := by
  rw [run_index_string w 9 _ _ _ Tryd.underlying9]
  have h16 : (n : Int) < 16 := by omega
  simp only [bs_size, List.length_cons, List.length_nil]
  rw [dif_pos ⟨by omega, by omega⟩]
  simp [bs_get, hexD, hexL, List.getD, h]

set_option maxRecDepth 100000 in
set_option maxHeartbeats 4000000 in
theorem runhex_any (s : List UInt8) (w : World) (hs : s.length ≤ 17592186044416) :
    Calls Tryd.prog 21 #[.string (bs s)] w fun e w' => e = .returned (uhV (unhex s)) ∧ Gr w w' := by
  have HE : ∀ b : Bool, True := fun _ => trivial
  go_enter Tryd.func21, Tryd.ntmps21
  go_wp2_with fail
  go_loopw [4, 5, 6, 7, 9, 10] (fun v iv _ _ _ _ wr => ∃ (i n : Nat) (ad : Option Addr) (cap : Nat) (o : List UInt8), iv = .int .i64 (i : Int) ∧ i ≤ s.length ∧ Sec (i % 2 = 0) ∧ v = .slice ad n cap ∧ 2 * n ≤ i ∧ wr.ownsRow w.heap.size 5 1 (.slice ad n cap) n (o.map byteV) ∧ Sec (unhex s = (unhex (s.drop i)).map (o ++ ·)) ∧ Gr w wr)
    (fun _ iv _ _ _ _ _ => s.length - (intOf iv).toNat)
  case atStart => exact ⟨0, 0, none, 0, [], rfl, by omega, sec rfl, rfl, by omega, World.ownsRow_nil _ _ _ _, sec (by rw [List.drop_zero]; cases unhex s <;> rfl), Gr.refl w⟩
  case round =>
    obtain ⟨i, n, ad, cap, o, rfl, hi, HI, rfl, hn, hown, HU, hg⟩ := hrel
    by_cases hlt : i + 1 < s.length
    · have hli : (i : Int) + 1 < (s.length : Int) := by omega
      have HT := sec (unhex_two s i hlt)
      have HL := sec hlt
      obtain ⟨l, hl⟩ : ∃ l, l = sub s i (i + 2) := ⟨_, rfl⟩
      have hll : l.length = 2 := by rw [hl, sub_len _ _ _ (by omega)]; omega
      have hl0 : l.getD 0 0 = s[i] := by rw [hl]; simp [sub, List.getD, show i < s.length by omega]
      have hl1 : l.getD 1 0 = s[i + 1] := by rw [hl]; simp [sub, List.getD, hlt]
      rw [← hl0, ← hl1] at HT
      rw [show unOk (unOk 0 (l.getD 0 0)) (l.getD 1 0) = unOks l 2 from rfl, show unN (unN 0 (l.getD 0 0)) (l.getD 1 0) = unNs l 2 from rfl] at HT
      have hsub : (bs s).extract i (i + 2) = bs l := by rw [bs_extract, hl]
      have hs2 : sub s i (i + 2) = l := hl.symm
      obtain ⟨w2, cap2, hcv, hg2, hB⟩ := conv_brow Tryd.underlying9 Tryd.underlying44 Tryd.underlying5 wr l (by unfold maxLen; omega)
      rw [hll] at hcv
      have hown2 := own_gr hown hg2
      have hgw := hg.trans hg2
      clear hl hl0 hl1
      obtain ⟨wo, hwo⟩ : ∃ wo : World, wo = wr := ⟨_, rfl⟩
      obtain ⟨g1, hg1⟩ : ∃ g1, g1 = wr.heap.size := ⟨_, rfl⟩
      have hcells : ∀ j, j < 2 → w2.cell? ⟨g1, j, none⟩ = some (.int .u8 ((l.getD j 0).toNat : Int)) := by
        intro j hj
        rw [hg1]
        exact hB.at_ j _ (by simp [List.getD, byteV, show j < l.length by omega])
      have hB2 := sec hB
      clear hB
      go_wp2_with fail
      rw [← hg1]
      have HC := sec hcells
      have HH2 := sec hown2
      have HGW := sec hgw
      clear hg1 hwo hcells hown2 hgw hcv hg2 hown hg hsub hs2 hB2 hll
      go_loopw [25, 6, 7, 9, 10] (fun kv nv ov _ _ wr => ∃ k N K : Nat, kv = .int .i64 k ∧ k ≤ 2 ∧ nv = .int .i64 N ∧ ov = .int .i64 K ∧ Sec (N = unNs l k) ∧ Sec (K = unOks l k) ∧ (N ≤ 272 ∧ (k = 1 → N ≤ 16) ∧ (k = 0 → N = 0)) ∧ K ≤ k ∧ wr = w2)
        (fun kv _ _ _ _ _ => 2 - (intOf kv).toNat)
      case atStart => exact ⟨0, 0, 0, rfl, by omega, rfl, rfl, sec rfl, sec rfl, by omega, by omega, rfl⟩
      case round =>
        obtain ⟨k, N, K, rfl, hk, rfl, rfl, HN, HK, hN, hK, rfl⟩ := hrel
        by_cases hk2 : k < 2
        · have hc := HC.out k hk2
          have hK9 : K ≤ 2 := by omega
          have hki : (k : Int) < 2 := by omega
          have hN2 : N ≤ 1000 := by omega
          have HNN : Sec (16 * N + 16 ≤ 272 ∧ (k + 1 = 1 → 16 * N + 16 ≤ 16)) := sec (by
            have : k = 0 ∨ k = 1 := by omega
            rcases this with rfl | rfl
            · have := hN.2.2 rfl; omega
            · have := hN.2.1 rfl; omega)
          obtain ⟨c, hcc⟩ : ∃ c, c = l.getD k 0 := ⟨_, rfl⟩
          rw [← hcc] at hc
          have HCC := sec hcc
          have H2 := sec hk2
          have HKK := sec hK
          clear hcc hk2 hk hN hK
          go_wp2_with fail
          go_loopw [29, 6, 7, 10] (fun dv nv ov _ wr' => ∃ d N' K' : Nat, dv = .int .i64 d ∧ d ≤ 16 ∧ nv = .int .i64 N' ∧ ov = .int .i64 K' ∧ Sec (N' = unNd N c d) ∧ Sec (K' = unOkd K c d) ∧ N' ≤ 16 * N + 16 ∧ K' ≤ K + 1 ∧ wr' = wr)
            (fun dv _ _ _ _ => 16 - (intOf dv).toNat)
          case atStart => exact ⟨0, N, K, rfl, by omega, rfl, rfl, sec rfl, sec rfl, by omega, by omega, rfl⟩
          case round =>
            obtain ⟨d, N', K', rfl, hd, rfl, rfl, HN', HK', hN', hK', rfl⟩ := hrel
            by_cases hd16 : d < 16
            · have hdi : (d : Int) < 16 := by omega
              have i1 := digit_at64 d hd16
              have hiff := digit_is d hd16 c
              have hxl := (hexD d).toNat_lt
              obtain ⟨x, hx⟩ : ∃ x, x = (hexD d).toNat := ⟨_, rfl⟩
              rw [← hx] at i1 hiff hxl
              clear hx
              by_cases hh : unD c = d
              · have hxc : x = c.toNat := hiff.2 hh
                subst hxc
                obtain rfl : N' = N := HN'.out.trans (unNd_hit N c d hh).1
                obtain rfl : K' = K := HK'.out.trans (unOkd_hit K c d hh).1
                have H1 := sec (unNd_hit N' c d hh).2
                have H3 := sec (unOkd_hit K' c d hh).2
                clear hiff hh HN' HK'
                go_wp2_with fail
                go_roundw
                case rel => exact ⟨d + 1, 16 * N' + d, K' + 1, by go_num, by omega, by go_num, by go_num, sec H1.out.symm, sec H3.out.symm, by omega, by omega, by trivial⟩
                case measure => simp [intOf]; omega
              · have hxc : x ≠ c.toNat := fun e => hh (hiff.1 e)
                have t1 : ((x : Int) == (c.toNat : Int)) = false := by rw [beq_eq_false_iff_ne]; omega
                have H1 := sec (unNd_miss N c d hh)
                have H3 := sec (unOkd_miss K c d hh)
                clear hiff hh
                go_wp2_with fail
                go_roundw
                case rel => exact ⟨d + 1, N', K', by go_num, by omega, rfl, rfl, sec (by rw [H1.out]; exact HN'.out), sec (by rw [H3.out]; exact HK'.out), by omega, by omega, by trivial⟩
                case measure => simp [intOf]; omega
            · obtain rfl : d = 16 := by omega
              clear hd16 hd
              rw [show ((16 : Nat) : Int) = 16 from rfl]
              go_wp2_with fail
              go_roundw
              case rel =>
                refine ⟨k + 1, N', K', by go_num, by have := H2.out; omega, rfl, rfl, sec ?_, sec ?_, ⟨by have := HNN.out.1; omega, fun e => by have := HNN.out.2 e; omega, fun e => by omega⟩, by have := HKK.out; omega, by trivial⟩
                · rw [HN'.out, unNd_16, HN.out, HCC.out]; rfl
                · rw [HK'.out, unOkd_16, HK.out, HCC.out]; rfl
              case measure => simp [intOf]; have := H2.out; omega
        · obtain rfl : k = 2 := by omega
          rw [← HN.out, ← HK.out] at HT
          have hN2 : N ≤ 1000 := by omega
          clear hk2 hk hN
          rw [show ((2 : Nat) : Int) = 2 from rfl]
          by_cases hK2 : K = 2
          · subst hK2
            have hu : unhex s = (unhex (s.drop (i + 2))).map ((o ++ [UInt8.ofNat N]) ++ ·) := by
              rw [HU.out, HT.out, if_pos rfl]
              cases unhex (s.drop (i + 2)) <;> simp
            have HUU := sec hu
            clear hu
            have hown := HH2.out
            have hg := HGW.out
            have hnb : n + 1 ≤ 140737488355328 := by omega
            have hnm : n + 1 ≤ maxLen := by unfold maxLen; omega
            have HLT := sec hlt
            have hwr : (N : Int) % 256 = ((UInt8.ofNat N).toNat : Int) := by simp
            have HWR := sec hwr
            clear hwr
            go_wp2_with (refine wpList_append_new E.u8 rfl (.tmp 46) (.tmp 49) rfl rfl hown rfl rfl (by simp [Value.oneCell']) (by omega) (by omega) hnm hg ?_; intro g' cap' w' hown' hg')
            go_roundw
            case rel =>
              refine ⟨i + 2, n + 1, some ⟨g', 0, none⟩, cap', o ++ [UInt8.ofNat N], by go_num, by have := HLT.out; omega, sec (by have := HI.out; omega), rfl, by omega, ?_, HUU, hg'⟩
              rw [List.map_append]
              have := HWR.out
              simp only [this] at hown'
              exact hown'
            case measure => simp [intOf]; have := HLT.out; omega
          · have t1 : ((K : Int) == 2) = false := by rw [beq_eq_false_iff_ne]; omega
            have t2 : ((K : Int) != 2) = true := by rw [bne_iff_ne]; omega
            have HNO : Sec (unhex s = none) := sec (by rw [HU.out, HT.out, if_neg hK2]; rfl)
            clear hK2
            go_wp2_with fail
            go_ret2
            exact ⟨by rw [HNO.out]; rfl, HGW.out⟩
    · have hlti : ¬ (i : Int) + 1 < (s.length : Int) := by omega
      have hcv : (convert 44 9 (.slice ad n cap)).run Tryd.prog wr = .ok (.string (bs o)) wr := by
        have hn : n = o.length := by have := hown.1; simp at this; exact this.symm
        exact run_conv_own Tryd.underlying44 Tryd.underlying5 Tryd.underlying9 (n := n) (w := wr) (l := o) (by rw [hn] at hown ⊢; exact hown)
      have hI := HI.out
      by_cases hodd : s.length % 2 = 1
      · have t1 : ((s.length : Int) % 2 == 1) = true := by rw [beq_iff_eq]; omega
        have HNO : Sec (unhex s = none) := sec (unhex_odd (s.length / 2) s (by omega))
        clear hodd hI hlt
        go_wp2_with fail
        go_ret2
        exact ⟨by rw [HNO.out]; rfl, hg⟩
      · have t1 : ((s.length : Int) % 2 == 1) = false := by rw [beq_eq_false_iff_ne]; omega
        have HNO : Sec (unhex s = some o) := sec (by
          have : i = s.length := by omega
          rw [HU.out, this, List.drop_length]; simp [unhex])
        clear hodd hI hlt
        go_wp2_with fail
        go_ret2
        exact ⟨by rw [HNO.out]; rfl, hg⟩
end Go.Proofs.YtojiheelacmniaaDoor

/-
  strings.ContainsFunc over a closure that captures nothing and is false of every rune beyond ASCII, by its contract.
-/
import Derived.Test.YtoamnifnfkgbiaaGreatDoorCFunc
import Derived.Lib.DecodeN
namespace Go.Proofs.YtoamnifnfkgbiaaGreatDoor
open Go.RowKit
set_option linter.unusedVariables false
theorem decodeN_wide (n b0 b1 b2 b3 : Nat) (h : 1 ≤ n) (hb : 128 ≤ b0) : (Lib.decodeN n b0 b1 b2 b3).2 ≤ n ∧ ((Lib.decodeN n b0 b1 b2 b3).2 ≤ 4) ∧ (2 ≤ (Lib.decodeN n b0 b1 b2 b3).2 → 128 ≤ b1) ∧ (3 ≤ (Lib.decodeN n b0 b1 b2 b3).2 → 128 ≤ b2) ∧ (4 ≤ (Lib.decodeN n b0 b1 b2 b3).2 → 128 ≤ b3) := by
  unfold Lib.decodeN
  repeat' split
  all_goals (refine ⟨?_, ?_, ?_, ?_, ?_⟩ <;> simp only <;> omega)
theorem decode_wide (l : List UInt8) (pos : Nat) (h : pos < l.length) (hb : 128 ≤ l[pos].toNat) :
    pos + (Utf8.decode (bs l) pos).2 ≤ l.length ∧ ∀ j (hj : pos + j < l.length), j < (Utf8.decode (bs l) pos).2 → 128 ≤ l[pos + j].toNat := by
  have hget : ∀ j (hj : j < l.length), ((bs l).get! j).toNat = l[j].toNat := by
    intro j hj
    have := get_at (bs l) j (by rw [bs_size]; exact hj)
    rw [Nat.add_zero] at this
    rw [this, bs_get l j (by rw [bs_size]; exact hj)]
  rw [Lib.decode_at, bs_size]
  have h0 := hget pos h
  obtain ⟨a1, a2, a3, a4, a5⟩ := decodeN_wide (l.length - pos) ((bs l).get! pos).toNat ((bs l).get! (pos + 1)).toNat ((bs l).get! (pos + 2)).toNat ((bs l).get! (pos + 3)).toNat (by omega) (by rw [h0]; exact hb)
  refine ⟨by omega, fun j hj hjk => ?_⟩
  match j, hj, hjk with
  | 0, hj, _ => exact hb
  | 1, hj, hjk => rw [← hget _ hj]; exact a3 (by omega)
  | 2, hj, hjk => rw [← hget _ hj]; exact a4 (by omega)
  | 3, hj, hjk => rw [← hget _ hj]; exact a5 (by omega)
  | j + 4, hj, hjk => omega
theorem any_wide (l : List UInt8) (p : Nat → Bool) (pos K : Nat) (h : pos < l.length) (hK : 1 ≤ K) (hfar : ∀ j (hj : pos + j < l.length), 0 < j → j < K → p l[pos + j].toNat = false) (hA : (l.take pos).any (fun c => p c.toNat) = false) :
    (l.take (pos + K)).any (fun c => p c.toNat) = p l[pos].toNat := by
  have e1 : l.take (pos + K) = l.take pos ++ (l[pos] :: (l.drop (pos + 1)).take (K - 1)) := by
    rw [List.take_add, List.drop_eq_getElem_cons h]
    obtain ⟨k, rfl⟩ : ∃ k, K = k + 1 := ⟨K - 1, by omega⟩
    rfl
  have e2 : ((l.drop (pos + 1)).take (K - 1)).any (fun c => p c.toNat) = false := by
    rw [List.any_eq_false]
    intro x hx
    obtain ⟨i, hi, rfl⟩ := List.getElem_of_mem hx
    rw [List.length_take, List.length_drop] at hi
    rw [List.getElem_take, List.getElem_drop]
    have := hfar (i + 1) (by omega) (by omega) (by omega)
    have e : pos + 1 + i = pos + (i + 1) := by omega
    simp only [e]
    rw [this]
    simp
  rw [e1, List.any_append, hA, List.any_cons, e2]
  simp

set_option maxRecDepth 100000 in
set_option maxHeartbeats 2000000 in
theorem indexFuncLo_any (g : Nat) (p : Nat → Bool) (hp : Asks g p) (hhi : ∀ R, 128 ≤ R → p R = false) (eg : ∀ args w, (callFunc g args).run Tryz.prog w = .ok (.enter g args) w) (s : List UInt8) (w : World) (hs : s.length ≤ 4611686018427387904) :
    Calls Tryz.prog 210 #[.string (bs s), .func (.func g) #[] #[], .bool true] w fun e w' => (∃ k : Int, e = .returned (.int .i64 k) ∧ idxV (s.any fun c => p c.toNat) k) ∧ Gr w w' := by
  go_enter Tryz.func210, Tryz.ntmps210
  go_wp2
  go_loopw [7, 8] (fun _ _ wx => ∃ pos : Nat, wx.heap[w.heap.size]? = some (.stringIter (bs s) pos) ∧ Gr w wx ∧ Sec ((s.take pos).any (fun c => p c.toNat) = false) ∧ pos ≤ s.length)
    (fun _ _ wx => s.length + 1 - wx.iterPos w.heap.size)
  case atStart => exact ⟨0, World.iter_heap w (bs s) 0, (Below.refl _ w).alloc (Nat.le_refl _) _, sec rfl, Nat.zero_le _⟩
  case round =>
    obtain ⟨pos, hit, hg, HA, hle⟩ := hrel
    by_cases hps : pos < s.length
    · have hsz : pos < (bs s).size := by rw [bs_size]; exact hps
      have hnx : ∀ ty, (Instr.next (.pointer (some ⟨w.heap.size, 0, none⟩)) true ty).run Tryz.prog wr = _ := fun ty => Lib.run_next_any_at wr w.heap.size (bs s) pos ty hit hsz
      obtain ⟨c, hc⟩ : ∃ c, c = s[pos] := ⟨_, rfl⟩
      have hgc : (bs s)[pos]'hsz = c := (bs_get s pos hsz).trans hc.symm
      have hP : p (Utf8.decode (bs s) pos).1 = p c.toNat ∧ 1 ≤ (Utf8.decode (bs s) pos).2 ∧ pos + (Utf8.decode (bs s) pos).2 ≤ s.length ∧ ∀ j (hj : pos + j < s.length), 0 < j → j < (Utf8.decode (bs s) pos).2 → p s[pos + j].toNat = false := by
        by_cases hlo : c.toNat < 128
        · have := decode_ascii (bs s) pos hsz (by rw [hgc]; exact hlo)
          rw [this, hgc]
          exact ⟨rfl, Nat.le_refl _, hps, fun j hj h0 h1 => by simp only at h1; omega⟩
        · have h1 := decode_high (bs s) pos hsz (by rw [hgc]; omega)
          obtain ⟨h2, h3⟩ := decode_wide s pos hps (by rw [hc] at hlo; omega)
          rw [hhi _ h1.1, hhi c.toNat (by omega)]
          exact ⟨rfl, h1.2, h2, fun j hj _ hk => hhi _ (h3 j hj hk)⟩
      have hRle := decode_le (bs s) pos
      obtain ⟨R, hR⟩ : ∃ R, (Utf8.decode (bs s) pos).1 = R := ⟨_, rfl⟩
      obtain ⟨K, hK⟩ : ∃ K, (Utf8.decode (bs s) pos).2 = K := ⟨_, rfl⟩
      rw [hR, hK] at hnx
      rw [hR, hK] at hP
      rw [hR] at hRle
      obtain ⟨hP1, hP2, hP3, hP4⟩ := hP
      have hit2 := Lib.iterAt_heap wr w.heap.size (bs s) pos (pos + K) hit
      have hg2 : Gr w (wr.iterAt w.heap.size (bs s) (pos + K)) := Lib.below_iterAt hg (Nat.le_refl _) (bs s) (pos + K)
      obtain ⟨W, hW⟩ : ∃ W, wr.iterAt w.heap.size (bs s) (pos + K) = W := ⟨_, rfl⟩
      rw [hW] at hnx hit2 hg2
      have hcS := hp R W hRle
      have hmeas : wr.iterPos w.heap.size = pos := by unfold World.iterPos; rw [hit]
      have HANY : Sec ((s.take (pos + K)).any (fun c => p c.toNat) = p R) := sec ((any_wide s p pos K hps hP2 hP4 HA.out).trans ((congrArg (fun c : UInt8 => p c.toNat) hc.symm).trans hP1.symm))
      have HTAKE : Sec (p R = true → s.any (fun c => p c.toNat) = true) := sec (fun h => by
        rw [← List.take_append_drop (pos + K) s, List.any_append, HANY.out, h]; rfl)
      have HK1 := sec hP2
      have HK2 := sec hP3
      have HIT := sec hit2
      have HME := sec hmeas
      have CS := sec hcS
      clear hgc hc hR hK hP1 hP2 hP3 hP4 hRle hW hit2 hp hhi hit hmeas hcS
      cases hb : p R
      · rw [hb] at CS HANY
        clear HTAKE hb
        go_wp2_with (refine Calls.mono CS.out ?_; rintro e W' ⟨rfl, g1⟩)
        go_roundw
        case rel =>
          refine ⟨pos + K, ?_, hg2.trans g1, HANY, HK2.out⟩
          rw [g1.below.block w.heap.size (by have := (Array.getElem?_eq_some_iff.1 HIT.out).1; exact this), HIT.out]
        case measure =>
          have h1 : W'.iterPos w.heap.size = pos + K := by
            unfold World.iterPos
            rw [g1.below.block w.heap.size (by have := (Array.getElem?_eq_some_iff.1 HIT.out).1; exact this), HIT.out]
          have h2 := HME.out
          have h3 := HK1.out
          have h4 := HK2.out
          omega
      · rw [hb] at CS
        have HT := sec (HTAKE.out hb)
        clear HTAKE hb
        go_wp2_with (refine Calls.mono CS.out ?_; rintro e W' ⟨rfl, g1⟩)
        go_ret
        exact ⟨⟨(pos : Int), rfl, by rw [HT.out]; show (0 : Int) ≤ pos; omega⟩, hg2.trans g1⟩
    · obtain rfl : pos = s.length := by omega
      have hsz : ¬ s.length < (bs s).size := by rw [bs_size]; omega
      have hnx : ∀ ty, (Instr.next (.pointer (some ⟨w.heap.size, 0, none⟩)) true ty).run Tryz.prog wr = _ := fun ty => Lib.run_next_end_at wr w.heap.size (bs s) s.length ty hit hsz
      have HAA : Sec (s.any (fun c => p c.toNat) = false) := sec (by have := HA.out; rwa [List.take_length] at this)
      clear hsz hps hp hhi
      go_wp2
      go_ret
      exact ⟨⟨-1, rfl, by rw [HAA.out]; rfl⟩, hg⟩

set_option maxRecDepth 100000 in
set_option maxHeartbeats 2000000 in
theorem containsFuncLo_any (g : Nat) (p : Nat → Bool) (hp : Asks g p) (hhi : ∀ R, 128 ≤ R → p R = false) (eg : ∀ args w, (callFunc g args).run Tryz.prog w = .ok (.enter g args) w) (s : List UInt8) (w : World) (hs : s.length ≤ 4611686018427387904) :
    Calls Tryz.prog 169 #[.string (bs s), .func (.func g) #[] #[]] w fun e w' => e = .returned (.bool (s.any fun c => p c.toNat)) ∧ Gr w w' := by
  have HI : Sec (∀ w, Calls Tryz.prog 200 #[.string (bs s), .func (.func g) #[] #[]] w fun e w' => (∃ k : Int, e = .returned (.int .i64 k) ∧ idxV (s.any fun c => p c.toNat) k) ∧ Gr w w') := sec (by
    intro w
    have HX := sec (fun w => indexFuncLo_any g p hp hhi eg s w hs)
    clear hp hhi eg
    go_enter Tryz.func200, Tryz.ntmps200
    go_wp2_with (go_at_call 210; refine Calls.mono (HX.out _) ?_; rintro e w1 ⟨⟨k, rfl, hk⟩, g1⟩)
    go_ret
    exact ⟨⟨k, rfl, hk⟩, g1⟩)
  clear hp hhi eg
  obtain ⟨B, hB⟩ : ∃ B, B = s.any fun c => p c.toNat := ⟨_, rfl⟩
  rw [← hB] at HI
  rw [← hB]
  clear hB
  cases B with
  | true =>
    go_enter Tryz.func169, Tryz.ntmps169
    go_wp2_with (go_at_call 200; refine Calls.mono (HI.out _) ?_; rintro e w1 ⟨⟨k, rfl, hk⟩, g1⟩; have hk' : 0 ≤ k := hk)
    go_ret
    exact ⟨by simp, g1⟩
  | false =>
    go_enter Tryz.func169, Tryz.ntmps169
    go_wp2_with (go_at_call 200; refine Calls.mono (HI.out _) ?_; rintro e w1 ⟨⟨k, rfl, hk⟩, g1⟩; obtain rfl : k = -1 := hk)
    go_ret
    exact ⟨rfl, g1⟩
end Go.Proofs.YtoamnifnfkgbiaaGreatDoor

/-
  strings.ContainsFunc over a closure that captures nothing and is true of every rune beyond ASCII, by its contract.
-/
import Derived.Test.YtdpombnelangjaaGreatDoorAgg
import Derived.Laws.RangeAny
import Derived.Lib.OthersKept
namespace Go.Proofs.YtdpombnelangjaaGreatDoor
open Go.RowKit
set_option linter.unusedVariables false
/-- function g asks p of a rune, turns nothing and lays new blocks alone -/
def Asks (g : Nat) (p : Nat → Bool) : Prop := ∀ (R : Nat) (w : World), R ≤ 2147483647 → Calls Tryz.prog g #[.int .i32 (R : Int)] w fun e w' => e = .returned (.bool (p R)) ∧ Gr w w'

def idxV (found : Bool) (k : Int) : Prop := if found then 0 ≤ k else k = -1

set_option maxRecDepth 100000 in
set_option maxHeartbeats 2000000 in
theorem indexFunc_any (g : Nat) (p : Nat → Bool) (hp : Asks g p) (hhi : ∀ R, 128 ≤ R → p R = true) (eg : ∀ args w, (callFunc g args).run Tryz.prog w = .ok (.enter g args) w) (s : List UInt8) (w : World) (hs : s.length ≤ 4611686018427387904) :
    Calls Tryz.prog 198 #[.string (bs s), .func (.func g) #[] #[], .bool true] w fun e w' => (∃ k : Int, e = .returned (.int .i64 k) ∧ idxV (s.any fun c => p c.toNat) k) ∧ Gr w w' := by
  go_enter Tryz.func198, Tryz.ntmps198
  go_wp2
  go_loopw [7, 8] (fun _ _ wx => ∃ pos : Nat, wx.heap[w.heap.size]? = some (.stringIter (bs s) pos) ∧ Gr w wx ∧ Sec ((s.take pos).any (fun c => p c.toNat) = false) ∧ pos ≤ s.length)
    (fun _ _ wx => s.length + 1 - wx.iterPos w.heap.size)
  case atStart => exact ⟨0, World.iter_heap w (bs s) 0, (Below.refl _ w).alloc (Nat.le_refl _) _, sec rfl, Nat.zero_le _⟩
  case round =>
    obtain ⟨pos, hit, hg, HA, hle⟩ := hrel
    by_cases hps : pos < s.length
    · have hsz : pos < (bs s).size := by rw [bs_size]; exact hps
      have hnx : ∀ ty, (Instr.next (.pointer (some ⟨w.heap.size, 0, none⟩)) true ty).run Tryz.prog wr = _ := fun ty => Lib.run_next_any_at wr w.heap.size (bs s) pos ty hit hsz
      obtain ⟨c, hc⟩ : ∃ c, c = List.get s ⟨pos, hps⟩ := ⟨_, rfl⟩
      have hgc : (bs s)[pos]'hsz = c := (bs_get s pos hsz).trans hc.symm
      have hP : p (Utf8.decode (bs s) pos).1 = p c.toNat ∧ (p (Utf8.decode (bs s) pos).1 = false → (Utf8.decode (bs s) pos).2 = 1) := by
        by_cases hlo : c.toNat < 128
        · have := decode_ascii (bs s) pos hsz (by rw [hgc]; exact hlo)
          rw [this, hgc]
          exact ⟨rfl, fun _ => rfl⟩
        · have := (decode_high (bs s) pos hsz (by rw [hgc]; omega)).1
          rw [hhi _ this, hhi c.toNat (by omega)]
          exact ⟨rfl, fun h => by cases h⟩
      have hRle := decode_le (bs s) pos
      obtain ⟨R, hR⟩ : ∃ R, (Utf8.decode (bs s) pos).1 = R := ⟨_, rfl⟩
      obtain ⟨K, hK⟩ : ∃ K, (Utf8.decode (bs s) pos).2 = K := ⟨_, rfl⟩
      rw [hR, hK] at hnx
      rw [hR, hK] at hP
      rw [hR] at hRle
      have hit2 := Lib.iterAt_heap wr w.heap.size (bs s) pos (pos + K) hit
      have hg2 : Gr w (wr.iterAt w.heap.size (bs s) (pos + K)) := Lib.below_iterAt hg (Nat.le_refl _) (bs s) (pos + K)
      have hpos0 := hit
      obtain ⟨W, hW⟩ : ∃ W, wr.iterAt w.heap.size (bs s) (pos + K) = W := ⟨_, rfl⟩
      rw [hW] at hnx hit2 hg2
      have hcS := hp R W hRle
      have hmeas : wr.iterPos w.heap.size = pos := by unfold World.iterPos; rw [hit]
      have HANY : Sec ((s.take (pos + 1)).any (fun c => p c.toNat) = p R) := sec (by
        have h1 : (s.take (pos + 1)) = s.take pos ++ [c] := (List.take_succ_eq_append_getElem hps).trans (by rw [hc]; rfl)
        rw [h1, List.any_append, HA.out, hP.1]
        simp)
      have HTAKE : Sec (p R = true → s.any (fun c => p c.toNat) = true) := sec (fun h => by
        rw [← List.take_append_drop (pos + 1) s, List.any_append, HANY.out, h]; rfl)
      have HK := sec hP.2
      have HPS := sec hps
      have HIT := sec hit2
      have HME := sec hmeas
      have CS := sec hcS
      clear hgc hc hR hK hP hRle hW hpos0 hit2 hp hhi hit hmeas hcS
      cases hb : p R
      · rw [hb] at CS HANY
        have HK1 : Sec (K = 1) := sec (HK.out hb)
        clear HK HTAKE hb
        go_wp2_with (refine Calls.mono CS.out ?_; rintro e W' ⟨rfl, g1⟩)
        go_roundw
        case rel =>
          refine ⟨pos + 1, ?_, hg2.trans g1, HANY, HPS.out⟩
          rw [g1.below.block w.heap.size (by have := (Array.getElem?_eq_some_iff.1 HIT.out).1; exact this), HIT.out, HK1.out]
        case measure =>
          have h1 : W'.iterPos w.heap.size = pos + 1 := by
            unfold World.iterPos
            rw [g1.below.block w.heap.size (by have := (Array.getElem?_eq_some_iff.1 HIT.out).1; exact this), HIT.out, HK1.out]
          have h2 := HME.out
          have h3 := HPS.out
          omega
      · rw [hb] at CS
        have HT := sec (HTAKE.out hb)
        clear HK HTAKE hb
        go_wp2_with (refine Calls.mono CS.out ?_; rintro e W' ⟨rfl, g1⟩)
        go_ret
        exact ⟨⟨(pos : Int), rfl, by rw [HT.out]; show (0 : Int) ≤ pos; omega⟩, hg2.trans g1⟩
    · obtain rfl : pos = s.length := by omega
      have hsz : ¬ s.length < (bs s).size := by rw [bs_size]; omega
      have hnx : ∀ ty, (Instr.next (.pointer (some ⟨w.heap.size, 0, none⟩)) true ty).run Tryz.prog wr = _ := fun ty => Lib.run_next_end_at wr w.heap.size (bs s) s.length ty hit hsz
      have HAA : Sec (s.any (fun c => p c.toNat) = false) := sec (by have := HA.out; rwa [List.take_length] at this)
      clear hsz hps hp hhi
      go_wp2
      go_ret
      exact ⟨⟨-1, rfl, by rw [HAA.out]; rfl⟩, hg⟩

set_option maxRecDepth 100000 in
set_option maxHeartbeats 2000000 in
theorem containsFunc_any (g : Nat) (p : Nat → Bool) (hp : Asks g p) (hhi : ∀ R, 128 ≤ R → p R = true) (eg : ∀ args w, (callFunc g args).run Tryz.prog w = .ok (.enter g args) w) (s : List UInt8) (w : World) (hs : s.length ≤ 4611686018427387904) :
    Calls Tryz.prog 123 #[.string (bs s), .func (.func g) #[] #[]] w fun e w' => e = .returned (.bool (s.any fun c => p c.toNat)) ∧ Gr w w' := by
  have HI : Sec (∀ w, Calls Tryz.prog 165 #[.string (bs s), .func (.func g) #[] #[]] w fun e w' => (∃ k : Int, e = .returned (.int .i64 k) ∧ idxV (s.any fun c => p c.toNat) k) ∧ Gr w w') := sec (by
    intro w
    have HX := sec (fun w => indexFunc_any g p hp hhi eg s w hs)
    clear hp hhi eg
    go_enter Tryz.func165, Tryz.ntmps165
    go_wp2_with (go_at_call 198; refine Calls.mono (HX.out _) ?_; rintro e w1 ⟨⟨k, rfl, hk⟩, g1⟩)
    go_ret
    exact ⟨⟨k, rfl, hk⟩, g1⟩)
  clear hp hhi eg
  obtain ⟨B, hB⟩ : ∃ B, B = s.any fun c => p c.toNat := ⟨_, rfl⟩
  rw [← hB] at HI
  rw [← hB]
  clear hB
  cases B with
  | true =>
    go_enter Tryz.func123, Tryz.ntmps123
    go_wp2_with (go_at_call 165; refine Calls.mono (HI.out _) ?_; rintro e w1 ⟨⟨k, rfl, hk⟩, g1⟩; have hk' : 0 ≤ k := hk)
    go_ret
    exact ⟨by simp, g1⟩
  | false =>
    go_enter Tryz.func123, Tryz.ntmps123
    go_wp2_with (go_at_call 165; refine Calls.mono (HI.out _) ?_; rintro e w1 ⟨⟨k, rfl, hk⟩, g1⟩; obtain rfl : k = -1 := hk)
    go_ret
    exact ⟨rfl, g1⟩
end Go.Proofs.YtdpombnelangjaaGreatDoor

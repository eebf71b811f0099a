/-
  Two slices of strings compared: cartularyref.SameStrings by its contract.
-/
import Derived.Test.YtdpombnelangjaaGreatDoorElems
namespace Go.Proofs.YtdpombnelangjaaGreatDoor
open Go.RowKit
set_option maxRecDepth 100000 in
set_option maxHeartbeats 1000000 in
theorem sameStrings_any (A A' : Option Addr) (n n' c c' : Nat) (xs ys : List (List UInt8)) (w : World) (hx : StrRow w A n xs) (hy : StrRow w A' n' ys) (hn : n ≤ 140737488355328) (hn' : n' ≤ 140737488355328) :
    Calls Tryz.prog 27 #[.slice A n c, .slice A' n' c'] w fun e w' => e = .returned (.bool (decide (xs = ys))) ∧ Gr w w' := by
  have hlx := hx.len
  have hly := hy.len
  subst hlx hly
  by_cases hne : xs.length = ys.length
  · have hb1 : ((xs.length : Int) != (ys.length : Int)) = false := by simp [hne]
    have HN := sec hne
    clear hne
    go_enter Tryz.func27, Tryz.ntmps27
    go_wp2_with fail
    go_loopw [5, 13] (fun _ iv wr => ∃ i : Nat, iv = .int .i64 i ∧ i ≤ xs.length ∧ Sec (xs.take i = ys.take i) ∧ Gr w wr)
      (fun _ iv _ => xs.length - (intOf iv).toNat)
    case atStart => exact ⟨0, rfl, by omega, ⟨by simp⟩, Gr.refl _⟩
    case round =>
      obtain ⟨i, rfl, hi, he, hg⟩ := hrel
      by_cases hlt : i < xs.length
      · have hlty : i < ys.length := by have := HN.out; omega
        obtain ⟨b, off, rfl, hc⟩ := (hx.gr hg).cell hlt
        obtain ⟨b', off', rfl, hc'⟩ := (hy.gr hg).cell hlty
        obtain ⟨x, hxe⟩ : ∃ x, x = xs[i] := ⟨_, rfl⟩
        obtain ⟨y, hye⟩ : ∃ y, y = ys[i] := ⟨_, rfl⟩
        rw [← hxe] at hc
        rw [← hye] at hc'
        have HX := sec hxe
        have HY := sec hye
        clear hxe hye
        have q1 : (i : Int) < (xs.length : Int) := by omega
        have q2 : (i : Int) < (ys.length : Int) := by omega
        by_cases hxy : x = y
        · subst hxy
          go_wp2
          go_quiet (fail)
          go_wp2
          go_roundw
          case rel =>
            refine ⟨i + 1, by go_num, by omega, ⟨?_⟩, hg.drewN _⟩
            rw [List.take_succ_eq_append_getElem hlt, List.take_succ_eq_append_getElem hlty, he.out, ← HX.out, ← HY.out]
          case measure => simp [intOf]; omega
        · have hxy' : (x == y) = false := by simpa using hxy
          have HXY := sec hxy
          clear hxy
          go_wp2
          go_quiet (fail)
          go_wp2
          go_ret
          refine ⟨?_, hg.drewN _⟩
          have : ¬ (xs = ys) := by
            intro e
            apply HXY.out
            rw [HX.out, HY.out]
            simp [e]
          simp [this]
      · go_wp2
        go_ret
        refine ⟨?_, hg⟩
        have : xs = ys := by
          have h1 := he.out
          rw [List.take_of_length_le (by omega), List.take_of_length_le (by have := HN.out; omega)] at h1
          exact h1
        simp [this]
  · have hb1 : ((xs.length : Int) != (ys.length : Int)) = true := by rw [bne_iff_ne]; omega
    have : ¬ (xs = ys) := fun e => hne (by rw [e])
    have HN := sec this
    clear this hne
    go_enter Tryz.func27, Tryz.ntmps27
    go_wp2
    go_ret
    exact ⟨by simp [HN.out], Gr.refl _⟩
end Go.Proofs.YtdpombnelangjaaGreatDoor

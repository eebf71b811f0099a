/-
  slices.Index, slices.Contains over strings by their contracts.
-/
import Derived.Test.YtoamnifnfkgbiaaGreatDoorElems
namespace Go.Proofs.YtoamnifnfkgbiaaGreatDoor
set_option maxRecDepth 100000
open Go.RowKit
set_option linter.unusedVariables false
set_option maxHeartbeats 2000000 in
theorem sliceIndex_any (ss : List (List UInt8)) (s : List UInt8) (A : Option Addr) (n c : Nat) (w : World) (hx : StrRow w A n ss) (hn : n ≤ 140737488355328) :
    Calls Tryz.prog 108 #[.slice A n c, .string (bs s)] w fun e w' => ∃ k : Int, e = .returned (.int .i64 k) ∧ ((0 ≤ k) ↔ s ∈ ss) ∧ Gr w w' := by
  have hl := hx.len
  subst hl
  have HX := sec hx
  clear hx
  go_enter Tryz.func108, Tryz.ntmps108
  go_wp2_with fail
  go_loopw [8, 5] (fun iv _ wr => ∃ i : Nat, iv = .int .i64 (i : Int) ∧ i ≤ ss.length ∧ Sec (s ∉ ss.take i) ∧ wr = w)
    (fun iv _ _ => ss.length - (intOf iv).toNat)
  case atStart => exact ⟨0, rfl, by omega, sec (by simp), rfl⟩
  case round =>
    obtain ⟨i, rfl, hi, HA, rfl⟩ := hrel
    by_cases hlt : i < ss.length
    · have hli : (i : Int) < (ss.length : Int) := by omega
      obtain ⟨b, off, rfl, e0⟩ := HX.out.cell hlt
      have HM : Sec (∀ x, x ∈ ss.take (i + 1) ↔ x ∈ ss.take i ∨ x = ss[i]) := sec (fun x => by
        rw [List.take_succ_eq_append_getElem hlt]; simp only [List.mem_append, List.mem_singleton])
      have HIN : Sec (ss[i] ∈ ss) := sec (List.getElem_mem hlt)
      obtain ⟨x, hxx⟩ : ∃ x, x = ss[i] := ⟨_, rfl⟩
      rw [← hxx] at e0 HM HIN
      have HLT := sec hlt
      clear hxx hlt
      by_cases hsx : s = x
      · subst hsx
        go_wp2_with fail
        go_ret
        exact ⟨_, rfl, by simp [HIN.out], Gr.refl _⟩
      · have hb : (s == x) = false := by simpa using hsx
        have HN : Sec (s ∉ ss.take (i + 1)) := sec (fun h => by
          rcases (HM.out s).1 h with h | h
          · exact HA.out h
          · exact hsx h)
        clear hsx
        go_wp2_with fail
        go_roundw
        case rel => exact ⟨i + 1, by go_num, HLT.out, HN, by trivial⟩
        case measure => simp [intOf]; have := HLT.out; omega
    · obtain rfl : i = ss.length := by omega
      have HF : Sec (s ∉ ss) := sec (by have := HA.out; rwa [List.take_length] at this)
      clear hlt
      go_wp2_with fail
      go_ret
      exact ⟨-1, rfl, by simp [HF.out], Gr.refl _⟩
set_option maxHeartbeats 2000000 in
theorem sliceContains_any (ss : List (List UInt8)) (s : List UInt8) (A : Option Addr) (n c : Nat) (w : World) (hx : StrRow w A n ss) (hn : n ≤ 140737488355328) :
    Calls Tryz.prog 67 #[.slice A n c, .string (bs s)] w fun e w' => e = .returned (.bool (decide (s ∈ ss))) ∧ Gr w w' := by
  have HI := sec (sliceIndex_any ss s A n c w hx hn)
  clear hx
  by_cases hs : s ∈ ss
  · rw [decide_eq_true hs]
    have HS := sec hs
    clear hs
    go_enter Tryz.func67, Tryz.ntmps67
    go_wp2_with (go_at_call 108; refine Calls.mono HI.out ?_; rintro e w1 ⟨k, rfl, hk, g1⟩; have hk0 : 0 ≤ k := hk.2 HS.out; clear hk)
    go_ret
    exact ⟨by simp, g1⟩
  · rw [decide_eq_false hs]
    have HS := sec hs
    clear hs
    go_enter Tryz.func67, Tryz.ntmps67
    go_wp2_with (go_at_call 108; refine Calls.mono HI.out ?_; rintro e w1 ⟨k, rfl, hk, g1⟩; have hk0 : ¬ 0 ≤ k := fun h => HS.out (hk.1 h); clear hk)
    go_ret
    exact ⟨by simp; omega, g1⟩
end Go.Proofs.YtoamnifnfkgbiaaGreatDoor

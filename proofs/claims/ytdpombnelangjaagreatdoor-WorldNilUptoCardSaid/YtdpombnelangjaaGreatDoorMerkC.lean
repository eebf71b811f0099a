/-
  merkle.half, Leaf, Node, cartularyref.parting, Leaf, Two by their contracts.
-/
import Derived.Test.YtdpombnelangjaaGreatDoorMerkL
import Derived.Test.YtdpombnelangjaaGreatDoorSumS
import Derived.Test.YtdpombnelangjaaGreatDoorRSumS
namespace Go.Proofs.YtdpombnelangjaaGreatDoor
open Go.RowKit
set_option linter.unusedVariables false
theorem half_end {n k : Nat} (hp : ∃ h, k = 2 ^ h) (h1 : k = 1 ∨ k < n) (h2 : ¬ 2 * k < n) : k = halfN n := by
  obtain ⟨h, rfl⟩ := hp
  have hh := Nat.two_pow_pos h
  by_cases hn : n ≤ 2
  · rw [halfN_small hn]; omega
  · rw [halfN_of (h := h) (by omega) (by rw [Nat.pow_succ]; omega)]

set_option maxRecDepth 100000 in
set_option maxHeartbeats 1000000 in
theorem half_any (n : Nat) (w : World) (hn : n ≤ 1099511627776) :
    Calls Tryz.prog 102 #[.int .i64 (n : Int)] w fun e w' => e = .returned (.int .i64 (halfN n : Int)) ∧ w' = w := by
  go_enter Tryz.func102, Tryz.ntmps102
  go_wp2_with fail
  go_loopw [3] (fun v wr => ∃ k : Nat, v = .int .i64 (k : Int) ∧ Sec (∃ h, k = 2 ^ h) ∧ (k = 1 ∨ k < n) ∧ 0 < k ∧ wr = w)
    (fun v _ => 2 * n + 2 - (intOf v).toNat)
  case atStart => exact ⟨1, rfl, sec ⟨0, rfl⟩, .inl rfl, by omega, rfl⟩
  case round =>
    obtain ⟨k, rfl, HP, hk, hk0, rfl⟩ := hrel
    by_cases hlt : 2 * k < n
    · have hlti : 2 * (k : Int) < (n : Int) := by omega
      have hk2 : k < n := by omega
      clear hk
      go_wp2_with fail
      go_roundw
      case rel => exact ⟨k * 2, by go_num, sec (by obtain ⟨h, e⟩ := HP.out; exact ⟨h + 1, by rw [e, Nat.pow_succ]⟩), .inr (by omega), by omega, by trivial⟩
      case measure => simp [intOf]; omega
    · have hlti : ¬ 2 * (k : Int) < (n : Int) := by omega
      have HE := sec (half_end HP.out hk hlt)
      have hk2 : k ≤ 1099511627777 := by omega
      clear hk hlt
      go_wp2_with fail
      go_ret
      exact ⟨by rw [← HE.out]; rfl, by trivial⟩

set_option maxHeartbeats 1000000 in
theorem leaf_any (s : List UInt8) (w : World) (hT : TabK w) (hs : s.length ≤ 1099511627776) :
    Calls Tryz.prog 149 #[.string (bs s)] w fun e w' => e = .returned (.string (bs (leafH s))) ∧ Gr w w' := by
  have HF : Sec (leafH s = sha ([0] ++ s)) := sec rfl
  have HL : Sec (([0] ++ s : List UInt8).length ≤ 576460752303423488) := sec (by simp; omega)
  have h63 : ¬ 9223372036854775807 < 1 + s.length := by omega
  go_enter Tryz.func149, Tryz.ntmps149
  go_wp2_with (go_at_call 44; refine (sum_any ([0] ++ s) _ hT HL.out).mono ?_; rintro e w1 ⟨rfl, g1⟩)
  go_ret
  exact ⟨by rw [HF.out]; rfl, g1⟩
set_option maxHeartbeats 1000000 in
theorem node_any (a b : List UInt8) (w : World) (hT : TabK w) (ha : a.length ≤ 1099511627776) (hb : b.length ≤ 1099511627776) :
    Calls Tryz.prog 150 #[.string (bs a), .string (bs b)] w fun e w' => e = .returned (.string (bs (nodeH a b))) ∧ Gr w w' := by
  have HF : Sec (nodeH a b = sha ([1] ++ a ++ b)) := sec rfl
  have HL : Sec (([1] ++ a ++ b : List UInt8).length ≤ 576460752303423488) := sec (by simp; omega)
  have h63 : ¬ 9223372036854775807 < 1 + a.length := by omega
  have h64 : ¬ 9223372036854775807 < 1 + a.length + b.length := by omega
  go_enter Tryz.func150, Tryz.ntmps150
  go_wp2_with (go_at_call 44; refine (sum_any ([1] ++ a ++ b) _ hT HL.out).mono ?_; rintro e w1 ⟨rfl, g1⟩)
  go_ret
  exact ⟨by rw [HF.out]; rfl, g1⟩
end Go.Proofs.YtdpombnelangjaaGreatDoor

/-
  sum.digit, sum.Unhex by their contracts.
-/
import Derived.Test.YtojiheelacmniaaDoorHex
namespace Go.Proofs.YtojiheelacmniaaDoor
open Go.RowKit
set_option linter.unusedVariables false

set_option maxRecDepth 100000 in
set_option maxHeartbeats 1000000 in
theorem digit_any (c : UInt8) (w : World) :
    Calls Tryd.prog 29 #[.int .u8 (c.toNat : Int)] w fun e w' => e = .returned (.int .u8 (unD c : Int)) ∧ w' = w := by
  have hc := c.toNat_lt
  have HU := sec (show unD c = if 48 ≤ c.toNat ∧ c.toNat ≤ 57 then c.toNat - 48 else if 97 ≤ c.toNat ∧ c.toNat ≤ 102 then c.toNat - 87 else 16 from rfl)
  have fin : ∀ (k : Int), k = (unD c : Int) → ∀ w', w' = w → ((Ending.returned (.int .u8 k)) = .returned (.int .u8 (unD c : Int)) ∧ w' = w) := fun k hk w' hg => ⟨by rw [hk], hg⟩
  obtain ⟨n, hn⟩ : ∃ n, n = c.toNat := ⟨_, rfl⟩
  rw [← hn] at HU hc
  rw [← hn]
  clear hn
  by_cases h1 : 48 ≤ n
  · have h1' : (48 : Int) ≤ (n : Int) := by omega
    by_cases h2 : n ≤ 57
    · have h2' : (n : Int) ≤ 57 := by omega
      go_enter Tryd.func29, Tryd.ntmps29
      go_wp2_with fail
      go_ret
      exact fin _ (by rw [HU.out, if_pos ⟨h1, h2⟩]; omega) _ rfl
    · have h2' : ¬ (n : Int) ≤ 57 := by omega
      by_cases h3 : 97 ≤ n
      · have h3' : (97 : Int) ≤ (n : Int) := by omega
        by_cases h4 : n ≤ 102
        · have h4' : (n : Int) ≤ 102 := by omega
          go_enter Tryd.func29, Tryd.ntmps29
          go_wp2_with fail
          go_ret
          exact fin _ (by rw [HU.out, if_neg (fun h => h2 h.2), if_pos ⟨h3, h4⟩]; omega) _ rfl
        · have h4' : ¬ (n : Int) ≤ 102 := by omega
          go_enter Tryd.func29, Tryd.ntmps29
          go_wp2_with fail
          go_ret
          exact fin _ (by rw [HU.out, if_neg (fun h => h2 h.2), if_neg (fun h => h4 h.2)]; rfl) _ rfl
      · have h3' : ¬ (97 : Int) ≤ (n : Int) := by omega
        go_enter Tryd.func29, Tryd.ntmps29
        go_wp2_with fail
        go_ret
        exact fin _ (by rw [HU.out, if_neg (fun h => h2 h.2), if_neg (fun h => h3 h.1)]; rfl) _ rfl
  · have h1' : ¬ (48 : Int) ≤ (n : Int) := by omega
    have h3' : ¬ (97 : Int) ≤ (n : Int) := by omega
    go_enter Tryd.func29, Tryd.ntmps29
    go_wp2_with fail
    go_ret
    exact fin _ (by rw [HU.out, if_neg (fun h => h1 h.1), if_neg (fun h => by omega)]; rfl) _ rfl
end Go.Proofs.YtojiheelacmniaaDoor

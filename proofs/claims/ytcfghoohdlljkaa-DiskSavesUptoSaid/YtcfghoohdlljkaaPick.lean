/-
  law.pick by its contract.
-/
import Derived.Test.YtcfghoohdlljkaaBase
namespace Go.Proofs.Ytcfghoohdlljkaa
open Go.RowKit
set_option linter.unusedVariables false

set_option maxRecDepth 100000 in
set_option maxHeartbeats 2000000 in
theorem pick4_any (k : Int) (w : World) (hk : -9223372036854775808 ≤ k ∧ k ≤ 9223372036854775807) :
    Calls Try.prog 23 #[.int .i64 k, .int .i64 4] w fun e w' => e = .returned (.int .i64 (k % 4)) ∧ Gr w w' := by
  have hm := Int.tmod_eq_emod (a := k) (b := 4)
  by_cases h0 : k.tmod 4 < 0
  · have hwr : IntKind.i64.wrap (k.tmod 4 + 4) = k % 4 := by
      have e : k.tmod 4 + 4 = k % 4 := by
        split at hm <;> omega
      rw [e]
      exact IntWalk.i64_in _ (by omega)
    have HW := sec hwr
    clear hm
    go_enter Try.func23, Try.ntmps23
    go_wp2_with fail
    go_ret
    refine ⟨?_, Gr.refl _⟩
    have := HW.out
    simp_all
  · have e : k.tmod 4 = k % 4 := by
      split at hm <;> omega
    have HE := sec e
    clear hm e
    go_enter Try.func23, Try.ntmps23
    go_wp2_with fail
    go_ret
    exact ⟨by rw [← HE.out]; rfl, Gr.refl _⟩
end Go.Proofs.Ytcfghoohdlljkaa

/-
  cartularylaw.objects by its contract.
-/
import Derived.Test.YtmgpllakpgjicaaObE
namespace Go.Proofs.Ytmgpllakpgjicaa
set_option maxRecDepth 100000
open Go.RowKit
set_option linter.unusedVariables false
def obTry : Ob := ⟨1, [97], [], [], [], [], [], 0, []⟩
theorem obTry_enc : obEnc obTry = ([1, 1, 97], 0) := by
  have h1 : obE obTry = 0 := by decide
  have h2 : obS obTry = [1, 1, 97] := by
    have e1 : numS (1 : Int) = [1] := by rw [numS_in (by omega) (by omega)]; exact num_small (by decide)
    have e2 : txt [97] = [1, 97] := by unfold txt; rw [num_small (by decide)]; rfl
    show numS 1 ++ txt [97] = _
    rw [e1, e2]; rfl
  unfold obEnc
  rw [if_pos h1, h2]
  rfl
set_option maxHeartbeats 4000000 in
theorem objects_any (w : World) : Calls Try.prog 12 #[] w fun e w' => e = .returned (.bool true) ∧ Gr w w' := by
  have HE : Sec (∀ w, Calls Try.prog 4 #[.agg #[.int .i64 1, .string (bs [97]), .slice none 0 0, .string (bs []), .slice none 0 0, .string (bs []), .string (bs []), .int .i64 0, .string (bs [])]] w fun e w' => e = .returned (.tuple #[.string (bs [1, 1, 97]), .int .i64 0]) ∧ Gr w w') := sec (fun w => by
    have := obEncode_any obTry none 0 none 0 w ⟨Row.nil _ _ _, Row.nil _ _ _, fun _ => ⟨rfl, rfl⟩, fun _ => ⟨rfl, rfl⟩, Nat.le_refl _, Nat.le_refl _⟩ ⟨by decide, by decide, by simp [obTry], by decide, by decide, by simp [obTry], by decide, by decide, by decide⟩
    rw [obTry_enc] at this
    exact this)
  go_enter Try.func12, Try.ntmps12
  go_wp2_with (go_at_call 4; (with_reducible refine Calls.mono (HE.out _) ?_); rintro e w1 ⟨rfl, g1⟩)
  go_ret
  exact ⟨rfl, g1⟩
end Go.Proofs.Ytmgpllakpgjicaa

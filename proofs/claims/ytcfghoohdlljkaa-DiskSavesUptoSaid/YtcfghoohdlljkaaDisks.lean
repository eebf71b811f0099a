/-
  law.disks by its contract.
-/
import Derived.Test.YtcfghoohdlljkaaDiskWrite
namespace Go.Proofs.Ytcfghoohdlljkaa
open Go.RowKit
set_option linter.unusedVariables false

theorem disks_val : stepR (wrF [97] [98]) [] (-1) = ([([97], [], [98])], -1, 0) := by decide

set_option maxRecDepth 100000 in
set_option maxHeartbeats 4000000 in
theorem disks_any (w : World) : Calls Try.prog 22 #[] w fun e w' => e = .returned (.bool true) ∧ Gr w w' := by
  have HW : Sec (∀ w, Calls Try.prog 24 #[.agg #[.slice none 0 0, .int .i64 (-1)], .string { data := #[97] }, .string { data := #[98] }] w fun e w' => ∃ A' cap', e = .returned (.tuple #[.agg #[.slice A' 1 cap', .int .i64 (-1)], .int .i64 0]) ∧ Gr w w') := sec (fun w => by
    have := write_any [97] [98] [] none 0 0 (-1) w (by omega) (Row.nil w 3 none) (fun _ => ⟨rfl, rfl⟩) (fun f hf => by cases hf) (by omega) (by simp) (by simp)
    rw [disks_val] at this
    refine Calls.mono this ?_
    rintro e w' ⟨A', n', cap', rfl, g, _, hrow⟩
    have hl := FRow.len (StepPost.row (r := ([([97], [], [98])], -1, 0)) (show FRow w none 0 [] from Row.nil w 3 none) g hrow)
    obtain rfl : n' = 1 := by simpa using hl.symm
    exact ⟨A', cap', rfl, g⟩)
  have HN : Sec (∀ w, Calls Try.prog 48 #[.string { data := #[97, 46, 98, 45, 99] }] w fun e w' => e = .returned (.bool true) ∧ Gr w w') := sec (fun w => by
    have := named_any [97, 46, 98, 45, 99] w (by simp)
    rw [show namedB [97, 46, 98, 45, 99] = true by decide] at this
    exact this)
  go_enter Try.func22, Try.ntmps22
  go_wp2_with (first | (go_at_call 24; refine Calls.mono (HW.out _) ?_; rintro e w1 ⟨A', cap', rfl, g1⟩) | (go_at_call 48; refine Calls.mono (HN.out _) ?_; rintro e w2 ⟨rfl, g2⟩))
  go_ret
  exact ⟨rfl, (g1.alloc _).trans g2⟩
end Go.Proofs.Ytcfghoohdlljkaa

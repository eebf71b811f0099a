/-
  strings.Index at one byte; the iterator of strings.SplitSeq(s, "/"), by their contracts.
-/
import Derived.Test.YtoamnifnfkgbiaaGreatDoorRefNL
import Derived.Test.YtoamnifnfkgbiaaGreatDoorRowsG
import Derived.RangeFuncNested
import Derived.RangeFuncBound
import Derived.RangeFuncCalls
import Derived.RangeFuncLeaves
import Derived.OwnWalkIn
import Derived.TacticsInMore
import Derived.LoopNIn
import Derived.LoopIn
import Derived.Lib.Bytealg
namespace Go.Proofs.YtoamnifnfkgbiaaGreatDoor
open Go.RowKit
attribute [local go_sem] Oper.semAt_some
set_option maxRecDepth 100000
set_option linter.unusedVariables false
theorem idx_split (c : UInt8) : ∀ l : List UInt8, (Lib.indexByte l c = -1 ∧ ∀ x ∈ l, x ≠ c) ∨ ∃ x t, l = x ++ c :: t ∧ (∀ y ∈ x, y ≠ c) ∧ Lib.indexByte l c = (x.length : Int)
  | [] => .inl ⟨rfl, by simp⟩
  | b :: r => by
    by_cases hb : b = c
    · subst hb
      refine .inr ⟨[], r, rfl, by simp, ?_⟩
      unfold Lib.indexByte
      rw [if_pos (by simp)]; rfl
    · rcases idx_split c r with ⟨h1, h2⟩ | ⟨x, t, h1, h2, h3⟩
      · refine .inl ⟨?_, ?_⟩
        · unfold Lib.indexByte
          rw [if_neg (by simpa using hb), h1]; rfl
        · intro y hy
          rcases List.mem_cons.1 hy with rfl | hy
          · exact hb
          · exact h2 y hy
      · refine .inr ⟨b :: x, t, by rw [h1]; rfl, ?_, ?_⟩
        · intro y hy
          rcases List.mem_cons.1 hy with rfl | hy
          · exact hb
          · exact h2 y hy
        · unfold Lib.indexByte
          rw [if_neg (by simpa using hb), h3, if_neg (by rw [beq_iff_eq]; omega)]
          simp

set_option maxHeartbeats 1000000 in
theorem indexByte_any (s : List UInt8) (w : World) : Calls Tryz.prog 219 #[.string (bs s), .int .u8 47] w fun e w' => e = .returned (.int .i64 (Lib.indexByte s 47)) ∧ w = w' := by
  go_enter Tryz.func219, Tryz.ntmps219
  go_wp2
  rw [run_callFunc_extern Tryz.func223 (by kernel_rfl) (by kernel_rfl) (by kernel_rfl) (e := Extern.BytealgIndexByte.indexByte) (by kernel_rfl), Lib.run_indexByteString]
  simp only [Result.andThen]
  rw [Oper.upon_value]
  go_wp2
  go_ret
  exact ⟨by rw [bs_data]; rfl, rfl⟩
set_option maxHeartbeats 1000000 in
theorem slIndex_any (s : List UInt8) (w : World) : Calls Tryz.prog 217 #[.string (bs s), .string (bs [47])] w fun e w' => e = .returned (.int .i64 (Lib.indexByte s 47)) ∧ w = w' := by
  have HI := sec (indexByte_any s)
  by_cases h : s = [47]
  · subst h
    clear HI
    go_enter Tryz.func217, Tryz.ntmps217
    go_wp2
    go_ret
    exact ⟨rfl, rfl⟩
  · have q : (([47] : List UInt8) == s) = false := by rw [beq_eq_false_iff_ne]; exact fun e => h e.symm
    clear h
    go_enter Tryz.func217, Tryz.ntmps217
    go_wp2_with (go_at_call 219; refine Calls.mono (HI.out _) ?_; rintro e w' ⟨rfl, rfl⟩)
    all_goals (go_ret; exact ⟨rfl, rfl⟩)
set_option maxHeartbeats 1000000 in
theorem sIndex_any (s : List UInt8) (w : World) : Calls Tryz.prog 213 #[.string (bs s), .string (bs [47])] w fun e w' => e = .returned (.int .i64 (Lib.indexByte s 47)) ∧ w = w' := by
  have HI := sec (slIndex_any s)
  go_enter Tryz.func213, Tryz.ntmps213
  go_wp2_with (go_at_call 217; refine Calls.mono (HI.out _) ?_; rintro e w' ⟨rfl, rfl⟩)
  go_ret
  exact ⟨rfl, rfl⟩
end Go.Proofs.YtoamnifnfkgbiaaGreatDoor

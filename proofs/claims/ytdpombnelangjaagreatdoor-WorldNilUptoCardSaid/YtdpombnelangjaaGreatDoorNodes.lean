/-
  head.Empty, cartularyref.NoHead, SameDisk, SameSteps, SameRefs (of nothing), SameWitness, SameClient, NewWitness, NewClient by their contracts.
-/
import Derived.Test.YtdpombnelangjaaGreatDoorMerkR
import Derived.Test.YtdpombnelangjaaGreatDoorNodesD
namespace Go.Proofs.YtdpombnelangjaaGreatDoor
open Go.RowKit
set_option linter.unusedVariables false
set_option maxRecDepth 100000 in
set_option maxHeartbeats 1000000 in
theorem empty_any (w : World) (hT : TabK w) : Calls Tryz.prog 100 #[] w fun e w' => e = .returned (.agg (headC 0 (sha []))) ∧ Gr w w' := by
  have hR : ∀ w, TabK w → Calls Tryz.prog 101 #[.slice none 0 0] w fun e w' => e = .returned (.string (bs (sha []))) ∧ Gr w w' := by
    intro w hT
    have := root_any 0 [] none 0 0 w (by simp) (by omega) (by omega) ⟨rfl, fun h => absurd h (by omega)⟩ (by intro s h; cases h) hT
    rw [rootL_nil] at this
    exact this
  have HR := sec hR
  clear hR
  go_enter Tryz.func100, Tryz.ntmps100
  go_wp2_with (first
    | (refine wpList_store_blk rfl 24 (.tmp 0) (.tmp 2) rfl (g := w.heap.size) (cs' := headC 0 (sha [])) rfl rfl hB A.head rfl (headC_one _ _) ?_; intro w2 h2 hg2)
    | (go_at_call 101; refine Calls.mono (HR.out _ (hT.gr ((Gr.refl w).alloc _))) ?_; rintro e w1 ⟨rfl, g1⟩; have hB := (Blk.new w 24 (headC 0 [])).gr g1; have gg1 : Gr w w1 := Gr.trans ((Gr.refl w).alloc _) g1))

  refine bodyPost_ret (results_blk rfl _ rfl h2 A.head) rfl ?_
  exact ⟨rfl, Gr.only gg1 hg2 (Nat.le_refl _)⟩
end Go.Proofs.YtdpombnelangjaaGreatDoor

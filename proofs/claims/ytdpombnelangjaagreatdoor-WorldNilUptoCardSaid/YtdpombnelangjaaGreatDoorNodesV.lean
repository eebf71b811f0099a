/-
  node.NewWitness, NewClient and the document's, nodes, NodeNews: the walks.
-/
import Derived.Test.YtdpombnelangjaaGreatDoorNodesW
namespace Go.Proofs.YtdpombnelangjaaGreatDoor
open Go.RowKit
set_option linter.unusedVariables false
theorem witC_one (who : Int) (key : List UInt8) (f n : Int) (r : List UInt8) : (witC who key f n r).all (·.oneCell') = true := by simp [witC, Value.oneCell']
theorem cliC_one (f n : Int) (r : List UInt8) : (cliC f n r).all (·.oneCell') = true := by simp [cliC, Value.oneCell']
/-- P12.1 -/
def newW (who : Int) (key : List UInt8) : Value := if 0 ≤ who ∧ who < 4 then .tuple #[.agg (witC who key (-1) 0 (sha [])), .int .i64 0] else .tuple #[.agg (witC 0 [] 0 0 []), .int .i64 3]

set_option maxRecDepth 100000 in
set_option maxHeartbeats 1000000 in
theorem newWit_any (who : Int) (key : List UInt8) (w : World) (hT : TabK w) :
    Calls Tryz.prog 55 #[.int .i64 who, .string (bs key)] w fun e w' => e = .returned (newW who key) ∧ Gr w w' := by
  by_cases h0 : 0 ≤ who
  · by_cases h1 : who < 4
    · have HN : Sec (newW who key = .tuple #[.agg (witC who key (-1) 0 (sha [])), .int .i64 0]) := sec (by unfold newW; rw [if_pos ⟨h0, h1⟩])
      rw [HN.out]
      have h3 : who ≤ 3 := by omega
      go_enter Tryz.func55, Tryz.ntmps55
      go_wp2_with (first
        | (refine wpList_store_blk rfl 38 (.tmp 4) (.tmp 17) rfl (g := w.heap.size) (cs' := witC who key (-1) 0 (sha [])) rfl rfl hB A.wit rfl (witC_one _ _ _ _ _) ?_; intro w2 h2 hg2)
        | (go_at_call 100; refine (empty_any _ (hT.gr ((Gr.refl w).alloc _))).mono ?_; rintro e w1 ⟨rfl, g1⟩; have hB := (Blk.new w 38 (witC 0 [] 0 0 [])).gr g1; have gg1 : Gr w w1 := Gr.trans ((Gr.refl w).alloc _) g1))
      refine bodyPost_ret (results_blk_tmp rfl _ rfl h2 A.wit) rfl ?_
      exact ⟨rfl, Gr.only gg1 hg2 (Nat.le_refl _)⟩
    · have HN : Sec (newW who key = .tuple #[.agg (witC 0 [] 0 0 []), .int .i64 3]) := sec (by unfold newW; rw [if_neg (fun h => h1 h.2)])
      rw [HN.out]
      have h3 : ¬ who ≤ 3 := by omega
      go_enter Tryz.func55, Tryz.ntmps55
      go_wp2_with (refine wpList_store_blk rfl 38 (.tmp 4) (.tmp 12) rfl (g := w.heap.size) (cs' := witC 0 [] 0 0 []) rfl rfl (Blk.new w 38 (witC 0 [] 0 0 [])) A.wit rfl (witC_one _ _ _ _ _) ?_; intro w2 h2 hg2)
      refine bodyPost_ret (results_blk_tmp rfl _ rfl h2 A.wit) rfl ?_
      exact ⟨rfl, Gr.only ((Gr.refl w).alloc _) hg2 (Nat.le_refl _)⟩
  · have HN : Sec (newW who key = .tuple #[.agg (witC 0 [] 0 0 []), .int .i64 3]) := sec (by unfold newW; rw [if_neg (fun h => h0 h.1)])
    rw [HN.out]
    go_enter Tryz.func55, Tryz.ntmps55
    go_wp2_with (refine wpList_store_blk rfl 38 (.tmp 4) (.tmp 12) rfl (g := w.heap.size) (cs' := witC 0 [] 0 0 []) rfl rfl (Blk.new w 38 (witC 0 [] 0 0 [])) A.wit rfl (witC_one _ _ _ _ _) ?_; intro w2 h2 hg2)
    refine bodyPost_ret (results_blk_tmp rfl _ rfl h2 A.wit) rfl ?_
    exact ⟨rfl, Gr.only ((Gr.refl w).alloc _) hg2 (Nat.le_refl _)⟩
set_option maxRecDepth 100000 in
set_option maxHeartbeats 1000000 in
theorem newCli_any (w : World) (hT : TabK w) :
    Calls Tryz.prog 56 #[] w fun e w' => e = .returned (.agg (cliC (-1) 0 (sha []))) ∧ Gr w w' := by
  go_enter Tryz.func56, Tryz.ntmps56
  go_wp2_with (first
    | (refine wpList_store_blk rfl 60 (.tmp 0) (.tmp 3) rfl (g := w.heap.size) (cs' := cliC (-1) 0 (sha [])) rfl rfl hB A.cli rfl (cliC_one _ _ _) ?_; intro w2 h2 hg2)
    | (go_at_call 100; refine (empty_any _ (hT.gr ((Gr.refl w).alloc _))).mono ?_; rintro e w1 ⟨rfl, g1⟩; have hB := (Blk.new w 60 (cliC 0 0 [])).gr g1; have gg1 : Gr w w1 := Gr.trans ((Gr.refl w).alloc _) g1))
  refine bodyPost_ret (results_blk rfl _ rfl h2 A.cli) rfl ?_
  exact ⟨rfl, Gr.only gg1 hg2 (Nat.le_refl _)⟩

end Go.Proofs.YtdpombnelangjaaGreatDoor

/-
  cartularylaw.nodes, NodeNews: the walks.
-/
import Derived.Test.YtbhpglhmnpcnkaaDoorNodesV
namespace Go.Proofs.YtbhpglhmnpcnkaaDoor
open Go.RowKit
set_option linter.unusedVariables false

set_option maxRecDepth 100000 in
set_option maxHeartbeats 1000000 in
theorem nodes_any (w : World) (hT : TabK w) : Calls Tryd.prog 11 #[] w fun e w' => e = .returned (.bool true) ∧ Gr w w' := by
  have HN : Sec (newW 1 [107] = .tuple #[.agg (witC 1 [107] (-1) 0 (sha [])), .int .i64 0]) := sec (by unfold newW; rw [if_pos ⟨by omega, by omega⟩])
  have HC : Sec (cliC (-1) 0 (sha []) = #[.slice none 0 0, .int .i64 (-1), .int .i64 0, .string (bs (sha [])), .slice none 0 0, .slice none 0 0]) := sec rfl
  have f1 : ∀ (r : ByteArray) (w : World), (Instr.field 62 (.agg #[.slice none 0 0, .int .i64 (-1), .int .i64 0, .string r, .slice none 0 0, .slice none 0 0]) 0).run Tryd.prog w = .ok (.agg #[.slice none 0 0, .int .i64 (-1)]) w := fun r w => by kernel_rfl
  have f2 : ∀ (w : World), (Instr.field 24 (.agg #[.slice none 0 0, .int .i64 (-1)]) 1).run Tryd.prog w = .ok (.int .i64 (-1)) w := fun w => by kernel_rfl
  go_enter Tryd.func11, Tryd.ntmps11
  go_wp2_with (first
    | (refine wpList_store_blk rfl 28 (.tmp 1) (.tmp 5) rfl (g := w1.heap.size) rfl rfl (Blk.new w1 _ (witC 0 [] 0 0 [])) A.wit rfl (witC_one _ _ _ _ _) ?_; intro w2 h2 hg2; have c2 : w2.cell? ⟨w1.heap.size, 0, none⟩ = some (.int .i64 1) := h2.cell 0; have gg2 : Gr w w2 := Gr.only (g1.alloc _) hg2 g1.size)
    | (go_at_call 32; refine (newWit_any 1 [107] _ hT).mono ?_; rw [HN.out]; rintro e w1 ⟨rfl, g1⟩)
    | (go_at_call 33; refine (newCli_any _ (hT.gr gg2)).mono ?_; rw [HC.out]; rintro e w3 ⟨rfl, g3⟩))
  go_ret
  exact ⟨rfl, gg2.trans g3⟩

end Go.Proofs.YtbhpglhmnpcnkaaDoor

/-
  cartularylaw.nodes, NodeNews: the walks.
-/
import Derived.Test.YtjgkefjocakggaaDoorNodes3
namespace Go.Proofs.YtjgkefjocakggaaDoor
open Go.RowKit
set_option linter.unusedVariables false

set_option maxRecDepth 100000 in
set_option maxHeartbeats 1000000 in
theorem nodes_any (w : World) (hT : TabK w) : Calls Tryd.prog 13 #[] w fun e w' => e = .returned (.bool true) ∧ Gr w w' := by
  have HN : Sec (newW 1 [107] = .tuple #[.agg (witC 1 [107] (-1) 0 (sha [])), .int .i64 0]) := sec (by unfold newW; rw [if_pos ⟨by omega, by omega⟩])
  have HC : Sec (cliC (-1) 0 (sha []) = #[.slice none 0 0, .int .i64 (-1), .int .i64 0, .string (bs (sha [])), .slice none 0 0, .slice none 0 0]) := sec rfl
  have f1 : ∀ (r : ByteArray) (w : World), (Instr.field 37 (.agg #[.slice none 0 0, .int .i64 (-1), .int .i64 0, .string r, .slice none 0 0, .slice none 0 0]) 0).run Tryd.prog w = .ok (.agg #[.slice none 0 0, .int .i64 (-1)]) w := fun r w => by kernel_rfl
  have f2 : ∀ (w : World), (Instr.field 24 (.agg #[.slice none 0 0, .int .i64 (-1)]) 1).run Tryd.prog w = .ok (.int .i64 (-1)) w := fun w => by kernel_rfl
  go_enter Tryd.func13, Tryd.ntmps13
  go_wp2_with (first
    | (refine wpList_store_blk rfl 28 (.tmp 1) (.tmp 5) rfl (g := w1.heap.size) rfl rfl (Blk.new w1 _ (witC 0 [] 0 0 [])) A.wit rfl (witC_one _ _ _ _ _) ?_; intro w2 h2 hg2; have c2 : w2.cell? ⟨w1.heap.size, 0, none⟩ = some (.int .i64 1) := h2.cell 0; have gg2 : Gr w w2 := Gr.only (g1.alloc _) hg2 g1.size)
    | (go_at_call 7; refine (newWit_any 1 [107] _ hT).mono ?_; rw [HN.out]; rintro e w1 ⟨rfl, g1⟩)
    | (go_at_call 11; refine (newCli_any _ (hT.gr gg2)).mono ?_; rw [HC.out]; rintro e w3 ⟨rfl, g3⟩))
  go_ret
  exact ⟨rfl, gg2.trans g3⟩

theorem newW_form (who : Int) (key : List UInt8) : ∃ a k f n r e, newW who key = .tuple #[.agg (witC a k f n r), .int .i64 e] := by
  unfold newW
  split <;> exact ⟨_, _, _, _, _, _, rfl⟩

set_option maxRecDepth 100000 in
set_option maxHeartbeats 2000000 in
theorem nodeNews_walk (who : Int) (key : List UInt8) (W : World) (_hw : -9223372036854775808 ≤ who ∧ who ≤ 9223372036854775807) (hk : key.length ≤ 1048576) (hT : TabK W) :
    Calls Tryd.prog 3 #[.int .i64 who, .string (bs key)] W fun e w' => e = .returned (.bool true) ∧ Gr W w' := by
  obtain ⟨a, k, f, n, r, x, hN⟩ := newW_form who key
  have HN := sec hN
  clear hN
  go_enter Tryd.func3, Tryd.ntmps3
  go_wp2_with (first
    | (refine wpList_store_blk rfl 28 (.tmp 5) (.tmp 13) rfl (g := w1.heap.size) rfl rfl (Blk.new w1 _ (witC 0 [] 0 0 [])) A.wit rfl (witC_one _ _ _ _ _) ?_; intro w2 h2 hg2; have gg2 : Gr W w2 := Gr.only (g1.alloc _) hg2 g1.size)
    | (refine wpList_store_blk rfl 28 (.tmp 7) (.tmp 19) rfl (g := w3.heap.size) rfl rfl (Blk.new w3 _ (witC 0 [] 0 0 [])) A.wit rfl (witC_one _ _ _ _ _) ?_; intro w4 h4 hg4; have h24 : Blk w4 w1.heap.size 28 (witC a k f n r) := Blk.only ((h2.gr g3).alloc _) hg4 (by have := (h2.gr g3).lt; omega); have gg4 : Gr W w4 := Gr.only ((gg2.trans g3).alloc _) hg4 (gg2.trans g3).size; have h24c0 : w4.cell? ⟨w1.heap.size, 0, none⟩ = some (.int .i64 a) := h24.cell 0; have h24c1 : w4.cell? ⟨w1.heap.size, 1, none⟩ = some (.string (bs k)) := h24.cell 1; have h24c2 : w4.cell? ⟨w1.heap.size, 2, none⟩ = some (.slice none 0 0) := h24.cell 2; have h24c3 : w4.cell? ⟨w1.heap.size, 3, none⟩ = some (.int .i64 f) := h24.cell 3; have h24c4 : w4.cell? ⟨w1.heap.size, 4, none⟩ = some (.int .i64 n) := h24.cell 4; have h24c5 : w4.cell? ⟨w1.heap.size, 5, none⟩ = some (.string (bs r)) := h24.cell 5; have h4c0 : w4.cell? ⟨w3.heap.size, 0, none⟩ = some (.int .i64 a) := h4.cell 0; have h4c1 : w4.cell? ⟨w3.heap.size, 1, none⟩ = some (.string (bs k)) := h4.cell 1; have h4c2 : w4.cell? ⟨w3.heap.size, 2, none⟩ = some (.slice none 0 0) := h4.cell 2; have h4c3 : w4.cell? ⟨w3.heap.size, 3, none⟩ = some (.int .i64 f) := h4.cell 3; have h4c4 : w4.cell? ⟨w3.heap.size, 4, none⟩ = some (.int .i64 n) := h4.cell 4; have h4c5 : w4.cell? ⟨w3.heap.size, 5, none⟩ = some (.string (bs r)) := h4.cell 5)
    | (go_at_call 7; refine (newWit_any who key _ hT).mono ?_; rw [HN.out]; rintro e w1 ⟨rfl, g1⟩)
    | (go_at_call 8; refine (rnewWit_any who key _).mono ?_; rw [HN.out]; rintro e w3 ⟨rfl, g3⟩)
    | (go_at_call 9; refine (sameWit_any a k f n r _).mono ?_; rintro e w5 ⟨rfl, g5'⟩; have g5 := gg4.trans g5')
    | (go_at_call 11; refine (newCli_any _ (hT.gr g5)).mono ?_; rintro e w6 ⟨rfl, g6'⟩; have g6 := g5.trans g6')
    | (go_at_call 12; refine (rnewCli_any _).mono ?_; rintro e w7 ⟨rfl, g7'⟩; have g7 := g6.trans g7')
    | (go_at_call 10; refine (sameCli_any _ _ _ _).mono ?_; rintro e w8 ⟨rfl, g8'⟩; have g8 := g7.trans g8')
    | (go_at_call 13; refine (nodes_any _ (hT.gr g8)).mono ?_; rintro e w9 ⟨rfl, g9'⟩; have g9 := g8.trans g9'))
  go_ret
  exact ⟨rfl, g9⟩
end Go.Proofs.YtjgkefjocakggaaDoor

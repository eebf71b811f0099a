/-
  The table of the rounds, as the rows list it: what it gives, and a world that holds it. No conditions.
-/
import Derived.Test.YtbhpglhmnpcnkaaDoorBlock
import Derived.Test.YtbhpglhmnpcnkaaDoorCards
import Derived.Test.YtbhpglhmnpcnkaaDoorTie
import Derived.ProofKit
import Derived.Deep.DeepHandedRow
import Derived.Lib.LaidTab
namespace Go.Proofs.YtbhpglhmnpcnkaaDoor
open Go.RowKit Go.ChangeShapes Go.WideShapes Go.ChangeAt
set_option linter.unusedVariables false

theorem gTab : Tryd.prog.globalNamed "cartulary/sum.table" = some 0 := by kernel_rfl
theorem gTabType : (Tryd.prog.globals[0]?).map (·.type) = some 139 := by kernel_rfl
theorem cellsTab : Tryd.prog.cellsOf 139 = 64 := by kernel_rfl
theorem cellsU32 : Tryd.prog.cellsOf 98 = 1 := by kernel_rfl
def kInts : List Int := kTab.map fun x => (x.toNat : Int)
theorem table_of {W : World} (h : laidMetH Tryd.prog [("cartulary/sum.table", Rows.laid_cartulary_sum_table)] W) : TabK W := by
  have ht : Lib.TabIs Tryd.prog W "cartulary/sum.table" .u32 kInts :=
    Lib.tabIs_of_head (rest := []) gTab gTabType Tryd.underlying139 Tryd.underlying98 cellsU32 cellsTab h
  refine ⟨fun i hi => ?_⟩
  have hl : i < kInts.length := by unfold kInts; rw [List.length_map, kTab_len]; exact hi
  have := ht.cell gTab i hl
  rw [this]
  have : i < kTab.length := by rw [kTab_len]; exact hi
  simp [kInts, kAt, u32V, this]

/-- a world for a witness: the settled one, the table holding what its initialiser lays -/
noncomputable def laidWorld (os : Os) : World :=
  { World.holding Tryd.prog os ⟨#[], #[], []⟩ with heap := (World.holding Tryd.prog os ⟨#[], #[], []⟩).heap.modify 0 fun
      | .cells _ t frozen => .cells (kTab.map u32V).toArray t frozen
      | o => o }
end Go.Proofs.YtbhpglhmnpcnkaaDoor

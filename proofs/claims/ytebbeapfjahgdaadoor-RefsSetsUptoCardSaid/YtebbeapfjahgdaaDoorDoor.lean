/-
  The table of the rounds, as the rows list it: what it gives, and a world that holds it. No conditions.
-/
import Derived.Test.YtebbeapfjahgdaaDoorShaL
import Derived.Test.YtebbeapfjahgdaaDoorElems
import Derived.Laws.CopyOwn
import Derived.Laws.Rows
import Derived.Test.YtebbeapfjahgdaaDoorCards
import Derived.Test.YtebbeapfjahgdaaDoorTie
import Derived.ProofKit
import Derived.Deep.DeepHandedRow
import Derived.Lib.LaidTab
namespace Go.Proofs.YtebbeapfjahgdaaDoor
open Go.RowKit Go.ChangeShapes Go.WideShapes Go.ChangeAt
set_option linter.unusedVariables false
theorem cellsU32 : Tryd.prog.cellsOf 62 = 1 := by kernel_rfl
def kInts : List Int := kTab.map fun x => (x.toNat : Int)
/-- the numbers of a listed variable, flat -/
def flatW : Nat → DataW Unit → List Value
  | 0, _ => []
  | _ + 1, .lit (.int k z) => [.int k z]
  | n + 1, .agg xs => xs.flatMap (flatW n)
  | _ + 1, _ => []
noncomputable def laidHeap (l : List (String × DataW Unit)) (h : Array Obj) : Array Obj :=
  l.foldl (fun h x => match Tryd.prog.globalNamed x.1 with
    | some g => h.modify g fun
      | .cells _ t frozen => .cells (flatW 8 x.2).toArray t frozen
      | o => o
    | none => h) h
noncomputable def laidWorld (l : List (String × DataW Unit)) (os : Os) : World :=
  { World.holding Tryd.prog os ⟨#[], #[], []⟩ with heap := laidHeap l (World.holding Tryd.prog os ⟨#[], #[], []⟩).heap }
end Go.Proofs.YtebbeapfjahgdaaDoor

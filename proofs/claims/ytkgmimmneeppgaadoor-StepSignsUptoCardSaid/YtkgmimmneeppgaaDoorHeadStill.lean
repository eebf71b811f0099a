/-
  A region that draws its order, whose first operations are in one forced order (and may hold calls that make memory), and whose
  others only read, in the world that these leave.
-/
import Derived.Test.YtkgmimmneeppgaaDoorBRow
import Derived.StillTailTactics
import Derived.Deep.QuietTactic
import Derived.BigQuiet
namespace Go.Proofs.YtkgmimmneeppgaaDoor
open Go.RowKit
set_option linter.unusedVariables false
/-- a post that goes on, in the place of 'normal' -/
def OnQ (K : Act → World → Prop) (Q : Exit → Act → World → Prop) : Exit → Act → World → Prop
  | .normal, a, w => K a w
  | e, a, w => Q e a w
theorem OnQ.out {K : Act → World → Prop} {Q : Exit → Act → World → Prop} (e : Exit) (a : Act) (w : World) (h : e ≠ .normal) (hh : OnQ K Q e a w) : Q e a w := by
  cases e <;> first | exact absurd rfl h | exact hh

end Go.Proofs.YtkgmimmneeppgaaDoor

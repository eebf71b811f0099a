/-
  head.Empty, cartularyref.NoHead, SameDisk, SameSteps, SameRefs (of nothing), SameWitness, SameClient, NewWitness, NewClient by their contracts.
-/
import Derived.Test.YtkgmimmneeppgaaDoorAgg
namespace Go.Proofs.YtkgmimmneeppgaaDoor
open Go.RowKit
set_option linter.unusedVariables false
theorem A.head : AggOk 26 2 := ⟨⟨_, Tryd.underlying26, rfl⟩, by kernel_rfl⟩
def headC (n : Int) (r : List UInt8) : Array Value := #[.int .i64 n, .string (bs r)]

theorem headC_one (n : Int) (r : List UInt8) : (headC n r).all (·.oneCell') = true := by simp [headC, Value.oneCell']

end Go.Proofs.YtkgmimmneeppgaaDoor

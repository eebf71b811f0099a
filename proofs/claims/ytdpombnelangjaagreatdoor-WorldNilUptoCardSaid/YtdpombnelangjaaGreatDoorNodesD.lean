/-
  head.Empty, cartularyref.NoHead, SameDisk, SameSteps, SameRefs (of nothing), SameWitness, SameClient, NewWitness, NewClient by their contracts.
-/
import Derived.Test.YtdpombnelangjaaGreatDoorAgg
namespace Go.Proofs.YtdpombnelangjaaGreatDoor
open Go.RowKit
set_option linter.unusedVariables false
theorem A.head : AggOk 24 2 := ⟨⟨_, Tryz.underlying24, rfl⟩, by kernel_rfl⟩
theorem A.disk : AggOk 36 2 := ⟨⟨_, Tryz.underlying36, rfl⟩, by kernel_rfl⟩
theorem A.wit : AggOk 38 6 := ⟨⟨_, Tryz.underlying38, rfl⟩, by kernel_rfl⟩
theorem A.cli : AggOk 60 6 := ⟨⟨_, Tryz.underlying60, rfl⟩, by kernel_rfl⟩
def headC (n : Int) (r : List UInt8) : Array Value := #[.int .i64 n, .string (bs r)]

theorem headC_one (n : Int) (r : List UInt8) : (headC n r).all (·.oneCell') = true := by simp [headC, Value.oneCell']

end Go.Proofs.YtdpombnelangjaaGreatDoor

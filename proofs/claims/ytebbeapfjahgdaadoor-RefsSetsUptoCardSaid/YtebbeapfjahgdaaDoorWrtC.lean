/-
  wire.Writer by its contracts: what was put, what went wrong.
-/
import Derived.Test.YtebbeapfjahgdaaDoorElems
import Derived.Lib.AppendStr
namespace Go.Proofs.YtebbeapfjahgdaaDoor
open Go.RowKit
/-- blocks of cells of another type than byte, other than g, are as they were -/
def KeepT (g : Nat) (w w' : World) : Prop := ∀ k cs t, k ≠ g → t ≠ 5 → Blk w k t cs → Blk w' k t cs

theorem KeepT.refl (g : Nat) (w : World) : KeepT g w w := fun _ _ _ _ _ h => h
theorem KeepT.trans {g : Nat} {a b c : World} (h : KeepT g a b) (k : KeepT g b c) : KeepT g a c := fun i cs t h1 h2 h3 => k i cs t h1 h2 (h i cs t h1 h2 h3)
theorem KeepT.gr {g : Nat} {a b : World} (h : Gr a b) : KeepT g a b := fun _ _ _ _ _ h3 => h3.gr h

end Go.Proofs.YtebbeapfjahgdaaDoor

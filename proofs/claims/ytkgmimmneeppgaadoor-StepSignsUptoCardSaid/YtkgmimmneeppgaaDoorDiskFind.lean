/-
  disk.find by its contract: slices.BinarySearchFunc over the files of a good disk.
-/
import Derived.Test.YtkgmimmneeppgaaDoorDiskA
import Derived.Deep.RegionHeld3
import Derived.Test.YtkgmimmneeppgaaDoorHeadStill
namespace Go.Proofs.YtkgmimmneeppgaaDoor
open Go.RowKit
set_option linter.unusedVariables false
abbrev SortedF (fs : List Fl) : Prop := fs.Pairwise (fun f g => ltB f.1 g.1 = true)
theorem SortedF.get {fs : List Fl} (h : SortedF fs) {i j : Nat} (hj : j < fs.length) (hij : i < j) : ltB (fs[i]'(by omega)).1 fs[j].1 = true :=
  List.pairwise_iff_getElem.1 h i j (by omega) hj hij
theorem SortedF.below {fs : List Fl} (h : SortedF fs) {name : List UInt8} {i j : Nat} (hj : j < fs.length) (hij : i ≤ j) (hl : ltB fs[j].1 name = true) : ltB (fs[i]'(by omega)).1 name = true := by
  rcases Nat.lt_or_eq_of_le hij with h1 | rfl
  · exact ltB_trans _ _ _ (h.get hj h1) hl
  · exact hl
end Go.Proofs.YtkgmimmneeppgaaDoor

/-
  ref.Crash by its contract.
-/
import Derived.Test.YtmgpllakpgjicaaDoorDiskCrash
namespace Go.Proofs.YtmgpllakpgjicaaDoor
open Go.RowKit
set_option linter.unusedVariables false
theorem Row.lit {w : World} {g : Nat} {t : TypeId} {cs : Array Value} (h : Blk w g t cs) : Row w cs.size (some ⟨g, 0, none⟩) 1 cs.toList :=
  ⟨by simp, fun _ => ⟨g, 0, rfl, fun i v hv => by rw [Nat.zero_add, h.cell]; simpa using hv⟩⟩
theorem map_succ (K i : Nat) (fs : List Fl) (h : i < fs.length) : ((fs.take (i + 1)).map (crashF K)).flatMap fileC = ((fs.take i).map (crashF K)).flatMap fileC ++ fileC (crashF K fs[i]) := by
  rw [List.take_succ_eq_append_getElem h, List.map_append, List.flatMap_append]
  simp

end Go.Proofs.YtmgpllakpgjicaaDoor

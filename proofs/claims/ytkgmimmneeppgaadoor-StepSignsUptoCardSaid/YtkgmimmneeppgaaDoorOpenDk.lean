/-
  How a disk, an argument by value, is opened. No conditions: a library text.
-/
import Derived.Test.YtkgmimmneeppgaaDoorOpen
import Derived.Test.YtkgmimmneeppgaaDoorDiskA
namespace Go.Proofs.YtkgmimmneeppgaaDoor
set_option maxRecDepth 100000
open Go.RowKit Go.ChangeShapes Go.WideShapes
theorem open_structD_arg {w : World} {r : Reach} {base : Nat} {t : TypeId} {fs : Array Field} (ht : Tryd.prog.underlying t = some (.struct fs)) {k : Nat} {α : Type} {R : List Value → α → Prop} {sz : α → Nat} (h : Opens w t k R sz) {H : Type} {enc : TypeId × Value → H} {v : Value} {d : DataW H} {p : List MemPlace}
    (hv : Value.okWide Tryd.prog w r base t v) (hd : DataW.Trod enc Tryd.prog w 0 (fun _ => true) true t v d p) : ∃ cs a, v = .agg cs ∧ R cs.toList a ∧ sz a ≤ Rows.uptoBulk d := by
  obtain ⟨cs, rfl, _⟩ := okWide_struct ht hv
  obtain ⟨a, ha, hs, _⟩ := open_arg h hd
  exact ⟨cs, a, rfl, by simpa [Value.cells] using ha, hs⟩
end Go.Proofs.YtkgmimmneeppgaaDoor

/-
  Append of one element of one cell, and where the new slice lies. No conditions: a library text.
-/
import Derived.Test.YtmgpllakpgjicaaDoorBRow
import Derived.Deep.AppendLies
namespace Go.Proofs.YtmgpllakpgjicaaDoor
open Go.RowKit
set_option linter.unusedVariables false
theorem BRow.grown {w w' : World} {B g cap : Nat} {row : Option Nat} {l : List UInt8} (h : BRow w B g cap l) (hg : w.grownBy w' row) (hne : row ≠ some g) : BRow w' B g cap l := by
  have hb : w'.heap[g]? = w.heap[g]? := hg.block g h.lt (fun e => hne e.symm)
  exact ⟨h.base, Nat.lt_of_lt_of_le h.lt hg.size, h.le, h.max, fun j hj => by rw [World.cell?_of_block (a := ⟨g, j, none⟩) hb, World.frozen?_of_block (a := ⟨g, j, none⟩) hb]; exact h.there j hj, fun j u hu => by rw [World.cell?_of_block (a := ⟨g, j, none⟩) hb]; exact h.at_ j u hu⟩
end Go.Proofs.YtmgpllakpgjicaaDoor

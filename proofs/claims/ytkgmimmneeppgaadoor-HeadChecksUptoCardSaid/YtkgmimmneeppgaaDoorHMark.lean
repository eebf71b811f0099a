/-
  head.Mark, cartularyref.MarkHead by their contracts.
-/
import Derived.Test.YtkgmimmneeppgaaDoorHeads
import Derived.Test.YtkgmimmneeppgaaDoorRSeal
namespace Go.Proofs.YtkgmimmneeppgaaDoor
set_option maxRecDepth 100000
open Go.RowKit
set_option linter.unusedVariables false
def hd4 : List UInt8 := [104, 101, 97, 100]
theorem hdTxt_len (n : Int) (r : List UInt8) : (hdTxt n r).1.length ≤ 64 := by
  unfold hdTxt
  split
  · rename_i hE
    obtain ⟨h0, h1, h2⟩ := hdE_zero hE
    have hnl : (numS n).length ≤ 9 := by rw [numS_in h0 (by omega)]; exact num_len9 (by omega)
    simp only [List.length_append]
    omega
  · simp

end Go.Proofs.YtkgmimmneeppgaaDoor

/-
  The walk of cartularylaw.Names: it returns true.
-/
import Derived.Test.YtkabioogfcbkmaaBase
namespace Go.Proofs.Ytkabioogfcbkmaa
open Go.RowKit

theorem names_walk (w : World) :
    Calls Try.prog 3 #[] w fun e w' => e = .returned (.bool true) ∧ Gr w w' := by
  go_enter Try.func3, Try.ntmps3
  go_wp2
  go_ret
  exact ⟨rfl, Gr.refl _⟩
end Go.Proofs.Ytkabioogfcbkmaa

/-
  cartularylaw.SumSums: the walk.
-/
import Derived.Test.YtojiheelacmniaaDoorHex
import Derived.Test.YtojiheelacmniaaDoorRSumS
namespace Go.Proofs.YtojiheelacmniaaDoor
open Go.RowKit
set_option linter.unusedVariables false

set_option maxRecDepth 100000 in
set_option maxHeartbeats 1000000 in
theorem sumSums_walk (b : List UInt8) (W : World) (hb : b.length ≤ 1048576) (hT : TabK W) :
    Calls Tryd.prog 3 #[.string (bs b)] W fun e w' => e = .returned (.bool true) ∧ Gr W w' := by
  go_enter Tryd.func3, Tryd.ntmps3
  go_wp2_with (first
    | (go_at_call 7; refine (sum_any b _ hT (by omega)).mono ?_; rintro e w1 ⟨rfl, g1⟩)
    | (go_at_call 8; refine (rsum_any b _ (by omega)).mono ?_; rintro e w2 ⟨rfl, g2'⟩; have g2 := g1.trans g2')
    | (go_at_call 9; refine (sums_any _ (hT.gr g2)).mono ?_; rintro e w3 ⟨rfl, g3'⟩; have g3 := g2.trans g3'))
  go_ret
  exact ⟨rfl, g3⟩
end Go.Proofs.YtojiheelacmniaaDoor

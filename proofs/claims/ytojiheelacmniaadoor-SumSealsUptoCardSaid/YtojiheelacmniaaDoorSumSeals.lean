/-
  cartularylaw.SumSeals: the walk.
-/
import Derived.Test.YtojiheelacmniaaDoorRSeal
namespace Go.Proofs.YtojiheelacmniaaDoor
open Go.RowKit
set_option linter.unusedVariables false

set_option maxRecDepth 100000 in
set_option maxHeartbeats 1000000 in
theorem sumSeals_walk (key b : List UInt8) (W : World) (hk : key.length ≤ 1048576) (hb : b.length ≤ 1048576) (hT : TabK W) :
    Calls Tryd.prog 5 #[.string (bs key), .string (bs b)] W fun e w' => e = .returned (.bool true) ∧ Gr W w' := by
  go_enter Tryd.func5, Tryd.ntmps5
  go_wp2_with (first
    | (go_at_call 18; refine (seal_any key b _ hT (by omega) (by omega)).mono ?_; rintro e w1 ⟨rfl, g1⟩)
    | (go_at_call 19; refine (rseal_any key b _ (by omega) (by omega)).mono ?_; rintro e w2 ⟨rfl, g2'⟩; have g2 := g1.trans g2')
    | (go_at_call 9; refine (sums_any _ (hT.gr g2)).mono ?_; rintro e w3 ⟨rfl, g3'⟩; have g3 := g2.trans g3'))
  go_ret
  exact ⟨rfl, g3⟩
end Go.Proofs.YtojiheelacmniaaDoor

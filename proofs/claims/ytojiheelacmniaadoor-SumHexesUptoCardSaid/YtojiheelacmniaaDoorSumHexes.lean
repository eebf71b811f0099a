/-
  cartularylaw.SumHexes: the walk.
-/
import Derived.Test.YtojiheelacmniaaDoorRUnhex
namespace Go.Proofs.YtojiheelacmniaaDoor
open Go.RowKit
set_option linter.unusedVariables false

set_option maxRecDepth 100000 in
set_option maxHeartbeats 1000000 in
theorem sumHexes_walk (s : List UInt8) (W : World) (hs : s.length ≤ 1048576) (hT : TabK W) :
    Calls Tryd.prog 6 #[.string (bs s)] W fun e w' => e = .returned (.bool true) ∧ Gr W w' := by
  have U1 := fun w => unhex_any s w (by omega)
  have U2 := fun w => runhex_any s w (by omega)
  rcases hu : unhex s with _ | o
  · rw [hu] at U1 U2
    unfold uhV at U1 U2
    have V1 := sec U1
    have V2 := sec U2
    clear U1 U2 hu
    go_enter Tryd.func6, Tryd.ntmps6
    go_wp2_with (first
      | (go_at_call 20; refine Calls.mono (V1.out _) ?_; rintro e w1 ⟨rfl, g1⟩)
      | (go_at_call 21; refine Calls.mono (V2.out _) ?_; rintro e w2 ⟨rfl, g2'⟩; have g2 := g1.trans g2')
      | (go_at_call 22; refine (hex_any s _ (by omega)).mono ?_; rintro e w3 ⟨rfl, g3'⟩; have g3 := g2.trans g3')
      | (go_at_call 23; refine (rhex_any s _ (by omega)).mono ?_; rintro e w4 ⟨rfl, g4'⟩; have g4 := g3.trans g4')
      | (go_at_call 9; refine (sums_any _ (hT.gr g4)).mono ?_; rintro e w5 ⟨rfl, g5'⟩; have g5 := g4.trans g5'))
    go_ret
    exact ⟨rfl, g5⟩
  · rw [hu] at U1 U2
    unfold uhV at U1 U2
    have V1 := sec U1
    have V2 := sec U2
    clear U1 U2 hu
    go_enter Tryd.func6, Tryd.ntmps6
    go_wp2_with (first
      | (go_at_call 20; refine Calls.mono (V1.out _) ?_; rintro e w1 ⟨rfl, g1⟩)
      | (go_at_call 21; refine Calls.mono (V2.out _) ?_; rintro e w2 ⟨rfl, g2'⟩; have g2 := g1.trans g2')
      | (go_at_call 22; refine (hex_any s _ (by omega)).mono ?_; rintro e w3 ⟨rfl, g3'⟩; have g3 := g2.trans g3')
      | (go_at_call 23; refine (rhex_any s _ (by omega)).mono ?_; rintro e w4 ⟨rfl, g4'⟩; have g4 := g3.trans g4')
      | (go_at_call 9; refine (sums_any _ (hT.gr g4)).mono ?_; rintro e w5 ⟨rfl, g5'⟩; have g5 := g4.trans g5'))
    go_ret
    exact ⟨rfl, g5⟩
end Go.Proofs.YtojiheelacmniaaDoor

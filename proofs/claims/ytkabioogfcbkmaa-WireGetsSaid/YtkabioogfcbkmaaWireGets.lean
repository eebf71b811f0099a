/-
  The walk of cartularylaw.WireGets: it returns true.
-/
import Derived.Test.YtkabioogfcbkmaaGetT
namespace Go.Proofs.Ytkabioogfcbkmaa
open Go.RowKit

set_option maxRecDepth 100000 in
set_option maxHeartbeats 1000000 in
theorem wireGets_walk (l : List UInt8) (w : World) (hl : l.length ≤ 140737488351232) :
    Calls Try.prog 6 #[.string (bs l)] w fun e w' => e = .returned (.bool true) ∧ Gr w w' := by
  go_enter Try.func6, Try.ntmps6
  go_wp2_with (first
    | (go_at_call 18; refine (wget_any _ _ (by omega)).mono ?_; rintro e w1 ⟨rfl, rfl⟩)
    | (go_at_call 19; refine (rget_any _ _ (by omega)).mono ?_; rintro e w2 ⟨rfl, g2⟩)
    | (go_at_call 20; refine (wgett_any _ _ (by omega)).mono ?_; rintro e w3 ⟨rfl, rfl⟩)
    | (go_at_call 21; refine (rgett_any _ _ (by omega)).mono ?_; rintro e w4 ⟨rfl, g4⟩)
    | (go_at_call 12; refine (puts_any _).mono ?_; rintro e w5 ⟨rfl, g5⟩))
  go_ret
  refine ⟨rfl, ?_⟩
  repeat (first | exact Gr.refl _ | assumption | refine Gr.trans ?_ (by assumption))
end Go.Proofs.Ytkabioogfcbkmaa

/-
  merkle.half, Leaf, Node, cartularyref.parting, Leaf, Two by their contracts.
-/
import Derived.Test.YtoamnifnfkgbiaaGreatDoorMerkL
import Derived.Test.YtoamnifnfkgbiaaGreatDoorSumS
import Derived.Test.YtoamnifnfkgbiaaGreatDoorRSumS
import Derived.Test.YtoamnifnfkgbiaaGreatDoorMerkC
namespace Go.Proofs.YtoamnifnfkgbiaaGreatDoor
open Go.RowKit
set_option linter.unusedVariables false
set_option maxHeartbeats 1000000 in
theorem rtwo_any (a b : List UInt8) (w : World) (ha : a.length ≤ 1099511627776) (hb : b.length ≤ 1099511627776) :
    Calls Tryz.prog 138 #[.string (bs a), .string (bs b)] w fun e w' => e = .returned (.string (bs (nodeH a b))) ∧ Gr w w' := by
  have HF : Sec (nodeH a b = sha ([1] ++ a ++ b)) := sec rfl
  have HL : Sec (([1] ++ a ++ b : List UInt8).length ≤ 576460752303423488) := sec (by simp; omega)
  have h63 : ¬ 9223372036854775807 < 1 + a.length := by omega
  have h64 : ¬ 9223372036854775807 < 1 + a.length + b.length := by omega
  go_enter Tryz.func138, Tryz.ntmps138
  go_wp2_with (go_at_call 57; refine (rsum_any ([1] ++ a ++ b) _ HL.out).mono ?_; rintro e w1 ⟨rfl, g1⟩)
  go_ret
  exact ⟨by rw [HF.out]; rfl, g1⟩


end Go.Proofs.YtoamnifnfkgbiaaGreatDoor

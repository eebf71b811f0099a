/-
  merkle.half, Leaf, Node, cartularyref.parting, Leaf, Two by their contracts.
-/
import Derived.Test.YtoamnifnfkgbiaaGreatDoorMerkL
import Derived.Test.YtoamnifnfkgbiaaGreatDoorSumS
import Derived.Test.YtoamnifnfkgbiaaGreatDoorRSumS
import Derived.Test.YtoamnifnfkgbiaaGreatDoorMerkC
import Derived.Test.YtoamnifnfkgbiaaGreatDoorMerkT
namespace Go.Proofs.YtoamnifnfkgbiaaGreatDoor
open Go.RowKit
set_option linter.unusedVariables false
set_option maxHeartbeats 1000000 in
theorem rleaf_any (s : List UInt8) (w : World) (hs : s.length ≤ 1099511627776) :
    Calls Tryz.prog 137 #[.string (bs s)] w fun e w' => e = .returned (.string (bs (leafH s))) ∧ Gr w w' := by
  have HF : Sec (leafH s = sha ([0] ++ s)) := sec rfl
  have HL : Sec (([0] ++ s : List UInt8).length ≤ 576460752303423488) := sec (by simp; omega)
  have h63 : ¬ 9223372036854775807 < 1 + s.length := by omega
  go_enter Tryz.func137, Tryz.ntmps137
  go_wp2_with (go_at_call 57; refine (rsum_any ([0] ++ s) _ HL.out).mono ?_; rintro e w1 ⟨rfl, g1⟩)
  go_ret
  exact ⟨by rw [HF.out]; rfl, g1⟩
end Go.Proofs.YtoamnifnfkgbiaaGreatDoor

/-
  Heads as bytes, a witness that wakes, and law.NodeWakes' walk: contracts and plain facts.
-/
import Derived.Test.YtkgmimmneeppgaaDoorRdr
import Derived.Test.YtkgmimmneeppgaaDoorNodesD
import Derived.Test.YtkgmimmneeppgaaDoorDiskFind
import Derived.Test.YtkgmimmneeppgaaDoorSumS
import Derived.Test.YtkgmimmneeppgaaDoorRSumS
import Derived.Deep.RegionHeld3
import Derived.Test.YtkgmimmneeppgaaDoorNodes
import Derived.Test.YtkgmimmneeppgaaDoorDiskRCrash
import Derived.Deep.RegionWith
import Derived.Test.YtkgmimmneeppgaaDoorOpenDk
namespace Go.Proofs.YtkgmimmneeppgaaDoor
open Go.RowKit
set_option linter.unusedVariables false
/-- what is wrong with a head -/
def hdE (n : Int) (r : List UInt8) : Int := if n < 0 ∨ 200 < n then 3 else if r.length = 32 then 0 else 2
end Go.Proofs.YtkgmimmneeppgaaDoor
namespace Go.Proofs.YtkgmimmneeppgaaDoor
open Go.RowKit
set_option linter.unusedVariables false
set_option maxRecDepth 100000 in
set_option maxHeartbeats 2000000 in
theorem hgood_any (n : Int) (r : List UInt8) (w : World) (hr : r.length ≤ 1152921504606846976) :
    Calls Tryd.prog 61 #[.agg (headC n r)] w fun e w' => e = .returned (.int .i64 (hdE n r)) ∧ Gr w w' := by
  unfold headC
  by_cases h0 : n < 0
  · have HE : Sec (hdE n r = 3) := sec (by unfold hdE; rw [if_pos (.inl h0)])
    rw [HE.out]
    go_enter Tryd.func61, Tryd.ntmps61
    go_wp2_with fail
    go_ret
    exact ⟨rfl, (Gr.refl w).alloc _⟩
  · by_cases h1 : 200 < n
    · have HE : Sec (hdE n r = 3) := sec (by unfold hdE; rw [if_pos (.inr h1)])
      rw [HE.out]
      go_enter Tryd.func61, Tryd.ntmps61
      go_wp2_with fail
      go_ret
      exact ⟨rfl, (Gr.refl w).alloc _⟩
    · by_cases h2 : r.length = 32
      · have HE : Sec (hdE n r = 0) := sec (by unfold hdE; rw [if_neg (by omega), if_pos h2])
        rw [HE.out]
        have h3 : ¬ ¬ (r.length : Int) = 32 := by omega
        go_enter Tryd.func61, Tryd.ntmps61
        go_wp2_with fail
        go_ret
        exact ⟨rfl, (Gr.refl w).alloc _⟩
      · have HE : Sec (hdE n r = 2) := sec (by unfold hdE; rw [if_neg (by omega), if_neg h2])
        rw [HE.out]
        have h3 : ¬ (r.length : Int) = 32 := by omega
        go_enter Tryd.func61, Tryd.ntmps61
        go_wp2_with fail
        go_ret
        exact ⟨rfl, (Gr.refl w).alloc _⟩
set_option maxRecDepth 100000 in
set_option maxHeartbeats 2000000 in
theorem rhgood_any (n : Int) (r : List UInt8) (w : World) (hr : r.length ≤ 1152921504606846976) :
    Calls Tryd.prog 63 #[.agg (headC n r)] w fun e w' => e = .returned (.int .i64 (hdE n r)) ∧ Gr w w' := by
  unfold headC
  by_cases h0 : n < 0
  · have HE : Sec (hdE n r = 3) := sec (by unfold hdE; rw [if_pos (.inl h0)])
    rw [HE.out]
    go_enter Tryd.func63, Tryd.ntmps63
    go_wp2_with fail
    go_ret
    exact ⟨rfl, (Gr.refl w).alloc _⟩
  · by_cases h1 : 200 < n
    · have HE : Sec (hdE n r = 3) := sec (by unfold hdE; rw [if_pos (.inr h1)])
      rw [HE.out]
      go_enter Tryd.func63, Tryd.ntmps63
      go_wp2_with fail
      go_ret
      exact ⟨rfl, (Gr.refl w).alloc _⟩
    · by_cases h2 : r.length = 32
      · have HE : Sec (hdE n r = 0) := sec (by unfold hdE; rw [if_neg (by omega), if_pos h2])
        rw [HE.out]
        have h3 : ¬ ¬ (r.length : Int) = 32 := by omega
        go_enter Tryd.func63, Tryd.ntmps63
        go_wp2_with fail
        go_ret
        exact ⟨rfl, (Gr.refl w).alloc _⟩
      · have HE : Sec (hdE n r = 2) := sec (by unfold hdE; rw [if_neg (by omega), if_neg h2])
        rw [HE.out]
        have h3 : ¬ (r.length : Int) = 32 := by omega
        go_enter Tryd.func63, Tryd.ntmps63
        go_wp2_with fail
        go_ret
        exact ⟨rfl, (Gr.refl w).alloc _⟩
end Go.Proofs.YtkgmimmneeppgaaDoor
namespace Go.Proofs.YtkgmimmneeppgaaDoor
open Go.RowKit
set_option linter.unusedVariables false
end Go.Proofs.YtkgmimmneeppgaaDoor
namespace Go.Proofs.YtkgmimmneeppgaaDoor
open Go.RowKit
set_option linter.unusedVariables false
end Go.Proofs.YtkgmimmneeppgaaDoor
namespace Go.Proofs.YtkgmimmneeppgaaDoor
open Go.RowKit
set_option linter.unusedVariables false
end Go.Proofs.YtkgmimmneeppgaaDoor
namespace Go.Proofs.YtkgmimmneeppgaaDoor
open Go.RowKit
set_option linter.unusedVariables false
end Go.Proofs.YtkgmimmneeppgaaDoor
namespace Go.Proofs.YtkgmimmneeppgaaDoor
open Go.RowKit
set_option linter.unusedVariables false
end Go.Proofs.YtkgmimmneeppgaaDoor
namespace Go.Proofs.YtkgmimmneeppgaaDoor
set_option maxRecDepth 100000
open Go.RowKit Go.ChangeShapes Go.WideShapes
set_option linter.unusedVariables false
theorem opens_headD (w : World) : Opens w 26 2 (fun cs (x : Int × List UInt8) => cs = [.int .i64 x.1, .string (bs x.2)] ∧ -9223372036854775808 ≤ x.1 ∧ x.1 ≤ 9223372036854775807) (fun x => x.2.length) :=
  (opens_struct Tryd.underlying26 (by kernel_rfl) (opensF_cons rfl (opens_int Tryd.underlying3 (by kernel_rfl) w) (opensF_cons rfl (opens_string Tryd.underlying9 (by kernel_rfl) w) (opensF_nil w 2)))).map
    (fun a => (a.1, a.2.1)) (by
      rintro cs ⟨n, r, _⟩ ⟨c1, c2, rfl, _, h1, d1, d2, rfl, _, h2, h3⟩
      obtain ⟨h1, h1'⟩ := h1
      simp only [strR] at h1 h2
      simp only [nilR] at h3
      subst h1
      subst h2
      subst h3
      exact ⟨rfl, h1'⟩) (by intro a; simp only; omega)
end Go.Proofs.YtkgmimmneeppgaaDoor
namespace Go.Proofs.YtkgmimmneeppgaaDoor
set_option maxRecDepth 100000
open Go.RowKit
set_option linter.unusedVariables false
end Go.Proofs.YtkgmimmneeppgaaDoor

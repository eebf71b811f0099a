/-
  wire.PutText, cartularyref.Text, cartularylaw.puts by their contracts.
-/
import Derived.Test.YtmgpllakpgjicaaNumber
import Derived.Test.YtmgpllakpgjicaaWireN
namespace Go.Proofs.Ytmgpllakpgjicaa
open Go.RowKit
theorem text_any (t : List UInt8) (w : World) (ht : t.length ≤ 1152921504606846976) :
    Calls Try.prog 18 #[.string (bs t)] w fun e w' => e = .returned (.string (bs (txt t))) ∧ Gr w w' := by
  have hl := num_len9 (n := t.length) (by omega)
  have e1 := numS_nat (n := t.length) (by omega)
  have E1 := sec e1
  clear e1
  go_enter Try.func18, Try.ntmps18
  go_wp2_with (go_at_call 17; refine (number_any _ _).mono ?_; rintro e w1 ⟨rfl, g1⟩; rw [E1.out])
  go_ret
  exact ⟨rfl, g1⟩

end Go.Proofs.Ytmgpllakpgjicaa

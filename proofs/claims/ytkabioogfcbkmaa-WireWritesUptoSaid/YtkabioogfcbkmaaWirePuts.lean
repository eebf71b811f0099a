/-
  The walk of cartularylaw.WirePuts: it returns true.
-/
import Derived.Test.YtkabioogfcbkmaaWireA
namespace Go.Proofs.Ytkabioogfcbkmaa
open Go.RowKit

theorem num_ne (k : Nat) : num k ≠ [] := fun h => by have := num_pos k; rw [h] at this; simp at this

set_option maxHeartbeats 1000000 in
theorem wirePuts_walk (b : List UInt8) (n : Int) (t : List UInt8) (w : World) (hb : b.length ≤ 140737488351232) (_hn : -9223372036854775808 ≤ n ∧ n ≤ 9223372036854775807) (ht : t.length ≤ 140737488351232) :
    Calls Try.prog 4 #[.string (bs b), .int .i64 n, .string (bs t)] w fun e w' => e = .returned (.bool true) ∧ Gr w w' := by
  have hl := num_len9 (n := t.length) (by omega)
  have hx : (txt t).length = (num t.length).length + t.length := by simp [txt]
  have hx' : (txt t).length ≤ 140737488355337 := by omega
  clear hx hl _hn
  by_cases hn : 0 ≤ n ∧ n < 4611686018427387904
  · have hN := numS_in hn.1 hn.2
    have HN := sec hN
    clear hN
    have hne := num_ne n.toNat
    have hl := num_len9 (n := n.toNat) (by omega)
    by_cases hlong : 4096 < t.length
    all_goals
      go_enter Try.func4, Try.ntmps4
      go_wp2_with (first
        | (go_at_call 9; refine (put_ok b _ _ (by omega) (by omega) (by omega)).mono ?_; rintro e w1 ⟨rfl, g1⟩)
        | (go_at_call 10; refine (number_any _ _).mono ?_; rintro e w2 ⟨rfl, g2⟩; rw [HN.out])
        | (go_at_call 11; first | (refine (puttext_ok _ _ _ (by omega) (by omega)).mono ?_; rintro e w3 ⟨rfl, g3⟩) | (refine (puttext_long _ _ _ (by omega)).mono ?_; rintro e w3 ⟨rfl, rfl⟩))
        | (go_at_call 13; refine (text_any _ _ (by omega)).mono ?_; rintro e w4 ⟨rfl, g4⟩)
        | (go_at_call 12; refine (puts_any _).mono ?_; rintro e w5 ⟨rfl, g5⟩))
      go_ret
      refine ⟨rfl, ?_⟩
      repeat (first | exact Gr.refl _ | assumption | refine Gr.trans ?_ (by assumption))
  · have hN := numS_out (n := n) (by omega)
    have HN := sec hN
    clear hN
    by_cases hlong : 4096 < t.length
    all_goals
      go_enter Try.func4, Try.ntmps4
      go_wp2_with (first
        | (go_at_call 9; refine (put_err b _ _ (by omega)).mono ?_; rintro e w1 ⟨rfl, rfl⟩)
        | (go_at_call 10; refine (number_any _ _).mono ?_; rintro e w2 ⟨rfl, g2⟩; rw [HN.out])
        | (go_at_call 11; first | (refine (puttext_ok _ _ _ (by omega) (by omega)).mono ?_; rintro e w3 ⟨rfl, g3⟩) | (refine (puttext_long _ _ _ (by omega)).mono ?_; rintro e w3 ⟨rfl, rfl⟩))
        | (go_at_call 13; refine (text_any _ _ (by omega)).mono ?_; rintro e w4 ⟨rfl, g4⟩)
        | (go_at_call 12; refine (puts_any _).mono ?_; rintro e w5 ⟨rfl, g5⟩))
      go_ret
      refine ⟨rfl, ?_⟩
      repeat (first | exact Gr.refl _ | assumption | refine Gr.trans ?_ (by assumption))
end Go.Proofs.Ytkabioogfcbkmaa

/-
  wire.PutText, cartularyref.Text, cartularylaw.puts by their contracts.
-/
import Derived.Test.YtoamnifnfkgbiaaGreatDoorNumber
namespace Go.Proofs.YtoamnifnfkgbiaaGreatDoor
open Go.RowKit
/-- P2.1: a number's bytes; none where it has none -/
def numS (n : Int) : List UInt8 := if 0 ≤ n ∧ n < 4611686018427387904 then num n.toNat else []
theorem numS_in {n : Int} (h0 : 0 ≤ n) (h1 : n < 4611686018427387904) : numS n = num n.toNat := if_pos ⟨h0, h1⟩
theorem numS_nat {n : Nat} (h1 : n < 4611686018427387904) : numS n = num n := by rw [numS_in (by omega) (by omega)]; simp
theorem numS_out {n : Int} (h : n < 0 ∨ 4611686018427387904 ≤ n) : numS n = [] := if_neg (by omega)
/-- P2.1: a text's bytes -/
def txt (l : List UInt8) : List UInt8 := num l.length ++ l

theorem number_any (n : Int) (w : World) :
    Calls Tryz.prog 133 #[.int .i64 n] w fun e w' => e = .returned (.string (bs (numS n))) ∧ Gr w w' := by
  by_cases h : 0 ≤ n ∧ n < 4611686018427387904
  · rw [numS_in h.1 h.2]; exact number_ok (n.toNat + 1) n w (by omega) h.1 h.2
  · rw [numS_out (by omega)]; exact number_out n w (by omega)

theorem puttext_ok (b t : List UInt8) (w : World) (hb : b.length ≤ 1152921504606846976) (ht : t.length ≤ 4096) :
    Calls Tryz.prog 203 #[.string (bs b), .string (bs t)] w fun e w' => e = .returned (.tuple #[.string (bs (b ++ txt t)), .int .i64 0]) ∧ Gr w w' := by
  have hl := num_len9 (n := t.length) (by omega)
  go_enter Tryz.func203, Tryz.ntmps203
  go_wp2_with (go_at_call 204; refine (put_ok b _ _ (by omega) (by omega) hb).mono ?_; rintro e w1 ⟨rfl, g1⟩; rw [Int.toNat_natCast])
  go_ret2
  exact ⟨by simp [txt], g1⟩

theorem puttext_long (b t : List UInt8) (w : World) (ht : 4096 < t.length) :
    Calls Tryz.prog 203 #[.string (bs b), .string (bs t)] w fun e w' => e = .returned (.tuple #[.string (bs []), .int .i64 1]) ∧ w = w' := by
  go_enter Tryz.func203, Tryz.ntmps203
  go_wp2
  go_ret2
  exact ⟨rfl, rfl⟩

end Go.Proofs.YtoamnifnfkgbiaaGreatDoor

/-
  wire.PutText, cartularyref.Text, cartularylaw.puts by their contracts.
-/
import Derived.Test.YtkabioogfcbkmaaNumber
namespace Go.Proofs.Ytkabioogfcbkmaa
open Go.RowKit

/-- P2.1: a number's bytes; none where it has none -/
def numS (n : Int) : List UInt8 := if 0 ≤ n ∧ n < 4611686018427387904 then num n.toNat else []
theorem numS_in {n : Int} (h0 : 0 ≤ n) (h1 : n < 4611686018427387904) : numS n = num n.toNat := if_pos ⟨h0, h1⟩
theorem numS_nat {n : Nat} (h1 : n < 4611686018427387904) : numS n = num n := by rw [numS_in (by omega) (by omega)]; simp
theorem numS_out {n : Int} (h : n < 0 ∨ 4611686018427387904 ≤ n) : numS n = [] := if_neg (by omega)
/-- P2.1: a text's bytes -/
def txt (l : List UInt8) : List UInt8 := num l.length ++ l

theorem number_any (n : Int) (w : World) :
    Calls Try.prog 10 #[.int .i64 n] w fun e w' => e = .returned (.string (bs (numS n))) ∧ Gr w w' := by
  by_cases h : 0 ≤ n ∧ n < 4611686018427387904
  · rw [numS_in h.1 h.2]; exact number_ok (n.toNat + 1) n w (by omega) h.1 h.2
  · rw [numS_out (by omega)]; exact number_out n w (by omega)

theorem puttext_ok (b t : List UInt8) (w : World) (hb : b.length ≤ 1152921504606846976) (ht : t.length ≤ 4096) :
    Calls Try.prog 11 #[.string (bs b), .string (bs t)] w fun e w' => e = .returned (.tuple #[.string (bs (b ++ txt t)), .int .i64 0]) ∧ Gr w w' := by
  have hl := num_len9 (n := t.length) (by omega)
  go_enter Try.func11, Try.ntmps11
  go_wp2_with (go_at_call 9; refine (put_ok b _ _ (by omega) (by omega) hb).mono ?_; rintro e w1 ⟨rfl, g1⟩; rw [Int.toNat_natCast])
  go_ret2
  exact ⟨by simp [txt], g1⟩

theorem puttext_long (b t : List UInt8) (w : World) (ht : 4096 < t.length) :
    Calls Try.prog 11 #[.string (bs b), .string (bs t)] w fun e w' => e = .returned (.tuple #[.string (bs []), .int .i64 1]) ∧ w = w' := by
  go_enter Try.func11, Try.ntmps11
  go_wp2
  go_ret2
  exact ⟨rfl, rfl⟩

theorem text_any (t : List UInt8) (w : World) (ht : t.length ≤ 1152921504606846976) :
    Calls Try.prog 13 #[.string (bs t)] w fun e w' => e = .returned (.string (bs (txt t))) ∧ Gr w w' := by
  have hl := num_len9 (n := t.length) (by omega)
  have e1 := numS_nat (n := t.length) (by omega)
  have E1 := sec e1
  clear e1
  go_enter Try.func13, Try.ntmps13
  go_wp2_with (go_at_call 10; refine (number_any _ _).mono ?_; rintro e w1 ⟨rfl, g1⟩; rw [E1.out])
  go_ret
  exact ⟨rfl, g1⟩

theorem puts_any (w : World) :
    Calls Try.prog 12 #[] w fun e w' => e = .returned (.bool true) ∧ Gr w w' := by
  have h2 : num 2 = [2] := by rw [num_small (by omega)]; rfl
  go_enter Try.func12, Try.ntmps12
  go_wp2_with (go_at_call 11; refine (puttext_ok [120] [121, 122] _ (by simp) (by simp)).mono ?_; rintro e w1 ⟨rfl, g1⟩; simp only [txt, List.length_cons, List.length_nil, Nat.zero_add, Nat.reduceAdd, h2, List.cons_append, List.nil_append])
  go_ret
  exact ⟨rfl, g1⟩
end Go.Proofs.Ytkabioogfcbkmaa

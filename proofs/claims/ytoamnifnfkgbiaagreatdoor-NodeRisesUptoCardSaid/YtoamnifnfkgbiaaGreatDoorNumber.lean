/-
  cartularyref.Number by its contract.
-/
import Derived.Test.YtoamnifnfkgbiaaGreatDoorPut
namespace Go.Proofs.YtoamnifnfkgbiaaGreatDoor
open Go.RowKit
set_option maxHeartbeats 400000 in
theorem number_out (n : Int) (w : World) (h : n < 0 ∨ 4611686018427387904 ≤ n) :
    Calls Tryz.prog 133 #[.int .i64 n] w fun e w' => e = .returned (.string (bs [])) ∧ Gr w w' := by
  rcases h with h | h
  all_goals
    go_enter Tryz.func133, Tryz.ntmps133
    go_wp2
    go_ret
    exact ⟨rfl, Gr.refl _⟩

set_option maxHeartbeats 1000000 in
theorem number_ok : ∀ (k : Nat) (n : Int) (w : World) (_ : n.toNat < k) (_ : 0 ≤ n) (_ : n < 4611686018427387904),
    Calls Tryz.prog 133 #[.int .i64 n] w fun e w' => e = .returned (.string (bs (num n.toNat))) ∧ Gr w w' := by
  intro k
  induction k with
  | zero => intro n w hk _ _; omega
  | succ k ih =>
    intro n w hk h0 h1
    have IH := sec ih
    clear ih
    have hcv := run_conv_one (src := 140) (dst := 9) Tryz.underlying140 Tryz.underlying5 Tryz.underlying9
    by_cases hlt : n < 128
    · go_enter Tryz.func133, Tryz.ntmps133
      have hk : n < 256 := by omega
      go_wp2
      go_ret
      refine ⟨?_, (Gr.refl _).alloc _⟩
      rw [num_small (by omega)]; rfl
    · have hl9 := num_len9 (n := n.toNat / 128) (by omega)
      have hd0 : (n / 128).toNat = n.toNat / 128 := by omega
      have HD := sec hd0
      clear hd0
      have a0 : 0 ≤ n / 128 := by omega
      have a1 : n / 128 < 4611686018427387904 := by omega
      have a2 : (n / 128).toNat < k := by omega
      have b0 : 0 ≤ n % 128 + 128 := by omega
      have b1 : n % 128 + 128 < 256 := by omega
      have e1 : n.tmod 128 = n % 128 := Int.tmod_eq_emod_of_nonneg h0
      have e2 : IntKind.i64.wrap (n % 128 + 128) = n % 128 + 128 := IntWalk.i64_in _ (by omega)
      have e3 : IntKind.u8.wrap (n % 128 + 128) = n % 128 + 128 := IntWalk.u8_in _ (by omega)
      have e4 : IntKind.i64.wrap (n.tdiv 128) = n / 128 := IntWalk.i64_quo _ _ (by omega)
      have hcat : ¬ 9223372036854775807 < 1 + (num (n.toNat / 128)).length := by omega
      have hfin : num n.toNat = UInt8.ofNat (n % 128 + 128).toNat :: num (n.toNat / 128) := by
        rw [num_big (n := n.toNat) (by omega)]; congr 2; omega
      have HF := sec hfin
      clear hfin
      go_enter Tryz.func133, Tryz.ntmps133
      go_wp2
      go_region_with (go_at_call 133; refine (IH.out _ _ a2 a0 a1).mono ?_; rintro e w1 ⟨rfl, hb1⟩; rw [HD.out]; have hc1 := hb1.cells)
      all_goals
        go_wp2
        go_ret
        refine ⟨by rw [HF.out]; rfl, ?_⟩
      all_goals repeat (first | exact Gr.refl _ | assumption | refine Gr.drew ?_ | refine Gr.alloc ?_ _ | refine Gr.trans ?_ (by assumption))
end Go.Proofs.YtoamnifnfkgbiaaGreatDoor

/-
  wire.Put by its contract.
-/
import Derived.Test.YtoamnifnfkgbiaaGreatDoorNum
import Derived.Test.YtoamnifnfkgbiaaGreatDoorElems
namespace Go.Proofs.YtoamnifnfkgbiaaGreatDoor
open Go.RowKit
theorem u8_or_nat' (m : Nat) : bits BinOp.or .u8 ((m : Int) % 256) 128 = ((m % 128 + 128 : Nat) : Int) := by
  rcases Nat.lt_or_ge (m % 256) 128 with h | h
  · rw [u8_or128_right _ (by omega) (by omega)]; omega
  · rw [u8_or _ _ (by omega) (by omega) (by omega) (by omega)]
    have e : ((m : Int) % 256).toNat = m % 256 := by omega
    rw [e]
    have : ∀ k : Fin 256, 128 ≤ k.val → (k.val ||| 128) = k.val := by decide +kernel
    have h2 := this ⟨m % 256, by omega⟩ h
    show (((m % 256) ||| 128 : Nat) : Int) = _
    simp only at h2
    rw [h2]; omega
theorem or128 (m : Nat) : bits BinOp.or .u8 ((m : Int) % 256) 128 = ((m % 128 + 128 : Nat) : Int) := by
  rw [u8_or_nat' m]
set_option maxHeartbeats 400000 in
theorem put_ok (b : List UInt8) (n : Int) (w : World) (h0 : 0 ≤ n) (h1 : n < 4611686018427387904) (hb : b.length ≤ 1152921504606846976) :
    Calls Tryz.prog 204 #[.string (bs b), .int .i64 n] w fun e w' => e = .returned (.tuple #[.string (bs (b ++ num n.toNat)), .int .i64 0]) ∧ Gr w w' := by
  go_enter Tryz.func204, Tryz.ntmps204
  go_wp2_with fail
  go_loopw [1, 6] (fun nv lv wr => ∃ (m : Nat) (l : List UInt8) (A : Option Addr) (cap : Nat), nv = .int .i64 m ∧ m < 4611686018427387904 ∧ Sec (num n.toNat = l ++ num m) ∧ lv = .slice A l.length cap ∧ wr.ownsRow w.heap.size 5 1 (.slice A l.length cap) l.length (l.map byteV) ∧ Gr w wr)
    (fun nv _ _ => (intOf nv).toNat)
  case atStart => exact ⟨n.toNat, [], none, 0, by rw [Int.toNat_of_nonneg h0], by omega, ⟨by simp⟩, rfl, World.ownsRow_nil _ _ _ _, Gr.refl _⟩
  case round =>
    obtain ⟨m, l, A, cap, rfl, hm, hl, rfl, hown, hbel⟩ := hrel
    have hl9 : l.length + 1 ≤ 9 := by
      have h9 := num_len9 (n := n.toNat) (by omega)
      rw [hl.out] at h9
      have := num_pos m
      simp at h9; omega
    by_cases hlt : 127 < (m : Int)
    · have hor := or128 m
      go_wp2_with (at_builtin; refine wpList_append_byte E.u8 rfl (.tmp 15) (.tmp 19) rfl rfl hown rfl (by omega) (by omega) (by omega) hbel ?_; intro g cap' w1 hown1 hbel1)
      go_round
      case rel =>
        have e : ((m : Int) % 128 + 128).toNat = m % 128 + 128 := by omega
        rw [e] at hown1
        refine ⟨m / 128, l ++ [UInt8.ofNat (m % 128 + 128)], some ⟨g, 0, none⟩, cap', by go_num, by omega, ?_, by simp, by rw [List.length_append]; exact hown1, hbel1⟩
        have := hl.out
        rw [num_big (n := m) (by omega)] at this
        exact ⟨by simpa using this⟩
      case measure => simp [intOf]; omega
    · have hmod : (m : Int) % 256 = m := by omega
      go_wp2_with (at_builtin; refine wpList_append_byte E.u8 rfl (.tmp 24) (.tmp 27) rfl rfl hown rfl (by omega) (by omega) (by omega) hbel ?_; intro g cap' w1 hown1 hbel1; have hcv := run_conv_own (src := 140) (dst := 9) Tryz.underlying140 Tryz.underlying5 Tryz.underlying9 hown1)
      go_ret2
      refine ⟨?_, hbel1⟩
      rw [hl.out, num_small (by omega)]
      simp
theorem put_err (b : List UInt8) (n : Int) (w : World) (h : n < 0 ∨ 4611686018427387904 ≤ n) :
    Calls Tryz.prog 204 #[.string (bs b), .int .i64 n] w fun e w' => e = .returned (.tuple #[.string (bs []), .int .i64 3]) ∧ w = w' := by
  rcases h with h | h
  all_goals
    go_enter Tryz.func204, Tryz.ntmps204
    go_wp2
    go_ret2
    exact ⟨rfl, rfl⟩
end Go.Proofs.YtoamnifnfkgbiaaGreatDoor

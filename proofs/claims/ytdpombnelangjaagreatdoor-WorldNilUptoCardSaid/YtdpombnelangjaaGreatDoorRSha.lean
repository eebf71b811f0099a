/-
  cartularyref.rounds, word, Start by their contracts.
-/
import Derived.Test.YtdpombnelangjaaGreatDoorShaL
import Derived.Test.YtdpombnelangjaaGreatDoorElems
import Derived.Laws.Rows
import Derived.Laws.Tables
import Derived.Laws.CopyOwn
import Derived.Lib.ConvBytes
import Derived.Lib.AtoiErrMem
namespace Go.Proofs.YtdpombnelangjaaGreatDoor
open Go.RowKit
def kCells : Array Value := (kTab.map u32V).toArray
theorem kCells_at (i : Nat) (h : i < 64) : kCells[i]? = some (.int .u32 ((kAt i).toNat : Int)) := by
  unfold kCells kAt
  have : i < kTab.length := by rw [kTab_len]; exact h
  simp [this, u32V]

/-- '[]byte(s)' : a row of its own, its cells the bytes -/
theorem conv_bytes (w : World) (l : List UInt8) : ∃ w2 cap, (convert 9 105 (.string (bs l))).run Tryz.prog w = .ok (.slice (some ⟨w.heap.size, 0, none⟩) l.length cap) w2 ∧ Gr w w2 ∧
    ∀ j, j < l.length → w2.cell? ⟨w.heap.size, j, none⟩ = some (.int .u8 ((l.getD j 0).toNat : Int)) := by
  have h1 := Lib.run_convert_string_bytes (P := Tryz.prog) w 9 105 5 (bs l) Tryz.underlying9 Tryz.underlying105 Tryz.underlying5
  rw [bs_size] at h1
  refine ⟨_, _, h1, Lib.bytesWorld_below w 5 (bs l), ?_⟩
  intro j hj
  rw [Lib.bytesWorld_cell w 5 (bs l) j (by rw [bs_size]; exact hj)]
  rfl

set_option maxRecDepth 100000 in
set_option maxHeartbeats 4000000 in
theorem rounds_any (w : World) :
    Calls Tryz.prog 162 #[] w fun e w' => e = .returned (.agg kCells) ∧ Gr w w' := by
  go_enter Tryz.func162, Tryz.ntmps162
  go_wp2_with (refine wpList_store_row rfl 241 (.tmp 0) (.tmp 1) rfl w.heap.size kCells rfl (by kernel_rfl) _ _ (Blk.new w _ _) (by kernel_rfl) (by kernel_rfl) (by kernel_rfl) ?_)
  refine bodyPost_ret (results_cell_row rfl _ _ w.heap.size _ kCells (0, 0) _ rfl (setRow_heap _ _ _ kCells _ _ (Blk.new w _ _)) rfl rfl (by kernel_rfl)) rfl ?_
  exact ⟨rfl, below_setRow ((Gr.refl w).alloc _) (Nat.le_refl _) _⟩

/-- the first k bytes of a word -/
def wpart (b : List UInt8) (n : Nat) : Nat → Nat
  | 0 => 0
  | k + 1 => wpart b n k * 256 + byteAt b (n + k)
theorem wpart_lt (b : List UInt8) (n : Nat) : ∀ k, wpart b n k < 256 ^ k
  | 0 => by simp [wpart]
  | k + 1 => by
    have h1 := wpart_lt b n k
    have h2 := byteAt_lt b (n + k)
    rw [wpart, Nat.pow_succ]
    omega
theorem wpart_four (b : List UInt8) (n : Nat) : wpart b n 4 = (wordAt b n).toNat := by
  rw [wordAt_toNat]
  simp only [wpart, Nat.add_zero]
  omega

set_option maxRecDepth 100000 in
set_option maxHeartbeats 4000000 in
theorem rword_any (b : List UInt8) (n : Nat) (w : World) (h : n + 4 ≤ b.length) (h63 : b.length < 9223372036854775807) :
    Calls Tryz.prog 163 #[.string (bs b), .int .i64 n] w fun e w' => e = .returned (.int .u32 ((wordAt b n).toNat : Int)) ∧ Gr w w' := by
  have q4 : IntKind.i64.wrap ((n : Int) + 4) = (n : Int) + 4 := IntWalk.i64_in _ (by omega)
  obtain ⟨w2, cap, hcv, hg, hc⟩ := conv_bytes w (sub b n (n + 4))
  have hl : (sub b n (n + 4)).length = 4 := by simp [sub]; omega
  have hat : ∀ j, j < 4 → (sub b n (n + 4)).getD j 0 = b.getD (n + j) 0 := by
    intro j hj
    simp [sub, hj]
  rw [hl] at hcv hc
  have hc' : ∀ j, j < 4 → w2.cell? ⟨w.heap.size, j, none⟩ = some (.int .u8 (byteAt b (n + j) : Int)) := by
    intro j hj
    rw [hc j hj, hat j hj]
    rfl
  clear hc hl hat
  go_enter Tryz.func163, Tryz.ntmps163
  go_wp2_with fail
  go_loopw [15, 7, 5] (fun iv _ v wr => ∃ k : Nat, iv = .int .i64 k ∧ k ≤ 4 ∧ v = .int .u32 (wpart b n k : Int) ∧ wr = w2)
    (fun iv _ _ _ => 4 - (intOf iv).toNat)
  case atStart => exact ⟨0, rfl, by omega, rfl, rfl⟩
  case round =>
    obtain ⟨k, rfl, hk, rfl, rfl⟩ := hrel
    by_cases hlt : k < 4
    · have hck := hc' k hlt
      have hk4 : (k : Int) < 4 := by omega
      have hw1 := wpart_lt b n k
      have hw4 : wpart b n k < 16777216 := by
        have : 256 ^ k ≤ 256 ^ 3 := Nat.pow_le_pow_right (by omega) (by omega)
        omega
      have hb := byteAt_lt b (n + k)
      clear hw1 hlt
      go_wp2
      go_roundw
      case rel => exact ⟨k + 1, by go_num, by omega, by simp [wpart], by trivial⟩
      case measure => simp [intOf]; omega
    · obtain rfl : k = 4 := by omega
      clear hlt hk
      rw [wpart_four]
      go_wp2_with fail
      go_ret
      exact ⟨rfl, hg⟩
end Go.Proofs.YtdpombnelangjaaGreatDoor

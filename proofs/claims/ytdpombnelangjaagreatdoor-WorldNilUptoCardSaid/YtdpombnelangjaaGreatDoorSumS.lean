/-
  sum.Sum by its contract.
-/
import Derived.Test.YtdpombnelangjaaGreatDoorEnd
namespace Go.Proofs.YtdpombnelangjaaGreatDoor
open Go.RowKit
set_option linter.unusedVariables false
theorem goodB_start : goodB [] 0 = true := by decide
theorem goodB_rest (b : List UInt8) (h : b.length < 1152921504606846976) : goodB (restOf b) (b.length : Int) = true := by
  rw [goodB_iff, restOf_len]
  omega

set_option maxRecDepth 100000 in
set_option maxHeartbeats 1000000 in
theorem sum_any (b : List UInt8) (w : World) (hT : TabK w) (hb : b.length ≤ 576460752303423488) :
    Calls Tryz.prog 44 #[.string (bs b)] w fun e w' => e = .returned (.string (bs (sha b))) ∧ Gr w w' := by
  have HG := sec (goodB_rest b (by omega))
  have HS : Sec (sha b = endOf (overS startS b) (restOf b) b.length) := sec rfl
  have HZ := sec (show (0 : Int) + (b.length : Int) < 1152921504606846976 by omega)
  have HA : Sec (([] : List UInt8) ++ b = b) := sec rfl
  have HN : Sec ((0 : Int) + (b.length : Int) = (b.length : Int)) := sec (by omega)
  obtain ⟨S, hS⟩ : ∃ S, S = overS startS b := ⟨_, rfl⟩
  obtain ⟨R, hR⟩ : ∃ R, R = restOf b := ⟨_, rfl⟩
  rw [← hS, ← hR] at HS
  rw [← hR] at HG
  have HSS := sec hS
  have HRR := sec hR
  clear hS hR
  go_enter Tryz.func44, Tryz.ntmps44
  go_wp2_with (first
    | (refine wpList_store_blk rfl 140 (.tmp 3) (.tmp 11) rfl (g := w2.heap.size) rfl rfl (Blk.new w2 _ _) A.state rfl (stCells_one _ _ _) ?_; intro w3 h3 hg3; have gg3 : Gr w w3 := Gr.only (g2.alloc _) hg3 g2.size; clear hg3)
    | (refine wpList_load_blk rfl 140 (.tmp 3) rfl (g := w2.heap.size) rfl h3 A.state ?_)
    | (go_at_call 78; refine (begin_any _).mono ?_; rintro e w1 ⟨rfl, g1⟩)
    | (go_at_call 77; refine (add_ok startS [] 0 b _ (hT.gr g1) goodB_start hb HZ.out).mono ?_; rw [HA.out, HN.out, ← HSS.out, ← HRR.out]; rintro e w2 ⟨rfl, g2'⟩; have g2 := g1.trans g2'; clear g2' g1)
    | (go_at_call 79; refine (end_ok S R b.length _ (hT.gr gg3) HG.out).mono ?_; rw [← HS.out]; rintro e w4 ⟨rfl, g4⟩))
  go_ret
  exact ⟨rfl, gg3.trans g4⟩
end Go.Proofs.YtdpombnelangjaaGreatDoor

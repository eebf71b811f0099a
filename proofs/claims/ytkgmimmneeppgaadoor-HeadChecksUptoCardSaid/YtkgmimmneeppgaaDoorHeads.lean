/-
  head.Leaves, head.Of (of no steps), law.heads by their contracts.
-/
import Derived.Test.YtkgmimmneeppgaaDoorHeadT
namespace Go.Proofs.YtkgmimmneeppgaaDoor
set_option maxRecDepth 100000
open Go.RowKit
set_option linter.unusedVariables false
theorem hdTxt0 (R : List UInt8) (h : R.length = 32) : (hdTxt 0 R).2 = 0 ∧ (hdTxt 0 R).1.length = 33 := by
  have hE : hdE 0 R = 0 := by
    unfold hdE
    rw [if_neg (by decide), if_pos h]
  unfold hdTxt
  rw [if_pos hE]
  refine ⟨rfl, ?_⟩
  have h1 : (numS 0).length = 1 := by
    rw [numS_in (by omega) (by omega)]
    have a := num_pos 0
    have b := num_len 0 0 (by decide)
    have e : (0 : Int).toNat = 0 := rfl
    rw [e]
    omega
  rw [List.length_append, h1, h]
set_option maxHeartbeats 1000000 in
theorem leaves0_any (w : World) : Calls Tryd.prog 17 #[.slice none 0 0] w fun e w' => e = .returned (.tuple #[.slice none 0 0, .int .i64 0]) ∧ w' = w := by
  go_enter Tryd.func17, Tryd.ntmps17
  go_wp2_with fail
  go_loopw [11, 4, 6, 7, 8] (fun iv v4 _ _ _ wr => iv = .int .i64 0 ∧ v4 = .slice none 0 0 ∧ wr = w) (fun _ _ _ _ _ _ => 0)
  case atStart => exact ⟨rfl, rfl, rfl⟩
  case round =>
    obtain ⟨rfl, rfl, rfl⟩ := hrel
    go_wp2_with fail
    go_ret2
    exact ⟨rfl, rfl⟩

set_option maxHeartbeats 1000000 in
theorem of0_any (w : World) (hT : TabK w) : Calls Tryd.prog 14 #[.slice none 0 0] w fun e w' => e = .returned (.tuple #[.agg (headC 0 (sha [])), .int .i64 0]) ∧ Gr w w' := by
  have HR : Sec (∀ W, Gr w W → Calls Tryd.prog 41 #[.slice none 0 0] W fun e w' => e = .returned (.string (bs (sha []))) ∧ Gr W w') := sec (fun W g => by
    have := root_any 0 [] none 0 0 W (by simp) (by omega) (by omega) ⟨rfl, fun h => absurd h (by omega)⟩ (by intro s h; cases h) (hT.gr g)
    rw [rootL_nil] at this
    exact this)
  clear hT
  go_enter Tryd.func14, Tryd.ntmps14
  go_wp2_with (first
    | (refine wpList_store_blk rfl 26 (.tmp 2) (.tmp 23) rfl (g := w.heap.size) (cs' := headC 0 (sha [])) rfl rfl hB A.head rfl (headC_one _ _) ?_; intro w2 h2 hg2)
    | (go_at_call 17; refine Calls.mono (leaves0_any _) ?_; rintro e w3 ⟨rfl, rfl⟩)
    | (go_at_call 41; refine Calls.mono (HR.out _ ((Gr.refl w).alloc _)) ?_; rintro e w1 ⟨rfl, g1⟩; have hB := (Blk.new w 26 (headC 0 [])).gr g1; have gg1 : Gr w w1 := Gr.trans ((Gr.refl w).alloc _) g1))
  refine bodyPost_ret (results_blk_tmp rfl _ rfl h2 A.head) rfl ?_
  exact ⟨rfl, Gr.only gg1 hg2 (Nat.le_refl _)⟩
set_option maxHeartbeats 1000000 in
theorem heads_any (w : World) (hT : TabK w) : Calls Tryd.prog 13 #[] w fun e w' => e = .returned (.bool true) ∧ Gr w w' := by
  have HOf := sec (of0_any w hT)
  have HEm : Sec (∀ W, Gr w W → Calls Tryd.prog 40 #[] W fun e w' => e = .returned (.agg (headC 0 (sha []))) ∧ Gr W w') := sec (fun W g => empty_any W (hT.gr g))
  have hl := sha_len []
  obtain ⟨R, hR⟩ : ∃ R, R = sha [] := ⟨_, rfl⟩
  rw [← hR] at HEm HOf hl
  clear hR hT
  obtain ⟨t0, t1⟩ := hdTxt0 R hl
  have HTx : Sec (∀ W, Calls Tryd.prog 35 #[.agg (headC 0 R)] W fun e w' => e = .returned (.tuple #[.string (bs (hdTxt 0 R).1), .int .i64 0]) ∧ Gr W w') := sec (fun W => by
    have h := htext_any 0 R W (by omega)
    rw [t0] at h
    exact h)
  obtain ⟨X, hX⟩ : ∃ X, X = (hdTxt 0 R).1 := ⟨_, rfl⟩
  rw [← hX] at HTx t1
  have hx33 : (X.length : Int) = 33 := by omega
  unfold headC at HOf HEm HTx
  clear hX t0
  go_enter Tryd.func13, Tryd.ntmps13
  go_wp2_with (first
    | (go_at_call 14; refine Calls.mono HOf.out ?_; rintro e w1 ⟨rfl, g1⟩)
    | (go_at_call 35; refine Calls.mono (HTx.out _) ?_; rintro e w2 ⟨rfl, g2⟩; have hb := (Blk.new w1 26 #[.int .i64 0, .string (bs R)]).gr g2; have gg2 : Gr w w2 := (g1.alloc _).trans g2; have x0 : w2.cell? ⟨w1.heap.size, 0, none⟩ = some (.int .i64 0) := hb.cell 0; have x1 : w2.cell? ⟨w1.heap.size, 1, none⟩ = some (.string (bs R)) := hb.cell 1))
  have g2d : Gr w2 w2.drew := (Gr.refl _).drew
  have HSK : Sec (∀ w', Gr w2 w' → w'.cell? ⟨w1.heap.size, 0, none⟩ = some (.int .i64 0) ∧ w'.cell? ⟨w1.heap.size, 1, none⟩ = some (.string (bs R)) ∧ Gr w2 w') := sec (fun w' g => ⟨(hb.gr g).cell 0, (hb.gr g).cell 1, g⟩)
  go_region_held3 (fun w' => w'.cell? ⟨w1.heap.size, 0, none⟩ = some (.int .i64 0) ∧ w'.cell? ⟨w1.heap.size, 1, none⟩ = some (.string (bs R)) ∧ Gr w2 w')
    (first | with_reducible assumption | with_reducible exact HSK.out _ g2d | with_reducible exact HSK.out _ g4 | fail)
    (first
      | (go_at_call 40; (with_reducible refine Calls.mono (HEm.out w2.drew (gg2.trans g2d)) ?_); rintro e w4 ⟨rfl, g4'⟩; have g4 : Gr w2 w4 := Gr.trans g2d g4')
      | fail)
  all_goals (go_wp2_with fail; go_ret; exact ⟨rfl, gg2.trans g4⟩)
end Go.Proofs.YtkgmimmneeppgaaDoor

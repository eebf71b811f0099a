/-
  sum.Begin, Good, Add by their contracts.
-/
import Derived.Test.YtdpombnelangjaaGreatDoorBlock
import Derived.Test.YtdpombnelangjaaGreatDoorSumL
import Derived.Test.YtdpombnelangjaaGreatDoorAgg
namespace Go.Proofs.YtdpombnelangjaaGreatDoor
open Go.RowKit
set_option linter.unusedVariables false
def stCells (s : S8) (r : List UInt8) (m : Int) : Array Value := #[u32V s.a, u32V s.b, u32V s.c, u32V s.d, u32V s.e, u32V s.f, u32V s.g, u32V s.h, .string (bs r), .int .i64 m]
/-- a state by value -/
def stV (s : S8) (r : List UInt8) (m : Int) : Value := .agg (stCells s r m)
theorem A.state : AggOk 140 10 := ⟨⟨_, Tryz.underlying140, rfl⟩, by kernel_rfl⟩
theorem stCells_one (s : S8) (r : List UInt8) (m : Int) : (stCells s r m).all (·.oneCell') = true := by simp [stCells, u32V, Value.oneCell']
theorem A.u8 : AggOk 138 8 := ⟨⟨_, Tryz.underlying138, rfl⟩, by kernel_rfl⟩
theorem s8V_one (s : S8) : (s8V s).all (·.oneCell') = true := by simp [s8V, u32V, Value.oneCell']
/-- P1.4 -/
def goodB (r : List UInt8) (m : Int) : Bool := decide (0 ≤ m ∧ m < 1152921504606846976 ∧ (r.length : Int) = m % 64)
theorem goodB_iff (r : List UInt8) (m : Int) : goodB r m = true ↔ (0 ≤ m ∧ m < 1152921504606846976 ∧ (r.length : Int) = m % 64) := decide_eq_true_iff
theorem goodB_not (r : List UInt8) (m : Int) : goodB r m = false ↔ ¬ (0 ≤ m ∧ m < 1152921504606846976 ∧ (r.length : Int) = m % 64) := decide_eq_false_iff_not

set_option maxRecDepth 100000 in
set_option maxHeartbeats 1000000 in
theorem begin_any (w : World) : Calls Tryz.prog 78 #[] w fun e w' => e = .returned (stV startS [] 0) ∧ Gr w w' := by
  go_enter Tryz.func78, Tryz.ntmps78
  go_wp2
  refine bodyPost_ret (v := stV startS [] 0) (by simp [results, Tryz.results78, go_sem]; rfl) rfl ?_
  exact ⟨rfl, (Gr.refl w).alloc _⟩

set_option maxRecDepth 100000 in
set_option maxHeartbeats 1000000 in
theorem good_any (s : S8) (r : List UInt8) (m : Int) (w : World) (hr : r.length < 4611686018427387904) :
    Calls Tryz.prog 118 #[stV s r m] w fun e w' => e = .returned (.bool (goodB r m)) ∧ Gr w w' := by
  unfold stV stCells
  have fin : ∀ x : Bool, goodB r m = x → Calls Tryz.prog 118 #[.agg #[u32V s.a, u32V s.b, u32V s.c, u32V s.d, u32V s.e, u32V s.f, u32V s.g, u32V s.h, .string (bs r), .int .i64 m]] w (fun e w' => e = .returned (.bool x) ∧ Gr w w') → Calls Tryz.prog 118 #[.agg #[u32V s.a, u32V s.b, u32V s.c, u32V s.d, u32V s.e, u32V s.f, u32V s.g, u32V s.h, .string (bs r), .int .i64 m]] w (fun e w' => e = .returned (.bool (goodB r m)) ∧ Gr w w') := by
    intro x hx h; rw [hx]; exact h
  by_cases h0 : 0 ≤ m
  · by_cases h1 : m < 1152921504606846976
    · by_cases h2 : (r.length : Int) = m % 64
      · refine fin true ((goodB_iff r m).2 ⟨h0, h1, h2⟩) ?_
        have h2' : ((r.length : Int) == m % 64) = true := by simpa using h2
        clear h2 fin
        go_enter Tryz.func118, Tryz.ntmps118
        go_wp2
        go_ret
        exact ⟨rfl, (Gr.refl w).alloc _⟩
      · refine fin false ((goodB_not r m).2 (fun h => h2 h.2.2)) ?_
        have h2' : ((r.length : Int) == m % 64) = false := by simpa using h2
        clear h2 fin
        go_enter Tryz.func118, Tryz.ntmps118
        go_wp2
        go_ret
        exact ⟨rfl, (Gr.refl w).alloc _⟩
    · refine fin false ((goodB_not r m).2 (fun h => h1 h.2.1)) ?_
      clear fin
      go_enter Tryz.func118, Tryz.ntmps118
      go_wp2
      go_ret
      exact ⟨rfl, (Gr.refl w).alloc _⟩
  · refine fin false ((goodB_not r m).2 (fun h => h0 h.1)) ?_
    clear fin
    go_enter Tryz.func118, Tryz.ntmps118
    go_wp2
    go_ret
    exact ⟨rfl, (Gr.refl w).alloc _⟩

def zeroS : S8 := ⟨0, 0, 0, 0, 0, 0, 0, 0⟩
def lenOf : Value → Nat
  | .string s => s.size
  | _ => 0
set_option maxRecDepth 100000 in
set_option maxHeartbeats 1000000 in
/-- Add, where the state is good and there is room -/
theorem add_ok (s : S8) (r : List UInt8) (m : Int) (b : List UInt8) (w : World) (hT : TabK w) (hg : goodB r m = true) (hb : b.length ≤ 576460752303423488) (hm : m + b.length < 1152921504606846976) :
    Calls Tryz.prog 77 #[stV s r m, .string (bs b)] w fun e w' => e = .returned (.tuple #[stV (overS s (r ++ b)) (restOf (r ++ b)) (m + b.length), .int .i64 0]) ∧ Gr w w' := by
  have hg' := (goodB_iff r m).1 hg
  obtain ⟨hm0, hm1, hm2⟩ := hg'
  have hr : r.length < 4611686018427387904 := by omega
  have hb' : (b.length : Int) ≤ 576460752303423488 := by omega
  have hmm : IntKind.i64.wrap (m + b.length) = m + b.length := IntWalk.i64_in _ (by omega)
  have hall : r.length + b.length < 4611686018427387904 := by omega
  have HG := sec hg
  clear hg hm2
  unfold stV stCells
  go_enter Tryz.func77, Tryz.ntmps77
  go_wp2_with ((go_at_call 118; refine (good_any s r m _ hr).mono ?_; rw [HG.out]; rintro e w1 ⟨rfl, g1⟩; have hB2 := ((Blk.new w 140 (stCells s r m)).alloc (.cells (stCells zeroS [] 0) 140)).gr g1; have hB4 : Blk w1 (w.heap.size + 1) 140 (stCells zeroS [] 0) := Blk.gr (by have := Blk.new (w.alloc (.cells (stCells s r m) 140)) 140 (stCells zeroS [] 0); rw [World.size_alloc] at this; exact this) g1; have hg1 : Gr w w1 := (((Gr.refl w).alloc _).alloc _).trans g1; clear g1; have cr : w1.cell? ⟨w.heap.size, 8, none⟩ = some (.string (bs r)) := hB2.cell 8; have cm : w1.cell? ⟨w.heap.size, 9, none⟩ = some (.int .i64 m) := hB2.cell 9; have fm := hB2.frozen 9))
  obtain ⟨M, hM⟩ : ∃ M, M = m + (b.length : Int) := ⟨_, rfl⟩
  obtain ⟨L, hL⟩ : ∃ L, L = r ++ b := ⟨_, rfl⟩
  have hLl : L.length < 4611686018427387904 := by rw [hL, List.length_append]; exact hall
  have HL := sec hL
  rw [← hM, ← hL]
  have HM := sec hM
  clear hL hall hM
  have hB2' := hB2.set_ 9 (.int .i64 M)
  rw [show (stCells s r m).setIfInBounds 9 (.int .i64 M) = stCells s r M from rfl] at hB2'
  have hB4' := hB4.far (p := ⟨w.heap.size, 9, none⟩) (by simp) (.int .i64 M)
  have hg2 := hg1.setCell (p := ⟨w.heap.size, 9, none⟩) (Nat.le_refl _) (.int .i64 M)
  clear hB2 hB4 hg1 cr cm fm
  go_loopw [1] (fun v wr => ∃ (S : S8) (l : List UInt8), v = .string (bs l) ∧ l.length < 4611686018427387904 ∧ overS S l = overS s L ∧ restOf l = restOf L ∧ Blk wr w.heap.size 140 (stCells S r M) ∧ Blk wr (w.heap.size + 1) 140 (stCells zeroS [] 0) ∧ Gr w wr)
    (fun v _ => lenOf v)
  case atStart => exact ⟨s, L, rfl, hLl, rfl, rfl, hB2', hB4', hg2⟩
  case round =>
    clear hB2' hB4' hg2
    obtain ⟨S, l, rfl, hl, hov, hre, hB2, hB4, hg⟩ := hrel
    by_cases hlt : l.length < 64
    · rw [overS_lo hlt] at hov
      rw [restOf_lo hlt] at hre
      have HO := sec hov
      have HR := sec hre
      clear hov hre
      have k8 := hB2.frozen 8
      have e8 : ∃ v, wr.cell? ⟨w.heap.size, 8, none⟩ = some v := ⟨_, hB2.cell 8⟩
      obtain ⟨v8, e8⟩ := e8
      have hl64 : (l.length : Int) < 64 := by omega
      have hB2' : Blk (wr.setCell ⟨w.heap.size, 8, none⟩ (.string (bs l))) w.heap.size 140 (stCells S l M) := hB2.set_ 8 (.string (bs l))
      go_wp2_with (first
        | (refine wpList_load_blk rfl 140 (.tmp 2) rfl (g := w.heap.size) rfl hB2' A.state ?_)
        | (refine wpList_store_blk rfl 140 (.tmp 4) (.tmp 46) rfl (g := w.heap.size + 1) rfl rfl (hB4.far (by simp) _) A.state rfl (stCells_one _ _ _) ?_; intro w3 h3 hg3))
      refine bodyPost_ret (results_blk_tmp rfl _ rfl h3 A.state) rfl ?_
      refine ⟨?_, (hg.setCell (Nat.le_refl _) _).only hg3 (by omega)⟩
      rw [HO.out, HR.out, HL.out, HM.out]
      rfl
    · have h64 : (64 : Int) ≤ (l.length : Int) := by omega
      rw [overS_hi hlt] at hov
      rw [restOf_hi hlt] at hre
      have HO := sec hov
      have HR := sec hre
      have hlt' : 64 ≤ l.length := by omega
      clear hov hre hlt
      have ht : (l.take 64).length = 64 := by rw [List.length_take]; omega
      have HT := sec ht
      clear ht
      go_wp2_with fail
      refine region_still_tail_w 4 (by kernel_rfl) (by kernel_rfl) ?_
      simp only [List.take_succ_cons, List.take_zero, List.drop_succ_cons, List.drop_zero]
      intro wd hwd
      have D2 : Blk wd w.heap.size 140 (stCells S r M) := by subst hwd; exact hB2.drew
      have D4 : Blk wd (w.heap.size + 1) 140 (stCells zeroS [] 0) := by subst hwd; exact hB4.drew
      have Dg : Gr w wd := by subst hwd; exact hg.drew
      clear hwd hB2 hB4 hg
      have c0 : wd.cell? ⟨w.heap.size, 0, none⟩ = some (.int .u32 (S.a.toNat : Int)) := D2.cell 0
      have c1 : wd.cell? ⟨w.heap.size, 1, none⟩ = some (.int .u32 (S.b.toNat : Int)) := D2.cell 1
      have c2 : wd.cell? ⟨w.heap.size, 2, none⟩ = some (.int .u32 (S.c.toNat : Int)) := D2.cell 2
      have c3 : wd.cell? ⟨w.heap.size, 3, none⟩ = some (.int .u32 (S.d.toNat : Int)) := D2.cell 3
      have c4 : wd.cell? ⟨w.heap.size, 4, none⟩ = some (.int .u32 (S.e.toNat : Int)) := D2.cell 4
      have c5 : wd.cell? ⟨w.heap.size, 5, none⟩ = some (.int .u32 (S.f.toNat : Int)) := D2.cell 5
      have c6 : wd.cell? ⟨w.heap.size, 6, none⟩ = some (.int .u32 (S.g.toNat : Int)) := D2.cell 6
      have c7 : wd.cell? ⟨w.heap.size, 7, none⟩ = some (.int .u32 (S.h.toNat : Int)) := D2.cell 7
      repeat still_step
      refine wpStill_nil ?_
      clear c0 c1 c2 c3 c4 c5 c6 c7
      obtain ⟨R, hR⟩ : ∃ R, R = blockS S (l.take 64) := ⟨_, rfl⟩
      go_wp2_with (first
        | (refine wpList_store_part rfl 138 (.tmp 41) (.tmp 40) rfl (g := w.heap.size) (off := 0) rfl rfl E2 A.u8 (Nat.le_of_ble_eq_true rfl) (s8V_one R) ?_; intro w4 h4 hg4)
        | (go_at_call 119; refine (block_any S (l.take 64) _ HT.out (hT.gr Dg)).mono ?_; rw [← hR]; rintro e w3 ⟨rfl, g3⟩; have HRR := sec hR; clear hR; have E2 := D2.gr g3; have E4 := D4.gr g3; have Eg := Dg.trans g3; clear g3))
      have hl3 : (l.drop 64).length < l.length := by rw [List.length_drop]; omega
      have HL3 := sec hl3
      clear hl3
      go_roundw
      case rel =>
        exact ⟨R, l.drop 64, rfl, by have := HL3.out; omega, by rw [HRR.out]; exact HO.out, HR.out, h4, E4.only hg4 (by omega), Eg.only hg4 (Nat.le_refl _)⟩
      case measure => have := HL3.out; simp [lenOf, bs_size]; omega

set_option maxRecDepth 100000 in
set_option maxHeartbeats 1000000 in
/-- Add, where the state is not good or there is no room -/
theorem add_no (s : S8) (r : List UInt8) (m : Int) (b : List UInt8) (w : World) (hr : r.length < 4611686018427387904) (hb : b.length ≤ 576460752303423488) (h : goodB r m = false ∨ ¬ m + b.length < 1152921504606846976) :
    Calls Tryz.prog 77 #[stV s r m, .string (bs b)] w fun e w' => e = .returned (.tuple #[stV zeroS [] 0, .int .i64 3]) ∧ Gr w w' := by
  have hb' : (b.length : Int) ≤ 576460752303423488 := by omega
  unfold stV stCells
  cases hg : goodB r m with
  | false =>
    have HG := sec hg
    clear hg h
    go_enter Tryz.func77, Tryz.ntmps77
    go_wp2_with (first
      | (refine wpList_store_blk rfl 140 (.tmp 4) (.tmp 22) rfl (g := w.heap.size + 1) rfl rfl hB4 A.state rfl (stCells_one zeroS [] 0) ?_; intro w3 h3 hg3)
      | (go_at_call 118; refine (good_any s r m _ hr).mono ?_; rw [HG.out]; rintro e w1 ⟨rfl, g1⟩;  have hB4 : Blk w1 (w.heap.size + 1) 140 (stCells zeroS [] 0) := Blk.gr (Blk.new1 w _ _ _) g1; have hg1 : Gr w w1 := (((Gr.refl w).alloc _).alloc _).trans g1; clear g1))
    exact bodyPost_ret (results_blk_tmp rfl _ rfl h3 A.state) rfl ⟨rfl, hg1.only hg3 (by omega)⟩
  | true =>
    have hg' := (goodB_iff r m).1 hg
    obtain ⟨hm0, hm1, hm2⟩ := hg'
    have hmm : IntKind.i64.wrap (m + b.length) = m + b.length := IntWalk.i64_in _ (by omega)
    have hm : ¬ m + b.length < 1152921504606846976 := by
      rcases h with h | h
      · rw [hg] at h; cases h
      · exact h
    have HG := sec hg
    clear hg h hm2
    go_enter Tryz.func77, Tryz.ntmps77
    go_wp2_with (first
      | (refine wpList_store_blk rfl 140 (.tmp 4) (.tmp 22) rfl (g := w.heap.size + 1) rfl rfl hB4 A.state rfl (stCells_one zeroS [] 0) ?_; intro w3 h3 hg3)
      | (go_at_call 118; refine (good_any s r m _ hr).mono ?_; rw [HG.out]; rintro e w1 ⟨rfl, g1⟩; have cm : w1.cell? ⟨w.heap.size, 9, none⟩ = some (.int .i64 m) := (((Blk.new w 140 (stCells s r m)).alloc (.cells (stCells zeroS [] 0) 140)).gr g1).cell 9; have hB4 : Blk w1 (w.heap.size + 1) 140 (stCells zeroS [] 0) := Blk.gr (Blk.new1 w _ _ _) g1; have hg1 : Gr w w1 := (((Gr.refl w).alloc _).alloc _).trans g1; clear g1))
    exact bodyPost_ret (results_blk_tmp rfl _ rfl h3 A.state) rfl ⟨rfl, hg1.only hg3 (by omega)⟩
end Go.Proofs.YtdpombnelangjaaGreatDoor

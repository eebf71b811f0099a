/-
  cartularyref.Add, End by their contracts.
-/
import Derived.Test.YtojiheelacmniaaDoorRSumS
namespace Go.Proofs.YtojiheelacmniaaDoor
open Go.RowKit
set_option linter.unusedVariables false

set_option maxRecDepth 100000 in
set_option maxHeartbeats 1000000 in
theorem radd_no (s : S8) (r : List UInt8) (m : Int) (b : List UInt8) (w : World) (hr : r.length < 4611686018427387904) (hb : b.length ≤ 576460752303423488) (h : goodB r m = false ∨ ¬ m + b.length < 1152921504606846976) :
    Calls Tryd.prog 11 #[stV s r m, .string (bs b)] w fun e w' => e = .returned (.tuple #[stV zeroS [] 0, .int .i64 3]) ∧ Gr w w' := by
  have hb' : (b.length : Int) ≤ 576460752303423488 := by omega
  unfold stV stCells
  cases hg : goodB r m with
  | false =>
    have HG := sec hg
    clear hg h
    go_enter Tryd.func11, Tryd.ntmps11
    go_wp2_with (first
      | (refine wpList_store_blk rfl 28 (.tmp 4) (.tmp 24) rfl (g := w.heap.size + 1) rfl rfl hB4 A.state rfl (stCells_one zeroS [] 0) ?_; intro w3 h3 hg3)
      | (go_at_call 15; refine (rgood_any s r m _ hr).mono ?_; rw [HG.out]; rintro e w1 ⟨rfl, g1⟩; have hB4 : Blk w1 (w.heap.size + 1) 28 (stCells zeroS [] 0) := Blk.gr (Blk.new1 w _ _ _) g1; have hg1 : Gr w w1 := (((Gr.refl w).alloc _).alloc _).trans g1; clear g1))
    exact bodyPost_ret (results_blk_tmp rfl _ rfl h3 A.state) rfl ⟨rfl, hg1.only hg3 (by omega)⟩
  | true =>
    have hg' := (goodB_iff r m).1 hg
    obtain ⟨hm0, hm1, hm2⟩ := hg'
    have hmm : IntKind.i64.wrap (m + b.length) = m + b.length := IntWalk.i64_in _ (by omega)
    have hm : ¬ m + b.length < 1152921504606846976 := by
      rcases h with h | h
      · rw [hg] at h; cases h
      · exact h
    have HG := sec hg
    clear hg h hm2
    go_enter Tryd.func11, Tryd.ntmps11
    go_wp2_with (first
      | (refine wpList_store_blk rfl 28 (.tmp 4) (.tmp 24) rfl (g := w.heap.size + 1) rfl rfl hB4 A.state rfl (stCells_one zeroS [] 0) ?_; intro w3 h3 hg3)
      | (go_at_call 15; refine (rgood_any s r m _ hr).mono ?_; rw [HG.out]; rintro e w1 ⟨rfl, g1⟩; have cm : w1.cell? ⟨w.heap.size, 9, none⟩ = some (.int .i64 m) := (((Blk.new w 28 (stCells s r m)).alloc (.cells (stCells zeroS [] 0) 28)).gr g1).cell 9; have hB4 : Blk w1 (w.heap.size + 1) 28 (stCells zeroS [] 0) := Blk.gr (Blk.new1 w _ _ _) g1; have hg1 : Gr w w1 := (((Gr.refl w).alloc _).alloc _).trans g1; clear g1))
    exact bodyPost_ret (results_blk_tmp rfl _ rfl h3 A.state) rfl ⟨rfl, hg1.only hg3 (by omega)⟩

theorem stCells_fill (S : S8) (R : List UInt8) (M : Int) : (((((((((((stCells zeroS [] 0).setIfInBounds 0 (.int .u32 (S.a.toNat : Int))).setIfInBounds 1 (.int .u32 (S.b.toNat : Int))).setIfInBounds 2 (.int .u32 (S.c.toNat : Int))).setIfInBounds 3 (.int .u32 (S.d.toNat : Int))).setIfInBounds 4 (.int .u32 (S.e.toNat : Int))).setIfInBounds 5 (.int .u32 (S.f.toNat : Int))).setIfInBounds 6 (.int .u32 (S.g.toNat : Int))).setIfInBounds 7 (.int .u32 (S.h.toNat : Int))).setIfInBounds 8 (.string (bs R))).setIfInBounds 9 (.int .i64 M)) = stCells S R M := by
  simp [stCells, u32V]
theorem S_of {w w' : World} {s : S8} {r : List UInt8} {m : Int} (hB2 : Blk w' w.heap.size 28 (stCells s r m)) (hg : Gr w w') :
    w'.cell? ⟨w.heap.size, 0, none⟩ = some (.int .u32 (s.a.toNat : Int)) ∧ w'.cell? ⟨w.heap.size, 1, none⟩ = some (.int .u32 (s.b.toNat : Int)) ∧ w'.cell? ⟨w.heap.size, 2, none⟩ = some (.int .u32 (s.c.toNat : Int)) ∧ w'.cell? ⟨w.heap.size, 3, none⟩ = some (.int .u32 (s.d.toNat : Int)) ∧ w'.cell? ⟨w.heap.size, 4, none⟩ = some (.int .u32 (s.e.toNat : Int)) ∧ w'.cell? ⟨w.heap.size, 5, none⟩ = some (.int .u32 (s.f.toNat : Int)) ∧ w'.cell? ⟨w.heap.size, 6, none⟩ = some (.int .u32 (s.g.toNat : Int)) ∧ w'.cell? ⟨w.heap.size, 7, none⟩ = some (.int .u32 (s.h.toNat : Int)) ∧ w'.cell? ⟨w.heap.size, 9, none⟩ = some (.int .i64 m) ∧ Gr w w' :=
  ⟨hB2.cell 0, hB2.cell 1, hB2.cell 2, hB2.cell 3, hB2.cell 4, hB2.cell 5, hB2.cell 6, hB2.cell 7, hB2.cell 9, hg⟩
set_option maxRecDepth 100000 in
set_option maxHeartbeats 2000000 in
theorem radd_ok (s : S8) (r : List UInt8) (m : Int) (b : List UInt8) (w : World) (hg : goodB r m = true) (hb : b.length ≤ 576460752303423488) (hm : m + b.length < 1152921504606846976) :
    Calls Tryd.prog 11 #[stV s r m, .string (bs b)] w fun e w' => e = .returned (.tuple #[stV (overS s (r ++ b)) (restOf (r ++ b)) (m + b.length), .int .i64 0]) ∧ Gr w w' := by
  have hg' := (goodB_iff r m).1 hg
  obtain ⟨hm0, hm1, hm2⟩ := hg'
  have hr : r.length < 4611686018427387904 := by omega
  have hb' : (b.length : Int) ≤ 576460752303423488 := by omega
  have hmm : IntKind.i64.wrap (m + b.length) = m + b.length := IntWalk.i64_in _ (by omega)
  have hall : r.length + b.length < 4611686018427387904 := by omega
  have HG := sec hg
  clear hg hm2
  obtain ⟨L, hL⟩ : ∃ L, L = r ++ b := ⟨_, rfl⟩
  have hLl : L.length < 4611686018427387904 := by rw [hL, List.length_append]; exact hall
  have e1 : ((L.length : Int) - (L.length : Int) % 64) = ((L.length / 64 * 64 : Nat) : Int) := by omega
  obtain ⟨k, hk⟩ : ∃ k, k = L.length / 64 * 64 := ⟨_, rfl⟩
  rw [← hk] at e1
  have hk1 : k ≤ L.length := by omega
  have hk2 : (k : Int) ≤ (L.length : Int) := by omega
  have e2 : ((r.length : Int) + (b.length : Int) - ((r.length : Int) + (b.length : Int)) % 64) = (k : Int) := by
    rw [← e1, hL, List.length_append]; omega
  clear e1
  have HD : Sec (L.drop k = restOf L) := sec (by rw [hk]; rfl)
  have HT : Sec (overS s (L.take k) = overS s L) := sec (by rw [hk]; exact overS_take _ _ _ rfl)
  have HL : Sec ((L.take k).length < 4611686018427387904) := sec (by rw [List.length_take]; omega)
  have H3 : Sec ((L.take k).length % 64 = 0) := sec (by rw [List.length_take]; omega)
  obtain ⟨S, hS⟩ : ∃ S, S = overS s L := ⟨_, rfl⟩
  obtain ⟨R, hR⟩ : ∃ R, R = restOf L := ⟨_, rfl⟩
  rw [← hL, ← hS, ← hR]
  rw [← hR] at HD
  rw [← hS] at HT
  have HLL := sec hL
  clear hk hS hR hL hall
  unfold stV
  unfold stCells
  go_enter Tryd.func11, Tryd.ntmps11
  go_wp2_with ((go_at_call 15; refine (rgood_any s r m _ hr).mono ?_; rw [HG.out]; rintro e w1 ⟨rfl, g1⟩; have hB2 := ((Blk.new w 28 (stCells s r m)).alloc (.cells (stCells zeroS [] 0) 28)).gr g1; have hB4 : Blk w1 (w.heap.size + 1) 28 (stCells zeroS [] 0) := Blk.gr (Blk.new1 w _ _ _) g1; have hg1 : Gr w w1 := (((Gr.refl w).alloc _).alloc _).trans g1; clear g1; have cr : w1.cell? ⟨w.heap.size, 8, none⟩ = some (.string (bs r)) := hB2.cell 8; have cm : w1.cell? ⟨w.heap.size, 9, none⟩ = some (.int .i64 m) := hB2.cell 9))
  rw [← HLL.out]
  go_region_held3 (fun w' => w'.cell? ⟨w.heap.size, 0, none⟩ = some (.int .u32 (s.a.toNat : Int)) ∧ w'.cell? ⟨w.heap.size, 1, none⟩ = some (.int .u32 (s.b.toNat : Int)) ∧ w'.cell? ⟨w.heap.size, 2, none⟩ = some (.int .u32 (s.c.toNat : Int)) ∧ w'.cell? ⟨w.heap.size, 3, none⟩ = some (.int .u32 (s.d.toNat : Int)) ∧ w'.cell? ⟨w.heap.size, 4, none⟩ = some (.int .u32 (s.e.toNat : Int)) ∧ w'.cell? ⟨w.heap.size, 5, none⟩ = some (.int .u32 (s.f.toNat : Int)) ∧ w'.cell? ⟨w.heap.size, 6, none⟩ = some (.int .u32 (s.g.toNat : Int)) ∧ w'.cell? ⟨w.heap.size, 7, none⟩ = some (.int .u32 (s.h.toNat : Int)) ∧ w'.cell? ⟨w.heap.size, 9, none⟩ = some (.int .i64 m) ∧ Gr w w')
    (first | with_reducible assumption | with_reducible exact S_of hB2 hg1 | with_reducible exact S_of hB2.drew hg1.drew | with_reducible exact S_of E2 Eg | exact S_of ((((((((((E2.far (by simp) _).far (by simp) _).far (by simp) _).far (by simp) _).far (by simp) _).far (by simp) _).far (by simp) _).far (by simp) _).far (by simp) _).far (by simp) _) ((((((((((Eg.setCell (by simp) _).setCell (by simp) _).setCell (by simp) _).setCell (by simp) _).setCell (by simp) _).setCell (by simp) _).setCell (by simp) _).setCell (by simp) _).setCell (by simp) _).setCell (by simp) _))
    (first
      | (go_at_call 25; refine (over_any s (L.take k) _ HL.out H3.out).mono ?_; rw [HT.out]; unfold s8V u32V; rintro e w2 ⟨rfl, g2⟩; have E2 : Blk w2 w.heap.size 28 (stCells s r m) := Blk.gr hB2.drew g2; have E4 : Blk w2 (w.heap.size + 1) 28 (stCells zeroS [] 0) := Blk.gr hB4.drew g2; have Eg : Gr w w2 := Gr.trans hg1.drew g2; have z0 : ∃ v, w2.cell? ⟨w.heap.size + 1, 0, none⟩ = some v := ⟨_, E4.cell 0⟩; obtain ⟨v0, z0⟩ := z0; have f0 := E4.frozen 0; have z1 : ∃ v, w2.cell? ⟨w.heap.size + 1, 1, none⟩ = some v := ⟨_, E4.cell 1⟩; obtain ⟨v1, z1⟩ := z1; have f1 := E4.frozen 1; have z2 : ∃ v, w2.cell? ⟨w.heap.size + 1, 2, none⟩ = some v := ⟨_, E4.cell 2⟩; obtain ⟨v2, z2⟩ := z2; have f2 := E4.frozen 2; have z3 : ∃ v, w2.cell? ⟨w.heap.size + 1, 3, none⟩ = some v := ⟨_, E4.cell 3⟩; obtain ⟨v3, z3⟩ := z3; have f3 := E4.frozen 3; have z4 : ∃ v, w2.cell? ⟨w.heap.size + 1, 4, none⟩ = some v := ⟨_, E4.cell 4⟩; obtain ⟨v4, z4⟩ := z4; have f4 := E4.frozen 4; have z5 : ∃ v, w2.cell? ⟨w.heap.size + 1, 5, none⟩ = some v := ⟨_, E4.cell 5⟩; obtain ⟨v5, z5⟩ := z5; have f5 := E4.frozen 5; have z6 : ∃ v, w2.cell? ⟨w.heap.size + 1, 6, none⟩ = some v := ⟨_, E4.cell 6⟩; obtain ⟨v6, z6⟩ := z6; have f6 := E4.frozen 6; have z7 : ∃ v, w2.cell? ⟨w.heap.size + 1, 7, none⟩ = some v := ⟨_, E4.cell 7⟩; obtain ⟨v7, z7⟩ := z7; have f7 := E4.frozen 7; have z8 : ∃ v, w2.cell? ⟨w.heap.size + 1, 8, none⟩ = some v := ⟨_, E4.cell 8⟩; obtain ⟨v8, z8⟩ := z8; have f8 := E4.frozen 8; have z9 : ∃ v, w2.cell? ⟨w.heap.size + 1, 9, none⟩ = some v := ⟨_, E4.cell 9⟩; obtain ⟨v9, z9⟩ := z9; have f9 := E4.frozen 9)
      | fail)
  go_wp2_with fail
  rw [HD.out]
  have hz := ((((((((((E4.set_ 0 (.int .u32 (S.a.toNat : Int))).set_ 1 (.int .u32 (S.b.toNat : Int))).set_ 2 (.int .u32 (S.c.toNat : Int))).set_ 3 (.int .u32 (S.d.toNat : Int))).set_ 4 (.int .u32 (S.e.toNat : Int))).set_ 5 (.int .u32 (S.f.toNat : Int))).set_ 6 (.int .u32 (S.g.toNat : Int))).set_ 7 (.int .u32 (S.h.toNat : Int))).set_ 8 (.string (bs R))).set_ 9 (.int .i64 (m + (b.length : Int))))
  rw [stCells_fill] at hz
  generalize hw : World.setCell _ _ _ = wz at hz
  have hgz : Gr w wz := by
    rw [← hw]
    exact ((((((((((Eg.setCell (by simp) _).setCell (by simp) _).setCell (by simp) _).setCell (by simp) _).setCell (by simp) _).setCell (by simp) _).setCell (by simp) _).setCell (by simp) _).setCell (by simp) _).setCell (by simp) _)
  exact bodyPost_ret (results_blk_tmp rfl _ rfl hz A.state) rfl ⟨rfl, hgz⟩
end Go.Proofs.YtojiheelacmniaaDoor

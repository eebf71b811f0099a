/-
  cartularylaw.SumAdds: the walk.
-/
import Derived.Test.YtojiheelacmniaaDoorHex
import Derived.Test.YtojiheelacmniaaDoorRAdd
import Derived.Test.YtojiheelacmniaaDoorREnd
import Derived.Test.YtojiheelacmniaaDoorOpenSt
import Derived.Laws.StructEq
import Derived.ChangeKeysEq
namespace Go.Proofs.YtojiheelacmniaaDoor
open Go.RowKit
set_option linter.unusedVariables false
set_option maxRecDepth 100000

theorem eq_heads (s : S8) (w : World) : (Op.equalIn 9999 26 (.agg #[u32V s.a, u32V s.b, u32V s.c, u32V s.d, u32V s.e, u32V s.f, u32V s.g, u32V s.h]) (.agg #[u32V s.a, u32V s.b, u32V s.c, u32V s.d, u32V s.e, u32V s.f, u32V s.g, u32V s.h])).run Tryd.prog w = .ok true w := by
  obtain ⟨i, hi, hz0, hz1, hz2⟩ := info_parts (show (Tryd.prog.info? 25).map (fun i => (i.zero, i.size, i.bytes)) = some (some (.int .u32 0), 1, 4) by kernel_rfl)
  rw [run_equalIn_array w 9998 _ _ Tryd.underlying26 hi, show Tryd.prog.cellsOf 25 = 1 by kernel_rfl]
  simp [List.range_succ, Op.eqItems, go_sem, u32V]
theorem eq_state (s : S8) (r : List UInt8) (m : Int) (w : World) : (binOp .eql 28 (.agg (stCells s r m)) (.agg (stCells s r m))).run Tryd.prog w = .ok (.bool true) w := by
  simp [go_sem, stCells, eq_heads]

/-- what Add answers: heads, rest, many, the error -/
def addOut (s : S8) (r : List UInt8) (m : Int) (b : List UInt8) : S8 × List UInt8 × Int × Int :=
  if goodB r m = true ∧ m + b.length < 1152921504606846976 then (overS s (r ++ b), restOf (r ++ b), m + b.length, 0) else (zeroS, [], 0, 3)
def addV (x : S8 × List UInt8 × Int × Int) : Value := .tuple #[stV x.1 x.2.1 x.2.2.1, .int .i64 x.2.2.2]
theorem add_any (s : S8) (r : List UInt8) (m : Int) (b : List UInt8) (w : World) (hT : TabK w) (hr : r.length < 4611686018427387904) (hb : b.length ≤ 576460752303423488) :
    Calls Tryd.prog 10 #[stV s r m, .string (bs b)] w fun e w' => e = .returned (addV (addOut s r m b)) ∧ Gr w w' := by
  by_cases h : goodB r m = true ∧ m + b.length < 1152921504606846976
  · have e : addOut s r m b = (overS s (r ++ b), restOf (r ++ b), m + b.length, 0) := if_pos h
    rw [e]; exact add_ok s r m b w hT h.1 hb h.2
  · have e : addOut s r m b = (zeroS, [], 0, 3) := if_neg h
    rw [e]; exact add_no s r m b w hr hb (by cases hg : goodB r m with | false => exact .inl rfl | true => exact .inr (fun h2 => h ⟨hg, h2⟩))
theorem radd_any (s : S8) (r : List UInt8) (m : Int) (b : List UInt8) (w : World) (hr : r.length < 4611686018427387904) (hb : b.length ≤ 576460752303423488) :
    Calls Tryd.prog 11 #[stV s r m, .string (bs b)] w fun e w' => e = .returned (addV (addOut s r m b)) ∧ Gr w w' := by
  by_cases h : goodB r m = true ∧ m + b.length < 1152921504606846976
  · have e : addOut s r m b = (overS s (r ++ b), restOf (r ++ b), m + b.length, 0) := if_pos h
    rw [e]; exact radd_ok s r m b w h.1 hb h.2
  · have e : addOut s r m b = (zeroS, [], 0, 3) := if_neg h
    rw [e]; exact radd_no s r m b w hr hb (by cases hg : goodB r m with | false => exact .inl rfl | true => exact .inr (fun h2 => h ⟨hg, h2⟩))
def endOut (s : S8) (r : List UInt8) (m : Int) : List UInt8 × Int := if goodB r m = true then (endOf s r m.toNat, 0) else ([], 3)
def endV (x : List UInt8 × Int) : Value := .tuple #[.string (bs x.1), .int .i64 x.2]
theorem end_any (s : S8) (r : List UInt8) (m : Int) (w : World) (hT : TabK w) (hr : r.length < 4611686018427387904) :
    Calls Tryd.prog 12 #[stV s r m] w fun e w' => e = .returned (endV (endOut s r m)) ∧ Gr w w' := by
  cases h : goodB r m with
  | true =>
    have hm := ((goodB_iff r m).1 h).1
    obtain ⟨n, rfl⟩ : ∃ n : Nat, m = (n : Int) := ⟨m.toNat, by omega⟩
    have e : endOut s r n = (endOf s r n, 0) := if_pos h
    rw [e]; exact end_ok s r n w hT h
  | false =>
    have e : endOut s r m = ([], 3) := if_neg (by rw [h]; simp)
    rw [e]; exact end_no s r m w hr h
theorem rend_any (s : S8) (r : List UInt8) (m : Int) (w : World) (hr : r.length < 4611686018427387904) :
    Calls Tryd.prog 13 #[stV s r m] w fun e w' => e = .returned (endV (endOut s r m)) ∧ Gr w w' := by
  cases h : goodB r m with
  | true =>
    have hm := ((goodB_iff r m).1 h).1
    obtain ⟨n, rfl⟩ : ∃ n : Nat, m = (n : Int) := ⟨m.toNat, by omega⟩
    have e : endOut s r n = (endOf s r n, 0) := if_pos h
    rw [e]; exact rend_ok s r n w h
  | false =>
    have e : endOut s r m = ([], 3) := if_neg (by rw [h]; simp)
    rw [e]; exact rend_no s r m w hr h

theorem S4 {W w' : World} {g1 g2 : Nat} {s S : S8} {r R : List UInt8} {m M : Int} (a : Blk w' W.heap.size 28 (stCells s r m)) (b : Blk w' g1 28 (stCells S R M)) (c : Blk w' g2 28 (stCells S R M)) (g : Gr W w') :
    w'.cell? ⟨W.heap.size, 0, none⟩ = some (.int .u32 (s.a.toNat : Int)) ∧ w'.cell? ⟨W.heap.size, 1, none⟩ = some (.int .u32 (s.b.toNat : Int)) ∧ w'.cell? ⟨W.heap.size, 2, none⟩ = some (.int .u32 (s.c.toNat : Int)) ∧ w'.cell? ⟨W.heap.size, 3, none⟩ = some (.int .u32 (s.d.toNat : Int)) ∧ w'.cell? ⟨W.heap.size, 4, none⟩ = some (.int .u32 (s.e.toNat : Int)) ∧ w'.cell? ⟨W.heap.size, 5, none⟩ = some (.int .u32 (s.f.toNat : Int)) ∧ w'.cell? ⟨W.heap.size, 6, none⟩ = some (.int .u32 (s.g.toNat : Int)) ∧ w'.cell? ⟨W.heap.size, 7, none⟩ = some (.int .u32 (s.h.toNat : Int)) ∧ w'.cell? ⟨W.heap.size, 8, none⟩ = some (.string (bs r)) ∧ w'.cell? ⟨W.heap.size, 9, none⟩ = some (.int .i64 m) ∧ w'.cell? ⟨g1, 0, none⟩ = some (.int .u32 (S.a.toNat : Int)) ∧ w'.cell? ⟨g1, 1, none⟩ = some (.int .u32 (S.b.toNat : Int)) ∧ w'.cell? ⟨g1, 2, none⟩ = some (.int .u32 (S.c.toNat : Int)) ∧ w'.cell? ⟨g1, 3, none⟩ = some (.int .u32 (S.d.toNat : Int)) ∧ w'.cell? ⟨g1, 4, none⟩ = some (.int .u32 (S.e.toNat : Int)) ∧ w'.cell? ⟨g1, 5, none⟩ = some (.int .u32 (S.f.toNat : Int)) ∧ w'.cell? ⟨g1, 6, none⟩ = some (.int .u32 (S.g.toNat : Int)) ∧ w'.cell? ⟨g1, 7, none⟩ = some (.int .u32 (S.h.toNat : Int)) ∧ w'.cell? ⟨g1, 8, none⟩ = some (.string (bs R)) ∧ w'.cell? ⟨g1, 9, none⟩ = some (.int .i64 M) ∧ w'.cell? ⟨g2, 0, none⟩ = some (.int .u32 (S.a.toNat : Int)) ∧ w'.cell? ⟨g2, 1, none⟩ = some (.int .u32 (S.b.toNat : Int)) ∧ w'.cell? ⟨g2, 2, none⟩ = some (.int .u32 (S.c.toNat : Int)) ∧ w'.cell? ⟨g2, 3, none⟩ = some (.int .u32 (S.d.toNat : Int)) ∧ w'.cell? ⟨g2, 4, none⟩ = some (.int .u32 (S.e.toNat : Int)) ∧ w'.cell? ⟨g2, 5, none⟩ = some (.int .u32 (S.f.toNat : Int)) ∧ w'.cell? ⟨g2, 6, none⟩ = some (.int .u32 (S.g.toNat : Int)) ∧ w'.cell? ⟨g2, 7, none⟩ = some (.int .u32 (S.h.toNat : Int)) ∧ w'.cell? ⟨g2, 8, none⟩ = some (.string (bs R)) ∧ w'.cell? ⟨g2, 9, none⟩ = some (.int .i64 M) ∧ Gr W w' :=
  ⟨a.cell 0, a.cell 1, a.cell 2, a.cell 3, a.cell 4, a.cell 5, a.cell 6, a.cell 7, a.cell 8, a.cell 9, b.cell 0, b.cell 1, b.cell 2, b.cell 3, b.cell 4, b.cell 5, b.cell 6, b.cell 7, b.cell 8, b.cell 9, c.cell 0, c.cell 1, c.cell 2, c.cell 3, c.cell 4, c.cell 5, c.cell 6, c.cell 7, c.cell 8, c.cell 9, g⟩
set_option maxRecDepth 100000 in
set_option maxHeartbeats 2000000 in
theorem sumAdds_walk (s : S8) (r : List UInt8) (m : Int) (b : List UInt8) (W : World) (hr0 : r.length ≤ 1048576 ∧ -9223372036854775808 ≤ m ∧ m ≤ 9223372036854775807) (hb : b.length ≤ 1048576) (hT : TabK W) :
    Calls Tryd.prog 4 #[stV s r m, .string (bs b)] W fun e w' => e = .returned (.bool true) ∧ Gr W w' := by
  have hr : r.length < 4611686018427387904 := by omega
  obtain ⟨⟨S, R, M, E⟩, hX⟩ : ∃ x, x = addOut s r m b := ⟨_, rfl⟩
  obtain ⟨⟨D, F⟩, hY⟩ : ∃ x, x = endOut s r m := ⟨_, rfl⟩
  have HX := sec hX
  have HY := sec hY
  clear hX hY
  obtain ⟨G, hG⟩ : ∃ G, G = goodB r m := ⟨_, rfl⟩
  have HG := sec hG
  clear hG
  unfold stV
  go_enter Tryd.func4, Tryd.ntmps4
  go_wp2_with (first
    | (refine wpList_load_blk rfl 28 (.tmp 2) rfl (g := W.heap.size) rfl (Blk.new W _ _) A.state ?_)
    | (refine wpList_load_blk rfl 28 (.tmp 2) rfl (g := W.heap.size) rfl b4 A.state ?_)
    | (refine wpList_load_blk rfl 28 (.tmp 2) rfl (g := W.heap.size) rfl b2 A.state ?_)
    | (refine wpList_store_blk rfl 28 (.tmp 5) (.tmp 17) rfl (g := w1.heap.size) rfl rfl (Blk.new w1 _ _) A.state rfl (stCells_one _ _ _) ?_; intro w2 h5 hg2; have b2 := (b1.alloc (.cells (stCells zeroS [] 0) 28)).only hg2 (by have := b1.lt; omega); have g2 : Gr W w2 := Gr.only (g1.alloc _) hg2 g1.size; clear hg2)
    | (refine wpList_store_blk rfl 28 (.tmp 7) (.tmp 23) rfl (g := w3.heap.size) rfl rfl (Blk.new w3 _ _) A.state rfl (stCells_one _ _ _) ?_; intro w4 h7 hg4; have b4 := (b3.alloc (.cells (stCells zeroS [] 0) 28)).only hg4 (by have := b3.lt; omega); have c5 := (h5'.alloc (.cells (stCells zeroS [] 0) 28)).only hg4 (by have := h5'.lt; omega); have g4 : Gr W w4 := Gr.only (g3.alloc _) hg4 g3.size; clear hg4)
    | (go_at_call 10; refine (add_any s r m b _ (hT.gr ((Gr.refl W).alloc _)) hr (by omega)).mono ?_; rw [← HX.out]; unfold addV stV; rintro e w1 ⟨rfl, g1'⟩; have b1 := (Blk.new W 28 (stCells s r m)).gr g1'; have g1 : Gr W w1 := ((Gr.refl W).alloc _).trans g1'; clear g1')
    | (go_at_call 11; refine (radd_any s r m b _ hr (by omega)).mono ?_; rw [← HX.out]; unfold addV stV; rintro e w3 ⟨rfl, g3'⟩; have b3 := b2.gr g3'; have h5' := h5.gr g3'; have g3 : Gr W w3 := g2.trans g3'; clear g3')
    | (go_at_call 12; refine (end_any s r m _ (hT.gr g4) hr).mono ?_; rw [← HY.out]; unfold endV; rintro e w5 ⟨rfl, g5'⟩; have b4 := b4.gr g5'; have d5 := c5.gr g5'; have d7 := h7.gr g5'; have g5 : Gr W w5 := g4.trans g5'; clear g5')
    | (go_at_call 13; refine (rend_any s r m _ hr).mono ?_; rw [← HY.out]; unfold endV; rintro e w6 ⟨rfl, g6'⟩; have b6 := b4.gr g6'; have e5 := d5.gr g6'; have e7 := d7.gr g6'; have g6 : Gr W w6 := g5.trans g6'; clear g6'))
  have q1 : ∀ w, (binOp .eql 28 (.agg #[.int .u32 (S.a.toNat : Int), .int .u32 (S.b.toNat : Int), .int .u32 (S.c.toNat : Int), .int .u32 (S.d.toNat : Int), .int .u32 (S.e.toNat : Int), .int .u32 (S.f.toNat : Int), .int .u32 (S.g.toNat : Int), .int .u32 (S.h.toNat : Int), .string (bs R), .int .i64 M]) (.agg #[.int .u32 (S.a.toNat : Int), .int .u32 (S.b.toNat : Int), .int .u32 (S.c.toNat : Int), .int .u32 (S.d.toNat : Int), .int .u32 (S.e.toNat : Int), .int .u32 (S.f.toNat : Int), .int .u32 (S.g.toNat : Int), .int .u32 (S.h.toNat : Int), .string (bs R), .int .i64 M])).run Tryd.prog w = .ok (.bool true) w := eq_state S R M
  have q2 : ∀ w, (binOp .eql 28 (.agg #[u32V startS.a, u32V startS.b, u32V startS.c, u32V startS.d, u32V startS.e, u32V startS.f, u32V startS.g, u32V startS.h, .string (bs []), .int .i64 0]) (.agg #[u32V startS.a, u32V startS.b, u32V startS.c, u32V startS.d, u32V startS.e, u32V startS.f, u32V startS.g, u32V startS.h, .string (bs []), .int .i64 0])).run Tryd.prog w = .ok (.bool true) w := eq_state startS [] 0
  go_region_held3 (fun w' => w'.cell? ⟨W.heap.size, 0, none⟩ = some (.int .u32 (s.a.toNat : Int)) ∧ w'.cell? ⟨W.heap.size, 1, none⟩ = some (.int .u32 (s.b.toNat : Int)) ∧ w'.cell? ⟨W.heap.size, 2, none⟩ = some (.int .u32 (s.c.toNat : Int)) ∧ w'.cell? ⟨W.heap.size, 3, none⟩ = some (.int .u32 (s.d.toNat : Int)) ∧ w'.cell? ⟨W.heap.size, 4, none⟩ = some (.int .u32 (s.e.toNat : Int)) ∧ w'.cell? ⟨W.heap.size, 5, none⟩ = some (.int .u32 (s.f.toNat : Int)) ∧ w'.cell? ⟨W.heap.size, 6, none⟩ = some (.int .u32 (s.g.toNat : Int)) ∧ w'.cell? ⟨W.heap.size, 7, none⟩ = some (.int .u32 (s.h.toNat : Int)) ∧ w'.cell? ⟨W.heap.size, 8, none⟩ = some (.string (bs r)) ∧ w'.cell? ⟨W.heap.size, 9, none⟩ = some (.int .i64 m) ∧ w'.cell? ⟨w1.heap.size, 0, none⟩ = some (.int .u32 (S.a.toNat : Int)) ∧ w'.cell? ⟨w1.heap.size, 1, none⟩ = some (.int .u32 (S.b.toNat : Int)) ∧ w'.cell? ⟨w1.heap.size, 2, none⟩ = some (.int .u32 (S.c.toNat : Int)) ∧ w'.cell? ⟨w1.heap.size, 3, none⟩ = some (.int .u32 (S.d.toNat : Int)) ∧ w'.cell? ⟨w1.heap.size, 4, none⟩ = some (.int .u32 (S.e.toNat : Int)) ∧ w'.cell? ⟨w1.heap.size, 5, none⟩ = some (.int .u32 (S.f.toNat : Int)) ∧ w'.cell? ⟨w1.heap.size, 6, none⟩ = some (.int .u32 (S.g.toNat : Int)) ∧ w'.cell? ⟨w1.heap.size, 7, none⟩ = some (.int .u32 (S.h.toNat : Int)) ∧ w'.cell? ⟨w1.heap.size, 8, none⟩ = some (.string (bs R)) ∧ w'.cell? ⟨w1.heap.size, 9, none⟩ = some (.int .i64 M) ∧ w'.cell? ⟨w3.heap.size, 0, none⟩ = some (.int .u32 (S.a.toNat : Int)) ∧ w'.cell? ⟨w3.heap.size, 1, none⟩ = some (.int .u32 (S.b.toNat : Int)) ∧ w'.cell? ⟨w3.heap.size, 2, none⟩ = some (.int .u32 (S.c.toNat : Int)) ∧ w'.cell? ⟨w3.heap.size, 3, none⟩ = some (.int .u32 (S.d.toNat : Int)) ∧ w'.cell? ⟨w3.heap.size, 4, none⟩ = some (.int .u32 (S.e.toNat : Int)) ∧ w'.cell? ⟨w3.heap.size, 5, none⟩ = some (.int .u32 (S.f.toNat : Int)) ∧ w'.cell? ⟨w3.heap.size, 6, none⟩ = some (.int .u32 (S.g.toNat : Int)) ∧ w'.cell? ⟨w3.heap.size, 7, none⟩ = some (.int .u32 (S.h.toNat : Int)) ∧ w'.cell? ⟨w3.heap.size, 8, none⟩ = some (.string (bs R)) ∧ w'.cell? ⟨w3.heap.size, 9, none⟩ = some (.int .i64 M) ∧ Gr W w')
    (first | with_reducible assumption | with_reducible exact S4 b6 e5 e7 g6 | with_reducible exact S4 b6.drew e5.drew e7.drew g6.drew | with_reducible exact S4 b7 x7 y7 g7 | with_reducible exact S4 b8 x8 y8 g8 | with_reducible exact S4 b9 x9 y9 g9 | with_reducible exact S4 b10 x10 y10 g10 | with_reducible exact S4 b11 x11 y11 g11)
    (first
      | (go_at_call 14; refine (good_any s r m _ hr).mono ?_; rw [← HG.out]; rintro e w7 ⟨rfl, k⟩; have b7 : Blk w7 W.heap.size 28 (stCells s r m) := Blk.gr b6.drew k; have x7 : Blk w7 w1.heap.size 28 (stCells S R M) := Blk.gr e5.drew k; have y7 : Blk w7 w3.heap.size 28 (stCells S R M) := Blk.gr e7.drew k; have g7 : Gr W w7 := Gr.trans g6.drew k; clear k)
      | (go_at_call 15; refine (rgood_any s r m _ hr).mono ?_; rw [← HG.out]; rintro e w8 ⟨rfl, k⟩; have b8 : Blk w8 W.heap.size 28 (stCells s r m) := Blk.gr b7 k; have x8 : Blk w8 w1.heap.size 28 (stCells S R M) := Blk.gr x7 k; have y8 : Blk w8 w3.heap.size 28 (stCells S R M) := Blk.gr y7 k; have g8 : Gr W w8 := Gr.trans g7 k; clear k)
      | (go_at_call 16; refine (begin_any _).mono ?_; unfold stV stCells; rintro e w9 ⟨rfl, k⟩; have b9 : Blk w9 W.heap.size 28 (stCells s r m) := Blk.gr b8 k; have x9 : Blk w9 w1.heap.size 28 (stCells S R M) := Blk.gr x8 k; have y9 : Blk w9 w3.heap.size 28 (stCells S R M) := Blk.gr y8 k; have g9 : Gr W w9 := Gr.trans g8 k; clear k)
      | (go_at_call 17; refine (start_any _).mono ?_; unfold s8V; rintro e w10 ⟨rfl, k⟩; have b10 : Blk w10 W.heap.size 28 (stCells s r m) := Blk.gr b9 k; have x10 : Blk w10 w1.heap.size 28 (stCells S R M) := Blk.gr x9 k; have y10 : Blk w10 w3.heap.size 28 (stCells S R M) := Blk.gr y9 k; have g10 : Gr W w10 := Gr.trans g9 k; clear k)
      | (go_at_call 9; refine (sums_any _ (hT.gr g10)).mono ?_; rintro e w11 ⟨rfl, k⟩; have b11 : Blk w11 W.heap.size 28 (stCells s r m) := Blk.gr b10 k; have x11 : Blk w11 w1.heap.size 28 (stCells S R M) := Blk.gr x10 k; have y11 : Blk w11 w3.heap.size 28 (stCells S R M) := Blk.gr y10 k; have g11 : Gr W w11 := Gr.trans g10 k; clear k))
  go_wp2_with fail
  go_ret
  exact ⟨rfl, g11⟩
end Go.Proofs.YtojiheelacmniaaDoor

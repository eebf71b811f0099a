/-
  cartularyref.End by its contract.
-/
import Derived.Test.YtojiheelacmniaaDoorRSumS
namespace Go.Proofs.YtojiheelacmniaaDoor
open Go.RowKit
set_option linter.unusedVariables false

set_option maxRecDepth 100000 in
set_option maxHeartbeats 1000000 in
theorem rend_no (s : S8) (r : List UInt8) (m : Int) (w : World) (hr : r.length < 4611686018427387904) (hg : goodB r m = false) :
    Calls Tryd.prog 13 #[stV s r m] w fun e w' => e = .returned (.tuple #[.string (bs []), .int .i64 3]) ∧ Gr w w' := by
  unfold stV stCells
  have HG := sec hg
  clear hg
  go_enter Tryd.func13, Tryd.ntmps13
  go_wp2_with ((go_at_call 15; refine (rgood_any s r m _ hr).mono ?_; rw [HG.out]; rintro e w1 ⟨rfl, g1⟩))
  go_ret2
  exact ⟨rfl, ((Gr.refl w).alloc _).trans g1⟩

theorem S_of2 {w w' : World} {s : S8} {r : List UInt8} {m : Int} (hB2 : Blk w' w.heap.size 28 (stCells s r m)) (hg : Gr w w') :
    w'.cell? ⟨w.heap.size, 0, none⟩ = some (.int .u32 (s.a.toNat : Int)) ∧ w'.cell? ⟨w.heap.size, 1, none⟩ = some (.int .u32 (s.b.toNat : Int)) ∧ w'.cell? ⟨w.heap.size, 2, none⟩ = some (.int .u32 (s.c.toNat : Int)) ∧ w'.cell? ⟨w.heap.size, 3, none⟩ = some (.int .u32 (s.d.toNat : Int)) ∧ w'.cell? ⟨w.heap.size, 4, none⟩ = some (.int .u32 (s.e.toNat : Int)) ∧ w'.cell? ⟨w.heap.size, 5, none⟩ = some (.int .u32 (s.f.toNat : Int)) ∧ w'.cell? ⟨w.heap.size, 6, none⟩ = some (.int .u32 (s.g.toNat : Int)) ∧ w'.cell? ⟨w.heap.size, 7, none⟩ = some (.int .u32 (s.h.toNat : Int)) ∧ w'.cell? ⟨w.heap.size, 8, none⟩ = some (.string (bs r)) ∧ w'.cell? ⟨w.heap.size, 9, none⟩ = some (.int .i64 m) ∧ Gr w w' :=
  ⟨hB2.cell 0, hB2.cell 1, hB2.cell 2, hB2.cell 3, hB2.cell 4, hB2.cell 5, hB2.cell 6, hB2.cell 7, hB2.cell 8, hB2.cell 9, hg⟩
set_option maxRecDepth 100000 in
set_option maxHeartbeats 2000000 in
theorem rend_ok (s : S8) (r : List UInt8) (m : Nat) (w : World) (hg : goodB r m = true) :
    Calls Tryd.prog 13 #[stV s r m] w fun e w' => e = .returned (.tuple #[.string (bs (endOf s r m)), .int .i64 0]) ∧ Gr w w' := by
  have hg' := (goodB_iff r m).1 hg
  obtain ⟨hm0, hm1, hm2⟩ := hg'
  have hr : r.length < 4611686018427387904 := by omega
  have HR : Sec (r.length < 1152921504606846976) := sec (by omega)
  have HM : Sec (m < 1152921504606846976) := sec (by omega)
  have HP : Sec ((padTo r m).length % 64 = 0) := sec (padTo_mod _ _)
  have HQ : Sec ((padTo r m).length < 4611686018427387904) := sec (by rw [padTo_len]; unfold zerosFor; omega)
  have HG := sec hg
  clear hg hm2 hm0
  unfold stV stCells
  go_enter Tryd.func13, Tryd.ntmps13
  go_wp2_with ((go_at_call 15; refine (rgood_any s r m _ hr).mono ?_; rw [HG.out]; rintro e w1 ⟨rfl, g1⟩; have hB2 : Blk w1 w.heap.size 28 (stCells s r m) := (Blk.new w _ _).gr g1; have hg1 : Gr w w1 := ((Gr.refl w).alloc _).trans g1))
  go_region_held3 (fun w' => w'.cell? ⟨w.heap.size, 0, none⟩ = some (.int .u32 (s.a.toNat : Int)) ∧ w'.cell? ⟨w.heap.size, 1, none⟩ = some (.int .u32 (s.b.toNat : Int)) ∧ w'.cell? ⟨w.heap.size, 2, none⟩ = some (.int .u32 (s.c.toNat : Int)) ∧ w'.cell? ⟨w.heap.size, 3, none⟩ = some (.int .u32 (s.d.toNat : Int)) ∧ w'.cell? ⟨w.heap.size, 4, none⟩ = some (.int .u32 (s.e.toNat : Int)) ∧ w'.cell? ⟨w.heap.size, 5, none⟩ = some (.int .u32 (s.f.toNat : Int)) ∧ w'.cell? ⟨w.heap.size, 6, none⟩ = some (.int .u32 (s.g.toNat : Int)) ∧ w'.cell? ⟨w.heap.size, 7, none⟩ = some (.int .u32 (s.h.toNat : Int)) ∧ w'.cell? ⟨w.heap.size, 8, none⟩ = some (.string (bs r)) ∧ w'.cell? ⟨w.heap.size, 9, none⟩ = some (.int .i64 m) ∧ Gr w w')
    (first | with_reducible assumption | with_reducible exact S_of2 hB2 hg1 | with_reducible exact S_of2 hB2.drew hg1.drew | with_reducible exact S_of2 E2 Eg | with_reducible exact S_of2 F2 Fg | with_reducible exact S_of2 G2 Gg)
    (first
      | (go_at_call 26; refine (padded_any r m _ HR.out HM.out).mono ?_; rintro e w2 ⟨rfl, g2⟩; have E2 : Blk w2 w.heap.size 28 (stCells s r m) := Blk.gr hB2.drew g2; have Eg : Gr w w2 := Gr.trans hg1.drew g2)
      | (go_at_call 25; refine (over_any s (padTo r m) _ HQ.out HP.out).mono ?_; rintro e w3 ⟨rfl, g3⟩; have F2 : Blk w3 w.heap.size 28 (stCells s r m) := E2.gr g3; have Fg : Gr w w3 := Eg.trans g3)
      | (go_at_call 24; refine (rtext_any _ _).mono ?_; rintro e w4 ⟨rfl, g4⟩; have G2 : Blk w4 w.heap.size 28 (stCells s r m) := F2.gr g4; have Gg : Gr w w4 := Fg.trans g4))
  go_wp2_with fail
  go_ret2
  exact ⟨rfl, Gg⟩
end Go.Proofs.YtojiheelacmniaaDoor

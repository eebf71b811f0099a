/-
  law.WorldNil: the walk.
-/
import Derived.Test.YtdpombnelangjaaGreatDoorDeedIn
import Derived.Test.YtdpombnelangjaaGreatDoorKeys
import Derived.Test.YtdpombnelangjaaGreatDoorNodes2
import Derived.Test.YtdpombnelangjaaGreatDoorRows2
namespace Go.Proofs.YtdpombnelangjaaGreatDoor
set_option maxRecDepth 100000
open Go.RowKit
set_option linter.unusedVariables false

set_option maxHeartbeats 4000000 in
theorem worldNil_walk (d : Dd) (i : Int) (W : World) (hd : DeedOk d) (hi : -9223372036854775808 ≤ i ∧ i ≤ 9223372036854775807) (hT : TabK W) :
    Calls Tryz.prog 6 #[.agg (deedA d), .int .i64 i] W fun e W' => e = .returned (.bool true) ∧ Gr W W' := by
  have HK : Sec (∀ w', Gr W w' → Calls Tryz.prog 20 #[] w' fun e w'' => ∃ A c B d, e = .returned (.agg #[.slice A 3 c, .slice B 4 d, .int .i64 2]) ∧ (StrRow w'' A 3 sgnK ∧ StrRow w'' B 4 witK) ∧ Gr w' w'') := sec (fun w' g => (keys_w w' (hT.gr g)).mono fun e w'' ⟨A, c, B, d, he, ⟨h1, h2⟩, g'⟩ => ⟨A, c, B, d, he, ⟨Row.own h1, Row.own h2⟩, g'⟩)
  have HRK : Sec (∀ w', Calls Tryz.prog 21 #[] w' fun e w'' => ∃ A c B d, e = .returned (.agg #[.slice A 3 c, .slice B 4 d, .int .i64 2]) ∧ (StrRow w'' A 3 sgnK ∧ StrRow w'' B 4 witK) ∧ Gr w' w'') := sec (fun w' => (rkeys_any w').mono fun e w'' ⟨A, c, B, d, he, h1, h2, g'⟩ => ⟨A, c, B, d, he, ⟨h1, h2⟩, g'⟩)
  have HSS : Sec (∀ w' A c B d n (xs : List (List UInt8)), n ≤ 4 → StrRow w' A n xs → StrRow w' B n xs → Calls Tryz.prog 27 #[.slice A n c, .slice B n d] w' fun e w'' => e = .returned (.bool true) ∧ Gr w' w'') := sec (fun w' A c B d n xs hn h1 h2 => by
    have h := sameStrings_any A B n n c d xs xs w' h1 h2 (by omega) (by omega)
    rwa [decide_eq_true (rfl : xs = xs)] at h)
  obtain ⟨k, b, x, r, dt, sg, o, z⟩ := d
  have HD : Sec (∀ w', Calls Tryz.prog 22 #[.pointer none, .agg #[.int .i64 k, .int .i64 b, .int .i64 x, .string (bs r), .string (bs dt), .int .i64 sg, .bool o, .int .i64 z]] w' fun e w'' => e = .returned (.agg #[.int .i64 7, .int .i64 0, .string (bs [])]) ∧ Gr w' w'') := sec (fun w' => doNil_any k b x r dt sg o z w')
  have HC : Sec (∀ w', Calls Tryz.prog 24 #[.pointer none, .int .i64 i] w' fun e w'' => e = .returned (.agg #[.slice none 0 0, .int .i64 0, .int .i64 0, .string (bs []), .slice none 0 0, .slice none 0 0]) ∧ Gr w' w'') := sec (fun w' => clientNil_any i w')
  have HW : Sec (∀ w', Calls Tryz.prog 13 #[.pointer none, .int .i64 i] w' fun e w'' => e = .returned (.agg #[.int .i64 0, .string (bs []), .slice none 0 0, .int .i64 0, .int .i64 0, .string (bs [])]) ∧ Gr w' w'') := sec (fun w' => witnessNil_any i w')
  have HL : Sec (∀ w', Calls Tryz.prog 26 #[.pointer none, .int .i64 i] w' fun e w'' => e = .returned (.slice none 0 0) ∧ Gr w' w'') := sec (fun w' => logNil_any i w')
  have HSC : Sec (∀ w', Calls Tryz.prog 23 #[.agg #[.slice none 0 0, .int .i64 0, .int .i64 0, .string (bs []), .slice none 0 0, .slice none 0 0], .agg #[.slice none 0 0, .int .i64 0, .int .i64 0, .string (bs []), .slice none 0 0, .slice none 0 0]] w' fun e w'' => e = .returned (.bool true) ∧ Gr w' w'') := sec (fun w' => sameCli_any 0 0 [] w')
  have HSW : Sec (∀ w', Calls Tryz.prog 25 #[.agg #[.int .i64 0, .string (bs []), .slice none 0 0, .int .i64 0, .int .i64 0, .string (bs [])], .agg #[.int .i64 0, .string (bs []), .slice none 0 0, .int .i64 0, .int .i64 0, .string (bs [])]] w' fun e w'' => e = .returned (.bool true) ∧ Gr w' w'') := sec (fun w' => sameWit_any 0 [] 0 0 [] w')
  obtain ⟨wa, hwa⟩ : ∃ x', x' = W.alloc (.cells #[.int .i64 k, .int .i64 b, .int .i64 x, .string (bs r), .string (bs dt), .int .i64 sg, .bool o, .int .i64 z] 30) := ⟨_, rfl⟩
  have hb : Blk wa W.heap.size 30 #[.int .i64 k, .int .i64 b, .int .i64 x, .string (bs r), .string (bs dt), .int .i64 sg, .bool o, .int .i64 z] := by rw [hwa]; exact Blk.new W _ _
  have g0 : Gr W wa := by rw [hwa]; exact (Gr.refl W).alloc _
  obtain ⟨p, hp⟩ : ∃ p, p = W.heap.size := ⟨_, rfl⟩
  rw [← hp] at hb
  have HB := sec hb
  have HG := sec g0
  unfold deedA ddA
  clear hd hT hb g0 hi
  go_enter Tryz.func6, Tryz.ntmps6
  go_upto_region 2 with fail
  rw [← hwa, ← hp]
  clear hwa hp
  go_upto_region 3 with (first
    | (go_at_call 20; (with_reducible refine Calls.mono (HK.out wa HG.out) ?_); rintro e w1 ⟨A1, c1, B1, d1, rfl, ⟨x1, y1⟩, g1⟩)
    | (go_at_call 21; (with_reducible refine Calls.mono (HRK.out w1) ?_); rintro e w2 ⟨A2, c2, B2, d2, rfl, ⟨x2, y2⟩, g2⟩))
  obtain ⟨wz, hwz⟩ : ∃ x, x = (w2.alloc (.cells #[.slice A1 3 c1, .slice B1 4 d1, .int .i64 2] 53)).alloc (.cells #[.slice A2 3 c2, .slice B2 4 d2, .int .i64 2] 53) := ⟨_, rfl⟩
  obtain ⟨q, hq⟩ : ∃ q, q = w2.heap.size := ⟨_, rfl⟩
  have G2 : Gr w2 wz := by rw [hwz]; exact ((Gr.refl w2).alloc _).alloc _
  have k1 : Blk wz q 53 #[.slice A1 3 c1, .slice B1 4 d1, .int .i64 2] := by rw [hwz, hq]; exact (Blk.new w2 _ _).alloc _
  have k2 : Blk wz (q + 1) 53 #[.slice A2 3 c2, .slice B2 4 d2, .int .i64 2] := by rw [hwz, hq]; exact Blk.new1 w2 _ _ _
  have GA : Gr wa wz := (g1.trans g2).trans G2
  have HX : Sec (∀ W', Gr wz W' → (StrRow W' A1 3 sgnK ∧ StrRow W' B1 4 witK) ∧ (StrRow W' A2 3 sgnK ∧ StrRow W' B2 4 witK)) := sec (fun W' g => ⟨⟨x1.gr (g2.trans (G2.trans g)), y1.gr (g2.trans (G2.trans g))⟩, ⟨x2.gr (G2.trans g), y2.gr (G2.trans g)⟩⟩)
  have HKC : Sec (∀ W', Gr wz W' → W'.cell? ⟨q, 0, none⟩ = some (.slice A1 3 c1) ∧ W'.cell? ⟨q, 1, none⟩ = some (.slice B1 4 d1) ∧ W'.cell? ⟨q, 2, none⟩ = some (.int .i64 2) ∧ W'.cell? ⟨q + 1, 0, none⟩ = some (.slice A2 3 c2) ∧ W'.cell? ⟨q + 1, 1, none⟩ = some (.slice B2 4 d2) ∧ W'.cell? ⟨q + 1, 2, none⟩ = some (.int .i64 2)) := sec (fun W' g => ⟨(k1.gr g).cell 0, (k1.gr g).cell 1, (k1.gr g).cell 2, (k2.gr g).cell 0, (k2.gr g).cell 1, (k2.gr g).cell 2⟩)
  have HPC : Sec (∀ W', Gr wa W' → W'.cell? ⟨p, 0, none⟩ = some (.int .i64 k) ∧ W'.cell? ⟨p, 1, none⟩ = some (.int .i64 b) ∧ W'.cell? ⟨p, 2, none⟩ = some (.int .i64 x) ∧ W'.cell? ⟨p, 3, none⟩ = some (.string (bs r)) ∧ W'.cell? ⟨p, 4, none⟩ = some (.string (bs dt)) ∧ W'.cell? ⟨p, 5, none⟩ = some (.int .i64 sg) ∧ W'.cell? ⟨p, 6, none⟩ = some (.bool o) ∧ W'.cell? ⟨p, 7, none⟩ = some (.int .i64 z)) := sec (fun W' g => ⟨(HB.out.gr g).cell 0, (HB.out.gr g).cell 1, (HB.out.gr g).cell 2, (HB.out.gr g).cell 3, (HB.out.gr g).cell 4, (HB.out.gr g).cell 5, (HB.out.gr g).cell 6, (HB.out.gr g).cell 7⟩)
  obtain ⟨p0, p1, p2, p3, p4, p5, p6, p7⟩ := HPC.out wz GA
  rw [← hwz, ← hq]
  clear hwz hq k1 k2 x1 y1 x2 y2 g1 g2 G2
  go_wp2_with (first
    | (go_at_call 22; (with_reducible refine Calls.mono (HD.out wz) ?_); rintro e w3 ⟨rfl, g3⟩)
    | (go_at_call 24; (with_reducible refine Calls.mono (HC.out w3) ?_); rintro e w4 ⟨rfl, g4⟩; have G4 := g3.trans g4)
    | (go_at_call 23; (with_reducible refine Calls.mono (HSC.out w4) ?_); rintro e w5 ⟨rfl, g5⟩; have G5 := G4.trans g5)
    | (go_at_call 13; (with_reducible refine Calls.mono (HW.out w5) ?_); rintro e w6 ⟨rfl, g6⟩; have G6 := G5.trans g6)
    | (go_at_call 25; (with_reducible refine Calls.mono (HSW.out w6) ?_); rintro e w7 ⟨rfl, g7⟩; have G7 := G6.trans g7)
    | (go_at_call 26; (with_reducible refine Calls.mono (HL.out w7) ?_); rintro e w8 ⟨rfl, g8⟩; have G8 := G7.trans g8; obtain ⟨k0, k1, k2, k3, k4, k5⟩ := HKC.out w8 G8)
    | (go_at_call 27; (with_reducible refine Calls.mono (HSS.out w8 A1 c1 A2 c2 3 sgnK (by omega) (HX.out w8 G8).1.1 (HX.out w8 G8).2.1) ?_); rintro e w9 ⟨rfl, g9⟩; have G9 := G8.trans g9; obtain ⟨l0, l1, l2, l3, l4, l5⟩ := HKC.out w9 G9)
    | (go_at_call 27; (with_reducible refine Calls.mono (HSS.out w9 B1 d1 B2 d2 4 witK (by omega) (HX.out w9 G9).1.2 (HX.out w9 G9).2.2) ?_); rintro e w10 ⟨rfl, g10⟩; have G10 := G9.trans g10; obtain ⟨m0, m1, m2, m3, m4, m5⟩ := HKC.out w10 G10))
  go_ret
  exact ⟨rfl, HG.out.trans (GA.trans G10)⟩
end Go.Proofs.YtdpombnelangjaaGreatDoor

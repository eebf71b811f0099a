/-
  cartularyref.Keys by its contract.
-/
import Derived.Test.YtdpombnelangjaaGreatDoorKeyL
import Derived.Test.YtdpombnelangjaaGreatDoorAgg
import Derived.Test.YtdpombnelangjaaGreatDoorRSumS
import Derived.Test.YtdpombnelangjaaGreatDoorFoot
namespace Go.Proofs.YtdpombnelangjaaGreatDoor
set_option maxRecDepth 100000
open Go.RowKit
set_option linter.unusedVariables false

theorem aggKeysW : AggOk 53 3 := ⟨⟨_, Tryz.underlying53, rfl⟩, by kernel_rfl⟩
theorem keysA_one (A : Option Addr) (n c : Nat) (B : Option Addr) (m d : Nat) (k : Int) : (#[.slice A n c, .slice B m d, .int .i64 k] : Array Value).all (·.oneCell') = true := by simp [Value.oneCell']
theorem row_blk1 {w : World} {g n : Nat} {T : TypeId} {cs : Array Value} (h : Blk w g T cs) (hn : cs.toList.length = n * 1) : Row w 1 (some ⟨g, 0, none⟩) n cs.toList :=
  ⟨hn, fun _ => ⟨g, 0, rfl, fun i v hi => by rw [Nat.zero_add, h.cell]; simpa using hi⟩⟩
set_option maxHeartbeats 4000000 in
theorem rkeys_any (w : World) :
    Calls Tryz.prog 21 #[] w fun e w' => ∃ A c B d, e = .returned (.agg #[.slice A 3 c, .slice B 4 d, .int .i64 2]) ∧ StrRow w' A 3 sgnK ∧ StrRow w' B 4 witK ∧ Gr w w' := by
  obtain ⟨x0, hx0⟩ : ∃ x, x = sha (signerN 0) := ⟨_, rfl⟩
  obtain ⟨x1, hx1⟩ : ∃ x, x = sha (signerN 1) := ⟨_, rfl⟩
  obtain ⟨x2, hx2⟩ : ∃ x, x = sha (signerN 2) := ⟨_, rfl⟩
  obtain ⟨y0, hy0⟩ : ∃ x, x = sha (witnessN 0) := ⟨_, rfl⟩
  obtain ⟨y1, hy1⟩ : ∃ x, x = sha (witnessN 1) := ⟨_, rfl⟩
  obtain ⟨y2, hy2⟩ : ∃ x, x = sha (witnessN 2) := ⟨_, rfl⟩
  obtain ⟨y3, hy3⟩ : ∃ x, x = sha (witnessN 3) := ⟨_, rfl⟩
  have HSG : Sec (sgnK = [x0, x1, x2]) := sec (by rw [hx0, hx1, hx2]; rfl)
  have HWT : Sec (witK = [y0, y1, y2, y3]) := sec (by rw [hy0, hy1, hy2, hy3]; rfl)
  have Hx0 : Sec (∀ W, Calls Tryz.prog 45 #[.string (bs [115, 105, 103, 110, 101, 114, 48])] W fun e w' => e = .returned (.string (bs x0)) ∧ Gr W w') := sec (fun W => by rw [hx0]; exact rsum_any (signerN 0) W (by decide))
  have Hx1 : Sec (∀ W, Calls Tryz.prog 45 #[.string (bs [115, 105, 103, 110, 101, 114, 49])] W fun e w' => e = .returned (.string (bs x1)) ∧ Gr W w') := sec (fun W => by rw [hx1]; exact rsum_any (signerN 1) W (by decide))
  have Hx2 : Sec (∀ W, Calls Tryz.prog 45 #[.string (bs [115, 105, 103, 110, 101, 114, 50])] W fun e w' => e = .returned (.string (bs x2)) ∧ Gr W w') := sec (fun W => by rw [hx2]; exact rsum_any (signerN 2) W (by decide))
  have Hy0 : Sec (∀ W, Calls Tryz.prog 45 #[.string (bs [119, 105, 116, 110, 101, 115, 115, 48])] W fun e w' => e = .returned (.string (bs y0)) ∧ Gr W w') := sec (fun W => by rw [hy0]; exact rsum_any (witnessN 0) W (by decide))
  have Hy1 : Sec (∀ W, Calls Tryz.prog 45 #[.string (bs [119, 105, 116, 110, 101, 115, 115, 49])] W fun e w' => e = .returned (.string (bs y1)) ∧ Gr W w') := sec (fun W => by rw [hy1]; exact rsum_any (witnessN 1) W (by decide))
  have Hy2 : Sec (∀ W, Calls Tryz.prog 45 #[.string (bs [119, 105, 116, 110, 101, 115, 115, 50])] W fun e w' => e = .returned (.string (bs y2)) ∧ Gr W w') := sec (fun W => by rw [hy2]; exact rsum_any (witnessN 2) W (by decide))
  have Hy3 : Sec (∀ W, Calls Tryz.prog 45 #[.string (bs [119, 105, 116, 110, 101, 115, 115, 51])] W fun e w' => e = .returned (.string (bs y3)) ∧ Gr W w') := sec (fun W => by rw [hy3]; exact rsum_any (witnessN 3) W (by decide))
  clear hx0 hx1 hx2 hy0 hy1 hy2 hy3
  have hb := Blk.new w 53 #[.slice none 0 0, .slice none 0 0, .int .i64 0]
  have g0 := (Gr.refl w).alloc (.cells #[.slice none 0 0, .slice none 0 0, .int .i64 0] 53)
  obtain ⟨wa, hwa⟩ : ∃ x, x = w.alloc (.cells #[.slice none 0 0, .slice none 0 0, .int .i64 0] 53) := ⟨_, rfl⟩
  rw [← hwa] at hb g0
  obtain ⟨p, hp⟩ : ∃ p, p = w.heap.size := ⟨_, rfl⟩
  rw [← hp] at hb
  have HP := sec (show w.heap.size ≤ p by omega)
  have HLT := sec hb.lt
  go_enter Tryz.func21, Tryz.ntmps21
  go_upto_region 1 with fail
  rw [← hwa, ← hp]
  clear hwa hp
  go_wp2_with (first
    | (go_at_call 45; (with_reducible refine Calls.mono (Hx0.out wa) ?_); rintro e w1 ⟨rfl, g1⟩; have G1 : Gr wa w1 := g1)
    | (go_at_call 45; (with_reducible refine Calls.mono (Hx1.out w1) ?_); rintro e w2 ⟨rfl, g2⟩; have G2 := G1.trans g2)
    | (go_at_call 45; (with_reducible refine Calls.mono (Hx2.out w2) ?_); rintro e w3 ⟨rfl, g3⟩; have G3 := G2.trans g3)
    | (go_at_call 45; (with_reducible refine Calls.mono (Hy0.out (w3.alloc (.cells #[.string (bs x0), .string (bs x1), .string (bs x2)] 9))) ?_); rintro e w4 ⟨rfl, g4⟩; have g47a : Gr (w3.alloc (.cells #[.string (bs x0), .string (bs x1), .string (bs x2)] 9)) w4 := g4; have G4 := (G3.alloc (.cells #[.string (bs x0), .string (bs x1), .string (bs x2)] 9)).trans g4)
    | (go_at_call 45; (with_reducible refine Calls.mono (Hy1.out w4) ?_); rintro e w5 ⟨rfl, g5⟩; have g47b := g47a.trans g5; have G5 := G4.trans g5)
    | (go_at_call 45; (with_reducible refine Calls.mono (Hy2.out w5) ?_); rintro e w6 ⟨rfl, g6⟩; have g47c := g47b.trans g6; have G6 := G5.trans g6)
    | (go_at_call 45; (with_reducible refine Calls.mono (Hy3.out w6) ?_); rintro e w7 ⟨rfl, g7⟩; have g47 := g47c.trans g7; have G7 := G6.trans g7; have G8 := G7.alloc (.cells #[.string (bs y0), .string (bs y1), .string (bs y2), .string (bs y3)] 9))
    | (refine wpList_store_blk rfl 53 (.tmp 0) (.tmp 10) rfl (g := p) (cs' := #[.slice (some ⟨w3.heap.size, 0, none⟩) 3 3, .slice (some ⟨w7.heap.size, 0, none⟩) 4 4, .int .i64 2]) rfl rfl (hb.gr G8) aggKeysW rfl (keysA_one _ _ _ _ _ _ _) ?_; intro w9 h9 hg9))
  refine bodyPost_ret (results_blk rfl _ rfl h9 aggKeysW) rfl ?_
  refine ⟨_, _, _, _, rfl, ?_, ?_, Gr.only (g0.trans G8) hg9 HP.out⟩
  · rw [HSG.out]
    exact Row.only (row_blk1 ((Blk.new w3 9 #[.string (bs x0), .string (bs x1), .string (bs x2)]).gr (g47.alloc _)) rfl) hg9 (fun _ b off e => by injection e with e; injection e with e _; have := HLT.out; have := G3.size; omega)
  · rw [HWT.out]
    exact Row.only (row_blk1 (Blk.new w7 9 #[.string (bs y0), .string (bs y1), .string (bs y2), .string (bs y3)]) rfl) hg9 (fun _ b off e => by injection e with e; injection e with e _; have := HLT.out; have := G7.size; omega)
end Go.Proofs.YtdpombnelangjaaGreatDoor

/-
  cartularylaw.roots, MerkleChecks: the walks.
-/
import Derived.Test.YtjgkefjocakggaaDoorRCheck
import Derived.Test.YtjgkefjocakggaaDoorStrings
import Derived.Test.YtjgkefjocakggaaDoorOpenSs
namespace Go.Proofs.YtjgkefjocakggaaDoor
open Go.RowKit
set_option linter.unusedVariables false

set_option maxRecDepth 100000 in
set_option maxHeartbeats 1000000 in
theorem roots_any (w : World) (hT : TabK w) : Calls Tryd.prog 21 #[] w fun e w' => e = .returned (.bool true) ∧ Gr w w' := by
  have hB := Blk.new w 9 #[.string (bs [97])]
  have hrow : StrRow (w.alloc (.cells #[.string (bs [97])] 9)) (some ⟨w.heap.size, 0, none⟩) 1 [[97]] := by
    refine ⟨rfl, fun _ => ⟨_, _, rfl, fun i v hv => ?_⟩⟩
    rw [Nat.zero_add, hB.cell]
    simpa [strV] using hv
  have hg := (Gr.refl w).alloc (.cells #[.string (bs [97])] 9)
  have HR : Sec (Calls Tryd.prog 22 #[.slice (some ⟨w.heap.size, 0, none⟩) 1 1] (w.alloc (.cells #[.string (bs [97])] 9)) fun e w' => e = .returned (.string (bs (sha [0, 97]))) ∧ Gr (w.alloc (.cells #[.string (bs [97])] 9)) w') := by
    have := root_any 1 [[97]] (some ⟨w.heap.size, 0, none⟩) 1 1 _ (by simp) (by omega) (by omega) hrow (by intro s hs; simp at hs; subst hs; simp) (hT.gr hg)
    rw [rootL_one] at this
    exact sec this
  clear hB hrow
  go_enter Tryd.func21, Tryd.ntmps21
  go_wp2_with (first
    | (go_at_call 22; refine Calls.mono HR.out ?_; rintro e w1 ⟨rfl, g1⟩)
    | (go_at_call 38; refine (rsum_any [0, 97] _ (by simp)).mono ?_; rintro e w2 ⟨rfl, g2⟩))
  go_ret
  exact ⟨by simp, hg.trans (g1.trans g2)⟩

set_option maxRecDepth 100000 in
set_option maxHeartbeats 2000000 in
theorem merkleChecks_walk (root : List UInt8) (n i : Int) (s : List UInt8) (A : Option Addr) (cap : Nat) (ps : List (List UInt8)) (W : World) (hr : root.length ≤ 1048576) (_hn : -9223372036854775808 ≤ n ∧ n ≤ 9223372036854775807) (_hi : -9223372036854775808 ≤ i ∧ i ≤ 9223372036854775807) (hs : s.length ≤ 1048576)
    (hps : StrRow W A ps.length ps ∧ ps.length ≤ 1048576 ∧ (∀ x ∈ ps, x.length ≤ 1048576) ∧ ps.length ≤ cap ∧ cap ≤ maxLen ∧ (A = none → cap = 0)) (hT : TabK W) :
    Calls Tryd.prog 4 #[.string (bs root), .int .i64 n, .int .i64 i, .string (bs s), .slice A ps.length cap] W fun e w' => e = .returned (.bool true) ∧ Gr W w' := by
  obtain ⟨hrow, hl, hx, hc, _, hA⟩ := hps
  have hsh : Short ps := fun s h => Nat.le_trans (hx s h) (by omega)
  have HS1 := sec (strings_any ps ps.length A cap W (by omega) hrow (fun e => by have := hA e; omega))
  have HS2 : Sec (∀ (A' : Option Addr) (cap' : Nat) (w' : World), w'.ownsRow W.heap.size 9 1 (.slice A' ps.length cap') ps.length (ps.map strV) → Gr W w' →
      Calls Tryd.prog 14 #[.string (bs root), .int .i64 n, .int .i64 i, .string (bs s), .slice A' ps.length cap'] w' fun e w'' => e = .returned (.bool (checkB root n i s ps)) ∧ Gr w' w'') :=
    sec fun A' cap' w' hown g => check_any root s n i ps ps.length A' cap' w' (by omega) (by omega) (by
      rcases hown.2 with ⟨_, h0⟩ | ⟨g, c, cur, e, _, _, h, _⟩
      · omega
      · injection e with _ _ e; omega) (Row.own hown) hsh (hT.gr g)
  have HS3 : Sec (∀ (w' : World), Gr W w' → Calls Tryd.prog 16 #[.string (bs root), .int .i64 n, .int .i64 i, .string (bs s), .slice A ps.length cap] w' fun e w'' => e = .returned (.bool (checkB root n i s ps)) ∧ Gr w' w'') :=
    sec fun w' g => rcheck_any root s n i ps ps.length A cap w' (by omega) (by omega) (hrow.gr g) hsh
  obtain ⟨B, hB⟩ : ∃ B, B = checkB root n i s ps := ⟨_, rfl⟩
  rw [← hB] at HS2 HS3
  clear hB hrow hx hsh
  go_enter Tryd.func4, Tryd.ntmps4
  go_wp2_with (first
    | (go_at_call 15; refine Calls.mono HS1.out ?_; rintro e w1 ⟨A', cap', rfl, hown, g1⟩)
    | (go_at_call 14; with_reducible refine Calls.mono (HS2.out _ _ _ hown g1) ?_; rintro e w2 ⟨rfl, g2'⟩; have g2 := g1.trans g2')
    | (go_at_call 16; with_reducible refine Calls.mono (HS3.out _ g2) ?_; rintro e w3 ⟨rfl, g3'⟩; have g3 := g2.trans g3')
    | (go_at_call 17; refine (leaf_any s _ (hT.gr g3) (by omega)).mono ?_; rintro e w4 ⟨rfl, g4'⟩; have g4 := g3.trans g4')
    | (go_at_call 18; refine (rleaf_any s _ (by omega)).mono ?_; rintro e w5 ⟨rfl, g5'⟩; have g5 := g4.trans g5')
    | (go_at_call 19; refine (node_any root s _ (hT.gr g5) (by omega) (by omega)).mono ?_; rintro e w6 ⟨rfl, g6'⟩; have g6 := g5.trans g6')
    | (go_at_call 20; refine (rtwo_any root s _ (by omega) (by omega)).mono ?_; rintro e w7 ⟨rfl, g7'⟩; have g7 := g6.trans g7')
    | (go_at_call 21; refine (roots_any _ (hT.gr g7)).mono ?_; rintro e w8 ⟨rfl, g8'⟩; have g8 := g7.trans g8'))
  go_ret
  exact ⟨rfl, g8⟩
end Go.Proofs.YtjgkefjocakggaaDoor

/-
  cartularylaw.MerkleRoots: the walk.
-/
import Derived.Test.YtjgkefjocakggaaDoorMerkleChecks
import Derived.Test.YtjgkefjocakggaaDoorRPath
import Derived.Test.YtjgkefjocakggaaDoorRProof
import Derived.Test.YtjgkefjocakggaaDoorRows2
namespace Go.Proofs.YtjgkefjocakggaaDoor
open Go.RowKit
set_option linter.unusedVariables false

theorem own_cap {w : World} {B e size n cap m : Nat} {A : Option Addr} {xs : List Value} (h : w.ownsRow B e size (.slice A n cap) m xs) : n = m ∧ (n ≤ cap ∨ m = 0) := by
  rcases h.2 with ⟨e, h0⟩ | ⟨g, c, cur, e, _, _, h, _⟩
  · injection e with _ e1 e2; omega
  · injection e with _ e1 e2; omega

set_option maxRecDepth 100000 in
set_option maxHeartbeats 4000000 in
theorem merkleRoots_walk (A : Option Addr) (cap : Nat) (ps : List (List UInt8)) (i m : Int) (W : World)
    (hps : StrRow W A ps.length ps ∧ ps.length ≤ 1048576 ∧ (∀ x ∈ ps, x.length ≤ 1048576) ∧ ps.length ≤ cap ∧ cap ≤ maxLen ∧ (A = none → cap = 0)) (_hi : -9223372036854775808 ≤ i ∧ i ≤ 9223372036854775807) (_hm : -9223372036854775808 ≤ m ∧ m ≤ 9223372036854775807) (hT : TabK W) :
    Calls Tryd.prog 5 #[.slice A ps.length cap, .int .i64 i, .int .i64 m] W fun e w' => e = .returned (.bool true) ∧ Gr W w' := by
  obtain ⟨hrow, hl, hx, hc, _, hA⟩ := hps
  have hsh : Short ps := fun s h => Nat.le_trans (hx s h) (by omega)
  by_cases hlong : 300 < ps.length
  · have hli : (300 : Int) < (ps.length : Int) := by omega
    clear hrow hx hsh
    go_enter Tryd.func5, Tryd.ntmps5
    go_wp2_with (go_at_call 21; refine (roots_any _ hT).mono ?_; rintro e w8 ⟨rfl, g8⟩)
    go_ret
    exact ⟨rfl, g8⟩
  · have hli : ¬ (300 : Int) < (ps.length : Int) := by omega
    have HS1 : Sec (∀ w', Gr W w' → Calls Tryd.prog 15 #[.slice A ps.length cap] w' fun e w'' => ∃ A' cap', e = .returned (.slice A' ps.length cap') ∧ ps.length ≤ cap' ∧ StrRow w'' A' ps.length ps ∧ Gr w' w'') :=
      sec fun w' g => (strings_any ps ps.length A cap w' (by omega) (hrow.gr g) (fun e => by have := hA e; omega)).mono fun e w'' ⟨A', c', h1, h2, h3⟩ => ⟨A', c', h1, by have := own_cap h2; omega, Row.own h2, h3⟩
    have HS2 : Sec (∀ (A' : Option Addr) (cap' : Nat) (w' : World), ps.length ≤ cap' → StrRow w' A' ps.length ps → Gr W w' →
        Calls Tryd.prog 22 #[.slice A' ps.length cap'] w' fun e w'' => e = .returned (.string (bs (rootL ps))) ∧ Gr w' w'') :=
      sec fun A' cap' w' hcc hr g => root_any _ ps A' ps.length cap' w' (Nat.le_refl _) (by omega) hcc hr hsh (hT.gr g)
    have HS3 : Sec (∀ (w' : World), Gr W w' → Calls Tryd.prog 23 #[.slice A ps.length cap] w' fun e w'' => e = .returned (.string (bs (rootL ps))) ∧ Gr w' w'') :=
      sec fun w' g => rroot_any ps ps.length A cap w' (by omega) (hrow.gr g) hsh
    have HS4 : Sec (∀ (A' : Option Addr) (cap' : Nat) (w' : World), ps.length ≤ cap' → StrRow w' A' ps.length ps → Gr W w' →
        Calls Tryd.prog 25 #[.slice A' ps.length cap', .int .i64 i] w' fun e w'' => ∃ A'' n'' cap'', e = .returned (.slice A'' n'' cap'') ∧ n'' ≤ ps.length + 1 ∧ StrRow w'' A'' n'' (pathS ps i) ∧ Gr w' w'') :=
      sec fun A' cap' w' hcc hr g => (path_any ps i ps.length A' cap' w' (by omega) hcc hr hsh (hT.gr g)).mono fun e w'' ⟨A2, n2, c2, h1, h2, h3, h4⟩ => ⟨A2, n2, c2, h1, by omega, Row.own h3, h4⟩
    have HS5 : Sec (∀ (w' : World), Gr W w' → Calls Tryd.prog 26 #[.slice A ps.length cap, .int .i64 i] w' fun e w'' => ∃ A'' n'' cap'', e = .returned (.slice A'' n'' cap'') ∧ n'' ≤ ps.length + 1 ∧ StrRow w'' A'' n'' (pathS ps i) ∧ Gr w' w'') :=
      sec fun w' g => (rpath_any ps i ps.length A cap w' (by omega) hc (hrow.gr g) hsh).mono fun e w'' ⟨A2, n2, c2, h1, h2, h3, h4⟩ => ⟨A2, n2, c2, h1, h2, Row.own h3, h4⟩
    have HS6 : Sec (∀ (A' : Option Addr) (cap' : Nat) (w' : World), ps.length ≤ cap' → StrRow w' A' ps.length ps → Gr W w' →
        Calls Tryd.prog 27 #[.slice A' ps.length cap', .int .i64 m] w' fun e w'' => ∃ A'' n'' cap'', e = .returned (.slice A'' n'' cap'') ∧ n'' ≤ ps.length + 1 ∧ StrRow w'' A'' n'' (proofS ps m) ∧ Gr w' w'') :=
      sec fun A' cap' w' hcc hr g => (proof_any ps m ps.length A' cap' w' (by omega) hcc hr hsh (hT.gr g)).mono fun e w'' ⟨A2, n2, c2, h1, h2, h3, h4⟩ => ⟨A2, n2, c2, h1, h2, Row.own h3, h4⟩
    have HS7 : Sec (∀ (w' : World), Gr W w' → Calls Tryd.prog 28 #[.slice A ps.length cap, .int .i64 m] w' fun e w'' => ∃ A'' n'' cap'', e = .returned (.slice A'' n'' cap'') ∧ n'' ≤ ps.length + 1 ∧ StrRow w'' A'' n'' (proofS ps m) ∧ Gr w' w'') :=
      sec fun w' g => (rproof_any ps m ps.length A cap w' (by omega) hc (hrow.gr g) hsh).mono fun e w'' ⟨A2, n2, c2, h1, h2, h3, h4⟩ => ⟨A2, n2, c2, h1, h2, Row.own h3, h4⟩
    have SAME : Sec (∀ (xs : List (List UInt8)) (A A' : Option Addr) (n n' c c' : Nat) (w : World), n ≤ ps.length + 1 → n' ≤ ps.length + 1 → StrRow w A n xs → StrRow w A' n' xs → Calls Tryd.prog 24 #[.slice A n c, .slice A' n' c'] w fun e w' => e = .returned (.bool true) ∧ Gr w w') :=
      sec fun xs A A' n n' c c' w h1 h2 hx hy => (sameStrings_any A A' n n' c c' xs xs w hx hy (by omega) (by omega)).mono fun e w' ⟨h1, h2⟩ => ⟨by rw [h1]; simp, h2⟩
    obtain ⟨R, hR⟩ : ∃ R, R = rootL ps := ⟨_, rfl⟩
    rw [← hR] at HS2 HS3
    obtain ⟨P, hP⟩ : ∃ P, P = pathS ps i := ⟨_, rfl⟩
    rw [← hP] at HS4 HS5
    obtain ⟨Q, hQ⟩ : ∃ Q, Q = proofS ps m := ⟨_, rfl⟩
    rw [← hQ] at HS6 HS7
    clear hR hP hQ hrow hx hsh
    go_enter Tryd.func5, Tryd.ntmps5
    go_wp2_with (first
      | (go_at_call 21; with_reducible refine Calls.mono (roots_any _ (hT.gr g12)) ?_; rintro e w13 ⟨rfl, g13'⟩; have g13 := g12.trans g13')
      | (go_at_call 24; with_reducible refine Calls.mono (SAME.out Q A6 A7 n6 n7 c6 c7 _ l6 l7 (r6.gr g11') r7) ?_; rintro e w12 ⟨rfl, g12'⟩; have g12 := g11.trans g12')
      | (go_at_call 28; with_reducible refine Calls.mono (HS7.out _ g10) ?_; rintro e w11 ⟨A7, n7, c7, rfl, l7, r7, g11'⟩; have g11 := g10.trans g11')
      | (go_at_call 27; with_reducible refine Calls.mono (HS6.out _ _ _ l5 r5 g9) ?_; rintro e w10 ⟨A6, n6, c6, rfl, l6, r6, g10'⟩; have g10 := g9.trans g10')
      | (go_at_call 15; with_reducible refine Calls.mono (HS1.out _ g8) ?_; rintro e w9 ⟨A5, c5, rfl, l5, r5, g9'⟩; have g9 := g8.trans g9')
      | (go_at_call 24; with_reducible refine Calls.mono (SAME.out P A3 A4 n3 n4 c3 c4 _ l3 l4 (r3.gr g7') r4) ?_; rintro e w8 ⟨rfl, g8'⟩; have g8 := g7.trans g8')
      | (go_at_call 26; with_reducible refine Calls.mono (HS5.out _ g6) ?_; rintro e w7 ⟨A4, n4, c4, rfl, l4, r4, g7'⟩; have g7 := g6.trans g7')
      | (go_at_call 25; with_reducible refine Calls.mono (HS4.out _ _ _ l2 r2 g4) ?_; rintro e w6 ⟨A3, n3, c3, rfl, l3, r3, g6'⟩; have g6 := g4.trans g6')
      | (go_at_call 15; with_reducible refine Calls.mono (HS1.out _ g3) ?_; rintro e w4 ⟨A2, c2, rfl, l2, r2, g4'⟩; have g4 := g3.trans g4')
      | (go_at_call 23; with_reducible refine Calls.mono (HS3.out _ g2) ?_; rintro e w3 ⟨rfl, g3'⟩; have g3 := g2.trans g3')
      | (go_at_call 22; with_reducible refine Calls.mono (HS2.out _ _ _ l1 r1 g1) ?_; rintro e w2 ⟨rfl, g2'⟩; have g2 := g1.trans g2')
      | (go_at_call 15; with_reducible refine Calls.mono (HS1.out _ (Gr.refl _)) ?_; rintro e w1 ⟨A1, c1, rfl, l1, r1, g1⟩)
      | fail)
    go_ret
    exact ⟨rfl, g13⟩
end Go.Proofs.YtjgkefjocakggaaDoor

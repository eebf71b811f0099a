/-
  cartularyref.Extends by its contract, all cases; cartularylaw.MerkleExtends: the walk.
-/
import Derived.Test.YtjgkefjocakggaaDoorRExtends
import Derived.Test.YtjgkefjocakggaaDoorMerkleChecks
namespace Go.Proofs.YtjgkefjocakggaaDoor
open Go.RowKit
set_option linter.unusedVariables false

theorem extB_eq (old root : List UInt8) (m : Nat) (ps : List (List UInt8)) (h0 : 0 < m) (hm : m ≤ 1099511627776) : extB old m root m ps = decide (ps.length = 0 ∧ old = root) := by
  unfold extB
  rw [if_pos ⟨by omega, by omega, by omega⟩, if_neg (by omega), Int.toNat_natCast]
  cases hr : ps.reverse with
  | nil =>
    have hp : ps = [] := by simpa using hr
    subst hp
    rw [bothR_nil, if_pos rfl]
    simp only [both2, List.length_nil, true_and, if_true]
    rw [Bool.eq_iff_iff]
    simp
  | cons x r =>
    have hp : ps.length ≠ 0 := by
      intro h
      have h2 := congrArg List.length hr
      simp at h2
      omega
    rw [bothR_cons, if_pos rfl]
    simp [both2, hp]

set_option maxRecDepth 100000 in
set_option maxHeartbeats 4000000 in
theorem rextends_any (old root : List UInt8) (m n : Int) (ps : List (List UInt8)) (k : Nat) (A : Option Addr) (cap : Nat) (w : World) (hold : old.length ≤ 1099511627776) (hk : k ≤ 1099511627776) (hcap : k ≤ cap) (hA : A = none → k = 0 ∧ cap = 0) (hrow : StrRow w A k ps) (hs : Short ps) :
    Calls Tryd.prog 30 #[.string (bs old), .int .i64 m, .string (bs root), .int .i64 n, .slice A k cap] w fun e w' => e = .returned (.bool (extB old m root n ps)) ∧ Gr w w' := by
  have hlen := hrow.len
  by_cases h1 : 0 ≤ m
  · by_cases h2 : m ≤ n
    · by_cases h3 : n ≤ 1099511627776
      · obtain ⟨M, rfl⟩ : ∃ M : Nat, m = M := ⟨m.toNat, by omega⟩
        obtain ⟨N, rfl⟩ : ∃ N : Nat, n = N := ⟨n.toNat, by omega⟩
        have q1 : ¬ (M : Int) < 0 := by omega
        have q2 : ¬ (N : Int) < (M : Int) := by omega
        have q3 : ¬ (1099511627776 : Int) < (N : Int) := by omega
        by_cases hmn : M = N
        · subst hmn
          by_cases hl0 : k = 0
          · subst hl0
            by_cases hor : old = root
            · by_cases hM0 : 0 < M
              · have HF : Sec (extB old M root M ps = true) := sec (by rw [extB_eq old root M ps hM0 (by omega)]; exact decide_eq_true ⟨hlen, hor⟩)
                have t1 : (old == root) = true := by rw [beq_iff_eq]; exact hor
                have t2 : 0 < (M : Int) := by omega
                clear hrow hlen hs hor
                go_enter Tryd.func30, Tryd.ntmps30
                go_wp2_with fail
                go_ret
                exact ⟨by rw [HF.out]; rfl, Gr.refl _⟩
              · obtain rfl : M = 0 := by omega
                have hE : extB old ((0 : Nat) : Int) root ((0 : Nat) : Int) ps = decide (old = sha []) := by
                  unfold extB
                  rw [if_pos ⟨by omega, by omega, by omega⟩, if_pos (show ((0 : Nat) : Int) = 0 from rfl)]
                  exact decide_eq_decide.2 ⟨fun h => h.2.1, fun h => ⟨hlen, h, .inr hor.symm⟩⟩
                have HE := sec hE
                have t1 : (old == root) = true := by rw [beq_iff_eq]; exact hor
                rw [show ((0 : Nat) : Int) = 0 from rfl] at *
                by_cases ho : old = sha []
                · have HF : Sec (extB old 0 root 0 ps = true) := sec (by have := HE.out; rw [this]; exact decide_eq_true ho)
                  have t2 : (old == sha []) = true := by rw [beq_iff_eq]; exact ho
                  clear hrow hlen hs hor ho hE
                  go_enter Tryd.func30, Tryd.ntmps30
                  go_wp2_with (go_at_call 38; refine (rsum_any [] _ (by simp)).mono ?_; rintro e w1 ⟨rfl, g1⟩)
                  go_ret
                  exact ⟨by rw [HF.out]; rfl, g1⟩
                · have HF : Sec (extB old 0 root 0 ps = false) := sec (by have := HE.out; rw [this]; exact decide_eq_false ho)
                  have t2 : (old == sha []) = false := by rw [beq_eq_false_iff_ne]; exact ho
                  clear hrow hlen hs hor ho hE
                  go_enter Tryd.func30, Tryd.ntmps30
                  go_wp2_with (go_at_call 38; refine (rsum_any [] _ (by simp)).mono ?_; rintro e w1 ⟨rfl, g1⟩)
                  go_ret
                  exact ⟨by rw [HF.out]; rfl, g1⟩
            · have HF : Sec (extB old M root M ps = false) := sec (by
                by_cases hM0 : 0 < M
                · rw [extB_eq old root M ps hM0 (by omega)]; exact decide_eq_false (fun h => hor h.2)
                · obtain rfl : M = 0 := by omega
                  unfold extB
                  rw [if_pos ⟨by omega, by omega, by omega⟩, if_pos (show ((0 : Nat) : Int) = 0 from rfl)]
                  exact decide_eq_false (fun h => by rcases h.2.2 with h | h; omega; exact hor h.symm))
              have t1 : (old == root) = false := by rw [beq_eq_false_iff_ne]; exact hor
              clear hrow hlen hs hor
              go_enter Tryd.func30, Tryd.ntmps30
              go_wp2_with fail
              go_ret
              exact ⟨by rw [HF.out]; rfl, Gr.refl _⟩
          · have HF : Sec (extB old M root M ps = false) := sec (by
              by_cases hM0 : 0 < M
              · rw [extB_eq old root M ps hM0 (by omega)]; exact decide_eq_false (fun h => hl0 (by omega))
              · obtain rfl : M = 0 := by omega
                unfold extB
                rw [if_pos ⟨by omega, by omega, by omega⟩, if_pos (show ((0 : Nat) : Int) = 0 from rfl)]
                exact decide_eq_false (fun h => hl0 (by omega)))
            have t1 : ((k : Int) == 0) = false := by rw [beq_eq_false_iff_ne]; omega
            clear hrow hlen hs hl0
            go_enter Tryd.func30, Tryd.ntmps30
            go_wp2_with fail
            go_ret
            exact ⟨by rw [HF.out]; rfl, Gr.refl _⟩
        · by_cases hM0 : 0 < M
          · exact rextends_in old root M N ps k A cap w hM0 (by omega) (by omega) hold hk hcap hA hrow hs
          · obtain rfl : M = 0 := by omega
            have tmn : ((0 : Int) == (N : Int)) = false := by rw [beq_eq_false_iff_ne]; omega
            have hE : extB old ((0 : Nat) : Int) root (N : Int) ps = decide (ps.length = 0 ∧ old = sha []) := by
              unfold extB
              rw [if_pos ⟨by omega, by omega, by omega⟩, if_pos (show ((0 : Nat) : Int) = 0 from rfl)]
              exact decide_eq_decide.2 ⟨fun h => ⟨h.1, h.2.1⟩, fun h => ⟨h.1, h.2, .inl (by omega)⟩⟩
            rw [show ((0 : Nat) : Int) = 0 from rfl] at *
            by_cases hl0 : k = 0
            · subst hl0
              by_cases ho : old = sha []
              · have HF : Sec (extB old 0 root N ps = true) := sec (by rw [hE]; exact decide_eq_true ⟨hlen, ho⟩)
                have t2 : (old == sha []) = true := by rw [beq_iff_eq]; exact ho
                clear hrow hlen hs ho hE
                go_enter Tryd.func30, Tryd.ntmps30
                go_wp2_with (go_at_call 38; refine (rsum_any [] _ (by simp)).mono ?_; rintro e w1 ⟨rfl, g1⟩)
                go_ret
                exact ⟨by rw [HF.out]; rfl, g1⟩
              · have HF : Sec (extB old 0 root N ps = false) := sec (by rw [hE]; exact decide_eq_false (fun h => ho h.2))
                have t2 : (old == sha []) = false := by rw [beq_eq_false_iff_ne]; exact ho
                clear hrow hlen hs ho hE
                go_enter Tryd.func30, Tryd.ntmps30
                go_wp2_with (go_at_call 38; refine (rsum_any [] _ (by simp)).mono ?_; rintro e w1 ⟨rfl, g1⟩)
                go_ret
                exact ⟨by rw [HF.out]; rfl, g1⟩
            · have HF : Sec (extB old 0 root N ps = false) := sec (by rw [hE]; exact decide_eq_false (fun h => hl0 (by omega)))
              have t1 : ((k : Int) == 0) = false := by rw [beq_eq_false_iff_ne]; omega
              clear hrow hlen hs hl0 hE
              go_enter Tryd.func30, Tryd.ntmps30
              go_wp2_with fail
              go_ret
              exact ⟨by rw [HF.out]; rfl, Gr.refl _⟩
      · have HC : Sec (extB old m root n ps = false) := sec (by unfold extB; rw [if_neg (fun h => h3 h.2.2)])
        rw [HC.out]
        have q1 : ¬ m < 0 := by omega
        have q2 : ¬ n < m := by omega
        have q3 : 1099511627776 < n := by omega
        go_enter Tryd.func30, Tryd.ntmps30
        go_wp2_with fail
        go_ret
        exact ⟨rfl, Gr.refl _⟩
    · have HC : Sec (extB old m root n ps = false) := sec (by unfold extB; rw [if_neg (fun h => h2 h.2.1)])
      rw [HC.out]
      have q1 : ¬ m < 0 := by omega
      have q2 : n < m := by omega
      go_enter Tryd.func30, Tryd.ntmps30
      go_wp2_with fail
      go_ret
      exact ⟨rfl, Gr.refl _⟩
  · have HC : Sec (extB old m root n ps = false) := sec (by unfold extB; rw [if_neg (fun h => h1 h.1)])
    rw [HC.out]
    have q1 : m < 0 := by omega
    go_enter Tryd.func30, Tryd.ntmps30
    go_wp2_with fail
    go_ret
    exact ⟨rfl, Gr.refl _⟩

set_option maxRecDepth 100000 in
set_option maxHeartbeats 2000000 in
theorem merkleExtends_walk (old : List UInt8) (m : Int) (root : List UInt8) (n : Int) (A : Option Addr) (cap : Nat) (ps : List (List UInt8)) (W : World) (ho : old.length ≤ 1048576) (_hm : -9223372036854775808 ≤ m ∧ m ≤ 9223372036854775807) (hr : root.length ≤ 1048576) (_hn : -9223372036854775808 ≤ n ∧ n ≤ 9223372036854775807)
    (hps : StrRow W A ps.length ps ∧ ps.length ≤ 1048576 ∧ (∀ x ∈ ps, x.length ≤ 1048576) ∧ ps.length ≤ cap ∧ cap ≤ maxLen ∧ (A = none → cap = 0)) (hT : TabK W) :
    Calls Tryd.prog 6 #[.string (bs old), .int .i64 m, .string (bs root), .int .i64 n, .slice A ps.length cap] W fun e w' => e = .returned (.bool true) ∧ Gr W w' := by
  obtain ⟨hrow, hl, hx, hc, _, hA⟩ := hps
  have hsh : Short ps := fun s h => Nat.le_trans (hx s h) (by omega)
  have HS1 := sec (strings_any ps ps.length A cap W (by omega) hrow (fun e => by have := hA e; omega))
  have HS2 : Sec (∀ (A' : Option Addr) (cap' : Nat) (w' : World), w'.ownsRow W.heap.size 9 1 (.slice A' ps.length cap') ps.length (ps.map strV) → Gr W w' →
      Calls Tryd.prog 29 #[.string (bs old), .int .i64 m, .string (bs root), .int .i64 n, .slice A' ps.length cap'] w' fun e w'' => e = .returned (.bool (extB old m root n ps)) ∧ Gr w' w'') :=
    sec fun A' cap' w' hown g => extends_any old root m n ps ps.length A' cap' w' (by omega) (by omega) (by
      rcases hown.2 with ⟨_, h0⟩ | ⟨g, c, cur, e, _, _, h, _⟩
      · omega
      · injection e with _ _ e; omega) (Row.own hown) hsh (hT.gr g)
  have HS3 : Sec (∀ (w' : World), Gr W w' → Calls Tryd.prog 30 #[.string (bs old), .int .i64 m, .string (bs root), .int .i64 n, .slice A ps.length cap] w' fun e w'' => e = .returned (.bool (extB old m root n ps)) ∧ Gr w' w'') :=
    sec fun w' g => rextends_any old root m n ps ps.length A cap w' (by omega) (by omega) hc (fun e => by have := hA e; omega) (hrow.gr g) hsh
  obtain ⟨B, hB⟩ : ∃ B, B = extB old m root n ps := ⟨_, rfl⟩
  rw [← hB] at HS2 HS3
  clear hB hrow hx hsh
  go_enter Tryd.func6, Tryd.ntmps6
  go_wp2_with (first
    | (go_at_call 15; refine Calls.mono HS1.out ?_; rintro e w1 ⟨A', cap', rfl, hown, g1⟩)
    | (go_at_call 29; with_reducible refine Calls.mono (HS2.out _ _ _ hown g1) ?_; rintro e w2 ⟨rfl, g2'⟩; have g2 := g1.trans g2')
    | (go_at_call 30; with_reducible refine Calls.mono (HS3.out _ g2) ?_; rintro e w3 ⟨rfl, g3'⟩; have g3 := g2.trans g3')
    | (go_at_call 21; refine (roots_any _ (hT.gr g3)).mono ?_; rintro e w8 ⟨rfl, g8'⟩; have g8 := g3.trans g8'))
  go_ret
  exact ⟨rfl, g8⟩
end Go.Proofs.YtjgkefjocakggaaDoor

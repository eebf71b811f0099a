/-
  merkle.Extends by its contract.
-/
import Derived.Test.YtjgkefjocakggaaDoorBoth
namespace Go.Proofs.YtjgkefjocakggaaDoor
open Go.RowKit
set_option linter.unusedVariables false

def both2 (old root : List UInt8) : Option Two2 → Bool
  | some x => x.1 == old && x.2 == root
  | none => false
/-- P9.6 -/
def extB (old : List UInt8) (m : Int) (root : List UInt8) (n : Int) (ps : List (List UInt8)) : Bool :=
  if 0 ≤ m ∧ m ≤ n ∧ n ≤ 1099511627776 then
    (if m = 0 then decide (ps.length = 0 ∧ old = sha [] ∧ (0 < n ∨ root = old)) else both2 old root (bothR old m.toNat n.toNat true ps.reverse))
  else false

set_option maxRecDepth 100000 in
set_option maxHeartbeats 4000000 in
theorem extends_any (old root : List UInt8) (m n : Int) (ps : List (List UInt8)) (k : Nat) (A : Option Addr) (cap : Nat) (w : World) (hold : old.length ≤ 1099511627776) (hk : k ≤ 1099511627776) (hcap : k ≤ cap) (hrow : StrRow w A k ps) (hs : Short ps) (hT : TabK w) :
    Calls Tryd.prog 29 #[.string (bs old), .int .i64 m, .string (bs root), .int .i64 n, .slice A k cap] w fun e w' => e = .returned (.bool (extB old m root n ps)) ∧ Gr w w' := by
  have hlen := hrow.len
  by_cases h1 : 0 ≤ m
  · by_cases h2 : m ≤ n
    · by_cases h3 : n ≤ 1099511627776
      · have q1 : ¬ m < 0 := by omega
        have q2 : ¬ n < m := by omega
        have q3 : ¬ 1099511627776 < n := by omega
        by_cases h0 : m = 0
        · subst h0
          have HC : Sec (extB old 0 root n ps = decide (ps.length = 0 ∧ old = sha [] ∧ (0 < n ∨ root = old))) := sec (by unfold extB; rw [if_pos ⟨h1, h2, h3⟩, if_pos rfl])
          by_cases hl0 : k = 0
          · subst hl0
            by_cases ho : old = sha []
            · by_cases hn0 : 0 < n
              · have HF : Sec (extB old 0 root n ps = true) := sec (by rw [HC.out]; exact decide_eq_true ⟨hlen, ho, .inl hn0⟩)
                have t1 : (old == sha []) = true := by rw [beq_iff_eq]; exact ho
                clear hrow hlen HC hs ho
                go_enter Tryd.func29, Tryd.ntmps29
                go_wp2_with (go_at_call 37; refine (sum_any [] _ hT (by simp)).mono ?_; rintro e w1 ⟨rfl, g1⟩)
                go_ret
                exact ⟨by rw [HF.out]; rfl, g1⟩
              · have hnn : n = 0 := by omega
                subst hnn
                by_cases hr : root = old
                · have HF : Sec (extB old 0 root 0 ps = true) := sec (by rw [HC.out]; exact decide_eq_true ⟨hlen, ho, .inr hr⟩)
                  have t1 : (old == sha []) = true := by rw [beq_iff_eq]; exact ho
                  have t2 : (root == old) = true := by rw [beq_iff_eq]; exact hr
                  clear hrow hlen HC hs ho hr
                  go_enter Tryd.func29, Tryd.ntmps29
                  go_wp2_with (go_at_call 37; refine (sum_any [] _ hT (by simp)).mono ?_; rintro e w1 ⟨rfl, g1⟩)
                  go_ret
                  exact ⟨by rw [HF.out]; rfl, g1⟩
                · have HF : Sec (extB old 0 root 0 ps = false) := sec (by rw [HC.out]; exact decide_eq_false (fun h => by rcases h.2.2 with h | h; exact hn0 h; exact hr h))
                  have t1 : (old == sha []) = true := by rw [beq_iff_eq]; exact ho
                  have t2 : (root == old) = false := by rw [beq_eq_false_iff_ne]; exact hr
                  clear hrow hlen HC hs ho hr
                  go_enter Tryd.func29, Tryd.ntmps29
                  go_wp2_with (go_at_call 37; refine (sum_any [] _ hT (by simp)).mono ?_; rintro e w1 ⟨rfl, g1⟩)
                  go_ret
                  exact ⟨by rw [HF.out]; rfl, g1⟩
            · have HF : Sec (extB old 0 root n ps = false) := sec (by rw [HC.out]; exact decide_eq_false (fun h => ho h.2.1))
              have t1 : (old == sha []) = false := by rw [beq_eq_false_iff_ne]; exact ho
              clear hrow hlen HC hs ho
              go_enter Tryd.func29, Tryd.ntmps29
              go_wp2_with (go_at_call 37; refine (sum_any [] _ hT (by simp)).mono ?_; rintro e w1 ⟨rfl, g1⟩)
              go_ret
              exact ⟨by rw [HF.out]; rfl, g1⟩
          · have HF : Sec (extB old 0 root n ps = false) := sec (by rw [HC.out]; exact decide_eq_false (fun h => hl0 (by omega)))
            have t1 : ((k : Int) == 0) = false := by rw [beq_eq_false_iff_ne]; omega
            clear hrow hlen HC hs hl0
            go_enter Tryd.func29, Tryd.ntmps29
            go_wp2_with fail
            go_ret
            exact ⟨by rw [HF.out]; rfl, Gr.refl _⟩
        · have t1 : (m == 0) = false := by rw [beq_eq_false_iff_ne]; exact h0
          obtain ⟨M, rfl⟩ : ∃ M : Nat, m = M := ⟨m.toNat, by omega⟩
          obtain ⟨N, rfl⟩ : ∃ N : Nat, n = N := ⟨n.toNat, by omega⟩
          have HC : Sec (extB old M root N ps = both2 old root (bothR old M N true ps.reverse)) := sec (by unfold extB; rw [if_pos ⟨h1, h2, h3⟩, if_neg h0, Int.toNat_natCast, Int.toNat_natCast])
          have HB := sec (both_any old hold k ps M N true A cap w hlen hk (by omega) (by omega) (by omega) hcap hrow hs hT)
          have HF : Sec (∀ a b ok, BothIs old M N true ps.reverse a b ok → extB old M root N ps = (ok && (a == old) && (b == root))) := sec (fun a b ok h => by rw [HC.out, h.eq]; cases ok <;> rfl)
          clear hrow hlen HC hs h0
          go_enter Tryd.func29, Tryd.ntmps29
          go_wp2_with (go_at_call 43; with_reducible refine Calls.mono HB.out ?_; rintro e w2 ⟨a, b2, ok, rfl, hb, g2⟩; have HR := sec (HF.out _ _ _ hb); clear hb; cases ok)
          all_goals
            go_ret
            refine ⟨?_, g2⟩
            rw [HR.out]
            simp [*]
      · have HC : Sec (extB old m root n ps = false) := sec (by unfold extB; rw [if_neg (fun h => h3 h.2.2)])
        rw [HC.out]
        have q1 : ¬ m < 0 := by omega
        have q2 : ¬ n < m := by omega
        have q3 : 1099511627776 < n := by omega
        go_enter Tryd.func29, Tryd.ntmps29
        go_wp2_with fail
        go_ret
        exact ⟨rfl, Gr.refl _⟩
    · have HC : Sec (extB old m root n ps = false) := sec (by unfold extB; rw [if_neg (fun h => h2 h.2.1)])
      rw [HC.out]
      have q1 : ¬ m < 0 := by omega
      have q2 : n < m := by omega
      go_enter Tryd.func29, Tryd.ntmps29
      go_wp2_with fail
      go_ret
      exact ⟨rfl, Gr.refl _⟩
  · have HC : Sec (extB old m root n ps = false) := sec (by unfold extB; rw [if_neg (fun h => h1 h.1)])
    rw [HC.out]
    have q1 : m < 0 := by omega
    go_enter Tryd.func29, Tryd.ntmps29
    go_wp2_with fail
    go_ret
    exact ⟨rfl, Gr.refl _⟩
end Go.Proofs.YtjgkefjocakggaaDoor

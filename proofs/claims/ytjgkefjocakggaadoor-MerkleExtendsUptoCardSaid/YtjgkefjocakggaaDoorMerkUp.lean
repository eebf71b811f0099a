/-
  merkle.up, Check by their contracts.
-/
import Derived.Test.YtjgkefjocakggaaDoorMerkR
namespace Go.Proofs.YtjgkefjocakggaaDoor
open Go.RowKit
set_option linter.unusedVariables false

def upV (p : List UInt8 × Bool) : Value := .tuple #[.string (bs p.1), .bool p.2]

set_option maxRecDepth 100000 in
set_option maxHeartbeats 2000000 in
theorem up_any (leaf : List UInt8) (hleaf : leaf.length ≤ 32) (m : Nat) : ∀ (ps : List (List UInt8)) (n i : Nat) (A : Option Addr) (cap : Nat) (w : World), ps.length = m → m ≤ 1099511627776 → 0 < n → n ≤ 1099511627776 → i < n → m ≤ cap → StrRow w A m ps → Short ps → TabK w →
    Calls Tryd.prog 36 #[.string (bs leaf), .int .i64 (n : Int), .int .i64 (i : Int), .slice A m cap] w fun e w' => e = .returned (upV (upR leaf n i ps.reverse)) ∧ Gr w w' := by
  unfold upV
  induction m with
  | zero =>
    intro ps n i A cap w hl hm hn0 hn hi hcap hrow hs hT
    obtain rfl : ps = [] := List.eq_nil_of_length_eq_zero hl
    by_cases h1 : n = 1
    · subst h1
      have HR : Sec (upR leaf 1 i [] = (leaf, true)) := sec rfl
      rw [List.reverse_nil, HR.out]
      clear hl hrow
      go_enter Tryd.func36, Tryd.ntmps36
      go_wp2_with fail
      go_ret2
      exact ⟨rfl, Gr.refl _⟩
    · have HR : Sec (upR leaf n i [] = ([], false)) := sec (by unfold upR; rw [if_neg h1])
      rw [List.reverse_nil, HR.out]
      have t1 : ((n : Int) == 1) = false := by rw [beq_eq_false_iff_ne]; omega
      clear hl hrow h1
      go_enter Tryd.func36, Tryd.ntmps36
      go_wp2_with fail
      go_ret2
      exact ⟨rfl, Gr.refl _⟩
  | succ m ih =>
    intro ps n i A cap w hl hm hn0 hn hi hcap hrow hs hT
    obtain ⟨qs, last, rfl⟩ : ∃ qs last, ps = qs ++ [last] := ⟨ps.take m, ps[m]'(by omega), by
      have := List.take_succ_eq_append_getElem (l := ps) (i := m) (by omega)
      rw [← this, List.take_of_length_le (by omega)]⟩
    have hql : qs.length = m := by simpa using hl
    rw [List.reverse_append, List.reverse_cons, List.reverse_nil, List.nil_append, List.singleton_append]
    by_cases h1 : n = 1
    · subst h1
      have HR : Sec (upR leaf 1 i (last :: qs.reverse) = (leaf, false)) := sec rfl
      rw [HR.out]
      have t1 : (((m + 1 : Nat) : Int) == 0) = false := by rw [beq_eq_false_iff_ne]; omega
      clear hl hrow ih
      go_enter Tryd.func36, Tryd.ntmps36
      go_wp2_with fail
      go_ret2
      exact ⟨rfl, Gr.refl _⟩
    · have t1 : ((n : Int) == 1) = false := by rw [beq_eq_false_iff_ne]; omega
      have t2 : ((m : Int) + 1 == 0) = false := by rw [beq_eq_false_iff_ne]; omega
      have hlt : 1 < n := by omega
      obtain ⟨b, off, rfl, hc⟩ := hrow.cell (i := m) (by simp; omega)
      have hlast : (qs ++ [last])[m]'(by simp; omega) = last := by simp [← hql]
      rw [hlast] at hc
      have hll : last.length ≤ 1099511627776 := hs last (by simp)
      have hsq : Short qs := fun s h => hs s (by simp [h])
      have hrq : StrRow w (some ⟨b, off, none⟩) m qs := by
        have := hrow.take m (by omega)
        rw [show (qs ++ [last]).take m = qs by rw [← hql]; exact List.take_left] at this
        exact this
      have hkl := halfN_lt hlt
      have hkp := halfN_pos n
      have HH : Sec (∀ w, Calls Tryd.prog 39 #[.int .i64 (n : Int)] w fun e w' => e = .returned (.int .i64 (halfN n : Int)) ∧ w' = w) := sec fun w => half_any n w hn
      have hU : upR leaf n i (last :: qs.reverse) = if i < halfN n then ((nodeH (upR leaf (halfN n) i qs.reverse).1 last), (upR leaf (halfN n) i qs.reverse).2) else ((nodeH last (upR leaf (n - halfN n) (i - halfN n) qs.reverse).1), (upR leaf (n - halfN n) (i - halfN n) qs.reverse).2) := by
        rw [upR, if_neg h1]
      obtain ⟨k, hk⟩ : ∃ k, k = halfN n := ⟨_, rfl⟩
      rw [← hk] at hkl hkp HH hU
      by_cases hik : i < k
      · rw [if_pos hik] at hU
        have IH : Sec (Calls Tryd.prog 36 #[.string (bs leaf), .int .i64 (k : Int), .int .i64 (i : Int), .slice (some ⟨b, off, none⟩) m cap] w fun e w' => e = .returned (.tuple #[.string (bs (upR leaf k i qs.reverse).1), .bool (upR leaf k i qs.reverse).2]) ∧ Gr w w') :=
          sec (ih qs k i _ cap w hql (by omega) hkp (by omega) hik (by omega) hrq hsq hT)
        have hul := upR_len leaf hleaf qs.reverse k i
        have HU := sec hU
        obtain ⟨⟨s, ok⟩, hso⟩ : ∃ x, x = upR leaf k i qs.reverse := ⟨_, rfl⟩
        rw [← hso] at IH hul HU
        simp only at IH hul HU
        rw [HU.out]
        have hiki : (i : Int) < (k : Int) := by omega
        clear hso hU hrow hrq hs hsq ih hk h1 hql hlast hl HU
        go_enter Tryd.func36, Tryd.ntmps36
        go_wp2_with (first
          | (go_at_call 39; with_reducible refine Calls.mono (HH.out _) ?_; rintro e w1 ⟨rfl, hw1⟩; subst w1)
          | (go_at_call 36; with_reducible refine Calls.mono IH.out ?_; rintro e w2 ⟨rfl, g2⟩)
          | (go_at_call 19; with_reducible refine Calls.mono (node_any s last _ (hT.gr g2) (by omega) hll) ?_; rintro e w3 ⟨rfl, g3⟩))
        go_ret2
        exact ⟨rfl, g2.trans g3⟩
      · rw [if_neg hik] at hU
        have IH : Sec (Calls Tryd.prog 36 #[.string (bs leaf), .int .i64 ((n - k : Nat) : Int), .int .i64 ((i - k : Nat) : Int), .slice (some ⟨b, off, none⟩) m cap] w fun e w' => e = .returned (.tuple #[.string (bs (upR leaf (n - k) (i - k) qs.reverse).1), .bool (upR leaf (n - k) (i - k) qs.reverse).2]) ∧ Gr w w') :=
          sec (ih qs (n - k) (i - k) _ cap w hql (by omega) (by omega) (by omega) (by omega) (by omega) hrq hsq hT)
        have hul := upR_len leaf hleaf qs.reverse (n - k) (i - k)
        have HU := sec hU
        obtain ⟨⟨s, ok⟩, hso⟩ : ∃ x, x = upR leaf (n - k) (i - k) qs.reverse := ⟨_, rfl⟩
        rw [← hso] at IH hul HU
        simp only at IH hul HU
        rw [HU.out]
        have hiki : ¬ (i : Int) < (k : Int) := by omega
        have e1 : ((n - k : Nat) : Int) = (n : Int) - (k : Int) := by omega
        have e2 : ((i - k : Nat) : Int) = (i : Int) - (k : Int) := by omega
        rw [e1, e2] at IH
        clear hso hU hrow hrq hs hsq ih hk h1 hql hlast hl HU e1 e2
        go_enter Tryd.func36, Tryd.ntmps36
        go_wp2_with (first
          | (go_at_call 39; with_reducible refine Calls.mono (HH.out _) ?_; rintro e w1 ⟨rfl, hw1⟩; subst w1)
          | (go_at_call 36; with_reducible refine Calls.mono IH.out ?_; rintro e w2 ⟨rfl, g2⟩)
          | (go_at_call 19; with_reducible refine Calls.mono (node_any last s _ (hT.gr g2) hll (by omega)) ?_; rintro e w3 ⟨rfl, g3⟩))
        go_ret2
        exact ⟨rfl, g2.trans g3⟩

/-- P9.4 -/
def checkB (root : List UInt8) (n i : Int) (s : List UInt8) (path : List (List UInt8)) : Bool :=
  if 1 ≤ n ∧ n ≤ 1099511627776 ∧ 0 ≤ i ∧ i < n then (upR (leafH s) n.toNat i.toNat path.reverse).2 && ((upR (leafH s) n.toNat i.toNat path.reverse).1 == root) else false

set_option maxRecDepth 100000 in
set_option maxHeartbeats 2000000 in
theorem check_any (root s : List UInt8) (n i : Int) (ps : List (List UInt8)) (m : Nat) (A : Option Addr) (cap : Nat) (w : World) (hm : m ≤ 1099511627776) (hsl : s.length ≤ 1099511627776) (hcap : m ≤ cap) (hrow : StrRow w A m ps) (hs : Short ps) (hT : TabK w) :
    Calls Tryd.prog 14 #[.string (bs root), .int .i64 n, .int .i64 i, .string (bs s), .slice A m cap] w fun e w' => e = .returned (.bool (checkB root n i s ps)) ∧ Gr w w' := by
  by_cases h1 : 1 ≤ n
  · by_cases h2 : n ≤ 1099511627776
    · by_cases h3 : 0 ≤ i
      · by_cases h4 : i < n
        · have HC : Sec (checkB root n i s ps = ((upR (leafH s) n.toNat i.toNat ps.reverse).2 && ((upR (leafH s) n.toNat i.toNat ps.reverse).1 == root))) := sec (by unfold checkB; rw [if_pos ⟨h1, h2, h3, h4⟩])
          obtain ⟨N, rfl⟩ : ∃ N : Nat, n = N := ⟨n.toNat, by omega⟩
          obtain ⟨I, rfl⟩ : ∃ I : Nat, i = I := ⟨i.toNat, by omega⟩
          rw [Int.toNat_natCast, Int.toNat_natCast] at HC
          have hlen := hrow.len
          have UP : Sec (∀ w', Gr w w' → Calls Tryd.prog 36 #[.string (bs (leafH s)), .int .i64 (N : Int), .int .i64 (I : Int), .slice A m cap] w' fun e w'' => e = .returned (.tuple #[.string (bs (upR (leafH s) N I ps.reverse).1), .bool (upR (leafH s) N I ps.reverse).2]) ∧ Gr w' w'') :=
            sec fun w' g => up_any (leafH s) (by rw [leafH_len]; omega) m ps N I A cap w' hlen hm (by omega) (by omega) (by omega) hcap (hrow.gr g) hs (hT.gr g)
          obtain ⟨⟨r, ok⟩, hr⟩ : ∃ x, x = upR (leafH s) N I ps.reverse := ⟨_, rfl⟩
          rw [← hr] at HC UP
          simp only at HC UP
          rw [HC.out]
          clear hr hlen hrow hs HC
          go_enter Tryd.func14, Tryd.ntmps14
          cases ok
          · go_wp2_with (first
              | (go_at_call 17; with_reducible refine Calls.mono (leaf_any s _ hT hsl) ?_; rintro e w1 ⟨rfl, g1⟩)
              | (go_at_call 36; with_reducible refine Calls.mono (UP.out _ g1) ?_; rintro e w2 ⟨rfl, g2⟩))
            go_ret
            exact ⟨rfl, g1.trans g2⟩
          · go_wp2_with (first
              | (go_at_call 17; with_reducible refine Calls.mono (leaf_any s _ hT hsl) ?_; rintro e w1 ⟨rfl, g1⟩)
              | (go_at_call 36; with_reducible refine Calls.mono (UP.out _ g1) ?_; rintro e w2 ⟨rfl, g2⟩))
            go_ret
            exact ⟨rfl, g1.trans g2⟩
        · have HC : Sec (checkB root n i s ps = false) := sec (by unfold checkB; rw [if_neg (fun h => h4 h.2.2.2)])
          rw [HC.out]
          go_enter Tryd.func14, Tryd.ntmps14
          go_wp2_with fail
          go_ret
          exact ⟨rfl, Gr.refl _⟩
      · have HC : Sec (checkB root n i s ps = false) := sec (by unfold checkB; rw [if_neg (fun h => h3 h.2.2.1)])
        rw [HC.out]
        go_enter Tryd.func14, Tryd.ntmps14
        go_wp2_with fail
        go_ret
        exact ⟨rfl, Gr.refl _⟩
    · have HC : Sec (checkB root n i s ps = false) := sec (by unfold checkB; rw [if_neg (fun h => h2 h.2.1)])
      rw [HC.out]
      go_enter Tryd.func14, Tryd.ntmps14
      go_wp2_with fail
      go_ret
      exact ⟨rfl, Gr.refl _⟩
  · have HC : Sec (checkB root n i s ps = false) := sec (by unfold checkB; rw [if_neg (fun h => h1 h.1)])
    rw [HC.out]
    go_enter Tryd.func14, Tryd.ntmps14
    go_wp2_with fail
    go_ret
    exact ⟨rfl, Gr.refl _⟩
end Go.Proofs.YtjgkefjocakggaaDoor

/-
  merkle.proof, Proof by their contracts.
-/
import Derived.Test.YtjgkefjocakggaaDoorPath
namespace Go.Proofs.YtjgkefjocakggaaDoor
open Go.RowKit
set_option linter.unusedVariables false

theorem downP_len : ∀ (n : Nat) (l : List (List UInt8)) (m : Nat) (whole : Bool), l.length ≤ n → (downP l m whole).length ≤ l.length + 1 := by
  intro n
  induction n with
  | zero => intro l m whole h; rw [downP_end (by omega)]; cases whole <;> simp
  | succ n ih =>
    intro l m whole h
    by_cases h1 : l.length ≤ m ∨ l.length ≤ 1
    · rw [downP, dif_pos h1]; cases whole <;> simp
    · have hk := halfN_lt (n := l.length) (by omega)
      have hp := halfN_pos l.length
      by_cases hi : m ≤ halfN l.length
      · rw [downP_left (by omega) (by omega) hi]
        have := ih (l.take (halfN l.length)) m whole (by rw [List.length_take]; omega)
        rw [List.length_take] at this
        rw [List.length_cons]; omega
      · rw [downP_right (by omega) (by omega) hi]
        have := ih (l.drop (halfN l.length)) (m - halfN l.length) false (by rw [List.length_drop]; omega)
        rw [List.length_drop] at this
        rw [List.length_cons]; omega

set_option maxRecDepth 100000 in
set_option maxHeartbeats 4000000 in
theorem proof_in (N : Nat) : ∀ (ss : List (List UInt8)) (m n : Nat) (whole : Bool) (A : Option Addr) (cap : Nat) (w : World), ss.length ≤ N → 0 < m → m ≤ n → n ≤ 1099511627776 → n ≤ cap → StrRow w A n ss → Short ss → TabK w →
    Calls Tryd.prog 42 #[.slice A n cap, .int .i64 (m : Int), .bool whole] w fun e w' => ∃ A' cap', e = .returned (.slice A' (downP ss m whole).length cap') ∧ w'.ownsRow w.heap.size 9 1 (.slice A' (downP ss m whole).length cap') (downP ss m whole).length ((downP ss m whole).reverse.map strV) ∧ Gr w w' := by
  induction N with
  | zero =>
    intro ss m n whole A cap w hN hm0 hmn hn hcap hrow hs hT
    have hl := hrow.len
    omega
  | succ N ih =>
    intro ss m n whole A cap w hN hm0 hmn hn hcap hrow hs hT
    have hl := hrow.len
    by_cases he : m = n
    · subst he
      have HD := sec (downP_end (l := ss) (m := m) (whole := whole) (by omega))
      cases whole with
      | true =>
        have HD2 : Sec (downP ss m true = []) := sec HD.out
        rw [HD2.out]
        clear hl ih HD
        go_enter Tryd.func42, Tryd.ntmps42
        go_wp2_with fail
        go_ret
        exact ⟨none, 0, rfl, World.ownsRow_nil _ _ _ _, Gr.refl _⟩
      | false =>
        have HD2 : Sec (downP ss m false = [rootL ss]) := sec HD.out
        rw [HD2.out]
        have HR := sec (root_any _ ss A m cap w (Nat.le_refl _) hn hcap hrow hs hT)
        clear hl ih HD
        go_enter Tryd.func42, Tryd.ntmps42
        go_wp2_with (go_at_call 22; with_reducible refine Calls.mono HR.out ?_; rintro e w1 ⟨rfl, g1⟩)
        go_ret
        exact ⟨some ⟨w1.heap.size, 0, none⟩, 1, rfl, World.ownsRow_lit w1 #[.string (bs (rootL ss))] 1 g1.size (by simp [maxLen]) rfl, g1.alloc _⟩
    · have hlt : 1 < n := by omega
      have t1 : ((m : Int) == (n : Int)) = false := by rw [beq_eq_false_iff_ne]; omega
      have hkl := halfN_lt hlt
      have hkp := halfN_pos n
      have hL1 := downP_left (l := ss) (m := m) (whole := whole) (by omega) (by omega)
      have hL2 := downP_right (l := ss) (m := m) (whole := whole) (by omega) (by omega)
      rw [hl] at hL1 hL2
      have HH : Sec (∀ w, Calls Tryd.prog 39 #[.int .i64 (n : Int)] w fun e w' => e = .returned (.int .i64 (halfN n : Int)) ∧ w' = w) := sec fun w => half_any n w hn
      obtain ⟨b, off, rfl, _⟩ := Row.at_ hrow (by omega)
      obtain ⟨k, hk⟩ : ∃ k, k = halfN n := ⟨_, rfl⟩
      rw [← hk] at hkl hkp HH hL1 hL2
      have hT1 := hrow.take k (by omega)
      have hT2 := hrow.drop k (by omega)
      have hki : (k : Int) ≤ (n : Int) := by omega
      have hkc : (k : Int) ≤ (cap : Int) := by omega
      have hkc2 : ¬ cap = k := by omega
      by_cases hik : m ≤ k
      · have HD := sec (hL1 hik)
        have hiki : (m : Int) ≤ (k : Int) := by omega
        have hdl := downP_len _ (ss.take k) m whole (Nat.le_refl _)
        rw [List.length_take] at hdl
        have IHR : Sec (∀ w', Gr w w' → Calls Tryd.prog 22 #[.slice (some ⟨b, off + k, none⟩) (n - k : Nat) (cap - k : Nat)] w' fun e w'' => e = .returned (.string (bs (rootL (ss.drop k)))) ∧ Gr w' w'') :=
          sec fun w' g => root_any _ (ss.drop k) _ (n - k) (cap - k) w' (Nat.le_refl _) (by omega) (by omega) (hT2.gr g) (hs.drop k) (hT.gr g)
        have IHP : Sec (∀ w', Gr w w' → Calls Tryd.prog 42 #[.slice (some ⟨b, off, none⟩) k cap, .int .i64 (m : Int), .bool whole] w' fun e w'' => ∃ A' cap', e = .returned (.slice A' (downP (ss.take k) m whole).length cap') ∧ w''.ownsRow w.heap.size 9 1 (.slice A' (downP (ss.take k) m whole).length cap') (downP (ss.take k) m whole).length ((downP (ss.take k) m whole).reverse.map strV) ∧ Gr w' w'') :=
          sec fun w' g => (ih (ss.take k) m k whole _ cap w' (by simp; omega) hm0 hik (by omega) (by omega) (hT1.gr g) (hs.take k) (hT.gr g)).mono fun e w'' ⟨A', c', h1, h2, h3⟩ => ⟨A', c', h1, own_base h2 g.size, h3⟩
        rw [HD.out, List.reverse_cons, List.map_append, List.length_cons]
        obtain ⟨P, hP⟩ : ∃ P, P = downP (ss.take k) m whole := ⟨_, rfl⟩
        obtain ⟨R, hR⟩ : ∃ R, R = rootL (ss.drop k) := ⟨_, rfl⟩
        rw [← hP] at hdl IHP
        rw [← hR] at IHR
        rw [← hP, ← hR]
        have hb1 : (P.length + 1) * 16 ≤ 140737488355328 := by omega
        have hb2 : P.length + 1 ≤ maxLen := by unfold maxLen; omega
        clear hP hR HD hT1 hT2 hL1 hL2 hk ih hl hrow hs hN hdl hik
        go_enter Tryd.func42, Tryd.ntmps42
        go_wp2_with (go_at_call 39; with_reducible refine Calls.mono (HH.out _) ?_; rintro e w1 ⟨rfl, hw1⟩; subst w1)
        go_region_held3 (fun w' => Gr w w') (first | with_reducible assumption | exact (Gr.refl _).drew | exact Gr.refl _ | exact Gr.alloc (by with_reducible assumption) _ | fail)
          (first
            | (go_at_call 42; with_reducible refine Calls.mono (IHP.out _ (by assumption)) ?_; rintro e w2 ⟨A', c', rfl, hown2, g2⟩; have gg2 : Gr w w2 := Gr.trans (by assumption) g2)
            | (go_at_call 22; with_reducible refine Calls.mono (IHR.out _ (by assumption)) ?_; rintro e w3 ⟨rfl, g3⟩; have gg3 : Gr w w3 := Gr.trans (by assumption) g3; have hown3 := own_gr hown2 g3)
            | (refine step_append_oneL E.str rfl (.tmp 27) (.tmp 32) rfl rfl hown3 rfl rfl hb1 hb2 gg3.size ?_; intro g' cap' w' hown' hgn; have gg5 : Gr w w' := gg3.grown hgn (fun k hk => (hown3.lt k hk).1))
            | fail)
        go_wp2_with fail
        go_ret
        exact ⟨_, _, rfl, hown', gg5⟩
      · have HD := sec (hL2 hik)
        have hiki : ¬ (m : Int) ≤ (k : Int) := by omega
        have hdl := downP_len _ (ss.drop k) (m - k) false (Nat.le_refl _)
        rw [List.length_drop] at hdl
        have eik : ((m - k : Nat) : Int) = (m : Int) - (k : Int) := by omega
        have hw64 : IntKind.i64.wrap ((m : Int) - (k : Int)) = (m : Int) - (k : Int) := IntWalk.i64_in _ (by omega)
        have IHR : Sec (∀ w', Gr w w' → Calls Tryd.prog 22 #[.slice (some ⟨b, off, none⟩) k cap] w' fun e w'' => e = .returned (.string (bs (rootL (ss.take k)))) ∧ Gr w' w'') :=
          sec fun w' g => root_any _ (ss.take k) _ k cap w' (Nat.le_refl _) (by omega) (by omega) (hT1.gr g) (hs.take k) (hT.gr g)
        have IHP : Sec (∀ w', Gr w w' → Calls Tryd.prog 42 #[.slice (some ⟨b, off + k, none⟩) (n - k : Nat) (cap - k : Nat), .int .i64 ((m : Int) - (k : Int)), .bool false] w' fun e w'' => ∃ A' cap', e = .returned (.slice A' (downP (ss.drop k) (m - k) false).length cap') ∧ w''.ownsRow w.heap.size 9 1 (.slice A' (downP (ss.drop k) (m - k) false).length cap') (downP (ss.drop k) (m - k) false).length ((downP (ss.drop k) (m - k) false).reverse.map strV) ∧ Gr w' w'') :=
          sec fun w' g => by rw [← eik]; exact (ih (ss.drop k) (m - k) (n - k) false _ (cap - k) w' (by simp; omega) (by omega) (by omega) (by omega) (by omega) (hT2.gr g) (hs.drop k) (hT.gr g)).mono fun e w'' ⟨A', c', h1, h2, h3⟩ => ⟨A', c', h1, own_base h2 g.size, h3⟩
        rw [HD.out, List.reverse_cons, List.map_append, List.length_cons]
        obtain ⟨P, hP⟩ : ∃ P, P = downP (ss.drop k) (m - k) false := ⟨_, rfl⟩
        obtain ⟨R, hR⟩ : ∃ R, R = rootL (ss.take k) := ⟨_, rfl⟩
        rw [← hP] at hdl IHP
        rw [← hR] at IHR
        rw [← hP, ← hR]
        have hb1 : (P.length + 1) * 16 ≤ 140737488355328 := by omega
        have hb2 : P.length + 1 ≤ maxLen := by unfold maxLen; omega
        clear hP hR HD hT1 hT2 hL1 hL2 hk ih hl hrow hs hN hdl hik
        go_enter Tryd.func42, Tryd.ntmps42
        go_wp2_with (go_at_call 39; with_reducible refine Calls.mono (HH.out _) ?_; rintro e w1 ⟨rfl, hw1⟩; subst w1)
        go_region_held3 (fun w' => Gr w w') (first | with_reducible assumption | exact (Gr.refl _).drew | exact Gr.refl _ | exact Gr.alloc (by with_reducible assumption) _ | fail)
          (first
            | (go_at_call 42; with_reducible refine Calls.mono (IHP.out _ (by assumption)) ?_; rintro e w2 ⟨A', c', rfl, hown2, g2⟩; have gg2 : Gr w w2 := Gr.trans (by assumption) g2)
            | (go_at_call 22; with_reducible refine Calls.mono (IHR.out _ (by assumption)) ?_; rintro e w3 ⟨rfl, g3⟩; have gg3 : Gr w w3 := Gr.trans (by assumption) g3; have hown3 := own_gr hown2 g3)
            | (refine step_append_oneL E.str rfl (.tmp 40) (.tmp 45) rfl rfl hown3 rfl rfl hb1 hb2 gg3.size ?_; intro g' cap' w' hown' hgn; have gg5 : Gr w w' := gg3.grown hgn (fun k hk => (hown3.lt k hk).1))
            | fail)
        go_wp2_with fail
        go_ret
        exact ⟨_, _, rfl, hown', gg5⟩

def proofS (ss : List (List UInt8)) (m : Int) : List (List UInt8) := if 1 ≤ m ∧ m ≤ ss.length then (downP ss m.toNat true).reverse else []
set_option maxRecDepth 100000 in
set_option maxHeartbeats 1000000 in
theorem proof_any (ss : List (List UInt8)) (m : Int) (n : Nat) (A : Option Addr) (cap : Nat) (w : World) (hn : n ≤ 1099511627776) (hcap : n ≤ cap) (hrow : StrRow w A n ss) (hs : Short ss) (hT : TabK w) :
    Calls Tryd.prog 27 #[.slice A n cap, .int .i64 m] w fun e w' => ∃ A' n' cap', e = .returned (.slice A' n' cap') ∧ n' ≤ n + 1 ∧ w'.ownsRow w.heap.size 9 1 (.slice A' n' cap') n' ((proofS ss m).map strV) ∧ Gr w w' := by
  have hl := hrow.len
  by_cases h0 : 1 ≤ m
  · by_cases h1 : m ≤ n
    · obtain ⟨M, rfl⟩ : ∃ M : Nat, m = M := ⟨m.toNat, by omega⟩
      have HP : Sec (proofS ss M = (downP ss M true).reverse) := sec (by unfold proofS; rw [if_pos ⟨h0, by omega⟩, Int.toNat_natCast])
      have hd := downP_len _ ss M true (Nat.le_refl _)
      have HI := sec (proof_in _ ss M n true A cap w (Nat.le_refl _) (by omega) (by omega) hn hcap hrow hs hT)
      rw [HP.out]
      have h0' : ¬ (M : Int) < 1 := by omega
      have h1' : ¬ (n : Int) < (M : Int) := by omega
      obtain ⟨P, hP⟩ : ∃ P, P = downP ss M true := ⟨_, rfl⟩
      rw [← hP] at hd HI
      rw [← hP]
      have HDL : Sec (P.length ≤ n + 1) := sec (by omega)
      clear hP hd hrow hl HP
      go_enter Tryd.func27, Tryd.ntmps27
      go_wp2_with (go_at_call 42; with_reducible refine Calls.mono HI.out ?_; rintro e w1 ⟨A', c', rfl, hown, g1⟩)
      go_ret
      exact ⟨A', _, c', rfl, HDL.out, hown, g1⟩
    · have HP : Sec (proofS ss m = []) := sec (by unfold proofS; rw [if_neg (by omega)])
      rw [HP.out]
      have h1' : (n : Int) < m := by omega
      clear hrow hl
      go_enter Tryd.func27, Tryd.ntmps27
      go_wp2_with fail
      go_ret
      exact ⟨none, 0, 0, rfl, by omega, World.ownsRow_nil _ _ _ _, Gr.refl _⟩
  · have HP : Sec (proofS ss m = []) := sec (by unfold proofS; rw [if_neg (by omega)])
    rw [HP.out]
    have h0' : m < 1 := by omega
    clear hrow hl
    go_enter Tryd.func27, Tryd.ntmps27
    go_wp2_with fail
    go_ret
    exact ⟨none, 0, 0, rfl, by omega, World.ownsRow_nil _ _ _ _, Gr.refl _⟩
end Go.Proofs.YtjgkefjocakggaaDoor

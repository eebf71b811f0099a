/-
  merkle.Path by its contract.
-/
import Derived.Test.YtjgkefjocakggaaDoorTurned
import Derived.Deep.RegionHeld3
namespace Go.Proofs.YtjgkefjocakggaaDoor
open Go.RowKit
set_option linter.unusedVariables false

theorem own_base {w : World} {B B' e size n : Nat} {v : Value} {xs : List Value} (h : w.ownsRow B e size v n xs) (hle : B' ≤ B) : w.ownsRow B' e size v n xs := by
  refine ⟨h.1, ?_⟩
  rcases h.2 with h0 | ⟨g, cap, cur, hv, hB, r⟩
  · exact .inl h0
  · exact .inr ⟨g, cap, cur, hv, Nat.le_trans hle hB, r⟩
/-- append of one piece that was just built, one cell, at a step of a region that draws its order -/
theorem step_append_oneL {ops : Array Oper} {o : Oper} {a : Act} {K : Act → World → Prop} {Q : Exit → Act → World → Prop} {X : Prop} {w : World} {t e : TypeId} {z : Value} {bytes : Nat}
    (E : ElemOk t e z 1 bytes) (hgd : o.guard = none) (s x : Operand) (ho : o.op = .call { callee := .builtin .append, args := #[s, x], argTypes := #[t, t] })
    {A : Option Addr} {B n cap : Nat} {xs : List Value} (hs : a.eval s = .slice A n cap) (hown : w.ownsRow B e 1 (.slice A n cap) n xs)
    {u : Value} {c : Nat} (hx : a.eval x = .slice (some ⟨w.heap.size, 0, none⟩) 1 c) (h1 : u.oneCell' = true)
    (hbytes : (n + 1) * bytes ≤ 140737488355328) (h63 : n + 1 ≤ maxLen) (hB : B ≤ w.heap.size)
    (h : ∀ g cap' w', w'.ownsRow B e 1 (.slice (some ⟨g, 0, none⟩) (n + 1) cap') (n + 1) (xs ++ [u]) → w.grownBy w' (Value.ownBlock (.slice A n cap)) → K (a.put o.dst (.slice (some ⟨g, 0, none⟩) (n + 1) cap')) w') :
    if Region.wanted o (yielded ops a.tmps) = true then Oper.wp Tryd.prog o a (w.alloc (.cells #[u] e)) K Q else X := by
  obtain ⟨i0, hi0, hz0, hz1, hz2⟩ := info_parts E.info
  refine step_append_lies _ hgd s x t ho B e i0 z 1 bytes E.under hi0 hz0 hz1 hz2 E.zcells E.pos _ n xs hs (hown.alloc _) ⟨w.heap.size, 0, none⟩ 1 c [u] hx (by simp) ?_ (by intro v hv; simp at hv; subst hv; exact h1) (by omega) h63 hbytes (by simp; omega) _ rfl ?_
  · intro j v hv
    have hc : (w.alloc (.cells #[u] e)).cell? ⟨w.heap.size, j, none⟩ = (#[u] : Array Value)[j]? := World.cell?_alloc_mark w #[u] e (0, 0) j
    rw [add_zero_block, hc]
    simpa using hv
  · intro g cap' w' hown' hg hat _
    exact h g cap' w' hown' ⟨hg.os, hg.tape, hg.output, by have := hg.size; simp at this; omega, fun k hk hne => (hg.block k (by simp; omega) hne).trans (Below.heap_alloc w _ k hk)⟩

theorem downL_len : ∀ (n : Nat) (l : List (List UInt8)) (i : Nat), l.length ≤ n → (downL l i).length ≤ l.length := by
  intro n
  induction n with
  | zero => intro l i h; rw [downL_le (by omega)]; simp
  | succ n ih =>
    intro l i h
    by_cases h1 : l.length ≤ 1
    · rw [downL_le h1]; simp
    · have hk := halfN_lt (n := l.length) (by omega)
      have hp := halfN_pos l.length
      by_cases hi : i < halfN l.length
      · rw [downL_left h1 hi]
        have := ih (l.take (halfN l.length)) i (by rw [List.length_take]; omega)
        rw [List.length_take] at this
        rw [List.length_cons]; omega
      · rw [downL_right h1 hi]
        have := ih (l.drop (halfN l.length)) (i - halfN l.length) (by rw [List.length_drop]; omega)
        rw [List.length_drop] at this
        rw [List.length_cons]; omega

set_option maxRecDepth 100000 in
set_option maxHeartbeats 4000000 in
theorem path_in (N : Nat) : ∀ (ss : List (List UInt8)) (i n : Nat) (A : Option Addr) (cap : Nat) (w : World), ss.length ≤ N → i < n → n ≤ 1099511627776 → n ≤ cap → StrRow w A n ss → Short ss → TabK w →
    Calls Tryd.prog 25 #[.slice A n cap, .int .i64 (i : Int)] w fun e w' => ∃ A' cap', e = .returned (.slice A' (downL ss i).length cap') ∧ w'.ownsRow w.heap.size 9 1 (.slice A' (downL ss i).length cap') (downL ss i).length ((downL ss i).reverse.map strV) ∧ Gr w w' := by
  induction N with
  | zero =>
    intro ss i n A cap w hN hi hn hcap hrow hs hT
    have hl := hrow.len
    omega
  | succ N ih =>
    intro ss i n A cap w hN hi hn hcap hrow hs hT
    have hl := hrow.len
    have hii : ¬ (i : Int) < 0 := by omega
    have hin : ¬ (n : Int) ≤ (i : Int) := by omega
    by_cases h1 : n = 1
    · subst h1
      have HD := sec (downL_le (l := ss) (i := i) (by omega))
      rw [HD.out]
      clear hl ih
      go_enter Tryd.func25, Tryd.ntmps25
      go_wp2_with fail
      go_ret
      exact ⟨none, 0, rfl, World.ownsRow_nil _ _ _ _, Gr.refl _⟩
    · have hlt : 1 < n := by omega
      have t1 : ((n : Int) == 1) = false := by rw [beq_eq_false_iff_ne]; omega
      have hkl := halfN_lt hlt
      have hkp := halfN_pos n
      have hL1 := downL_left (l := ss) (i := i) (by omega)
      have hL2 := downL_right (l := ss) (i := i) (by omega)
      rw [hl] at hL1 hL2
      have HH : Sec (∀ w, Calls Tryd.prog 39 #[.int .i64 (n : Int)] w fun e w' => e = .returned (.int .i64 (halfN n : Int)) ∧ w' = w) := sec fun w => half_any n w hn
      obtain ⟨b, off, rfl, _⟩ := Row.at_ hrow (by omega)
      obtain ⟨k, hk⟩ : ∃ k, k = halfN n := ⟨_, rfl⟩
      rw [← hk] at hkl hkp HH hL1 hL2
      have hT1 := hrow.take k (by omega)
      have hT2 := hrow.drop k (by omega)
      have hki : (k : Int) ≤ (n : Int) := by omega
      have hkc : (k : Int) ≤ (cap : Int) := by omega
      have hkc2 : ¬ cap = k := by omega
      by_cases hik : i < k
      · have HD := sec (hL1 hik)
        have hiki : (i : Int) < (k : Int) := by omega
        have hdl := downL_len _ (ss.take k) i (Nat.le_refl _)
        rw [List.length_take] at hdl
        have IHR : Sec (∀ w', Gr w w' → Calls Tryd.prog 22 #[.slice (some ⟨b, off + k, none⟩) (n - k : Nat) (cap - k : Nat)] w' fun e w'' => e = .returned (.string (bs (rootL (ss.drop k)))) ∧ Gr w' w'') :=
          sec fun w' g => root_any _ (ss.drop k) _ (n - k) (cap - k) w' (Nat.le_refl _) (by omega) (by omega) (hT2.gr g) (hs.drop k) (hT.gr g)
        have IHP : Sec (∀ w', Gr w w' → Calls Tryd.prog 25 #[.slice (some ⟨b, off, none⟩) k cap, .int .i64 (i : Int)] w' fun e w'' => ∃ A' cap', e = .returned (.slice A' (downL (ss.take k) i).length cap') ∧ w''.ownsRow w.heap.size 9 1 (.slice A' (downL (ss.take k) i).length cap') (downL (ss.take k) i).length ((downL (ss.take k) i).reverse.map strV) ∧ Gr w' w'') :=
          sec fun w' g => (ih (ss.take k) i k _ cap w' (by simp; omega) hik (by omega) (by omega) (hT1.gr g) (hs.take k) (hT.gr g)).mono fun e w'' ⟨A', c', h1, h2, h3⟩ => ⟨A', c', h1, own_base h2 g.size, h3⟩
        rw [HD.out, List.reverse_cons, List.map_append, List.length_cons]
        obtain ⟨P, hP⟩ : ∃ P, P = downL (ss.take k) i := ⟨_, rfl⟩
        obtain ⟨R, hR⟩ : ∃ R, R = rootL (ss.drop k) := ⟨_, rfl⟩
        rw [← hP] at hdl IHP
        rw [← hR] at IHR
        rw [← hP, ← hR]
        have hb1 : (P.length + 1) * 16 ≤ 140737488355328 := by omega
        have hb2 : P.length + 1 ≤ maxLen := by unfold maxLen; omega
        clear hP hR HD hT1 hT2 hL1 hL2 hk ih hl hrow hs hN hdl hik
        go_enter Tryd.func25, Tryd.ntmps25
        go_wp2_with (go_at_call 39; with_reducible refine Calls.mono (HH.out _) ?_; rintro e w1 ⟨rfl, hw1⟩; subst w1)
        go_region_held3 (fun w' => Gr w w') (first | with_reducible assumption | exact (Gr.refl _).drew | exact Gr.refl _ | exact Gr.alloc (by with_reducible assumption) _ | fail)
          (first
            | (go_at_call 25; with_reducible refine Calls.mono (IHP.out _ (by assumption)) ?_; rintro e w2 ⟨A', c', rfl, hown2, g2⟩; have gg2 : Gr w w2 := Gr.trans (by assumption) g2)
            | (go_at_call 22; with_reducible refine Calls.mono (IHR.out _ (by assumption)) ?_; rintro e w3 ⟨rfl, g3⟩; have gg3 : Gr w w3 := Gr.trans (by assumption) g3; have hown3 := own_gr hown2 g3)
            | (refine step_append_oneL E.str rfl (.tmp 29) (.tmp 34) rfl rfl hown3 rfl rfl hb1 hb2 gg3.size ?_; intro g' cap' w' hown' hgn; have gg5 : Gr w w' := gg3.grown hgn (fun k hk => (hown3.lt k hk).1))
            | fail)
        go_wp2_with fail
        go_ret
        exact ⟨_, _, rfl, hown', gg5⟩
      · have HD := sec (hL2 hik)
        have hiki : ¬ (i : Int) < (k : Int) := by omega
        have hdl := downL_len _ (ss.drop k) (i - k) (Nat.le_refl _)
        rw [List.length_drop] at hdl
        have eik : ((i - k : Nat) : Int) = (i : Int) - (k : Int) := by omega
        have hw64 : IntKind.i64.wrap ((i : Int) - (k : Int)) = (i : Int) - (k : Int) := IntWalk.i64_in _ (by omega)
        have IHR : Sec (∀ w', Gr w w' → Calls Tryd.prog 22 #[.slice (some ⟨b, off, none⟩) k cap] w' fun e w'' => e = .returned (.string (bs (rootL (ss.take k)))) ∧ Gr w' w'') :=
          sec fun w' g => root_any _ (ss.take k) _ k cap w' (Nat.le_refl _) (by omega) (by omega) (hT1.gr g) (hs.take k) (hT.gr g)
        have IHP : Sec (∀ w', Gr w w' → Calls Tryd.prog 25 #[.slice (some ⟨b, off + k, none⟩) (n - k : Nat) (cap - k : Nat), .int .i64 ((i : Int) - (k : Int))] w' fun e w'' => ∃ A' cap', e = .returned (.slice A' (downL (ss.drop k) (i - k)).length cap') ∧ w''.ownsRow w.heap.size 9 1 (.slice A' (downL (ss.drop k) (i - k)).length cap') (downL (ss.drop k) (i - k)).length ((downL (ss.drop k) (i - k)).reverse.map strV) ∧ Gr w' w'') :=
          sec fun w' g => by rw [← eik]; exact (ih (ss.drop k) (i - k) (n - k) _ (cap - k) w' (by simp; omega) (by omega) (by omega) (by omega) (hT2.gr g) (hs.drop k) (hT.gr g)).mono fun e w'' ⟨A', c', h1, h2, h3⟩ => ⟨A', c', h1, own_base h2 g.size, h3⟩
        rw [HD.out, List.reverse_cons, List.map_append, List.length_cons]
        obtain ⟨P, hP⟩ : ∃ P, P = downL (ss.drop k) (i - k) := ⟨_, rfl⟩
        obtain ⟨R, hR⟩ : ∃ R, R = rootL (ss.take k) := ⟨_, rfl⟩
        rw [← hP] at hdl IHP
        rw [← hR] at IHR
        rw [← hP, ← hR]
        have hb1 : (P.length + 1) * 16 ≤ 140737488355328 := by omega
        have hb2 : P.length + 1 ≤ maxLen := by unfold maxLen; omega
        clear hP hR HD hT1 hT2 hL1 hL2 hk ih hl hrow hs hN hdl hik
        go_enter Tryd.func25, Tryd.ntmps25
        go_wp2_with (go_at_call 39; with_reducible refine Calls.mono (HH.out _) ?_; rintro e w1 ⟨rfl, hw1⟩; subst w1)
        go_region_held3 (fun w' => Gr w w') (first | with_reducible assumption | exact (Gr.refl _).drew | exact Gr.refl _ | exact Gr.alloc (by with_reducible assumption) _ | fail)
          (first
            | (go_at_call 25; with_reducible refine Calls.mono (IHP.out _ (by assumption)) ?_; rintro e w2 ⟨A', c', rfl, hown2, g2⟩; have gg2 : Gr w w2 := Gr.trans (by assumption) g2)
            | (go_at_call 22; with_reducible refine Calls.mono (IHR.out _ (by assumption)) ?_; rintro e w3 ⟨rfl, g3⟩; have gg3 : Gr w w3 := Gr.trans (by assumption) g3; have hown3 := own_gr hown2 g3)
            | (refine step_append_oneL E.str rfl (.tmp 42) (.tmp 47) rfl rfl hown3 rfl rfl hb1 hb2 gg3.size ?_; intro g' cap' w' hown' hgn; have gg5 : Gr w w' := gg3.grown hgn (fun k hk => (hown3.lt k hk).1))
            | fail)
        go_wp2_with fail
        go_ret
        exact ⟨_, _, rfl, hown', gg5⟩

def pathS (ss : List (List UInt8)) (i : Int) : List (List UInt8) := if 0 ≤ i ∧ i < ss.length then (downL ss i.toNat).reverse else []
set_option maxRecDepth 100000 in
set_option maxHeartbeats 1000000 in
theorem path_any (ss : List (List UInt8)) (i : Int) (n : Nat) (A : Option Addr) (cap : Nat) (w : World) (hn : n ≤ 1099511627776) (hcap : n ≤ cap) (hrow : StrRow w A n ss) (hs : Short ss) (hT : TabK w) :
    Calls Tryd.prog 25 #[.slice A n cap, .int .i64 i] w fun e w' => ∃ A' n' cap', e = .returned (.slice A' n' cap') ∧ n' ≤ n ∧ w'.ownsRow w.heap.size 9 1 (.slice A' n' cap') n' ((pathS ss i).map strV) ∧ Gr w w' := by
  have hl := hrow.len
  by_cases h0 : 0 ≤ i
  · by_cases h1 : i < n
    · obtain ⟨I, rfl⟩ : ∃ I : Nat, i = I := ⟨i.toNat, by omega⟩
      have hp : pathS ss I = (downL ss I).reverse := by unfold pathS; rw [if_pos ⟨h0, by omega⟩, Int.toNat_natCast]
      rw [hp]
      have hd := downL_len _ ss I (Nat.le_refl _)
      exact (path_in _ ss I n A cap w (Nat.le_refl _) (by omega) hn hcap hrow hs hT).mono fun e w' ⟨A', c', h1, h2, h3⟩ => ⟨A', _, c', h1, by omega, h2, h3⟩
    · have HP : Sec (pathS ss i = []) := sec (by unfold pathS; rw [if_neg (by omega)])
      rw [HP.out]
      have h1' : (n : Int) ≤ i := by omega
      clear hrow hl
      go_enter Tryd.func25, Tryd.ntmps25
      go_wp2_with fail
      go_ret
      exact ⟨none, 0, 0, rfl, by omega, World.ownsRow_nil _ _ _ _, Gr.refl _⟩
  · have HP : Sec (pathS ss i = []) := sec (by unfold pathS; rw [if_neg (by omega)])
    rw [HP.out]
    have h0' : i < 0 := by omega
    clear hrow hl
    go_enter Tryd.func25, Tryd.ntmps25
    go_wp2_with fail
    go_ret
    exact ⟨none, 0, 0, rfl, by omega, World.ownsRow_nil _ _ _ _, Gr.refl _⟩
end Go.Proofs.YtjgkefjocakggaaDoor

/-
  merkle.both by its contract.
-/
import Derived.Test.YtjgkefjocakggaaDoorMerkXL
import Derived.Test.YtjgkefjocakggaaDoorMerkR
namespace Go.Proofs.YtjgkefjocakggaaDoor
open Go.RowKit
set_option linter.unusedVariables false

/-- what both hands back, told by bothR -/
def BothIs (old : List UInt8) (m n : Nat) (wh : Bool) (r : List (List UInt8)) (a b : List UInt8) (ok : Bool) : Prop := bothR old m n wh r = (if ok then some (a, b) else none) ∧ a.length ≤ 1099511627776 ∧ b.length ≤ 1099511627776

theorem BothIs.eq {old : List UInt8} {m n : Nat} {wh : Bool} {r : List (List UInt8)} {a b : List UInt8} {ok : Bool} (h : BothIs old m n wh r a b ok) : bothR old m n wh r = (if ok then some (a, b) else none) := h.1
theorem BothIs.la {old : List UInt8} {m n : Nat} {wh : Bool} {r : List (List UInt8)} {a b : List UInt8} {ok : Bool} (h : BothIs old m n wh r a b ok) : a.length ≤ 1099511627776 := h.2.1
theorem BothIs.lb {old : List UInt8} {m n : Nat} {wh : Bool} {r : List (List UInt8)} {a b : List UInt8} {ok : Bool} (h : BothIs old m n wh r a b ok) : b.length ≤ 1099511627776 := h.2.2
set_option maxRecDepth 100000 in
set_option maxHeartbeats 4000000 in
theorem both_any (old : List UInt8) (hold : old.length ≤ 1099511627776) (M : Nat) : ∀ (ps : List (List UInt8)) (m n : Nat) (wh : Bool) (A : Option Addr) (cap : Nat) (w : World), ps.length = M → M ≤ 1099511627776 → 0 < m → m ≤ n → n ≤ 1099511627776 → M ≤ cap → StrRow w A M ps → Short ps → TabK w →
    Calls Tryd.prog 43 #[.string (bs old), .int .i64 (m : Int), .int .i64 (n : Int), .bool wh, .slice A M cap] w fun e w' => ∃ a b ok, e = .returned (.tuple #[.string (bs a), .string (bs b), .bool ok]) ∧ BothIs old m n wh ps.reverse a b ok ∧ Gr w w' := by
  induction M with
  | zero =>
    intro ps m n wh A cap w hl hM hm0 hmn hn hcap hrow hs hT
    obtain rfl : ps = [] := List.eq_nil_of_length_eq_zero hl
    clear hl hrow
    by_cases he : m = n
    · subst he
      cases wh with
      | true =>
        have HB : Sec (BothIs old m m true [] old old true) := sec ⟨by rw [bothR_nil, if_pos rfl], hold, hold⟩
        go_enter Tryd.func43, Tryd.ntmps43
        go_wp2_with fail
        refine bodyPost_ret (results_tmp3 rfl _ _ _) rfl ?_
        exact ⟨old, old, true, rfl, HB.out, Gr.refl _⟩
      | false =>
        have HB : Sec (BothIs old m m false [] [] [] false) := sec ⟨by rw [bothR_nil, if_pos rfl]; rfl, by simp, by simp⟩
        go_enter Tryd.func43, Tryd.ntmps43
        go_wp2_with fail
        refine bodyPost_ret (results_tmp3 rfl _ _ _) rfl ?_
        exact ⟨[], [], false, rfl, HB.out, Gr.refl _⟩
    · have HB : Sec (BothIs old m n wh [] [] [] false) := sec ⟨by rw [bothR_nil, if_neg he]; rfl, by simp, by simp⟩
      have t1 : ((m : Int) == (n : Int)) = false := by rw [beq_eq_false_iff_ne]; omega
      clear he
      go_enter Tryd.func43, Tryd.ntmps43
      go_wp2_with fail
      refine bodyPost_ret (results_tmp3 rfl _ _ _) rfl ?_
      exact ⟨[], [], false, rfl, HB.out, Gr.refl _⟩
  | succ M ih =>
    intro ps m n wh A cap w hl hM hm0 hmn hn hcap hrow hs hT
    obtain ⟨qs, last, rfl⟩ : ∃ qs last, ps = qs ++ [last] := ⟨ps.take M, ps[M]'(by omega), by
      have := List.take_succ_eq_append_getElem (l := ps) (i := M) (by omega)
      rw [← this, List.take_of_length_le (by omega)]⟩
    have hql : qs.length = M := by simpa using hl
    rw [List.reverse_append, List.reverse_cons, List.reverse_nil, List.nil_append, List.singleton_append]
    obtain ⟨b, off, rfl, hc⟩ := hrow.cell (i := M) (by simp; omega)
    have hlast : (qs ++ [last])[M]'(by simp; omega) = last := by simp [← hql]
    rw [hlast] at hc
    have hll : last.length ≤ 1099511627776 := hs last (by simp)
    have t2 : ((M : Int) + 1 == 0) = false := by rw [beq_eq_false_iff_ne]; omega
    by_cases he : m = n
    · subst he
      cases wh with
      | true =>
        have HB : Sec (BothIs old m m true (last :: qs.reverse) old old false) := sec ⟨by rw [bothR_cons, if_pos rfl]; rfl, hold, hold⟩
        clear hl hrow ih hc hlast hql hs
        go_enter Tryd.func43, Tryd.ntmps43
        go_wp2_with fail
        refine bodyPost_ret (results_tmp3 rfl _ _ _) rfl ?_
        exact ⟨old, old, false, by rw [← t2]; rfl, HB.out, Gr.refl _⟩
      | false =>
        cases M with
        | zero =>
          obtain rfl : qs = [] := List.eq_nil_of_length_eq_zero hql
          have HB : Sec (BothIs old m m false [last] last last true) := sec ⟨by rw [bothR_cons, if_pos rfl]; rfl, hll, hll⟩
          have hc0 : w.cell? ⟨b, off, none⟩ = some (.string (bs last)) := hc
          clear hl hrow ih hlast hql hs hc
          rw [List.reverse_nil]
          go_enter Tryd.func43, Tryd.ntmps43
          go_wp2_with fail
          go_quiet (fail)
          go_wp2_with fail
          refine bodyPost_ret (results_tmp3 rfl _ _ _) rfl ?_
          exact ⟨last, last, true, rfl, HB.out, (Gr.refl _).drewN _⟩
        | succ M =>
          have HB : Sec (BothIs old m m false (last :: qs.reverse) [] [] false) := sec ⟨by
            rw [bothR_cons, if_pos rfl]
            have : ∃ y ys, qs.reverse = y :: ys := by
              cases hq : qs.reverse with
              | nil => have := congrArg List.length hq; simp at this; rw [this] at hql; simp at hql
              | cons y ys => exact ⟨y, ys, rfl⟩
            obtain ⟨y, ys, e⟩ := this
            rw [e]; rfl, by simp, by simp⟩
          have t3 : (((M + 1 : Nat) : Int) + 1 == 1) = false := by rw [beq_eq_false_iff_ne]; omega
          have t4 : (((M + 1 : Nat) : Int) + 1 != 1) = true := by rw [bne_iff_ne]; omega
          have t5 : ((M : Int) + 1 + 1 == 1) = false := by rw [beq_eq_false_iff_ne]; omega
          have t6 : ((M : Int) + 1 + 1 != 1) = true := by rw [bne_iff_ne]; omega
          clear hl hrow ih hlast hql hs hc
          go_enter Tryd.func43, Tryd.ntmps43
          go_wp2_with fail
          refine bodyPost_ret (results_tmp3 rfl _ _ _) rfl ?_
          exact ⟨[], [], false, rfl, HB.out, Gr.refl _⟩
    · have t1 : ((m : Int) == (n : Int)) = false := by rw [beq_eq_false_iff_ne]; omega
      have hlt : 1 < n := by omega
      have hsq : Short qs := fun s h => hs s (by simp [h])
      have hrq : StrRow w (some ⟨b, off, none⟩) M qs := by
        have := hrow.take M (by omega)
        rw [show (qs ++ [last]).take M = qs by rw [← hql]; exact List.take_left] at this
        exact this
      have hkl := halfN_lt hlt
      have hkp := halfN_pos n
      have HH : Sec (∀ w, Calls Tryd.prog 39 #[.int .i64 (n : Int)] w fun e w' => e = .returned (.int .i64 (halfN n : Int)) ∧ w' = w) := sec fun w => half_any n w hn
      have hU : bothR old m n wh (last :: qs.reverse) = if m ≤ halfN n then (bothR old m (halfN n) wh qs.reverse).map fun x => (x.1, nodeH x.2 last) else (bothR old (m - halfN n) (n - halfN n) false qs.reverse).map fun x => (nodeH last x.1, nodeH last x.2) := by
        rw [bothR_cons, if_neg he]
      obtain ⟨k, hk⟩ : ∃ k, k = halfN n := ⟨_, rfl⟩
      rw [← hk] at hkl hkp HH hU
      by_cases hik : m ≤ k
      · rw [if_pos hik] at hU
        have IH := sec (ih qs m k wh _ cap w hql (by omega) hm0 hik (by omega) (by omega) hrq hsq hT)
        have HF : Sec (∀ a b ok, BothIs old m k wh qs.reverse a b ok → BothIs old m n wh (last :: qs.reverse) a (nodeH b last) ok) := sec (fun a b ok ⟨h1, h2, h3⟩ => ⟨by rw [hU, h1]; cases ok <;> rfl, h2, by rw [nodeH_len]; omega⟩)
        have hiki : (m : Int) ≤ (k : Int) := by omega
        clear hU hrow hrq hs hsq ih hk he hql hlast hl
        go_enter Tryd.func43, Tryd.ntmps43
        go_wp2_with (first
          | (go_at_call 39; with_reducible refine Calls.mono (HH.out _) ?_; rintro e w1 ⟨rfl, hw1⟩; subst w1)
          | (go_at_call 43; with_reducible refine Calls.mono IH.out ?_; rintro e w2 ⟨a, b2, ok, rfl, hb, g2⟩; have HBB := sec (HF.out _ _ _ hb); have hbl := hb.lb; clear hb)
          | (go_at_call 19; with_reducible refine Calls.mono (node_any b2 last _ (hT.gr g2) hbl hll) ?_; rintro e w3 ⟨rfl, g3⟩))
        refine bodyPost_ret (results_tmp3 rfl _ _ _) rfl ?_
        exact ⟨_, _, _, rfl, HBB.out, g2.trans g3⟩
      · rw [if_neg hik] at hU
        have hih := ih qs (m - k) (n - k) false _ cap w hql (by omega) (by omega) (by omega) (by omega) (by omega) hrq hsq hT
        have e1 : ((n - k : Nat) : Int) = (n : Int) - (k : Int) := by omega
        have e2 : ((m - k : Nat) : Int) = (m : Int) - (k : Int) := by omega
        rw [e1, e2] at hih
        have IH := sec hih
        have HF : Sec (∀ a b ok, BothIs old (m - k) (n - k) false qs.reverse a b ok → BothIs old m n wh (last :: qs.reverse) (nodeH last a) (nodeH last b) ok) := sec (fun a b ok ⟨h1, h2, h3⟩ => ⟨by rw [hU, h1]; cases ok <;> rfl, by rw [nodeH_len]; omega, by rw [nodeH_len]; omega⟩)
        have hiki : ¬ (m : Int) ≤ (k : Int) := by omega
        clear hU hrow hrq hs hsq ih hk he hql hlast hl hih e1 e2
        go_enter Tryd.func43, Tryd.ntmps43
        go_wp2_with (first
          | (go_at_call 39; with_reducible refine Calls.mono (HH.out _) ?_; rintro e w1 ⟨rfl, hw1⟩; subst w1)
          | (go_at_call 43; with_reducible refine Calls.mono IH.out ?_; rintro e w2 ⟨a, b2, ok, rfl, hb, g2⟩; have HBB := sec (HF.out _ _ _ hb); have hal := hb.la; have hbl := hb.lb; clear hb)
          | (go_at_call 19; with_reducible refine Calls.mono (node_any last b2 _ (hT.gr (g2.trans g3)) hll hbl) ?_; rintro e w4 ⟨rfl, g4⟩)
          | (go_at_call 19; with_reducible refine Calls.mono (node_any last a _ (hT.gr g2) hll hal) ?_; rintro e w3 ⟨rfl, g3⟩))
        refine bodyPost_ret (results_tmp3 rfl _ _ _) rfl ?_
        exact ⟨_, _, _, rfl, HBB.out, g2.trans (g3.trans g4)⟩
end Go.Proofs.YtjgkefjocakggaaDoor

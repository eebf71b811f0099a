/-
  A region that draws its order, whose first operations are in one forced order (and may hold calls that make memory), and whose
  others only read, in the world that these leave.
-/
import Derived.Test.YtoamnifnfkgbiaaGreatDoorBRow
import Derived.StillTailTactics
import Derived.Deep.QuietTactic
import Derived.BigQuiet
namespace Go.Proofs.YtoamnifnfkgbiaaGreatDoor
open Go.RowKit
set_option linter.unusedVariables false
theorem oper_wp_post {P : Program} {o : Oper} {a : Act} {w : World} {K K' : Act → World → Prop} {Q Q' : Exit → Act → World → Prop} (h : ∀ a w, K a w → K' a w)
    (hq : ∀ e a w, e ≠ .normal → Q e a w → Q' e a w) (hh : o.wp P a w K Q) : o.wp P a w K' Q' := by
  unfold Oper.wp at *
  generalize (execOp a.eval o).run P w = r at *
  cases r with
  | ok n w' =>
    cases n <;> simp only [Oper.upon] at hh ⊢ <;>
      first
        | exact h _ _ hh
        | exact Calls.mono hh (fun e w'' he => by
            cases e with
            | returned v => exact h _ _ he
            | panicked c => exact hq _ _ _ (by intro h; cases h) he
            | outgrown => exact he.elim (fun a h1 => h1.elim (fun w h2 => ⟨a, w, hq _ _ _ (by intro h; cases h) h2⟩)))
        | exact Rows.mono hh (fun _ _ he => h _ _ he)
        | exact hq _ _ _ (by intro h; cases h) hh
  | halt x w' => cases x <;> simp only [Oper.upon] at hh ⊢ <;> first | exact hq _ _ _ (by intro h; cases h) hh | exact hh | exact hh.elim (fun a h1 => h1.elim (fun w h2 => ⟨a, w, hq _ _ _ (by intro h; cases h) h2⟩))

/-- the first n operations from k on are each the only one that may come up -/
def seqHB (md : Region.Mode) (ops : Array Oper) : Nat → Nat → Array Bool → Bool
  | 0, _, _ => true
  | n + 1, k, listed => decide (Region.ready md ops listed = [k]) && seqHB md ops n (k + 1) (listed.setIfInBounds k true)
def markN : Nat → Nat → Array Bool → Array Bool
  | 0, _, listed => listed
  | n + 1, k, listed => markN n (k + 1) (listed.setIfInBounds k true)

/-- a post that goes on, in the place of 'normal' -/
def OnQ (K : Act → World → Prop) (Q : Exit → Act → World → Prop) : Exit → Act → World → Prop
  | .normal, a, w => K a w
  | e, a, w => Q e a w
theorem OnQ.out {K : Act → World → Prop} {Q : Exit → Act → World → Prop} (e : Exit) (a : Act) (w : World) (h : e ≠ .normal) (hh : OnQ K Q e a w) : Q e a w := by
  cases e <;> first | exact absurd rfl h | exact hh

theorem wpAny_seqHead {P : Program} {md : Region.Mode} {ops : Array Oper} {Q : Exit → Act → World → Prop} {g : Nat} {K : Act → World → Prop} : ∀ (l : List Oper) (k : Nat) (listed : Array Bool) (a : Act) (w : World),
    (∀ j, j < l.length → l[j]? = ops[k + j]?) → seqHB md ops l.length k listed = true →
    (∀ a w, K a w → wpAny P md ops Q g (markN l.length k listed) a w) → wpList P ops (OnQ K Q) l a w → wpAny P md ops Q (l.length + g) listed a w
  | [], k, listed, a, w, _, _, hk, h => by
    simp only [List.length_nil, Nat.zero_add]
    exact hk a w h
  | o :: l, k, listed, a, w, hl, hB, hk, h => by
    have h0 : ops[k]? = some o := by simpa using (hl 0 (by simp)).symm
    simp only [List.length_cons, seqHB, Bool.and_eq_true, decide_eq_true_eq] at hB
    rw [List.length_cons, show l.length + 1 + g = (l.length + g) + 1 by omega]
    refine ⟨fun h1 => (by rw [hB.1] at h1; cases h1), fun i hi => ?_⟩
    rw [hB.1] at hi
    have hik : i = k := by simpa using hi
    subst hik
    have ih := fun a' w' h' => wpAny_seqHead (Q := Q) (g := g) (K := K) l (i + 1) (listed.setIfInBounds i true) a' w' (fun j hj => by
      have := hl (j + 1) (by simp only [List.length_cons]; omega); simpa [Nat.add_assoc, Nat.add_comm 1 j] using this) hB.2 hk h'
    unfold wpOp
    simp only [h0]
    simp only [wpList] at h
    split
    · rename_i hw
      simp only [hw, if_true] at h
      rcases h with h | ⟨h1, a1, w1, h2⟩
      · exact .inl (oper_wp_post ih OnQ.out h)
      · exact .inr ⟨h1, a1, w1, OnQ.out _ _ _ (by intro h; cases h) h2⟩
    · rename_i hw
      simp only [hw] at h
      exact ih _ _ h

def headStillB (ops : Array Oper) (n : Nat) : Bool :=
  Region.noSelect ops && seqHB .any ops n 0 (Array.replicate ops.size false) && Region.lexFrom .any ops (ops.size - n) n (markN n 0 (Array.replicate ops.size false))

theorem region_head_quiet {P : Program} {id : Nat} {Q : Exit → Act → World → Prop} {a : Act} {w : World} {l : List Oper} (n : Nat) (hm : P.follows .mixedOrders = true) (hn : n ≤ l.length) (hB : headStillB l.toArray n = true)
    (h : ∀ wd, wd = w.drew → wpList P l.toArray (OnQ (fun a' w' => wpQuiet P l.toArray (fun w'' => ∃ n, w'' = w'.drewN n) (fun a'' => ∀ w'', (∃ n, w'' = w'.drewN n) → Q .normal a'' w'') (l.drop n) a') Q) (l.take n) a wd) : (Code.region id l.toArray true).wp P Q a w := by
  simp only [headStillB, Bool.and_eq_true] at hB
  obtain ⟨⟨hs, hq⟩, hlx⟩ := hB
  refine wp_region_any hm ?_
  have htl : (l.take n).length = n := by simp; omega
  have hdl : (l.drop n).length = l.toArray.size - n := by simp
  have := wpAny_seqHead (P := P) (md := .any) (ops := l.toArray) (Q := Q) (g := l.toArray.size - n) (K := fun a' w' => wpQuiet P l.toArray (fun w'' => ∃ n, w'' = w'.drewN n) (fun a'' => ∀ w'', (∃ n, w'' = w'.drewN n) → Q .normal a'' w'') (l.drop n) a')
    (l.take n) 0 (Array.replicate l.toArray.size false) a { w with drawn := w.drawn + 1 }
    (fun j hj => by rw [htl] at hj; simp [hj]) (by rw [htl]; exact hq)
    (fun a' w' hk => by
      rw [htl]
      have := wpAnyQ_lex (P := P) (C := fun w'' => ∃ n, w'' = w'.drewN n) (md := .any) (Q := fun a'' => ∀ w'', (∃ n, w'' = w'.drewN n) → Q .normal a'' w'') hs (l.drop n) n (markN n 0 (Array.replicate l.toArray.size false)) a' (fun j => by simp [List.getElem?_drop]) (by rw [hdl]; exact hlx) hk
      rw [hdl] at this
      exact wpAny_of_quiet (P := P) (C := fun w'' => ∃ n, w'' = w'.drewN n) (Q := fun a'' => ∀ w'', (∃ n, w'' = w'.drewN n) → Q .normal a'' w'') (Q' := Q) (fun a'' w'' hw h => h w'' hw) (l.toArray.size - n) (markN n 0 (Array.replicate l.toArray.size false)) a' w' ⟨0, rfl⟩ this) (h _ rfl)
  rw [htl, show n + (l.toArray.size - n) = l.toArray.size by simp; omega] at this
  exact this

end Go.Proofs.YtoamnifnfkgbiaaGreatDoor

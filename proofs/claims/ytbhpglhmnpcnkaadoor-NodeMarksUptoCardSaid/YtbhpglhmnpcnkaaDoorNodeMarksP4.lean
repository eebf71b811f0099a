/-
  What the walk of cartularylaw.NodeMarks leans on, part 4 of 8: contracts and plain laws. No conditions.
-/
import Derived.Test.YtbhpglhmnpcnkaaDoorMerkL
import Derived.Test.YtbhpglhmnpcnkaaDoorElems
import Derived.Laws.AppendOwnNone
import Derived.Test.YtbhpglhmnpcnkaaDoorNodeMarksP3
import Derived.Test.YtbhpglhmnpcnkaaDoorLies
import Derived.Deep.RegionHeld3
import Derived.Test.YtbhpglhmnpcnkaaDoorDiskRCrash
import Derived.Lib.Overlaps
import Derived.Lib.AppendZerosOnto
import Derived.Laws.CopyOwn
namespace Go.Proofs.YtbhpglhmnpcnkaaDoor

abbrev Tree := Nat × List UInt8
/-- one tree more, the newest first -/
def pushT (n : Nat) (r : List UInt8) : List Tree → List Tree
  | [] => [(n, r)]
  | (m, s) :: st => if m = n then pushT (2 * n) (nodeH s r) st else (n, r) :: (m, s) :: st
def foldT : List Tree → List UInt8
  | [] => sha []
  | (_, r) :: st => st.foldl (fun acc x => nodeH x.2 acc) r
def stackL (l : List (List UInt8)) : List Tree := l.foldl (fun st s => pushT 1 (leafH s) st) []

def headGe (n : Nat) : List Tree → Prop
  | [] => True
  | (m, _) :: _ => n ≤ m
inductive Inv : List Tree → List (List UInt8) → Prop
  | nil : Inv [] []
  | cons {st : List Tree} {l1 l2 : List (List UInt8)} {h : Nat} (hl : l2.length = 2 ^ h) (hi : Inv st l1) (hg : headGe (2 * 2 ^ h) st) : Inv ((2 ^ h, rootL l2) :: st) (l1 ++ l2)

theorem rootL_join {a b : List (List UInt8)} {h : Nat} (ha : a.length = 2 ^ h) (h0 : 0 < b.length) (h1 : b.length ≤ 2 ^ h) : rootL (a ++ b) = nodeH (rootL a) (rootL b) := by
  have hp := Nat.two_pow_pos h
  have hl : (a ++ b).length = 2 ^ h + b.length := by rw [List.length_append, ha]
  have hh : halfN (a ++ b).length = 2 ^ h := halfN_of (by omega) (by rw [Nat.pow_succ]; omega)
  rw [rootL_more (by omega), hh, ← ha, List.take_left, List.drop_left]
theorem push_inv : ∀ (st : List Tree) (l1 l2 : List (List UInt8)) (h : Nat), l2.length = 2 ^ h → Inv st l1 → headGe (2 ^ h) st → Inv (pushT (2 ^ h) (rootL l2) st) (l1 ++ l2) := by
  intro st
  induction st with
  | nil =>
    intro l1 l2 h hl hi hg
    exact Inv.cons hl hi trivial
  | cons x st ih =>
    intro l1 l2 h hl hi hg
    have hp := Nat.two_pow_pos h
    cases hi with
    | @cons _ a b k hb ha hgb =>
      unfold pushT
      by_cases e : 2 ^ k = 2 ^ h
      · rw [if_pos e]
        have hj : rootL (b ++ l2) = nodeH (rootL b) (rootL l2) := rootL_join (hb.trans e) (by omega) (by omega)
        have e2 : 2 * 2 ^ h = 2 ^ (h + 1) := by rw [Nat.pow_succ]; omega
        rw [← hj, e2, List.append_assoc]
        refine ih a (b ++ l2) (h + 1) ?_ ha ?_
        · rw [List.length_append, hb, hl, e]; omega
        · rw [← e2, ← e]; exact hgb
      · rw [if_neg e]
        refine Inv.cons hl (Inv.cons hb ha hgb) ?_
        have hle : 2 ^ h ≤ 2 ^ k := hg
        have hlt : h < k := (Nat.pow_lt_pow_iff_right (a := 2) (by omega)).1 (by omega)
        have : 2 ^ (h + 1) ≤ 2 ^ k := Nat.pow_le_pow_right (by omega) hlt
        show 2 * 2 ^ h ≤ 2 ^ k
        rw [Nat.pow_succ] at this
        omega
theorem headGe_one : ∀ {st : List Tree} {l : List (List UInt8)}, Inv st l → headGe 1 st
  | _, _, .nil => trivial
  | _, _, .cons (h := h) _ _ _ => Nat.two_pow_pos h
theorem stack_inv : ∀ (l : List (List UInt8)) (st : List Tree) (l0 : List (List UInt8)), Inv st l0 → Inv (l.foldl (fun st s => pushT 1 (leafH s) st) st) (l0 ++ l)
  | [], st, l0, h => by rw [List.append_nil]; exact h
  | s :: r, st, l0, h => by
    have := push_inv st l0 [s] 0 rfl h (headGe_one h)
    rw [rootL_one] at this
    have h2 := stack_inv r _ _ this
    rw [List.append_assoc] at h2
    exact h2
theorem fold_inv : ∀ (st : List Tree) (l l2 : List (List UInt8)), Inv st l → 0 < l2.length → headGe l2.length st → st.foldl (fun acc x => nodeH x.2 acc) (rootL l2) = rootL (l ++ l2) := by
  intro st
  induction st with
  | nil =>
    intro l l2 hi _ _
    cases hi
    rfl
  | cons x st ih =>
    intro l l2 hi h0 hg
    cases hi with
    | @cons _ a b k hb ha hgb =>
      rw [List.foldl_cons]
      have hg' : l2.length ≤ 2 ^ k := hg
      have hj : rootL (b ++ l2) = nodeH (rootL b) (rootL l2) := rootL_join hb h0 hg'
      show List.foldl _ (nodeH (rootL b) (rootL l2)) st = _
      rw [← hj, List.append_assoc]
      refine ih a (b ++ l2) ha (by rw [List.length_append]; omega) ?_
      cases st with
      | nil => trivial
      | cons y st =>
        have h3 : 2 * 2 ^ k ≤ y.1 := hgb
        show (b ++ l2).length ≤ y.1
        rw [List.length_append, hb]; omega
/-- P9.2: put together as they come, or halved: the same root -/
theorem fold_stack (l : List (List UInt8)) : foldT (stackL l) = rootL l := by
  have h := stack_inv l [] [] .nil
  rw [List.nil_append] at h
  unfold stackL
  cases hst : l.foldl (fun st s => pushT 1 (leafH s) st) [] with
  | nil =>
    rw [hst] at h
    cases h
    exact rootL_nil.symm
  | cons x st =>
    rw [hst] at h
    cases h with
    | @cons _ a b k hb ha hgb =>
      have hp := Nat.two_pow_pos k
      refine fold_inv st a b ha (by omega) ?_
      cases st with
      | nil => trivial
      | cons y st =>
        have h3 : 2 * 2 ^ k ≤ y.1 := hgb
        show b.length ≤ y.1
        omega

/-! ### paths and proofs from above -/
def downL (l : List (List UInt8)) (i : Nat) : List (List UInt8) :=
  if _h : l.length ≤ 1 then []
  else if i < halfN l.length then rootL (l.drop (halfN l.length)) :: downL (l.take (halfN l.length)) i
  else rootL (l.take (halfN l.length)) :: downL (l.drop (halfN l.length)) (i - halfN l.length)
termination_by l.length
decreasing_by
  · rw [List.length_take]; have := halfN_lt (n := l.length) (by omega); omega
  · rw [List.length_drop]; have := halfN_pos l.length; omega
theorem downL_le {l : List (List UInt8)} {i : Nat} (h : l.length ≤ 1) : downL l i = [] := by rw [downL, dif_pos h]
theorem downL_left {l : List (List UInt8)} {i : Nat} (h : ¬ l.length ≤ 1) (hi : i < halfN l.length) : downL l i = rootL (l.drop (halfN l.length)) :: downL (l.take (halfN l.length)) i := by rw [downL, dif_neg h, if_pos hi]
theorem downL_right {l : List (List UInt8)} {i : Nat} (h : ¬ l.length ≤ 1) (hi : ¬ i < halfN l.length) : downL l i = rootL (l.take (halfN l.length)) :: downL (l.drop (halfN l.length)) (i - halfN l.length) := by rw [downL, dif_neg h, if_neg hi]
def downP (l : List (List UInt8)) (m : Nat) (whole : Bool) : List (List UInt8) :=
  if _h : l.length ≤ m ∨ l.length ≤ 1 then (if whole then [] else [rootL l])
  else if m ≤ halfN l.length then rootL (l.drop (halfN l.length)) :: downP (l.take (halfN l.length)) m whole
  else rootL (l.take (halfN l.length)) :: downP (l.drop (halfN l.length)) (m - halfN l.length) false
termination_by l.length
decreasing_by
  · rw [List.length_take]; have := halfN_lt (n := l.length) (by omega); omega
  · rw [List.length_drop]; have := halfN_pos l.length; omega
theorem downP_end {l : List (List UInt8)} {m : Nat} {whole : Bool} (h : l.length ≤ m) : downP l m whole = if whole then [] else [rootL l] := by rw [downP, dif_pos (.inl h)]
theorem downP_left {l : List (List UInt8)} {m : Nat} {whole : Bool} (h : m < l.length) (h1 : 1 < l.length) (hi : m ≤ halfN l.length) : downP l m whole = rootL (l.drop (halfN l.length)) :: downP (l.take (halfN l.length)) m whole := by rw [downP, dif_neg (by omega), if_pos hi]
theorem downP_right {l : List (List UInt8)} {m : Nat} {whole : Bool} (h : m < l.length) (h1 : 1 < l.length) (hi : ¬ m ≤ halfN l.length) : downP l m whole = rootL (l.take (halfN l.length)) :: downP (l.drop (halfN l.length)) (m - halfN l.length) false := by rw [downP, dif_neg (by omega), if_neg hi]
end Go.Proofs.YtbhpglhmnpcnkaaDoor

namespace Go.Proofs.YtbhpglhmnpcnkaaDoor
open Go.RowKit
set_option linter.unusedVariables false

theorem strV_oneCell {ss : List (List UInt8)} : ∀ u ∈ ss.map strV, u.oneCell' = true := by
  intro u hu
  obtain ⟨c, _, rfl⟩ := List.mem_map.1 hu
  rfl
set_option maxRecDepth 100000 in
set_option maxHeartbeats 1000000 in
theorem strings_any (ss : List (List UInt8)) (m : Nat) (A : Option Addr) (cap : Nat) (w : World) (hm : m ≤ 1099511627776) (hrow : StrRow w A m ss) (hA : A = none → m = 0 ∧ cap = 0) :
    Calls Tryd.prog 24 #[.slice A m cap] w fun e w' => ∃ A' cap', e = .returned (.slice A' m cap') ∧ w'.ownsRow w.heap.size 9 1 (.slice A' m cap') m (ss.map strV) ∧ Gr w w' := by
  obtain ⟨i0, hi0, hz0, hz1, hz2⟩ := info_parts E.str.info
  have hlen := hrow.len
  cases A with
  | none =>
    obtain ⟨rfl, rfl⟩ := hA rfl
    obtain rfl : ss = [] := List.eq_nil_of_length_eq_zero hlen
    go_enter Tryd.func24, Tryd.ntmps24
    go_wp2_with (refine wpList_append_own_none rfl (.const (.slice none 0 0)) (.tmp 3) 48 rfl w.heap.size 9 i0 1 E.str.under hi0 _ 0 [] rfl (World.ownsRow_nil _ _ _ _) rfl ?_)
    go_ret
    exact ⟨none, 0, rfl, World.ownsRow_nil _ _ _ _, Gr.refl _⟩
  | some ad =>
    have hnews : ∀ j u, (ss.map strV)[j]? = some u → w.cell? (ad.add j) = some u := by
      intro j u hu
      have hj : j < ss.length := by have := (List.getElem?_eq_some_iff.1 hu).1; simpa using this
      obtain ⟨b, off, e, hc⟩ := Row.at_ hrow (by omega)
      injection e with e
      subst e
      have : (⟨b, off, none⟩ : Addr).add j = ⟨b, off + j, none⟩ := by unfold Addr.add; split <;> simp_all
      rw [this]
      exact hc j u hu
    have HN := sec hnews
    have HL := sec hlen
    clear hnews hrow
    go_enter Tryd.func24, Tryd.ntmps24
    go_wp2_with (refine wpList_append_own _ rfl (.const (.slice none 0 0)) (.tmp 3) 48 rfl w.heap.size 9 i0 (.string (bs [])) 1 16 E.str.under hi0 hz0 hz1 hz2 E.str.zcells (by omega) _ 0 [] rfl (World.ownsRow_nil _ _ _ _) ad m cap (ss.map strV) rfl (by rw [List.length_map, HL.out, Nat.mul_one]) HN.out strV_oneCell (by unfold maxLen; omega) (by omega) (Nat.le_refl _) ?_; intro v' w' hown hgr hnil)
    go_ret
    rw [Nat.zero_add, List.nil_append] at hown
    have hg : Gr w w' := (Gr.refl w).grown hgr (by rintro k hk; cases hk)
    rcases hown.2 with ⟨rfl, h0⟩ | ⟨g, cap', cur, rfl, _⟩
    · subst h0
      exact ⟨none, 0, rfl, hown, hg⟩
    · exact ⟨some ⟨g, 0, none⟩, cap', rfl, hown, hg⟩
end Go.Proofs.YtbhpglhmnpcnkaaDoor

namespace Go.Proofs.YtbhpglhmnpcnkaaDoor
set_option maxRecDepth 100000
open Go.RowKit
set_option linter.unusedVariables false

/-- append of a row of strings, nil let in, onto a row of the call's own that is not empty -/
theorem wpList_append_strs {ops : Array Oper} {rest : List Oper} {o : Oper} {a : Act} {Q : Exit → Act → World → Prop} {w : World}
    (hgd : o.guard = none) (s x : Operand) (ho : o.op = .call { callee := .builtin .append, args := #[s, x], argTypes := #[48, 48] })
    {A : Option Addr} {B n cap : Nat} {xs : List Value} (hs : a.eval s = .slice A n cap) (hown : w.ownsRow B 9 1 (.slice A n cap) n xs) (hn : 0 < n)
    {A2 : Option Addr} {m c : Nat} {ss : List (List UInt8)} (hx : a.eval x = .slice A2 m c) (hrow : StrRow w A2 m ss) (hA : A2 = none → m = 0 ∧ c = 0)
    (hbytes : (n + m) * 16 ≤ 140737488355328) (h63 : n + m ≤ maxLen) (hB : B ≤ w.heap.size)
    (h : ∀ g cap' w', w'.ownsRow B 9 1 (.slice (some ⟨g, 0, none⟩) (n + m) cap') (n + m) (xs ++ ss.map strV) → w.grownBy w' (Value.ownBlock (.slice A n cap)) →
      wpList Tryd.prog ops Q rest (a.put o.dst (.slice (some ⟨g, 0, none⟩) (n + m) cap')) w') :
    wpList Tryd.prog ops Q (o :: rest) a w := by
  obtain ⟨i0, hi0, hz0, hz1, hz2⟩ := info_parts E.str.info
  have hlen := hrow.len
  cases A2 with
  | none =>
    obtain ⟨rfl, rfl⟩ := hA rfl
    obtain rfl : ss = [] := List.eq_nil_of_length_eq_zero hlen
    refine wpList_append_own_none hgd s x 48 ho B 9 i0 1 E.str.under hi0 _ n xs hs hown hx ?_
    have hown0 := hown
    rcases hown.2 with ⟨_, h0⟩ | ⟨g, cap', cur, e, _⟩
    · omega
    · injection e with e1 _ e3
      subst e1 e3
      have := h g cap w (by rw [List.map_nil, List.append_nil]; exact hown0) ⟨rfl, rfl, rfl, Nat.le_refl _, fun _ _ _ => rfl⟩
      exact this
  | some ad =>
    refine wpList_append_own w hgd s x 48 ho B 9 i0 (.string (bs [])) 1 16 E.str.under hi0 hz0 hz1 hz2 E.str.zcells (by omega) _ n xs hs hown ad m c (ss.map strV) hx (by rw [List.length_map, hlen, Nat.mul_one]) ?_ strV_oneCell h63 hbytes hB ?_
    · intro j u hu
      have hj : j < ss.length := by have := (List.getElem?_eq_some_iff.1 hu).1; simpa using this
      obtain ⟨b, off, e, hc⟩ := Row.at_ hrow (by omega)
      injection e with e
      subst e
      have : (⟨b, off, none⟩ : Addr).add j = ⟨b, off + j, none⟩ := by unfold Addr.add; split <;> simp_all
      rw [this]
      exact hc j u hu
    · intro v' w' hown' hgr hnil
      rcases hown'.2 with ⟨_, h0⟩ | ⟨g, cap', cur, rfl, _⟩
      · omega
      · exact h g cap' w' hown' hgr

set_option maxRecDepth 100000 in
set_option maxHeartbeats 8000000 in
theorem rextends_in (old root : List UInt8) (M N : Nat) (ps : List (List UInt8)) (k : Nat) (A : Option Addr) (cap : Nat) (w : World) (hM : 0 < M) (hMN : M < N) (hN : N ≤ 1099511627776) (hold : old.length ≤ 1099511627776) (hk : k ≤ 1099511627776) (hcap : k ≤ cap) (hA : A = none → k = 0 ∧ cap = 0) (hrow : StrRow w A k ps) (hs : Short ps) :
    Calls Tryd.prog 80 #[.string (bs old), .int .i64 (M : Int), .string (bs root), .int .i64 (N : Int), .slice A k cap] w fun e w' => e = .returned (.bool (extB old M root N ps)) ∧ Gr w w' := by
  have hE0 : extB old M root N ps = both2 old root (bothR old M N true ps.reverse) := by
    unfold extB; rw [if_pos ⟨by omega, by omega, by omega⟩, if_neg (by omega), Int.toNat_natCast, Int.toNat_natCast]
  rw [both_exI old ps M N hM hMN] at hE0
  have HE0 := sec hE0
  have q1 : ¬ (M : Int) < 0 := by omega
  have q2 : ¬ (N : Int) < (M : Int) := by omega
  have q3 : ¬ (1099511627776 : Int) < (N : Int) := by omega
  have q4 : ((M : Int) == (N : Int)) = false := by rw [beq_eq_false_iff_ne]; omega
  have q5 : ((M : Int) == 0) = false := by rw [beq_eq_false_iff_ne]; omega
  have HROWP := sec hrow
  have HSP := sec hs
  have e1 : (M : Int) - 1 = ((M - 1 : Nat) : Int) := by omega
  have e2 : (N : Int) - 1 = ((N - 1 : Nat) : Int) := by omega
  clear hE0 hrow hs
  go_enter Tryd.func80, Tryd.ntmps80
  go_wp2_with fail
  go_loopw [11, 12] (fun av lv wr => ∃ a l : Nat, av = .int .i64 (a : Int) ∧ lv = .int .i64 (l : Int) ∧ a < l ∧ l ≤ 1099511627776 ∧ Sec (stOnes a l = stOnes (M - 1) (N - 1)) ∧ wr = w)
    (fun av _ _ => (intOf av).toNat)
  case atStart => exact ⟨M - 1, N - 1, rfl, rfl, by omega, by omega, sec rfl, rfl⟩
  case round =>
    obtain ⟨a0, l0, rfl, rfl, hal0', hl040, HS, hwr⟩ := hrel
    obtain rfl := hwr.symm
    clear e1 e2 q4 q5
    by_cases ho : a0 % 2 = 1
    · have t1 : ((a0 : Int) % 2 == 1) = true := by rw [beq_iff_eq]; omega
      have HO := sec (stOnes_odd (l := l0) ho)
      have HODD := sec ho
      clear ho
      go_wp2_with fail
      go_roundw
      case rel => exact ⟨a0 / 2, l0 / 2, by go_num, by go_num, by have := HODD.out; omega, by omega, sec (by rw [← HO.out]; exact HS.out), by trivial⟩
      case measure => simp [intOf]; have := HODD.out; omega
    · have t1 : ((a0 : Int) % 2 == 1) = false := by rw [beq_eq_false_iff_ne]; omega
      have hst : stOnes (M - 1) (N - 1) = (a0, l0) := by rw [← HS.out]; exact stOnes_even (by omega)
      have hEX := HE0.out
      rw [hst] at hEX
      simp only at hEX
      have hal0 : a0 ≤ l0 := by omega
      clear HE0 hst HS ho
      by_cases hz : a0 = 0
      · subst hz
        rw [if_pos rfl] at hEX
        have HEX0 := sec hEX
        clear hEX
        have hb1 : (1 + k) * 16 ≤ 140737488355328 := by omega
        have hb2 : 1 + k ≤ maxLen := by unfold maxLen; omega
        have HRW : Sec (∀ w', Gr w w' → StrRow w' A k ps) := sec fun w' g => HROWP.out.gr g
        go_wp2_with (refine wpList_append_strs rfl (.tmp 72) (.tmp 73) rfl (A2 := A) rfl (World.ownsRow_lit w #[.string (bs old)] 1 (Nat.le_refl _) (by simp [maxLen]) rfl) (by omega) rfl (HRW.out _ ((Gr.refl _).alloc _)) hA hb1 hb2 (by simp) ?_; intro g' capq wq hownq hgrq)
        have hgq : Gr w wq := Gr.grown ((Gr.refl w).alloc _) hgrq (fun k hk => by simp [Value.ownBlock] at hk; omega)
        have HROW : Sec (StrRow wq (some ⟨g', 0, none⟩) (1 + k) (old :: ps)) := sec (Row.own hownq)
        have hcapK : 1 + k ≤ capq := by
          rcases hownq.2 with ⟨h, _⟩ | ⟨_, _, _, e, _, _, h, _⟩
          · cases h
          · injection e with _ _ e; omega
        have HSHQ : Sec (Short (old :: ps)) := sec (fun s h => by
          rcases List.mem_cons.1 h with rfl | h
          · exact hold
          · exact HSP.out s h)
        have HEX : Sec (extB old (M : Int) root (N : Int) ps = both2 old root (exI 0 l0 (old, old) ps)) := sec HEX0.out
        obtain ⟨K, hK⟩ : ∃ K, K = 1 + k := ⟨_, rfl⟩
        have hKb : K ≤ 1099511627777 := by omega
        rw [← hK] at HROW hcapK
        rw [← hK]
        clear hownq hgrq hb1 hb2 HEX0 HRW HROWP hK hA hcap hk
        have hc0 : wq.cell? ⟨g', 0, none⟩ = some (.string (bs old)) := by
          obtain ⟨b', off', e, hc⟩ := HROW.out.cell (i := 0) (by simp)
          injection e with e; injection e with e1 e2 _
          subst e1 e2
          exact hc
        have hp0 : old.length ≤ 1099511627776 := HSHQ.out old (by simp)
        have HCS : Sec (∀ s ∈ ps, s.length ≤ 1099511627776) := sec (fun s h => HSHQ.out s (by simp [h]))
        have hKl : ps.length + 1 = K := by have := HROW.out.len; simpa using this
        have tK : ((K : Int) == 0) = false := by rw [beq_eq_false_iff_ne]; omega
        have h1K : (1 : Int) ≤ (K : Int) := by omega
        have h0K : (0 : Int) < (K : Int) := by omega
        by_cases hK1 : K = 1
        · subst hK1
          try rw [show ((1 : Nat) : Int) = 1 from rfl]
          have hcs0 : ps = [] := List.eq_nil_of_length_eq_zero (by omega)
          have hex : extB old (M : Int) root (N : Int) ps = both2 old root (exI 0 l0 (old, old) []) := HEX.out.trans (by rw [hcs0])
          clear hcs0
          by_cases hl0 : l0 = 0
          · subst hl0
            have HF : Sec (extB old (M : Int) root (N : Int) ps = (old == old && old == root)) := sec hex
            clear hex HEX
            by_cases hcap1 : capq = 1
            · subst hcap1
              go_wp2_with fail
              go_quiet (fail)
              go_wp2_with fail
              go_loopw [87, 11, 12, 13, 14, 16] (fun iv _ lv xv yv _ wr => iv = .int .i64 0 ∧ lv = .int .i64 0 ∧ xv = .string (bs old) ∧ yv = .string (bs old) ∧ wr = wq.drewN nq) (fun _ _ _ _ _ _ _ => 0)
              case atStart => exact ⟨rfl, rfl, rfl, rfl, rfl⟩
              case round =>
                obtain ⟨rfl, rfl, rfl, rfl, rfl⟩ := hrel
                go_wp2_with fail
                all_goals
                  go_ret
                  refine ⟨?_, hgq.drewN _⟩
                  rw [HF.out]
                  simp [*]
            · go_wp2_with fail
              go_quiet (fail)
              go_wp2_with fail
              go_loopw [87, 11, 12, 13, 14, 16] (fun iv _ lv xv yv _ wr => iv = .int .i64 0 ∧ lv = .int .i64 0 ∧ xv = .string (bs old) ∧ yv = .string (bs old) ∧ wr = wq.drewN nq) (fun _ _ _ _ _ _ _ => 0)
              case atStart => exact ⟨rfl, rfl, rfl, rfl, rfl⟩
              case round =>
                obtain ⟨rfl, rfl, rfl, rfl, rfl⟩ := hrel
                go_wp2_with fail
                all_goals
                  go_ret
                  refine ⟨?_, hgq.drewN _⟩
                  rw [HF.out]
                  simp [*]
          · have t0 : ((l0 : Int) == 0) = false := by rw [beq_eq_false_iff_ne]; omega
            have HF : Sec (extB old (M : Int) root (N : Int) ps = false) := sec (by rw [hex, exI, if_neg hl0]; rfl)
            clear hex HEX hl0
            by_cases hcap1 : capq = 1
            · subst hcap1
              go_wp2_with fail
              go_quiet (fail)
              go_wp2_with fail
              go_loopw [87, 11, 12, 13, 14, 16] (fun iv _ lv xv yv _ wr => iv = .int .i64 0 ∧ lv = .int .i64 (l0 : Int) ∧ xv = .string (bs old) ∧ yv = .string (bs old) ∧ wr = wq.drewN nq) (fun _ _ _ _ _ _ _ => 0)
              case atStart => exact ⟨rfl, rfl, rfl, rfl, rfl⟩
              case round =>
                obtain ⟨rfl, rfl, rfl, rfl, rfl⟩ := hrel
                go_wp2_with fail
                go_ret
                exact ⟨by rw [HF.out]; rfl, hgq.drewN _⟩
            · go_wp2_with fail
              go_quiet (fail)
              go_wp2_with fail
              go_loopw [87, 11, 12, 13, 14, 16] (fun iv _ lv xv yv _ wr => iv = .int .i64 0 ∧ lv = .int .i64 (l0 : Int) ∧ xv = .string (bs old) ∧ yv = .string (bs old) ∧ wr = wq.drewN nq) (fun _ _ _ _ _ _ _ => 0)
              case atStart => exact ⟨rfl, rfl, rfl, rfl, rfl⟩
              case round =>
                obtain ⟨rfl, rfl, rfl, rfl, rfl⟩ := hrel
                go_wp2_with fail
                go_ret
                exact ⟨by rw [HF.out]; rfl, hgq.drewN _⟩
        · obtain ⟨K2, rfl⟩ : ∃ K2, K = K2 + 1 := ⟨K - 1, by omega⟩
          have hcap1 : ¬ capq = 1 := by omega
          have hcsl : ps.length = K2 := by omega
          try rw [show ((K2 + 1 : Nat) : Int) = (K2 : Int) + 1 by omega]
          go_wp2_with fail
          go_quiet (fail)
          go_wp2_with fail
          have hgz0 : Gr w (wq.drewN nq) := hgq.drewN _
          have hrz : StrRow (wq.drewN nq) (some ⟨g', 1, none⟩) K2 ps :=
            StrRow.gr (w := wq) (by simpa using StrRow.drop HROW.out 1 (by omega)) ((Gr.refl _).drewN _)
          obtain ⟨wz, hwz⟩ : ∃ wz, wz = wq.drewN nq := ⟨_, rfl⟩
          rw [← hwz] at hgz0 hrz
          rw [← hwz]
          have HRZ := sec hrz
          have HKL := sec hcsl
          clear hwz hc0 hrz hcsl hKl tK h1K h0K hK1
          go_loopw [87, 11, 12, 13, 14, 16] (fun jv av lv xv yv _ wr => ∃ (j a l : Nat) (x1 x2 : List UInt8), jv = .int .i64 (j : Int) ∧ j ≤ K2 ∧ av = .int .i64 (a : Int) ∧ lv = .int .i64 (l : Int) ∧ xv = .string (bs x1) ∧ yv = .string (bs x2) ∧ a ≤ l ∧ l ≤ 1099511627776 ∧ x1.length ≤ 1099511627776 ∧ x2.length ≤ 1099511627776 ∧ Sec (exI 0 l0 (old, old) ps = exI a l (x1, x2) (ps.drop j)) ∧ Gr wz wr)
            (fun jv _ _ _ _ _ _ => K2 - (intOf jv).toNat)
          case atStart => exact ⟨0, 0, l0, old, old, rfl, by omega, rfl, rfl, rfl, rfl, hal0, hl040, hp0, hp0, sec (by rw [List.drop_zero]), Gr.refl _⟩
          case round =>
            obtain ⟨j, a, l, x1, x2, rfl, hj, rfl, rfl, rfl, rfl, hal, hl40, hx1, hx2, HK, hgz⟩ := hrel
            by_cases hlt : j < K2
            · have hji : (j : Int) < (K2 : Int) := by omega
              have hji1 : (j : Int) < (K2 : Int) + 1 := by omega
              have hjp : j < ps.length := by have := HKL.out; omega
              have hc : wr.cell? ⟨g', 1 + j, none⟩ = some (.string (bs ps[j])) := by
                obtain ⟨b', off', e, hc⟩ := (HRZ.out.gr hgz).cell hjp
                injection e with e; injection e with e1 e2 _
                subst e1
                rw [e2]
                exact hc
              have hpl := HCS.out ps[j] (List.getElem_mem hjp)
              have hck := HK.out
              rw [List.drop_eq_getElem_cons hjp] at hck
              obtain ⟨p, hp⟩ : ∃ p, p = ps[j] := ⟨_, rfl⟩
              rw [← hp] at hc hpl hck
              clear hp hjp
              by_cases hl0 : l = 0
              · subst hl0
                have HF : Sec (extB old (M : Int) root (N : Int) ps = false) := sec (by rw [HEX.out, hck]; rfl)
                clear hck
                go_wp2_with fail
                go_ret
                exact ⟨by rw [HF.out]; rfl, hgz0.trans hgz⟩
              · have t0 : ((l : Int) == 0) = false := by rw [beq_eq_false_iff_ne]; omega
                by_cases ho : a % 2 = 1
                · have hCK : exI 0 l0 (old, old) ps = exI ((strip a l).1 / 2) ((strip a l).2 / 2) (nodeH p x1, nodeH p x2) (ps.drop (j + 1)) := by
                    rw [hck, exI, if_neg hl0, if_pos (.inl ho)]
                  have t1 : ((a : Int) % 2 == 1) = true := by rw [beq_iff_eq]; omega
                  have t2 : True := trivial
                  clear ho hl0
                  have HT1 := sec (fun w => rtwo_any p x1 w hpl hx1)
                  have HT2 := sec (fun w => rtwo_any p x2 w hpl hx2)
                  have HSR := sec hCK
                  clear hCK hck
                  go_wp2_with (first
                    | (go_at_call 101; with_reducible refine Calls.mono (HT1.out _) ?_; rintro e w3 ⟨rfl, g3⟩; clear HT1)
                    | (go_at_call 101; with_reducible refine Calls.mono (HT2.out _) ?_; rintro e w4 ⟨rfl, g4⟩))
                  clear t1 t2
                  go_loopw [11, 12] (fun av lv wr' => ∃ a' l' : Nat, av = .int .i64 (a' : Int) ∧ lv = .int .i64 (l' : Int) ∧ a' ≤ l' ∧ l' ≤ 1099511627776 ∧ Sec (strip a' l' = strip a l) ∧ wr' = w4)
                    (fun av _ _ => (intOf av).toNat)
                  case atStart => exact ⟨a, l, rfl, rfl, hal, hl40, sec rfl, rfl⟩
                  case round =>
                    obtain ⟨a', l', rfl, rfl, hal', hl40', HS', rfl⟩ := hrel
                    by_cases hgo : a' % 2 = 0 ∧ 0 < a'
                    · have u1 : ((a' : Int) % 2 == 0) = true := by rw [beq_iff_eq]; omega
                      have u2 : 0 < (a' : Int) := by omega
                      have HG := sec (strip_go (l := l') hgo)
                      have HG2 := sec hgo
                      clear hgo
                      go_wp2_with fail
                      go_roundw
                      case rel => exact ⟨a' / 2, l' / 2, by go_num, by go_num, by omega, by omega, sec (by rw [← HG.out]; exact HS'.out), by trivial⟩
                      case measure => simp [intOf]; omega
                    · have HG := sec (strip_end (l := l') hgo)
                      by_cases hz : a' % 2 = 0
                      · have u1 : ((a' : Int) % 2 == 0) = true := by rw [beq_iff_eq]; omega
                        have u2 : ¬ 0 < (a' : Int) := by omega
                        clear hgo hz
                        go_wp2_with fail
                        go_roundw
                        case rel =>
                          refine ⟨j + 1, a' / 2, l' / 2, nodeH p x1, nodeH p x2, by go_num, by omega, by go_num, by go_num, rfl, rfl, by omega, by omega, by rw [nodeH_len]; omega, by rw [nodeH_len]; omega, sec ?_, hgz.trans (g3.trans g4)⟩
                          rw [HSR.out, ← HS'.out, HG.out]
                        case measure => simp [intOf]; omega
                      · have u1 : ((a' : Int) % 2 == 0) = false := by rw [beq_eq_false_iff_ne]; omega
                        clear hgo hz
                        go_wp2_with fail
                        go_roundw
                        case rel =>
                          refine ⟨j + 1, a' / 2, l' / 2, nodeH p x1, nodeH p x2, by go_num, by omega, by go_num, by go_num, rfl, rfl, by omega, by omega, by rw [nodeH_len]; omega, by rw [nodeH_len]; omega, sec ?_, hgz.trans (g3.trans g4)⟩
                          rw [HSR.out, ← HS'.out, HG.out]
                        case measure => simp [intOf]; omega
                · by_cases he : a = l
                  · have hCK : exI 0 l0 (old, old) ps = exI ((strip a l).1 / 2) ((strip a l).2 / 2) (nodeH p x1, nodeH p x2) (ps.drop (j + 1)) := by
                      rw [hck, exI, if_neg hl0, if_pos (.inr he)]
                    have t1 : ((a : Int) % 2 == 1) = false := by rw [beq_eq_false_iff_ne]; omega
                    have t2 : ((a : Int) == (l : Int)) = true := by rw [beq_iff_eq]; omega
                    clear ho he hl0
                    have HT1 := sec (fun w => rtwo_any p x1 w hpl hx1)
                    have HT2 := sec (fun w => rtwo_any p x2 w hpl hx2)
                    have HSR := sec hCK
                    clear hCK hck
                    go_wp2_with (first
                      | (go_at_call 101; with_reducible refine Calls.mono (HT1.out _) ?_; rintro e w3 ⟨rfl, g3⟩; clear HT1)
                      | (go_at_call 101; with_reducible refine Calls.mono (HT2.out _) ?_; rintro e w4 ⟨rfl, g4⟩))
                    clear t1 t2
                    go_loopw [11, 12] (fun av lv wr' => ∃ a' l' : Nat, av = .int .i64 (a' : Int) ∧ lv = .int .i64 (l' : Int) ∧ a' ≤ l' ∧ l' ≤ 1099511627776 ∧ Sec (strip a' l' = strip a l) ∧ wr' = w4)
                      (fun av _ _ => (intOf av).toNat)
                    case atStart => exact ⟨a, l, rfl, rfl, hal, hl40, sec rfl, rfl⟩
                    case round =>
                      obtain ⟨a', l', rfl, rfl, hal', hl40', HS', rfl⟩ := hrel
                      by_cases hgo : a' % 2 = 0 ∧ 0 < a'
                      · have u1 : ((a' : Int) % 2 == 0) = true := by rw [beq_iff_eq]; omega
                        have u2 : 0 < (a' : Int) := by omega
                        have HG := sec (strip_go (l := l') hgo)
                        have HG2 := sec hgo
                        clear hgo
                        go_wp2_with fail
                        go_roundw
                        case rel => exact ⟨a' / 2, l' / 2, by go_num, by go_num, by omega, by omega, sec (by rw [← HG.out]; exact HS'.out), by trivial⟩
                        case measure => simp [intOf]; omega
                      · have HG := sec (strip_end (l := l') hgo)
                        by_cases hz : a' % 2 = 0
                        · have u1 : ((a' : Int) % 2 == 0) = true := by rw [beq_iff_eq]; omega
                          have u2 : ¬ 0 < (a' : Int) := by omega
                          clear hgo hz
                          go_wp2_with fail
                          go_roundw
                          case rel =>
                            refine ⟨j + 1, a' / 2, l' / 2, nodeH p x1, nodeH p x2, by go_num, by omega, by go_num, by go_num, rfl, rfl, by omega, by omega, by rw [nodeH_len]; omega, by rw [nodeH_len]; omega, sec ?_, hgz.trans (g3.trans g4)⟩
                            rw [HSR.out, ← HS'.out, HG.out]
                          case measure => simp [intOf]; omega
                        · have u1 : ((a' : Int) % 2 == 0) = false := by rw [beq_eq_false_iff_ne]; omega
                          clear hgo hz
                          go_wp2_with fail
                          go_roundw
                          case rel =>
                            refine ⟨j + 1, a' / 2, l' / 2, nodeH p x1, nodeH p x2, by go_num, by omega, by go_num, by go_num, rfl, rfl, by omega, by omega, by rw [nodeH_len]; omega, by rw [nodeH_len]; omega, sec ?_, hgz.trans (g3.trans g4)⟩
                            rw [HSR.out, ← HS'.out, HG.out]
                          case measure => simp [intOf]; omega
                  · have t1 : ((a : Int) % 2 == 1) = false := by rw [beq_eq_false_iff_ne]; omega
                    have t2 : ((a : Int) == (l : Int)) = false := by rw [beq_eq_false_iff_ne]; omega
                    have hCK : exI 0 l0 (old, old) ps = exI (a / 2) (l / 2) (x1, nodeH x2 p) (ps.drop (j + 1)) := by
                      rw [hck, exI, if_neg hl0, if_neg (by omega)]
                    have HT2 := sec (fun w => rtwo_any x2 p w hx2 hpl)
                    have HSR := sec hCK
                    clear hCK hck ho he hl0
                    go_wp2_with (go_at_call 101; with_reducible refine Calls.mono (HT2.out _) ?_; rintro e w3 ⟨rfl, g3⟩)
                    go_roundw
                    case rel => exact ⟨j + 1, a / 2, l / 2, x1, nodeH x2 p, by go_num, by omega, by go_num, by go_num, rfl, rfl, by omega, by omega, hx1, by rw [nodeH_len]; omega, HSR, hgz.trans g3⟩
                    case measure => simp [intOf]; omega
            · obtain rfl : j = K2 := by omega
              have hck := HK.out
              rw [List.drop_eq_nil_of_le (by have := HKL.out; omega), exI] at hck
              by_cases hl0 : l = 0
              · subst hl0
                have HF : Sec (extB old (M : Int) root (N : Int) ps = (x1 == old && x2 == root)) := sec (by rw [HEX.out, hck]; rfl)
                clear hck hlt hj
                go_wp2_with fail
                all_goals
                  go_ret
                  refine ⟨?_, hgz0.trans hgz⟩
                  rw [HF.out]
                  simp [*]
              · have t0 : ((l : Int) == 0) = false := by rw [beq_eq_false_iff_ne]; omega
                have HF : Sec (extB old (M : Int) root (N : Int) ps = false) := sec (by rw [HEX.out, hck, if_neg hl0]; rfl)
                clear hck hl0 hlt hj
                go_wp2_with fail
                go_ret
                exact ⟨by rw [HF.out]; rfl, hgz0.trans hgz⟩
      · rw [if_neg hz] at hEX
        have tz : ((a0 : Int) == 0) = false := by rw [beq_eq_false_iff_ne]; omega
        cases ps with
        | nil =>
          have hk0 : k = 0 := by have := HROWP.out.len; simpa using this.symm
          subst hk0
          have HF : Sec (extB old (M : Int) root (N : Int) [] = false) := sec hEX
          clear hEX hz
          go_wp2_with fail
          go_ret
          exact ⟨by rw [HF.out]; rfl, Gr.refl _⟩
        | cons p0 cs =>
          have HEX : Sec (extB old (M : Int) root (N : Int) (p0 :: cs) = both2 old root (exI a0 l0 (p0, p0) cs)) := sec hEX
          have HSHQ : Sec (Short (p0 :: cs)) := HSP
          have tk : ((k : Int) == 0) = false := by
            have := HROWP.out.len
            rw [beq_eq_false_iff_ne]
            simp at this
            omega
          have hgq : Gr w w := Gr.refl w
          obtain ⟨b, off, rfl, _⟩ := Row.at_ HROWP.out (by have := HROWP.out.len; simp at this; omega)
          have HROW := HROWP
          have hKb : k ≤ 1099511627777 := by omega
          clear hEX hz
          go_wp2_with fail
          have hc0 : w.cell? ⟨b, off, none⟩ = some (.string (bs p0)) := by
            obtain ⟨b', off', e, hc⟩ := HROW.out.cell (i := 0) (by simp)
            injection e with e; injection e with e1 e2 _
            subst e1 e2
            exact hc
          have hp0 : p0.length ≤ 1099511627776 := HSHQ.out p0 (by simp)
          have HCS : Sec (∀ s ∈ cs, s.length ≤ 1099511627776) := sec (fun s h => HSHQ.out s (by simp [h]))
          have hKl : cs.length + 1 = k := by have := HROW.out.len; simpa using this
          have tK : ((k : Int) == 0) = false := by rw [beq_eq_false_iff_ne]; omega
          have h1K : (1 : Int) ≤ (k : Int) := by omega
          have h0K : (0 : Int) < (k : Int) := by omega
          by_cases hK1 : k = 1
          · subst hK1
            try rw [show ((1 : Nat) : Int) = 1 from rfl]
            have hcs0 : cs = [] := List.eq_nil_of_length_eq_zero (by omega)
            have hex : extB old (M : Int) root (N : Int) (p0 :: cs) = both2 old root (exI a0 l0 (p0, p0) []) := HEX.out.trans (by rw [hcs0])
            clear hcs0
            by_cases hl0 : l0 = 0
            · subst hl0
              have HF : Sec (extB old (M : Int) root (N : Int) (p0 :: cs) = (p0 == old && p0 == root)) := sec hex
              clear hex HEX
              by_cases hcap1 : cap = 1
              · subst hcap1
                go_wp2_with fail
                go_quiet (fail)
                go_wp2_with fail
                go_loopw [87, 11, 12, 13, 14, 16] (fun iv _ lv xv yv _ wr => iv = .int .i64 0 ∧ lv = .int .i64 0 ∧ xv = .string (bs p0) ∧ yv = .string (bs p0) ∧ wr = w.drewN nq) (fun _ _ _ _ _ _ _ => 0)
                case atStart => exact ⟨rfl, rfl, rfl, rfl, rfl⟩
                case round =>
                  obtain ⟨rfl, rfl, rfl, rfl, rfl⟩ := hrel
                  go_wp2_with fail
                  all_goals
                    go_ret
                    refine ⟨?_, hgq.drewN _⟩
                    rw [HF.out]
                    simp [*]
              · go_wp2_with fail
                go_quiet (fail)
                go_wp2_with fail
                go_loopw [87, 11, 12, 13, 14, 16] (fun iv _ lv xv yv _ wr => iv = .int .i64 0 ∧ lv = .int .i64 0 ∧ xv = .string (bs p0) ∧ yv = .string (bs p0) ∧ wr = w.drewN nq) (fun _ _ _ _ _ _ _ => 0)
                case atStart => exact ⟨rfl, rfl, rfl, rfl, rfl⟩
                case round =>
                  obtain ⟨rfl, rfl, rfl, rfl, rfl⟩ := hrel
                  go_wp2_with fail
                  all_goals
                    go_ret
                    refine ⟨?_, hgq.drewN _⟩
                    rw [HF.out]
                    simp [*]
            · have t0 : ((l0 : Int) == 0) = false := by rw [beq_eq_false_iff_ne]; omega
              have HF : Sec (extB old (M : Int) root (N : Int) (p0 :: cs) = false) := sec (by rw [hex, exI, if_neg hl0]; rfl)
              clear hex HEX hl0
              by_cases hcap1 : cap = 1
              · subst hcap1
                go_wp2_with fail
                go_quiet (fail)
                go_wp2_with fail
                go_loopw [87, 11, 12, 13, 14, 16] (fun iv _ lv xv yv _ wr => iv = .int .i64 0 ∧ lv = .int .i64 (l0 : Int) ∧ xv = .string (bs p0) ∧ yv = .string (bs p0) ∧ wr = w.drewN nq) (fun _ _ _ _ _ _ _ => 0)
                case atStart => exact ⟨rfl, rfl, rfl, rfl, rfl⟩
                case round =>
                  obtain ⟨rfl, rfl, rfl, rfl, rfl⟩ := hrel
                  go_wp2_with fail
                  go_ret
                  exact ⟨by rw [HF.out]; rfl, hgq.drewN _⟩
              · go_wp2_with fail
                go_quiet (fail)
                go_wp2_with fail
                go_loopw [87, 11, 12, 13, 14, 16] (fun iv _ lv xv yv _ wr => iv = .int .i64 0 ∧ lv = .int .i64 (l0 : Int) ∧ xv = .string (bs p0) ∧ yv = .string (bs p0) ∧ wr = w.drewN nq) (fun _ _ _ _ _ _ _ => 0)
                case atStart => exact ⟨rfl, rfl, rfl, rfl, rfl⟩
                case round =>
                  obtain ⟨rfl, rfl, rfl, rfl, rfl⟩ := hrel
                  go_wp2_with fail
                  go_ret
                  exact ⟨by rw [HF.out]; rfl, hgq.drewN _⟩
          · obtain ⟨K2, rfl⟩ : ∃ K2, k = K2 + 1 := ⟨k - 1, by omega⟩
            have hcap1 : ¬ cap = 1 := by omega
            have hcsl : cs.length = K2 := by omega
            try rw [show ((K2 + 1 : Nat) : Int) = (K2 : Int) + 1 by omega]
            go_wp2_with fail
            go_quiet (fail)
            go_wp2_with fail
            have hgz0 : Gr w (w.drewN nq) := hgq.drewN _
            have hrz : StrRow (w.drewN nq) (some ⟨b, off + 1, none⟩) K2 cs :=
              StrRow.gr (w := w) (by simpa using StrRow.drop HROW.out 1 (by omega)) ((Gr.refl _).drewN _)
            obtain ⟨wz, hwz⟩ : ∃ wz, wz = w.drewN nq := ⟨_, rfl⟩
            rw [← hwz] at hgz0 hrz
            rw [← hwz]
            have HRZ := sec hrz
            have HKL := sec hcsl
            clear hwz hc0 hrz hcsl hKl tK h1K h0K hK1
            go_loopw [87, 11, 12, 13, 14, 16] (fun jv av lv xv yv _ wr => ∃ (j a l : Nat) (x1 x2 : List UInt8), jv = .int .i64 (j : Int) ∧ j ≤ K2 ∧ av = .int .i64 (a : Int) ∧ lv = .int .i64 (l : Int) ∧ xv = .string (bs x1) ∧ yv = .string (bs x2) ∧ a ≤ l ∧ l ≤ 1099511627776 ∧ x1.length ≤ 1099511627776 ∧ x2.length ≤ 1099511627776 ∧ Sec (exI a0 l0 (p0, p0) cs = exI a l (x1, x2) (cs.drop j)) ∧ Gr wz wr)
              (fun jv _ _ _ _ _ _ => K2 - (intOf jv).toNat)
            case atStart => exact ⟨0, a0, l0, p0, p0, rfl, by omega, rfl, rfl, rfl, rfl, hal0, hl040, hp0, hp0, sec (by rw [List.drop_zero]), Gr.refl _⟩
            case round =>
              obtain ⟨j, a, l, x1, x2, rfl, hj, rfl, rfl, rfl, rfl, hal, hl40, hx1, hx2, HK, hgz⟩ := hrel
              by_cases hlt : j < K2
              · have hji : (j : Int) < (K2 : Int) := by omega
                have hji1 : (j : Int) < (K2 : Int) + 1 := by omega
                have hjp : j < cs.length := by have := HKL.out; omega
                have hc : wr.cell? ⟨b, off + 1 + j, none⟩ = some (.string (bs cs[j])) := by
                  obtain ⟨b', off', e, hc⟩ := (HRZ.out.gr hgz).cell hjp
                  injection e with e; injection e with e1 e2 _
                  subst e1
                  rw [e2]
                  exact hc
                have hpl := HCS.out cs[j] (List.getElem_mem hjp)
                have hck := HK.out
                rw [List.drop_eq_getElem_cons hjp] at hck
                obtain ⟨p, hp⟩ : ∃ p, p = cs[j] := ⟨_, rfl⟩
                rw [← hp] at hc hpl hck
                clear hp hjp
                by_cases hl0 : l = 0
                · subst hl0
                  have HF : Sec (extB old (M : Int) root (N : Int) (p0 :: cs) = false) := sec (by rw [HEX.out, hck]; rfl)
                  clear hck
                  go_wp2_with fail
                  go_ret
                  exact ⟨by rw [HF.out]; rfl, hgz0.trans hgz⟩
                · have t0 : ((l : Int) == 0) = false := by rw [beq_eq_false_iff_ne]; omega
                  by_cases ho : a % 2 = 1
                  · have hCK : exI a0 l0 (p0, p0) cs = exI ((strip a l).1 / 2) ((strip a l).2 / 2) (nodeH p x1, nodeH p x2) (cs.drop (j + 1)) := by
                      rw [hck, exI, if_neg hl0, if_pos (.inl ho)]
                    have t1 : ((a : Int) % 2 == 1) = true := by rw [beq_iff_eq]; omega
                    have t2 : True := trivial
                    clear ho hl0
                    have HT1 := sec (fun w => rtwo_any p x1 w hpl hx1)
                    have HT2 := sec (fun w => rtwo_any p x2 w hpl hx2)
                    have HSR := sec hCK
                    clear hCK hck
                    go_wp2_with (first
                      | (go_at_call 101; with_reducible refine Calls.mono (HT1.out _) ?_; rintro e w3 ⟨rfl, g3⟩; clear HT1)
                      | (go_at_call 101; with_reducible refine Calls.mono (HT2.out _) ?_; rintro e w4 ⟨rfl, g4⟩))
                    clear t1 t2
                    go_loopw [11, 12] (fun av lv wr' => ∃ a' l' : Nat, av = .int .i64 (a' : Int) ∧ lv = .int .i64 (l' : Int) ∧ a' ≤ l' ∧ l' ≤ 1099511627776 ∧ Sec (strip a' l' = strip a l) ∧ wr' = w4)
                      (fun av _ _ => (intOf av).toNat)
                    case atStart => exact ⟨a, l, rfl, rfl, hal, hl40, sec rfl, rfl⟩
                    case round =>
                      obtain ⟨a', l', rfl, rfl, hal', hl40', HS', rfl⟩ := hrel
                      by_cases hgo : a' % 2 = 0 ∧ 0 < a'
                      · have u1 : ((a' : Int) % 2 == 0) = true := by rw [beq_iff_eq]; omega
                        have u2 : 0 < (a' : Int) := by omega
                        have HG := sec (strip_go (l := l') hgo)
                        have HG2 := sec hgo
                        clear hgo
                        go_wp2_with fail
                        go_roundw
                        case rel => exact ⟨a' / 2, l' / 2, by go_num, by go_num, by omega, by omega, sec (by rw [← HG.out]; exact HS'.out), by trivial⟩
                        case measure => simp [intOf]; omega
                      · have HG := sec (strip_end (l := l') hgo)
                        by_cases hz : a' % 2 = 0
                        · have u1 : ((a' : Int) % 2 == 0) = true := by rw [beq_iff_eq]; omega
                          have u2 : ¬ 0 < (a' : Int) := by omega
                          clear hgo hz
                          go_wp2_with fail
                          go_roundw
                          case rel =>
                            refine ⟨j + 1, a' / 2, l' / 2, nodeH p x1, nodeH p x2, by go_num, by omega, by go_num, by go_num, rfl, rfl, by omega, by omega, by rw [nodeH_len]; omega, by rw [nodeH_len]; omega, sec ?_, hgz.trans (g3.trans g4)⟩
                            rw [HSR.out, ← HS'.out, HG.out]
                          case measure => simp [intOf]; omega
                        · have u1 : ((a' : Int) % 2 == 0) = false := by rw [beq_eq_false_iff_ne]; omega
                          clear hgo hz
                          go_wp2_with fail
                          go_roundw
                          case rel =>
                            refine ⟨j + 1, a' / 2, l' / 2, nodeH p x1, nodeH p x2, by go_num, by omega, by go_num, by go_num, rfl, rfl, by omega, by omega, by rw [nodeH_len]; omega, by rw [nodeH_len]; omega, sec ?_, hgz.trans (g3.trans g4)⟩
                            rw [HSR.out, ← HS'.out, HG.out]
                          case measure => simp [intOf]; omega
                  · by_cases he : a = l
                    · have hCK : exI a0 l0 (p0, p0) cs = exI ((strip a l).1 / 2) ((strip a l).2 / 2) (nodeH p x1, nodeH p x2) (cs.drop (j + 1)) := by
                        rw [hck, exI, if_neg hl0, if_pos (.inr he)]
                      have t1 : ((a : Int) % 2 == 1) = false := by rw [beq_eq_false_iff_ne]; omega
                      have t2 : ((a : Int) == (l : Int)) = true := by rw [beq_iff_eq]; omega
                      clear ho he hl0
                      have HT1 := sec (fun w => rtwo_any p x1 w hpl hx1)
                      have HT2 := sec (fun w => rtwo_any p x2 w hpl hx2)
                      have HSR := sec hCK
                      clear hCK hck
                      go_wp2_with (first
                        | (go_at_call 101; with_reducible refine Calls.mono (HT1.out _) ?_; rintro e w3 ⟨rfl, g3⟩; clear HT1)
                        | (go_at_call 101; with_reducible refine Calls.mono (HT2.out _) ?_; rintro e w4 ⟨rfl, g4⟩))
                      clear t1 t2
                      go_loopw [11, 12] (fun av lv wr' => ∃ a' l' : Nat, av = .int .i64 (a' : Int) ∧ lv = .int .i64 (l' : Int) ∧ a' ≤ l' ∧ l' ≤ 1099511627776 ∧ Sec (strip a' l' = strip a l) ∧ wr' = w4)
                        (fun av _ _ => (intOf av).toNat)
                      case atStart => exact ⟨a, l, rfl, rfl, hal, hl40, sec rfl, rfl⟩
                      case round =>
                        obtain ⟨a', l', rfl, rfl, hal', hl40', HS', rfl⟩ := hrel
                        by_cases hgo : a' % 2 = 0 ∧ 0 < a'
                        · have u1 : ((a' : Int) % 2 == 0) = true := by rw [beq_iff_eq]; omega
                          have u2 : 0 < (a' : Int) := by omega
                          have HG := sec (strip_go (l := l') hgo)
                          have HG2 := sec hgo
                          clear hgo
                          go_wp2_with fail
                          go_roundw
                          case rel => exact ⟨a' / 2, l' / 2, by go_num, by go_num, by omega, by omega, sec (by rw [← HG.out]; exact HS'.out), by trivial⟩
                          case measure => simp [intOf]; omega
                        · have HG := sec (strip_end (l := l') hgo)
                          by_cases hz : a' % 2 = 0
                          · have u1 : ((a' : Int) % 2 == 0) = true := by rw [beq_iff_eq]; omega
                            have u2 : ¬ 0 < (a' : Int) := by omega
                            clear hgo hz
                            go_wp2_with fail
                            go_roundw
                            case rel =>
                              refine ⟨j + 1, a' / 2, l' / 2, nodeH p x1, nodeH p x2, by go_num, by omega, by go_num, by go_num, rfl, rfl, by omega, by omega, by rw [nodeH_len]; omega, by rw [nodeH_len]; omega, sec ?_, hgz.trans (g3.trans g4)⟩
                              rw [HSR.out, ← HS'.out, HG.out]
                            case measure => simp [intOf]; omega
                          · have u1 : ((a' : Int) % 2 == 0) = false := by rw [beq_eq_false_iff_ne]; omega
                            clear hgo hz
                            go_wp2_with fail
                            go_roundw
                            case rel =>
                              refine ⟨j + 1, a' / 2, l' / 2, nodeH p x1, nodeH p x2, by go_num, by omega, by go_num, by go_num, rfl, rfl, by omega, by omega, by rw [nodeH_len]; omega, by rw [nodeH_len]; omega, sec ?_, hgz.trans (g3.trans g4)⟩
                              rw [HSR.out, ← HS'.out, HG.out]
                            case measure => simp [intOf]; omega
                    · have t1 : ((a : Int) % 2 == 1) = false := by rw [beq_eq_false_iff_ne]; omega
                      have t2 : ((a : Int) == (l : Int)) = false := by rw [beq_eq_false_iff_ne]; omega
                      have hCK : exI a0 l0 (p0, p0) cs = exI (a / 2) (l / 2) (x1, nodeH x2 p) (cs.drop (j + 1)) := by
                        rw [hck, exI, if_neg hl0, if_neg (by omega)]
                      have HT2 := sec (fun w => rtwo_any x2 p w hx2 hpl)
                      have HSR := sec hCK
                      clear hCK hck ho he hl0
                      go_wp2_with (go_at_call 101; with_reducible refine Calls.mono (HT2.out _) ?_; rintro e w3 ⟨rfl, g3⟩)
                      go_roundw
                      case rel => exact ⟨j + 1, a / 2, l / 2, x1, nodeH x2 p, by go_num, by omega, by go_num, by go_num, rfl, rfl, by omega, by omega, hx1, by rw [nodeH_len]; omega, HSR, hgz.trans g3⟩
                      case measure => simp [intOf]; omega
              · obtain rfl : j = K2 := by omega
                have hck := HK.out
                rw [List.drop_eq_nil_of_le (by have := HKL.out; omega), exI] at hck
                by_cases hl0 : l = 0
                · subst hl0
                  have HF : Sec (extB old (M : Int) root (N : Int) (p0 :: cs) = (x1 == old && x2 == root)) := sec (by rw [HEX.out, hck]; rfl)
                  clear hck hlt hj
                  go_wp2_with fail
                  all_goals
                    go_ret
                    refine ⟨?_, hgz0.trans hgz⟩
                    rw [HF.out]
                    simp [*]
                · have t0 : ((l : Int) == 0) = false := by rw [beq_eq_false_iff_ne]; omega
                  have HF : Sec (extB old (M : Int) root (N : Int) (p0 :: cs) = false) := sec (by rw [HEX.out, hck, if_neg hl0]; rfl)
                  clear hck hl0 hlt hj
                  go_wp2_with fail
                  go_ret
                  exact ⟨by rw [HF.out]; rfl, hgz0.trans hgz⟩
end Go.Proofs.YtbhpglhmnpcnkaaDoor

namespace Go.Proofs.YtbhpglhmnpcnkaaDoor
open Go.RowKit
set_option linter.unusedVariables false

theorem extB_eq (old root : List UInt8) (m : Nat) (ps : List (List UInt8)) (h0 : 0 < m) (hm : m ≤ 1099511627776) : extB old m root m ps = decide (ps.length = 0 ∧ old = root) := by
  unfold extB
  rw [if_pos ⟨by omega, by omega, by omega⟩, if_neg (by omega), Int.toNat_natCast]
  cases hr : ps.reverse with
  | nil =>
    have hp : ps = [] := by simpa using hr
    subst hp
    rw [bothR_nil, if_pos rfl]
    simp only [both2, List.length_nil, true_and, if_true]
    rw [Bool.eq_iff_iff]
    simp
  | cons x r =>
    have hp : ps.length ≠ 0 := by
      intro h
      have h2 := congrArg List.length hr
      simp at h2
      omega
    rw [bothR_cons, if_pos rfl]
    simp [both2, hp]

set_option maxRecDepth 100000 in
set_option maxHeartbeats 4000000 in
theorem rextends_any (old root : List UInt8) (m n : Int) (ps : List (List UInt8)) (k : Nat) (A : Option Addr) (cap : Nat) (w : World) (hold : old.length ≤ 1099511627776) (hk : k ≤ 1099511627776) (hcap : k ≤ cap) (hA : A = none → k = 0 ∧ cap = 0) (hrow : StrRow w A k ps) (hs : Short ps) :
    Calls Tryd.prog 80 #[.string (bs old), .int .i64 m, .string (bs root), .int .i64 n, .slice A k cap] w fun e w' => e = .returned (.bool (extB old m root n ps)) ∧ Gr w w' := by
  have hlen := hrow.len
  by_cases h1 : 0 ≤ m
  · by_cases h2 : m ≤ n
    · by_cases h3 : n ≤ 1099511627776
      · obtain ⟨M, rfl⟩ : ∃ M : Nat, m = M := ⟨m.toNat, by omega⟩
        obtain ⟨N, rfl⟩ : ∃ N : Nat, n = N := ⟨n.toNat, by omega⟩
        have q1 : ¬ (M : Int) < 0 := by omega
        have q2 : ¬ (N : Int) < (M : Int) := by omega
        have q3 : ¬ (1099511627776 : Int) < (N : Int) := by omega
        by_cases hmn : M = N
        · subst hmn
          by_cases hl0 : k = 0
          · subst hl0
            by_cases hor : old = root
            · by_cases hM0 : 0 < M
              · have HF : Sec (extB old M root M ps = true) := sec (by rw [extB_eq old root M ps hM0 (by omega)]; exact decide_eq_true ⟨hlen, hor⟩)
                have t1 : (old == root) = true := by rw [beq_iff_eq]; exact hor
                have t2 : 0 < (M : Int) := by omega
                clear hrow hlen hs hor
                go_enter Tryd.func80, Tryd.ntmps80
                go_wp2_with fail
                go_ret
                exact ⟨by rw [HF.out]; rfl, Gr.refl _⟩
              · obtain rfl : M = 0 := by omega
                have hE : extB old ((0 : Nat) : Int) root ((0 : Nat) : Int) ps = decide (old = sha []) := by
                  unfold extB
                  rw [if_pos ⟨by omega, by omega, by omega⟩, if_pos (show ((0 : Nat) : Int) = 0 from rfl)]
                  exact decide_eq_decide.2 ⟨fun h => h.2.1, fun h => ⟨hlen, h, .inr hor.symm⟩⟩
                have HE := sec hE
                have t1 : (old == root) = true := by rw [beq_iff_eq]; exact hor
                rw [show ((0 : Nat) : Int) = 0 from rfl] at *
                by_cases ho : old = sha []
                · have HF : Sec (extB old 0 root 0 ps = true) := sec (by have := HE.out; rw [this]; exact decide_eq_true ho)
                  have t2 : (old == sha []) = true := by rw [beq_iff_eq]; exact ho
                  clear hrow hlen hs hor ho hE
                  go_enter Tryd.func80, Tryd.ntmps80
                  go_wp2_with (go_at_call 48; refine (rsum_any [] _ (by simp)).mono ?_; rintro e w1 ⟨rfl, g1⟩)
                  go_ret
                  exact ⟨by rw [HF.out]; rfl, g1⟩
                · have HF : Sec (extB old 0 root 0 ps = false) := sec (by have := HE.out; rw [this]; exact decide_eq_false ho)
                  have t2 : (old == sha []) = false := by rw [beq_eq_false_iff_ne]; exact ho
                  clear hrow hlen hs hor ho hE
                  go_enter Tryd.func80, Tryd.ntmps80
                  go_wp2_with (go_at_call 48; refine (rsum_any [] _ (by simp)).mono ?_; rintro e w1 ⟨rfl, g1⟩)
                  go_ret
                  exact ⟨by rw [HF.out]; rfl, g1⟩
            · have HF : Sec (extB old M root M ps = false) := sec (by
                by_cases hM0 : 0 < M
                · rw [extB_eq old root M ps hM0 (by omega)]; exact decide_eq_false (fun h => hor h.2)
                · obtain rfl : M = 0 := by omega
                  unfold extB
                  rw [if_pos ⟨by omega, by omega, by omega⟩, if_pos (show ((0 : Nat) : Int) = 0 from rfl)]
                  exact decide_eq_false (fun h => by rcases h.2.2 with h | h; omega; exact hor h.symm))
              have t1 : (old == root) = false := by rw [beq_eq_false_iff_ne]; exact hor
              clear hrow hlen hs hor
              go_enter Tryd.func80, Tryd.ntmps80
              go_wp2_with fail
              go_ret
              exact ⟨by rw [HF.out]; rfl, Gr.refl _⟩
          · have HF : Sec (extB old M root M ps = false) := sec (by
              by_cases hM0 : 0 < M
              · rw [extB_eq old root M ps hM0 (by omega)]; exact decide_eq_false (fun h => hl0 (by omega))
              · obtain rfl : M = 0 := by omega
                unfold extB
                rw [if_pos ⟨by omega, by omega, by omega⟩, if_pos (show ((0 : Nat) : Int) = 0 from rfl)]
                exact decide_eq_false (fun h => hl0 (by omega)))
            have t1 : ((k : Int) == 0) = false := by rw [beq_eq_false_iff_ne]; omega
            clear hrow hlen hs hl0
            go_enter Tryd.func80, Tryd.ntmps80
            go_wp2_with fail
            go_ret
            exact ⟨by rw [HF.out]; rfl, Gr.refl _⟩
        · by_cases hM0 : 0 < M
          · exact rextends_in old root M N ps k A cap w hM0 (by omega) (by omega) hold hk hcap hA hrow hs
          · obtain rfl : M = 0 := by omega
            have tmn : ((0 : Int) == (N : Int)) = false := by rw [beq_eq_false_iff_ne]; omega
            have hE : extB old ((0 : Nat) : Int) root (N : Int) ps = decide (ps.length = 0 ∧ old = sha []) := by
              unfold extB
              rw [if_pos ⟨by omega, by omega, by omega⟩, if_pos (show ((0 : Nat) : Int) = 0 from rfl)]
              exact decide_eq_decide.2 ⟨fun h => ⟨h.1, h.2.1⟩, fun h => ⟨h.1, h.2, .inl (by omega)⟩⟩
            rw [show ((0 : Nat) : Int) = 0 from rfl] at *
            by_cases hl0 : k = 0
            · subst hl0
              by_cases ho : old = sha []
              · have HF : Sec (extB old 0 root N ps = true) := sec (by rw [hE]; exact decide_eq_true ⟨hlen, ho⟩)
                have t2 : (old == sha []) = true := by rw [beq_iff_eq]; exact ho
                clear hrow hlen hs ho hE
                go_enter Tryd.func80, Tryd.ntmps80
                go_wp2_with (go_at_call 48; refine (rsum_any [] _ (by simp)).mono ?_; rintro e w1 ⟨rfl, g1⟩)
                go_ret
                exact ⟨by rw [HF.out]; rfl, g1⟩
              · have HF : Sec (extB old 0 root N ps = false) := sec (by rw [hE]; exact decide_eq_false (fun h => ho h.2))
                have t2 : (old == sha []) = false := by rw [beq_eq_false_iff_ne]; exact ho
                clear hrow hlen hs ho hE
                go_enter Tryd.func80, Tryd.ntmps80
                go_wp2_with (go_at_call 48; refine (rsum_any [] _ (by simp)).mono ?_; rintro e w1 ⟨rfl, g1⟩)
                go_ret
                exact ⟨by rw [HF.out]; rfl, g1⟩
            · have HF : Sec (extB old 0 root N ps = false) := sec (by rw [hE]; exact decide_eq_false (fun h => hl0 (by omega)))
              have t1 : ((k : Int) == 0) = false := by rw [beq_eq_false_iff_ne]; omega
              clear hrow hlen hs hl0 hE
              go_enter Tryd.func80, Tryd.ntmps80
              go_wp2_with fail
              go_ret
              exact ⟨by rw [HF.out]; rfl, Gr.refl _⟩
      · have HC : Sec (extB old m root n ps = false) := sec (by unfold extB; rw [if_neg (fun h => h3 h.2.2)])
        rw [HC.out]
        have q1 : ¬ m < 0 := by omega
        have q2 : ¬ n < m := by omega
        have q3 : 1099511627776 < n := by omega
        go_enter Tryd.func80, Tryd.ntmps80
        go_wp2_with fail
        go_ret
        exact ⟨rfl, Gr.refl _⟩
    · have HC : Sec (extB old m root n ps = false) := sec (by unfold extB; rw [if_neg (fun h => h2 h.2.1)])
      rw [HC.out]
      have q1 : ¬ m < 0 := by omega
      have q2 : n < m := by omega
      go_enter Tryd.func80, Tryd.ntmps80
      go_wp2_with fail
      go_ret
      exact ⟨rfl, Gr.refl _⟩
  · have HC : Sec (extB old m root n ps = false) := sec (by unfold extB; rw [if_neg (fun h => h1 h.1)])
    rw [HC.out]
    have q1 : m < 0 := by omega
    go_enter Tryd.func80, Tryd.ntmps80
    go_wp2_with fail
    go_ret
    exact ⟨rfl, Gr.refl _⟩

end Go.Proofs.YtbhpglhmnpcnkaaDoor

namespace Go.Proofs.YtbhpglhmnpcnkaaDoor
set_option maxRecDepth 100000
open Go.RowKit
set_option linter.unusedVariables false

/-- P12.2: what is wrong with a head that comes after another -/
def folE (so : Int) (ro : List UInt8) (n : Int) (r : List UInt8) (ps : List (List UInt8)) : Int :=
  if n < so then 15 else if n = so ∧ r = ro then 0 else if extB ro so r n ps = true then 0 else 16

set_option maxHeartbeats 4000000 in
theorem follows_any (so : Int) (ro : List UInt8) (n : Int) (r : List UInt8) (ps : List (List UInt8)) (k : Nat) (A : Option Addr) (cap : Nat) (w : World) (hro : ro.length ≤ 1099511627776) (hk : k ≤ 1099511627776) (hcap : k ≤ cap) (hA : A = none → k = 0 ∧ cap = 0) (hrow : StrRow w A k ps) (hs : Short ps) (hT : TabK w) :
    Calls Tryd.prog 49 #[.agg (headC so ro), .agg (headC n r), .slice A k cap] w fun e w' => e = .returned (.int .i64 (folE so ro n r ps)) ∧ Gr w w' := by
  have HEx : Sec (∀ w', Gr w w' → Calls Tryd.prog 70 #[.string (bs ro), .int .i64 so, .string (bs r), .int .i64 n, .slice A k cap] w' fun e w'' => e = .returned (.bool (extB ro so r n ps)) ∧ Gr w' w'') := sec (fun w' g => extends_any ro r so n ps k A cap w' hro hk hcap (hrow.gr g) hs (hT.gr g))
  obtain ⟨wa, hwa⟩ : ∃ x, x = (w.alloc (.cells (headC so ro) 26)).alloc (.cells (headC n r) 26) := ⟨_, rfl⟩
  have hb : Blk wa w.heap.size 26 (headC so ro) := by rw [hwa]; exact (Blk.new w _ _).alloc _
  have hm : Blk wa (w.heap.size + 1) 26 (headC n r) := by rw [hwa]; exact Blk.new1 w _ _ _
  have hg0 : Gr w wa := by rw [hwa]; exact ((Gr.refl w).alloc _).alloc _
  obtain ⟨p, hp⟩ : ∃ p, p = w.heap.size := ⟨_, rfl⟩
  rw [← hp] at hb hm
  have c0 : wa.cell? ⟨p, 0, none⟩ = some (.int .i64 so) := hb.cell 0
  have c1 : wa.cell? ⟨p, 1, none⟩ = some (.string (bs ro)) := hb.cell 1
  have d0 : wa.cell? ⟨p + 1, 0, none⟩ = some (.int .i64 n) := hm.cell 0
  have d1 : wa.cell? ⟨p + 1, 1, none⟩ = some (.string (bs r)) := hm.cell 1
  have HB := sec hb
  have HM := sec hm
  clear hb hm hT hrow hs hk hcap hA hro
  unfold headC at hwa
  unfold headC
  unfold folE
  by_cases h1 : n < so
  · rw [if_pos h1]
    have q1 : decide (n < so) = true := decide_eq_true h1
    clear HEx
    go_enter Tryd.func49, Tryd.ntmps49
    go_wp2_with (first
      | (rw [← hwa, ← hp]; clear hwa hp; go_wp2_with fail))
    go_ret
    exact ⟨rfl, hg0⟩
  · rw [if_neg h1]
    have q1 : decide (n < so) = false := decide_eq_false h1
    by_cases h2 : n = so
    · by_cases h3 : r = ro
      · rw [if_pos ⟨h2, h3⟩]
        subst h2
        subst h3
        clear HEx
        go_enter Tryd.func49, Tryd.ntmps49
        go_wp2_with (first
          | (rw [← hwa, ← hp]; clear hwa hp; go_wp2_with fail)
          )
        go_ret
        exact ⟨rfl, hg0⟩
      · rw [if_neg (fun h => h3 h.2)]
        subst h2
        have q3 : (r == ro) = false := by rw [beq_eq_false_iff_ne]; exact h3
        have q4 : ¬ bs r = bs ro := fun h => h3 (bs_inj h)
        cases hX : extB ro n r n ps with
        | true =>
          rw [hX] at HEx
          clear hX
          rw [if_pos rfl]
          go_enter Tryd.func49, Tryd.ntmps49
          go_wp2_with (first
            | (rw [← hwa, ← hp]; clear hwa hp; go_wp2_with fail)
            | (go_at_call 70; refine Calls.mono (HEx.out _ hg0) ?_; rintro e w1 ⟨rfl, g1⟩))
          go_ret
          exact ⟨rfl, hg0.trans g1⟩
        | false =>
          rw [hX] at HEx
          clear hX
          rw [if_neg (by decide)]
          go_enter Tryd.func49, Tryd.ntmps49
          go_wp2_with (first
            | (rw [← hwa, ← hp]; clear hwa hp; go_wp2_with fail)
            | (go_at_call 70; refine Calls.mono (HEx.out _ hg0) ?_; rintro e w1 ⟨rfl, g1⟩))
          go_ret
          exact ⟨rfl, hg0.trans g1⟩
    · rw [if_neg (fun h => h2 h.1)]
      have q2 : decide (n = so) = false := decide_eq_false h2
      cases hX : extB ro so r n ps with
      | true =>
        rw [hX] at HEx
        clear hX
        rw [if_pos rfl]
        go_enter Tryd.func49, Tryd.ntmps49
        go_wp2_with (first
          | (rw [← hwa, ← hp]; clear hwa hp; go_wp2_with fail)
          | (go_at_call 70; refine Calls.mono (HEx.out _ hg0) ?_; rintro e w1 ⟨rfl, g1⟩))
        go_ret
        exact ⟨rfl, hg0.trans g1⟩
      | false =>
        rw [hX] at HEx
        clear hX
        rw [if_neg (by decide)]
        go_enter Tryd.func49, Tryd.ntmps49
        go_wp2_with (first
          | (rw [← hwa, ← hp]; clear hwa hp; go_wp2_with fail)
          | (go_at_call 70; refine Calls.mono (HEx.out _ hg0) ?_; rintro e w1 ⟨rfl, g1⟩))
        go_ret
        exact ⟨rfl, hg0.trans g1⟩

set_option maxHeartbeats 4000000 in
theorem rfollows_any (so : Int) (ro : List UInt8) (n : Int) (r : List UInt8) (ps : List (List UInt8)) (k : Nat) (A : Option Addr) (cap : Nat) (w : World) (hro : ro.length ≤ 1099511627776) (hk : k ≤ 1099511627776) (hcap : k ≤ cap) (hA : A = none → k = 0 ∧ cap = 0) (hrow : StrRow w A k ps) (hs : Short ps) (hT : TabK w) :
    Calls Tryd.prog 52 #[.agg (headC so ro), .agg (headC n r), .slice A k cap] w fun e w' => e = .returned (.int .i64 (folE so ro n r ps)) ∧ Gr w w' := by
  have HEx : Sec (∀ w', Gr w w' → Calls Tryd.prog 80 #[.string (bs ro), .int .i64 so, .string (bs r), .int .i64 n, .slice A k cap] w' fun e w'' => e = .returned (.bool (extB ro so r n ps)) ∧ Gr w' w'') := sec (fun w' g => rextends_any ro r so n ps k A cap w' hro hk hcap hA (hrow.gr g) hs)
  obtain ⟨wa, hwa⟩ : ∃ x, x = (w.alloc (.cells (headC so ro) 26)).alloc (.cells (headC n r) 26) := ⟨_, rfl⟩
  have hb : Blk wa w.heap.size 26 (headC so ro) := by rw [hwa]; exact (Blk.new w _ _).alloc _
  have hm : Blk wa (w.heap.size + 1) 26 (headC n r) := by rw [hwa]; exact Blk.new1 w _ _ _
  have hg0 : Gr w wa := by rw [hwa]; exact ((Gr.refl w).alloc _).alloc _
  obtain ⟨p, hp⟩ : ∃ p, p = w.heap.size := ⟨_, rfl⟩
  rw [← hp] at hb hm
  have c0 : wa.cell? ⟨p, 0, none⟩ = some (.int .i64 so) := hb.cell 0
  have c1 : wa.cell? ⟨p, 1, none⟩ = some (.string (bs ro)) := hb.cell 1
  have d0 : wa.cell? ⟨p + 1, 0, none⟩ = some (.int .i64 n) := hm.cell 0
  have d1 : wa.cell? ⟨p + 1, 1, none⟩ = some (.string (bs r)) := hm.cell 1
  have HB := sec hb
  have HM := sec hm
  clear hb hm hT hrow hs hk hcap hA hro
  unfold headC at hwa
  unfold headC
  unfold folE
  by_cases h1 : n < so
  · rw [if_pos h1]
    have q1 : decide (n < so) = true := decide_eq_true h1
    clear HEx
    go_enter Tryd.func52, Tryd.ntmps52
    go_wp2_with (first
      | (rw [← hwa, ← hp]; clear hwa hp; go_wp2_with fail))
    go_ret
    exact ⟨rfl, hg0⟩
  · rw [if_neg h1]
    have q1 : decide (n < so) = false := decide_eq_false h1
    by_cases h2 : n = so
    · by_cases h3 : r = ro
      · rw [if_pos ⟨h2, h3⟩]
        subst h2
        subst h3
        clear HEx
        go_enter Tryd.func52, Tryd.ntmps52
        go_wp2_with (first
          | (rw [← hwa, ← hp]; clear hwa hp; go_wp2_with fail)
          )
        go_ret
        exact ⟨rfl, hg0⟩
      · rw [if_neg (fun h => h3 h.2)]
        subst h2
        have q3 : (r == ro) = false := by rw [beq_eq_false_iff_ne]; exact h3
        have q4 : ¬ bs r = bs ro := fun h => h3 (bs_inj h)
        cases hX : extB ro n r n ps with
        | true =>
          rw [hX] at HEx
          clear hX
          rw [if_pos rfl]
          go_enter Tryd.func52, Tryd.ntmps52
          go_wp2_with (first
            | (rw [← hwa, ← hp]; clear hwa hp; go_wp2_with fail)
            | (go_at_call 80; refine Calls.mono (HEx.out _ hg0) ?_; rintro e w1 ⟨rfl, g1⟩))
          go_ret
          exact ⟨rfl, hg0.trans g1⟩
        | false =>
          rw [hX] at HEx
          clear hX
          rw [if_neg (by decide)]
          go_enter Tryd.func52, Tryd.ntmps52
          go_wp2_with (first
            | (rw [← hwa, ← hp]; clear hwa hp; go_wp2_with fail)
            | (go_at_call 80; refine Calls.mono (HEx.out _ hg0) ?_; rintro e w1 ⟨rfl, g1⟩))
          go_ret
          exact ⟨rfl, hg0.trans g1⟩
    · rw [if_neg (fun h => h2 h.1)]
      have q2 : decide (n = so) = false := decide_eq_false h2
      cases hX : extB ro so r n ps with
      | true =>
        rw [hX] at HEx
        clear hX
        rw [if_pos rfl]
        go_enter Tryd.func52, Tryd.ntmps52
        go_wp2_with (first
          | (rw [← hwa, ← hp]; clear hwa hp; go_wp2_with fail)
          | (go_at_call 80; refine Calls.mono (HEx.out _ hg0) ?_; rintro e w1 ⟨rfl, g1⟩))
        go_ret
        exact ⟨rfl, hg0.trans g1⟩
      | false =>
        rw [hX] at HEx
        clear hX
        rw [if_neg (by decide)]
        go_enter Tryd.func52, Tryd.ntmps52
        go_wp2_with (first
          | (rw [← hwa, ← hp]; clear hwa hp; go_wp2_with fail)
          | (go_at_call 80; refine Calls.mono (HEx.out _ hg0) ?_; rintro e w1 ⟨rfl, g1⟩))
        go_ret
        exact ⟨rfl, hg0.trans g1⟩
end Go.Proofs.YtbhpglhmnpcnkaaDoor

namespace Go.Proofs.YtbhpglhmnpcnkaaDoor
open Go.RowKit
set_option linter.unusedVariables false

/-! ### plain lists -/
theorem splice_eq {α : Type} (L : List α) (off : Nat) (cs : List α) : Go.splice L off cs = L.take off ++ (cs ++ L.drop (off + cs.length)) := rfl
theorem ins_room {α : Type} (L xs x : List α) (o m k : Nat) (hL : L.take m = xs) (hm : xs.length = m) (ho : o ≤ m) (hk : x.length = k) (hl : m + k ≤ L.length) :
    (Go.splice (Go.splice L (o + k) (xs.drop o)) o x).take (m + k) = xs.take o ++ (x ++ xs.drop o) := by
  have h0 : (xs.drop o).length = m - o := by rw [List.length_drop]; omega
  have h1 : Go.splice L (o + k) (xs.drop o) = L.take (o + k) ++ (xs.drop o ++ L.drop (m + k)) := by
    rw [splice_eq, h0, show o + k + (m - o) = m + k by omega]
  rw [h1, splice_eq, hk]
  have h2 : (L.take (o + k) ++ (xs.drop o ++ L.drop (m + k))).take o = xs.take o := by
    rw [List.take_append_of_le_length (by rw [List.length_take]; omega), List.take_take, ← hL, List.take_take]
    congr 1; omega
  have h3 : (L.take (o + k) ++ (xs.drop o ++ L.drop (m + k))).drop (o + k) = xs.drop o ++ L.drop (m + k) := by
    rw [List.drop_append_of_le_length (by rw [List.length_take]; omega), List.drop_eq_nil_of_le (by rw [List.length_take]; omega)]; rfl
  rw [h2, h3, ← List.append_assoc, ← List.append_assoc]
  rw [List.take_append_of_le_length (by simp; omega), List.take_of_length_le (by simp; omega), List.append_assoc]
theorem ins_grow {α : Type} (R xs x : List α) (o m k : Nat) (hR : R.take o = xs.take o) (hm : xs.length = m) (ho : o ≤ m) (hk : x.length = k) (hl : m + k ≤ R.length) :
    (Go.splice (Go.splice R o x) (o + k) (xs.drop o)).take (m + k) = xs.take o ++ (x ++ xs.drop o) := by
  have h0 : (xs.drop o).length = m - o := by rw [List.length_drop]; omega
  have h1 : Go.splice R o x = xs.take o ++ (x ++ R.drop (o + k)) := by rw [splice_eq, hk, hR]
  have h2 : (Go.splice R o x).take (o + k) = xs.take o ++ x := by
    rw [h1, ← List.append_assoc, List.take_append_of_le_length (by simp; omega), List.take_of_length_le (by simp; omega)]
  have h3 : (Go.splice (Go.splice R o x) (o + k) (xs.drop o)) = xs.take o ++ x ++ (xs.drop o ++ (Go.splice R o x).drop (o + k + (m - o))) := by
    rw [splice_eq (Go.splice R o x), h2, h0]
  rw [h3, ← List.append_assoc, List.take_append_of_le_length (by simp; omega), List.take_of_length_le (by simp; omega), List.append_assoc]
theorem del_room {α : Type} (L xs : List α) (o m k : Nat) (hL : L.take m = xs) (hm : xs.length = m) (ho : o + k ≤ m) (hl : m ≤ L.length) (z : List α) (hz : z.length = k) :
    (Go.splice (Go.splice L o (xs.drop (o + k))) (m - k) z).take (m - k) = xs.take o ++ xs.drop (o + k) := by
  have h0 : (xs.drop (o + k)).length = m - k - o := by rw [List.length_drop]; omega
  have h1 : Go.splice L o (xs.drop (o + k)) = L.take o ++ (xs.drop (o + k) ++ L.drop (m - k)) := by
    rw [splice_eq, h0, show o + (m - k - o) = m - k by omega]
  have h4 : L.take o = xs.take o := by rw [← hL, List.take_take]; congr 1; omega
  rw [splice_eq, List.take_append_of_le_length (by rw [List.length_take, h1]; simp; omega), List.take_take, Nat.min_self, h1, h4, ← List.append_assoc,
    List.take_append_of_le_length (by simp; omega), List.take_of_length_le (by simp; omega)]

/-! ### copy, clear of elements of more than one cell -/
theorem run_copy_rowN {P : Program} (w : World) (dT sT ty elem : TypeId) (g o dLen dCap : Nat) (a : Addr) (sLen sCap size : Nat) (cur : Array Value) (t : TypeId) (cs : List Value)
    (hu : P.underlying dT = some (.slice elem)) (hs : (P.info? elem).map (·.size) = some size)
    (hg : w.heap[g]? = some (.cells cur t (0, 0))) (hn : cs.length = Nat.min sLen dLen * size)
    (hsrc : ∀ j v, cs[j]? = some v → w.cell? (a.add j) = some v) (hfit : o + cs.length ≤ cur.size) (h1 : ∀ v ∈ cs, v.oneCell' = true) :
    (Builtin.copy_ #[dT, sT] ty #[.slice (some ⟨g, o, none⟩) dLen dCap, .slice (some a) sLen sCap]).run P w =
      .ok (goInt (Nat.min sLen dLen)) (w.setRow g (Go.splice cur.toList o cs).toArray) := by
  have hl := run_loadCells_list (P := P) w a cs hsrc
  have hst := run_storeCells_at P g o t cs 0 cur w hg (by simpa using hfit) h1
  cases hq : P.info? elem with
  | none => simp [hq] at hs
  | some i =>
    have hi : i.size = size := by simpa [hq] using hs
    have hf := run_firstCells_some (P := P) w size (Nat.min sLen dLen) a sLen sCap cs hn hsrc
    rw [splice_eq]
    simp [Builtin.copy_, run_underlying hu, Builtin.lenOf, sizeOf, typeInfo, hq, hi, hf, hst, List.append_assoc]

theorem wp_copy_run (w : World) {P : Program} {o : Oper} {a : Act} {K : Act → World → Prop} {Q : Exit → Act → World → Prop} (d s : Operand) (t t' : TypeId)
    (ho : o.op = .call { callee := .builtin .copy, args := #[d, s], argTypes := #[t, t'] }) (v u : Value) (hd : a.eval d = v) (hs : a.eval s = u) {v' : Value} {w' : World}
    (hr : (Builtin.copy_ #[t, t'] o.type #[v, u]).run P w = .ok v' w') (h : K (a.put o.dst v') w') : o.wp P a w K Q := by
  unfold Oper.wp execOp
  simp only [ho, resolve, invoke, builtin, Sem.run_bind, Sem.run_pure, Result.andThen_ok, List.map_toArray, List.map_cons, List.map_nil, hd, hs, hr]
  exact h
theorem wpList_copy_run (w : World) {P : Program} {ops : Array Oper} {rest : List Oper} {o : Oper} {a : Act} {Q : Exit → Act → World → Prop} (hgd : o.guard = none) (d s : Operand) (t t' : TypeId)
    (ho : o.op = .call { callee := .builtin .copy, args := #[d, s], argTypes := #[t, t'] }) (v u : Value) (hd : a.eval d = v) (hs : a.eval s = u) {v' : Value} {w' : World}
    (hr : (Builtin.copy_ #[t, t'] o.type #[v, u]).run P w = .ok v' w') (h : wpList P ops Q rest (a.put o.dst v') w') : wpList P ops Q (o :: rest) a w :=
  wpList_plain hgd fun _ hK => wp_copy_run w d s t t' ho v u hd hs hr (hK _ _ h)
theorem step_copy_run {P : Program} {ops : Array Oper} {o : Oper} {a : Act} {w : World} {K : Act → World → Prop} {Q : Exit → Act → World → Prop} {E : Prop}
    (hg : o.guard = none) (d x : Operand) (dT sT : TypeId) (hop : o.op = Op.call { callee := Callee.builtin Builtin.copy, args := #[d, x], argTypes := #[dT, sT] })
    (v u : Value) (hd : a.eval d = v) (hx : a.eval x = u) {v' : Value} {w' : World} (hr : (Builtin.copy_ #[dT, sT] o.type #[v, u]).run P w = .ok v' w') (hK : K (a.put o.dst v') w') :
    if Region.wanted o (yielded ops a.tmps) = true then Oper.wp P o a w K Q else E := by
  have hw : Region.wanted o (yielded ops a.tmps) = true := by simp [Region.wanted, hg]
  rw [if_pos hw]
  exact wp_copy_run w d x dT sT hop v u hd hx hr hK
theorem fileSize : (Tryd.prog.info? 87).map (·.size) = some 3 := by
  obtain ⟨i0, hi0, _, h1, _⟩ := info_parts E.file.info
  rw [hi0]; simp [h1]
theorem sizeOfFile : ∀ w, (Go.sizeOf 87).run Tryd.prog w = .ok 3 w := by
  intro w
  obtain ⟨i0, hi0, _, h1, _⟩ := info_parts E.file.info
  simp [sizeOf, typeInfo, hi0, h1]

set_option maxHeartbeats 4000000 in
set_option maxRecDepth 100000 in
/-- there is room, i < n: in place -/
theorem ins_shift (g cap n i gv vc : Nat) (cur x : List Value) (w : World) (hi : i < n) (hroom : n + 1 ≤ cap) (hcap : cap ≤ maxLen) (hgv : gv ≠ g) (hg : Blk w g 87 cur.toArray) (hs : cur.length = cap * 3)
    (hv : Blk w gv 87 x.toArray) (hx : x.length = 3) (h1 : ∀ v ∈ cur.take (n * 3), v.oneCell' = true) (h1v : ∀ v ∈ x, v.oneCell' = true) :
    Calls Tryd.prog 96 #[.slice (some ⟨g, 0, none⟩) n cap, .int .i64 (i : Int), .slice (some ⟨gv, 0, none⟩) 1 vc] w fun e w' =>
      e = .returned (.slice (some ⟨g, 0, none⟩) (n + 1) cap) ∧ Blk w' g 87 (Go.splice (Go.splice cur (i * 3 + 3) ((cur.take (n * 3)).drop (i * 3))) (i * 3) x).toArray ∧ w.grownBy w' (some g) := by
  have hcs : (cur.take (n * 3)).length = n * 3 := by rw [List.length_take]; omega
  obtain ⟨xs, hxs⟩ : ∃ xs, xs = cur.take (n * 3) := ⟨_, rfl⟩
  have hov : ∀ lb cb, (callFunc 110 #[.slice (some ⟨gv, 0, none⟩) 1 vc, .slice (some ⟨g, (i + 1) * 3, none⟩) lb cb]).run Tryd.prog w = .ok (.value (.bool false)) w := fun lb cb => by
    rw [run_callFunc_extern Tryd.func110 (by kernel_rfl) (by kernel_rfl) (by kernel_rfl) (e := Extern.SlicesOverlaps.overlaps #[22, 22] #[4]) (by kernel_rfl),
      Lib.run_overlaps_apart w 22 4 87 E.file.under 3 sizeOfFile ⟨gv, 0, none⟩ ⟨g, (i + 1) * 3, none⟩ 1 vc lb cb hgv 87 87 3 (cap * 3)
        (by unfold World.shape?; rw [hv]; simp [hx]) (by unfold World.shape?; rw [hg]; simp [hs]) (by omega) (hv.frozen 0) (hv.frozen 3)]
    rfl
  have hdl : ((cur.take (n * 3)).drop (i * 3)).length = n * 3 - i * 3 := by rw [List.length_drop, hcs]
  have hcp1 : ∀ ty dc sc, (Builtin.copy_ #[22, 22] ty #[.slice (some ⟨g, (i + 1) * 3, none⟩) (n - i) dc, .slice (some ⟨g, i * 3, none⟩) (n + 1 - i) sc]).run Tryd.prog w.drew = .ok (goInt ((n - i : Nat) : Int)) (w.drew.setRow g (Go.splice cur ((i + 1) * 3) ((cur.take (n * 3)).drop (i * 3))).toArray) := fun ty dc sc => by
    have := run_copy_rowN (P := Tryd.prog) w.drew 22 22 ty 87 g ((i + 1) * 3) (n - i) dc ⟨g, i * 3, none⟩ (n + 1 - i) sc 3 cur.toArray 87 ((cur.take (n * 3)).drop (i * 3)) E.file.under fileSize hg.drew
      (by rw [hdl, show Nat.min (n + 1 - i) (n - i) = n - i by simp only [Nat.min_def]; split <;> omega, Nat.sub_mul])
      (fun j v hj => by
        rw [Addr.add_lit]
        rw [List.getElem?_drop, List.getElem?_take] at hj
        split at hj
        · exact (hg.drew.cell _).trans (by simpa using hj)
        · cases hj)
      (by rw [hdl, List.size_toArray, hs]; omega) (fun v hv => h1 v (List.mem_of_mem_drop hv))
    rw [show Nat.min (n + 1 - i) (n - i) = n - i by simp only [Nat.min_def]; split <;> omega] at this
    exact this
  obtain ⟨c1, hc1⟩ : ∃ c1, c1 = Go.splice cur ((i + 1) * 3) ((cur.take (n * 3)).drop (i * 3)) := ⟨_, rfl⟩
  rw [← hc1] at hcp1
  have hc1l : c1.length = cap * 3 := by rw [hc1, Go.length_splice _ _ _ (by rw [hdl, hs]; omega), hs]
  have hg1 : Blk (w.drew.setRow g c1.toArray) g 87 c1.toArray := hg.drew.of_setRow _
  have hv1 : Blk (w.drew.setRow g c1.toArray) gv 87 x.toArray := hv.drew.only (grown_setRow w.drew g _) hgv
  have hcp2 : ∀ ty dc, (Builtin.copy_ #[22, 22] ty #[.slice (some ⟨g, i * 3, none⟩) (n + 1 - i) dc, .slice (some ⟨gv, 0, none⟩) 1 vc]).run Tryd.prog (w.drew.setRow g c1.toArray) = .ok (goInt 1) ((w.drew.setRow g c1.toArray).setRow g (Go.splice c1 (i * 3) x).toArray) := fun ty dc => by
    have := run_copy_rowN (P := Tryd.prog) (w.drew.setRow g c1.toArray) 22 22 ty 87 g (i * 3) (n + 1 - i) dc ⟨gv, 0, none⟩ 1 vc 3 c1.toArray 87 x E.file.under fileSize hg1
      (by rw [hx, show Nat.min 1 (n + 1 - i) = 1 by simp only [Nat.min_def]; split <;> omega])
      (fun j v hj => by rw [Addr.add_lit, Nat.zero_add]; exact (hv1.cell _).trans (by simpa using hj))
      (by rw [hx, List.size_toArray, hc1l]; omega) h1v
    rw [show Nat.min 1 (n + 1 - i) = 1 by simp only [Nat.min_def]; split <;> omega] at this
    exact this
  have HE : Sec (Go.splice (Go.splice cur (i * 3 + 3) ((cur.take (n * 3)).drop (i * 3))) (i * 3) x = Go.splice c1 (i * 3) x) := sec (by rw [hc1, show (i + 1) * 3 = i * 3 + 3 by omega])
  have HB : Sec (Blk ((w.drew.setRow g c1.toArray).setRow g (Go.splice c1 (i * 3) x).toArray) g 87 (Go.splice c1 (i * 3) x).toArray) := sec (hg1.of_setRow _)
  have HGW : Sec (w.grownBy ((w.drew.setRow g c1.toArray).setRow g (Go.splice c1 (i * 3) x).toArray) (some g)) := sec ⟨rfl, rfl, rfl, by simp [World.setRow], fun k hk hne => by
    rw [setRow_other _ g k _ (fun e => hne (by rw [e])), setRow_other _ g k _ (fun e => hne (by rw [e]))]; rfl⟩
  have hz2 : ¬ ((i : Int) = (n : Int)) := by omega
  have hw1 : IntKind.i64.wrap ((i : Int) + 1) = (i : Int) + 1 := by rw [IntKind.wrap_i64]; unfold maxLen at hcap; omega
  have htn : ((i : Int) + 1).toNat = i + 1 := by omega
  have hb1 : (0 : Int) ≤ (i : Int) + 1 := by omega
  have hb3 : (i : Int) ≤ (n : Int) := by omega
  have hb6 : (i : Int) ≤ (n : Int) + 1 := by omega
  have hb2 : ¬ (cap = i + 1) := by omega
  have hb4 : ¬ (cap = i) := by omega
  have hb5 : ¬ (cap < n + 1) := by omega
  have hm : cap ≤ 9223372036854775807 := by have := hcap; unfold maxLen at this; omega
  clear hc1 hc1l hg1 hv1 hdl hxs h1 h1v hg hv hs hcs
  go_enter Tryd.func96, Tryd.ntmps96
  go_wp2_with (simp only [hov])
  go_region_law (refine step_copy_run rfl _ _ 22 22 rfl _ _ (by simp [Act.eval, Act.put]) (by simp [Act.eval, Act.put]) (hcp1 _ _ _) ?_)
  go_wp2_with (at_builtin; refine wpList_copy_run _ rfl _ _ 22 22 rfl _ _ rfl rfl (hcp2 _ _) ?_)
  go_ret
  exact ⟨rfl, by rw [HE.out]; exact HB.out, HGW.out⟩

theorem wpList_append_runA (w : World) {P : Program} {ops : Array Oper} {rest : List Oper} {o : Oper} {a : Act} {Q : Exit → Act → World → Prop} (hgd : o.guard = none) (d s : Operand) (t t' : TypeId)
    (ho : o.op = .call { callee := .builtin .append, args := #[d, s], argTypes := #[t, t'] }) (v u : Value) (hd : a.eval d = v) (hs : a.eval s = u) {v' : Value} {w' : World}
    (hr : (Builtin.append_ #[t, t'] o.type #[v, u]).run P w = .ok v' w') (h : wpList P ops Q rest (a.put o.dst v') w') : wpList P ops Q (o :: rest) a w :=
  wpList_plain hgd fun _ hK => by
    unfold Oper.wp execOp
    simp only [ho, resolve, invoke, builtin, Sem.run_bind, Sem.run_pure, Result.andThen_ok, List.map_toArray, List.map_cons, List.map_nil, hd, hs, hr]
    exact hK _ _ h

set_option maxHeartbeats 4000000 in
set_option maxRecDepth 100000 in
/-- at the end -/
theorem ins_end (A : Option Addr) (n cap gv vc B : Nat) (xs x : List Value) (w : World) (hown : w.ownsRow B 87 3 (.slice A n cap) n xs) (hv : Blk w gv 87 x.toArray) (hx : x.length = 3) (h1v : ∀ v ∈ x, v.oneCell' = true) (hn : n ≤ 1099511627776) (hB : B ≤ w.heap.size) :
    Calls Tryd.prog 96 #[.slice A n cap, .int .i64 (n : Int), .slice (some ⟨gv, 0, none⟩) 1 vc] w fun e w' =>
      ∃ A' cap', e = .returned (.slice A' (n + 1) cap') ∧ w'.ownsRow B 87 3 (.slice A' (n + 1) cap') (n + 1) (xs ++ x) ∧ w.grownBy w' (Value.ownBlock (.slice A n cap)) := by
  have hb1 : (n + 1) * 48 ≤ 140737488355328 := by omega
  have hb2 : n + 1 ≤ maxLen := by unfold maxLen; omega
  have hrow : Row w 3 (some ⟨gv, 0, none⟩) 1 x := by have := Row.lit hv; simp [hx] at this; exact this
  have hnc : n ≤ cap := by
    rcases hown.2 with ⟨h, h0⟩ | ⟨_, _, _, h, _, _, h1, _⟩
    · omega
    · injection h with _ _ h; omega
  have HO := sec hown
  have HR := sec hrow
  have H1 := sec h1v
  clear hown hrow hv h1v
  cases A with
  | none =>
    have : n = 0 ∧ cap = 0 := by
      rcases HO.out.2 with ⟨h, h0⟩ | ⟨_, _, _, h, _⟩
      · injection h with _ _ h; exact ⟨h0, h⟩
      · injection h with h; cases h
    obtain ⟨rfl, rfl⟩ := this
    go_enter Tryd.func96, Tryd.ntmps96
    go_wp2_with (refine wpList_append_row E.file rfl (.tmp 23) (.tmp 24) rfl (B := B) (A0 := none) (n0 := 0) (cap0 := 0) (xs := xs) rfl HO.out rfl HR.out (by intro h; cases h) H1.out hb1 hb2 hB ?_; intro A' c' w' hown' hgn)
    go_ret
    exact ⟨A', c', rfl, hown', hgn⟩
  | some ad =>
    obtain ⟨g, hg⟩ : ∃ g, ad = ⟨g, 0, none⟩ := by
      rcases HO.out.2 with ⟨h, h0⟩ | ⟨g, _, _, h, _⟩
      · injection h with h; cases h
      · injection h with h; injection h with h; exact ⟨g, h⟩
    subst hg
    go_enter Tryd.func96, Tryd.ntmps96
    go_wp2_with (refine wpList_append_row E.file rfl (.tmp 23) (.tmp 24) rfl (B := B) (A0 := some ⟨g, 0, none⟩) (n0 := n) (cap0 := cap) (xs := xs) rfl HO.out rfl HR.out (by intro h; cases h) H1.out hb1 hb2 hB ?_; intro A' c' w' hown' hgn)
    all_goals
      go_ret
      exact ⟨A', c', rfl, hown', hgn⟩

set_option maxHeartbeats 4000000 in
set_option maxRecDepth 100000 in
/-- there is no room, i < n: a new row -/
theorem ins_grown (g cap n i gv vc : Nat) (cur x : List Value) (w : World) (hi : i < n) (hroom : cap < n + 1) (hnc : n ≤ cap) (hn : n ≤ 1099511627776) (hg : Blk w g 87 cur.toArray) (hs : cur.length = cap * 3)
    (hv : Blk w gv 87 x.toArray) (hx : x.length = 3) (h1 : ∀ v ∈ cur.take (n * 3), v.oneCell' = true) (h1v : ∀ v ∈ x, v.oneCell' = true) :
    Calls Tryd.prog 96 #[.slice (some ⟨g, 0, none⟩) n cap, .int .i64 (i : Int), .slice (some ⟨gv, 0, none⟩) 1 vc] w fun e w' =>
      ∃ (G : Nat) (R : List Value), e = .returned (.slice (some ⟨w.heap.size, 0, none⟩) (n + 1) G) ∧ n + 1 ≤ G ∧ G ≤ maxLen ∧ R.length = G * 3 ∧ R.take (i * 3) = (cur.take (n * 3)).take (i * 3) ∧
        Blk w' w.heap.size 87 (Go.splice (Go.splice R (i * 3) x) (i * 3 + 3) ((cur.take (n * 3)).drop (i * 3))).toArray ∧ w.grownBy w' none := by
  have hcs : (cur.take (n * 3)).length = n * 3 := by rw [List.length_take]; omega
  obtain ⟨xs, hxs⟩ : ∃ xs, xs = cur.take (n * 3) := ⟨_, rfl⟩
  rw [← hxs] at hcs h1
  rw [← hxs]
  obtain ⟨i0, hi0, hz0, hz1, hz2⟩ := info_parts E.file.info
  obtain ⟨k, hk⟩ : ∃ k, k = n + 1 - i := ⟨_, rfl⟩
  have hik : i + k = n + 1 := by omega
  obtain ⟨G, hG⟩ : ∃ G, G = grownCap w (n + 1) cap 87 := ⟨_, rfl⟩
  have hG1 : n + 1 ≤ G := by rw [hG]; exact grownCap_ge _ _ _ _
  have hG2 : G ≤ maxLen := by rw [hG]; exact grownCap_le_maxLen _ _ _ _ (by unfold maxLen; omega)
  have hcell : ∀ j v, xs[j]? = some v → w.cell? ⟨g, j, none⟩ = some v := fun j v hj => by
    rw [hxs, List.getElem?_take] at hj
    split at hj
    · exact (hg.cell _).trans (by simpa using hj)
    · cases hj
  have hold : (Builtin.firstCells i0.size i (.slice (some ⟨g, 0, none⟩) i cap)).run Tryd.prog w.drew = .ok (xs.take (i * 3)).toArray w.drew := by
    rw [hz1]
    exact run_firstCells_some w.drew 3 i ⟨g, 0, none⟩ i cap (xs.take (i * 3)) (by rw [List.length_take]; omega) (fun j v hj => by
      rw [Addr.add_lit, Nat.zero_add]
      rw [List.getElem?_take] at hj
      split at hj
      · exact hcell j v hj
      · cases hj)
  obtain ⟨R, hR⟩ : ∃ R : List Value, R = ((xs.take (i * 3)).toArray ++ Builtin.zeroCells (Value.agg #[.string (bs []), .string (bs []), .string (bs [])]).cells k ++ Builtin.zeroCells (Value.agg #[.string (bs []), .string (bs []), .string (bs [])]).cells (G - (i + k))).toList := ⟨_, rfl⟩
  have hrun : ∀ ty, (Builtin.append_ #[22, 3] ty #[.slice (some ⟨g, 0, none⟩) i cap, .int .i64 (k : Int)]).run Tryd.prog w = .ok (.slice (some ⟨w.heap.size, 0, none⟩) (n + 1) G) (w.drew.alloc (.cells R.toArray 87)) := fun ty => by
    have := Lib.run_append_grow_zeros (P := Tryd.prog) w 22 3 ty 87 i0 _ .i64 .i64 E.file.under Tryd.underlying3 hi0 hz0 (some ⟨g, 0, none⟩) i cap (xs.take (i * 3)) hold k (by omega) (by omega) (by omega) (by omega) (by rw [hz2]; omega)
      (by rw [hz2]; exact growslice_fits (by omega) (by omega))
    rw [this, hik, ← hG, hR, hik, Array.toArray_toList]
  have hRl : R.length = G * 3 := by
    rw [hR]
    have hz3 : (Value.agg #[.string (bs []), .string (bs []), .string (bs [])]).cells.size = 3 := E.file.zcells
    rw [Array.length_toList, Array.size_append, Array.size_append, size_zeroCells, size_zeroCells, hz3, List.size_toArray, List.length_take, hcs, Nat.min_eq_left (by omega)]
    omega
  have hRt : R.take (i * 3) = xs.take (i * 3) := by
    rw [hR]
    simp only [Array.toList_append, List.append_assoc]
    rw [List.take_append_of_le_length (by rw [List.length_take, hcs]; omega), List.take_take, Nat.min_self]
  have hgl := hg.lt
  have hvl := hv.lt
  obtain ⟨W0, hW0⟩ : ∃ W0, W0 = w.drew.alloc (.cells R.toArray 87) := ⟨_, rfl⟩
  have hRB : Blk W0 w.heap.size 87 R.toArray := by rw [hW0]; exact Blk.new w.drew _ _
  have hg0 : Blk W0 g 87 cur.toArray := by rw [hW0]; exact hg.drew.alloc _
  have hv0 : Blk W0 gv 87 x.toArray := by rw [hW0]; exact hv.drew.alloc _
  have hgr0 : w.grownBy W0 none := by rw [hW0]; exact ⟨rfl, rfl, rfl, by simp, fun k hk _ => Below.heap_alloc w.drew _ k hk⟩
  rw [← hW0] at hrun
  obtain ⟨g2, hg2⟩ : ∃ g2, g2 = w.heap.size := ⟨_, rfl⟩
  rw [← hg2] at hrun hRB hgl hvl
  rw [← hg2]
  have hcp1 : ∀ ty dc, (Builtin.copy_ #[22, 22] ty #[.slice (some ⟨g2, i * 3, none⟩) (n + 1 - i) dc, .slice (some ⟨gv, 0, none⟩) 1 vc]).run Tryd.prog W0 = .ok (goInt 1) (W0.setRow g2 (Go.splice R (i * 3) x).toArray) := fun ty dc => by
    have := run_copy_rowN (P := Tryd.prog) W0 22 22 ty 87 g2 (i * 3) (n + 1 - i) dc ⟨gv, 0, none⟩ 1 vc 3 R.toArray 87 x E.file.under fileSize hRB
      (by rw [hx, show Nat.min 1 (n + 1 - i) = 1 by simp only [Nat.min_def]; split <;> omega])
      (fun j v hj => by rw [Addr.add_lit, Nat.zero_add]; exact (hv0.cell _).trans (by simpa using hj))
      (by rw [hx, List.size_toArray, hRl]; omega) h1v
    rw [show Nat.min 1 (n + 1 - i) = 1 by simp only [Nat.min_def]; split <;> omega] at this
    exact this
  obtain ⟨c1, hc1⟩ : ∃ c1, c1 = Go.splice R (i * 3) x := ⟨_, rfl⟩
  rw [← hc1] at hcp1
  have hc1l : c1.length = G * 3 := by rw [hc1, Go.length_splice _ _ _ (by rw [hx, hRl]; omega), hRl]
  obtain ⟨W1, hW1⟩ : ∃ W1, W1 = W0.setRow g2 c1.toArray := ⟨_, rfl⟩
  have hRB1 : Blk W1 g2 87 c1.toArray := by rw [hW1]; exact hRB.of_setRow _
  have hgg1 : Blk W1 g 87 cur.toArray := by rw [hW1]; exact hg0.only (grown_setRow W0 g2 _) (by omega)
  have hgr1 : w.grownBy W1 none := by
    rw [hW1]
    exact ⟨hgr0.os, hgr0.tape, hgr0.output, by simpa [World.setRow] using hgr0.size, fun k hk hne => by rw [setRow_other _ g2 k _ (by omega)]; exact hgr0.block k hk hne⟩
  rw [← hW1] at hcp1
  have hdl : (xs.drop (i * 3)).length = n * 3 - i * 3 := by rw [List.length_drop, hcs]
  have hcp2 : ∀ ty dc sc, (Builtin.copy_ #[22, 22] ty #[.slice (some ⟨g2, (i + 1) * 3, none⟩) (n - i) dc, .slice (some ⟨g, i * 3, none⟩) (n - i) sc]).run Tryd.prog W1.drew = .ok (goInt ((n - i : Nat) : Int)) (W1.drew.setRow g2 (Go.splice c1 ((i + 1) * 3) (xs.drop (i * 3))).toArray) := fun ty dc sc => by
    have := run_copy_rowN (P := Tryd.prog) W1.drew 22 22 ty 87 g2 ((i + 1) * 3) (n - i) dc ⟨g, i * 3, none⟩ (n - i) sc 3 c1.toArray 87 (xs.drop (i * 3)) E.file.under fileSize hRB1.drew
      (by rw [hdl, show Nat.min (n - i) (n - i) = n - i by simp only [Nat.min_def]; split <;> omega, Nat.sub_mul])
      (fun j v hj => by
        rw [Addr.add_lit]
        rw [List.getElem?_drop, hxs, List.getElem?_take] at hj
        split at hj
        · exact (hgg1.drew.cell _).trans (by simpa using hj)
        · cases hj)
      (by rw [hdl, List.size_toArray, hc1l]; omega) (fun v hv => h1 v (List.mem_of_mem_drop hv))
    rw [show Nat.min (n - i) (n - i) = n - i by simp only [Nat.min_def]; split <;> omega] at this
    exact this
  have HB : Sec (Blk (W1.drew.setRow g2 (Go.splice c1 ((i + 1) * 3) (xs.drop (i * 3))).toArray) g2 87 (Go.splice (Go.splice R (i * 3) x) (i * 3 + 3) (xs.drop (i * 3))).toArray) := sec (by
    rw [← hc1, show i * 3 + 3 = (i + 1) * 3 by omega]; exact hRB1.drew.of_setRow _)
  have HGW : Sec (w.grownBy (W1.drew.setRow g2 (Go.splice c1 ((i + 1) * 3) (xs.drop (i * 3))).toArray) none) := sec
    ⟨hgr1.os, hgr1.tape, hgr1.output, by simpa [World.setRow] using hgr1.size, fun k hk hne => by rw [setRow_other _ g2 k _ (by omega)]; exact hgr1.block k hk hne⟩
  have HRL := sec hRl
  have HRT := sec hRt
  have hkk : (n : Int) + 1 - (i : Int) = (k : Int) := by omega
  have hz2' : ¬ ((i : Int) = (n : Int)) := by omega
  have hw1 : IntKind.i64.wrap ((i : Int) + 1) = (i : Int) + 1 := by rw [IntKind.wrap_i64]; omega
  have htn : ((i : Int) + 1).toNat = i + 1 := by omega
  have hb1 : (0 : Int) ≤ (i : Int) + 1 := by omega
  have hb3 : (i : Int) ≤ (n : Int) := by omega
  have hb6 : (i : Int) ≤ (n : Int) + 1 := by omega
  have hb2 : ¬ (G = i + 1) := by omega
  have hb4 : ¬ (G = i) := by omega
  have hb5 : ¬ (cap = i) := by omega
  clear hc1 hc1l hRB1 hgg1 hgr1 hdl hxs h1 h1v hg hv hs hcs hRB hg0 hv0 hgr0 hRt hRl hW1 hW0 hR hold hcell hG hz0 hz1 hz2 hi0 hgl hvl hg2 hk hik
  go_enter Tryd.func96, Tryd.ntmps96
  go_wp2_with (first | (at_builtin; refine wpList_append_runA _ rfl (.tmp 34) (.tmp 39) 22 3 rfl _ _ rfl rfl (hrun _) ?_) | (at_builtin; refine wpList_copy_run _ rfl (.tmp 43) (.tmp 44) 22 22 rfl _ _ rfl rfl (hcp1 _ _) ?_))
  go_region_law (refine step_copy_run rfl _ _ 22 22 rfl _ _ (by simp [Act.eval, Act.put]) (by simp [Act.eval, Act.put]) (hcp2 _ _ _) ?_)
  go_wp2_with fail
  go_ret
  exact ⟨G, R, rfl, hG1, hG2, HRL.out, HRT.out, HB.out, HGW.out⟩
end Go.Proofs.YtbhpglhmnpcnkaaDoor

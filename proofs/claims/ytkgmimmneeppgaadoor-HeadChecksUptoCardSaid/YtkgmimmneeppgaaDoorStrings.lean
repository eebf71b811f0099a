/-
  cartularylaw.strings: a copy of a slice of strings, by its contract.
-/
import Derived.Test.YtkgmimmneeppgaaDoorElems
import Derived.Laws.AppendOwnNone
namespace Go.Proofs.YtkgmimmneeppgaaDoor
open Go.RowKit
set_option linter.unusedVariables false
theorem strV_oneCell {ss : List (List UInt8)} : ∀ u ∈ ss.map strV, u.oneCell' = true := by
  intro u hu
  obtain ⟨c, _, rfl⟩ := List.mem_map.1 hu
  rfl
set_option maxRecDepth 100000 in
set_option maxHeartbeats 1000000 in
theorem strings_any (ss : List (List UInt8)) (m : Nat) (A : Option Addr) (cap : Nat) (w : World) (hm : m ≤ 1099511627776) (hrow : StrRow w A m ss) (hA : A = none → m = 0 ∧ cap = 0) :
    Calls Tryd.prog 37 #[.slice A m cap] w fun e w' => ∃ A' cap', e = .returned (.slice A' m cap') ∧ w'.ownsRow w.heap.size 9 1 (.slice A' m cap') m (ss.map strV) ∧ Gr w w' := by
  obtain ⟨i0, hi0, hz0, hz1, hz2⟩ := info_parts E.str.info
  have hlen := hrow.len
  cases A with
  | none =>
    obtain ⟨rfl, rfl⟩ := hA rfl
    obtain rfl : ss = [] := List.eq_nil_of_length_eq_zero hlen
    go_enter Tryd.func37, Tryd.ntmps37
    go_wp2_with (refine wpList_append_own_none rfl (.const (.slice none 0 0)) (.tmp 3) 22 rfl w.heap.size 9 i0 1 E.str.under hi0 _ 0 [] rfl (World.ownsRow_nil _ _ _ _) rfl ?_)
    go_ret
    exact ⟨none, 0, rfl, World.ownsRow_nil _ _ _ _, Gr.refl _⟩
  | some ad =>
    have hnews : ∀ j u, (ss.map strV)[j]? = some u → w.cell? (ad.add j) = some u := by
      intro j u hu
      have hj : j < ss.length := by have := (List.getElem?_eq_some_iff.1 hu).1; simpa using this
      obtain ⟨b, off, e, hc⟩ := Row.at_ hrow (by omega)
      injection e with e
      subst e
      have : (⟨b, off, none⟩ : Addr).add j = ⟨b, off + j, none⟩ := by unfold Addr.add; split <;> simp_all
      rw [this]
      exact hc j u hu
    have HN := sec hnews
    have HL := sec hlen
    clear hnews hrow
    go_enter Tryd.func37, Tryd.ntmps37
    go_wp2_with (refine wpList_append_own _ rfl (.const (.slice none 0 0)) (.tmp 3) 22 rfl w.heap.size 9 i0 (.string (bs [])) 1 16 E.str.under hi0 hz0 hz1 hz2 E.str.zcells (by omega) _ 0 [] rfl (World.ownsRow_nil _ _ _ _) ad m cap (ss.map strV) rfl (by rw [List.length_map, HL.out, Nat.mul_one]) HN.out strV_oneCell (by unfold maxLen; omega) (by omega) (Nat.le_refl _) ?_; intro v' w' hown hgr hnil)
    go_ret
    rw [Nat.zero_add, List.nil_append] at hown
    have hg : Gr w w' := (Gr.refl w).grown hgr (by rintro k hk; cases hk)
    rcases hown.2 with ⟨rfl, h0⟩ | ⟨g, cap', cur, rfl, _⟩
    · subst h0
      exact ⟨none, 0, rfl, hown, hg⟩
    · exact ⟨some ⟨g, 0, none⟩, cap', rfl, hown, hg⟩
end Go.Proofs.YtkgmimmneeppgaaDoor

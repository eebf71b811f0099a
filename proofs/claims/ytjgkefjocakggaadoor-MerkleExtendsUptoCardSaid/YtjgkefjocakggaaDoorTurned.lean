/-
  cartularyref.turned by its contract; merkle.Path, proof, Proof by their contracts.
-/
import Derived.Test.YtjgkefjocakggaaDoorMerkR
import Derived.Test.YtjgkefjocakggaaDoorMerkRL
import Derived.Test.YtjgkefjocakggaaDoorLies
import Derived.Test.YtjgkefjocakggaaDoorStrings
namespace Go.Proofs.YtjgkefjocakggaaDoor
open Go.RowKit
set_option linter.unusedVariables false

set_option maxRecDepth 100000 in
set_option maxHeartbeats 1000000 in
theorem turned_any (ss : List (List UInt8)) (m : Nat) (A : Option Addr) (cap : Nat) (w : World) (hm : m ≤ 1099511627776) (hrow : StrRow w A m ss) :
    Calls Tryd.prog 41 #[.slice A m cap] w fun e w' => ∃ A' cap', e = .returned (.slice A' m cap') ∧ w'.ownsRow w.heap.size 9 1 (.slice A' m cap') m (ss.reverse.map strV) ∧ Gr w w' := by
  have hlen := hrow.len
  have HROW := sec hrow
  clear hrow
  go_enter Tryd.func41, Tryd.ntmps41
  go_wp2_with fail
  go_loopw [3, 4] (fun v iv wr => ∃ (j n : Nat) (I : Int) (A' : Option Addr) (cap' : Nat), iv = .int .i64 I ∧ I = (j : Int) - 1 ∧ j ≤ m ∧ Sec (n + j = m) ∧ v = .slice A' n cap' ∧ n ≤ m ∧ wr.ownsRow w.heap.size 9 1 (.slice A' n cap') n ((ss.drop j).reverse.map strV) ∧ Gr w wr)
    (fun _ iv _ => (intOf iv + 1).toNat)
  case atStart => exact ⟨m, 0, (m : Int) - 1, none, 0, rfl, rfl, by omega, sec (by omega), rfl, by omega, by rw [List.drop_eq_nil_of_le (by omega)]; exact World.ownsRow_nil _ _ _ _, Gr.refl _⟩
  case round =>
    obtain ⟨j, n, I, A', cap', rfl, hI, hj, HN, rfl, hn, hown, hg⟩ := hrel
    cases j with
    | zero =>
      obtain rfl : I = -1 := by omega
      obtain rfl : n = m := by have := HN.out; omega
      clear hI
      go_wp2_with fail
      go_ret
      exact ⟨A', cap', rfl, by rw [List.drop_zero] at hown; exact hown, hg⟩
    | succ j =>
      obtain rfl : I = (j : Int) := by omega
      have hjp : j < ss.length := by omega
      obtain ⟨b, off, rfl, hc⟩ := (HROW.out.gr hg).cell hjp
      have hjm : (j : Int) < (m : Int) := by omega
      have h0j : 0 ≤ (j : Int) := by omega
      have hdrop : (ss.drop j).reverse.map strV = (ss.drop (j + 1)).reverse.map strV ++ [strV ss[j]] := by
        rw [List.drop_eq_getElem_cons hjp, List.reverse_cons, List.map_append]; rfl
      obtain ⟨p, hp⟩ : ∃ p, p = ss[j] := ⟨_, rfl⟩
      rw [← hp] at hc hdrop
      have HD := sec hdrop
      have hb2 : n + 1 ≤ maxLen := by unfold maxLen; omega
      clear hp hjp hdrop hI
      go_wp2_with (refine wpList_append_new E.str rfl (.tmp 12) (.tmp 17) rfl rfl hown rfl rfl (by simp [Value.oneCell']) (by omega) (by omega) hb2 hg ?_; intro g' cap2 w' hown' hg')
      go_roundw
      case rel =>
        refine ⟨j, n + 1, (j : Int) - 1, some ⟨g', 0, none⟩, cap2, by go_num, rfl, by omega, sec (by have := HN.out; omega), rfl, by have := HN.out; omega, ?_, hg'⟩
        rw [HD.out]; exact hown'
      case measure => simp [intOf]
end Go.Proofs.YtjgkefjocakggaaDoor

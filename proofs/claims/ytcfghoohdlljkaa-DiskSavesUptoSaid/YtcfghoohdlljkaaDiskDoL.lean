/-
  Facts for ref.Do: parts of rows, the end of a step.
-/
import Derived.Test.YtcfghoohdlljkaaDiskPutL
namespace Go.Proofs.Ytcfghoohdlljkaa
open Go.RowKit
set_option linter.unusedVariables false

theorem FRow.take {w : World} {A : Option Addr} {n : Nat} {fs : List Fl} (h : FRow w A n fs) (k : Nat) (hk : k ≤ n) : FRow w A k (fs.take k) := by
  have hl := h.len
  refine ⟨by rw [flat_len fileC 3 (fun _ => rfl), List.length_take]; omega, fun h0 => ?_⟩
  obtain ⟨b, off, e, hc⟩ := Row.at_ h (by omega)
  refine ⟨b, off, e, fun i v hv => hc i v ?_⟩
  rw [← flat_take, List.getElem?_take] at hv
  split at hv
  · exact hv
  · cases hv
theorem FRow.drop {w : World} {b off n : Nat} {fs : List Fl} (h : FRow w (some ⟨b, off, none⟩) n fs) (k : Nat) (hk : k ≤ n) : FRow w (some ⟨b, off + k * 3, none⟩) (n - k) (fs.drop k) := by
  have hl := h.len
  refine ⟨by rw [flat_len fileC 3 (fun _ => rfl), List.length_drop]; omega, fun h0 => ?_⟩
  obtain ⟨b', off', e, hc⟩ := Row.at_ h (by omega)
  injection e with e
  injection e with e1 e2
  subst e1 e2
  refine ⟨b, off + k * 3, rfl, fun i v hv => ?_⟩
  rw [← flat_drop, List.getElem?_drop] at hv
  rw [Nat.add_assoc]
  exact hc _ v hv
theorem FRow.none {w : World} {A : Option Addr} {fs : List Fl} (n : Nat) (h : fs.length ≤ n) : FRow w A 0 (fs.drop n) := by
  rw [List.drop_eq_nil_of_le h]
  exact Row.nil w 3 A
theorem insF_set (i : Nat) (f g : Fl) (fs : List Fl) (h : i ≤ fs.length) : (insF i f fs).set i g = insF i g fs := by
  unfold insF
  rw [List.set_append_right _ _ (by simp; omega)]
  simp [Nat.min_eq_left h]
theorem erase_flat (fs : List Fl) (k : Nat) : (fs.take k).flatMap fileC ++ (fs.drop (k + 1)).flatMap fileC = (fs.eraseIdx k).flatMap fileC := by
  rw [List.eraseIdx_eq_take_drop_succ, List.flatMap_append]
theorem do_end {w w6 : World} {B q p n' c' : Nat} {A' : Option Addr} {R : List Fl} {cs : Array Value} (hg : Gr w w6) (hwp : w.heap.size ≤ p + 1) (hwq : w.heap.size ≤ q) (hb : Blk w6 (p + 1) 37 #[.slice none 0 0, .int .i64 0]) (hq : Blk w6 q 37 cs) (hpq : p + 1 ≠ q)
    (ho : w6.ownsRow B 70 3 (.slice A' n' c') n' (R.flatMap fileC)) (hB : w.heap.size ≤ B) (u : Int) (v : Value) :
    Blk (((w6.setCell ⟨q, 0, none⟩ v).setCell ⟨p + 1, 0, none⟩ (.slice A' n' c')).setCell ⟨p + 1, 1, none⟩ (.int .i64 u)) (p + 1) 37 #[.slice A' n' c', .int .i64 u] ∧
    Gr w (((w6.setCell ⟨q, 0, none⟩ v).setCell ⟨p + 1, 0, none⟩ (.slice A' n' c')).setCell ⟨p + 1, 1, none⟩ (.int .i64 u)) ∧
    (((w6.setCell ⟨q, 0, none⟩ v).setCell ⟨p + 1, 0, none⟩ (.slice A' n' c')).setCell ⟨p + 1, 1, none⟩ (.int .i64 u)).ownsRow w.heap.size 70 3 (.slice A' n' c') n' (R.flatMap fileC) ∧ (A' = none → n' = 0 ∧ c' = 0) := by
  have h1 := own_blk_ne ho hb (by decide)
  have h2 := own_blk_ne ho hq (by decide)
  exact ⟨((hb.far (p := ⟨q, 0, none⟩) hpq v).set_ 0 _).set_ 1 _, ((hg.setCell (p := ⟨q, 0, none⟩) hwq v).setCell (p := ⟨p + 1, 0, none⟩) hwp _).setCell (p := ⟨p + 1, 1, none⟩) hwp _,
    own_low (ownsRow_setCell_other (ownsRow_setCell_other (ownsRow_setCell_other ho (a := ⟨q, 0, none⟩) h2 _) (a := ⟨p + 1, 0, none⟩) h1 _) (a := ⟨p + 1, 1, none⟩) h1 _) hB, own_none ho⟩
end Go.Proofs.Ytcfghoohdlljkaa

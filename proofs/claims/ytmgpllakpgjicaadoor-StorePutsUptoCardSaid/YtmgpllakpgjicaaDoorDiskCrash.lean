/-
  disk.Crash, ref.Crash by their contracts.
-/
import Derived.Test.YtmgpllakpgjicaaDoorDiskRead
import Derived.Test.YtmgpllakpgjicaaDoorHeadStill
import Derived.StillTailTactics
namespace Go.Proofs.YtmgpllakpgjicaaDoor
open Go.RowKit
set_option linter.unusedVariables false
/-- P6.7: the files, the fuse, the error -/
def crashR (fs : List Fl) (f keep : Int) : List Fl × Int × Int :=
  if goodFs fs = true ∧ 0 ≤ keep then (fs.map (crashF keep.toNat), -1, 0) else (fs, f, 3)
def crashTo (K i : Nat) (fs : List Fl) : List Fl := (fs.take i).map (crashF K) ++ fs.drop i
theorem crashTo_zero (K : Nat) (fs : List Fl) : crashTo K 0 fs = fs := by simp [crashTo]
theorem crashTo_all (K : Nat) (fs : List Fl) : crashTo K fs.length fs = fs.map (crashF K) := by simp [crashTo]
theorem crashTo_len (K i : Nat) (fs : List Fl) : (crashTo K i fs).length = fs.length := by simp [crashTo]; omega
theorem crashTo_get (K i : Nat) (fs : List Fl) (h : i < fs.length) : (crashTo K i fs)[i]'(by rw [crashTo_len]; exact h) = fs[i] := by
  unfold crashTo
  rw [List.getElem_append_right (by rw [List.length_map, List.length_take]; exact Nat.min_le_left _ _)]
  rw [List.getElem_drop]
  congr 1
  rw [List.length_map, List.length_take]
  omega
theorem crashTo_succ (K i : Nat) (fs : List Fl) (h : i < fs.length) : crashTo K (i + 1) fs = (crashTo K i fs).set i (crashF K fs[i]) := by
  unfold crashTo
  rw [List.set_append_right _ _ (by rw [List.length_map, List.length_take]; exact Nat.min_le_left _ _)]
  rw [List.take_succ_eq_append_getElem h, List.map_append, List.drop_eq_getElem_cons h]
  rw [List.length_map, List.length_take, Nat.min_eq_left (Nat.le_of_lt h), Nat.sub_self, List.set_cons_zero, List.append_assoc]
  rfl

theorem own_low {w : World} {B B' e size n : Nat} {v : Value} {xs : List Value} (h : w.ownsRow B e size v n xs) (hle : B' ≤ B) : w.ownsRow B' e size v n xs := by
  refine ⟨h.1, ?_⟩
  rcases h.2 with h0 | ⟨g, cap, cur, hv, hB, r⟩
  · exact .inl h0
  · exact .inr ⟨g, cap, cur, hv, Nat.le_trans hle hB, r⟩
theorem own_set {w : World} {B e size n cap g : Nat} {xs : List Value} (h : w.ownsRow B e size (.slice (some ⟨g, 0, none⟩) n cap) n xs) (j : Nat) (hj : j < xs.length) (u : Value) :
    (w.setCell ⟨g, j, none⟩ u).ownsRow B e size (.slice (some ⟨g, 0, none⟩) n cap) n (xs.set j u) := by
  have hl := h.1
  refine ⟨by rw [List.length_set]; exact hl, ?_⟩
  rcases h.2 with ⟨h0, _⟩ | ⟨g', cap', cur, hv, hB, hh, hle, hm, hs, ht⟩
  · cases h0
  · injection hv with hv hv2 hv3
    injection hv with hv
    injection hv with hv _ _
    subst hv hv3
    refine .inr ⟨g, cap, cur.setIfInBounds j u, rfl, hB, ?_, hle, hm, by rw [Array.size_setIfInBounds]; exact hs, ?_⟩
    · have : Blk w g e cur := hh
      exact this.set_ j u
    · rw [Array.toList_setIfInBounds, List.take_set, ht]
theorem flat_set (fs : List Fl) : ∀ (i : Nat) (h : i < fs.length) (j : Nat) (u : Value) (f' : Fl), j < 3 → fileC f' = (fileC fs[i]).set j u → (fs.flatMap fileC).set (i * 3 + j) u = (fs.set i f').flatMap fileC := by
  induction fs with
  | nil => intro i h; simp at h
  | cons f r ih =>
    intro i h j u f' hj he
    cases i with
    | zero =>
      simp only [List.getElem_cons_zero] at he
      rw [List.flatMap_cons, List.set_append_left _ _ (by simp [fileC]; omega), Nat.zero_mul, Nat.zero_add, ← he]
      rfl
    | succ i =>
      simp only [List.getElem_cons_succ] at he
      have := ih i (by simpa using h) j u f' hj he
      rw [List.flatMap_cons, List.set_append_right _ _ (by simp [fileC]; omega), List.set_cons_succ, List.flatMap_cons, ← this]
      congr 2
      simp [fileC]; omega

theorem own_file2 {w : World} {B e n cap g : Nat} {fs : List Fl} (h : w.ownsRow B e 3 (.slice (some ⟨g, 0, none⟩) n cap) n (fs.flatMap fileC)) (i : Nat) (nm sf tl s t : List UInt8) (hi : fs[i]? = some (nm, sf, tl)) :
    ((w.setCell ⟨g, i * 3 + 1, none⟩ (.string (bs s))).setCell ⟨g, i * 3 + 2, none⟩ (.string (bs t))).ownsRow B e 3 (.slice (some ⟨g, 0, none⟩) n cap) n ((fs.set i (nm, s, t)).flatMap fileC) := by
  obtain ⟨hl, hg⟩ := List.getElem?_eq_some_iff.1 hi
  have hfl : (fs.flatMap fileC).length = fs.length * 3 := flat_len fileC 3 (fun _ => rfl) fs
  have o1 := own_set h (i * 3 + 1) (by rw [hfl]; omega) (.string (bs s))
  rw [flat_set fs i hl 1 (.string (bs s)) (nm, s, tl) (by omega) (by rw [hg]; rfl)] at o1
  have hfl2 : ((fs.set i (nm, s, tl)).flatMap fileC).length = fs.length * 3 := by rw [flat_len fileC 3 (fun _ => rfl), List.length_set]
  have o2 := own_set o1 (i * 3 + 2) (by rw [hfl2]; omega) (.string (bs t))
  rw [flat_set (fs.set i (nm, s, tl)) i (by rw [List.length_set]; exact hl) 2 (.string (bs t)) (nm, s, t) (by omega) (by rw [List.getElem_set_self]; rfl), List.set_set] at o2
  exact o2

end Go.Proofs.YtmgpllakpgjicaaDoor

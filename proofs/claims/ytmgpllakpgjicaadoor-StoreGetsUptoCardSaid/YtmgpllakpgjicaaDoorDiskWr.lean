/-
  disk.Write's closure by its contract.
-/
import Derived.Test.YtmgpllakpgjicaaDoorDiskStep
namespace Go.Proofs.YtmgpllakpgjicaaDoor
open Go.RowKit
set_option linter.unusedVariables false
theorem DOwn.len {w : World} {B q n cap : Nat} {A : Option Addr} {u : Int} {fs : List Fl} (h : DOwn w B q A n cap u fs) : fs.length = n := FRow.len (Row.own h.own)
theorem DOwn.at {w : World} {B q n cap : Nat} {A : Option Addr} {u : Int} {fs : List Fl} (h : DOwn w B q A n cap u fs) {k : Nat} (hk : k < fs.length) :
    ∃ b, A = some ⟨b, 0, none⟩ ∧ B ≤ b ∧ b ≠ q ∧ w.cell? ⟨b, k * 3, none⟩ = some (.string (bs fs[k].1)) ∧ w.cell? ⟨b, k * 3 + 1, none⟩ = some (.string (bs fs[k].2.1)) ∧ w.cell? ⟨b, k * 3 + 2, none⟩ = some (.string (bs fs[k].2.2)) ∧
      (∀ j, j < 3 → w.frozen? ⟨b, k * 3 + j, none⟩ = false) := by
  have hl := h.len
  have hne := h.ne
  obtain ⟨b, off, e, h0, h1, h2⟩ := FRow.cell (Row.own h.own) hk
  rcases h.own.2 with ⟨_, h0⟩ | ⟨g, c, cur, ev, hB, hh, hle, hm, hs, ht⟩
  · omega
  · injection ev with e1 e2 e3
    rw [e1] at e
    injection e with e
    injection e with e4 e5
    subst e4 e5
    simp only [Nat.zero_add] at h0 h1 h2
    have hb : Blk w g 89 cur := hh
    exact ⟨g, e1, hB, fun e => hne (by rw [e1]; simp [Value.ownBlock, e]), h0, h1, h2, fun j hj => hb.frozen _⟩
theorem own_one {w : World} {B e n cap g : Nat} {fs : List Fl} (h : w.ownsRow B e 3 (.slice (some ⟨g, 0, none⟩) n cap) n (fs.flatMap fileC)) (i : Nat) (nm sf tl t : List UInt8) (hi : fs[i]? = some (nm, sf, tl)) :
    (w.setCell ⟨g, i * 3 + 2, none⟩ (.string (bs t))).ownsRow B e 3 (.slice (some ⟨g, 0, none⟩) n cap) n ((fs.set i (nm, sf, t)).flatMap fileC) := by
  obtain ⟨hl, hg⟩ := List.getElem?_eq_some_iff.1 hi
  have hfl : (fs.flatMap fileC).length = fs.length * 3 := flat_len fileC 3 (fun _ => rfl) fs
  have o1 := own_set h (i * 3 + 2) (by rw [hfl]; omega) (.string (bs t))
  rw [flat_set fs i hl 2 (.string (bs t)) (nm, sf, t) (by omega) (by rw [hg]; rfl)] at o1
  exact o1
theorem DOwn.tail {w : World} {B q n cap b : Nat} {u : Int} {fs : List Fl} (h : DOwn w B q (some ⟨b, 0, none⟩) n cap u fs) (i : Nat) (nm sf tl t : List UInt8) (hi : fs[i]? = some (nm, sf, tl)) (hb : b ≠ q) :
    DOwn (w.setCell ⟨b, i * 3 + 2, none⟩ (.string (bs t))) B q (some ⟨b, 0, none⟩) n cap u (fs.set i (nm, sf, t)) :=
  ⟨h.blk.far (p := ⟨b, i * 3 + 2, none⟩) (Ne.symm hb) _, own_one h.own i nm sf tl t hi, h.base⟩
/-- Insert of a file behind a literal slice, and the slice stored -/
theorem DOwn.ins {w w3 : World} {B q n cap cap' i : Nat} {A A' : Option Addr} {u : Int} {fs : List Fl} {f : Fl} {o : Obj} (h : DOwn w B q A n cap u fs) (ho : w3.ownsRow B 89 3 (.slice A' (n + 1) cap') (n + 1) ((insF i f fs).flatMap fileC))
    (hgr : (w.alloc o).drew.grownBy w3 (Value.ownBlock (.slice A n cap))) :
    Blk w3 q 43 #[.slice A n cap, .int .i64 u] ∧ DOwn (w3.setCell ⟨q, 0, none⟩ (.slice A' (n + 1) cap')) B q A' (n + 1) cap' u (insF i f fs) ∧ (∀ wc, wc.heap.size = B → Gr wc w → Gr wc (w3.setCell ⟨q, 0, none⟩ (.slice A' (n + 1) cap'))) := by
  have hb : Blk w3 q 43 #[.slice A n cap, .int .i64 u] := ((h.blk.alloc o).gr (Gr.refl _).drew).grown hgr (Ne.symm h.ne)
  refine ⟨hb, ⟨hb.set_ 0 _, ownsRow_setCell_other ho (a := ⟨q, 0, none⟩) (own_blk_ne ho hb (by decide)) _, h.base⟩, fun wc hB hg => ?_⟩
  subst hB
  exact (Gr.grown (hg.alloc o).drew hgr (fun k hk => (h.own.lt k hk).1)).setCell (p := ⟨q, 0, none⟩) h.base _

def wrPre (name : List UInt8) (fs : List Fl) : List Fl := if hasF name fs then fs else insF (lbF name fs) (name, [], []) fs
/-- P6.2 within the power -/
def wrF (name s : List UInt8) (fs : List Fl) : List Fl × Int :=
  if namedB name then
    if hasF name fs = false ∧ 400 ≤ fs.length then (fs, 6)
    else
      if ((wrPre name fs).getD (lbF name fs) ([], [], [])).2.1.length + ((wrPre name fs).getD (lbF name fs) ([], [], [])).2.2.length + s.length ≤ 1048576 then
        ((wrPre name fs).set (lbF name fs) (((wrPre name fs).getD (lbF name fs) ([], [], [])).1, ((wrPre name fs).getD (lbF name fs) ([], [], [])).2.1, ((wrPre name fs).getD (lbF name fs) ([], [], [])).2.2 ++ s), 0)
      else (fs, 1)
  else (fs, 2)
theorem insF_len (i : Nat) (f : Fl) (fs : List Fl) (h : i ≤ fs.length) : (insF i f fs).length = fs.length + 1 := by unfold insF; simp; omega
theorem insF_get (i : Nat) (f : Fl) (fs : List Fl) (h : i ≤ fs.length) : (insF i f fs)[i]? = some f := by
  unfold insF
  rw [List.getElem?_append_right (by simp; omega)]
  simp [Nat.min_eq_left h]
theorem wrPre_at (name : List UInt8) (fs : List Fl) (hg : goodFs fs = true) : ∃ (h : lbF name fs < (wrPre name fs).length), (wrPre name fs)[lbF name fs].1 = name ∧ (wrPre name fs)[lbF name fs].2.1.length + (wrPre name fs)[lbF name fs].2.2.length ≤ 1048576 := by
  unfold wrPre
  cases hh : hasF name fs with
  | true =>
    obtain ⟨h1, h2⟩ := hasF_lt (goodFs_sorted hg) hh
    exact ⟨h1, h2, (goodFs_ok hg _ (List.getElem_mem h1)).2.2⟩
  | false =>
    have h1 := insF_get (lbF name fs) (name, [], []) fs (lbF_le name fs)
    obtain ⟨h2, h3⟩ := List.getElem?_eq_some_iff.1 h1
    refine ⟨h2, ?_⟩
    simp only [Bool.false_eq_true, if_false]
    rw [h3]
    exact ⟨rfl, by simp⟩
end Go.Proofs.YtmgpllakpgjicaaDoor

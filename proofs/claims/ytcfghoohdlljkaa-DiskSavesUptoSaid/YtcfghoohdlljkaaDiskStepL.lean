/-
  Sizes of the steps' results.
-/
import Derived.Test.YtcfghoohdlljkaaDiskDoL
import Derived.Test.YtcfghoohdlljkaaDiskSync
import Derived.Test.YtcfghoohdlljkaaDisks
import Derived.Test.YtcfghoohdlljkaaOpenDk
import Derived.Test.YtcfghoohdlljkaaPick
namespace Go.Proofs.Ytcfghoohdlljkaa
open Go.RowKit
set_option linter.unusedVariables false

theorem insF_len' (i : Nat) (f : Fl) (fs : List Fl) : (insF i f fs).length ≤ fs.length + 1 := by unfold insF; simp; omega
theorem wrF_len (name s : List UInt8) (fs : List Fl) : (wrF name s fs).1.length ≤ fs.length + 1 := by
  have h1 : (wrPre name fs).length ≤ fs.length + 1 := by
    unfold wrPre
    split
    · omega
    · exact insF_len' _ _ _
  unfold wrF
  split
  · split
    · simp
    · split
      · simpa using h1
      · simp
  · simp
theorem syF_len (name : List UInt8) (fs : List Fl) : (syF name fs).1.length ≤ fs.length + 1 := by
  unfold syF
  split <;> simp
theorem rmF_len (name : List UInt8) (fs : List Fl) : (rmF name fs).1.length ≤ fs.length + 1 := by
  unfold rmF
  split
  · have := (List.eraseIdx_sublist fs (lbF name fs)).length_le
    simp only
    omega
  · simp
theorem rnF_len (frm dst : List UInt8) (fs : List Fl) : (rnF frm dst fs).1.length ≤ fs.length + 1 := by
  unfold rnF
  split
  · split
    · have h1 := (List.eraseIdx_sublist fs (lbF frm fs)).length_le
      simp only
      unfold rnTo
      split
      · simp only [List.length_set]; omega
      · have := insF_len' (lbF dst (fs.eraseIdx (lbF frm fs))) (dst, (fs.getD (lbF frm fs) ([], [], [])).2) (fs.eraseIdx (lbF frm fs))
        omega
    · simp
  · simp
theorem stepR_len (F : List Fl → List Fl × Int) (h : ∀ fs, (F fs).1.length ≤ fs.length + 1) (fs : List Fl) (f : Int) : (stepR F fs f).1.length ≤ fs.length + 1 := by
  unfold stepR
  split
  · split
    · simp
    · split
      · exact h fs
      · simp
  · simp
theorem steps_mid {wa w1 w2 w4 : World} {A1 A2 : Option Addr} {n n2 cap1 cap2 : Nat} {f u : Int} {gs fs : List Fl} (g1 : Gr wa w1) (ho : w2.ownsRow (w1.alloc (.cells #[.slice none 0 0, .int .i64 0] 37)).heap.size 70 3 (.slice A1 n cap1) n (fs.flatMap fileC)) (g2 : Gr (w1.alloc (.cells #[.slice none 0 0, .int .i64 0] 37)) w2) (g3 : Gr (w2.alloc (.cells #[.slice A1 n cap1, .int .i64 f] 37)) w4)
    (hrow : (A2 = A1 ∧ n2 = n ∧ cap2 = cap1 ∧ gs = fs) ∨ w4.ownsRow (w2.alloc (.cells #[.slice A1 n cap1, .int .i64 f] 37)).heap.size 70 3 (.slice A2 n2 cap2) n2 (gs.flatMap fileC)) :
    Blk w4 w1.heap.size 37 #[.slice none 0 0, .int .i64 0] ∧ Gr wa ((w4.setCell ⟨w1.heap.size, 0, none⟩ (.slice A2 n2 cap2)).setCell ⟨w1.heap.size, 1, none⟩ (.int .i64 u)) ∧ FRow ((w4.setCell ⟨w1.heap.size, 0, none⟩ (.slice A2 n2 cap2)).setCell ⟨w1.heap.size, 1, none⟩ (.int .i64 u)) A1 n fs ∧ FRow ((w4.setCell ⟨w1.heap.size, 0, none⟩ (.slice A2 n2 cap2)).setCell ⟨w1.heap.size, 1, none⟩ (.int .i64 u)) A2 n2 gs ∧
      Blk ((w4.setCell ⟨w1.heap.size, 0, none⟩ (.slice A2 n2 cap2)).setCell ⟨w1.heap.size, 1, none⟩ (.int .i64 u)) w1.heap.size 37 #[.slice A2 n2 cap2, .int .i64 u] ∧ Blk ((w4.setCell ⟨w1.heap.size, 0, none⟩ (.slice A2 n2 cap2)).setCell ⟨w1.heap.size, 1, none⟩ (.int .i64 u)) w2.heap.size 37 #[.slice A1 n cap1, .int .i64 f] := by
  have hz : (w1.alloc (.cells #[.slice none 0 0, .int .i64 0] 37)).heap.size = w1.heap.size + 1 := by simp
  have hg14 : Gr (w1.alloc (.cells #[.slice none 0 0, .int .i64 0] 37)) w4 := (g2.alloc _).trans g3
  have hpa := (Blk.new w1 37 #[.slice none 0 0, .int .i64 0]).gr hg14
  have ho4 := own_gr (own_gr ho ((Gr.refl w2).alloc (.cells #[.slice A1 n cap1, .int .i64 f] 37))) g3
  have hne1 : (Value.slice A1 n cap1).ownBlock ≠ some w1.heap.size := fun e => by have := (ho4.lt _ e).1; omega
  have hr1 : FRow ((w4.setCell ⟨w1.heap.size, 0, none⟩ (.slice A2 n2 cap2)).setCell ⟨w1.heap.size, 1, none⟩ (.int .i64 u)) A1 n fs := Row.own (ownsRow_setCell_other (ownsRow_setCell_other ho4 (a := ⟨w1.heap.size, 0, none⟩) hne1 _) (a := ⟨w1.heap.size, 1, none⟩) hne1 _)
  have hs2 := g2.size
  have hs3 : (w2.alloc (.cells #[.slice A1 n cap1, .int .i64 f] 37)).heap.size = w2.heap.size + 1 := by simp
  refine ⟨hpa, ((g1.trans (((Gr.refl w1).alloc _).trans hg14)).setCell (p := ⟨w1.heap.size, 0, none⟩) g1.size _).setCell (p := ⟨w1.heap.size, 1, none⟩) g1.size _, hr1, ?_, (hpa.set_ 0 _).set_ 1 _, (((Blk.new w2 37 #[.slice A1 n cap1, .int .i64 f]).gr g3).far (p := ⟨w1.heap.size, 0, none⟩) (by show w2.heap.size ≠ w1.heap.size; omega) _).far (p := ⟨w1.heap.size, 1, none⟩) (by show w2.heap.size ≠ w1.heap.size; omega) _⟩
  rcases hrow with ⟨rfl, rfl, rfl, rfl⟩ | h
  · exact hr1
  · have hne2 : (Value.slice A2 n2 cap2).ownBlock ≠ some w1.heap.size := fun e => by have := (h.lt _ e).1; omega
    exact Row.own (ownsRow_setCell_other (ownsRow_setCell_other h (a := ⟨w1.heap.size, 0, none⟩) hne2 _) (a := ⟨w1.heap.size, 1, none⟩) hne2 _)
end Go.Proofs.Ytcfghoohdlljkaa

/-
  What the walk of cartularylaw.NodeMarks leans on, part 3 of 8: contracts and plain laws. No conditions.
-/
import Derived.Test.YtbhpglhmnpcnkaaDoorWireN
import Derived.Test.YtbhpglhmnpcnkaaDoorElems
import Derived.Lib.AppendStr
import Derived.Test.YtbhpglhmnpcnkaaDoorNodeMarksP2
import Derived.Test.YtbhpglhmnpcnkaaDoorSumS
import Derived.Laws.MakeOwn
import Derived.Laws.BitsLemmas
import Derived.Deep.RegionLaw
import Derived.Deep.RegionHeld3
import Derived.Test.YtbhpglhmnpcnkaaDoorRSumS
import Derived.Test.YtbhpglhmnpcnkaaDoorMerkL
import Derived.Test.YtbhpglhmnpcnkaaDoorMerkR
import Derived.Test.YtbhpglhmnpcnkaaDoorMerkC
namespace Go.Proofs.YtbhpglhmnpcnkaaDoor
open Go.RowKit

theorem strCells_bs (l : List UInt8) : Lib.strCells (bs l) = l.map byteV := by
  unfold Lib.strCells byteV; rw [bs_data]

/-- append of a string onto a row of bytes of the call's own -/
theorem wpList_append_str {ops : Array Oper} {rest : List Oper} {o : Oper} {a : Act} {Q : Exit → Act → World → Prop} {w : World} {t u e : TypeId}
    (E : ElemOk t e (.int .u8 0) 1 1) (hu : Tryd.prog.underlying u = some .string) (hgd : o.guard = none) (sl x : Operand) (ho : o.op = .call { callee := .builtin .append, args := #[sl, x], argTypes := #[t, u] })
    {B : Nat} {A : Option Addr} {cap : Nat} {l s : List UInt8} (hs : a.eval sl = .slice A l.length cap) (hown : w.ownsRow B e 1 (.slice A l.length cap) l.length (l.map byteV)) (hx : a.eval x = .string (bs s))
    (hbytes : l.length + s.length ≤ 140737488355328) (hB : B ≤ w.heap.size)
    (h : ∀ A' cap' w', w'.ownsRow B e 1 (.slice A' (l ++ s).length cap') (l ++ s).length ((l ++ s).map byteV) → w.grownBy w' (Value.ownBlock (.slice A l.length cap)) →
      wpList Tryd.prog ops Q rest (a.put o.dst (.slice A' (l ++ s).length cap')) w') :
    wpList Tryd.prog ops Q (o :: rest) a w := by
  obtain ⟨i0, hi0, hz0, hz1, hz2⟩ := info_parts E.info
  refine Lib.wpList_append_own_string (P := Tryd.prog) w hgd sl x t u ho B e i0 E.under hu hi0 hz0 hz1 hz2 _ l.length _ hs hown (bs s) hx (by rw [bs_size]; unfold maxLen; omega) (by rw [bs_size]; exact hbytes) hB ?_
  intro v' w' hown' hg _
  rw [bs_size, strCells_bs, ← List.map_append] at hown'
  have el : l.length + s.length = (l ++ s).length := by simp
  rw [el] at hown'
  rcases hown'.2 with ⟨hv, h0⟩ | ⟨g, cap', cur, hv, _⟩
  · subst hv
    have h1 : (l ++ s).length = 0 := h0
    have := h none 0 w'
    rw [h1] at this hown'
    exact this hown' hg
  · subst hv
    exact h (some ⟨g, 0, none⟩) cap' w' hown' hg

abbrev St2 := List UInt8 × Nat
/-- a writer that holds l, with error e, lies in block g; its row is younger than B -/
structure WrAt (w : World) (B g : Nat) (q : List UInt8 × Nat) : Prop where
  ex : ∃ A cap, Blk w g 69 #[.slice A q.1.length cap, .int .i64 (q.2 : Int)] ∧ w.ownsRow B 5 1 (.slice A q.1.length cap) q.1.length (q.1.map byteV)
  base : B ≤ g
  len : q.1.length ≤ 35184372088832
/-- blocks of cells of another type than byte, other than g, are as they were -/
def KeepT (g : Nat) (w w' : World) : Prop := ∀ k cs t, k ≠ g → t ≠ 5 → Blk w k t cs → Blk w' k t cs

theorem WrAt.gr {w w' : World} {B g : Nat} {q : List UInt8 × Nat} (h : WrAt w B g q) (k : Gr w w') : WrAt w' B g q :=
  ⟨by obtain ⟨A, cap, hb, ho⟩ := h.ex; exact ⟨A, cap, hb.gr k, own_gr ho k⟩, h.base, h.len⟩
theorem KeepT.refl (g : Nat) (w : World) : KeepT g w w := fun _ _ _ _ _ h => h
theorem KeepT.trans {g : Nat} {a b c : World} (h : KeepT g a b) (k : KeepT g b c) : KeepT g a c := fun i cs t h1 h2 h3 => k i cs t h1 h2 (h i cs t h1 h2 h3)
theorem KeepT.gr {g : Nat} {a b : World} (h : Gr a b) : KeepT g a b := fun _ _ _ _ _ h3 => h3.gr h

/-- what the two stores into the writer leave -/
theorem only_set2' (w : World) (g : Nat) (u v : Value) : w.grownBy ((w.setCell ⟨g, 0, none⟩ u).setCell ⟨g, 1, none⟩ v) (some g) :=
  ⟨rfl, rfl, rfl, by simp [World.setCell], fun k _ hne => by
    rw [Below.heap_setCell _ _ _ _ (fun e => hne (by rw [e])), Below.heap_setCell _ _ _ _ (fun e => hne (by rw [e]))]⟩
theorem wr_done {w w1 : World} {B g : Nat} {A A' : Option Addr} {cap cap' : Nat} {l l' : List UInt8} {e e' : Nat} (hg : B ≤ g) (hb : Blk w g 69 #[.slice A l.length cap, .int .i64 (e : Int)])
    (ho : w.ownsRow B 5 1 (.slice A l.length cap) l.length (l.map byteV)) (ho' : w1.ownsRow B 5 1 (.slice A' l'.length cap') l'.length (l'.map byteV)) (hgr : w.grownBy w1 (Value.ownBlock (.slice A l.length cap))) (hB : B ≤ w.heap.size) (hl : l'.length ≤ 35184372088832) :
    WrAt ((w1.setCell ⟨g, 0, none⟩ (.slice A' l'.length cap')).setCell ⟨g, 1, none⟩ (.int .i64 (e' : Int))) B g (l', e') ∧
    Below B w ((w1.setCell ⟨g, 0, none⟩ (.slice A' l'.length cap')).setCell ⟨g, 1, none⟩ (.int .i64 (e' : Int))) ∧
    KeepT g w ((w1.setCell ⟨g, 0, none⟩ (.slice A' l'.length cap')).setCell ⟨g, 1, none⟩ (.int .i64 (e' : Int))) := by
  have hb1 := blk_own hb ho (by decide) hgr
  have hb2 := (hb1.set_ 0 (.slice A' l'.length cap')).set_ 1 (.int .i64 (e' : Int))
  have hon := only_set2' w1 g (.slice A' l'.length cap') (.int .i64 (e' : Int))
  refine ⟨⟨⟨A', cap', by simpa using hb2, own_only ho' hb1 (by decide) hon⟩, hg, hl⟩, ?_, ?_⟩
  · have h1 : Below B w w1 := (Below.refl B w).grown hgr hB (fun k hk => (ho.lt k hk).1)
    exact (h1.setCell (p := ⟨g, 0, none⟩) hg _).setCell (p := ⟨g, 1, none⟩) hg _
  · intro k cs t hk ht hbk
    have h1 : Blk w1 k t cs := blk_own hbk ho (fun e => ht e.symm) hgr
    exact h1.grown hon (by simpa using hk)

/-- P2.5 -/
def wNum (n : Int) (q : St2) : St2 := if q.2 = 0 then (q.1 ++ numS n, if 0 ≤ n ∧ n < 4611686018427387904 then 0 else 3) else q
def wTxt (t : List UInt8) (q : St2) : St2 := if q.2 = 0 then (if t.length ≤ 4096 then (q.1 ++ txt t, 0) else (q.1, 1)) else q
def wByt (s : List UInt8) (q : St2) : St2 := if q.2 = 0 then (q.1 ++ s, 0) else q
set_option maxRecDepth 100000 in
theorem wrNumber (B g : Nat) (q : St2) (n : Int) (w : World) (h : WrAt w B g q) (hlen : q.1.length ≤ 35184372088000) :
    Calls Tryd.prog 37 #[.pointer (some ⟨g, 0, none⟩), .int .i64 n] w fun e w' => e = .returned (.tuple #[]) ∧ WrAt w' B g (wNum n q) ∧ Below B w w' ∧ KeepT g w w' := by
  obtain ⟨l, er⟩ := q
  obtain ⟨A, cap, hb, ho⟩ := h.ex
  have hg := h.base
  have hB : B ≤ w.heap.size := by have := hb.lt; omega
  simp only at hb ho hlen
  have hc0 : w.cell? ⟨g, 0, none⟩ = some (.slice A l.length cap) := hb.cell 0
  have hc1 : w.cell? ⟨g, 1, none⟩ = some (.int .i64 (er : Int)) := hb.cell 1
  by_cases he : er = 0
  · subst he
    by_cases hn : 0 ≤ n ∧ n < 4611686018427387904
    · have hN := numS_in hn.1 hn.2
      have h9 := num_len9 (n := n.toNat) (by omega)
      have HN := sec hN
      clear hN
      go_enter Tryd.func37, Tryd.ntmps37
      go_wp2_with (first
        | (go_at_call 61; refine (put_ok [] _ _ (by omega) (by omega) (by simp)).mono ?_; rintro e w1 ⟨rfl, g1⟩; rw [List.nil_append]; have hb1 := hb.gr g1; have c0 : w1.cell? ⟨g, 0, none⟩ = some (.slice A l.length cap) := hb1.cell 0; have ho1 := own_gr ho g1; have hB1 : B ≤ w1.heap.size := by have := g1.size; omega)
        | (at_builtin; refine wpList_append_str E.u8 Tryd.underlying9 rfl (.tmp 25) (.tmp 26) rfl rfl ho1 rfl (by first | omega | (simp; omega)) hB1 ?_; intro A2 cap2 w2 ho2 hg2; have hb2 := blk_own hb1 ho1 (by decide) hg2; have d0 : w2.cell? ⟨g, 0, none⟩ = some (.slice A l.length cap) := hb2.cell 0; have d1 : w2.cell? ⟨g, 1, none⟩ = some (.int .i64 ((0 : Nat) : Int)) := hb2.cell 1; have f0 := hb2.frozen 0; have f1 := hb2.frozen 1))
      first | go_end0 | refine bodyPost_ret (results_none rfl _ _ _) rfl ?_
      obtain ⟨r1, r2, r3⟩ := wr_done (e' := 0) hg hb1 ho1 ho2 hg2 hB1 (by first | omega | (simp; omega))
      exact ⟨rfl, by simpa [wNum, hn, HN.out] using r1, (g1.below.mono hB).trans (by simpa using r2), (KeepT.gr g1).trans (by simpa using r3)⟩
    · have hN := numS_out (n := n) (by omega)
      have HN := sec hN
      clear hN
      go_enter Tryd.func37, Tryd.ntmps37
      go_wp2_with (first
        | (go_at_call 61; refine (put_err [] _ _ (by omega)).mono ?_; rintro e w1 ⟨rfl, rfl⟩; have hb1 := hb; have ho1 := ho; have hB1 := hB)
        | (at_builtin; refine wpList_append_str (s := []) E.u8 Tryd.underlying9 rfl (.tmp 25) (.tmp 26) rfl rfl ho1 rfl (by first | omega | (simp; omega)) hB1 ?_; intro A2 cap2 w2 ho2 hg2; rw [List.append_nil] at ho2; have hb2 := blk_own hb1 ho1 (by decide) hg2; have d0 : w2.cell? ⟨g, 0, none⟩ = some (.slice A l.length cap) := hb2.cell 0; have d1 : w2.cell? ⟨g, 1, none⟩ = some (.int .i64 ((0 : Nat) : Int)) := hb2.cell 1; have f0 := hb2.frozen 0; have f1 := hb2.frozen 1))
      first | go_end0 | refine bodyPost_ret (results_none rfl _ _ _) rfl ?_
      obtain ⟨r1, r2, r3⟩ := wr_done (e' := 3) hg hb1 ho1 ho2 hg2 hB1 (by first | omega | (simp; omega))
      exact ⟨rfl, by simpa [wNum, hn, HN.out] using r1, by first | exact r2 | simpa using r2, by first | exact r3 | simpa using r3⟩
  · have he' : ((er : Int) == 0) = false := by simpa using he
    have he2 : ((er : Int) != 0) = true := by simpa using he
    go_enter Tryd.func37, Tryd.ntmps37
    go_wp2
    first | go_end0 | refine bodyPost_ret (results_none rfl _ _ _) rfl ?_
    exact ⟨rfl, by simpa [wNum, he] using h, Below.refl _ _, KeepT.refl _ _⟩

theorem wr_done1 {w w1 : World} {B g : Nat} {A A' : Option Addr} {cap cap' : Nat} {l l' : List UInt8} {e : Nat} (hg : B ≤ g) (hb : Blk w g 69 #[.slice A l.length cap, .int .i64 (e : Int)])
    (ho : w.ownsRow B 5 1 (.slice A l.length cap) l.length (l.map byteV)) (ho' : w1.ownsRow B 5 1 (.slice A' l'.length cap') l'.length (l'.map byteV)) (hgr : w.grownBy w1 (Value.ownBlock (.slice A l.length cap))) (hB : B ≤ w.heap.size) (hl : l'.length ≤ 35184372088832) :
    WrAt (w1.setCell ⟨g, 0, none⟩ (.slice A' l'.length cap')) B g (l', e) ∧ Below B w (w1.setCell ⟨g, 0, none⟩ (.slice A' l'.length cap')) ∧ KeepT g w (w1.setCell ⟨g, 0, none⟩ (.slice A' l'.length cap')) := by
  have hb1 := blk_own hb ho (by decide) hgr
  have hb2 := hb1.set_ 0 (.slice A' l'.length cap')
  have hon : w1.grownBy (w1.setCell ⟨g, 0, none⟩ (.slice A' l'.length cap')) (some g) := ⟨rfl, rfl, rfl, by simp [World.setCell], fun k _ hne => Below.heap_setCell _ _ _ _ (fun e => hne (by rw [e]))⟩
  refine ⟨⟨⟨A', cap', by simpa using hb2, own_only ho' hb1 (by decide) hon⟩, hg, hl⟩, ?_, ?_⟩
  · have h1 : Below B w w1 := (Below.refl B w).grown hgr hB (fun k hk => (ho.lt k hk).1)
    exact h1.setCell (p := ⟨g, 0, none⟩) hg _
  · intro k cs t hk ht hbk
    have h1 : Blk w1 k t cs := blk_own hbk ho (fun e => ht e.symm) hgr
    exact h1.grown hon (by simpa using hk)

set_option maxRecDepth 100000 in
theorem wrBytes (B g : Nat) (q : St2) (s : List UInt8) (w : World) (h : WrAt w B g q) (hlen : q.1.length + s.length ≤ 35184372088832) :
    Calls Tryd.prog 38 #[.pointer (some ⟨g, 0, none⟩), .string (bs s)] w fun e w' => e = .returned (.tuple #[]) ∧ WrAt w' B g (wByt s q) ∧ Below B w w' ∧ KeepT g w w' := by
  obtain ⟨l, er⟩ := q
  obtain ⟨A, cap, hb, ho⟩ := h.ex
  have hg := h.base
  have hB : B ≤ w.heap.size := by have := hb.lt; omega
  simp only at hb ho hlen
  have hc0 : w.cell? ⟨g, 0, none⟩ = some (.slice A l.length cap) := hb.cell 0
  have hc1 : w.cell? ⟨g, 1, none⟩ = some (.int .i64 (er : Int)) := hb.cell 1
  by_cases he : er = 0
  · subst he
    have hb1 := hb
    go_enter Tryd.func38, Tryd.ntmps38
    go_wp2_with (at_builtin; refine wpList_append_str E.u8 Tryd.underlying9 rfl (.tmp 17) (.tmp 18) rfl rfl ho rfl (by omega) hB ?_; intro A2 cap2 w2 ho2 hg2; have hb2 := blk_own hb1 ho (by decide) hg2; have d0 : w2.cell? ⟨g, 0, none⟩ = some (.slice A l.length cap) := hb2.cell 0; have f0 := hb2.frozen 0)
    first | go_end0 | refine bodyPost_ret (results_none rfl _ _ _) rfl ?_
    obtain ⟨r1, r2, r3⟩ := wr_done1 (e := 0) hg hb1 ho ho2 hg2 hB (by simp; omega)
    exact ⟨rfl, by simpa [wByt] using r1, by simpa using r2, by simpa using r3⟩
  · have he' : ((er : Int) == 0) = false := by simpa using he
    have he2 : ((er : Int) != 0) = true := by simpa using he
    go_enter Tryd.func38, Tryd.ntmps38
    go_wp2
    first | go_end0 | refine bodyPost_ret (results_none rfl _ _ _) rfl ?_
    exact ⟨rfl, by simpa [wByt, he] using h, Below.refl _ _, KeepT.refl _ _⟩

set_option maxRecDepth 100000 in
theorem wrDone (B g : Nat) (q : St2) (w : World) (h : WrAt w B g q) :
    Calls Tryd.prog 39 #[.pointer (some ⟨g, 0, none⟩)] w fun e w' => e = .returned (.tuple #[.string (bs (if q.2 = 0 then q.1 else [])), .int .i64 (q.2 : Int)]) ∧ Gr w w' := by
  obtain ⟨l, er⟩ := q
  obtain ⟨A, cap, hb, ho⟩ := h.ex
  simp only at hb ho
  have hc0 : w.cell? ⟨g, 0, none⟩ = some (.slice A l.length cap) := hb.cell 0
  have hc1 : w.cell? ⟨g, 1, none⟩ = some (.int .i64 (er : Int)) := hb.cell 1
  by_cases he : er = 0
  · subst he
    have hcv := run_conv_own (src := 67) (dst := 9) Tryd.underlying67 Tryd.underlying5 Tryd.underlying9 ho
    go_enter Tryd.func39, Tryd.ntmps39
    go_wp2
    go_ret2
    exact ⟨rfl, Gr.refl _⟩
  · have he' : ((er : Int) == 0) = false := by simpa using he
    have he2 : ((er : Int) != 0) = true := by simpa using he
    go_enter Tryd.func39, Tryd.ntmps39
    go_wp2
    go_quiet (fail)
    go_wp2
    go_ret2
    exact ⟨by simp, (Gr.refl _).drewN _⟩

end Go.Proofs.YtbhpglhmnpcnkaaDoor

namespace Go.Proofs.YtbhpglhmnpcnkaaDoor
set_option maxRecDepth 100000
open Go.RowKit
set_option linter.unusedVariables false

/-- a head's bytes -/
def hdTxt (n : Int) (r : List UInt8) : List UInt8 × Int := if hdE n r = 0 then (numS n ++ r, 0) else ([], hdE n r)
theorem hdE_zero {n : Int} {r : List UInt8} (h : hdE n r = 0) : 0 ≤ n ∧ n ≤ 200 ∧ r.length = 32 := by
  unfold hdE at h
  split at h
  · cases h
  · rename_i h1
    split at h
    · rename_i h2; exact ⟨by omega, by omega, h2⟩
    · cases h

set_option maxHeartbeats 4000000 in
theorem rhtext_any (n : Int) (r : List UInt8) (w : World) (hr : r.length ≤ 1099511627776) :
    Calls Tryd.prog 16 #[.agg (headC n r)] w fun e w' => e = .returned (.tuple #[.string (bs (hdTxt n r).1), .int .i64 (hdTxt n r).2]) ∧ Gr w w' := by
  have HG := sec (fun w => rhgood_any n r w (by omega))
  have hg0 := (Gr.refl w).alloc (.cells (headC n r) 26)
  have hb := Blk.new w 26 (headC n r)
  have HN := sec (fun w => number_any n w)
  obtain ⟨wa, hwa⟩ : ∃ x, x = w.alloc (.cells (headC n r) 26) := ⟨_, rfl⟩
  obtain ⟨p, hp⟩ : ∃ p, p = w.heap.size := ⟨_, rfl⟩
  rw [← hwa] at hg0 hb
  rw [← hp] at hb
  have HB := sec hb
  have c0 : wa.cell? ⟨p, 0, none⟩ = some (.int .i64 n) := hb.cell 0
  have c1 : wa.cell? ⟨p, 1, none⟩ = some (.string (bs r)) := hb.cell 1
  clear hb
  unfold headC at HG hwa
  unfold headC
  by_cases hE : hdE n r = 0
  · have HR : Sec (hdTxt n r = (numS n ++ r, 0)) := sec (by unfold hdTxt; rw [if_pos hE])
    obtain ⟨h0, h1, h2⟩ := hdE_zero hE
    rw [HR.out]
    rw [hE] at HG
    have hnl : (numS n).length ≤ 9 := by rw [numS_in h0 (by omega)]; exact num_len9 (by omega)
    obtain ⟨N, hN⟩ : ∃ N, N = numS n := ⟨_, rfl⟩
    rw [← hN] at hnl HN
    rw [← hN]
    have hcat : ¬ 9223372036854775807 < N.length + r.length := by omega
    clear hE HR hN
    go_enter Tryd.func16, Tryd.ntmps16
    go_wp2_with (first
      | (rw [← hwa, ← hp]; clear hwa hp; go_wp2_with fail)
      | (go_at_call 20; refine Calls.mono (HG.out _) ?_; rintro e w1 ⟨rfl, g1⟩; have x0 : w1.cell? ⟨p, 0, none⟩ = some (.int .i64 n) := (HB.out.gr g1).cell 0; have x1 : w1.cell? ⟨p, 1, none⟩ = some (.string (bs r)) := (HB.out.gr g1).cell 1))
    have g1d : Gr w1 w1.drew := (Gr.refl _).drew
    have HSK : Sec (∀ w', Gr w1 w' → w'.cell? ⟨p, 0, none⟩ = some (.int .i64 n) ∧ w'.cell? ⟨p, 1, none⟩ = some (.string (bs r)) ∧ Gr w1 w') := sec (fun w' g => ⟨(HB.out.gr (g1.trans g)).cell 0, (HB.out.gr (g1.trans g)).cell 1, g⟩)
    go_region_with (go_at_call 40; (with_reducible refine Calls.mono (HN.out w1.drew) ?_); rintro e w2 ⟨rfl, g2'⟩; have g2 : Gr w1 w2 := Gr.trans g1d g2'; obtain ⟨y0, y1, _⟩ := HSK.out w2 g2)
    all_goals (go_wp2_with fail; go_ret2; exact ⟨rfl, hg0.trans (g1.trans g2)⟩)
  · have HR : Sec (hdTxt n r = ([], hdE n r)) := sec (by unfold hdTxt; rw [if_neg hE])
    rw [HR.out]
    obtain ⟨E, hEE⟩ : ∃ E, E = hdE n r := ⟨_, rfl⟩
    rw [← hEE] at HG hE
    rw [← hEE]
    have m0 : (E != 0) = true := by simpa using hE
    clear hEE HR
    go_enter Tryd.func16, Tryd.ntmps16
    go_wp2_with (first
      | (rw [← hwa, ← hp]; clear hwa hp; go_wp2_with fail)
      | (go_at_call 20; refine Calls.mono (HG.out _) ?_; rintro e w1 ⟨rfl, g1⟩))
    go_ret2
    exact ⟨rfl, hg0.trans g1⟩

set_option maxHeartbeats 4000000 in
theorem htext_any (n : Int) (r : List UInt8) (w : World) (hr : r.length ≤ 1099511627776) :
    Calls Tryd.prog 15 #[.agg (headC n r)] w fun e w' => e = .returned (.tuple #[.string (bs (hdTxt n r).1), .int .i64 (hdTxt n r).2]) ∧ Gr w w' := by
  have HG := sec (fun w => hgood_any n r w (by omega))
  have hg0 := (Gr.refl w).alloc (.cells (headC n r) 26)
  have hb := Blk.new w 26 (headC n r)
  obtain ⟨wa, hwa⟩ : ∃ x, x = w.alloc (.cells (headC n r) 26) := ⟨_, rfl⟩
  obtain ⟨p, hp⟩ : ∃ p, p = w.heap.size := ⟨_, rfl⟩
  rw [← hwa] at hg0 hb
  rw [← hp] at hb
  have HB := sec hb
  have c0 : wa.cell? ⟨p, 0, none⟩ = some (.int .i64 n) := hb.cell 0
  have c1 : wa.cell? ⟨p, 1, none⟩ = some (.string (bs r)) := hb.cell 1
  clear hb
  unfold headC at HG hwa
  unfold headC
  by_cases hE : hdE n r = 0
  · have HR : Sec (hdTxt n r = (numS n ++ r, 0)) := sec (by unfold hdTxt; rw [if_pos hE])
    obtain ⟨h0, h1, h2⟩ := hdE_zero hE
    rw [HR.out]
    rw [hE] at HG
    have hnl : (numS n).length ≤ 9 := by rw [numS_in h0 (by omega)]; exact num_len9 (by omega)
    have HNu : Sec (∀ B g w, WrAt w B g ([], 0) → Calls Tryd.prog 37 #[.pointer (some ⟨g, 0, none⟩), .int .i64 n] w fun e w' => e = .returned (.tuple #[]) ∧ WrAt w' B g (numS n, 0) ∧ Below B w w' ∧ KeepT g w w') := sec (fun B g w h => by
      have := wrNumber B g ([], 0) n w h (by simp)
      have e : wNum n ([], 0) = (numS n, 0) := by unfold wNum; rw [if_pos rfl, if_pos ⟨h0, by omega⟩]; rfl
      rwa [e] at this)
    have HBy : Sec (∀ B g w, WrAt w B g (numS n, 0) → Calls Tryd.prog 38 #[.pointer (some ⟨g, 0, none⟩), .string (bs r)] w fun e w' => e = .returned (.tuple #[]) ∧ WrAt w' B g (numS n ++ r, 0) ∧ Below B w w' ∧ KeepT g w w') := sec (fun B g w h => wrBytes B g (numS n, 0) r w h (by simp only; omega))
    have HDn : Sec (∀ B g w, WrAt w B g (numS n ++ r, 0) → Calls Tryd.prog 39 #[.pointer (some ⟨g, 0, none⟩)] w fun e w' => e = .returned (.tuple #[.string (bs (numS n ++ r)), .int .i64 0]) ∧ Gr w w') := sec (fun B g w h => wrDone B g (numS n ++ r, 0) w h)
    have HW0 : Sec (∀ w1 : World, WrAt (w1.alloc (.cells #[.slice none 0 0, .int .i64 0] 69)) w1.heap.size w1.heap.size ([], 0)) := sec (fun w1 => ⟨⟨none, 0, Blk.new w1 _ _, World.ownsRow_nil _ _ _ _⟩, Nat.le_refl _, by simp⟩)
    clear hE HR h2
    go_enter Tryd.func15, Tryd.ntmps15
    go_wp2_with (first
      | (rw [← hwa, ← hp]; clear hwa hp; go_wp2_with fail)
      | (go_at_call 19; refine Calls.mono (HG.out _) ?_; rintro e w1 ⟨rfl, g1⟩; have b1 := HB.out.gr g1; have x0 : (w1.alloc (.cells #[.slice none 0 0, .int .i64 0] 69)).cell? ⟨p, 0, none⟩ = some (.int .i64 n) := (b1.alloc _).cell 0; have x1 : (w1.alloc (.cells #[.slice none 0 0, .int .i64 0] 69)).cell? ⟨p, 1, none⟩ = some (.string (bs r)) := (b1.alloc _).cell 1)
      | (go_at_call 37; refine Calls.mono (HNu.out w1.heap.size w1.heap.size _ (HW0.out w1)) ?_; rintro e w2 ⟨rfl, d2, k2, _⟩; have b2 : Gr w1 w2 := Below.trans ((Gr.refl w1).alloc _) k2; have y0 : w2.cell? ⟨p, 0, none⟩ = some (.int .i64 n) := (b1.gr b2).cell 0; have y1 : w2.cell? ⟨p, 1, none⟩ = some (.string (bs r)) := (b1.gr b2).cell 1)
      | (go_at_call 38; refine Calls.mono (HBy.out _ _ _ d2) ?_; rintro e w3 ⟨rfl, d3, k3, _⟩; have b3 : Gr w1 w3 := Below.trans b2 k3)
      | (go_at_call 39; refine Calls.mono (HDn.out _ _ _ d3) ?_; rintro e w4 ⟨rfl, g4⟩))
    go_ret2
    exact ⟨rfl, hg0.trans (g1.trans (b3.trans g4))⟩
  · have HR : Sec (hdTxt n r = ([], hdE n r)) := sec (by unfold hdTxt; rw [if_neg hE])
    rw [HR.out]
    obtain ⟨E, hEE⟩ : ∃ E, E = hdE n r := ⟨_, rfl⟩
    rw [← hEE] at HG hE
    rw [← hEE]
    have m0 : (E != 0) = true := by simpa using hE
    clear hEE HR
    go_enter Tryd.func15, Tryd.ntmps15
    go_wp2_with (first
      | (rw [← hwa, ← hp]; clear hwa hp; go_wp2_with fail)
      | (go_at_call 19; refine Calls.mono (HG.out _) ?_; rintro e w1 ⟨rfl, g1⟩))
    go_ret2
    exact ⟨rfl, hg0.trans g1⟩
end Go.Proofs.YtbhpglhmnpcnkaaDoor

namespace Go.Proofs.YtbhpglhmnpcnkaaDoor
set_option maxRecDepth 100000
open Go.RowKit
set_option linter.unusedVariables false

theorem aggHead : AggOk 26 2 := A.head
theorem hdTxt0 (R : List UInt8) (h : R.length = 32) : (hdTxt 0 R).2 = 0 ∧ (hdTxt 0 R).1.length = 33 := by
  have hE : hdE 0 R = 0 := by
    unfold hdE
    rw [if_neg (by decide), if_pos h]
  unfold hdTxt
  rw [if_pos hE]
  refine ⟨rfl, ?_⟩
  have h1 : (numS 0).length = 1 := by
    rw [numS_in (by omega) (by omega)]
    have a := num_pos 0
    have b := num_len 0 0 (by decide)
    have e : (0 : Int).toNat = 0 := rfl
    rw [e]
    omega
  rw [List.length_append, h1, h]
set_option maxHeartbeats 1000000 in
theorem leaves0_any (w : World) : Calls Tryd.prog 60 #[.slice none 0 0] w fun e w' => e = .returned (.tuple #[.slice none 0 0, .int .i64 0]) ∧ w' = w := by
  go_enter Tryd.func60, Tryd.ntmps60
  go_wp2_with fail
  go_loopw [11, 4, 6, 7, 8] (fun iv v4 _ _ _ wr => iv = .int .i64 0 ∧ v4 = .slice none 0 0 ∧ wr = w) (fun _ _ _ _ _ _ => 0)
  case atStart => exact ⟨rfl, rfl, rfl⟩
  case round =>
    obtain ⟨rfl, rfl, rfl⟩ := hrel
    go_wp2_with fail
    go_ret2
    exact ⟨rfl, rfl⟩

set_option maxHeartbeats 1000000 in
theorem of0_any (w : World) (hT : TabK w) : Calls Tryd.prog 36 #[.slice none 0 0] w fun e w' => e = .returned (.tuple #[.agg (headC 0 (sha [])), .int .i64 0]) ∧ Gr w w' := by
  have HR : Sec (∀ W, Gr w W → Calls Tryd.prog 47 #[.slice none 0 0] W fun e w' => e = .returned (.string (bs (sha []))) ∧ Gr W w') := sec (fun W g => by
    have := root_any 0 [] none 0 0 W (by simp) (by omega) (by omega) ⟨rfl, fun h => absurd h (by omega)⟩ (by intro s h; cases h) (hT.gr g)
    rw [rootL_nil] at this
    exact this)
  clear hT
  go_enter Tryd.func36, Tryd.ntmps36
  go_wp2_with (first
    | (refine wpList_store_blk rfl 26 (.tmp 2) (.tmp 23) rfl (g := w.heap.size) (cs' := headC 0 (sha [])) rfl rfl hB A.head rfl (headC_one _ _) ?_; intro w2 h2 hg2)
    | (go_at_call 60; refine Calls.mono (leaves0_any _) ?_; rintro e w3 ⟨rfl, rfl⟩)
    | (go_at_call 47; refine Calls.mono (HR.out _ ((Gr.refl w).alloc _)) ?_; rintro e w1 ⟨rfl, g1⟩; have hB := (Blk.new w 26 (headC 0 [])).gr g1; have gg1 : Gr w w1 := Gr.trans ((Gr.refl w).alloc _) g1))
  refine bodyPost_ret (results_blk_tmp rfl _ rfl h2 A.head) rfl ?_
  exact ⟨rfl, Gr.only gg1 hg2 (Nat.le_refl _)⟩
set_option maxHeartbeats 1000000 in
theorem heads_any (w : World) (hT : TabK w) : Calls Tryd.prog 14 #[] w fun e w' => e = .returned (.bool true) ∧ Gr w w' := by
  have HOf := sec (of0_any w hT)
  have HEm : Sec (∀ W, Gr w W → Calls Tryd.prog 21 #[] W fun e w' => e = .returned (.agg (headC 0 (sha []))) ∧ Gr W w') := sec (fun W g => empty_any W (hT.gr g))
  have hl := sha_len []
  obtain ⟨R, hR⟩ : ∃ R, R = sha [] := ⟨_, rfl⟩
  rw [← hR] at HEm HOf hl
  clear hR hT
  obtain ⟨t0, t1⟩ := hdTxt0 R hl
  have HTx : Sec (∀ W, Calls Tryd.prog 15 #[.agg (headC 0 R)] W fun e w' => e = .returned (.tuple #[.string (bs (hdTxt 0 R).1), .int .i64 0]) ∧ Gr W w') := sec (fun W => by
    have h := htext_any 0 R W (by omega)
    rw [t0] at h
    exact h)
  obtain ⟨X, hX⟩ : ∃ X, X = (hdTxt 0 R).1 := ⟨_, rfl⟩
  rw [← hX] at HTx t1
  have hx33 : (X.length : Int) = 33 := by omega
  unfold headC at HOf HEm HTx
  clear hX t0
  go_enter Tryd.func14, Tryd.ntmps14
  go_wp2_with (first
    | (go_at_call 36; refine Calls.mono HOf.out ?_; rintro e w1 ⟨rfl, g1⟩)
    | (go_at_call 15; refine Calls.mono (HTx.out _) ?_; rintro e w2 ⟨rfl, g2⟩; have hb := (Blk.new w1 26 #[.int .i64 0, .string (bs R)]).gr g2; have gg2 : Gr w w2 := (g1.alloc _).trans g2; have x0 : w2.cell? ⟨w1.heap.size, 0, none⟩ = some (.int .i64 0) := hb.cell 0; have x1 : w2.cell? ⟨w1.heap.size, 1, none⟩ = some (.string (bs R)) := hb.cell 1))
  have g2d : Gr w2 w2.drew := (Gr.refl _).drew
  have HSK : Sec (∀ w', Gr w2 w' → w'.cell? ⟨w1.heap.size, 0, none⟩ = some (.int .i64 0) ∧ w'.cell? ⟨w1.heap.size, 1, none⟩ = some (.string (bs R)) ∧ Gr w2 w') := sec (fun w' g => ⟨(hb.gr g).cell 0, (hb.gr g).cell 1, g⟩)
  go_region_held3 (fun w' => w'.cell? ⟨w1.heap.size, 0, none⟩ = some (.int .i64 0) ∧ w'.cell? ⟨w1.heap.size, 1, none⟩ = some (.string (bs R)) ∧ Gr w2 w')
    (first | with_reducible assumption | with_reducible exact HSK.out _ g2d | with_reducible exact HSK.out _ g4 | fail)
    (first
      | (go_at_call 21; (with_reducible refine Calls.mono (HEm.out w2.drew (gg2.trans g2d)) ?_); rintro e w4 ⟨rfl, g4'⟩; have g4 : Gr w2 w4 := Gr.trans g2d g4')
      | fail)
  all_goals (go_wp2_with fail; go_ret; exact ⟨rfl, gg2.trans g4⟩)
end Go.Proofs.YtbhpglhmnpcnkaaDoor

namespace Go.Proofs.YtbhpglhmnpcnkaaDoor
open Go.RowKit
set_option linter.unusedVariables false

/-- 64 bytes while they are filled -/
def kArr (x : UInt8) (K : List UInt8) (n : Nat) : Array Value := ((List.range 64).map fun j => if j < n then byteV (K.getD j 0 ^^^ x) else Value.int .u8 0).toArray
theorem kArr_size (x : UInt8) (K : List UInt8) (n : Nat) : (kArr x K n).size = 64 := by unfold kArr; simp
theorem kArr_set (x : UInt8) (K : List UInt8) (n : Nat) : (kArr x K n).setIfInBounds n (byteV (K.getD n 0 ^^^ x)) = kArr x K (n + 1) := by
  unfold kArr
  rw [List.setIfInBounds_toArray]
  congr 1
  apply List.ext_getElem
  · simp
  · intro i h1 h2
    rw [List.getElem_set]
    simp only [List.getElem_map, List.getElem_range]
    by_cases e : n = i
    · subst e; rw [if_pos rfl, if_pos (by omega)]
    · rw [if_neg e]
      by_cases h : i < n
      · rw [if_pos h, if_pos (by omega)]
      · rw [if_neg h, if_neg (by omega)]
theorem kArr_full (x : UInt8) (K : List UInt8) : (kArr x K 64).toList = (xorPad x K).map byteV := by
  unfold kArr xorPad
  simp only [List.map_map]
  refine List.map_congr_left ?_
  intro j hj
  have : j < 64 := by simpa using hj
  rw [if_pos this]; rfl
def zero64 : Array Value := #[.int .u8 0, .int .u8 0, .int .u8 0, .int .u8 0, .int .u8 0, .int .u8 0, .int .u8 0, .int .u8 0, .int .u8 0, .int .u8 0, .int .u8 0, .int .u8 0, .int .u8 0, .int .u8 0, .int .u8 0, .int .u8 0, .int .u8 0, .int .u8 0, .int .u8 0, .int .u8 0, .int .u8 0, .int .u8 0, .int .u8 0, .int .u8 0, .int .u8 0, .int .u8 0, .int .u8 0, .int .u8 0, .int .u8 0, .int .u8 0, .int .u8 0, .int .u8 0, .int .u8 0, .int .u8 0, .int .u8 0, .int .u8 0, .int .u8 0, .int .u8 0, .int .u8 0, .int .u8 0, .int .u8 0, .int .u8 0, .int .u8 0, .int .u8 0, .int .u8 0, .int .u8 0, .int .u8 0, .int .u8 0, .int .u8 0, .int .u8 0, .int .u8 0, .int .u8 0, .int .u8 0, .int .u8 0, .int .u8 0, .int .u8 0, .int .u8 0, .int .u8 0, .int .u8 0, .int .u8 0, .int .u8 0, .int .u8 0, .int .u8 0, .int .u8 0]
theorem kArr_zero (x : UInt8) (K : List UInt8) : kArr x K 0 = zero64 := by kernel_rfl
theorem x_xor (a c : UInt8) : bits .xor .u8 (a.toNat : Int) (c.toNat : Int) = ((c ^^^ a).toNat : Int) := by
  have h1 := a.toNat_lt
  have h2 := c.toNat_lt
  rw [u8_xor_nat a.toNat c.toNat (by omega) (by omega), UInt8.toNat_xor, Nat.xor_comm]
theorem x_zero (a : UInt8) : (0 : UInt8) ^^^ a = a := by
  apply UInt8.eq_of_toBitVec_eq
  rw [UInt8.toBitVec_xor]; exact BitVec.zero_xor
theorem conv_arr (w : World) {g : Nat} {t : TypeId} {cs : Array Value} {l : List UInt8} (hB : Blk w g t cs) (h : cs.toList = l.map byteV) (n : Nat) (hn : l.length = n) :
    (convert 67 9 (.slice (some ⟨g, 0, none⟩) n n)).run Tryd.prog w = .ok (.string (bs l)) w := by
  subst hn
  refine run_conv_at Tryd.underlying67 Tryd.underlying5 Tryd.underlying9 w g 0 _ l (fun j u hu => ?_)
  rw [Nat.zero_add, hB.cell, ← h] at *
  simpa using hu

set_option maxRecDepth 100000 in
set_option maxHeartbeats 2000000 in
theorem seal_any (key b : List UInt8) (w : World) (hT : TabK w) (hk : key.length ≤ 288230376151711744) (hb : b.length ≤ 288230376151711744) :
    Calls Tryd.prog 34 #[.string (bs key), .string (bs b)] w fun e w' => e = .returned (.string (bs (seal' key b))) ∧ Gr w w' := by
  obtain ⟨K, hK⟩ : ∃ K, K = keyOf key := ⟨_, rfl⟩
  have hKl : K.length ≤ 64 := by rw [hK]; exact keyOf_len key
  have HF : Sec (seal' key b = sha (xorPad 0x5c K ++ sha (xorPad 0x36 K ++ b))) := sec (by rw [hK]; rfl)
  have HK := sec hK
  clear hK
  by_cases hlt : 64 < key.length
  · have HS : Sec (sha key = K) := sec (by rw [HK.out]; unfold keyOf; rw [if_pos hlt])
    have hlti : (64 : Int) < (key.length : Int) := by omega
    go_enter Tryd.func34, Tryd.ntmps34
    go_wp2_with ((go_at_call 51; refine (sum_any key _ hT (by omega)).mono ?_; rw [HS.out]; rintro e w1 ⟨rfl, g1⟩))
    have HZ5 : Sec (Blk ((w1.alloc (.cells zero64 89)).alloc (.cells zero64 89)) w1.heap.size 89 zero64) := sec ((Blk.new w1 _ _).alloc _)
    have HZ6 : Sec (Blk ((w1.alloc (.cells zero64 89)).alloc (.cells zero64 89)) (w1.heap.size + 1) 89 zero64) := sec (Blk.new1 w1 _ _ _)
    have HG : Sec (Gr w ((w1.alloc (.cells zero64 89)).alloc (.cells zero64 89))) := sec ((g1.alloc _).alloc _)
    obtain ⟨q, hq⟩ : ∃ q, q = w1.heap.size := ⟨_, rfl⟩
    have hwb : w.heap.size ≤ q := by rw [hq]; exact g1.size
    rw [← hq] at HZ5 HZ6
    rw [← hq]
    clear hq
    go_loopw [13, 7] (fun iv _ wr => ∃ i : Nat, iv = .int .i64 i ∧ i ≤ 64 ∧ Blk wr q 89 (kArr 0x36 K i) ∧ Blk wr (q + 1) 89 (kArr 0x5c K i) ∧ Gr w wr)
      (fun iv _ _ => 64 - (intOf iv).toNat)
    case atStart => exact ⟨0, rfl, by omega, by rw [kArr_zero]; exact HZ5.out, by rw [kArr_zero]; exact HZ6.out, HG.out⟩
    case round =>
      obtain ⟨i, rfl, hi, hB5, hB6, hg⟩ := hrel
      by_cases h64 : i < 64
      · have hi64 : (i : Int) < 64 := by omega
        have z5 : ∃ v, wr.cell? ⟨q, i, none⟩ = some v := ⟨_, (hB5.cell i).trans (Array.getElem?_eq_getElem (by rw [kArr_size]; omega))⟩
        have z6 : ∃ v, wr.cell? ⟨q + 1, i, none⟩ = some v := ⟨_, (hB6.cell i).trans (Array.getElem?_eq_getElem (by rw [kArr_size]; omega))⟩
        obtain ⟨v5, z5⟩ := z5
        obtain ⟨v6, z6⟩ := z6
        have f5 := hB5.frozen i
        have f6 := hB6.frozen i
        by_cases hik : i < K.length
        · have hiki : (i : Int) < (K.length : Int) := by omega
          obtain ⟨c, hc⟩ : ∃ c, c = K[i] := ⟨_, rfl⟩
          have hgd : K.getD i 0 = c := by rw [hc]; simp [hik]
          have hci : (bs K)[i]'(by rw [bs_size]; exact hik) = c := by rw [bs_get, hc]
          have e5 := kArr_set 0x36 K i
          have e6 := kArr_set 0x5c K i
          rw [hgd] at e5 e6
          have E5 := sec e5
          have E6 := sec e6
          have HC := sec hc
          have x5 : bits .xor .u8 54 (c.toNat : Int) = ((c ^^^ 0x36).toNat : Int) := x_xor 0x36 c
          have x6 : bits .xor .u8 92 (c.toNat : Int) = ((c ^^^ 0x5c).toNat : Int) := x_xor 0x5c c
          clear e5 e6 hc hgd
          go_wp2_with fail
          refine region_still_tail_w 8 (by kernel_rfl) (by kernel_rfl) ?_
          simp only [List.take_succ_cons, List.take_zero, List.drop_succ_cons, List.drop_zero]
          intro wd hwd
          have D5 : Blk wd q 89 ((kArr 0x36 K i).setIfInBounds i (.int .u8 54)) := by subst hwd; exact ((hB5.set_ i (.int .u8 54)).far (by simp) _).drew
          have D6 : Blk wd (q + 1) 89 ((kArr 0x5c K i).setIfInBounds i (.int .u8 92)) := by subst hwd; exact ((hB6.far (by simp) _).set_ i (.int .u8 92)).drew
          have Dg : Gr w wd := by subst hwd; exact ((hg.setCell (by simp; omega) _).setCell (by simp; omega) _).drew
          clear hwd hB5 hB6 hg z5 z6 f5 f6
          have c5 : wd.cell? ⟨q, i, none⟩ = some (.int .u8 54) := (D5.cell i).trans (Array.getElem?_setIfInBounds_self_of_lt (by rw [kArr_size]; exact h64))
          have f5 := D5.frozen i
          repeat still_step
          refine wpStill_nil ?_
          go_wp2_with fail
          clear c5 f5
          refine region_still_tail_w 8 (by kernel_rfl) (by kernel_rfl) ?_
          simp only [List.take_succ_cons, List.take_zero, List.drop_succ_cons, List.drop_zero]
          intro we hwe
          have F5 : Blk we q 89 (kArr 0x36 K (i + 1)) := by
            subst hwe
            have h5 := (D5.set_ i (.int .u8 ((c ^^^ 0x36).toNat : Int))).drew
            rw [Array.setIfInBounds_setIfInBounds, show (kArr 0x36 K i).setIfInBounds i (.int .u8 ((c ^^^ 0x36).toNat : Int)) = kArr 0x36 K (i + 1) from E5.out] at h5
            exact h5
          have F6 : Blk we (q + 1) 89 ((kArr 0x5c K i).setIfInBounds i (.int .u8 92)) := by subst hwe; exact (D6.far (by simp) _).drew
          have Fg : Gr w we := by subst hwe; exact (Dg.setCell (by simp; omega) _).drew
          clear hwe D5 D6 Dg
          have c6 : we.cell? ⟨q + 1, i, none⟩ = some (.int .u8 92) := (F6.cell i).trans (Array.getElem?_setIfInBounds_self_of_lt (by rw [kArr_size]; exact h64))
          have f6 := F6.frozen i
          repeat still_step
          refine wpStill_nil ?_
          go_wp2_with fail
          go_roundw
          case rel =>
            have h6 := F6.set_ i (.int .u8 ((c ^^^ 0x5c).toNat : Int))
            have e6 : ((kArr 0x5c K i).setIfInBounds i (.int .u8 92)).setIfInBounds i (.int .u8 ((c ^^^ 0x5c).toNat : Int)) = kArr 0x5c K (i + 1) := by
              rw [Array.setIfInBounds_setIfInBounds]; exact E6.out
            rw [e6] at h6
            exact ⟨i + 1, by go_num, by omega, F5.far (by simp) _, h6, Fg.setCell (by simp; omega) _⟩
          case measure => simp [intOf]; omega
        · have hiki : ¬ (i : Int) < (K.length : Int) := by omega
          have hgd : K.getD i 0 = 0 := by simp [List.getD]; rw [List.getElem?_eq_none (by omega)]; rfl
          have e5 := kArr_set 0x36 K i
          have e6 := kArr_set 0x5c K i
          rw [hgd, x_zero] at e5 e6
          have E5 := sec e5
          have E6 := sec e6
          clear e5 e6 hgd
          go_wp2_with fail
          go_roundw
          case rel =>
            have h5 := hB5.set_ i (.int .u8 54)
            have h6 := (hB6.far (p := ⟨q, i, none⟩) (by simp) (.int .u8 54)).set_ i (.int .u8 92)
            rw [show (kArr 0x36 K i).setIfInBounds i (.int .u8 54) = kArr 0x36 K (i + 1) from E5.out] at h5
            rw [show (kArr 0x5c K i).setIfInBounds i (.int .u8 92) = kArr 0x5c K (i + 1) from E6.out] at h6
            exact ⟨i + 1, by go_num, by omega, h5.far (by simp) _, h6, (hg.setCell (by simp; omega) _).setCell (by simp; omega) _⟩
          case measure => simp [intOf]; omega
      · obtain rfl : i = 64 := by omega
        clear h64 hi
        rw [show ((64 : Nat) : Int) = 64 from rfl]
        go_wp2_with fail
        have k5 := kArr_full 0x36 K
        have k6 := kArr_full 0x5c K
        have K5 := sec k5
        have K6 := sec k6
        have hP5 : (xorPad 0x36 K).length = 64 := xorPad_len _ _
        have hP6 : (xorPad 0x5c K).length = 64 := xorPad_len _ _
        obtain ⟨P5, hQ5⟩ : ∃ P, P = xorPad 0x36 K := ⟨_, rfl⟩
        obtain ⟨P6, hQ6⟩ : ∃ P, P = xorPad 0x5c K := ⟨_, rfl⟩
        rw [← hQ5, ← hQ6] at HF
        rw [← hQ5] at K5 hP5
        rw [← hQ6] at K6 hP6
        have HP5 := sec hP5
        have HP6 := sec hP6
        have hl5 : ¬ 9223372036854775807 < P5.length + b.length := by omega
        have hl6 : ¬ 9223372036854775807 < P6.length + (sha (P5 ++ b)).length := by rw [sha_len]; omega
        have HL5 : Sec ((P5 ++ b).length ≤ 576460752303423488) := sec (by rw [List.length_append]; omega)
        have HL6 : Sec ((P6 ++ sha (P5 ++ b)).length ≤ 576460752303423488) := sec (by rw [List.length_append, sha_len]; omega)
        clear k5 k6 hQ5 hQ6 hP5 hP6
        go_region_held3 (fun w' => (convert 67 9 (.slice (some ⟨q, 0, none⟩) 64 64)).run Tryd.prog w' = .ok (.string (bs P5)) w' ∧ (convert 67 9 (.slice (some ⟨q + 1, 0, none⟩) 64 64)).run Tryd.prog w' = .ok (.string (bs P6)) w' ∧ Gr w w')
          (first | with_reducible assumption | exact ⟨conv_arr _ hB5.drew K5.out 64 HP5.out, conv_arr _ hB6.drew K6.out 64 HP6.out, hg.drew⟩ | exact ⟨conv_arr _ hB5 K5.out 64 HP5.out, conv_arr _ hB6 K6.out 64 HP6.out, hg⟩ | exact ⟨conv_arr _ e5 K5.out 64 HP5.out, conv_arr _ e6 K6.out 64 HP6.out, eg⟩ | exact ⟨conv_arr _ i5 K5.out 64 HP5.out, conv_arr _ i6 K6.out 64 HP6.out, ig⟩)
          (first
            | (go_at_call 51; with_reducible refine Calls.mono (sum_any (P5 ++ b) _ (hT.gr hg.drew) HL5.out) ?_; rintro e w3 ⟨rfl, k⟩; have e5 := hB5.drew.gr k; have e6 := hB6.drew.gr k; have eg := hg.drew.trans k; clear k)
            | (go_at_call 51; with_reducible refine Calls.mono (sum_any (P6 ++ sha (P5 ++ b)) _ (hT.gr eg) HL6.out) ?_; rintro e w4 ⟨rfl, k⟩; have i5 := e5.gr k; have i6 := e6.gr k; have ig := eg.trans k; clear k))
        all_goals
          go_wp2_with fail
          go_ret
          exact ⟨by rw [HF.out]; rfl, ig⟩
  · have hlti : ¬ (64 : Int) < (key.length : Int) := by omega
    obtain rfl : K = key := by rw [HK.out]; unfold keyOf; rw [if_neg hlt]
    go_enter Tryd.func34, Tryd.ntmps34
    go_wp2_with fail
    have HZ5 : Sec (Blk ((w.alloc (.cells zero64 89)).alloc (.cells zero64 89)) w.heap.size 89 zero64) := sec ((Blk.new w _ _).alloc _)
    have HZ6 : Sec (Blk ((w.alloc (.cells zero64 89)).alloc (.cells zero64 89)) (w.heap.size + 1) 89 zero64) := sec (Blk.new1 w _ _ _)
    have HG : Sec (Gr w ((w.alloc (.cells zero64 89)).alloc (.cells zero64 89))) := sec (((Gr.refl w).alloc _).alloc _)
    obtain ⟨q, hq⟩ : ∃ q, q = w.heap.size := ⟨_, rfl⟩
    have hwb : w.heap.size ≤ q := by rw [hq]; exact Nat.le_refl _
    rw [← hq] at HZ5 HZ6
    rw [← hq]
    clear hq
    go_loopw [13, 7] (fun iv _ wr => ∃ i : Nat, iv = .int .i64 i ∧ i ≤ 64 ∧ Blk wr q 89 (kArr 0x36 K i) ∧ Blk wr (q + 1) 89 (kArr 0x5c K i) ∧ Gr w wr)
      (fun iv _ _ => 64 - (intOf iv).toNat)
    case atStart => exact ⟨0, rfl, by omega, by rw [kArr_zero]; exact HZ5.out, by rw [kArr_zero]; exact HZ6.out, HG.out⟩
    case round =>
      obtain ⟨i, rfl, hi, hB5, hB6, hg⟩ := hrel
      by_cases h64 : i < 64
      · have hi64 : (i : Int) < 64 := by omega
        have z5 : ∃ v, wr.cell? ⟨q, i, none⟩ = some v := ⟨_, (hB5.cell i).trans (Array.getElem?_eq_getElem (by rw [kArr_size]; omega))⟩
        have z6 : ∃ v, wr.cell? ⟨q + 1, i, none⟩ = some v := ⟨_, (hB6.cell i).trans (Array.getElem?_eq_getElem (by rw [kArr_size]; omega))⟩
        obtain ⟨v5, z5⟩ := z5
        obtain ⟨v6, z6⟩ := z6
        have f5 := hB5.frozen i
        have f6 := hB6.frozen i
        by_cases hik : i < K.length
        · have hiki : (i : Int) < (K.length : Int) := by omega
          obtain ⟨c, hc⟩ : ∃ c, c = K[i] := ⟨_, rfl⟩
          have hgd : K.getD i 0 = c := by rw [hc]; simp [hik]
          have hci : (bs K)[i]'(by rw [bs_size]; exact hik) = c := by rw [bs_get, hc]
          have e5 := kArr_set 0x36 K i
          have e6 := kArr_set 0x5c K i
          rw [hgd] at e5 e6
          have E5 := sec e5
          have E6 := sec e6
          have HC := sec hc
          have x5 : bits .xor .u8 54 (c.toNat : Int) = ((c ^^^ 0x36).toNat : Int) := x_xor 0x36 c
          have x6 : bits .xor .u8 92 (c.toNat : Int) = ((c ^^^ 0x5c).toNat : Int) := x_xor 0x5c c
          clear e5 e6 hc hgd
          go_wp2_with fail
          refine region_still_tail_w 8 (by kernel_rfl) (by kernel_rfl) ?_
          simp only [List.take_succ_cons, List.take_zero, List.drop_succ_cons, List.drop_zero]
          intro wd hwd
          have D5 : Blk wd q 89 ((kArr 0x36 K i).setIfInBounds i (.int .u8 54)) := by subst hwd; exact ((hB5.set_ i (.int .u8 54)).far (by simp) _).drew
          have D6 : Blk wd (q + 1) 89 ((kArr 0x5c K i).setIfInBounds i (.int .u8 92)) := by subst hwd; exact ((hB6.far (by simp) _).set_ i (.int .u8 92)).drew
          have Dg : Gr w wd := by subst hwd; exact ((hg.setCell (by simp; omega) _).setCell (by simp; omega) _).drew
          clear hwd hB5 hB6 hg z5 z6 f5 f6
          have c5 : wd.cell? ⟨q, i, none⟩ = some (.int .u8 54) := (D5.cell i).trans (Array.getElem?_setIfInBounds_self_of_lt (by rw [kArr_size]; exact h64))
          have f5 := D5.frozen i
          repeat still_step
          refine wpStill_nil ?_
          go_wp2_with fail
          clear c5 f5
          refine region_still_tail_w 8 (by kernel_rfl) (by kernel_rfl) ?_
          simp only [List.take_succ_cons, List.take_zero, List.drop_succ_cons, List.drop_zero]
          intro we hwe
          have F5 : Blk we q 89 (kArr 0x36 K (i + 1)) := by
            subst hwe
            have h5 := (D5.set_ i (.int .u8 ((c ^^^ 0x36).toNat : Int))).drew
            rw [Array.setIfInBounds_setIfInBounds, show (kArr 0x36 K i).setIfInBounds i (.int .u8 ((c ^^^ 0x36).toNat : Int)) = kArr 0x36 K (i + 1) from E5.out] at h5
            exact h5
          have F6 : Blk we (q + 1) 89 ((kArr 0x5c K i).setIfInBounds i (.int .u8 92)) := by subst hwe; exact (D6.far (by simp) _).drew
          have Fg : Gr w we := by subst hwe; exact (Dg.setCell (by simp; omega) _).drew
          clear hwe D5 D6 Dg
          have c6 : we.cell? ⟨q + 1, i, none⟩ = some (.int .u8 92) := (F6.cell i).trans (Array.getElem?_setIfInBounds_self_of_lt (by rw [kArr_size]; exact h64))
          have f6 := F6.frozen i
          repeat still_step
          refine wpStill_nil ?_
          go_wp2_with fail
          go_roundw
          case rel =>
            have h6 := F6.set_ i (.int .u8 ((c ^^^ 0x5c).toNat : Int))
            have e6 : ((kArr 0x5c K i).setIfInBounds i (.int .u8 92)).setIfInBounds i (.int .u8 ((c ^^^ 0x5c).toNat : Int)) = kArr 0x5c K (i + 1) := by
              rw [Array.setIfInBounds_setIfInBounds]; exact E6.out
            rw [e6] at h6
            exact ⟨i + 1, by go_num, by omega, F5.far (by simp) _, h6, Fg.setCell (by simp; omega) _⟩
          case measure => simp [intOf]; omega
        · have hiki : ¬ (i : Int) < (K.length : Int) := by omega
          have hgd : K.getD i 0 = 0 := by simp [List.getD]; rw [List.getElem?_eq_none (by omega)]; rfl
          have e5 := kArr_set 0x36 K i
          have e6 := kArr_set 0x5c K i
          rw [hgd, x_zero] at e5 e6
          have E5 := sec e5
          have E6 := sec e6
          clear e5 e6 hgd
          go_wp2_with fail
          go_roundw
          case rel =>
            have h5 := hB5.set_ i (.int .u8 54)
            have h6 := (hB6.far (p := ⟨q, i, none⟩) (by simp) (.int .u8 54)).set_ i (.int .u8 92)
            rw [show (kArr 0x36 K i).setIfInBounds i (.int .u8 54) = kArr 0x36 K (i + 1) from E5.out] at h5
            rw [show (kArr 0x5c K i).setIfInBounds i (.int .u8 92) = kArr 0x5c K (i + 1) from E6.out] at h6
            exact ⟨i + 1, by go_num, by omega, h5.far (by simp) _, h6, (hg.setCell (by simp; omega) _).setCell (by simp; omega) _⟩
          case measure => simp [intOf]; omega
      · obtain rfl : i = 64 := by omega
        clear h64 hi
        rw [show ((64 : Nat) : Int) = 64 from rfl]
        go_wp2_with fail
        have k5 := kArr_full 0x36 K
        have k6 := kArr_full 0x5c K
        have K5 := sec k5
        have K6 := sec k6
        have hP5 : (xorPad 0x36 K).length = 64 := xorPad_len _ _
        have hP6 : (xorPad 0x5c K).length = 64 := xorPad_len _ _
        obtain ⟨P5, hQ5⟩ : ∃ P, P = xorPad 0x36 K := ⟨_, rfl⟩
        obtain ⟨P6, hQ6⟩ : ∃ P, P = xorPad 0x5c K := ⟨_, rfl⟩
        rw [← hQ5, ← hQ6] at HF
        rw [← hQ5] at K5 hP5
        rw [← hQ6] at K6 hP6
        have HP5 := sec hP5
        have HP6 := sec hP6
        have hl5 : ¬ 9223372036854775807 < P5.length + b.length := by omega
        have hl6 : ¬ 9223372036854775807 < P6.length + (sha (P5 ++ b)).length := by rw [sha_len]; omega
        have HL5 : Sec ((P5 ++ b).length ≤ 576460752303423488) := sec (by rw [List.length_append]; omega)
        have HL6 : Sec ((P6 ++ sha (P5 ++ b)).length ≤ 576460752303423488) := sec (by rw [List.length_append, sha_len]; omega)
        clear k5 k6 hQ5 hQ6 hP5 hP6
        go_region_held3 (fun w' => (convert 67 9 (.slice (some ⟨q, 0, none⟩) 64 64)).run Tryd.prog w' = .ok (.string (bs P5)) w' ∧ (convert 67 9 (.slice (some ⟨q + 1, 0, none⟩) 64 64)).run Tryd.prog w' = .ok (.string (bs P6)) w' ∧ Gr w w')
          (first | with_reducible assumption | exact ⟨conv_arr _ hB5.drew K5.out 64 HP5.out, conv_arr _ hB6.drew K6.out 64 HP6.out, hg.drew⟩ | exact ⟨conv_arr _ hB5 K5.out 64 HP5.out, conv_arr _ hB6 K6.out 64 HP6.out, hg⟩ | exact ⟨conv_arr _ e5 K5.out 64 HP5.out, conv_arr _ e6 K6.out 64 HP6.out, eg⟩ | exact ⟨conv_arr _ i5 K5.out 64 HP5.out, conv_arr _ i6 K6.out 64 HP6.out, ig⟩)
          (first
            | (go_at_call 51; with_reducible refine Calls.mono (sum_any (P5 ++ b) _ (hT.gr hg.drew) HL5.out) ?_; rintro e w3 ⟨rfl, k⟩; have e5 := hB5.drew.gr k; have e6 := hB6.drew.gr k; have eg := hg.drew.trans k; clear k)
            | (go_at_call 51; with_reducible refine Calls.mono (sum_any (P6 ++ sha (P5 ++ b)) _ (hT.gr eg) HL6.out) ?_; rintro e w4 ⟨rfl, k⟩; have i5 := e5.gr k; have i6 := e6.gr k; have ig := eg.trans k; clear k))
        all_goals
          go_wp2_with fail
          go_ret
          exact ⟨by rw [HF.out]; rfl, ig⟩
end Go.Proofs.YtbhpglhmnpcnkaaDoor

namespace Go.Proofs.YtbhpglhmnpcnkaaDoor
open Go.RowKit
set_option linter.unusedVariables false

theorem BRow.set {w : World} {B g cap : Nat} {l : List UInt8} (h : BRow w B g cap l) (i : Nat) (hi : i < l.length) (c : UInt8) : BRow (w.setCell ⟨g, i, none⟩ (byteV c)) B g cap (l.set i c) := by
  refine ⟨h.base, by simpa using h.lt, by simpa using h.le, h.max, fun j hj => ⟨?_, by rw [World.frozen?_setCell]; exact (h.there j hj).2⟩, fun j u hu => ?_⟩
  · by_cases e : i = j
    · subst e
      obtain ⟨u, hu⟩ := Option.isSome_iff_exists.1 (h.there i hj).1
      rw [World.cell?_setCell_same w _ _ hu]; rfl
    · rw [World.cell?_setCell_other w _ _ _ (by intro e'; injection e' with _ e2 _; exact e e2)]
      exact (h.there j hj).1
  · by_cases e : i = j
    · subst e
      have : i < cap := Nat.lt_of_lt_of_le hi h.le
      obtain ⟨v, hv⟩ := Option.isSome_iff_exists.1 (h.there i this).1
      rw [World.cell?_setCell_same w _ _ hv]
      rw [← hu]
      simp [hi]
    · rw [World.cell?_setCell_other w _ _ _ (by intro e'; injection e' with _ e2 _; exact e e2)]
      refine h.at_ j u ?_
      rw [← hu]
      simp [e]

/-- the first i bytes turned -/
def mixL (x : UInt8) (K : List UInt8) (i : Nat) : List UInt8 := (K.take i).map (· ^^^ x) ++ K.drop i
theorem mixL_len (x : UInt8) (K : List UInt8) (i : Nat) : (mixL x K i).length = K.length := by
  unfold mixL
  rw [List.length_append, List.length_map, List.length_take, List.length_drop]
  omega
theorem mixL_set (x : UInt8) (K : List UInt8) (i : Nat) (hi : i < K.length) : (mixL x K i).set i (K[i] ^^^ x) = mixL x K (i + 1) := by
  unfold mixL
  have hl : ((K.take i).map (· ^^^ x)).length = i := by rw [List.length_map, List.length_take]; omega
  rw [List.set_append_right _ _ (by omega), hl, Nat.sub_self, List.drop_eq_getElem_cons hi, List.take_succ_eq_append_getElem hi, List.map_append]
  simp only [List.set_cons_zero, List.map_cons, List.map_nil, List.append_assoc, List.cons_append, List.nil_append]
theorem mixL_at (x : UInt8) (K : List UInt8) (i : Nat) (hi : i < K.length) : (mixL x K i)[i]'(by rw [mixL_len]; exact hi) = K[i] := by
  unfold mixL
  have hl : ((K.take i).map (· ^^^ x)).length = i := by rw [List.length_map, List.length_take]; omega
  rw [List.getElem_append_right (by omega)]
  simp only [hl, Nat.sub_self, List.getElem_drop, Nat.add_zero]

set_option maxRecDepth 100000 in
set_option maxHeartbeats 1000000 in
theorem seal1_any (x : UInt8) (q : Nat) (K : List UInt8) (w : World) (hc : w.cell? ⟨q, 0, none⟩ = some (.string (bs K))) (hK : K.length ≤ 4611686018427387904) :
    Calls Tryd.prog 59 #[.int .u8 (x.toNat : Int), .pointer (some ⟨q, 0, none⟩)] w fun e w' => e = .returned (.string (bs (K.map (· ^^^ x)))) ∧ Gr w w' := by
  obtain ⟨w2, cap, hcv, hg2, hB⟩ := conv_brow Tryd.underlying9 Tryd.underlying67 Tryd.underlying5 w K (by unfold maxLen; omega)
  have hM : mixL x K 0 = K := rfl
  go_enter Tryd.func59, Tryd.ntmps59
  go_wp2_with fail
  go_loopw [10, 5] (fun iv _ wr => ∃ i : Nat, iv = .int .i64 (i : Int) ∧ i ≤ K.length ∧ BRow wr w.heap.size w.heap.size cap (mixL x K i) ∧ Gr w wr)
    (fun iv _ _ => K.length - (intOf iv).toNat)
  case atStart => exact ⟨0, rfl, by omega, by rw [hM]; exact hB, hg2⟩
  case round =>
    clear hM hcv hB hg2 hc
    obtain ⟨i, rfl, hi, hB, hg⟩ := hrel
    have hl := mixL_len x K i
    by_cases hlt : i < K.length
    · have hli : (i : Int) < (K.length : Int) := by omega
      have hcl := hB.at_ i (byteV K[i]) (by rw [List.getElem?_map, List.getElem?_eq_getElem (by omega), mixL_at x K i hlt]; rfl)
      have hf := (hB.there i (by have := hB.le; omega)).2
      obtain ⟨c, hcc⟩ : ∃ c, c = K[i] := ⟨_, rfl⟩
      have hset := mixL_set x K i hlt
      rw [← hcc] at hset hcl
      have HS := sec hset
      unfold byteV at hcl
      have HL := sec (show i < (mixL x K i).length by omega)
      have hx : bits .xor .u8 (c.toNat : Int) (x.toNat : Int) = ((c ^^^ x).toNat : Int) := by
        have h1 := c.toNat_lt
        have h2 := x.toNat_lt
        rw [u8_xor_nat c.toNat x.toNat (by omega) (by omega), UInt8.toNat_xor]
      clear hset hcc hl
      go_wp2_with fail
      go_roundw
      case rel =>
        refine ⟨i + 1, by go_num, by omega, ?_, hg.setCell (by simp) _⟩
        rw [← HS.out]
        exact hB.set i HL.out (c ^^^ x)
      case measure => simp [intOf]; omega
    · obtain rfl : i = K.length := by omega
      have he : mixL x K K.length = K.map (· ^^^ x) := by unfold mixL; simp
      have hcv := hB.conv Tryd.underlying67 Tryd.underlying5 Tryd.underlying9
      rw [hl, he] at hcv
      clear hl he hlt hi
      go_wp2_with fail
      go_ret
      exact ⟨rfl, hg⟩

def padK (K : List UInt8) : List UInt8 := K ++ List.replicate (64 - K.length) 0
theorem padK_xor (x : UInt8) (K : List UInt8) (h : K.length ≤ 64) : (padK K).map (· ^^^ x) = xorPad x K := by
  apply List.ext_getElem
  · rw [xorPad_len]; unfold padK; simp; omega
  · intro i h1 h2
    unfold padK xorPad at *
    simp only [List.getElem_map, List.getElem_range]
    by_cases e : i < K.length
    · rw [List.getElem_append_left e]; simp [e]
    · rw [List.getElem_append_right (by omega)]
      simp only [List.getElem_replicate]
      have : K.getD i 0 = 0 := by simp [List.getD]; rw [List.getElem?_eq_none (by omega)]; rfl
      rw [this]

set_option maxRecDepth 100000 in
set_option maxHeartbeats 1000000 in
theorem rseal_any (key b : List UInt8) (w : World) (hk : key.length ≤ 288230376151711744) (hb : b.length ≤ 288230376151711744) :
    Calls Tryd.prog 35 #[.string (bs key), .string (bs b)] w fun e w' => e = .returned (.string (bs (seal' key b))) ∧ Gr w w' := by
  obtain ⟨K, hK⟩ : ∃ K, K = keyOf key := ⟨_, rfl⟩
  have hKl : K.length ≤ 64 := by rw [hK]; exact keyOf_len key
  have HF : Sec (seal' key b = sha (xorPad 0x5c K ++ sha (xorPad 0x36 K ++ b))) := sec (by rw [hK]; rfl)
  have HK := sec hK
  have hmf : ∀ (fn : Fn) (first cap : Array Value) (w : World), (Instr.makeFunc fn first cap).run Tryd.prog w = .ok (.func fn first cap) w := fun _ _ _ _ => rfl
  clear hK
  have K5 := sec (padK_xor 0x5c K hKl)
  have K6 := sec (padK_xor 0x36 K hKl)
  have c5 : ∀ (q : Nat) (w : World), w.cell? ⟨q, 0, none⟩ = some (.string (bs (padK K))) → Calls Tryd.prog 59 #[.int .u8 92, .pointer (some ⟨q, 0, none⟩)] w fun e w' => e = .returned (.string (bs (xorPad 0x5c K))) ∧ Gr w w' := by
    intro q w hc
    rw [← K5.out]
    exact seal1_any 0x5c q (padK K) w hc (by unfold padK; simp; omega)
  have c6 : ∀ (q : Nat) (w : World), w.cell? ⟨q, 0, none⟩ = some (.string (bs (padK K))) → Calls Tryd.prog 59 #[.int .u8 54, .pointer (some ⟨q, 0, none⟩)] w fun e w' => e = .returned (.string (bs (xorPad 0x36 K))) ∧ Gr w w' := by
    intro q w hc
    rw [← K6.out]
    exact seal1_any 0x36 q (padK K) w hc (by unfold padK; simp; omega)
  have C5 := sec c5
  have C6 := sec c6
  clear c5 c6
  by_cases hlt : 64 < key.length
  · have HS : Sec (sha key = K) := sec (by rw [HK.out]; unfold keyOf; rw [if_pos hlt])
    have hlti : (64 : Int) < (key.length : Int) := by omega
    go_enter Tryd.func35, Tryd.ntmps35
    go_wp2_with (go_at_call 48; refine (rsum_any key _ (by omega)).mono ?_; rw [HS.out]; rintro e w1 ⟨rfl, g1⟩; have hb1 := (Blk.new w 9 #[Value.string (bs key)]).gr g1; have hc1 := hb1.cell 0; have hf1 := hb1.frozen 0)
    obtain ⟨q, hq⟩ : ∃ q, q = w.heap.size := ⟨_, rfl⟩
    have hqs : w.heap.size ≤ q := by rw [hq]; exact Nat.le_refl _
    have HB : Sec (Blk (w1.setCell ⟨q, 0, none⟩ (.string (bs K))) q 9 #[.string (bs K)]) := sec (by
      rw [hq]
      exact hb1.set_ 0 (.string (bs K)))
    have HG : Sec (Gr w (w1.setCell ⟨q, 0, none⟩ (.string (bs K)))) := sec ((Gr.trans ((Gr.refl w).alloc _) g1).setCell (by simpa using hqs) _)
    clear hb1 hc1 hf1 g1
    rw [← hq]
    clear hq
    go_loopw [] (fun wr => ∃ j : Nat, j ≤ 64 - K.length ∧ Blk wr q 9 #[.string (bs (K ++ List.replicate j 0))] ∧ Gr w wr)
      (fun wr => 64 - lenOf ((wr.cell? ⟨q, 0, none⟩).getD (.int .i64 0)))
    case atStart => exact ⟨0, by omega, by rw [List.replicate_zero, List.append_nil]; exact HB.out, HG.out⟩
    case round =>
      obtain ⟨j, hj, hB, hg⟩ := hrel
      have hc := hB.cell 0
      have hf := hB.frozen 0
      have hll : (K ++ List.replicate j (0 : UInt8)).length = K.length + j := by simp
      by_cases hjl : j < 64 - K.length
      · obtain ⟨L, hL⟩ : ∃ L, L = K ++ List.replicate j (0 : UInt8) := ⟨_, rfl⟩
        rw [← hL] at hc hB hll
        have hlt : (L.length : Int) < 64 := by omega
        have h63 : ¬ 9223372036854775807 < L.length + 1 := by omega
        have HL := sec hL
        have HJ := sec hjl
        simp at hc
        clear hL hjl hj hll
        go_wp2_with fail
        go_roundw
        case rel => exact ⟨j + 1, by have := HJ.out; omega, by rw [List.replicate_succ', ← List.append_assoc, ← HL.out]; exact hB.set_ 0 _, hg.setCell (by simpa using hqs) _⟩
        case measure =>
          have h2 := (hB.set_ 0 (.string (bs (L ++ [0])))).cell 0
          simp [h2, hc, lenOf, bs_size]
          omega
      · obtain rfl : j = 64 - K.length := by omega
        have hlt : ¬ ((K ++ List.replicate (64 - K.length) (0 : UInt8)).length : Int) < 64 := by omega
        have HP : K ++ List.replicate (64 - K.length) (0 : UInt8) = padK K := rfl
        rw [HP] at hc hB hlt
        simp at hc
        clear hll hj hjl HP
        have hP5 : (xorPad 0x5c K).length = 64 := xorPad_len _ _
        have hP6 : (xorPad 0x36 K).length = 64 := xorPad_len _ _
        obtain ⟨P5, hQ5⟩ : ∃ P, P = xorPad 0x5c K := ⟨_, rfl⟩
        obtain ⟨P6, hQ6⟩ : ∃ P, P = xorPad 0x36 K := ⟨_, rfl⟩
        rw [← hQ5, ← hQ6] at HF
        rw [← hQ5] at hP5 C5
        rw [← hQ6] at hP6 C6
        have hl6 : ¬ 9223372036854775807 < P6.length + b.length := by omega
        have hl5 : ¬ 9223372036854775807 < P5.length + (sha (P6 ++ b)).length := by rw [sha_len]; omega
        have HL6 : Sec ((P6 ++ b).length ≤ 576460752303423488) := sec (by rw [List.length_append]; omega)
        have HL5 : Sec ((P5 ++ sha (P6 ++ b)).length ≤ 576460752303423488) := sec (by rw [List.length_append, sha_len]; omega)
        clear hQ5 hQ6 hP5 hP6
        go_wp2_with (first
          | (go_at_call 59; with_reducible refine Calls.mono (C5.out q _ hc) ?_; rintro e w3 ⟨rfl, g3⟩; have c3 := (hB.gr g3).cell 0; simp at c3; have gg3 := hg.trans g3)
          | (go_at_call 59; with_reducible refine Calls.mono (C6.out q _ c3) ?_; rintro e w4 ⟨rfl, g4⟩; have gg4 := gg3.trans g4)
          | (go_at_call 48; with_reducible refine Calls.mono (rsum_any (P6 ++ b) _ HL6.out) ?_; rintro e w5 ⟨rfl, g5⟩; have gg5 := gg4.trans g5)
          | (go_at_call 48; with_reducible refine Calls.mono (rsum_any (P5 ++ sha (P6 ++ b)) _ HL5.out) ?_; rintro e w6 ⟨rfl, g6⟩; have gg6 := gg5.trans g6))
        go_ret
        exact ⟨by rw [HF.out]; rfl, gg6⟩
  · have hlti : ¬ (64 : Int) < (key.length : Int) := by omega
    obtain rfl : K = key := by rw [HK.out]; unfold keyOf; rw [if_neg hlt]
    go_enter Tryd.func35, Tryd.ntmps35
    go_wp2_with fail
    obtain ⟨q, hq⟩ : ∃ q, q = w.heap.size := ⟨_, rfl⟩
    have hqs : w.heap.size ≤ q := by rw [hq]; exact Nat.le_refl _
    have HB : Sec (Blk (w.alloc (.cells #[.string (bs K)] 9)) q 9 #[.string (bs K)]) := sec (by
      rw [hq]
      exact Blk.new w _ _)
    have HG : Sec (Gr w (w.alloc (.cells #[.string (bs K)] 9))) := sec ((Gr.refl w).alloc _)
    rw [← hq]
    clear hq
    go_loopw [] (fun wr => ∃ j : Nat, j ≤ 64 - K.length ∧ Blk wr q 9 #[.string (bs (K ++ List.replicate j 0))] ∧ Gr w wr)
      (fun wr => 64 - lenOf ((wr.cell? ⟨q, 0, none⟩).getD (.int .i64 0)))
    case atStart => exact ⟨0, by omega, by rw [List.replicate_zero, List.append_nil]; exact HB.out, HG.out⟩
    case round =>
      obtain ⟨j, hj, hB, hg⟩ := hrel
      have hc := hB.cell 0
      have hf := hB.frozen 0
      have hll : (K ++ List.replicate j (0 : UInt8)).length = K.length + j := by simp
      by_cases hjl : j < 64 - K.length
      · obtain ⟨L, hL⟩ : ∃ L, L = K ++ List.replicate j (0 : UInt8) := ⟨_, rfl⟩
        rw [← hL] at hc hB hll
        have hlt : (L.length : Int) < 64 := by omega
        have h63 : ¬ 9223372036854775807 < L.length + 1 := by omega
        have HL := sec hL
        have HJ := sec hjl
        simp at hc
        clear hL hjl hj hll
        go_wp2_with fail
        go_roundw
        case rel => exact ⟨j + 1, by have := HJ.out; omega, by rw [List.replicate_succ', ← List.append_assoc, ← HL.out]; exact hB.set_ 0 _, hg.setCell (by simpa using hqs) _⟩
        case measure =>
          have h2 := (hB.set_ 0 (.string (bs (L ++ [0])))).cell 0
          simp [h2, hc, lenOf, bs_size]
          omega
      · obtain rfl : j = 64 - K.length := by omega
        have hlt : ¬ ((K ++ List.replicate (64 - K.length) (0 : UInt8)).length : Int) < 64 := by omega
        have HP : K ++ List.replicate (64 - K.length) (0 : UInt8) = padK K := rfl
        rw [HP] at hc hB hlt
        simp at hc
        clear hll hj hjl HP
        have hP5 : (xorPad 0x5c K).length = 64 := xorPad_len _ _
        have hP6 : (xorPad 0x36 K).length = 64 := xorPad_len _ _
        obtain ⟨P5, hQ5⟩ : ∃ P, P = xorPad 0x5c K := ⟨_, rfl⟩
        obtain ⟨P6, hQ6⟩ : ∃ P, P = xorPad 0x36 K := ⟨_, rfl⟩
        rw [← hQ5, ← hQ6] at HF
        rw [← hQ5] at hP5 C5
        rw [← hQ6] at hP6 C6
        have hl6 : ¬ 9223372036854775807 < P6.length + b.length := by omega
        have hl5 : ¬ 9223372036854775807 < P5.length + (sha (P6 ++ b)).length := by rw [sha_len]; omega
        have HL6 : Sec ((P6 ++ b).length ≤ 576460752303423488) := sec (by rw [List.length_append]; omega)
        have HL5 : Sec ((P5 ++ sha (P6 ++ b)).length ≤ 576460752303423488) := sec (by rw [List.length_append, sha_len]; omega)
        clear hQ5 hQ6 hP5 hP6
        go_wp2_with (first
          | (go_at_call 59; with_reducible refine Calls.mono (C5.out q _ hc) ?_; rintro e w3 ⟨rfl, g3⟩; have c3 := (hB.gr g3).cell 0; simp at c3; have gg3 := hg.trans g3)
          | (go_at_call 59; with_reducible refine Calls.mono (C6.out q _ c3) ?_; rintro e w4 ⟨rfl, g4⟩; have gg4 := gg3.trans g4)
          | (go_at_call 48; with_reducible refine Calls.mono (rsum_any (P6 ++ b) _ HL6.out) ?_; rintro e w5 ⟨rfl, g5⟩; have gg5 := gg4.trans g5)
          | (go_at_call 48; with_reducible refine Calls.mono (rsum_any (P5 ++ sha (P6 ++ b)) _ HL5.out) ?_; rintro e w6 ⟨rfl, g6⟩; have gg6 := gg5.trans g6))
        go_ret
        exact ⟨by rw [HF.out]; rfl, gg6⟩
end Go.Proofs.YtbhpglhmnpcnkaaDoor

namespace Go.Proofs.YtbhpglhmnpcnkaaDoor
set_option maxRecDepth 100000
open Go.RowKit
set_option linter.unusedVariables false

theorem aggMark : AggOk 37 2 := ⟨⟨_, Tryd.underlying37, rfl⟩, by kernel_rfl⟩
def markC (n : Int) (r : List UInt8) : Array Value := #[.int .i64 n, .string (bs r)]
theorem markC_one (n : Int) (r : List UInt8) : (markC n r).all (·.oneCell') = true := by simp [markC, Value.oneCell']
def hd4 : List UInt8 := [104, 101, 97, 100]
/-- P11.4: who, the seal, the error -/
def hdMk (who : Int) (key : List UInt8) (n : Int) (r : List UInt8) : Int × List UInt8 × Int :=
  if (hdTxt n r).2 = 0 then (if who < 0 ∨ 4 ≤ who then (0, [], 3) else (who, seal' key (hd4 ++ (hdTxt n r).1), 0)) else (0, [], (hdTxt n r).2)
theorem hdTxt_len (n : Int) (r : List UInt8) : (hdTxt n r).1.length ≤ 64 := by
  unfold hdTxt
  split
  · rename_i hE
    obtain ⟨h0, h1, h2⟩ := hdE_zero hE
    have hnl : (numS n).length ≤ 9 := by rw [numS_in h0 (by omega)]; exact num_len9 (by omega)
    simp only [List.length_append]
    omega
  · simp

set_option maxHeartbeats 4000000 in
theorem hmark_any (who : Int) (key : List UInt8) (n : Int) (r : List UInt8) (w : World) (hT : TabK w) (hk : key.length ≤ 1099511627776) (hr : r.length ≤ 1099511627776) :
    Calls Tryd.prog 12 #[.int .i64 who, .string (bs key), .agg (headC n r)] w fun e w' => e = .returned (.tuple #[.agg (markC (hdMk who key n r).1 (hdMk who key n r).2.1), .int .i64 (hdMk who key n r).2.2]) ∧ Gr w w' := by
  have hx := hdTxt_len n r
  have HTx := sec (fun w => htext_any n r w hr)
  have HSe : Sec (∀ w', Gr w w' → Calls Tryd.prog 34 #[.string (bs key), .string (bs (hd4 ++ (hdTxt n r).1))] w' fun e w'' => e = .returned (.string (bs (seal' key (hd4 ++ (hdTxt n r).1)))) ∧ Gr w' w'') := sec (fun w' g => seal_any key _ w' (hT.gr g) (by omega) (by simp only [List.length_append, hd4, List.length_cons, List.length_nil]; omega))
  obtain ⟨wa, hwa⟩ : ∃ x, x = (w.alloc (.cells (headC n r) 26)).alloc (.cells (markC 0 []) 37) := ⟨_, rfl⟩
  have hb : Blk wa w.heap.size 26 (headC n r) := by rw [hwa]; exact (Blk.new w _ _).alloc _
  have hm : Blk wa (w.heap.size + 1) 37 (markC 0 []) := by rw [hwa]; exact Blk.new1 w _ _ _
  have hg0 : Gr w wa := by rw [hwa]; exact ((Gr.refl w).alloc _).alloc _
  obtain ⟨p, hp⟩ : ∃ p, p = w.heap.size := ⟨_, rfl⟩
  have hwp : w.heap.size ≤ p + 1 := by omega
  rw [← hp] at hb hm
  unfold hdMk
  obtain ⟨tx, htx⟩ : ∃ t, t = (hdTxt n r).1 := ⟨_, rfl⟩
  obtain ⟨te, hte⟩ : ∃ t, t = (hdTxt n r).2 := ⟨_, rfl⟩
  rw [← htx, ← hte] at HTx
  rw [← htx] at HSe hx
  rw [← htx, ← hte]
  obtain ⟨S, hS⟩ : ∃ S, S = seal' key (hd4 ++ tx) := ⟨_, rfl⟩
  rw [← hS] at HSe
  rw [← hS]
  have HB := sec hb
  have HM := sec hm
  have c0 : wa.cell? ⟨p, 0, none⟩ = some (.int .i64 n) := hb.cell 0
  have c1 : wa.cell? ⟨p, 1, none⟩ = some (.string (bs r)) := hb.cell 1
  have HCELL : Sec (∀ w', Gr wa w' → w'.cell? ⟨p + 1, 0, none⟩ = some (.int .i64 0) ∧ w'.cell? ⟨p + 1, 1, none⟩ = some (.string (bs [])) ∧ w'.frozen? ⟨p + 1, 0, none⟩ = false ∧ w'.frozen? ⟨p + 1, 1, none⟩ = false) := sec (fun w' g => ⟨(HM.out.gr g).cell 0, (HM.out.gr g).cell 1, (HM.out.gr g).frozen 0, (HM.out.gr g).frozen 1⟩)
  have HC4 : Sec ((bs (hd4 ++ tx)) = { data := #[104, 101, 97, 100] } ++ bs tx) := sec (bs_append hd4 tx).symm
  have hcat : ¬ 9223372036854775807 < 4 + tx.length := by omega
  clear hb hm hx htx hte hS hT hk hr
  unfold headC at HTx hwa
  unfold markC at hwa
  unfold headC markC
  by_cases h0 : te = 0
  · rw [if_pos h0]
    subst h0
    by_cases h1 : who < 0
    · rw [if_pos (Or.inl h1)]
      have d1 : decide (who < 0) = true := decide_eq_true h1
      go_enter Tryd.func12, Tryd.ntmps12
      go_wp2_with (first
        | (rw [← hwa, ← hp]; clear hwa hp; go_wp2_with fail)
        | (go_at_call 15; refine Calls.mono (HTx.out _) ?_; rintro e w1 ⟨rfl, g1⟩; obtain ⟨y0, y1, z0, z1⟩ := HCELL.out w1 g1))
      refine bodyPost_ret (results_blk_tmp rfl _ rfl (((HM.out.gr g1).set_ 0 (.int .i64 0)).set_ 1 (.string (bs []))) aggMark) rfl ?_
      exact ⟨rfl, ((hg0.trans g1).setCell (p := ⟨p + 1, 0, none⟩) hwp _).setCell (p := ⟨p + 1, 1, none⟩) hwp _⟩
    · by_cases h2 : 4 ≤ who
      · rw [if_pos (Or.inr h2)]
        have d1 : decide (who < 0) = false := decide_eq_false h1
        have d2 : decide (4 ≤ who) = true := decide_eq_true (by omega)
        go_enter Tryd.func12, Tryd.ntmps12
        go_wp2_with (first
          | (rw [← hwa, ← hp]; clear hwa hp; go_wp2_with fail)
          | (go_at_call 15; refine Calls.mono (HTx.out _) ?_; rintro e w1 ⟨rfl, g1⟩; obtain ⟨y0, y1, z0, z1⟩ := HCELL.out w1 g1))
        refine bodyPost_ret (results_blk_tmp rfl _ rfl (((HM.out.gr g1).set_ 0 (.int .i64 0)).set_ 1 (.string (bs []))) aggMark) rfl ?_
        exact ⟨rfl, ((hg0.trans g1).setCell (p := ⟨p + 1, 0, none⟩) hwp _).setCell (p := ⟨p + 1, 1, none⟩) hwp _⟩
      · rw [if_neg (by omega)]
        have d1 : decide (who < 0) = false := decide_eq_false h1
        have d2 : decide (4 ≤ who) = false := decide_eq_false (by omega)
        rw [HC4.out] at HSe
        go_enter Tryd.func12, Tryd.ntmps12
        go_wp2_with (first
          | (rw [← hwa, ← hp]; clear hwa hp; go_wp2_with fail)
          | (go_at_call 15; refine Calls.mono (HTx.out _) ?_; rintro e w1 ⟨rfl, g1⟩)
          | (go_at_call 34; refine Calls.mono (HSe.out _ (hg0.trans g1)) ?_; rintro e w2 ⟨rfl, g2⟩; obtain ⟨y0, y1, z0, z1⟩ := HCELL.out w2 (g1.trans g2)))
        refine bodyPost_ret (results_blk_tmp rfl _ rfl (((HM.out.gr (g1.trans g2)).set_ 0 (.int .i64 who)).set_ 1 (.string (bs S))) aggMark) rfl ?_
        exact ⟨rfl, ((hg0.trans (g1.trans g2)).setCell (p := ⟨p + 1, 0, none⟩) hwp _).setCell (p := ⟨p + 1, 1, none⟩) hwp _⟩
  · rw [if_neg h0]
    have m0 : (te != 0) = true := by simpa using h0
    go_enter Tryd.func12, Tryd.ntmps12
    go_wp2_with (first
      | (rw [← hwa, ← hp]; clear hwa hp; go_wp2_with fail)
      | (go_at_call 15; refine Calls.mono (HTx.out _) ?_; rintro e w1 ⟨rfl, g1⟩; obtain ⟨y0, y1, z0, z1⟩ := HCELL.out w1 g1))
    refine bodyPost_ret (results_blk_tmp rfl _ rfl (((HM.out.gr g1).set_ 0 (.int .i64 0)).set_ 1 (.string (bs []))) aggMark) rfl ?_
    exact ⟨rfl, ((hg0.trans g1).setCell (p := ⟨p + 1, 0, none⟩) hwp _).setCell (p := ⟨p + 1, 1, none⟩) hwp _⟩

set_option maxHeartbeats 4000000 in
theorem rhmark_any (who : Int) (key : List UInt8) (n : Int) (r : List UInt8) (w : World) (hT : TabK w) (hk : key.length ≤ 1099511627776) (hr : r.length ≤ 1099511627776) :
    Calls Tryd.prog 13 #[.int .i64 who, .string (bs key), .agg (headC n r)] w fun e w' => e = .returned (.tuple #[.agg (markC (hdMk who key n r).1 (hdMk who key n r).2.1), .int .i64 (hdMk who key n r).2.2]) ∧ Gr w w' := by
  have hx := hdTxt_len n r
  have HTx := sec (fun w => rhtext_any n r w hr)
  have HSe : Sec (∀ w', Gr w w' → Calls Tryd.prog 35 #[.string (bs key), .string (bs (hd4 ++ (hdTxt n r).1))] w' fun e w'' => e = .returned (.string (bs (seal' key (hd4 ++ (hdTxt n r).1)))) ∧ Gr w' w'') := sec (fun w' g => rseal_any key _ w' (by omega) (by simp only [List.length_append, hd4, List.length_cons, List.length_nil]; omega))
  obtain ⟨wa, hwa⟩ : ∃ x, x = (w.alloc (.cells (headC n r) 26)).alloc (.cells (markC 0 []) 37) := ⟨_, rfl⟩
  have hb : Blk wa w.heap.size 26 (headC n r) := by rw [hwa]; exact (Blk.new w _ _).alloc _
  have hm : Blk wa (w.heap.size + 1) 37 (markC 0 []) := by rw [hwa]; exact Blk.new1 w _ _ _
  have hg0 : Gr w wa := by rw [hwa]; exact ((Gr.refl w).alloc _).alloc _
  obtain ⟨p, hp⟩ : ∃ p, p = w.heap.size := ⟨_, rfl⟩
  have hwp : w.heap.size ≤ p + 1 := by omega
  rw [← hp] at hb hm
  unfold hdMk
  obtain ⟨tx, htx⟩ : ∃ t, t = (hdTxt n r).1 := ⟨_, rfl⟩
  obtain ⟨te, hte⟩ : ∃ t, t = (hdTxt n r).2 := ⟨_, rfl⟩
  rw [← htx, ← hte] at HTx
  rw [← htx] at HSe hx
  rw [← htx, ← hte]
  obtain ⟨S, hS⟩ : ∃ S, S = seal' key (hd4 ++ tx) := ⟨_, rfl⟩
  rw [← hS] at HSe
  rw [← hS]
  have HB := sec hb
  have HM := sec hm
  have c0 : wa.cell? ⟨p, 0, none⟩ = some (.int .i64 n) := hb.cell 0
  have c1 : wa.cell? ⟨p, 1, none⟩ = some (.string (bs r)) := hb.cell 1
  have HCELL : Sec (∀ w', Gr wa w' → w'.cell? ⟨p + 1, 0, none⟩ = some (.int .i64 0) ∧ w'.cell? ⟨p + 1, 1, none⟩ = some (.string (bs [])) ∧ w'.frozen? ⟨p + 1, 0, none⟩ = false ∧ w'.frozen? ⟨p + 1, 1, none⟩ = false) := sec (fun w' g => ⟨(HM.out.gr g).cell 0, (HM.out.gr g).cell 1, (HM.out.gr g).frozen 0, (HM.out.gr g).frozen 1⟩)
  have HC4 : Sec ((bs (hd4 ++ tx)) = { data := #[104, 101, 97, 100] } ++ bs tx) := sec (bs_append hd4 tx).symm
  have hcat : ¬ 9223372036854775807 < 4 + tx.length := by omega
  clear hb hm hx htx hte hS hT hk hr
  unfold headC at HTx hwa
  unfold markC at hwa
  unfold headC markC
  by_cases h0 : te = 0
  · rw [if_pos h0]
    subst h0
    by_cases h1 : who < 0
    · rw [if_pos (Or.inl h1)]
      have d1 : decide (who < 0) = true := decide_eq_true h1
      go_enter Tryd.func13, Tryd.ntmps13
      go_wp2_with (first
        | (rw [← hwa, ← hp]; clear hwa hp; go_wp2_with fail)
        | (go_at_call 16; refine Calls.mono (HTx.out _) ?_; rintro e w1 ⟨rfl, g1⟩; obtain ⟨y0, y1, z0, z1⟩ := HCELL.out w1 g1))
      refine bodyPost_ret (results_blk_tmp rfl _ rfl (((HM.out.gr g1).set_ 0 (.int .i64 0)).set_ 1 (.string (bs []))) aggMark) rfl ?_
      exact ⟨rfl, ((hg0.trans g1).setCell (p := ⟨p + 1, 0, none⟩) hwp _).setCell (p := ⟨p + 1, 1, none⟩) hwp _⟩
    · by_cases h2 : 4 ≤ who
      · rw [if_pos (Or.inr h2)]
        have d1 : decide (who < 0) = false := decide_eq_false h1
        have d2 : decide (3 < who) = true := decide_eq_true (by omega)
        go_enter Tryd.func13, Tryd.ntmps13
        go_wp2_with (first
          | (rw [← hwa, ← hp]; clear hwa hp; go_wp2_with fail)
          | (go_at_call 16; refine Calls.mono (HTx.out _) ?_; rintro e w1 ⟨rfl, g1⟩; obtain ⟨y0, y1, z0, z1⟩ := HCELL.out w1 g1))
        refine bodyPost_ret (results_blk_tmp rfl _ rfl (((HM.out.gr g1).set_ 0 (.int .i64 0)).set_ 1 (.string (bs []))) aggMark) rfl ?_
        exact ⟨rfl, ((hg0.trans g1).setCell (p := ⟨p + 1, 0, none⟩) hwp _).setCell (p := ⟨p + 1, 1, none⟩) hwp _⟩
      · rw [if_neg (by omega)]
        have d1 : decide (who < 0) = false := decide_eq_false h1
        have d2 : decide (3 < who) = false := decide_eq_false (by omega)
        rw [HC4.out] at HSe
        go_enter Tryd.func13, Tryd.ntmps13
        go_wp2_with (first
          | (rw [← hwa, ← hp]; clear hwa hp; go_wp2_with fail)
          | (go_at_call 16; refine Calls.mono (HTx.out _) ?_; rintro e w1 ⟨rfl, g1⟩)
          | (go_at_call 35; refine Calls.mono (HSe.out _ (hg0.trans g1)) ?_; rintro e w2 ⟨rfl, g2⟩; obtain ⟨y0, y1, z0, z1⟩ := HCELL.out w2 (g1.trans g2)))
        refine bodyPost_ret (results_blk_tmp rfl _ rfl (((HM.out.gr (g1.trans g2)).set_ 0 (.int .i64 who)).set_ 1 (.string (bs S))) aggMark) rfl ?_
        exact ⟨rfl, ((hg0.trans (g1.trans g2)).setCell (p := ⟨p + 1, 0, none⟩) hwp _).setCell (p := ⟨p + 1, 1, none⟩) hwp _⟩
  · rw [if_neg h0]
    have m0 : (te != 0) = true := by simpa using h0
    go_enter Tryd.func13, Tryd.ntmps13
    go_wp2_with (first
      | (rw [← hwa, ← hp]; clear hwa hp; go_wp2_with fail)
      | (go_at_call 16; refine Calls.mono (HTx.out _) ?_; rintro e w1 ⟨rfl, g1⟩; obtain ⟨y0, y1, z0, z1⟩ := HCELL.out w1 g1))
    refine bodyPost_ret (results_blk_tmp rfl _ rfl (((HM.out.gr g1).set_ 0 (.int .i64 0)).set_ 1 (.string (bs []))) aggMark) rfl ?_
    exact ⟨rfl, ((hg0.trans g1).setCell (p := ⟨p + 1, 0, none⟩) hwp _).setCell (p := ⟨p + 1, 1, none⟩) hwp _⟩
end Go.Proofs.YtbhpglhmnpcnkaaDoor

namespace Go.Proofs.YtbhpglhmnpcnkaaDoor

abbrev Two2 := List UInt8 × List UInt8
/-- from above: the last sum first; the roots of the first m and of all n, and whether that is all -/
def bothR (old : List UInt8) : Nat → Nat → Bool → List (List UInt8) → Option Two2
  | m, n, wh, [] => if m = n then (if wh then some (old, old) else none) else none
  | m, n, wh, last :: r =>
    if m = n then (if wh then none else match r with | [] => some (last, last) | _ :: _ => none)
    else if m ≤ halfN n then (bothR old m (halfN n) wh r).map fun x => (x.1, nodeH x.2 last)
    else (bothR old (m - halfN n) (n - halfN n) false r).map fun x => (nodeH last x.1, nodeH last x.2)

theorem bothR_nil (old : List UInt8) (m n : Nat) (wh : Bool) : bothR old m n wh [] = if m = n then (if wh then some (old, old) else none) else none := by unfold bothR; rfl
theorem bothR_cons (old : List UInt8) (m n : Nat) (wh : Bool) (last : List UInt8) (r : List (List UInt8)) : bothR old m n wh (last :: r) = if m = n then (if wh then none else match r with | [] => some (last, last) | _ :: _ => none)
    else if m ≤ halfN n then (bothR old m (halfN n) wh r).map fun x => (x.1, nodeH x.2 last)
    else (bothR old (m - halfN n) (n - halfN n) false r).map fun x => (nodeH last x.1, nodeH last x.2) := by
  cases r <;> rfl

def stOnes (at_ last : Nat) : Nat × Nat := if _h : at_ % 2 = 1 then stOnes (at_ / 2) (last / 2) else (at_, last)
termination_by at_
decreasing_by omega
theorem stOnes_odd {a l : Nat} (h : a % 2 = 1) : stOnes a l = stOnes (a / 2) (l / 2) := by rw [stOnes, dif_pos h]
theorem stOnes_even {a l : Nat} (h : a % 2 = 0) : stOnes a l = (a, l) := by rw [stOnes, dif_neg (by omega)]
def ss2 (a l : Nat) : List Bool := sides (stOnes a l).1 (stOnes a l).2
theorem stOnes_fst : ∀ (a l l' : Nat), (stOnes a l).1 = (stOnes a l').1 := by
  intro a
  induction a using Nat.strongRecOn with
  | ind a ih =>
    intro l l'
    by_cases h : a % 2 = 1
    · rw [stOnes_odd h, stOnes_odd (l := l') h]; exact ih (a / 2) (by omega) _ _
    · rw [stOnes_even (by omega), stOnes_even (l := l') (by omega)]
theorem stOnes_le : ∀ (a l : Nat), a ≤ l → (stOnes a l).1 ≤ (stOnes a l).2 := by
  intro a
  induction a using Nat.strongRecOn with
  | ind a ih =>
    intro l hl
    by_cases h : a % 2 = 1
    · rw [stOnes_odd h]; exact ih (a / 2) (by omega) _ (by omega)
    · rw [stOnes_even (by omega)]; exact hl
theorem stOnes_lt : ∀ (a l : Nat), a < l → (stOnes a l).1 < (stOnes a l).2 := by
  intro a
  induction a using Nat.strongRecOn with
  | ind a ih =>
    intro l hl
    by_cases h : a % 2 = 1
    · rw [stOnes_odd h]; exact ih (a / 2) (by omega) _ (by omega)
    · rw [stOnes_even (by omega)]; exact hl
theorem stOnes_ones : ∀ (j : Nat), stOnes (2 ^ j - 1) (2 ^ j - 1) = (0, 0) := by
  intro j
  induction j with
  | zero => rw [stOnes_even (by omega)]
  | succ j ih =>
    have hp := Nat.two_pow_pos j
    have e : 2 ^ (j + 1) = 2 * 2 ^ j := by rw [Nat.pow_succ]; omega
    rw [stOnes_odd (by omega), show (2 ^ (j + 1) - 1) / 2 = 2 ^ j - 1 by omega]
    exact ih
/-- behind the ones nothing is left: it was ones alone -/
theorem stOnes_zero : ∀ (a l h : Nat), a < 2 ^ h → a + 1 < 2 ^ h → 2 ^ h ≤ 2 * a + 1 → (stOnes a l).1 ≠ 0 := by
  intro a
  induction a using Nat.strongRecOn with
  | ind a ih =>
    intro l h h1 h2 h3
    by_cases ho : a % 2 = 1
    · rw [stOnes_odd ho]
      cases h with
      | zero => omega
      | succ h =>
        have e : 2 ^ (h + 1) = 2 * 2 ^ h := by rw [Nat.pow_succ]; omega
        exact ih (a / 2) (by omega) _ h (by omega) (by omega) (by omega)
    · rw [stOnes_even (by omega)]
      have hp := Nat.two_pow_pos h
      show a ≠ 0
      intro e
      subst e
      omega
theorem ss2_left : ∀ (h a l : Nat), a < 2 ^ h → 2 ^ h ≤ l → l < 2 ^ (h + 1) → ss2 a l = ss2 a (2 ^ h - 1) ++ [false] := by
  intro h
  induction h with
  | zero =>
    intro a l h1 h2 h3
    obtain rfl : a = 0 := by omega
    unfold ss2
    rw [stOnes_even (by omega), stOnes_even (l := 2 ^ 0 - 1) (by omega)]
    exact sides_left 0 0 l (by omega) h2 h3
  | succ h ih =>
    intro a l h1 h2 h3
    have hp := Nat.two_pow_pos h
    have e1 : 2 ^ (h + 1) = 2 * 2 ^ h := by rw [Nat.pow_succ]; omega
    have e2 : 2 ^ (h + 1 + 1) = 2 * 2 ^ (h + 1) := by rw [Nat.pow_succ]; omega
    by_cases ho : a % 2 = 1
    · have := ih (a / 2) (l / 2) (by omega) (by omega) (by omega)
      unfold ss2 at this ⊢
      rw [stOnes_odd ho, stOnes_odd (l := 2 ^ (h + 1) - 1) ho, show (2 ^ (h + 1) - 1) / 2 = 2 ^ h - 1 by omega]
      exact this
    · unfold ss2
      rw [stOnes_even (by omega), stOnes_even (l := 2 ^ (h + 1) - 1) (by omega)]
      exact sides_left (h + 1) a l h1 h2 h3
theorem ss2_right : ∀ (h a l : Nat), 2 ^ h ≤ a → a < l → l < 2 ^ (h + 1) → ss2 a l = ss2 (a - 2 ^ h) (l - 2 ^ h) ++ [true] := by
  intro h
  induction h with
  | zero => intro a l h1 h2 h3; omega
  | succ h ih =>
    intro a l h1 h2 h3
    have hp := Nat.two_pow_pos h
    have e1 : 2 ^ (h + 1) = 2 * 2 ^ h := by rw [Nat.pow_succ]; omega
    have e2 : 2 ^ (h + 1 + 1) = 2 * 2 ^ (h + 1) := by rw [Nat.pow_succ]; omega
    by_cases ho : a % 2 = 1
    · have := ih (a / 2) (l / 2) (by omega) (by omega) (by omega)
      unfold ss2 at this ⊢
      rw [stOnes_odd ho, stOnes_odd (a := a - 2 ^ (h + 1)) (by omega), show (a - 2 ^ (h + 1)) / 2 = a / 2 - 2 ^ h by omega, show (l - 2 ^ (h + 1)) / 2 = l / 2 - 2 ^ h by omega]
      exact this
    · unfold ss2
      rw [stOnes_even (by omega), stOnes_even (a := a - 2 ^ (h + 1)) (by omega)]
      exact sides_right (h + 1) a l h1 (by omega) h3

def runB : List Bool → Two2 → List (List UInt8) → Option Two2
  | [], x, [] => some x
  | [], _, _ :: _ => none
  | _ :: _, _, [] => none
  | b :: bs, x, c :: cs => runB bs (if b then (nodeH c x.1, nodeH c x.2) else (x.1, nodeH x.2 c)) cs
theorem runB_snoc : ∀ (ds : List Bool) (b : Bool) (x : Two2) (ps : List (List UInt8)) (p : List UInt8),
    runB (ds ++ [b]) x (ps ++ [p]) = (runB ds x ps).map (fun x => if b then (nodeH p x.1, nodeH p x.2) else (x.1, nodeH x.2 p)) := by
  intro ds
  induction ds with
  | nil =>
    intro b x ps p
    cases ps with
    | nil => rfl
    | cons q qs => cases qs <;> rfl
  | cons d ds ih =>
    intro b x ps p
    cases ps with
    | nil => cases ds <;> rfl
    | cons q qs => exact ih b _ qs p
theorem runB_snoc_nil (ds : List Bool) (b : Bool) (x : Two2) : runB (ds ++ [b]) x [] = none := by cases ds <;> rfl

/-- from the first sum on: the old root itself, or the first of the proof -/
def startB (wh : Bool) (old : List UInt8) (ds : List Bool) : List (List UInt8) → Option Two2
  | [] => if wh then runB ds (old, old) [] else none
  | p :: ps => if wh then runB ds (old, old) (p :: ps) else runB ds (p, p) ps
theorem startB_snoc (wh : Bool) (old : List UInt8) (ds : List Bool) (b : Bool) (ps : List (List UInt8)) (p : List UInt8) :
    startB wh old (ds ++ [b]) (ps ++ [p]) = (startB wh old ds ps).map (fun x => if b then (nodeH p x.1, nodeH p x.2) else (x.1, nodeH x.2 p)) := by
  cases ps with
  | nil =>
    cases wh with
    | true => exact runB_snoc ds b (old, old) [] p
    | false => exact runB_snoc_nil ds b (p, p)
  | cons q qs =>
    cases wh with
    | true => exact runB_snoc ds b (old, old) (q :: qs) p
    | false => exact runB_snoc ds b (q, q) qs p
theorem startB_snoc_nil (wh : Bool) (old : List UInt8) (ds : List Bool) (b : Bool) : startB wh old (ds ++ [b]) [] = none := by
  cases wh with
  | true => exact runB_snoc_nil ds b _
  | false => rfl

theorem both_start (old : List UInt8) : ∀ (r : List (List UInt8)) (a l : Nat) (wh : Bool), a < l ∨ (a = l ∧ ∃ j, l = 2 ^ j - 1) →
    bothR old (a + 1) (l + 1) wh r = startB (wh && decide ((stOnes a l).1 = 0)) old (ss2 a l) r.reverse := by
  intro r
  induction r with
  | nil =>
    intro a l wh hP
    unfold bothR
    rcases hP with hlt | ⟨rfl, j, rfl⟩
    · rw [if_neg (by omega)]
      obtain ⟨h, e, k1, k2⟩ := halfN_spec (n := l + 1) (by omega)
      by_cases hi : a < 2 ^ h
      · rw [ss2_left h a l hi (by omega) (by omega)]; exact (startB_snoc_nil _ _ _ _).symm
      · rw [ss2_right h a l (by omega) hlt (by omega)]; exact (startB_snoc_nil _ _ _ _).symm
    · rw [if_pos rfl]
      have h0 := stOnes_ones j
      unfold ss2
      rw [h0, sides_zero]
      cases wh <;> rfl
  | cons last r ih =>
    intro a l wh hP
    unfold bothR
    rw [List.reverse_cons]
    rcases hP with hlt | ⟨rfl, j, rfl⟩
    · rw [if_neg (by omega)]
      obtain ⟨h, e, k1, k2⟩ := halfN_spec (n := l + 1) (by omega)
      have hp := Nat.two_pow_pos h
      rw [e]
      by_cases hi : a < 2 ^ h
      · rw [if_pos (by omega), ss2_left h a l hi (by omega) (by omega), startB_snoc]
        have := ih a (2 ^ h - 1) wh (by
          by_cases h2 : a < 2 ^ h - 1
          · exact .inl h2
          · exact .inr ⟨by omega, h, rfl⟩)
        rw [show 2 ^ h - 1 + 1 = 2 ^ h by omega] at this
        rw [this, stOnes_fst a (2 ^ h - 1) l]
        rfl
      · rw [if_neg (by omega), ss2_right h a l (by omega) hlt (by omega), startB_snoc]
        have := ih (a - 2 ^ h) (l - 2 ^ h) false (.inl (by omega))
        rw [show a + 1 - 2 ^ h = a - 2 ^ h + 1 by omega, show l + 1 - 2 ^ h = l - 2 ^ h + 1 by omega, this]
        have hz := stOnes_zero a l (h + 1) (by omega) (by omega) (by rw [Nat.pow_succ]; omega)
        rw [decide_eq_false hz, Bool.and_false, Bool.false_and]
        rfl
    · rw [if_pos rfl]
      have h0 := stOnes_ones j
      unfold ss2
      rw [h0, sides_zero]
      cases wh with
      | true => cases r.reverse <;> rfl
      | false =>
        cases r with
        | nil => rfl
        | cons q qs =>
          rw [List.reverse_cons]
          cases qs.reverse with
          | nil => rfl
          | cons z zs => cases zs <;> rfl

/-- from below -/
def exI (at_ last : Nat) (x : Two2) : List (List UInt8) → Option Two2
  | [] => if last = 0 then some x else none
  | c :: cs =>
    if last = 0 then none
    else if at_ % 2 = 1 ∨ at_ = last then exI ((strip at_ last).1 / 2) ((strip at_ last).2 / 2) (nodeH c x.1, nodeH c x.2) cs
    else exI (at_ / 2) (last / 2) (x.1, nodeH x.2 c) cs
theorem strip_le : ∀ a l : Nat, a ≤ l → (strip a l).1 ≤ (strip a l).2 := by
  intro a
  induction a using Nat.strongRecOn with
  | ind a ih =>
    intro l hle
    by_cases hh : a % 2 = 0 ∧ 0 < a
    · rw [strip_go hh]; exact ih _ (by omega) _ (by omega)
    · rw [strip_end hh]; exact hle
theorem exI_runB : ∀ (ps : List (List UInt8)) (a l : Nat) (x : Two2), a ≤ l → exI a l x ps = runB (sides a l) x ps := by
  intro ps
  induction ps with
  | nil =>
    intro a l r hle
    unfold exI
    by_cases hl : l = 0
    · subst hl; rw [sides_zero, if_pos rfl]; rfl
    · rw [if_neg hl]
      have : ∃ b bs, sides a l = b :: bs := by
        by_cases h : a % 2 = 1 ∨ a = l
        · exact ⟨_, _, sides_strip a l hl hle h⟩
        · exact ⟨_, _, sides_even hl (by omega) (by omega)⟩
      obtain ⟨b, bs, e⟩ := this
      rw [e]; rfl
  | cons p ps ih =>
    intro a l r hle
    unfold exI
    by_cases hl : l = 0
    · subst hl; rw [sides_zero, if_pos rfl]; rfl
    · rw [if_neg hl]
      by_cases h : a % 2 = 1 ∨ a = l
      · rw [if_pos h, sides_strip a l hl hle h, ih]
        · rfl
        · have := strip_le a l hle
          omega
      · rw [if_neg h, sides_even hl (by omega) (by omega), ih _ _ _ (by omega)]
        rfl
/-- P9.6, 0 < m < n: from above and from below the same -/
theorem both_exI (old : List UInt8) (ps : List (List UInt8)) (m n : Nat) (h0 : 0 < m) (h1 : m < n) :
    bothR old m n true ps.reverse = match (if (stOnes (m - 1) (n - 1)).1 = 0 then old :: ps else ps) with
      | [] => none
      | p :: cs => exI (stOnes (m - 1) (n - 1)).1 (stOnes (m - 1) (n - 1)).2 (p, p) cs := by
  have h := both_start old ps.reverse (m - 1) (n - 1) true (.inl (by omega))
  rw [show m - 1 + 1 = m by omega, show n - 1 + 1 = n by omega, List.reverse_reverse, Bool.true_and] at h
  rw [h]
  have hle := stOnes_le (m - 1) (n - 1) (by omega)
  by_cases hz : (stOnes (m - 1) (n - 1)).1 = 0
  · rw [if_pos hz, decide_eq_true hz]
    show _ = exI _ _ (old, old) ps
    rw [exI_runB _ _ _ _ hle]
    cases ps <;> rfl
  · rw [if_neg hz, decide_eq_false hz]
    cases ps with
    | nil => rfl
    | cons p cs =>
      show _ = exI _ _ (p, p) cs
      rw [exI_runB _ _ _ _ hle]; rfl
end Go.Proofs.YtbhpglhmnpcnkaaDoor

namespace Go.Proofs.YtbhpglhmnpcnkaaDoor
open Go.RowKit
set_option linter.unusedVariables false

/-- what both hands back, told by bothR -/
def BothIs (old : List UInt8) (m n : Nat) (wh : Bool) (r : List (List UInt8)) (a b : List UInt8) (ok : Bool) : Prop := bothR old m n wh r = (if ok then some (a, b) else none) ∧ a.length ≤ 1099511627776 ∧ b.length ≤ 1099511627776

theorem BothIs.eq {old : List UInt8} {m n : Nat} {wh : Bool} {r : List (List UInt8)} {a b : List UInt8} {ok : Bool} (h : BothIs old m n wh r a b ok) : bothR old m n wh r = (if ok then some (a, b) else none) := h.1
theorem BothIs.la {old : List UInt8} {m n : Nat} {wh : Bool} {r : List (List UInt8)} {a b : List UInt8} {ok : Bool} (h : BothIs old m n wh r a b ok) : a.length ≤ 1099511627776 := h.2.1
theorem BothIs.lb {old : List UInt8} {m n : Nat} {wh : Bool} {r : List (List UInt8)} {a b : List UInt8} {ok : Bool} (h : BothIs old m n wh r a b ok) : b.length ≤ 1099511627776 := h.2.2
set_option maxRecDepth 100000 in
set_option maxHeartbeats 4000000 in
theorem both_any (old : List UInt8) (hold : old.length ≤ 1099511627776) (M : Nat) : ∀ (ps : List (List UInt8)) (m n : Nat) (wh : Bool) (A : Option Addr) (cap : Nat) (w : World), ps.length = M → M ≤ 1099511627776 → 0 < m → m ≤ n → n ≤ 1099511627776 → M ≤ cap → StrRow w A M ps → Short ps → TabK w →
    Calls Tryd.prog 86 #[.string (bs old), .int .i64 (m : Int), .int .i64 (n : Int), .bool wh, .slice A M cap] w fun e w' => ∃ a b ok, e = .returned (.tuple #[.string (bs a), .string (bs b), .bool ok]) ∧ BothIs old m n wh ps.reverse a b ok ∧ Gr w w' := by
  induction M with
  | zero =>
    intro ps m n wh A cap w hl hM hm0 hmn hn hcap hrow hs hT
    obtain rfl : ps = [] := List.eq_nil_of_length_eq_zero hl
    clear hl hrow
    by_cases he : m = n
    · subst he
      cases wh with
      | true =>
        have HB : Sec (BothIs old m m true [] old old true) := sec ⟨by rw [bothR_nil, if_pos rfl], hold, hold⟩
        go_enter Tryd.func86, Tryd.ntmps86
        go_wp2_with fail
        refine bodyPost_ret (results_tmp3 rfl _ _ _) rfl ?_
        exact ⟨old, old, true, rfl, HB.out, Gr.refl _⟩
      | false =>
        have HB : Sec (BothIs old m m false [] [] [] false) := sec ⟨by rw [bothR_nil, if_pos rfl]; rfl, by simp, by simp⟩
        go_enter Tryd.func86, Tryd.ntmps86
        go_wp2_with fail
        refine bodyPost_ret (results_tmp3 rfl _ _ _) rfl ?_
        exact ⟨[], [], false, rfl, HB.out, Gr.refl _⟩
    · have HB : Sec (BothIs old m n wh [] [] [] false) := sec ⟨by rw [bothR_nil, if_neg he]; rfl, by simp, by simp⟩
      have t1 : ((m : Int) == (n : Int)) = false := by rw [beq_eq_false_iff_ne]; omega
      clear he
      go_enter Tryd.func86, Tryd.ntmps86
      go_wp2_with fail
      refine bodyPost_ret (results_tmp3 rfl _ _ _) rfl ?_
      exact ⟨[], [], false, rfl, HB.out, Gr.refl _⟩
  | succ M ih =>
    intro ps m n wh A cap w hl hM hm0 hmn hn hcap hrow hs hT
    obtain ⟨qs, last, rfl⟩ : ∃ qs last, ps = qs ++ [last] := ⟨ps.take M, ps[M]'(by omega), by
      have := List.take_succ_eq_append_getElem (l := ps) (i := M) (by omega)
      rw [← this, List.take_of_length_le (by omega)]⟩
    have hql : qs.length = M := by simpa using hl
    rw [List.reverse_append, List.reverse_cons, List.reverse_nil, List.nil_append, List.singleton_append]
    obtain ⟨b, off, rfl, hc⟩ := hrow.cell (i := M) (by simp; omega)
    have hlast : (qs ++ [last])[M]'(by simp; omega) = last := by simp [← hql]
    rw [hlast] at hc
    have hll : last.length ≤ 1099511627776 := hs last (by simp)
    have t2 : ((M : Int) + 1 == 0) = false := by rw [beq_eq_false_iff_ne]; omega
    by_cases he : m = n
    · subst he
      cases wh with
      | true =>
        have HB : Sec (BothIs old m m true (last :: qs.reverse) old old false) := sec ⟨by rw [bothR_cons, if_pos rfl]; rfl, hold, hold⟩
        clear hl hrow ih hc hlast hql hs
        go_enter Tryd.func86, Tryd.ntmps86
        go_wp2_with fail
        refine bodyPost_ret (results_tmp3 rfl _ _ _) rfl ?_
        exact ⟨old, old, false, by rw [← t2]; rfl, HB.out, Gr.refl _⟩
      | false =>
        cases M with
        | zero =>
          obtain rfl : qs = [] := List.eq_nil_of_length_eq_zero hql
          have HB : Sec (BothIs old m m false [last] last last true) := sec ⟨by rw [bothR_cons, if_pos rfl]; rfl, hll, hll⟩
          have hc0 : w.cell? ⟨b, off, none⟩ = some (.string (bs last)) := hc
          clear hl hrow ih hlast hql hs hc
          rw [List.reverse_nil]
          go_enter Tryd.func86, Tryd.ntmps86
          go_wp2_with fail
          go_quiet (fail)
          go_wp2_with fail
          refine bodyPost_ret (results_tmp3 rfl _ _ _) rfl ?_
          exact ⟨last, last, true, rfl, HB.out, (Gr.refl _).drewN _⟩
        | succ M =>
          have HB : Sec (BothIs old m m false (last :: qs.reverse) [] [] false) := sec ⟨by
            rw [bothR_cons, if_pos rfl]
            have : ∃ y ys, qs.reverse = y :: ys := by
              cases hq : qs.reverse with
              | nil => have := congrArg List.length hq; simp at this; rw [this] at hql; simp at hql
              | cons y ys => exact ⟨y, ys, rfl⟩
            obtain ⟨y, ys, e⟩ := this
            rw [e]; rfl, by simp, by simp⟩
          have t3 : (((M + 1 : Nat) : Int) + 1 == 1) = false := by rw [beq_eq_false_iff_ne]; omega
          have t4 : (((M + 1 : Nat) : Int) + 1 != 1) = true := by rw [bne_iff_ne]; omega
          have t5 : ((M : Int) + 1 + 1 == 1) = false := by rw [beq_eq_false_iff_ne]; omega
          have t6 : ((M : Int) + 1 + 1 != 1) = true := by rw [bne_iff_ne]; omega
          clear hl hrow ih hlast hql hs hc
          go_enter Tryd.func86, Tryd.ntmps86
          go_wp2_with fail
          refine bodyPost_ret (results_tmp3 rfl _ _ _) rfl ?_
          exact ⟨[], [], false, rfl, HB.out, Gr.refl _⟩
    · have t1 : ((m : Int) == (n : Int)) = false := by rw [beq_eq_false_iff_ne]; omega
      have hlt : 1 < n := by omega
      have hsq : Short qs := fun s h => hs s (by simp [h])
      have hrq : StrRow w (some ⟨b, off, none⟩) M qs := by
        have := hrow.take M (by omega)
        rw [show (qs ++ [last]).take M = qs by rw [← hql]; exact List.take_left] at this
        exact this
      have hkl := halfN_lt hlt
      have hkp := halfN_pos n
      have HH : Sec (∀ w, Calls Tryd.prog 64 #[.int .i64 (n : Int)] w fun e w' => e = .returned (.int .i64 (halfN n : Int)) ∧ w' = w) := sec fun w => half_any n w hn
      have hU : bothR old m n wh (last :: qs.reverse) = if m ≤ halfN n then (bothR old m (halfN n) wh qs.reverse).map fun x => (x.1, nodeH x.2 last) else (bothR old (m - halfN n) (n - halfN n) false qs.reverse).map fun x => (nodeH last x.1, nodeH last x.2) := by
        rw [bothR_cons, if_neg he]
      obtain ⟨k, hk⟩ : ∃ k, k = halfN n := ⟨_, rfl⟩
      rw [← hk] at hkl hkp HH hU
      by_cases hik : m ≤ k
      · rw [if_pos hik] at hU
        have IH := sec (ih qs m k wh _ cap w hql (by omega) hm0 hik (by omega) (by omega) hrq hsq hT)
        have HF : Sec (∀ a b ok, BothIs old m k wh qs.reverse a b ok → BothIs old m n wh (last :: qs.reverse) a (nodeH b last) ok) := sec (fun a b ok ⟨h1, h2, h3⟩ => ⟨by rw [hU, h1]; cases ok <;> rfl, h2, by rw [nodeH_len]; omega⟩)
        have hiki : (m : Int) ≤ (k : Int) := by omega
        clear hU hrow hrq hs hsq ih hk he hql hlast hl
        go_enter Tryd.func86, Tryd.ntmps86
        go_wp2_with (first
          | (go_at_call 64; with_reducible refine Calls.mono (HH.out _) ?_; rintro e w1 ⟨rfl, hw1⟩; subst w1)
          | (go_at_call 86; with_reducible refine Calls.mono IH.out ?_; rintro e w2 ⟨a, b2, ok, rfl, hb, g2⟩; have HBB := sec (HF.out _ _ _ hb); have hbl := hb.lb; clear hb)
          | (go_at_call 65; with_reducible refine Calls.mono (node_any b2 last _ (hT.gr g2) hbl hll) ?_; rintro e w3 ⟨rfl, g3⟩))
        refine bodyPost_ret (results_tmp3 rfl _ _ _) rfl ?_
        exact ⟨_, _, _, rfl, HBB.out, g2.trans g3⟩
      · rw [if_neg hik] at hU
        have hih := ih qs (m - k) (n - k) false _ cap w hql (by omega) (by omega) (by omega) (by omega) (by omega) hrq hsq hT
        have e1 : ((n - k : Nat) : Int) = (n : Int) - (k : Int) := by omega
        have e2 : ((m - k : Nat) : Int) = (m : Int) - (k : Int) := by omega
        rw [e1, e2] at hih
        have IH := sec hih
        have HF : Sec (∀ a b ok, BothIs old (m - k) (n - k) false qs.reverse a b ok → BothIs old m n wh (last :: qs.reverse) (nodeH last a) (nodeH last b) ok) := sec (fun a b ok ⟨h1, h2, h3⟩ => ⟨by rw [hU, h1]; cases ok <;> rfl, by rw [nodeH_len]; omega, by rw [nodeH_len]; omega⟩)
        have hiki : ¬ (m : Int) ≤ (k : Int) := by omega
        clear hU hrow hrq hs hsq ih hk he hql hlast hl hih e1 e2
        go_enter Tryd.func86, Tryd.ntmps86
        go_wp2_with (first
          | (go_at_call 64; with_reducible refine Calls.mono (HH.out _) ?_; rintro e w1 ⟨rfl, hw1⟩; subst w1)
          | (go_at_call 86; with_reducible refine Calls.mono IH.out ?_; rintro e w2 ⟨a, b2, ok, rfl, hb, g2⟩; have HBB := sec (HF.out _ _ _ hb); have hal := hb.la; have hbl := hb.lb; clear hb)
          | (go_at_call 65; with_reducible refine Calls.mono (node_any last b2 _ (hT.gr (g2.trans g3)) hll hbl) ?_; rintro e w4 ⟨rfl, g4⟩)
          | (go_at_call 65; with_reducible refine Calls.mono (node_any last a _ (hT.gr g2) hll hal) ?_; rintro e w3 ⟨rfl, g3⟩))
        refine bodyPost_ret (results_tmp3 rfl _ _ _) rfl ?_
        exact ⟨_, _, _, rfl, HBB.out, g2.trans (g3.trans g4)⟩
end Go.Proofs.YtbhpglhmnpcnkaaDoor

namespace Go.Proofs.YtbhpglhmnpcnkaaDoor
open Go.RowKit
set_option linter.unusedVariables false

def both2 (old root : List UInt8) : Option Two2 → Bool
  | some x => x.1 == old && x.2 == root
  | none => false
/-- P9.6 -/
def extB (old : List UInt8) (m : Int) (root : List UInt8) (n : Int) (ps : List (List UInt8)) : Bool :=
  if 0 ≤ m ∧ m ≤ n ∧ n ≤ 1099511627776 then
    (if m = 0 then decide (ps.length = 0 ∧ old = sha [] ∧ (0 < n ∨ root = old)) else both2 old root (bothR old m.toNat n.toNat true ps.reverse))
  else false

set_option maxRecDepth 100000 in
set_option maxHeartbeats 4000000 in
theorem extends_any (old root : List UInt8) (m n : Int) (ps : List (List UInt8)) (k : Nat) (A : Option Addr) (cap : Nat) (w : World) (hold : old.length ≤ 1099511627776) (hk : k ≤ 1099511627776) (hcap : k ≤ cap) (hrow : StrRow w A k ps) (hs : Short ps) (hT : TabK w) :
    Calls Tryd.prog 70 #[.string (bs old), .int .i64 m, .string (bs root), .int .i64 n, .slice A k cap] w fun e w' => e = .returned (.bool (extB old m root n ps)) ∧ Gr w w' := by
  have hlen := hrow.len
  by_cases h1 : 0 ≤ m
  · by_cases h2 : m ≤ n
    · by_cases h3 : n ≤ 1099511627776
      · have q1 : ¬ m < 0 := by omega
        have q2 : ¬ n < m := by omega
        have q3 : ¬ 1099511627776 < n := by omega
        by_cases h0 : m = 0
        · subst h0
          have HC : Sec (extB old 0 root n ps = decide (ps.length = 0 ∧ old = sha [] ∧ (0 < n ∨ root = old))) := sec (by unfold extB; rw [if_pos ⟨h1, h2, h3⟩, if_pos rfl])
          by_cases hl0 : k = 0
          · subst hl0
            by_cases ho : old = sha []
            · by_cases hn0 : 0 < n
              · have HF : Sec (extB old 0 root n ps = true) := sec (by rw [HC.out]; exact decide_eq_true ⟨hlen, ho, .inl hn0⟩)
                have t1 : (old == sha []) = true := by rw [beq_iff_eq]; exact ho
                clear hrow hlen HC hs ho
                go_enter Tryd.func70, Tryd.ntmps70
                go_wp2_with (go_at_call 51; refine (sum_any [] _ hT (by simp)).mono ?_; rintro e w1 ⟨rfl, g1⟩)
                go_ret
                exact ⟨by rw [HF.out]; rfl, g1⟩
              · have hnn : n = 0 := by omega
                subst hnn
                by_cases hr : root = old
                · have HF : Sec (extB old 0 root 0 ps = true) := sec (by rw [HC.out]; exact decide_eq_true ⟨hlen, ho, .inr hr⟩)
                  have t1 : (old == sha []) = true := by rw [beq_iff_eq]; exact ho
                  have t2 : (root == old) = true := by rw [beq_iff_eq]; exact hr
                  clear hrow hlen HC hs ho hr
                  go_enter Tryd.func70, Tryd.ntmps70
                  go_wp2_with (go_at_call 51; refine (sum_any [] _ hT (by simp)).mono ?_; rintro e w1 ⟨rfl, g1⟩)
                  go_ret
                  exact ⟨by rw [HF.out]; rfl, g1⟩
                · have HF : Sec (extB old 0 root 0 ps = false) := sec (by rw [HC.out]; exact decide_eq_false (fun h => by rcases h.2.2 with h | h; exact hn0 h; exact hr h))
                  have t1 : (old == sha []) = true := by rw [beq_iff_eq]; exact ho
                  have t2 : (root == old) = false := by rw [beq_eq_false_iff_ne]; exact hr
                  clear hrow hlen HC hs ho hr
                  go_enter Tryd.func70, Tryd.ntmps70
                  go_wp2_with (go_at_call 51; refine (sum_any [] _ hT (by simp)).mono ?_; rintro e w1 ⟨rfl, g1⟩)
                  go_ret
                  exact ⟨by rw [HF.out]; rfl, g1⟩
            · have HF : Sec (extB old 0 root n ps = false) := sec (by rw [HC.out]; exact decide_eq_false (fun h => ho h.2.1))
              have t1 : (old == sha []) = false := by rw [beq_eq_false_iff_ne]; exact ho
              clear hrow hlen HC hs ho
              go_enter Tryd.func70, Tryd.ntmps70
              go_wp2_with (go_at_call 51; refine (sum_any [] _ hT (by simp)).mono ?_; rintro e w1 ⟨rfl, g1⟩)
              go_ret
              exact ⟨by rw [HF.out]; rfl, g1⟩
          · have HF : Sec (extB old 0 root n ps = false) := sec (by rw [HC.out]; exact decide_eq_false (fun h => hl0 (by omega)))
            have t1 : ((k : Int) == 0) = false := by rw [beq_eq_false_iff_ne]; omega
            clear hrow hlen HC hs hl0
            go_enter Tryd.func70, Tryd.ntmps70
            go_wp2_with fail
            go_ret
            exact ⟨by rw [HF.out]; rfl, Gr.refl _⟩
        · have t1 : (m == 0) = false := by rw [beq_eq_false_iff_ne]; exact h0
          obtain ⟨M, rfl⟩ : ∃ M : Nat, m = M := ⟨m.toNat, by omega⟩
          obtain ⟨N, rfl⟩ : ∃ N : Nat, n = N := ⟨n.toNat, by omega⟩
          have HC : Sec (extB old M root N ps = both2 old root (bothR old M N true ps.reverse)) := sec (by unfold extB; rw [if_pos ⟨h1, h2, h3⟩, if_neg h0, Int.toNat_natCast, Int.toNat_natCast])
          have HB := sec (both_any old hold k ps M N true A cap w hlen hk (by omega) (by omega) (by omega) hcap hrow hs hT)
          have HF : Sec (∀ a b ok, BothIs old M N true ps.reverse a b ok → extB old M root N ps = (ok && (a == old) && (b == root))) := sec (fun a b ok h => by rw [HC.out, h.eq]; cases ok <;> rfl)
          clear hrow hlen HC hs h0
          go_enter Tryd.func70, Tryd.ntmps70
          go_wp2_with (go_at_call 86; with_reducible refine Calls.mono HB.out ?_; rintro e w2 ⟨a, b2, ok, rfl, hb, g2⟩; have HR := sec (HF.out _ _ _ hb); clear hb; cases ok)
          all_goals
            go_ret
            refine ⟨?_, g2⟩
            rw [HR.out]
            simp [*]
      · have HC : Sec (extB old m root n ps = false) := sec (by unfold extB; rw [if_neg (fun h => h3 h.2.2)])
        rw [HC.out]
        have q1 : ¬ m < 0 := by omega
        have q2 : ¬ n < m := by omega
        have q3 : 1099511627776 < n := by omega
        go_enter Tryd.func70, Tryd.ntmps70
        go_wp2_with fail
        go_ret
        exact ⟨rfl, Gr.refl _⟩
    · have HC : Sec (extB old m root n ps = false) := sec (by unfold extB; rw [if_neg (fun h => h2 h.2.1)])
      rw [HC.out]
      have q1 : ¬ m < 0 := by omega
      have q2 : n < m := by omega
      go_enter Tryd.func70, Tryd.ntmps70
      go_wp2_with fail
      go_ret
      exact ⟨rfl, Gr.refl _⟩
  · have HC : Sec (extB old m root n ps = false) := sec (by unfold extB; rw [if_neg (fun h => h1 h.1)])
    rw [HC.out]
    have q1 : m < 0 := by omega
    go_enter Tryd.func70, Tryd.ntmps70
    go_wp2_with fail
    go_ret
    exact ⟨rfl, Gr.refl _⟩
end Go.Proofs.YtbhpglhmnpcnkaaDoor

namespace Go.Proofs.YtbhpglhmnpcnkaaDoor
open Go.RowKit
set_option linter.unusedVariables false

set_option maxHeartbeats 1000000 in
theorem rtwo_any (a b : List UInt8) (w : World) (ha : a.length ≤ 1099511627776) (hb : b.length ≤ 1099511627776) :
    Calls Tryd.prog 101 #[.string (bs a), .string (bs b)] w fun e w' => e = .returned (.string (bs (nodeH a b))) ∧ Gr w w' := by
  have HF : Sec (nodeH a b = sha ([1] ++ a ++ b)) := sec rfl
  have HL : Sec (([1] ++ a ++ b : List UInt8).length ≤ 576460752303423488) := sec (by simp; omega)
  have h63 : ¬ 9223372036854775807 < 1 + a.length := by omega
  have h64 : ¬ 9223372036854775807 < 1 + a.length + b.length := by omega
  go_enter Tryd.func101, Tryd.ntmps101
  go_wp2_with (go_at_call 48; refine (rsum_any ([1] ++ a ++ b) _ HL.out).mono ?_; rintro e w1 ⟨rfl, g1⟩)
  go_ret
  exact ⟨by rw [HF.out]; rfl, g1⟩


end Go.Proofs.YtbhpglhmnpcnkaaDoor

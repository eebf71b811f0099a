/-
  What the walk of cartularylaw.HeadTexts leans on, part 7 of 7: contracts and plain laws. No conditions.
-/
import Derived.Test.YtbhpglhmnpcnkaaDoorHeadTextsP1
import Derived.Lib.AppendStr
import Derived.Test.YtbhpglhmnpcnkaaDoorHeadTextsP6
import Derived.Test.YtbhpglhmnpcnkaaDoorHeadTextsP3
import Derived.Test.YtbhpglhmnpcnkaaDoorCards
import Derived.Test.YtbhpglhmnpcnkaaDoorTie
import Derived.ProofKit
import Derived.Deep.DeepHandedRow
import Derived.Lib.LaidTab
namespace Go.Proofs.YtbhpglhmnpcnkaaDoor
open Go.RowKit

theorem strCells_bs (l : List UInt8) : Lib.strCells (bs l) = l.map byteV := by
  unfold Lib.strCells byteV; rw [bs_data]

/-- append of a string onto a row of bytes of the call's own -/
theorem wpList_append_str {ops : Array Oper} {rest : List Oper} {o : Oper} {a : Act} {Q : Exit → Act → World → Prop} {w : World} {t u e : TypeId}
    (E : ElemOk t e (.int .u8 0) 1 1) (hu : Tryd.prog.underlying u = some .string) (hgd : o.guard = none) (sl x : Operand) (ho : o.op = .call { callee := .builtin .append, args := #[sl, x], argTypes := #[t, u] })
    {B : Nat} {A : Option Addr} {cap : Nat} {l s : List UInt8} (hs : a.eval sl = .slice A l.length cap) (hown : w.ownsRow B e 1 (.slice A l.length cap) l.length (l.map byteV)) (hx : a.eval x = .string (bs s))
    (hbytes : l.length + s.length ≤ 140737488355328) (hB : B ≤ w.heap.size)
    (h : ∀ A' cap' w', w'.ownsRow B e 1 (.slice A' (l ++ s).length cap') (l ++ s).length ((l ++ s).map byteV) → w.grownBy w' (Value.ownBlock (.slice A l.length cap)) →
      wpList Tryd.prog ops Q rest (a.put o.dst (.slice A' (l ++ s).length cap')) w') :
    wpList Tryd.prog ops Q (o :: rest) a w := by
  obtain ⟨i0, hi0, hz0, hz1, hz2⟩ := info_parts E.info
  refine Lib.wpList_append_own_string (P := Tryd.prog) w hgd sl x t u ho B e i0 E.under hu hi0 hz0 hz1 hz2 _ l.length _ hs hown (bs s) hx (by rw [bs_size]; unfold maxLen; omega) (by rw [bs_size]; exact hbytes) hB ?_
  intro v' w' hown' hg _
  rw [bs_size, strCells_bs, ← List.map_append] at hown'
  have el : l.length + s.length = (l ++ s).length := by simp
  rw [el] at hown'
  rcases hown'.2 with ⟨hv, h0⟩ | ⟨g, cap', cur, hv, _⟩
  · subst hv
    have h1 : (l ++ s).length = 0 := h0
    have := h none 0 w'
    rw [h1] at this hown'
    exact this hown' hg
  · subst hv
    exact h (some ⟨g, 0, none⟩) cap' w' hown' hg

abbrev St2 := List UInt8 × Nat
/-- a writer that holds l, with error e, lies in block g; its row is younger than B -/
structure WrAt (w : World) (B g : Nat) (q : List UInt8 × Nat) : Prop where
  ex : ∃ A cap, Blk w g 69 #[.slice A q.1.length cap, .int .i64 (q.2 : Int)] ∧ w.ownsRow B 5 1 (.slice A q.1.length cap) q.1.length (q.1.map byteV)
  base : B ≤ g
  len : q.1.length ≤ 35184372088832
/-- blocks of cells of another type than byte, other than g, are as they were -/
def KeepT (g : Nat) (w w' : World) : Prop := ∀ k cs t, k ≠ g → t ≠ 5 → Blk w k t cs → Blk w' k t cs

theorem WrAt.gr {w w' : World} {B g : Nat} {q : List UInt8 × Nat} (h : WrAt w B g q) (k : Gr w w') : WrAt w' B g q :=
  ⟨by obtain ⟨A, cap, hb, ho⟩ := h.ex; exact ⟨A, cap, hb.gr k, own_gr ho k⟩, h.base, h.len⟩
theorem KeepT.refl (g : Nat) (w : World) : KeepT g w w := fun _ _ _ _ _ h => h
theorem KeepT.trans {g : Nat} {a b c : World} (h : KeepT g a b) (k : KeepT g b c) : KeepT g a c := fun i cs t h1 h2 h3 => k i cs t h1 h2 (h i cs t h1 h2 h3)
theorem KeepT.gr {g : Nat} {a b : World} (h : Gr a b) : KeepT g a b := fun _ _ _ _ _ h3 => h3.gr h

/-- what the two stores into the writer leave -/
theorem only_set2' (w : World) (g : Nat) (u v : Value) : w.grownBy ((w.setCell ⟨g, 0, none⟩ u).setCell ⟨g, 1, none⟩ v) (some g) :=
  ⟨rfl, rfl, rfl, by simp [World.setCell], fun k _ hne => by
    rw [Below.heap_setCell _ _ _ _ (fun e => hne (by rw [e])), Below.heap_setCell _ _ _ _ (fun e => hne (by rw [e]))]⟩
theorem wr_done {w w1 : World} {B g : Nat} {A A' : Option Addr} {cap cap' : Nat} {l l' : List UInt8} {e e' : Nat} (hg : B ≤ g) (hb : Blk w g 69 #[.slice A l.length cap, .int .i64 (e : Int)])
    (ho : w.ownsRow B 5 1 (.slice A l.length cap) l.length (l.map byteV)) (ho' : w1.ownsRow B 5 1 (.slice A' l'.length cap') l'.length (l'.map byteV)) (hgr : w.grownBy w1 (Value.ownBlock (.slice A l.length cap))) (hB : B ≤ w.heap.size) (hl : l'.length ≤ 35184372088832) :
    WrAt ((w1.setCell ⟨g, 0, none⟩ (.slice A' l'.length cap')).setCell ⟨g, 1, none⟩ (.int .i64 (e' : Int))) B g (l', e') ∧
    Below B w ((w1.setCell ⟨g, 0, none⟩ (.slice A' l'.length cap')).setCell ⟨g, 1, none⟩ (.int .i64 (e' : Int))) ∧
    KeepT g w ((w1.setCell ⟨g, 0, none⟩ (.slice A' l'.length cap')).setCell ⟨g, 1, none⟩ (.int .i64 (e' : Int))) := by
  have hb1 := blk_own hb ho (by decide) hgr
  have hb2 := (hb1.set_ 0 (.slice A' l'.length cap')).set_ 1 (.int .i64 (e' : Int))
  have hon := only_set2' w1 g (.slice A' l'.length cap') (.int .i64 (e' : Int))
  refine ⟨⟨⟨A', cap', by simpa using hb2, own_only ho' hb1 (by decide) hon⟩, hg, hl⟩, ?_, ?_⟩
  · have h1 : Below B w w1 := (Below.refl B w).grown hgr hB (fun k hk => (ho.lt k hk).1)
    exact (h1.setCell (p := ⟨g, 0, none⟩) hg _).setCell (p := ⟨g, 1, none⟩) hg _
  · intro k cs t hk ht hbk
    have h1 : Blk w1 k t cs := blk_own hbk ho (fun e => ht e.symm) hgr
    exact h1.grown hon (by simpa using hk)

/-- P2.5 -/
def wNum (n : Int) (q : St2) : St2 := if q.2 = 0 then (q.1 ++ numS n, if 0 ≤ n ∧ n < 4611686018427387904 then 0 else 3) else q
def wTxt (t : List UInt8) (q : St2) : St2 := if q.2 = 0 then (if t.length ≤ 4096 then (q.1 ++ txt t, 0) else (q.1, 1)) else q
def wByt (s : List UInt8) (q : St2) : St2 := if q.2 = 0 then (q.1 ++ s, 0) else q
set_option maxRecDepth 100000 in
theorem wrNumber (B g : Nat) (q : St2) (n : Int) (w : World) (h : WrAt w B g q) (hlen : q.1.length ≤ 35184372088000) :
    Calls Tryd.prog 37 #[.pointer (some ⟨g, 0, none⟩), .int .i64 n] w fun e w' => e = .returned (.tuple #[]) ∧ WrAt w' B g (wNum n q) ∧ Below B w w' ∧ KeepT g w w' := by
  obtain ⟨l, er⟩ := q
  obtain ⟨A, cap, hb, ho⟩ := h.ex
  have hg := h.base
  have hB : B ≤ w.heap.size := by have := hb.lt; omega
  simp only at hb ho hlen
  have hc0 : w.cell? ⟨g, 0, none⟩ = some (.slice A l.length cap) := hb.cell 0
  have hc1 : w.cell? ⟨g, 1, none⟩ = some (.int .i64 (er : Int)) := hb.cell 1
  by_cases he : er = 0
  · subst he
    by_cases hn : 0 ≤ n ∧ n < 4611686018427387904
    · have hN := numS_in hn.1 hn.2
      have h9 := num_len9 (n := n.toNat) (by omega)
      have HN := sec hN
      clear hN
      go_enter Tryd.func37, Tryd.ntmps37
      go_wp2_with (first
        | (go_at_call 61; refine (put_ok [] _ _ (by omega) (by omega) (by simp)).mono ?_; rintro e w1 ⟨rfl, g1⟩; rw [List.nil_append]; have hb1 := hb.gr g1; have c0 : w1.cell? ⟨g, 0, none⟩ = some (.slice A l.length cap) := hb1.cell 0; have ho1 := own_gr ho g1; have hB1 : B ≤ w1.heap.size := by have := g1.size; omega)
        | (at_builtin; refine wpList_append_str E.u8 Tryd.underlying9 rfl (.tmp 25) (.tmp 26) rfl rfl ho1 rfl (by first | omega | (simp; omega)) hB1 ?_; intro A2 cap2 w2 ho2 hg2; have hb2 := blk_own hb1 ho1 (by decide) hg2; have d0 : w2.cell? ⟨g, 0, none⟩ = some (.slice A l.length cap) := hb2.cell 0; have d1 : w2.cell? ⟨g, 1, none⟩ = some (.int .i64 ((0 : Nat) : Int)) := hb2.cell 1; have f0 := hb2.frozen 0; have f1 := hb2.frozen 1))
      first | go_end0 | refine bodyPost_ret (results_none rfl _ _ _) rfl ?_
      obtain ⟨r1, r2, r3⟩ := wr_done (e' := 0) hg hb1 ho1 ho2 hg2 hB1 (by first | omega | (simp; omega))
      exact ⟨rfl, by simpa [wNum, hn, HN.out] using r1, (g1.below.mono hB).trans (by simpa using r2), (KeepT.gr g1).trans (by simpa using r3)⟩
    · have hN := numS_out (n := n) (by omega)
      have HN := sec hN
      clear hN
      go_enter Tryd.func37, Tryd.ntmps37
      go_wp2_with (first
        | (go_at_call 61; refine (put_err [] _ _ (by omega)).mono ?_; rintro e w1 ⟨rfl, rfl⟩; have hb1 := hb; have ho1 := ho; have hB1 := hB)
        | (at_builtin; refine wpList_append_str (s := []) E.u8 Tryd.underlying9 rfl (.tmp 25) (.tmp 26) rfl rfl ho1 rfl (by first | omega | (simp; omega)) hB1 ?_; intro A2 cap2 w2 ho2 hg2; rw [List.append_nil] at ho2; have hb2 := blk_own hb1 ho1 (by decide) hg2; have d0 : w2.cell? ⟨g, 0, none⟩ = some (.slice A l.length cap) := hb2.cell 0; have d1 : w2.cell? ⟨g, 1, none⟩ = some (.int .i64 ((0 : Nat) : Int)) := hb2.cell 1; have f0 := hb2.frozen 0; have f1 := hb2.frozen 1))
      first | go_end0 | refine bodyPost_ret (results_none rfl _ _ _) rfl ?_
      obtain ⟨r1, r2, r3⟩ := wr_done (e' := 3) hg hb1 ho1 ho2 hg2 hB1 (by first | omega | (simp; omega))
      exact ⟨rfl, by simpa [wNum, hn, HN.out] using r1, by first | exact r2 | simpa using r2, by first | exact r3 | simpa using r3⟩
  · have he' : ((er : Int) == 0) = false := by simpa using he
    have he2 : ((er : Int) != 0) = true := by simpa using he
    go_enter Tryd.func37, Tryd.ntmps37
    go_wp2
    first | go_end0 | refine bodyPost_ret (results_none rfl _ _ _) rfl ?_
    exact ⟨rfl, by simpa [wNum, he] using h, Below.refl _ _, KeepT.refl _ _⟩

theorem wr_done1 {w w1 : World} {B g : Nat} {A A' : Option Addr} {cap cap' : Nat} {l l' : List UInt8} {e : Nat} (hg : B ≤ g) (hb : Blk w g 69 #[.slice A l.length cap, .int .i64 (e : Int)])
    (ho : w.ownsRow B 5 1 (.slice A l.length cap) l.length (l.map byteV)) (ho' : w1.ownsRow B 5 1 (.slice A' l'.length cap') l'.length (l'.map byteV)) (hgr : w.grownBy w1 (Value.ownBlock (.slice A l.length cap))) (hB : B ≤ w.heap.size) (hl : l'.length ≤ 35184372088832) :
    WrAt (w1.setCell ⟨g, 0, none⟩ (.slice A' l'.length cap')) B g (l', e) ∧ Below B w (w1.setCell ⟨g, 0, none⟩ (.slice A' l'.length cap')) ∧ KeepT g w (w1.setCell ⟨g, 0, none⟩ (.slice A' l'.length cap')) := by
  have hb1 := blk_own hb ho (by decide) hgr
  have hb2 := hb1.set_ 0 (.slice A' l'.length cap')
  have hon : w1.grownBy (w1.setCell ⟨g, 0, none⟩ (.slice A' l'.length cap')) (some g) := ⟨rfl, rfl, rfl, by simp [World.setCell], fun k _ hne => Below.heap_setCell _ _ _ _ (fun e => hne (by rw [e]))⟩
  refine ⟨⟨⟨A', cap', by simpa using hb2, own_only ho' hb1 (by decide) hon⟩, hg, hl⟩, ?_, ?_⟩
  · have h1 : Below B w w1 := (Below.refl B w).grown hgr hB (fun k hk => (ho.lt k hk).1)
    exact h1.setCell (p := ⟨g, 0, none⟩) hg _
  · intro k cs t hk ht hbk
    have h1 : Blk w1 k t cs := blk_own hbk ho (fun e => ht e.symm) hgr
    exact h1.grown hon (by simpa using hk)

set_option maxRecDepth 100000 in
theorem wrBytes (B g : Nat) (q : St2) (s : List UInt8) (w : World) (h : WrAt w B g q) (hlen : q.1.length + s.length ≤ 35184372088832) :
    Calls Tryd.prog 38 #[.pointer (some ⟨g, 0, none⟩), .string (bs s)] w fun e w' => e = .returned (.tuple #[]) ∧ WrAt w' B g (wByt s q) ∧ Below B w w' ∧ KeepT g w w' := by
  obtain ⟨l, er⟩ := q
  obtain ⟨A, cap, hb, ho⟩ := h.ex
  have hg := h.base
  have hB : B ≤ w.heap.size := by have := hb.lt; omega
  simp only at hb ho hlen
  have hc0 : w.cell? ⟨g, 0, none⟩ = some (.slice A l.length cap) := hb.cell 0
  have hc1 : w.cell? ⟨g, 1, none⟩ = some (.int .i64 (er : Int)) := hb.cell 1
  by_cases he : er = 0
  · subst he
    have hb1 := hb
    go_enter Tryd.func38, Tryd.ntmps38
    go_wp2_with (at_builtin; refine wpList_append_str E.u8 Tryd.underlying9 rfl (.tmp 17) (.tmp 18) rfl rfl ho rfl (by omega) hB ?_; intro A2 cap2 w2 ho2 hg2; have hb2 := blk_own hb1 ho (by decide) hg2; have d0 : w2.cell? ⟨g, 0, none⟩ = some (.slice A l.length cap) := hb2.cell 0; have f0 := hb2.frozen 0)
    first | go_end0 | refine bodyPost_ret (results_none rfl _ _ _) rfl ?_
    obtain ⟨r1, r2, r3⟩ := wr_done1 (e := 0) hg hb1 ho ho2 hg2 hB (by simp; omega)
    exact ⟨rfl, by simpa [wByt] using r1, by simpa using r2, by simpa using r3⟩
  · have he' : ((er : Int) == 0) = false := by simpa using he
    have he2 : ((er : Int) != 0) = true := by simpa using he
    go_enter Tryd.func38, Tryd.ntmps38
    go_wp2
    first | go_end0 | refine bodyPost_ret (results_none rfl _ _ _) rfl ?_
    exact ⟨rfl, by simpa [wByt, he] using h, Below.refl _ _, KeepT.refl _ _⟩

set_option maxRecDepth 100000 in
theorem wrDone (B g : Nat) (q : St2) (w : World) (h : WrAt w B g q) :
    Calls Tryd.prog 39 #[.pointer (some ⟨g, 0, none⟩)] w fun e w' => e = .returned (.tuple #[.string (bs (if q.2 = 0 then q.1 else [])), .int .i64 (q.2 : Int)]) ∧ Gr w w' := by
  obtain ⟨l, er⟩ := q
  obtain ⟨A, cap, hb, ho⟩ := h.ex
  simp only at hb ho
  have hc0 : w.cell? ⟨g, 0, none⟩ = some (.slice A l.length cap) := hb.cell 0
  have hc1 : w.cell? ⟨g, 1, none⟩ = some (.int .i64 (er : Int)) := hb.cell 1
  by_cases he : er = 0
  · subst he
    have hcv := run_conv_own (src := 67) (dst := 9) Tryd.underlying67 Tryd.underlying5 Tryd.underlying9 ho
    go_enter Tryd.func39, Tryd.ntmps39
    go_wp2
    go_ret2
    exact ⟨rfl, Gr.refl _⟩
  · have he' : ((er : Int) == 0) = false := by simpa using he
    have he2 : ((er : Int) != 0) = true := by simpa using he
    go_enter Tryd.func39, Tryd.ntmps39
    go_wp2
    go_quiet (fail)
    go_wp2
    go_ret2
    exact ⟨by simp, (Gr.refl _).drewN _⟩

end Go.Proofs.YtbhpglhmnpcnkaaDoor

namespace Go.Proofs.YtbhpglhmnpcnkaaDoor
set_option maxRecDepth 100000
open Go.RowKit
set_option linter.unusedVariables false

/-- a head's bytes -/
def hdTxt (n : Int) (r : List UInt8) : List UInt8 × Int := if hdE n r = 0 then (numS n ++ r, 0) else ([], hdE n r)
theorem hdE_zero {n : Int} {r : List UInt8} (h : hdE n r = 0) : 0 ≤ n ∧ n ≤ 200 ∧ r.length = 32 := by
  unfold hdE at h
  split at h
  · cases h
  · rename_i h1
    split at h
    · rename_i h2; exact ⟨by omega, by omega, h2⟩
    · cases h

set_option maxHeartbeats 4000000 in
theorem rhtext_any (n : Int) (r : List UInt8) (w : World) (hr : r.length ≤ 1099511627776) :
    Calls Tryd.prog 16 #[.agg (headC n r)] w fun e w' => e = .returned (.tuple #[.string (bs (hdTxt n r).1), .int .i64 (hdTxt n r).2]) ∧ Gr w w' := by
  have HG := sec (fun w => rhgood_any n r w (by omega))
  have hg0 := (Gr.refl w).alloc (.cells (headC n r) 26)
  have hb := Blk.new w 26 (headC n r)
  have HN := sec (fun w => number_any n w)
  obtain ⟨wa, hwa⟩ : ∃ x, x = w.alloc (.cells (headC n r) 26) := ⟨_, rfl⟩
  obtain ⟨p, hp⟩ : ∃ p, p = w.heap.size := ⟨_, rfl⟩
  rw [← hwa] at hg0 hb
  rw [← hp] at hb
  have HB := sec hb
  have c0 : wa.cell? ⟨p, 0, none⟩ = some (.int .i64 n) := hb.cell 0
  have c1 : wa.cell? ⟨p, 1, none⟩ = some (.string (bs r)) := hb.cell 1
  clear hb
  unfold headC at HG hwa
  unfold headC
  by_cases hE : hdE n r = 0
  · have HR : Sec (hdTxt n r = (numS n ++ r, 0)) := sec (by unfold hdTxt; rw [if_pos hE])
    obtain ⟨h0, h1, h2⟩ := hdE_zero hE
    rw [HR.out]
    rw [hE] at HG
    have hnl : (numS n).length ≤ 9 := by rw [numS_in h0 (by omega)]; exact num_len9 (by omega)
    obtain ⟨N, hN⟩ : ∃ N, N = numS n := ⟨_, rfl⟩
    rw [← hN] at hnl HN
    rw [← hN]
    have hcat : ¬ 9223372036854775807 < N.length + r.length := by omega
    clear hE HR hN
    go_enter Tryd.func16, Tryd.ntmps16
    go_wp2_with (first
      | (rw [← hwa, ← hp]; clear hwa hp; go_wp2_with fail)
      | (go_at_call 20; refine Calls.mono (HG.out _) ?_; rintro e w1 ⟨rfl, g1⟩; have x0 : w1.cell? ⟨p, 0, none⟩ = some (.int .i64 n) := (HB.out.gr g1).cell 0; have x1 : w1.cell? ⟨p, 1, none⟩ = some (.string (bs r)) := (HB.out.gr g1).cell 1))
    have g1d : Gr w1 w1.drew := (Gr.refl _).drew
    have HSK : Sec (∀ w', Gr w1 w' → w'.cell? ⟨p, 0, none⟩ = some (.int .i64 n) ∧ w'.cell? ⟨p, 1, none⟩ = some (.string (bs r)) ∧ Gr w1 w') := sec (fun w' g => ⟨(HB.out.gr (g1.trans g)).cell 0, (HB.out.gr (g1.trans g)).cell 1, g⟩)
    go_region_with (go_at_call 40; (with_reducible refine Calls.mono (HN.out w1.drew) ?_); rintro e w2 ⟨rfl, g2'⟩; have g2 : Gr w1 w2 := Gr.trans g1d g2'; obtain ⟨y0, y1, _⟩ := HSK.out w2 g2)
    all_goals (go_wp2_with fail; go_ret2; exact ⟨rfl, hg0.trans (g1.trans g2)⟩)
  · have HR : Sec (hdTxt n r = ([], hdE n r)) := sec (by unfold hdTxt; rw [if_neg hE])
    rw [HR.out]
    obtain ⟨E, hEE⟩ : ∃ E, E = hdE n r := ⟨_, rfl⟩
    rw [← hEE] at HG hE
    rw [← hEE]
    have m0 : (E != 0) = true := by simpa using hE
    clear hEE HR
    go_enter Tryd.func16, Tryd.ntmps16
    go_wp2_with (first
      | (rw [← hwa, ← hp]; clear hwa hp; go_wp2_with fail)
      | (go_at_call 20; refine Calls.mono (HG.out _) ?_; rintro e w1 ⟨rfl, g1⟩))
    go_ret2
    exact ⟨rfl, hg0.trans g1⟩

set_option maxHeartbeats 4000000 in
theorem htext_any (n : Int) (r : List UInt8) (w : World) (hr : r.length ≤ 1099511627776) :
    Calls Tryd.prog 15 #[.agg (headC n r)] w fun e w' => e = .returned (.tuple #[.string (bs (hdTxt n r).1), .int .i64 (hdTxt n r).2]) ∧ Gr w w' := by
  have HG := sec (fun w => hgood_any n r w (by omega))
  have hg0 := (Gr.refl w).alloc (.cells (headC n r) 26)
  have hb := Blk.new w 26 (headC n r)
  obtain ⟨wa, hwa⟩ : ∃ x, x = w.alloc (.cells (headC n r) 26) := ⟨_, rfl⟩
  obtain ⟨p, hp⟩ : ∃ p, p = w.heap.size := ⟨_, rfl⟩
  rw [← hwa] at hg0 hb
  rw [← hp] at hb
  have HB := sec hb
  have c0 : wa.cell? ⟨p, 0, none⟩ = some (.int .i64 n) := hb.cell 0
  have c1 : wa.cell? ⟨p, 1, none⟩ = some (.string (bs r)) := hb.cell 1
  clear hb
  unfold headC at HG hwa
  unfold headC
  by_cases hE : hdE n r = 0
  · have HR : Sec (hdTxt n r = (numS n ++ r, 0)) := sec (by unfold hdTxt; rw [if_pos hE])
    obtain ⟨h0, h1, h2⟩ := hdE_zero hE
    rw [HR.out]
    rw [hE] at HG
    have hnl : (numS n).length ≤ 9 := by rw [numS_in h0 (by omega)]; exact num_len9 (by omega)
    have HNu : Sec (∀ B g w, WrAt w B g ([], 0) → Calls Tryd.prog 37 #[.pointer (some ⟨g, 0, none⟩), .int .i64 n] w fun e w' => e = .returned (.tuple #[]) ∧ WrAt w' B g (numS n, 0) ∧ Below B w w' ∧ KeepT g w w') := sec (fun B g w h => by
      have := wrNumber B g ([], 0) n w h (by simp)
      have e : wNum n ([], 0) = (numS n, 0) := by unfold wNum; rw [if_pos rfl, if_pos ⟨h0, by omega⟩]; rfl
      rwa [e] at this)
    have HBy : Sec (∀ B g w, WrAt w B g (numS n, 0) → Calls Tryd.prog 38 #[.pointer (some ⟨g, 0, none⟩), .string (bs r)] w fun e w' => e = .returned (.tuple #[]) ∧ WrAt w' B g (numS n ++ r, 0) ∧ Below B w w' ∧ KeepT g w w') := sec (fun B g w h => wrBytes B g (numS n, 0) r w h (by simp only; omega))
    have HDn : Sec (∀ B g w, WrAt w B g (numS n ++ r, 0) → Calls Tryd.prog 39 #[.pointer (some ⟨g, 0, none⟩)] w fun e w' => e = .returned (.tuple #[.string (bs (numS n ++ r)), .int .i64 0]) ∧ Gr w w') := sec (fun B g w h => wrDone B g (numS n ++ r, 0) w h)
    have HW0 : Sec (∀ w1 : World, WrAt (w1.alloc (.cells #[.slice none 0 0, .int .i64 0] 69)) w1.heap.size w1.heap.size ([], 0)) := sec (fun w1 => ⟨⟨none, 0, Blk.new w1 _ _, World.ownsRow_nil _ _ _ _⟩, Nat.le_refl _, by simp⟩)
    clear hE HR h2
    go_enter Tryd.func15, Tryd.ntmps15
    go_wp2_with (first
      | (rw [← hwa, ← hp]; clear hwa hp; go_wp2_with fail)
      | (go_at_call 19; refine Calls.mono (HG.out _) ?_; rintro e w1 ⟨rfl, g1⟩; have b1 := HB.out.gr g1; have x0 : (w1.alloc (.cells #[.slice none 0 0, .int .i64 0] 69)).cell? ⟨p, 0, none⟩ = some (.int .i64 n) := (b1.alloc _).cell 0; have x1 : (w1.alloc (.cells #[.slice none 0 0, .int .i64 0] 69)).cell? ⟨p, 1, none⟩ = some (.string (bs r)) := (b1.alloc _).cell 1)
      | (go_at_call 37; refine Calls.mono (HNu.out w1.heap.size w1.heap.size _ (HW0.out w1)) ?_; rintro e w2 ⟨rfl, d2, k2, _⟩; have b2 : Gr w1 w2 := Below.trans ((Gr.refl w1).alloc _) k2; have y0 : w2.cell? ⟨p, 0, none⟩ = some (.int .i64 n) := (b1.gr b2).cell 0; have y1 : w2.cell? ⟨p, 1, none⟩ = some (.string (bs r)) := (b1.gr b2).cell 1)
      | (go_at_call 38; refine Calls.mono (HBy.out _ _ _ d2) ?_; rintro e w3 ⟨rfl, d3, k3, _⟩; have b3 : Gr w1 w3 := Below.trans b2 k3)
      | (go_at_call 39; refine Calls.mono (HDn.out _ _ _ d3) ?_; rintro e w4 ⟨rfl, g4⟩))
    go_ret2
    exact ⟨rfl, hg0.trans (g1.trans (b3.trans g4))⟩
  · have HR : Sec (hdTxt n r = ([], hdE n r)) := sec (by unfold hdTxt; rw [if_neg hE])
    rw [HR.out]
    obtain ⟨E, hEE⟩ : ∃ E, E = hdE n r := ⟨_, rfl⟩
    rw [← hEE] at HG hE
    rw [← hEE]
    have m0 : (E != 0) = true := by simpa using hE
    clear hEE HR
    go_enter Tryd.func15, Tryd.ntmps15
    go_wp2_with (first
      | (rw [← hwa, ← hp]; clear hwa hp; go_wp2_with fail)
      | (go_at_call 19; refine Calls.mono (HG.out _) ?_; rintro e w1 ⟨rfl, g1⟩))
    go_ret2
    exact ⟨rfl, hg0.trans g1⟩
end Go.Proofs.YtbhpglhmnpcnkaaDoor

namespace Go.Proofs.YtbhpglhmnpcnkaaDoor
set_option maxRecDepth 100000
open Go.RowKit
set_option linter.unusedVariables false

theorem aggHead : AggOk 26 2 := A.head
theorem hdTxt0 (R : List UInt8) (h : R.length = 32) : (hdTxt 0 R).2 = 0 ∧ (hdTxt 0 R).1.length = 33 := by
  have hE : hdE 0 R = 0 := by
    unfold hdE
    rw [if_neg (by decide), if_pos h]
  unfold hdTxt
  rw [if_pos hE]
  refine ⟨rfl, ?_⟩
  have h1 : (numS 0).length = 1 := by
    rw [numS_in (by omega) (by omega)]
    have a := num_pos 0
    have b := num_len 0 0 (by decide)
    have e : (0 : Int).toNat = 0 := rfl
    rw [e]
    omega
  rw [List.length_append, h1, h]
set_option maxHeartbeats 1000000 in
theorem leaves0_any (w : World) : Calls Tryd.prog 60 #[.slice none 0 0] w fun e w' => e = .returned (.tuple #[.slice none 0 0, .int .i64 0]) ∧ w' = w := by
  go_enter Tryd.func60, Tryd.ntmps60
  go_wp2_with fail
  go_loopw [11, 4, 6, 7, 8] (fun iv v4 _ _ _ wr => iv = .int .i64 0 ∧ v4 = .slice none 0 0 ∧ wr = w) (fun _ _ _ _ _ _ => 0)
  case atStart => exact ⟨rfl, rfl, rfl⟩
  case round =>
    obtain ⟨rfl, rfl, rfl⟩ := hrel
    go_wp2_with fail
    go_ret2
    exact ⟨rfl, rfl⟩

set_option maxHeartbeats 1000000 in
theorem of0_any (w : World) (hT : TabK w) : Calls Tryd.prog 36 #[.slice none 0 0] w fun e w' => e = .returned (.tuple #[.agg (headC 0 (sha [])), .int .i64 0]) ∧ Gr w w' := by
  have HR : Sec (∀ W, Gr w W → Calls Tryd.prog 47 #[.slice none 0 0] W fun e w' => e = .returned (.string (bs (sha []))) ∧ Gr W w') := sec (fun W g => by
    have := root_any 0 [] none 0 0 W (by simp) (by omega) (by omega) ⟨rfl, fun h => absurd h (by omega)⟩ (by intro s h; cases h) (hT.gr g)
    rw [rootL_nil] at this
    exact this)
  clear hT
  go_enter Tryd.func36, Tryd.ntmps36
  go_wp2_with (first
    | (refine wpList_store_blk rfl 26 (.tmp 2) (.tmp 23) rfl (g := w.heap.size) (cs' := headC 0 (sha [])) rfl rfl hB A.head rfl (headC_one _ _) ?_; intro w2 h2 hg2)
    | (go_at_call 60; refine Calls.mono (leaves0_any _) ?_; rintro e w3 ⟨rfl, rfl⟩)
    | (go_at_call 47; refine Calls.mono (HR.out _ ((Gr.refl w).alloc _)) ?_; rintro e w1 ⟨rfl, g1⟩; have hB := (Blk.new w 26 (headC 0 [])).gr g1; have gg1 : Gr w w1 := Gr.trans ((Gr.refl w).alloc _) g1))
  refine bodyPost_ret (results_blk_tmp rfl _ rfl h2 A.head) rfl ?_
  exact ⟨rfl, Gr.only gg1 hg2 (Nat.le_refl _)⟩
set_option maxHeartbeats 1000000 in
theorem heads_any (w : World) (hT : TabK w) : Calls Tryd.prog 14 #[] w fun e w' => e = .returned (.bool true) ∧ Gr w w' := by
  have HOf := sec (of0_any w hT)
  have HEm : Sec (∀ W, Gr w W → Calls Tryd.prog 21 #[] W fun e w' => e = .returned (.agg (headC 0 (sha []))) ∧ Gr W w') := sec (fun W g => empty_any W (hT.gr g))
  have hl := sha_len []
  obtain ⟨R, hR⟩ : ∃ R, R = sha [] := ⟨_, rfl⟩
  rw [← hR] at HEm HOf hl
  clear hR hT
  obtain ⟨t0, t1⟩ := hdTxt0 R hl
  have HTx : Sec (∀ W, Calls Tryd.prog 15 #[.agg (headC 0 R)] W fun e w' => e = .returned (.tuple #[.string (bs (hdTxt 0 R).1), .int .i64 0]) ∧ Gr W w') := sec (fun W => by
    have h := htext_any 0 R W (by omega)
    rw [t0] at h
    exact h)
  obtain ⟨X, hX⟩ : ∃ X, X = (hdTxt 0 R).1 := ⟨_, rfl⟩
  rw [← hX] at HTx t1
  have hx33 : (X.length : Int) = 33 := by omega
  unfold headC at HOf HEm HTx
  clear hX t0
  go_enter Tryd.func14, Tryd.ntmps14
  go_wp2_with (first
    | (go_at_call 36; refine Calls.mono HOf.out ?_; rintro e w1 ⟨rfl, g1⟩)
    | (go_at_call 15; refine Calls.mono (HTx.out _) ?_; rintro e w2 ⟨rfl, g2⟩; have hb := (Blk.new w1 26 #[.int .i64 0, .string (bs R)]).gr g2; have gg2 : Gr w w2 := (g1.alloc _).trans g2; have x0 : w2.cell? ⟨w1.heap.size, 0, none⟩ = some (.int .i64 0) := hb.cell 0; have x1 : w2.cell? ⟨w1.heap.size, 1, none⟩ = some (.string (bs R)) := hb.cell 1))
  have g2d : Gr w2 w2.drew := (Gr.refl _).drew
  have HSK : Sec (∀ w', Gr w2 w' → w'.cell? ⟨w1.heap.size, 0, none⟩ = some (.int .i64 0) ∧ w'.cell? ⟨w1.heap.size, 1, none⟩ = some (.string (bs R)) ∧ Gr w2 w') := sec (fun w' g => ⟨(hb.gr g).cell 0, (hb.gr g).cell 1, g⟩)
  go_region_held3 (fun w' => w'.cell? ⟨w1.heap.size, 0, none⟩ = some (.int .i64 0) ∧ w'.cell? ⟨w1.heap.size, 1, none⟩ = some (.string (bs R)) ∧ Gr w2 w')
    (first | with_reducible assumption | with_reducible exact HSK.out _ g2d | with_reducible exact HSK.out _ g4 | fail)
    (first
      | (go_at_call 21; (with_reducible refine Calls.mono (HEm.out w2.drew (gg2.trans g2d)) ?_); rintro e w4 ⟨rfl, g4'⟩; have g4 : Gr w2 w4 := Gr.trans g2d g4')
      | fail)
  all_goals (go_wp2_with fail; go_ret; exact ⟨rfl, gg2.trans g4⟩)
end Go.Proofs.YtbhpglhmnpcnkaaDoor

namespace Go.Proofs.YtbhpglhmnpcnkaaDoor
set_option maxRecDepth 100000
open Go.RowKit Go.ChangeShapes Go.WideShapes
set_option linter.unusedVariables false

theorem open_head {w : World} {r : Reach} {base : Nat} {H : Type} {enc : TypeId × Value → H} {v : Value} {d : DataW H} {p : List MemPlace}
    (hv : Value.okWide Tryd.prog w r base 26 v) (hd : DataW.Trod enc Tryd.prog w 0 (fun _ => true) true 26 v d p) (hb : Rows.uptoBulk d ≤ 1048576) :
    ∃ n rt, v = .agg (headC n rt) ∧ rt.length ≤ 1048576 := by
  obtain ⟨cs, ⟨n, rt⟩, rfl, ⟨hc, _⟩, hs⟩ := open_structD_arg Tryd.underlying26 (opens_headD w) hv hd
  simp only at hc hs
  refine ⟨n, rt, ?_, by omega⟩
  unfold headC
  congr 1
  exact Array.toList_inj.1 hc
set_option maxHeartbeats 4000000 in
theorem headTexts_walk (n : Int) (r : List UInt8) (b : List UInt8) (W : World) (hr : r.length ≤ 1048576) (hbl : b.length ≤ 1048576) (hT : TabK W) :
    Calls Tryd.prog 5 #[.agg (headC n r), .string (bs b)] W fun e W' => e = .returned (.bool true) ∧ Gr W W' := by
  have hg0 := (Gr.refl W).alloc (.cells (headC n r) 26)
  have hb1 := Blk.new W 26 (headC n r)
  have hT1 := hT.gr hg0
  obtain ⟨wa, hwa⟩ : ∃ x, x = W.alloc (.cells (headC n r) 26) := ⟨_, rfl⟩
  rw [← hwa] at hg0 hb1 hT1
  obtain ⟨p, hp⟩ : ∃ p, p = W.heap.size := ⟨_, rfl⟩
  rw [← hp] at hb1
  have HT1 := sec (fun w => htext_any n r w (by omega))
  have HT2 := sec (fun w => rhtext_any n r w (by omega))
  have HR1 := sec (fun w => hread_any b w (by omega))
  have HR2 := sec (fun w => rhread_any b w (by omega))
  have HG1 := sec (fun w => hgood_any n r w (by omega))
  have HG2 := sec (fun w => rhgood_any n r w (by omega))
  have HEm : Sec (∀ w, Gr wa w → Calls Tryd.prog 21 #[] w fun e w' => e = .returned (.agg (headC 0 (sha []))) ∧ Gr w w') := sec (fun w g => empty_any w (hT1.gr g))
  have HNo : Sec (∀ w, Calls Tryd.prog 22 #[] w fun e w' => e = .returned (.agg (headC 0 (sha []))) ∧ Gr w w') := sec (fun w => nohead_any w)
  have HHs : Sec (∀ w, Gr wa w → Calls Tryd.prog 14 #[] w fun e w' => e = .returned (.bool true) ∧ Gr w w') := sec (fun w g => heads_any w (hT1.gr g))
  obtain ⟨Z, hZ⟩ : ∃ Z, Z = sha [] := ⟨_, rfl⟩
  rw [← hZ] at HEm HNo
  obtain ⟨T, hTT⟩ : ∃ T, T = hdTxt n r := ⟨_, rfl⟩
  rw [← hTT] at HT1 HT2
  obtain ⟨D, hD⟩ : ∃ D, D = hdRd b := ⟨_, rfl⟩
  rw [← hD] at HR1 HR2
  obtain ⟨E, hE⟩ : ∃ E, E = hdE n r := ⟨_, rfl⟩
  rw [← hE] at HG1 HG2
  obtain ⟨hz, hr2, he⟩ := D
  obtain ⟨tx, te⟩ := T
  have HB : Sec (Blk wa p 26 #[.int .i64 n, .string (bs r)]) := sec hb1
  have c0 : wa.cell? ⟨p, 0, none⟩ = some (.int .i64 n) := HB.out.cell 0
  have c1 : wa.cell? ⟨p, 1, none⟩ = some (.string (bs r)) := HB.out.cell 1
  clear hZ hTT hD hE hb1 hT hT1 hr hbl
  unfold headC at HT1 HT2 HR1 HR2 HG1 HG2 HEm HNo hwa
  unfold headC
  go_enter Tryd.func5, Tryd.ntmps5
  go_wp2_with (first
    | (rw [← hwa, ← hp]; clear hwa hp; go_wp2_with fail)
    | (go_at_call 15; refine Calls.mono (HT1.out _) ?_; rintro e w1 ⟨rfl, g1⟩; have d0 : w1.cell? ⟨p, 0, none⟩ = some (.int .i64 n) := (HB.out.gr g1).cell 0; have d1 : w1.cell? ⟨p, 1, none⟩ = some (.string (bs r)) := (HB.out.gr g1).cell 1)
    | (go_at_call 16; refine Calls.mono (HT2.out _) ?_; rintro e w2 ⟨rfl, g2⟩)
    | (go_at_call 17; refine Calls.mono (HR1.out _) ?_; rintro e w3 ⟨rfl, g3⟩; have hq3 := Blk.new w3 26 #[.int .i64 hz, .string (bs hr2)])
    | (go_at_call 18; refine Calls.mono (HR2.out _) ?_; rintro e w4 ⟨rfl, g4⟩))
  have HG7 := sec ((((g1.trans g2).trans g3).alloc (.cells #[.int .i64 hz, .string (bs hr2)] 26)).trans g4 |>.alloc (.cells #[.int .i64 hz, .string (bs hr2)] 26))
  have K1 := sec ((hq3.gr g4).alloc (.cells #[.int .i64 hz, .string (bs hr2)] 26))
  have K2 := sec (Blk.new w4 26 #[.int .i64 hz, .string (bs hr2)])
  obtain ⟨w7, hw7⟩ : ∃ x, x = w4.alloc (.cells #[.int .i64 hz, .string (bs hr2)] 26) := ⟨_, rfl⟩
  obtain ⟨pa, hpa⟩ : ∃ x, x = w3.heap.size := ⟨_, rfl⟩
  obtain ⟨pb, hpb⟩ : ∃ x, x = w4.heap.size := ⟨_, rfl⟩
  rw [← hw7] at HG7 K1 K2
  rw [← hpa] at K1
  rw [← hpb] at K2
  rw [← hw7, ← hpa, ← hpb]
  clear hw7 hpa hpb hq3 g4 g3 g2 g1 d0 d1 c0 c1
  have HSK : Sec (∀ w', Gr w7 w' → w'.cell? ⟨pa, 0, none⟩ = some (.int .i64 hz) ∧ w'.cell? ⟨pa, 1, none⟩ = some (.string (bs hr2)) ∧ w'.cell? ⟨pb, 0, none⟩ = some (.int .i64 hz) ∧ w'.cell? ⟨pb, 1, none⟩ = some (.string (bs hr2)) ∧ w'.cell? ⟨p, 0, none⟩ = some (.int .i64 n) ∧ w'.cell? ⟨p, 1, none⟩ = some (.string (bs r)) ∧ Gr w7 w') := sec (fun w' g => ⟨(K1.out.gr g).cell 0, (K1.out.gr g).cell 1, (K2.out.gr g).cell 0, (K2.out.gr g).cell 1, (HB.out.gr (HG7.out.trans g)).cell 0, (HB.out.gr (HG7.out.trans g)).cell 1, g⟩)
  clear K1 K2
  have g7 : Gr w7 w7.drew := (Gr.refl _).drew
  go_region_held3 (fun w' => w'.cell? ⟨pa, 0, none⟩ = some (.int .i64 hz) ∧ w'.cell? ⟨pa, 1, none⟩ = some (.string (bs hr2)) ∧ w'.cell? ⟨pb, 0, none⟩ = some (.int .i64 hz) ∧ w'.cell? ⟨pb, 1, none⟩ = some (.string (bs hr2)) ∧ w'.cell? ⟨p, 0, none⟩ = some (.int .i64 n) ∧ w'.cell? ⟨p, 1, none⟩ = some (.string (bs r)) ∧ Gr w7 w')
    (first | with_reducible assumption | with_reducible exact HSK.out _ g7 | with_reducible exact HSK.out _ g8 | with_reducible exact HSK.out _ g9 | with_reducible exact HSK.out _ g10 | with_reducible exact HSK.out _ g11 | with_reducible exact HSK.out _ g12 | fail)
    (first
      | (go_at_call 19; (with_reducible refine Calls.mono (HG1.out w7.drew) ?_); rintro e w8 ⟨rfl, g8'⟩; have g8 : Gr w7 w8 := Gr.trans g7 g8')
      | (go_at_call 20; (with_reducible refine Calls.mono (HG2.out w8) ?_); rintro e w9 ⟨rfl, g9'⟩; have g9 : Gr w7 w9 := Gr.trans g8 g9')
      | (go_at_call 21; (with_reducible refine Calls.mono (HEm.out w9 (HG7.out.trans g9)) ?_); rintro e w10 ⟨rfl, g10'⟩; have g10 : Gr w7 w10 := Gr.trans g9 g10')
      | (go_at_call 22; (with_reducible refine Calls.mono (HNo.out w10) ?_); rintro e w11 ⟨rfl, g11'⟩; have g11 : Gr w7 w11 := Gr.trans g10 g11')
      | (go_at_call 14; (with_reducible refine Calls.mono (HHs.out w11 (HG7.out.trans g11)) ?_); rintro e w12 ⟨rfl, g12'⟩; have g12 : Gr w7 w12 := Gr.trans g11 g12')
      | fail)
  all_goals (go_wp2_with fail; go_ret; exact ⟨rfl, hg0.trans (HG7.out.trans g12)⟩)
end Go.Proofs.YtbhpglhmnpcnkaaDoor

namespace Go.Proofs.YtbhpglhmnpcnkaaDoor
open Go.RowKit Go.ChangeShapes Go.WideShapes Go.ChangeAt
set_option linter.unusedVariables false

theorem gTab : Tryd.prog.globalNamed "cartulary/sum.table" = some 0 := by kernel_rfl
theorem gTabType : (Tryd.prog.globals[0]?).map (·.type) = some 139 := by kernel_rfl
theorem cellsTab : Tryd.prog.cellsOf 139 = 64 := by kernel_rfl
theorem cellsU32 : Tryd.prog.cellsOf 98 = 1 := by kernel_rfl
def kInts : List Int := kTab.map fun x => (x.toNat : Int)
theorem table_of {W : World} {rest : List (String × DataW Unit)} (h : laidMet Tryd.prog (("cartulary/sum.table", Rows.laid_cartulary_sum_table) :: rest) W) : TabK W := by
  have ht : Lib.TabIs Tryd.prog W "cartulary/sum.table" .u32 kInts :=
    Lib.tabIs_of_head (rest := rest) gTab gTabType Tryd.underlying139 Tryd.underlying98 cellsU32 cellsTab h
  refine ⟨fun i hi => ?_⟩
  have hl : i < kInts.length := by unfold kInts; rw [List.length_map, kTab_len]; exact hi
  have := ht.cell gTab i hl
  rw [this]
  have : i < kTab.length := by rw [kTab_len]; exact hi
  simp [kInts, kAt, u32V, this]

/-- the numbers of a listed variable, flat -/
def flatW : Nat → DataW Unit → List Value
  | 0, _ => []
  | _ + 1, .lit (.int k z) => [.int k z]
  | n + 1, .agg xs => xs.flatMap (flatW n)
  | _ + 1, _ => []
/-- a heap in which each listed variable holds what its initialiser lays -/
noncomputable def laidHeap (l : List (String × DataW Unit)) (h : Array Obj) : Array Obj :=
  l.foldl (fun h x => match Tryd.prog.globalNamed x.1 with
    | some g => h.modify g fun
      | .cells _ t frozen => .cells (flatW 8 x.2).toArray t frozen
      | o => o
    | none => h) h
/-- a world for a witness: the settled one, the listed variables holding what their initialisers lay -/
noncomputable def laidWorld (l : List (String × DataW Unit)) (os : Os) : World :=
  { World.holding Tryd.prog os ⟨#[], #[], []⟩ with heap := laidHeap l (World.holding Tryd.prog os ⟨#[], #[], []⟩).heap }
end Go.Proofs.YtbhpglhmnpcnkaaDoor

/-
  wire.Writer by its contracts: what was put, what went wrong.
-/
import Derived.Test.YtoamnifnfkgbiaaGreatDoorWireN
import Derived.Test.YtoamnifnfkgbiaaGreatDoorElems
import Derived.Lib.AppendStr
namespace Go.Proofs.YtoamnifnfkgbiaaGreatDoor
open Go.RowKit
theorem strCells_bs (l : List UInt8) : Lib.strCells (bs l) = l.map byteV := by
  unfold Lib.strCells byteV; rw [bs_data]

/-- append of a string onto a row of bytes of the call's own -/
theorem wpList_append_str {ops : Array Oper} {rest : List Oper} {o : Oper} {a : Act} {Q : Exit → Act → World → Prop} {w : World} {t u e : TypeId}
    (E : ElemOk t e (.int .u8 0) 1 1) (hu : Tryz.prog.underlying u = some .string) (hgd : o.guard = none) (sl x : Operand) (ho : o.op = .call { callee := .builtin .append, args := #[sl, x], argTypes := #[t, u] })
    {B : Nat} {A : Option Addr} {cap : Nat} {l s : List UInt8} (hs : a.eval sl = .slice A l.length cap) (hown : w.ownsRow B e 1 (.slice A l.length cap) l.length (l.map byteV)) (hx : a.eval x = .string (bs s))
    (hbytes : l.length + s.length ≤ 140737488355328) (hB : B ≤ w.heap.size)
    (h : ∀ A' cap' w', w'.ownsRow B e 1 (.slice A' (l ++ s).length cap') (l ++ s).length ((l ++ s).map byteV) → w.grownBy w' (Value.ownBlock (.slice A l.length cap)) →
      wpList Tryz.prog ops Q rest (a.put o.dst (.slice A' (l ++ s).length cap')) w') :
    wpList Tryz.prog ops Q (o :: rest) a w := by
  obtain ⟨i0, hi0, hz0, hz1, hz2⟩ := info_parts E.info
  refine Lib.wpList_append_own_string (P := Tryz.prog) w hgd sl x t u ho B e i0 E.under hu hi0 hz0 hz1 hz2 _ l.length _ hs hown (bs s) hx (by rw [bs_size]; unfold maxLen; omega) (by rw [bs_size]; exact hbytes) hB ?_
  intro v' w' hown' hg _
  rw [bs_size, strCells_bs, ← List.map_append] at hown'
  have el : l.length + s.length = (l ++ s).length := by simp
  rw [el] at hown'
  rcases hown'.2 with ⟨hv, h0⟩ | ⟨g, cap', cur, hv, _⟩
  · subst hv
    have h1 : (l ++ s).length = 0 := h0
    have := h none 0 w'
    rw [h1] at this hown'
    exact this hown' hg
  · subst hv
    exact h (some ⟨g, 0, none⟩) cap' w' hown' hg

abbrev St2 := List UInt8 × Nat
/-- a writer that holds l, with error e, lies in block g; its row is younger than B -/
structure WrAt (w : World) (B g : Nat) (q : List UInt8 × Nat) : Prop where
  ex : ∃ A cap, Blk w g 197 #[.slice A q.1.length cap, .int .i64 (q.2 : Int)] ∧ w.ownsRow B 5 1 (.slice A q.1.length cap) q.1.length (q.1.map byteV)
  base : B ≤ g
  len : q.1.length ≤ 35184372088832
/-- blocks of cells of another type than byte, other than g, are as they were -/
def KeepT (g : Nat) (w w' : World) : Prop := ∀ k cs t, k ≠ g → t ≠ 5 → Blk w k t cs → Blk w' k t cs

theorem WrAt.gr {w w' : World} {B g : Nat} {q : List UInt8 × Nat} (h : WrAt w B g q) (k : Gr w w') : WrAt w' B g q :=
  ⟨by obtain ⟨A, cap, hb, ho⟩ := h.ex; exact ⟨A, cap, hb.gr k, own_gr ho k⟩, h.base, h.len⟩
theorem KeepT.refl (g : Nat) (w : World) : KeepT g w w := fun _ _ _ _ _ h => h
theorem KeepT.trans {g : Nat} {a b c : World} (h : KeepT g a b) (k : KeepT g b c) : KeepT g a c := fun i cs t h1 h2 h3 => k i cs t h1 h2 (h i cs t h1 h2 h3)
theorem KeepT.gr {g : Nat} {a b : World} (h : Gr a b) : KeepT g a b := fun _ _ _ _ _ h3 => h3.gr h

/-- what the two stores into the writer leave -/
theorem only_set2' (w : World) (g : Nat) (u v : Value) : w.grownBy ((w.setCell ⟨g, 0, none⟩ u).setCell ⟨g, 1, none⟩ v) (some g) :=
  ⟨rfl, rfl, rfl, by simp [World.setCell], fun k _ hne => by
    rw [Below.heap_setCell _ _ _ _ (fun e => hne (by rw [e])), Below.heap_setCell _ _ _ _ (fun e => hne (by rw [e]))]⟩
theorem wr_done {w w1 : World} {B g : Nat} {A A' : Option Addr} {cap cap' : Nat} {l l' : List UInt8} {e e' : Nat} (hg : B ≤ g) (hb : Blk w g 197 #[.slice A l.length cap, .int .i64 (e : Int)])
    (ho : w.ownsRow B 5 1 (.slice A l.length cap) l.length (l.map byteV)) (ho' : w1.ownsRow B 5 1 (.slice A' l'.length cap') l'.length (l'.map byteV)) (hgr : w.grownBy w1 (Value.ownBlock (.slice A l.length cap))) (hB : B ≤ w.heap.size) (hl : l'.length ≤ 35184372088832) :
    WrAt ((w1.setCell ⟨g, 0, none⟩ (.slice A' l'.length cap')).setCell ⟨g, 1, none⟩ (.int .i64 (e' : Int))) B g (l', e') ∧
    Below B w ((w1.setCell ⟨g, 0, none⟩ (.slice A' l'.length cap')).setCell ⟨g, 1, none⟩ (.int .i64 (e' : Int))) ∧
    KeepT g w ((w1.setCell ⟨g, 0, none⟩ (.slice A' l'.length cap')).setCell ⟨g, 1, none⟩ (.int .i64 (e' : Int))) := by
  have hb1 := blk_own hb ho (by decide) hgr
  have hb2 := (hb1.set_ 0 (.slice A' l'.length cap')).set_ 1 (.int .i64 (e' : Int))
  have hon := only_set2' w1 g (.slice A' l'.length cap') (.int .i64 (e' : Int))
  refine ⟨⟨⟨A', cap', by simpa using hb2, own_only ho' hb1 (by decide) hon⟩, hg, hl⟩, ?_, ?_⟩
  · have h1 : Below B w w1 := (Below.refl B w).grown hgr hB (fun k hk => (ho.lt k hk).1)
    exact (h1.setCell (p := ⟨g, 0, none⟩) hg _).setCell (p := ⟨g, 1, none⟩) hg _
  · intro k cs t hk ht hbk
    have h1 : Blk w1 k t cs := blk_own hbk ho (fun e => ht e.symm) hgr
    exact h1.grown hon (by simpa using hk)

/-- P2.5 -/
def wNum (n : Int) (q : St2) : St2 := if q.2 = 0 then (q.1 ++ numS n, if 0 ≤ n ∧ n < 4611686018427387904 then 0 else 3) else q
def wTxt (t : List UInt8) (q : St2) : St2 := if q.2 = 0 then (if t.length ≤ 4096 then (q.1 ++ txt t, 0) else (q.1, 1)) else q
def wByt (s : List UInt8) (q : St2) : St2 := if q.2 = 0 then (q.1 ++ s, 0) else q
set_option maxRecDepth 100000 in
theorem wrNumber (B g : Nat) (q : St2) (n : Int) (w : World) (h : WrAt w B g q) (hlen : q.1.length ≤ 35184372088000) :
    Calls Tryz.prog 175 #[.pointer (some ⟨g, 0, none⟩), .int .i64 n] w fun e w' => e = .returned (.tuple #[]) ∧ WrAt w' B g (wNum n q) ∧ Below B w w' ∧ KeepT g w w' := by
  obtain ⟨l, er⟩ := q
  obtain ⟨A, cap, hb, ho⟩ := h.ex
  have hg := h.base
  have hB : B ≤ w.heap.size := by have := hb.lt; omega
  simp only at hb ho hlen
  have hc0 : w.cell? ⟨g, 0, none⟩ = some (.slice A l.length cap) := hb.cell 0
  have hc1 : w.cell? ⟨g, 1, none⟩ = some (.int .i64 (er : Int)) := hb.cell 1
  by_cases he : er = 0
  · subst he
    by_cases hn : 0 ≤ n ∧ n < 4611686018427387904
    · have hN := numS_in hn.1 hn.2
      have h9 := num_len9 (n := n.toNat) (by omega)
      have HN := sec hN
      clear hN
      go_enter Tryz.func175, Tryz.ntmps175
      go_wp2_with (first
        | (go_at_call 204; refine (put_ok [] _ _ (by omega) (by omega) (by simp)).mono ?_; rintro e w1 ⟨rfl, g1⟩; rw [List.nil_append]; have hb1 := hb.gr g1; have c0 : w1.cell? ⟨g, 0, none⟩ = some (.slice A l.length cap) := hb1.cell 0; have ho1 := own_gr ho g1; have hB1 : B ≤ w1.heap.size := by have := g1.size; omega)
        | (at_builtin; refine wpList_append_str E.u8 Tryz.underlying9 rfl (.tmp 25) (.tmp 26) rfl rfl ho1 rfl (by first | omega | (simp; omega)) hB1 ?_; intro A2 cap2 w2 ho2 hg2; have hb2 := blk_own hb1 ho1 (by decide) hg2; have d0 : w2.cell? ⟨g, 0, none⟩ = some (.slice A l.length cap) := hb2.cell 0; have d1 : w2.cell? ⟨g, 1, none⟩ = some (.int .i64 ((0 : Nat) : Int)) := hb2.cell 1; have f0 := hb2.frozen 0; have f1 := hb2.frozen 1))
      first | go_end0 | refine bodyPost_ret (results_none rfl _ _ _) rfl ?_
      obtain ⟨r1, r2, r3⟩ := wr_done (e' := 0) hg hb1 ho1 ho2 hg2 hB1 (by first | omega | (simp; omega))
      exact ⟨rfl, by simpa [wNum, hn, HN.out] using r1, (g1.below.mono hB).trans (by simpa using r2), (KeepT.gr g1).trans (by simpa using r3)⟩
    · have hN := numS_out (n := n) (by omega)
      have HN := sec hN
      clear hN
      go_enter Tryz.func175, Tryz.ntmps175
      go_wp2_with (first
        | (go_at_call 204; refine (put_err [] _ _ (by omega)).mono ?_; rintro e w1 ⟨rfl, rfl⟩; have hb1 := hb; have ho1 := ho; have hB1 := hB)
        | (at_builtin; refine wpList_append_str (s := []) E.u8 Tryz.underlying9 rfl (.tmp 25) (.tmp 26) rfl rfl ho1 rfl (by first | omega | (simp; omega)) hB1 ?_; intro A2 cap2 w2 ho2 hg2; rw [List.append_nil] at ho2; have hb2 := blk_own hb1 ho1 (by decide) hg2; have d0 : w2.cell? ⟨g, 0, none⟩ = some (.slice A l.length cap) := hb2.cell 0; have d1 : w2.cell? ⟨g, 1, none⟩ = some (.int .i64 ((0 : Nat) : Int)) := hb2.cell 1; have f0 := hb2.frozen 0; have f1 := hb2.frozen 1))
      first | go_end0 | refine bodyPost_ret (results_none rfl _ _ _) rfl ?_
      obtain ⟨r1, r2, r3⟩ := wr_done (e' := 3) hg hb1 ho1 ho2 hg2 hB1 (by first | omega | (simp; omega))
      exact ⟨rfl, by simpa [wNum, hn, HN.out] using r1, by first | exact r2 | simpa using r2, by first | exact r3 | simpa using r3⟩
  · have he' : ((er : Int) == 0) = false := by simpa using he
    have he2 : ((er : Int) != 0) = true := by simpa using he
    go_enter Tryz.func175, Tryz.ntmps175
    go_wp2
    first | go_end0 | refine bodyPost_ret (results_none rfl _ _ _) rfl ?_
    exact ⟨rfl, by simpa [wNum, he] using h, Below.refl _ _, KeepT.refl _ _⟩

theorem wr_done1 {w w1 : World} {B g : Nat} {A A' : Option Addr} {cap cap' : Nat} {l l' : List UInt8} {e : Nat} (hg : B ≤ g) (hb : Blk w g 197 #[.slice A l.length cap, .int .i64 (e : Int)])
    (ho : w.ownsRow B 5 1 (.slice A l.length cap) l.length (l.map byteV)) (ho' : w1.ownsRow B 5 1 (.slice A' l'.length cap') l'.length (l'.map byteV)) (hgr : w.grownBy w1 (Value.ownBlock (.slice A l.length cap))) (hB : B ≤ w.heap.size) (hl : l'.length ≤ 35184372088832) :
    WrAt (w1.setCell ⟨g, 0, none⟩ (.slice A' l'.length cap')) B g (l', e) ∧ Below B w (w1.setCell ⟨g, 0, none⟩ (.slice A' l'.length cap')) ∧ KeepT g w (w1.setCell ⟨g, 0, none⟩ (.slice A' l'.length cap')) := by
  have hb1 := blk_own hb ho (by decide) hgr
  have hb2 := hb1.set_ 0 (.slice A' l'.length cap')
  have hon : w1.grownBy (w1.setCell ⟨g, 0, none⟩ (.slice A' l'.length cap')) (some g) := ⟨rfl, rfl, rfl, by simp [World.setCell], fun k _ hne => Below.heap_setCell _ _ _ _ (fun e => hne (by rw [e]))⟩
  refine ⟨⟨⟨A', cap', by simpa using hb2, own_only ho' hb1 (by decide) hon⟩, hg, hl⟩, ?_, ?_⟩
  · have h1 : Below B w w1 := (Below.refl B w).grown hgr hB (fun k hk => (ho.lt k hk).1)
    exact h1.setCell (p := ⟨g, 0, none⟩) hg _
  · intro k cs t hk ht hbk
    have h1 : Blk w1 k t cs := blk_own hbk ho (fun e => ht e.symm) hgr
    exact h1.grown hon (by simpa using hk)

set_option maxRecDepth 100000 in
theorem wrBytes (B g : Nat) (q : St2) (s : List UInt8) (w : World) (h : WrAt w B g q) (hlen : q.1.length + s.length ≤ 35184372088832) :
    Calls Tryz.prog 176 #[.pointer (some ⟨g, 0, none⟩), .string (bs s)] w fun e w' => e = .returned (.tuple #[]) ∧ WrAt w' B g (wByt s q) ∧ Below B w w' ∧ KeepT g w w' := by
  obtain ⟨l, er⟩ := q
  obtain ⟨A, cap, hb, ho⟩ := h.ex
  have hg := h.base
  have hB : B ≤ w.heap.size := by have := hb.lt; omega
  simp only at hb ho hlen
  have hc0 : w.cell? ⟨g, 0, none⟩ = some (.slice A l.length cap) := hb.cell 0
  have hc1 : w.cell? ⟨g, 1, none⟩ = some (.int .i64 (er : Int)) := hb.cell 1
  by_cases he : er = 0
  · subst he
    have hb1 := hb
    go_enter Tryz.func176, Tryz.ntmps176
    go_wp2_with (at_builtin; refine wpList_append_str E.u8 Tryz.underlying9 rfl (.tmp 17) (.tmp 18) rfl rfl ho rfl (by omega) hB ?_; intro A2 cap2 w2 ho2 hg2; have hb2 := blk_own hb1 ho (by decide) hg2; have d0 : w2.cell? ⟨g, 0, none⟩ = some (.slice A l.length cap) := hb2.cell 0; have f0 := hb2.frozen 0)
    first | go_end0 | refine bodyPost_ret (results_none rfl _ _ _) rfl ?_
    obtain ⟨r1, r2, r3⟩ := wr_done1 (e := 0) hg hb1 ho ho2 hg2 hB (by simp; omega)
    exact ⟨rfl, by simpa [wByt] using r1, by simpa using r2, by simpa using r3⟩
  · have he' : ((er : Int) == 0) = false := by simpa using he
    have he2 : ((er : Int) != 0) = true := by simpa using he
    go_enter Tryz.func176, Tryz.ntmps176
    go_wp2
    first | go_end0 | refine bodyPost_ret (results_none rfl _ _ _) rfl ?_
    exact ⟨rfl, by simpa [wByt, he] using h, Below.refl _ _, KeepT.refl _ _⟩

set_option maxRecDepth 100000 in
theorem wrDone (B g : Nat) (q : St2) (w : World) (h : WrAt w B g q) :
    Calls Tryz.prog 177 #[.pointer (some ⟨g, 0, none⟩)] w fun e w' => e = .returned (.tuple #[.string (bs (if q.2 = 0 then q.1 else [])), .int .i64 (q.2 : Int)]) ∧ Gr w w' := by
  obtain ⟨l, er⟩ := q
  obtain ⟨A, cap, hb, ho⟩ := h.ex
  simp only at hb ho
  have hc0 : w.cell? ⟨g, 0, none⟩ = some (.slice A l.length cap) := hb.cell 0
  have hc1 : w.cell? ⟨g, 1, none⟩ = some (.int .i64 (er : Int)) := hb.cell 1
  by_cases he : er = 0
  · subst he
    have hcv := run_conv_own (src := 140) (dst := 9) Tryz.underlying140 Tryz.underlying5 Tryz.underlying9 ho
    go_enter Tryz.func177, Tryz.ntmps177
    go_wp2
    go_ret2
    exact ⟨rfl, Gr.refl _⟩
  · have he' : ((er : Int) == 0) = false := by simpa using he
    have he2 : ((er : Int) != 0) = true := by simpa using he
    go_enter Tryz.func177, Tryz.ntmps177
    go_wp2
    go_quiet (fail)
    go_wp2
    go_ret2
    exact ⟨by simp, (Gr.refl _).drewN _⟩

end Go.Proofs.YtoamnifnfkgbiaaGreatDoor

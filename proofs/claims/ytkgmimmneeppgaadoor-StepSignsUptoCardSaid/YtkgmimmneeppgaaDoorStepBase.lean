/-
  StepBase: contracts and plain laws joined (25 texts). No conditions but those that each states.
-/
import Derived.Test.YtkgmimmneeppgaaDoorBase
import Derived.Test.YtkgmimmneeppgaaDoorWireN
import Derived.Test.YtkgmimmneeppgaaDoorElems
import Derived.Lib.AppendStr
import Derived.Test.YtkgmimmneeppgaaDoorAgg
import Derived.Test.YtkgmimmneeppgaaDoorDiskA
import Derived.Test.YtkgmimmneeppgaaDoorNumber
import Derived.Deep.RegionHeld3
import Derived.Test.YtkgmimmneeppgaaDoorRowsG
import Derived.RangeFuncNested
import Derived.RangeFuncBound
import Derived.RangeFuncCalls
import Derived.RangeFuncLeaves
import Derived.OwnWalkIn
import Derived.TacticsInMore
import Derived.LoopNIn
import Derived.LoopIn
import Derived.Lib.Bytealg
import Derived.Test.YtkgmimmneeppgaaDoorCFunc
import Derived.Test.YtkgmimmneeppgaaDoorWakeAll
import Derived.Test.YtkgmimmneeppgaaDoorSumS
import Derived.Laws.MakeOwn
import Derived.Laws.BitsLemmas
import Derived.Deep.RegionLaw
import Derived.Test.YtkgmimmneeppgaaDoorRSumS
import Derived.Test.YtkgmimmneeppgaaDoorOpen
import Derived.Laws.AppendOwnNone
import Derived.Test.YtkgmimmneeppgaaDoorOpenDk
import Derived.Deep.AppendLies
import Derived.Test.YtkgmimmneeppgaaDoorBRow
namespace Go.Proofs.YtkgmimmneeppgaaDoor
set_option linter.unusedVariables false
/-- may a byte stand in a piece of a ref's name -/
def refC (n : Nat) : Bool := (decide (97 ≤ n) && decide (n ≤ 122)) || (decide (48 ≤ n) && decide (n ≤ 57)) || (n == 45) || (n == 95)
/-- byte by byte: how long the piece is at which it stands -/
def rnGo : Nat → List UInt8 → Bool
  | _, [] => true
  | p, c :: r => if c = 47 then (if p = 0 then false else rnGo 0 r) else if refC c.toNat then rnGo (p + 1) r else false
/-- P8.1 -/
def refB (s : List UInt8) : Bool := rnGo 0 (s ++ [47]) && decide (s.length ≤ 60)
/-- the reference's loop: what is left, at a piece so long -/
theorem rn_step (p : Nat) (c : UInt8) (r : List UInt8) : rnGo p (c :: r) = if c = 47 then (if p = 0 then false else rnGo 0 r) else if refC c.toNat then rnGo (p + 1) r else false := rfl
/-- a piece, a slash, and what is behind -/
theorem rn_piece : ∀ (x : List UInt8) (p : Nat) (t : List UInt8), (∀ c ∈ x, c ≠ 47) → rnGo p (x ++ 47 :: t) = ((decide (p ≠ 0) || !x.isEmpty) && x.all (fun c => refC c.toNat) && rnGo 0 t)
  | [], p, t, _ => by
    show rnGo p (47 :: t) = _
    rw [rn_step, if_pos rfl]
    by_cases h : p = 0
    · rw [if_pos h]; simp [h]
    · rw [if_neg h]; simp [h]
  | c :: r, p, t, h => by
    show rnGo p (c :: (r ++ 47 :: t)) = _
    rw [rn_step, if_neg (h c (List.mem_cons_self ..))]
    by_cases hc : refC c.toNat = true
    · rw [if_pos hc, rn_piece r (p + 1) t (fun x hx => h x (List.mem_cons_of_mem _ hx))]
      simp [hc]
    · rw [if_neg hc]
      simp [hc]
/-- the pieces that are still to come, taken one by one -/
theorem rn_here {x t : List UInt8} (h : ∀ c ∈ x, c ≠ 47) : rnGo 0 (x ++ 47 :: t) = (!x.isEmpty && x.all (fun c => refC c.toNat) && rnGo 0 t) := by
  rw [rn_piece x 0 t h]; simp
theorem any_notref (s : List UInt8) : (s.any fun c => !refC c.toNat) = !(s.all fun c => refC c.toNat) := by
  induction s with
  | nil => rfl
  | cons c r ih => simp [ih]
theorem rn_bad {x : List UInt8} (h : x.any (fun c => !refC c.toNat) = true) : x.all (fun c => refC c.toNat) = false := by
  rw [any_notref] at h; simpa using h
end Go.Proofs.YtkgmimmneeppgaaDoor

namespace Go.Proofs.YtkgmimmneeppgaaDoor
open Go.RowKit
theorem strCells_bs (l : List UInt8) : Lib.strCells (bs l) = l.map byteV := by
  unfold Lib.strCells byteV; rw [bs_data]

/-- append of a string onto a row of bytes of the call's own -/
theorem wpList_append_str {ops : Array Oper} {rest : List Oper} {o : Oper} {a : Act} {Q : Exit → Act → World → Prop} {w : World} {t u e : TypeId}
    (E : ElemOk t e (.int .u8 0) 1 1) (hu : Tryd.prog.underlying u = some .string) (hgd : o.guard = none) (sl x : Operand) (ho : o.op = .call { callee := .builtin .append, args := #[sl, x], argTypes := #[t, u] })
    {B : Nat} {A : Option Addr} {cap : Nat} {l s : List UInt8} (hs : a.eval sl = .slice A l.length cap) (hown : w.ownsRow B e 1 (.slice A l.length cap) l.length (l.map byteV)) (hx : a.eval x = .string (bs s))
    (hbytes : l.length + s.length ≤ 140737488355328) (hB : B ≤ w.heap.size)
    (h : ∀ A' cap' w', w'.ownsRow B e 1 (.slice A' (l ++ s).length cap') (l ++ s).length ((l ++ s).map byteV) → w.grownBy w' (Value.ownBlock (.slice A l.length cap)) →
      wpList Tryd.prog ops Q rest (a.put o.dst (.slice A' (l ++ s).length cap')) w') :
    wpList Tryd.prog ops Q (o :: rest) a w := by
  obtain ⟨i0, hi0, hz0, hz1, hz2⟩ := info_parts E.info
  refine Lib.wpList_append_own_string (P := Tryd.prog) w hgd sl x t u ho B e i0 E.under hu hi0 hz0 hz1 hz2 _ l.length _ hs hown (bs s) hx (by rw [bs_size]; unfold maxLen; omega) (by rw [bs_size]; exact hbytes) hB ?_
  intro v' w' hown' hg _
  rw [bs_size, strCells_bs, ← List.map_append] at hown'
  have el : l.length + s.length = (l ++ s).length := by simp
  rw [el] at hown'
  rcases hown'.2 with ⟨hv, h0⟩ | ⟨g, cap', cur, hv, _⟩
  · subst hv
    have h1 : (l ++ s).length = 0 := h0
    have := h none 0 w'
    rw [h1] at this hown'
    exact this hown' hg
  · subst hv
    exact h (some ⟨g, 0, none⟩) cap' w' hown' hg

abbrev St2 := List UInt8 × Nat
/-- a writer that holds l, with error e, lies in block g; its row is younger than B -/
structure WrAt (w : World) (B g : Nat) (q : List UInt8 × Nat) : Prop where
  ex : ∃ A cap, Blk w g 71 #[.slice A q.1.length cap, .int .i64 (q.2 : Int)] ∧ w.ownsRow B 5 1 (.slice A q.1.length cap) q.1.length (q.1.map byteV)
  base : B ≤ g
  len : q.1.length ≤ 35184372088832
/-- blocks of cells of another type than byte, other than g, are as they were -/
def KeepT (g : Nat) (w w' : World) : Prop := ∀ k cs t, k ≠ g → t ≠ 5 → Blk w k t cs → Blk w' k t cs

theorem WrAt.gr {w w' : World} {B g : Nat} {q : List UInt8 × Nat} (h : WrAt w B g q) (k : Gr w w') : WrAt w' B g q :=
  ⟨by obtain ⟨A, cap, hb, ho⟩ := h.ex; exact ⟨A, cap, hb.gr k, own_gr ho k⟩, h.base, h.len⟩
theorem KeepT.refl (g : Nat) (w : World) : KeepT g w w := fun _ _ _ _ _ h => h
theorem KeepT.trans {g : Nat} {a b c : World} (h : KeepT g a b) (k : KeepT g b c) : KeepT g a c := fun i cs t h1 h2 h3 => k i cs t h1 h2 (h i cs t h1 h2 h3)
theorem KeepT.gr {g : Nat} {a b : World} (h : Gr a b) : KeepT g a b := fun _ _ _ _ _ h3 => h3.gr h

/-- what the two stores into the writer leave -/
theorem only_set2' (w : World) (g : Nat) (u v : Value) : w.grownBy ((w.setCell ⟨g, 0, none⟩ u).setCell ⟨g, 1, none⟩ v) (some g) :=
  ⟨rfl, rfl, rfl, by simp [World.setCell], fun k _ hne => by
    rw [Below.heap_setCell _ _ _ _ (fun e => hne (by rw [e])), Below.heap_setCell _ _ _ _ (fun e => hne (by rw [e]))]⟩
theorem wr_done {w w1 : World} {B g : Nat} {A A' : Option Addr} {cap cap' : Nat} {l l' : List UInt8} {e e' : Nat} (hg : B ≤ g) (hb : Blk w g 71 #[.slice A l.length cap, .int .i64 (e : Int)])
    (ho : w.ownsRow B 5 1 (.slice A l.length cap) l.length (l.map byteV)) (ho' : w1.ownsRow B 5 1 (.slice A' l'.length cap') l'.length (l'.map byteV)) (hgr : w.grownBy w1 (Value.ownBlock (.slice A l.length cap))) (hB : B ≤ w.heap.size) (hl : l'.length ≤ 35184372088832) :
    WrAt ((w1.setCell ⟨g, 0, none⟩ (.slice A' l'.length cap')).setCell ⟨g, 1, none⟩ (.int .i64 (e' : Int))) B g (l', e') ∧
    Below B w ((w1.setCell ⟨g, 0, none⟩ (.slice A' l'.length cap')).setCell ⟨g, 1, none⟩ (.int .i64 (e' : Int))) ∧
    KeepT g w ((w1.setCell ⟨g, 0, none⟩ (.slice A' l'.length cap')).setCell ⟨g, 1, none⟩ (.int .i64 (e' : Int))) := by
  have hb1 := blk_own hb ho (by decide) hgr
  have hb2 := (hb1.set_ 0 (.slice A' l'.length cap')).set_ 1 (.int .i64 (e' : Int))
  have hon := only_set2' w1 g (.slice A' l'.length cap') (.int .i64 (e' : Int))
  refine ⟨⟨⟨A', cap', by simpa using hb2, own_only ho' hb1 (by decide) hon⟩, hg, hl⟩, ?_, ?_⟩
  · have h1 : Below B w w1 := (Below.refl B w).grown hgr hB (fun k hk => (ho.lt k hk).1)
    exact (h1.setCell (p := ⟨g, 0, none⟩) hg _).setCell (p := ⟨g, 1, none⟩) hg _
  · intro k cs t hk ht hbk
    have h1 : Blk w1 k t cs := blk_own hbk ho (fun e => ht e.symm) hgr
    exact h1.grown hon (by simpa using hk)

/-- P2.5 -/
def wNum (n : Int) (q : St2) : St2 := if q.2 = 0 then (q.1 ++ numS n, if 0 ≤ n ∧ n < 4611686018427387904 then 0 else 3) else q
def wTxt (t : List UInt8) (q : St2) : St2 := if q.2 = 0 then (if t.length ≤ 4096 then (q.1 ++ txt t, 0) else (q.1, 1)) else q
def wByt (s : List UInt8) (q : St2) : St2 := if q.2 = 0 then (q.1 ++ s, 0) else q
set_option maxRecDepth 100000 in
theorem wrNumber (B g : Nat) (q : St2) (n : Int) (w : World) (h : WrAt w B g q) (hlen : q.1.length ≤ 35184372088000) :
    Calls Tryd.prog 44 #[.pointer (some ⟨g, 0, none⟩), .int .i64 n] w fun e w' => e = .returned (.tuple #[]) ∧ WrAt w' B g (wNum n q) ∧ Below B w w' ∧ KeepT g w w' := by
  obtain ⟨l, er⟩ := q
  obtain ⟨A, cap, hb, ho⟩ := h.ex
  have hg := h.base
  have hB : B ≤ w.heap.size := by have := hb.lt; omega
  simp only at hb ho hlen
  have hc0 : w.cell? ⟨g, 0, none⟩ = some (.slice A l.length cap) := hb.cell 0
  have hc1 : w.cell? ⟨g, 1, none⟩ = some (.int .i64 (er : Int)) := hb.cell 1
  by_cases he : er = 0
  · subst he
    by_cases hn : 0 ≤ n ∧ n < 4611686018427387904
    · have hN := numS_in hn.1 hn.2
      have h9 := num_len9 (n := n.toNat) (by omega)
      have HN := sec hN
      clear hN
      go_enter Tryd.func44, Tryd.ntmps44
      go_wp2_with (first
        | (go_at_call 72; refine (put_ok [] _ _ (by omega) (by omega) (by simp)).mono ?_; rintro e w1 ⟨rfl, g1⟩; rw [List.nil_append]; have hb1 := hb.gr g1; have c0 : w1.cell? ⟨g, 0, none⟩ = some (.slice A l.length cap) := hb1.cell 0; have ho1 := own_gr ho g1; have hB1 : B ≤ w1.heap.size := by have := g1.size; omega)
        | (at_builtin; refine wpList_append_str E.u8 Tryd.underlying9 rfl (.tmp 25) (.tmp 26) rfl rfl ho1 rfl (by first | omega | (simp; omega)) hB1 ?_; intro A2 cap2 w2 ho2 hg2; have hb2 := blk_own hb1 ho1 (by decide) hg2; have d0 : w2.cell? ⟨g, 0, none⟩ = some (.slice A l.length cap) := hb2.cell 0; have d1 : w2.cell? ⟨g, 1, none⟩ = some (.int .i64 ((0 : Nat) : Int)) := hb2.cell 1; have f0 := hb2.frozen 0; have f1 := hb2.frozen 1))
      first | go_end0 | refine bodyPost_ret (results_none rfl _ _ _) rfl ?_
      obtain ⟨r1, r2, r3⟩ := wr_done (e' := 0) hg hb1 ho1 ho2 hg2 hB1 (by first | omega | (simp; omega))
      exact ⟨rfl, by simpa [wNum, hn, HN.out] using r1, (g1.below.mono hB).trans (by simpa using r2), (KeepT.gr g1).trans (by simpa using r3)⟩
    · have hN := numS_out (n := n) (by omega)
      have HN := sec hN
      clear hN
      go_enter Tryd.func44, Tryd.ntmps44
      go_wp2_with (first
        | (go_at_call 72; refine (put_err [] _ _ (by omega)).mono ?_; rintro e w1 ⟨rfl, rfl⟩; have hb1 := hb; have ho1 := ho; have hB1 := hB)
        | (at_builtin; refine wpList_append_str (s := []) E.u8 Tryd.underlying9 rfl (.tmp 25) (.tmp 26) rfl rfl ho1 rfl (by first | omega | (simp; omega)) hB1 ?_; intro A2 cap2 w2 ho2 hg2; rw [List.append_nil] at ho2; have hb2 := blk_own hb1 ho1 (by decide) hg2; have d0 : w2.cell? ⟨g, 0, none⟩ = some (.slice A l.length cap) := hb2.cell 0; have d1 : w2.cell? ⟨g, 1, none⟩ = some (.int .i64 ((0 : Nat) : Int)) := hb2.cell 1; have f0 := hb2.frozen 0; have f1 := hb2.frozen 1))
      first | go_end0 | refine bodyPost_ret (results_none rfl _ _ _) rfl ?_
      obtain ⟨r1, r2, r3⟩ := wr_done (e' := 3) hg hb1 ho1 ho2 hg2 hB1 (by first | omega | (simp; omega))
      exact ⟨rfl, by simpa [wNum, hn, HN.out] using r1, by first | exact r2 | simpa using r2, by first | exact r3 | simpa using r3⟩
  · have he' : ((er : Int) == 0) = false := by simpa using he
    have he2 : ((er : Int) != 0) = true := by simpa using he
    go_enter Tryd.func44, Tryd.ntmps44
    go_wp2
    first | go_end0 | refine bodyPost_ret (results_none rfl _ _ _) rfl ?_
    exact ⟨rfl, by simpa [wNum, he] using h, Below.refl _ _, KeepT.refl _ _⟩

theorem wr_done1 {w w1 : World} {B g : Nat} {A A' : Option Addr} {cap cap' : Nat} {l l' : List UInt8} {e : Nat} (hg : B ≤ g) (hb : Blk w g 71 #[.slice A l.length cap, .int .i64 (e : Int)])
    (ho : w.ownsRow B 5 1 (.slice A l.length cap) l.length (l.map byteV)) (ho' : w1.ownsRow B 5 1 (.slice A' l'.length cap') l'.length (l'.map byteV)) (hgr : w.grownBy w1 (Value.ownBlock (.slice A l.length cap))) (hB : B ≤ w.heap.size) (hl : l'.length ≤ 35184372088832) :
    WrAt (w1.setCell ⟨g, 0, none⟩ (.slice A' l'.length cap')) B g (l', e) ∧ Below B w (w1.setCell ⟨g, 0, none⟩ (.slice A' l'.length cap')) ∧ KeepT g w (w1.setCell ⟨g, 0, none⟩ (.slice A' l'.length cap')) := by
  have hb1 := blk_own hb ho (by decide) hgr
  have hb2 := hb1.set_ 0 (.slice A' l'.length cap')
  have hon : w1.grownBy (w1.setCell ⟨g, 0, none⟩ (.slice A' l'.length cap')) (some g) := ⟨rfl, rfl, rfl, by simp [World.setCell], fun k _ hne => Below.heap_setCell _ _ _ _ (fun e => hne (by rw [e]))⟩
  refine ⟨⟨⟨A', cap', by simpa using hb2, own_only ho' hb1 (by decide) hon⟩, hg, hl⟩, ?_, ?_⟩
  · have h1 : Below B w w1 := (Below.refl B w).grown hgr hB (fun k hk => (ho.lt k hk).1)
    exact h1.setCell (p := ⟨g, 0, none⟩) hg _
  · intro k cs t hk ht hbk
    have h1 : Blk w1 k t cs := blk_own hbk ho (fun e => ht e.symm) hgr
    exact h1.grown hon (by simpa using hk)

set_option maxRecDepth 100000 in
theorem wrBytes (B g : Nat) (q : St2) (s : List UInt8) (w : World) (h : WrAt w B g q) (hlen : q.1.length + s.length ≤ 35184372088832) :
    Calls Tryd.prog 45 #[.pointer (some ⟨g, 0, none⟩), .string (bs s)] w fun e w' => e = .returned (.tuple #[]) ∧ WrAt w' B g (wByt s q) ∧ Below B w w' ∧ KeepT g w w' := by
  obtain ⟨l, er⟩ := q
  obtain ⟨A, cap, hb, ho⟩ := h.ex
  have hg := h.base
  have hB : B ≤ w.heap.size := by have := hb.lt; omega
  simp only at hb ho hlen
  have hc0 : w.cell? ⟨g, 0, none⟩ = some (.slice A l.length cap) := hb.cell 0
  have hc1 : w.cell? ⟨g, 1, none⟩ = some (.int .i64 (er : Int)) := hb.cell 1
  by_cases he : er = 0
  · subst he
    have hb1 := hb
    go_enter Tryd.func45, Tryd.ntmps45
    go_wp2_with (at_builtin; refine wpList_append_str E.u8 Tryd.underlying9 rfl (.tmp 17) (.tmp 18) rfl rfl ho rfl (by omega) hB ?_; intro A2 cap2 w2 ho2 hg2; have hb2 := blk_own hb1 ho (by decide) hg2; have d0 : w2.cell? ⟨g, 0, none⟩ = some (.slice A l.length cap) := hb2.cell 0; have f0 := hb2.frozen 0)
    first | go_end0 | refine bodyPost_ret (results_none rfl _ _ _) rfl ?_
    obtain ⟨r1, r2, r3⟩ := wr_done1 (e := 0) hg hb1 ho ho2 hg2 hB (by simp; omega)
    exact ⟨rfl, by simpa [wByt] using r1, by simpa using r2, by simpa using r3⟩
  · have he' : ((er : Int) == 0) = false := by simpa using he
    have he2 : ((er : Int) != 0) = true := by simpa using he
    go_enter Tryd.func45, Tryd.ntmps45
    go_wp2
    first | go_end0 | refine bodyPost_ret (results_none rfl _ _ _) rfl ?_
    exact ⟨rfl, by simpa [wByt, he] using h, Below.refl _ _, KeepT.refl _ _⟩

set_option maxRecDepth 100000 in
theorem wrDone (B g : Nat) (q : St2) (w : World) (h : WrAt w B g q) :
    Calls Tryd.prog 46 #[.pointer (some ⟨g, 0, none⟩)] w fun e w' => e = .returned (.tuple #[.string (bs (if q.2 = 0 then q.1 else [])), .int .i64 (q.2 : Int)]) ∧ Gr w w' := by
  obtain ⟨l, er⟩ := q
  obtain ⟨A, cap, hb, ho⟩ := h.ex
  simp only at hb ho
  have hc0 : w.cell? ⟨g, 0, none⟩ = some (.slice A l.length cap) := hb.cell 0
  have hc1 : w.cell? ⟨g, 1, none⟩ = some (.int .i64 (er : Int)) := hb.cell 1
  by_cases he : er = 0
  · subst he
    have hcv := run_conv_own (src := 69) (dst := 9) Tryd.underlying69 Tryd.underlying5 Tryd.underlying9 ho
    go_enter Tryd.func46, Tryd.ntmps46
    go_wp2
    go_ret2
    exact ⟨rfl, Gr.refl _⟩
  · have he' : ((er : Int) == 0) = false := by simpa using he
    have he2 : ((er : Int) != 0) = true := by simpa using he
    go_enter Tryd.func46, Tryd.ntmps46
    go_wp2
    go_quiet (fail)
    go_wp2
    go_ret2
    exact ⟨by simp, (Gr.refl _).drewN _⟩

end Go.Proofs.YtkgmimmneeppgaaDoor

namespace Go.Proofs.YtkgmimmneeppgaaDoor
set_option maxRecDepth 100000
open Go.RowKit
set_option linter.unusedVariables false
/-- a step -/
structure Stp where
  r : List UInt8
  o : List UInt8
  n : List UInt8
  who : List Int
  seals : List (List UInt8)
def stepA (s : Stp) (A : Option Addr) (c : Nat) (B : Option Addr) (d : Nat) : Array Value := #[.string (bs s.r), .string (bs s.o), .string (bs s.n), .slice A s.who.length c, .slice B s.seals.length d]
theorem aggStep : AggOk 46 5 := ⟨⟨_, Tryd.underlying46, rfl⟩, by kernel_rfl⟩

/-- a number in a cell -/
def iV (n : Int) : Value := .int .i64 n
def IntRow (w : World) (A : Option Addr) (n : Nat) (l : List Int) : Prop := Row w 1 A n (l.map iV)
theorem IntRow.len {w : World} {A : Option Addr} {n : Nat} {l : List Int} (h : IntRow w A n l) : l.length = n := by have := Row.len h; simpa using this
theorem IntRow.gr {w w' : World} {A : Option Addr} {n : Nat} {l : List Int} (h : IntRow w A n l) (g : Gr w w') : IntRow w' A n l := Row.gr h g
theorem IntRow.cell {w : World} {A : Option Addr} {n : Nat} {l : List Int} (h : IntRow w A n l) {i : Nat} (hi : i < l.length) : ∃ b off, A = some ⟨b, off, none⟩ ∧ w.cell? ⟨b, off + i, none⟩ = some (.int .i64 l[i]) := by
  obtain ⟨b, off, e, hl, hc⟩ := Row.cell1 h (i := i) (by have := h.len; omega)
  exact ⟨b, off, e, by simpa [iV] using hc⟩

/-- the step's two slices as they lie in a world -/
structure StR (w : World) (s : Stp) (A : Option Addr) (c : Nat) (B : Option Addr) (d : Nat) : Prop where
  who : IntRow w A s.who.length s.who
  seals : StrRow w B s.seals.length s.seals
  wn : A = none → s.who.length = 0 ∧ c = 0
  sn : B = none → s.seals.length = 0 ∧ d = 0
  wc : s.who.length ≤ c
  sc : s.seals.length ≤ d
theorem StR.gr {w w' : World} {s : Stp} {A : Option Addr} {c : Nat} {B : Option Addr} {d : Nat} (h : StR w s A c B d) (g : Gr w w') : StR w' s A c B d := ⟨h.who.gr g, h.seals.gr g, h.wn, h.sn, h.wc, h.sc⟩
/-- no part is longer than so many -/
structure StSz (k : Nat) (s : Stp) : Prop where
  r : s.r.length ≤ k
  o : s.o.length ≤ k
  n : s.n.length ≤ k
  who : s.who.length ≤ k
  seals : s.seals.length ≤ k
  each : ∀ x ∈ s.seals, x.length ≤ k

/-- P8.3: an id, or none -/
def mayB (l : List UInt8) : Bool := decide (l.length = 0) || decide (l.length = 32)
/-- P10.1: those who seal, behind a last one: the error -/
def stF : Int → List Int → List (List UInt8) → Int
  | last, w :: ws, s :: ss => if w ≤ last ∨ 7 < w then 3 else if s.length = 32 then stF w ws ss else 2
  | _, _, _ => 0
/-- P10.1: is it of the form that is wanted -/
def stB (s : Stp) : Bool := refB s.r && (mayB s.o && (mayB s.n && !(s.o == s.n)))
/-- P10.1: the error -/
def stE (s : Stp) : Int := if stB s = true then (if 8 < s.who.length ∨ ¬ s.seals.length = s.who.length then 6 else stF (-1) s.who s.seals) else 2
/-- where the loop stands: i seen, all of them right; the last one's number -/
def stSeen (s : Stp) (i : Nat) (last : Int) : Prop :=
  stF (-1) s.who s.seals = stF last (s.who.drop i) (s.seals.drop i) ∧ (i = 0 → last = -1) ∧ (∀ h : 0 < i ∧ i ≤ s.who.length, last = s.who[i - 1]'(by omega) ∧ 0 ≤ last)
theorem stSeen0 (s : Stp) : stSeen s 0 (-1) := ⟨rfl, fun _ => rfl, fun h => absurd h.1 (by omega)⟩
theorem stF_cons (last w : Int) (ws : List Int) (x : List UInt8) (ss : List (List UInt8)) : stF last (w :: ws) (x :: ss) = if w ≤ last ∨ 7 < w then 3 else if x.length = 32 then stF w ws ss else 2 := rfl
theorem stSeen.here {s : Stp} {i : Nat} {last : Int} (h : stSeen s i last) (hi : i < s.who.length) (hs : i < s.seals.length) :
    stF (-1) s.who s.seals = if s.who[i] ≤ last ∨ 7 < s.who[i] then 3 else if (s.seals[i]).length = 32 then stF s.who[i] (s.who.drop (i + 1)) (s.seals.drop (i + 1)) else 2 := by
  rw [h.1, List.drop_eq_getElem_cons hi, List.drop_eq_getElem_cons hs]
  exact stF_cons ..
theorem stSeen.low {s : Stp} {i : Nat} {last : Int} (h : stSeen s i last) (hi : i ≤ s.who.length) : -1 ≤ last := by
  by_cases e : i = 0
  · have := h.2.1 e; omega
  · have := (h.2.2 ⟨by omega, by omega⟩).2; omega
theorem stSeen.next {s : Stp} {i : Nat} {last : Int} (h : stSeen s i last) (hi : i < s.who.length) (hs : i < s.seals.length) (h1 : ¬ (s.who[i] ≤ last ∨ 7 < s.who[i])) (h2 : (s.seals[i]).length = 32) : stSeen s (i + 1) s.who[i] := by
  have hl := h.low (by omega)
  refine ⟨?_, fun e => absurd e (by omega), fun _ => ⟨rfl, by omega⟩⟩
  rw [h.here hi hs, if_neg h1, if_pos h2]
theorem stSeen.done {s : Stp} {i : Nat} {last : Int} (h : stSeen s i last) (hi : s.who.length ≤ i) : stF (-1) s.who s.seals = 0 := by
  rw [h.1, List.drop_eq_nil_of_le hi]
  cases s.seals.drop i <;> rfl
/-- what stands of a good step -/
theorem stF_zero : ∀ (ws : List Int) (ss : List (List UInt8)) (last : Int), ws.length = ss.length → stF last ws ss = 0 → (∀ x ∈ ss, x.length = 32) ∧ (∀ w ∈ ws, last < w ∧ w ≤ 7)
  | [], [], last, _, _ => ⟨by simp, by simp⟩
  | [], x :: ss, last, h, _ => by simp at h
  | w :: ws, [], last, h, _ => by simp at h
  | w :: ws, x :: ss, last, h, h0 => by
    rw [stF_cons] at h0
    split at h0
    · cases h0
    · rename_i h1
      split at h0
      · rename_i h2
        obtain ⟨a, b⟩ := stF_zero ws ss w (by simpa using h) h0
        refine ⟨fun y hy => ?_, fun y hy => ?_⟩
        · rcases List.mem_cons.1 hy with rfl | hy
          · exact h2
          · exact a y hy
        · rcases List.mem_cons.1 hy with rfl | hy
          · omega
          · have := b y hy; omega
      · cases h0
theorem stE_zero {s : Stp} (h : stE s = 0) : refB s.r = true ∧ s.r.length ≤ 60 ∧ s.o.length ≤ 32 ∧ s.n.length ≤ 32 ∧ s.who.length ≤ 8 ∧ s.seals.length = s.who.length ∧ (∀ x ∈ s.seals, x.length = 32) ∧ (∀ w ∈ s.who, -1 < w ∧ w ≤ 7) ∧ stF (-1) s.who s.seals = 0 := by
  unfold stE at h
  split at h
  · rename_i hb
    split at h
    · cases h
    · rename_i h1
      have hl : s.seals.length = s.who.length := by omega
      obtain ⟨a, b⟩ := stF_zero s.who s.seals (-1) hl.symm h
      unfold stB mayB at hb
      simp only [Bool.and_eq_true, Bool.or_eq_true, decide_eq_true_eq] at hb
      have hr : s.r.length ≤ 60 := by
        have := hb.1
        unfold refB at this
        simp only [Bool.and_eq_true, decide_eq_true_eq] at this
        exact this.2
      exact ⟨hb.1, hr, by omega, by omega, by omega, hl, a, b, h⟩
  · cases h

theorem may_cases (l : List UInt8) : (((l.length : Int) != 0) = false ∧ mayB l = true) ∨ (((l.length : Int) != 0) = true ∧ ((l.length : Int) != 32) = false ∧ mayB l = true) ∨ (((l.length : Int) != 0) = true ∧ ((l.length : Int) != 32) = true ∧ mayB l = false) := by
  by_cases h0 : l.length = 0
  · left
    refine ⟨?_, ?_⟩
    · rw [bne_eq_false_iff_eq]; omega
    · unfold mayB; rw [decide_eq_true h0]; rfl
  · by_cases h1 : l.length = 32
    · right; left
      refine ⟨?_, ?_, ?_⟩
      · rw [bne_iff_ne]; omega
      · rw [bne_eq_false_iff_eq]; omega
      · unfold mayB; rw [decide_eq_true h1]; simp
    · right; right
      refine ⟨?_, ?_, ?_⟩
      · rw [bne_iff_ne]; omega
      · rw [bne_iff_ne]; omega
      · unfold mayB; rw [decide_eq_false h0, decide_eq_false h1]; rfl

/-! ### the body, the bytes -/
/-- P10.2 -/
def bodyR (at_ : Int) (s : Stp) : List UInt8 × Int :=
  if at_ < 0 ∨ 199 < at_ then ([], 3) else if 4096 < s.r.length ∨ 4096 < s.o.length ∨ 4096 < s.n.length then ([], 1) else (numS at_ ++ txt s.r ++ txt s.o ++ txt s.n, 0)
/-- those who seal, as bytes -/
def whoS : List Int → List (List UInt8) → List UInt8
  | w :: ws, s :: ss => numS w ++ s ++ whoS ws ss
  | _, _ => []
/-- P10.3 -/
def encR (s : Stp) : List UInt8 × Int := if stE s = 0 then (txt s.r ++ txt s.o ++ txt s.n ++ numS s.who.length ++ whoS s.who s.seals, 0) else ([], stE s)
theorem whoS_take (ws : List Int) (ss : List (List UInt8)) : ∀ (i : Nat) (h : i < ws.length) (h' : i < ss.length), whoS (ws.take (i + 1)) (ss.take (i + 1)) = whoS (ws.take i) (ss.take i) ++ (numS ws[i] ++ ss[i]) := by
  induction ws generalizing ss with
  | nil => intro i h; simp at h
  | cons w ws ih =>
    intro i h h'
    cases ss with
    | nil => simp at h'
    | cons x ss =>
      cases i with
      | zero => simp [whoS]
      | succ i =>
        simp only [List.take_succ_cons, whoS, List.getElem_cons_succ]
        rw [ih ss i (by simpa using h) (by simpa using h')]
        simp only [List.append_assoc]
theorem whoS_len : ∀ (ws : List Int) (ss : List (List UInt8)) (k : Nat), (∀ x ∈ ss, x.length ≤ k) → (whoS ws ss).length ≤ ws.length * (k + 9)
  | [], ss, k, _ => by cases ss <;> simp [whoS]
  | w :: ws, [], k, _ => by simp [whoS]
  | w :: ws, x :: ss, k, h => by
    have a := whoS_len ws ss k (fun y hy => h y (List.mem_cons_of_mem _ hy))
    have b := h x (List.mem_cons_self ..)
    have c : (numS w).length ≤ 9 := by
      by_cases hw : 0 ≤ w ∧ w < 4611686018427387904
      · rw [numS_in hw.1 hw.2]; exact num_len9 (by omega)
      · rw [numS_out (by omega)]; simp
    simp only [whoS, List.length_append, List.length_cons]
    rw [Nat.add_mul, Nat.one_mul]
    omega
theorem txt_len (l : List UInt8) (h : l.length < 4611686018427387904) : (txt l).length ≤ l.length + 9 := by
  unfold txt
  have := num_len9 (n := l.length) h
  rw [List.length_append]
  omega
theorem encR_len (s : Stp) : (encR s).1.length ≤ 1024 := by
  unfold encR
  split
  · rename_i h
    obtain ⟨_, h1, h2, h3, h4, h5, h6, _, _⟩ := stE_zero h
    have a := txt_len s.r (by omega)
    have b := txt_len s.o (by omega)
    have c := txt_len s.n (by omega)
    have d := whoS_len s.who s.seals 32 (fun x hx => by rw [h6 x hx]; omega)
    have e : (numS s.who.length).length ≤ 9 := by rw [numS_nat (by omega)]; exact num_len9 (by omega)
    have f : s.who.length * (32 + 9) ≤ 8 * (32 + 9) := Nat.mul_le_mul_right _ h4
    simp only [List.length_append]
    omega
  · simp
theorem bodyR_len (at_ : Int) (s : Stp) : (bodyR at_ s).1.length ≤ 16384 := by
  unfold bodyR
  split
  · simp
  · split
    · simp
    · rename_i h0 h1
      have a := txt_len s.r (by omega)
      have b := txt_len s.o (by omega)
      have c := txt_len s.n (by omega)
      have e : (numS at_).length ≤ 9 := by rw [numS_in (by omega) (by omega)]; exact num_len9 (by omega)
      simp only [List.length_append]
      omega
end Go.Proofs.YtkgmimmneeppgaaDoor

namespace Go.Proofs.YtkgmimmneeppgaaDoor
open Go.RowKit
set_option maxRecDepth 100000 in
set_option maxHeartbeats 1000000 in
theorem sameStrings_any (A A' : Option Addr) (n n' c c' : Nat) (xs ys : List (List UInt8)) (w : World) (hx : StrRow w A n xs) (hy : StrRow w A' n' ys) (hn : n ≤ 140737488355328) (hn' : n' ≤ 140737488355328) :
    Calls Tryd.prog 19 #[.slice A n c, .slice A' n' c'] w fun e w' => e = .returned (.bool (decide (xs = ys))) ∧ Gr w w' := by
  have hlx := hx.len
  have hly := hy.len
  subst hlx hly
  by_cases hne : xs.length = ys.length
  · have hb1 : ((xs.length : Int) != (ys.length : Int)) = false := by simp [hne]
    have HN := sec hne
    clear hne
    go_enter Tryd.func19, Tryd.ntmps19
    go_wp2_with fail
    go_loopw [5, 13] (fun _ iv wr => ∃ i : Nat, iv = .int .i64 i ∧ i ≤ xs.length ∧ Sec (xs.take i = ys.take i) ∧ Gr w wr)
      (fun _ iv _ => xs.length - (intOf iv).toNat)
    case atStart => exact ⟨0, rfl, by omega, ⟨by simp⟩, Gr.refl _⟩
    case round =>
      obtain ⟨i, rfl, hi, he, hg⟩ := hrel
      by_cases hlt : i < xs.length
      · have hlty : i < ys.length := by have := HN.out; omega
        obtain ⟨b, off, rfl, hc⟩ := (hx.gr hg).cell hlt
        obtain ⟨b', off', rfl, hc'⟩ := (hy.gr hg).cell hlty
        obtain ⟨x, hxe⟩ : ∃ x, x = xs[i] := ⟨_, rfl⟩
        obtain ⟨y, hye⟩ : ∃ y, y = ys[i] := ⟨_, rfl⟩
        rw [← hxe] at hc
        rw [← hye] at hc'
        have HX := sec hxe
        have HY := sec hye
        clear hxe hye
        have q1 : (i : Int) < (xs.length : Int) := by omega
        have q2 : (i : Int) < (ys.length : Int) := by omega
        by_cases hxy : x = y
        · subst hxy
          go_wp2
          go_quiet (fail)
          go_wp2
          go_roundw
          case rel =>
            refine ⟨i + 1, by go_num, by omega, ⟨?_⟩, hg.drewN _⟩
            rw [List.take_succ_eq_append_getElem hlt, List.take_succ_eq_append_getElem hlty, he.out, ← HX.out, ← HY.out]
          case measure => simp [intOf]; omega
        · have hxy' : (x == y) = false := by simpa using hxy
          have HXY := sec hxy
          clear hxy
          go_wp2
          go_quiet (fail)
          go_wp2
          go_ret
          refine ⟨?_, hg.drewN _⟩
          have : ¬ (xs = ys) := by
            intro e
            apply HXY.out
            rw [HX.out, HY.out]
            simp [e]
          simp [this]
      · go_wp2
        go_ret
        refine ⟨?_, hg⟩
        have : xs = ys := by
          have h1 := he.out
          rw [List.take_of_length_le (by omega), List.take_of_length_le (by have := HN.out; omega)] at h1
          exact h1
        simp [this]
  · have hb1 : ((xs.length : Int) != (ys.length : Int)) = true := by rw [bne_iff_ne]; omega
    have : ¬ (xs = ys) := fun e => hne (by rw [e])
    have HN := sec this
    clear this hne
    go_enter Tryd.func19, Tryd.ntmps19
    go_wp2
    go_ret
    exact ⟨by simp [HN.out], Gr.refl _⟩
end Go.Proofs.YtkgmimmneeppgaaDoor

namespace Go.Proofs.YtkgmimmneeppgaaDoor
set_option maxRecDepth 100000
open Go.RowKit
set_option linter.unusedVariables false
theorem E.ints : ElemOk 44 3 (.int .i64 0) 1 8 := ⟨Tryd.underlying44, by kernel_rfl, rfl, by omega⟩
theorem iV_one {l : List Int} : ∀ u ∈ l.map iV, u.oneCell' = true := by
  intro u hu
  obtain ⟨x, _, rfl⟩ := List.mem_map.1 hu
  rfl
theorem sV_one {l : List (List UInt8)} : ∀ u ∈ l.map strV, u.oneCell' = true := by
  intro u hu
  obtain ⟨x, _, rfl⟩ := List.mem_map.1 hu
  rfl
theorem stepA_one (s : Stp) (A : Option Addr) (c : Nat) (B : Option Addr) (d : Nat) : (stepA s A c B d).all (·.oneCell') = true := by simp [stepA, Value.oneCell']
theorem own_nil {w : World} {k e n cap : Nat} {A : Option Addr} {xs : List Value} (h : w.ownsRow k e 1 (.slice A n cap) n xs) : A = none → n = 0 ∧ cap = 0 := by
  intro e
  rcases h.2 with ⟨h, h0⟩ | ⟨g, _, _, h, _⟩
  · injection h with _ h2 h3
    exact ⟨h0, h3⟩
  · injection h with h2 _ _
    rw [e] at h2; cases h2
/-- a slice's address is one of a row's cells -/
def PlainA (A : Option Addr) : Prop := ∀ ad, A = some ad → ∃ b off, ad = ⟨b, off, none⟩
theorem own_plain {w : World} {k e n cap : Nat} {A : Option Addr} {xs : List Value} (h : w.ownsRow k e 1 (.slice A n cap) n xs) : PlainA A := by
  intro ad ha
  rcases h.2 with ⟨h, h0⟩ | ⟨g, cap', cur, h, _⟩
  · injection h with h1 _ _
    rw [h1] at ha; cases ha
  · injection h with h1 _ _
    rw [h1] at ha; injection ha with ha
    exact ⟨g, 0, ha.symm⟩
theorem own_cap {w : World} {k e n cap : Nat} {A : Option Addr} {xs : List Value} (h : w.ownsRow k e 1 (.slice A n cap) n xs) : n ≤ cap := by
  rcases h.2 with ⟨h, h0⟩ | ⟨g, cap', cur, h, _, _, hle, _⟩
  · omega
  · injection h with _ _ h3
    subst h3
    exact hle
set_option maxHeartbeats 8000000 in
theorem copyStep_any (s : Stp) (A : Option Addr) (c : Nat) (B : Option Addr) (d : Nat) (w : World) (hR : StR w s A c B d) (hz : StSz 1099511627776 s) :
    Calls Tryd.prog 21 #[.agg (stepA s A c B d)] w fun e w' => ∃ A' c' B' d', e = .returned (.agg (stepA s A' c' B' d')) ∧ StR w' s A' c' B' d' ∧ PlainA A' ∧ PlainA B' ∧ Gr w w' := by
  have hwl := hz.who
  have hsl := hz.seals
  have hb1 : (0 + s.who.length) * 8 ≤ 140737488355328 := by omega
  have hb2 : 0 + s.who.length ≤ maxLen := by unfold maxLen; omega
  have hb3 : (0 + s.seals.length) * 16 ≤ 140737488355328 := by omega
  have hb4 : 0 + s.seals.length ≤ maxLen := by unfold maxLen; omega
  obtain ⟨wa, hwa⟩ : ∃ x, x = (w.alloc (.cells (stepA s A c B d) 46)).alloc (.cells #[.string (bs []), .string (bs []), .string (bs []), .slice none 0 0, .slice none 0 0] 46) := ⟨_, rfl⟩
  have hb : Blk wa w.heap.size 46 (stepA s A c B d) := by rw [hwa]; exact (Blk.new w _ _).alloc _
  have hr : Blk wa (w.heap.size + 1) 46 #[.string (bs []), .string (bs []), .string (bs []), .slice none 0 0, .slice none 0 0] := by rw [hwa]; exact Blk.new1 w _ _ _
  have hg0 : Gr w wa := by rw [hwa]; exact ((Gr.refl w).alloc _).alloc _
  obtain ⟨p, hp⟩ : ∃ p, p = w.heap.size := ⟨_, rfl⟩
  rw [← hp] at hb hr
  have hwp : w.heap.size ≤ p := by omega
  have HB := sec hb
  have HRR := sec hr
  have HRW := sec (hR.gr hg0)
  have HSK : Sec (∀ w', Gr wa w' → w'.cell? ⟨p, 3, none⟩ = some (.slice A s.who.length c) ∧ w'.cell? ⟨p, 4, none⟩ = some (.slice B s.seals.length d) ∧ w'.frozen? ⟨p, 3, none⟩ = false ∧ w'.frozen? ⟨p, 4, none⟩ = false) := sec (fun w' g => ⟨(hb.gr g).cell 3, (hb.gr g).cell 4, (hb.gr g).frozen 3, (hb.gr g).frozen 4⟩)
  have HSZ : Sec (∀ w', Gr wa w' → p + 1 < w'.heap.size) := sec (fun w' g => (hr.gr g).lt)
  clear hb hr hR hz
  unfold stepA at hwa
  unfold stepA
  go_enter Tryd.func21, Tryd.ntmps21
  go_upto_region 1 with fail
  rw [← hwa, ← hp]
  clear hwa hp
  have gd : Gr wa wa.drew := (Gr.refl _).drew
  obtain ⟨a0, a1, a2, a3⟩ := HSK.out wa (Gr.refl _)
  go_region_law (first
    | (refine step_append_row E.ints rfl (.const (.slice none 0 0)) (.tmp 4) rfl (B := p + 1 + 1) rfl (World.ownsRow_nil _ _ _ _) rfl (Row.gr HRW.out.who (by first | with_reducible assumption)) HRW.out.wn iV_one hb1 hb2 (HSZ.out _ (by first | with_reducible assumption)) ?_; intro A1 k1 x1 o1 h1; have G1 : Gr wa x1 := Gr.grown (by first | with_reducible assumption) h1 (by rintro k hk; cases hk); obtain ⟨m0, m1, m2, m3⟩ := HSK.out x1 G1)
    | (refine step_append_row E.str rfl (.const (.slice none 0 0)) (.tmp 7) rfl (B := p + 1 + 1) rfl (World.ownsRow_nil _ _ _ _) rfl (Row.gr HRW.out.seals (by first | with_reducible assumption)) HRW.out.sn sV_one hb3 hb4 (HSZ.out _ (by first | with_reducible assumption)) ?_; intro A2 k2 x2 o2 h2; have G2 : Gr wa x2 := Gr.grown (by first | with_reducible assumption) h2 (by rintro k hk; cases hk); obtain ⟨n0, n1, n2, n3⟩ := HSK.out x2 G2))
  all_goals
    rw [Nat.zero_add, List.nil_append] at o1 o2
    have g12 : Gr x1 x2 := Gr.grown (Gr.refl _) h2 (by rintro k hk; cases hk)
    have o3 := own_gr o1 g12
    have f1 : ∀ {e n cap : Nat} {X : Option Addr} {xs : List Value}, x2.ownsRow (p + 1 + 1) e 1 (.slice X n cap) n xs → ((x2.setCell ⟨p, 3, none⟩ (.slice A1 s.who.length k1)).setCell ⟨p, 4, none⟩ (.slice A2 s.seals.length k2)).ownsRow (p + 1 + 1) e 1 (.slice X n cap) n xs := fun h =>
      ownsRow_setCell_other (ownsRow_setCell_other h (a := ⟨p, 3, none⟩) (fun e => by have := (h.lt p e).1; omega) _) (a := ⟨p, 4, none⟩) (fun e => by have := (h.lt p e).1; omega) _
    have q1 := f1 o3
    have q2 := f1 o2
    have BX : Blk ((x2.setCell ⟨p, 3, none⟩ (.slice A1 s.who.length k1)).setCell ⟨p, 4, none⟩ (.slice A2 s.seals.length k2)) p 46 (stepA s A1 k1 A2 k2) := ((HB.out.gr G2).set_ 3 _).set_ 4 _
    have ZX := ((HRR.out.gr G2).far (p := ⟨p, 3, none⟩) (by show p + 1 ≠ p; omega) (.slice A1 s.who.length k1)).far (p := ⟨p, 4, none⟩) (by show p + 1 ≠ p; omega) (.slice A2 s.seals.length k2)
    have GX := ((hg0.trans G2).setCell (p := ⟨p, 3, none⟩) hwp (.slice A1 s.who.length k1)).setCell (p := ⟨p, 4, none⟩) hwp (.slice A2 s.seals.length k2)
    clear m0 m1 m2 m3 n0 n1 n2 n3 a0 a1 a2 a3 f1 o1 o2 o3
    go_wp2_with (first
      | (refine wpList_load_blk rfl 46 (.tmp 1) rfl (g := p) rfl BX aggStep ?_)
      | (refine wpList_store_blk rfl 46 (.tmp 2) (.tmp 11) rfl (g := p + 1) (cs' := stepA s A1 k1 A2 k2) rfl rfl ZX aggStep rfl (stepA_one _ _ _ _ _) ?_; intro w9 h9 hg9))
    refine bodyPost_ret (results_blk rfl _ rfl h9 aggStep) rfl ?_
    have r1 : IntRow w9 A1 s.who.length s.who := Row.only (Row.own q1) hg9 (fun h0 b off e => by have := (q1.lt b (by rw [e]; rfl)).1; omega)
    have r2 : StrRow w9 A2 s.seals.length s.seals := Row.only (Row.own q2) hg9 (fun h0 b off e => by have := (q2.lt b (by rw [e]; rfl)).1; omega)
    exact ⟨A1, k1, A2, k2, rfl, ⟨r1, r2, own_nil q1, own_nil q2, own_cap q1, own_cap q2⟩, own_plain q1, own_plain q2, Gr.only GX hg9 (by omega)⟩

set_option maxHeartbeats 8000000 in
theorem sameStep_any (s : Stp) (A : Option Addr) (c : Nat) (B : Option Addr) (d : Nat) (A' : Option Addr) (c' : Nat) (B' : Option Addr) (d' : Nat) (w : World) (hR : StR w s A c B d) (hR' : StR w s A' c' B' d') (hz : StSz 1099511627776 s) :
    Calls Tryd.prog 30 #[.agg (stepA s A c B d), .agg (stepA s A' c' B' d')] w fun e w' => e = .returned (.bool true) ∧ Gr w w' := by
  have hwl := hz.who
  have hsl := hz.seals
  obtain ⟨wa, hwa⟩ : ∃ x, x = (w.alloc (.cells (stepA s A c B d) 46)).alloc (.cells (stepA s A' c' B' d') 46) := ⟨_, rfl⟩
  have hb : Blk wa w.heap.size 46 (stepA s A c B d) := by rw [hwa]; exact (Blk.new w _ _).alloc _
  have hr : Blk wa (w.heap.size + 1) 46 (stepA s A' c' B' d') := by rw [hwa]; exact Blk.new1 w _ _ _
  have hg0 : Gr w wa := by rw [hwa]; exact ((Gr.refl w).alloc _).alloc _
  obtain ⟨p, hp⟩ : ∃ p, p = w.heap.size := ⟨_, rfl⟩
  rw [← hp] at hb hr
  have HX := sec (hR.who.gr hg0)
  have HY := sec (hR'.who.gr hg0)
  have HSS : Sec (∀ w', Gr wa w' → Calls Tryd.prog 19 #[.slice B s.seals.length d, .slice B' s.seals.length d'] w' fun e w'' => e = .returned (.bool true) ∧ Gr w' w'') := sec (fun w' g => by
    have := sameStrings_any B B' s.seals.length s.seals.length d d' s.seals s.seals w' ((hR.seals.gr hg0).gr g) ((hR'.seals.gr hg0).gr g) (by omega) (by omega)
    rwa [decide_eq_true rfl] at this)
  have HSK : Sec (∀ w', Gr wa w' → w'.cell? ⟨p, 0, none⟩ = some (.string (bs s.r)) ∧ w'.cell? ⟨p, 1, none⟩ = some (.string (bs s.o)) ∧ w'.cell? ⟨p, 2, none⟩ = some (.string (bs s.n)) ∧ w'.cell? ⟨p, 3, none⟩ = some (.slice A s.who.length c) ∧ w'.cell? ⟨p, 4, none⟩ = some (.slice B s.seals.length d) ∧ w'.cell? ⟨p + 1, 0, none⟩ = some (.string (bs s.r)) ∧ w'.cell? ⟨p + 1, 1, none⟩ = some (.string (bs s.o)) ∧ w'.cell? ⟨p + 1, 2, none⟩ = some (.string (bs s.n)) ∧ w'.cell? ⟨p + 1, 3, none⟩ = some (.slice A' s.who.length c') ∧ w'.cell? ⟨p + 1, 4, none⟩ = some (.slice B' s.seals.length d')) := sec (fun w' g => ⟨(hb.gr g).cell 0, (hb.gr g).cell 1, (hb.gr g).cell 2, (hb.gr g).cell 3, (hb.gr g).cell 4, (hr.gr g).cell 0, (hr.gr g).cell 1, (hr.gr g).cell 2, (hr.gr g).cell 3, (hr.gr g).cell 4⟩)
  clear hb hr hR hR' hz
  unfold stepA at hwa
  unfold stepA
  obtain ⟨a0, a1, a2, a3, a4, b0, b1, b2, b3, b4⟩ := HSK.out wa (Gr.refl _)
  go_enter Tryd.func30, Tryd.ntmps30
  go_upto_region 1 with fail
  rw [← hwa, ← hp]
  clear hwa hp
  go_wp2_with fail
  clear a0 a1 a2 a3 a4 b0 b1 b2 b3 b4
  go_loopg [16, 5] s.who.length (fun fuel iv _ wr => ∃ i : Nat, iv = .int .i64 (i : Int) ∧ s.who.length ≤ i + fuel ∧ i ≤ s.who.length ∧ Gr wa wr)
  case atStart => exact ⟨0, rfl, by omega, by omega, Gr.refl _⟩
  case round =>
    obtain ⟨i, rfl, hik, hi, gw⟩ := hrel
    obtain ⟨a0, a1, a2, a3, a4, b0, b1, b2, b3, b4⟩ := HSK.out wr gw
    by_cases hlt : i < s.who.length
    · have hii : (i : Int) < (s.who.length : Int) := by omega
      obtain ⟨b, off, rfl, x0⟩ := (HX.out.gr gw).cell hlt
      obtain ⟨b', off', rfl, y0⟩ := (HY.out.gr gw).cell hlt
      obtain ⟨mw, hmw⟩ : ∃ x, x = s.who[i] := ⟨_, rfl⟩
      rw [← hmw] at x0 y0
      have HII := sec hlt
      clear hmw hlt
      go_wp2_with fail
      go_quiet (fail)
      go_wp2_with fail
      go_roundg (gk - 1)
      case rel => exact ⟨i + 1, by go_num, by omega, HII.out, Gr.drewN gw _⟩
      case measure => have := HII.out; omega
    · obtain hE2 : i = s.who.length := by omega
      have hii : ¬ (i : Int) < (s.who.length : Int) := by omega
      have q : decide (i < s.who.length) = false := decide_eq_false hlt
      clear hE2 hlt hik
      go_wp2_with (go_at_call 19; refine Calls.mono (HSS.out _ gw) ?_; rintro e w1 ⟨rfl, g1⟩)
      go_ret
      exact ⟨rfl, hg0.trans (gw.trans g1)⟩
end Go.Proofs.YtkgmimmneeppgaaDoor

namespace Go.Proofs.YtkgmimmneeppgaaDoor
open Go.RowKit
theorem text_any (t : List UInt8) (w : World) (ht : t.length ≤ 1152921504606846976) :
    Calls Tryd.prog 47 #[.string (bs t)] w fun e w' => e = .returned (.string (bs (txt t))) ∧ Gr w w' := by
  have hl := num_len9 (n := t.length) (by omega)
  have e1 := numS_nat (n := t.length) (by omega)
  have E1 := sec e1
  clear e1
  go_enter Tryd.func47, Tryd.ntmps47
  go_wp2_with (go_at_call 48; refine (number_any _ _).mono ?_; rintro e w1 ⟨rfl, g1⟩; rw [E1.out])
  go_ret
  exact ⟨rfl, g1⟩

end Go.Proofs.YtkgmimmneeppgaaDoor

namespace Go.Proofs.YtkgmimmneeppgaaDoor
open Go.RowKit
set_option maxRecDepth 100000 in
theorem wrText (B g : Nat) (q : St2) (t : List UInt8) (w : World) (h : WrAt w B g q) (hlen : q.1.length ≤ 35184372080000) :
    Calls Tryd.prog 43 #[.pointer (some ⟨g, 0, none⟩), .string (bs t)] w fun e w' => e = .returned (.tuple #[]) ∧ WrAt w' B g (wTxt t q) ∧ Below B w w' ∧ KeepT g w w' := by
  obtain ⟨l, er⟩ := q
  obtain ⟨A, cap, hb, ho⟩ := h.ex
  have hg := h.base
  have hB : B ≤ w.heap.size := by have := hb.lt; omega
  simp only at hb ho hlen
  have hc0 : w.cell? ⟨g, 0, none⟩ = some (.slice A l.length cap) := hb.cell 0
  have hc1 : w.cell? ⟨g, 1, none⟩ = some (.int .i64 (er : Int)) := hb.cell 1
  by_cases he : er = 0
  · subst he
    by_cases hn : t.length ≤ 4096
    · have h9 := num_len9 (n := t.length) (by omega)
      have hx : (txt t).length = (num t.length).length + t.length := by simp [txt]
      have hx' : (txt t).length ≤ 4105 := by omega
      clear hx h9
      go_enter Tryd.func43, Tryd.ntmps43
      go_wp2_with (first
        | (go_at_call 71; refine (puttext_ok [] _ _ (by simp) hn).mono ?_; rintro e w1 ⟨rfl, g1⟩; rw [List.nil_append]; have hb1 := hb.gr g1; have c0 : w1.cell? ⟨g, 0, none⟩ = some (.slice A l.length cap) := hb1.cell 0; have ho1 := own_gr ho g1; have hB1 : B ≤ w1.heap.size := by have := g1.size; omega)
        | (at_builtin; refine wpList_append_str E.u8 Tryd.underlying9 rfl (.tmp 25) (.tmp 26) rfl rfl ho1 rfl (by first | omega | (simp; omega)) hB1 ?_; intro A2 cap2 w2 ho2 hg2; have hb2 := blk_own hb1 ho1 (by decide) hg2; have d0 : w2.cell? ⟨g, 0, none⟩ = some (.slice A l.length cap) := hb2.cell 0; have d1 : w2.cell? ⟨g, 1, none⟩ = some (.int .i64 ((0 : Nat) : Int)) := hb2.cell 1; have f0 := hb2.frozen 0; have f1 := hb2.frozen 1))
      first | go_end0 | refine bodyPost_ret (results_none rfl _ _ _) rfl ?_
      obtain ⟨r1, r2, r3⟩ := wr_done (e' := 0) hg hb1 ho1 ho2 hg2 hB1 (by first | omega | (simp; omega))
      exact ⟨rfl, by simpa [wTxt, hn] using r1, (g1.below.mono hB).trans (by simpa using r2), (KeepT.gr g1).trans (by simpa using r3)⟩
    · go_enter Tryd.func43, Tryd.ntmps43
      go_wp2_with (first
        | (go_at_call 71; refine (puttext_long [] _ _ (by omega)).mono ?_; rintro e w1 ⟨rfl, rfl⟩; have hb1 := hb; have ho1 := ho; have hB1 := hB)
        | (at_builtin; refine wpList_append_str (s := []) E.u8 Tryd.underlying9 rfl (.tmp 25) (.tmp 26) rfl rfl ho1 rfl (by first | omega | (simp; omega)) hB1 ?_; intro A2 cap2 w2 ho2 hg2; rw [List.append_nil] at ho2; have hb2 := blk_own hb1 ho1 (by decide) hg2; have d0 : w2.cell? ⟨g, 0, none⟩ = some (.slice A l.length cap) := hb2.cell 0; have d1 : w2.cell? ⟨g, 1, none⟩ = some (.int .i64 ((0 : Nat) : Int)) := hb2.cell 1; have f0 := hb2.frozen 0; have f1 := hb2.frozen 1))
      first | go_end0 | refine bodyPost_ret (results_none rfl _ _ _) rfl ?_
      obtain ⟨r1, r2, r3⟩ := wr_done (e' := 1) hg hb1 ho1 ho2 hg2 hB1 (by first | omega | (simp; omega))
      exact ⟨rfl, by simpa [wTxt, hn] using r1, by first | exact r2 | simpa using r2, by first | exact r3 | simpa using r3⟩
  · have he' : ((er : Int) == 0) = false := by simpa using he
    have he2 : ((er : Int) != 0) = true := by simpa using he
    go_enter Tryd.func43, Tryd.ntmps43
    go_wp2
    first | go_end0 | refine bodyPost_ret (results_none rfl _ _ _) rfl ?_
    exact ⟨rfl, by simpa [wTxt, he] using h, Below.refl _ _, KeepT.refl _ _⟩

end Go.Proofs.YtkgmimmneeppgaaDoor

namespace Go.Proofs.YtkgmimmneeppgaaDoor
set_option maxRecDepth 100000
open Go.RowKit
set_option linter.unusedVariables false
/-- what a writer holds behind three texts -/
def tri (s : Stp) (q : St2) : St2 := wTxt s.n (wTxt s.o (wTxt s.r q))
/-- behind i of them -/
def triAt (s : Stp) (q : St2) : Nat → St2
  | 0 => q
  | 1 => wTxt s.r q
  | 2 => wTxt s.o (wTxt s.r q)
  | _ => tri s q
def triX (s : Stp) : Nat → List UInt8
  | 0 => s.r
  | 1 => s.o
  | _ => s.n
theorem triAt_succ (s : Stp) (q : St2) (i : Nat) (h : i < 3) : triAt s q (i + 1) = wTxt (triX s i) (triAt s q i) := by
  match i, h with
  | 0, _ => rfl
  | 1, _ => rfl
  | 2, _ => rfl
theorem wTxt_len (t : List UInt8) (q : St2) : (wTxt t q).1.length ≤ q.1.length + 4105 := by
  unfold wTxt
  split
  · split
    · rename_i h
      have := txt_len t (by omega)
      simp only [List.length_append]
      omega
    · simp only; omega
  · omega
theorem triAt_len (s : Stp) (q : St2) : ∀ i, (triAt s q i).1.length ≤ q.1.length + 12315
  | 0 => by show q.1.length ≤ _; omega
  | 1 => by have := wTxt_len s.r q; show (wTxt s.r q).1.length ≤ _; omega
  | 2 => by
    have h1 := wTxt_len s.r q
    have h2 := wTxt_len s.o (wTxt s.r q)
    show (wTxt s.o (wTxt s.r q)).1.length ≤ _
    omega
  | n + 3 => by
    have h1 := wTxt_len s.r q
    have h2 := wTxt_len s.o (wTxt s.r q)
    have h3 := wTxt_len s.n (wTxt s.o (wTxt s.r q))
    show (wTxt s.n (wTxt s.o (wTxt s.r q))).1.length ≤ _
    omega
theorem body_wr {at_ : Int} (s : Stp) (h0 : 0 ≤ at_) (h1 : at_ ≤ 199) : (if (tri s (numS at_, 0)).2 = 0 then (tri s (numS at_, 0)).1 else [], ((tri s (numS at_, 0)).2 : Int)) = bodyR at_ s := by
  have hB : bodyR at_ s = if 4096 < s.r.length ∨ 4096 < s.o.length ∨ 4096 < s.n.length then ([], 1) else (numS at_ ++ txt s.r ++ txt s.o ++ txt s.n, 0) := by
    unfold bodyR
    rw [if_neg (show ¬ (at_ < 0 ∨ 199 < at_) by omega)]
  have no : ∀ (l t : List UInt8), wTxt t (l, 1) = (l, 1) := fun l t => by unfold wTxt; rw [if_neg (show ¬ (1 : Nat) = 0 by omega)]
  have yes : ∀ (l t : List UInt8), t.length ≤ 4096 → wTxt t (l, 0) = (l ++ txt t, 0) := fun l t h => by unfold wTxt; rw [if_pos rfl, if_pos h]
  have long : ∀ (l t : List UInt8), ¬ t.length ≤ 4096 → wTxt t (l, 0) = (l, 1) := fun l t h => by unfold wTxt; rw [if_pos rfl, if_neg h]
  have bad : ∀ l : List UInt8, (if (l, (1 : Nat)).2 = 0 then (l, (1 : Nat)).1 else ([] : List UInt8), ((l, (1 : Nat)).2 : Int)) = (([] : List UInt8), (1 : Int)) := fun l => rfl
  rw [hB]
  unfold tri
  by_cases a : s.r.length ≤ 4096
  · rw [yes _ _ a]
    by_cases b : s.o.length ≤ 4096
    · rw [yes _ _ b]
      by_cases c : s.n.length ≤ 4096
      · rw [yes _ _ c, if_neg (show ¬ (4096 < s.r.length ∨ 4096 < s.o.length ∨ 4096 < s.n.length) by omega)]; rfl
      · rw [long _ _ c, bad, if_pos (show 4096 < s.r.length ∨ 4096 < s.o.length ∨ 4096 < s.n.length by omega)]
    · rw [long _ _ b, no, bad, if_pos (show 4096 < s.r.length ∨ 4096 < s.o.length ∨ 4096 < s.n.length by omega)]
  · rw [long _ _ a, no, no, bad, if_pos (show 4096 < s.r.length ∨ 4096 < s.o.length ∨ 4096 < s.n.length by omega)]

set_option maxHeartbeats 8000000 in
theorem stBody_any (at_ : Int) (s : Stp) (A : Option Addr) (c : Nat) (B : Option Addr) (d : Nat) (w : World) (hz : StSz 1099511627776 s) :
    Calls Tryd.prog 23 #[.int .i64 at_, .agg (stepA s A c B d)] w fun e w' => e = .returned (.tuple #[.string (bs (bodyR at_ s).1), .int .i64 (bodyR at_ s).2]) ∧ Gr w w' := by
  obtain ⟨wa, hwa⟩ : ∃ x, x = w.alloc (.cells (stepA s A c B d) 46) := ⟨_, rfl⟩
  have hb : Blk wa w.heap.size 46 (stepA s A c B d) := by rw [hwa]; exact Blk.new w _ _
  have hg0 : Gr w wa := by rw [hwa]; exact (Gr.refl w).alloc _
  obtain ⟨p, hp⟩ : ∃ p, p = w.heap.size := ⟨_, rfl⟩
  rw [← hp] at hb
  by_cases hr : at_ < 0 ∨ 199 < at_
  · have HR : Sec (bodyR at_ s = ([], 3)) := sec (by unfold bodyR; rw [if_pos hr])
    rw [HR.out]
    unfold stepA at hwa
    unfold stepA
    by_cases h0 : at_ < 0
    · have q0 : decide (at_ < 0) = true := decide_eq_true h0
      clear hr hb
      go_enter Tryd.func23, Tryd.ntmps23
      go_wp2_with (first | (rw [← hwa, ← hp]; clear hwa hp; go_wp2_with fail))
      go_ret2
      exact ⟨rfl, hg0⟩
    · have q0 : decide (at_ < 0) = false := decide_eq_false h0
      have q1 : decide (200 ≤ at_) = true := decide_eq_true (by omega)
      clear hr hb
      go_enter Tryd.func23, Tryd.ntmps23
      go_wp2_with (first | (rw [← hwa, ← hp]; clear hwa hp; go_wp2_with fail))
      go_ret2
      exact ⟨rfl, hg0⟩
  · have q0 : decide (at_ < 0) = false := decide_eq_false (by omega)
    have q1 : decide (200 ≤ at_) = false := decide_eq_false (by omega)
    have HBW := sec (body_wr (at_ := at_) s (by omega) (by omega))
    have hnl : (numS at_).length ≤ 9 := by rw [numS_in (by omega) (by omega)]; exact num_len9 (by omega)
    have HTL := sec (triAt_len s (numS at_, 0))
    have HTS := sec (triAt_succ s (numS at_, 0))
    have HNu : Sec (∀ B g w, WrAt w B g ([], 0) → Calls Tryd.prog 44 #[.pointer (some ⟨g, 0, none⟩), .int .i64 at_] w fun e w' => e = .returned (.tuple #[]) ∧ WrAt w' B g (triAt s (numS at_, 0) 0) ∧ Below B w w' ∧ KeepT g w w') := sec (fun B g w h => by
      have := wrNumber B g ([], 0) at_ w h (by simp)
      have e : wNum at_ ([], 0) = (numS at_, 0) := by unfold wNum; rw [if_pos rfl, if_pos ⟨by omega, by omega⟩]; rfl
      rwa [e] at this)
    have HTx : Sec (∀ B g w i, i < 3 → WrAt w B g (triAt s (numS at_, 0) i) → Calls Tryd.prog 43 #[.pointer (some ⟨g, 0, none⟩), .string (bs (triX s i))] w fun e w' => e = .returned (.tuple #[]) ∧ WrAt w' B g (triAt s (numS at_, 0) (i + 1)) ∧ Below B w w' ∧ KeepT g w w') := sec (fun B g w i hi h => by
      have := wrText B g _ (triX s i) w h (by have := HTL.out i; simp only at this; omega)
      rwa [← HTS.out i hi] at this)
    have HDn : Sec (∀ B g w, WrAt w B g (triAt s (numS at_, 0) 3) → Calls Tryd.prog 46 #[.pointer (some ⟨g, 0, none⟩)] w fun e w' => e = .returned (.tuple #[.string (bs (bodyR at_ s).1), .int .i64 (bodyR at_ s).2]) ∧ Gr w w') := sec (fun B g w h => by
      have := wrDone B g _ w h
      have e := HBW.out
      have e1 := congrArg Prod.fst e
      have e2 := congrArg Prod.snd e
      simp only at e1 e2
      rw [← e1, ← e2]
      exact this)
    have HW0 : Sec (∀ w1 : World, WrAt (w1.alloc (.cells #[.slice none 0 0, .int .i64 0] 71)) w1.heap.size w1.heap.size ([], 0)) := sec (fun w1 => ⟨⟨none, 0, Blk.new w1 _ _, World.ownsRow_nil _ _ _ _⟩, Nat.le_refl _, by simp⟩)
    obtain ⟨R, hRR⟩ : ∃ R, R = bodyR at_ s := ⟨_, rfl⟩
    rw [← hRR] at HDn
    rw [← hRR]
    obtain ⟨T, hT⟩ : ∃ T, T = triAt s (numS at_, 0) := ⟨_, rfl⟩
    rw [← hT] at HNu HTx HDn
    have HB := sec hb
    clear hr hb HBW hnl HTL HTS hRR hT hz
    unfold stepA at hwa
    unfold stepA
    go_enter Tryd.func23, Tryd.ntmps23
    go_upto_region 3 with fail
    rw [← hwa, ← hp]
    clear hwa hp
    go_wp2_with (go_at_call 44; refine Calls.mono (HNu.out wa.heap.size wa.heap.size _ (HW0.out wa)) ?_; rintro e w2 ⟨rfl, d2, k2, _⟩; have g2 : Gr wa w2 := Below.trans ((Gr.refl wa).alloc _) k2; have y0 : w2.cell? ⟨p, 0, none⟩ = some (.string (bs s.r)) := (HB.out.gr g2).cell 0; have y1 : w2.cell? ⟨p, 1, none⟩ = some (.string (bs s.o)) := (HB.out.gr g2).cell 1; have y2 : w2.cell? ⟨p, 2, none⟩ = some (.string (bs s.n)) := (HB.out.gr g2).cell 2)
    have hv := Blk.new w2 9 #[.string (bs s.r), .string (bs s.o), .string (bs s.n)]
    have dv := d2.gr ((Gr.refl w2).alloc (.cells #[.string (bs s.r), .string (bs s.o), .string (bs s.n)] 9))
    have gv := g2.alloc (.cells #[.string (bs s.r), .string (bs s.o), .string (bs s.n)] 9)
    have hpq : w2.heap.size ≠ wa.heap.size := by have := d2.ex; obtain ⟨_, _, h, _⟩ := this; have := h.lt; omega
    obtain ⟨wb, hwb⟩ : ∃ x, x = w2.alloc (.cells #[.string (bs s.r), .string (bs s.o), .string (bs s.n)] 9) := ⟨_, rfl⟩
    obtain ⟨v, hvv⟩ : ∃ v, v = w2.heap.size := ⟨_, rfl⟩
    obtain ⟨g, hgg⟩ : ∃ g, g = wa.heap.size := ⟨_, rfl⟩
    rw [← hwb] at hv dv gv
    rw [← hvv] at hv hpq
    rw [← hgg] at dv hpq
    rw [← hwb, ← hvv, ← hgg]
    have HG := sec hgg
    clear hwb hvv hgg y0 y1 y2 d2 k2 g2
    go_loopg [28, 8] 3 (fun fuel iv _ wr => ∃ i : Nat, iv = .int .i64 (i : Int) ∧ 3 ≤ i + fuel ∧ i ≤ 3 ∧ WrAt wr g g (T i) ∧ Blk wr v 9 #[.string (bs s.r), .string (bs s.o), .string (bs s.n)] ∧ Gr wa wr)
    case atStart => exact ⟨0, rfl, by omega, by omega, dv, hv, gv⟩
    case round =>
      clear hv dv gv
      obtain ⟨i, rfl, hik, hi, dw, bw, gw⟩ := hrel
      by_cases h3 : i < 3
      · have hTi := HTx.out g g wr i h3 dw
        have hc : wr.cell? ⟨v, i, none⟩ = some (.string (bs (triX s i))) := by
          match i, h3 with
          | 0, _ => exact bw.cell 0
          | 1, _ => exact bw.cell 1
          | 2, _ => exact bw.cell 2
        have HTi := sec hTi
        have hii : (i : Int) < 3 := by omega
        have H3 := sec h3
        clear hTi h3
        go_wp2_with (go_at_call 43; refine Calls.mono HTi.out ?_; rintro e w3 ⟨rfl, d3, k3, kt3⟩)
        go_roundg (gk - 1)
        case rel => exact ⟨i + 1, by go_num, by omega, by have := H3.out; omega, d3, kt3 v _ _ hpq (by decide) bw, by rw [HG.out] at k3; exact Below.trans gw k3⟩
        case measure => have := H3.out; omega
      · obtain rfl : i = 3 := by omega
        clear h3 hik
        go_wp2_with (go_at_call 46; refine Calls.mono (HDn.out _ _ _ dw) ?_; rintro e w4 ⟨rfl, g4⟩)
        go_ret2
        exact ⟨rfl, hg0.trans (gw.trans g4)⟩

set_option maxHeartbeats 8000000 in
theorem rstBody_any (at_ : Int) (s : Stp) (A : Option Addr) (c : Nat) (B : Option Addr) (d : Nat) (w : World) (hz : StSz 1099511627776 s) :
    Calls Tryd.prog 24 #[.int .i64 at_, .agg (stepA s A c B d)] w fun e w' => e = .returned (.tuple #[.string (bs (bodyR at_ s).1), .int .i64 (bodyR at_ s).2]) ∧ Gr w w' := by
  obtain ⟨wa, hwa⟩ : ∃ x, x = w.alloc (.cells (stepA s A c B d) 46) := ⟨_, rfl⟩
  have hb : Blk wa w.heap.size 46 (stepA s A c B d) := by rw [hwa]; exact Blk.new w _ _
  have hg0 : Gr w wa := by rw [hwa]; exact (Gr.refl w).alloc _
  obtain ⟨p, hp⟩ : ∃ p, p = w.heap.size := ⟨_, rfl⟩
  rw [← hp] at hb
  obtain ⟨R, hRR⟩ : ∃ R, R = bodyR at_ s := ⟨_, rfl⟩
  rw [← hRR]
  have HRR := sec hRR
  clear hRR
  obtain ⟨r, o, n, who, seals⟩ := s
  have hr := hz.r
  have ho := hz.o
  have hn := hz.n
  simp only at hr ho hn
  have HT1 := sec (fun w => text_any r w (by omega))
  have HT2 := sec (fun w => text_any o w (by omega))
  have HT3 := sec (fun w => text_any n w (by omega))
  have HN := sec (fun w => number_any at_ w)
  unfold stepA at hwa hb
  unfold stepA
  simp only at hwa hb ⊢
  have HB := sec hb
  have hb0 : wa.cell? ⟨p, 0, none⟩ = some (.string (bs r)) := hb.cell 0
  have hb1 : wa.cell? ⟨p, 1, none⟩ = some (.string (bs o)) := hb.cell 1
  have hb2 : wa.cell? ⟨p, 2, none⟩ = some (.string (bs n)) := hb.cell 2
  clear hb hz
  by_cases hr : at_ < 0 ∨ 199 < at_
  · have HR : Sec (R = ([], 3)) := sec (by rw [HRR.out]; unfold bodyR; rw [if_pos hr])
    by_cases h0 : at_ < 0
    · have q0 : decide (at_ < 0) = true := decide_eq_true h0
      clear hr
      go_enter Tryd.func24, Tryd.ntmps24
      go_wp2_with (first | (rw [← hwa, ← hp]; clear hwa hp; go_wp2_with fail))
      go_ret2
      exact ⟨by rw [HR.out]; rfl, hg0⟩
    · have q0 : decide (at_ < 0) = false := decide_eq_false h0
      have q1 : decide (199 < at_) = true := decide_eq_true (by omega)
      clear hr
      go_enter Tryd.func24, Tryd.ntmps24
      go_wp2_with (first | (rw [← hwa, ← hp]; clear hwa hp; go_wp2_with fail))
      go_ret2
      exact ⟨by rw [HR.out]; rfl, hg0⟩
  · have q0 : decide (at_ < 0) = false := decide_eq_false (by omega)
    have q1 : decide (199 < at_) = false := decide_eq_false (by omega)
    have HR1 : Sec (R = if 4096 < r.length ∨ 4096 < o.length ∨ 4096 < n.length then ([], 1) else (numS at_ ++ txt r ++ txt o ++ txt n, 0)) := sec (by rw [HRR.out]; unfold bodyR; rw [if_neg hr])
    have hnl : (numS at_).length ≤ 9 := by rw [numS_in (by omega) (by omega)]; exact num_len9 (by omega)
    by_cases h4 : 4096 < r.length ∨ 4096 < o.length ∨ 4096 < n.length
    · have HR : Sec (R = ([], 1)) := sec (by rw [HR1.out, if_pos h4])
      clear hnl HT1 HT2 HT3 HN
      by_cases g1 : 4096 < r.length
      · have t1 : (4096 : Int) < (r.length : Int) := by omega
        clear h4 hr
        go_enter Tryd.func24, Tryd.ntmps24
        go_wp2_with (first | (rw [← hwa, ← hp]; clear hwa hp; go_wp2_with fail))
        go_ret2
        exact ⟨by rw [HR.out]; rfl, hg0⟩
      · have t1 : ¬ (4096 : Int) < (r.length : Int) := by omega
        by_cases g2 : 4096 < o.length
        · have t2 : (4096 : Int) < (o.length : Int) := by omega
          clear h4 hr
          go_enter Tryd.func24, Tryd.ntmps24
          go_wp2_with (first | (rw [← hwa, ← hp]; clear hwa hp; go_wp2_with fail))
          go_ret2
          exact ⟨by rw [HR.out]; rfl, hg0⟩
        · have t2 : ¬ (4096 : Int) < (o.length : Int) := by omega
          have t3 : (4096 : Int) < (n.length : Int) := by omega
          clear h4 hr
          go_enter Tryd.func24, Tryd.ntmps24
          go_wp2_with (first | (rw [← hwa, ← hp]; clear hwa hp; go_wp2_with fail))
          go_ret2
          exact ⟨by rw [HR.out]; rfl, hg0⟩
    · have HR : Sec (R = (numS at_ ++ txt r ++ txt o ++ txt n, 0)) := sec (by rw [HR1.out, if_neg h4])
      have t1 : ¬ (4096 : Int) < (r.length : Int) := by omega
      have t2 : ¬ (4096 : Int) < (o.length : Int) := by omega
      have t3 : ¬ (4096 : Int) < (n.length : Int) := by omega
      have l1 := txt_len r (by omega)
      have l2 := txt_len o (by omega)
      have l3 := txt_len n (by omega)
      obtain ⟨N, hN⟩ : ∃ x, x = numS at_ := ⟨_, rfl⟩
      rw [← hN] at hnl HN HR
      obtain ⟨x1, hx1⟩ : ∃ x, x = txt r := ⟨_, rfl⟩
      rw [← hx1] at l1 HT1 HR
      obtain ⟨x2, hx2⟩ : ∃ x, x = txt o := ⟨_, rfl⟩
      rw [← hx2] at l2 HT2 HR
      obtain ⟨x3, hx3⟩ : ∃ x, x = txt n := ⟨_, rfl⟩
      rw [← hx3] at l3 HT3 HR
      have k1 : ¬ 9223372036854775807 < N.length + x1.length := by omega
      have k2 : ¬ 9223372036854775807 < N.length + x1.length + x2.length := by omega
      have k3 : ¬ 9223372036854775807 < N.length + x1.length + x2.length + x3.length := by omega
      have k4 : ¬ 9223372036854775807 < N.length + (x1.length + x2.length) := by omega
      have k5 : ¬ 9223372036854775807 < N.length + (x1.length + x2.length) + x3.length := by omega
      have k6 : ¬ 9223372036854775807 < N.length + (x1.length + (x2.length + x3.length)) := by omega
      clear hN hx1 hx2 hx3 l1 l2 l3 hnl h4 hr HRR HR1
      go_enter Tryd.func24, Tryd.ntmps24
      go_wp2_with (first | (rw [← hwa, ← hp]; clear hwa hp; go_wp2_with fail))
      have HSK : Sec (∀ w', Gr wa w' → w'.cell? ⟨p, 0, none⟩ = some (.string (bs r)) ∧ w'.cell? ⟨p, 1, none⟩ = some (.string (bs o)) ∧ w'.cell? ⟨p, 2, none⟩ = some (.string (bs n)) ∧ Gr wa w') := sec (fun w' g => ⟨(HB.out.gr g).cell 0, (HB.out.gr g).cell 1, (HB.out.gr g).cell 2, g⟩)
      have gd : Gr wa wa.drew := (Gr.refl _).drew
      go_region_held3 (fun w' => w'.cell? ⟨p, 0, none⟩ = some (.string (bs r)) ∧ w'.cell? ⟨p, 1, none⟩ = some (.string (bs o)) ∧ w'.cell? ⟨p, 2, none⟩ = some (.string (bs n)) ∧ Gr wa w')
        (first | with_reducible assumption | with_reducible exact HSK.out _ gd | with_reducible exact HSK.out _ G1 | with_reducible exact HSK.out _ G2 | with_reducible exact HSK.out _ G3 | with_reducible exact HSK.out _ G4 | fail)
        (first
          | (go_at_call 48; (with_reducible refine Calls.mono (HN.out _) ?_); rintro e w1 ⟨rfl, g1⟩; have G1 : Gr wa w1 := Gr.trans gd g1)
          | (go_at_call 47; (with_reducible refine Calls.mono (HT1.out w1) ?_); rintro e w2 ⟨rfl, g2⟩; have G2 : Gr wa w2 := Gr.trans G1 g2)
          | (go_at_call 47; (with_reducible refine Calls.mono (HT2.out w2) ?_); rintro e w3 ⟨rfl, g3⟩; have G3 : Gr wa w3 := Gr.trans G2 g3)
          | (go_at_call 47; (with_reducible refine Calls.mono (HT3.out w3) ?_); rintro e w4 ⟨rfl, g4⟩; have G4 : Gr wa w4 := Gr.trans G3 g4)
          | fail)
      all_goals
        go_wp2_with fail
        go_ret2
        exact ⟨by rw [HR.out]; simp only [List.append_assoc]; rfl, hg0.trans G4⟩
end Go.Proofs.YtkgmimmneeppgaaDoor

namespace Go.Proofs.YtkgmimmneeppgaaDoor
open Go.RowKit
attribute [local go_sem] Oper.semAt_some
set_option maxRecDepth 100000
set_option linter.unusedVariables false
theorem idx_split (c : UInt8) : ∀ l : List UInt8, (Lib.indexByte l c = -1 ∧ ∀ x ∈ l, x ≠ c) ∨ ∃ x t, l = x ++ c :: t ∧ (∀ y ∈ x, y ≠ c) ∧ Lib.indexByte l c = (x.length : Int)
  | [] => .inl ⟨rfl, by simp⟩
  | b :: r => by
    by_cases hb : b = c
    · subst hb
      refine .inr ⟨[], r, rfl, by simp, ?_⟩
      unfold Lib.indexByte
      rw [if_pos (by simp)]; rfl
    · rcases idx_split c r with ⟨h1, h2⟩ | ⟨x, t, h1, h2, h3⟩
      · refine .inl ⟨?_, ?_⟩
        · unfold Lib.indexByte
          rw [if_neg (by simpa using hb), h1]; rfl
        · intro y hy
          rcases List.mem_cons.1 hy with rfl | hy
          · exact hb
          · exact h2 y hy
      · refine .inr ⟨b :: x, t, by rw [h1]; rfl, ?_, ?_⟩
        · intro y hy
          rcases List.mem_cons.1 hy with rfl | hy
          · exact hb
          · exact h2 y hy
        · unfold Lib.indexByte
          rw [if_neg (by simpa using hb), h3, if_neg (by rw [beq_iff_eq]; omega)]
          simp

set_option maxHeartbeats 1000000 in
theorem indexByte_any (s : List UInt8) (w : World) : Calls Tryd.prog 102 #[.string (bs s), .int .u8 47] w fun e w' => e = .returned (.int .i64 (Lib.indexByte s 47)) ∧ w = w' := by
  go_enter Tryd.func102, Tryd.ntmps102
  go_wp2
  rw [run_callFunc_extern Tryd.func106 (by kernel_rfl) (by kernel_rfl) (by kernel_rfl) (e := Extern.BytealgIndexByte.indexByte) (by kernel_rfl), Lib.run_indexByteString]
  simp only [Result.andThen]
  rw [Oper.upon_value]
  go_wp2
  go_ret
  exact ⟨by rw [bs_data]; rfl, rfl⟩
set_option maxHeartbeats 1000000 in
theorem slIndex_any (s : List UInt8) (w : World) : Calls Tryd.prog 101 #[.string (bs s), .string (bs [47])] w fun e w' => e = .returned (.int .i64 (Lib.indexByte s 47)) ∧ w = w' := by
  have HI := sec (indexByte_any s)
  by_cases h : s = [47]
  · subst h
    clear HI
    go_enter Tryd.func101, Tryd.ntmps101
    go_wp2
    go_ret
    exact ⟨rfl, rfl⟩
  · have q : (([47] : List UInt8) == s) = false := by rw [beq_eq_false_iff_ne]; exact fun e => h e.symm
    clear h
    go_enter Tryd.func101, Tryd.ntmps101
    go_wp2_with (go_at_call 102; refine Calls.mono (HI.out _) ?_; rintro e w' ⟨rfl, rfl⟩)
    all_goals (go_ret; exact ⟨rfl, rfl⟩)
set_option maxHeartbeats 1000000 in
theorem sIndex_any (s : List UInt8) (w : World) : Calls Tryd.prog 94 #[.string (bs s), .string (bs [47])] w fun e w' => e = .returned (.int .i64 (Lib.indexByte s 47)) ∧ w = w' := by
  have HI := sec (slIndex_any s)
  go_enter Tryd.func94, Tryd.ntmps94
  go_wp2_with (go_at_call 101; refine Calls.mono (HI.out _) ?_; rintro e w' ⟨rfl, rfl⟩)
  go_ret
  exact ⟨rfl, rfl⟩
end Go.Proofs.YtkgmimmneeppgaaDoor

namespace Go.Proofs.YtkgmimmneeppgaaDoor
open Go.RowKit
attribute [local go_sem] Oper.semAt_some
set_option maxRecDepth 100000
set_option linter.unusedVariables false
/-- the length of the string in a cell -/
def strLen (w : World) (a : Addr) : Nat := match w.cell? a with | some (.string b) => b.size | _ => 0
theorem strLen_of {w : World} {a : Addr} {l : List UInt8} (h : w.cell? a = some (.string (bs l))) : strLen w a = l.length := by
  unfold strLen; rw [h]; exact bs_size l
set_option maxHeartbeats 4000000 in
theorem splitIt_any (n l Bs Bp Bv n₀ : Nat) (J : List UInt8 → World → Prop) (Jx : World → Prop) (hJ : ∀ z W W', J z W → W.grownBy W' (some Bs) → J z W')
    (hY : ∀ x t W1, J (x ++ 47 :: t) W1 → (∀ c ∈ x, c ≠ 47) → x.length ≤ 1099511627776 → YieldAt Fence.wide (n - 1) Tryd.prog l #[.string (bs x)] W1 fun e W' =>
      (e = .returned (.bool true) ∧ J t W' ∧ Below n₀ W1 W') ∨ (e = .returned (.bool false) ∧ Jx W'))
    (hs : Bs < n₀) (hp : Bp < n₀) (hv : Bv < n₀) (hne1 : Bp ≠ Bs) (hne2 : Bv ≠ Bs) (s : List UInt8) (W : World)
    (hBs : Blk W Bs 9 #[.string (bs s)]) (hBp : Blk W Bp 9 #[.string (bs [47])]) (hBv : Blk W Bv 3 #[.int .i64 0]) (h0 : J (s ++ [47]) W) (hlen : s.length ≤ 1099511627776) :
    CallsIn Fence.wide n Tryd.prog 92 #[.func (.yield l) #[] #[], .pointer (some ⟨Bp, 0, none⟩), .pointer (some ⟨Bs, 0, none⟩), .pointer (some ⟨Bv, 0, none⟩)] W fun e W' =>
      (∃ v, e = .returned v) ∧ (J [] W' ∨ Jx W') := by
  have HI := sec sIndex_any
  have HJ := sec hJ
  have HY := sec hY
  clear hJ hY
  refine callsIn_of_wp Tryd.func92 rfl trivial ?_ rfl
  simp only [Tryd.ntmps92, List.size_toArray, List.length_cons, List.length_nil, Nat.reduceAdd, Nat.reduceSub, Array.replicate_succ, Array.replicate_zero, List.push_toArray, List.append_toArray, List.nil_append, List.cons_append]
  have p0 : W.cell? ⟨Bp, 0, none⟩ = some (.string (bs [47])) := hBp.cell 0
  gi_wp2
  gi_loopw [7, 8] (fun _ _ wr => ∃ r : List UInt8, Blk wr Bs 9 #[.string (bs r)] ∧ Blk wr Bp 9 #[.string (bs [47])] ∧ Blk wr Bv 3 #[.int .i64 0] ∧ J (r ++ [47]) wr ∧ r.length ≤ 1099511627776)
    (fun _ _ wr => strLen wr ⟨Bs, 0, none⟩)
  case atStart => exact ⟨s, hBs, hBp, hBv, h0, hlen⟩
  case round =>
    clear p0 hBs hBp hBv h0 hlen
    obtain ⟨r, bS, bP, bV, hJr, hlen⟩ := hrel
    have c0 : wr.cell? ⟨Bs, 0, none⟩ = some (.string (bs r)) := bS.cell 0
    have c1 : wr.cell? ⟨Bp, 0, none⟩ = some (.string (bs [47])) := bP.cell 0
    have c2 : wr.cell? ⟨Bv, 0, none⟩ = some (.int .i64 0) := bV.cell 0
    rcases idx_split 47 r with ⟨hi, hx⟩ | ⟨x, t, rfl, hx, hi⟩
    · have HII : Sec (∀ w, Calls Tryd.prog 94 #[.string (bs r), .string (bs [47])] w fun e w' => e = .returned (.int .i64 (-1)) ∧ w = w') := sec (fun w => by have := HI.out r w; rwa [hi] at this)
      obtain ⟨fn, tmps, assign, body, hy, hR⟩ := HY.out r [] wr hJr hx hlen
      have HR := sec hR
      clear hi hx hJr hR
      gi_wp2_with (refine ⟨trivial, fun h => absurd h (by decide), ?_⟩; refine CallsIn.mono (callsIn_wide.2 (HII.out _)) ?_; rintro e w' ⟨rfl, rfl⟩)
      refine ⟨fun h => absurd h (by decide), RoundIn.mono HR.out ?_⟩
      rintro e W3 (⟨rfl, hJ3, hk3⟩ | ⟨rfl, hJx3⟩)
      · gi_wp2
        go_end0
        exact ⟨⟨_, rfl⟩, .inl hJ3⟩
      · gi_wp2
        go_end0
        exact ⟨⟨_, rfl⟩, .inr hJx3⟩
    · obtain ⟨k, hk⟩ : ∃ k, k = x.length := ⟨_, rfl⟩
      rw [← hk] at hi
      have HII : Sec (∀ w, Calls Tryd.prog 94 #[.string (bs (x ++ 47 :: t)), .string (bs [47])] w fun e w' => e = .returned (.int .i64 (k : Int)) ∧ w = w') := sec (fun w => by have := HI.out (x ++ 47 :: t) w; rwa [hi] at this)
      have hxl : x.length ≤ 1099511627776 := by rw [List.length_append, List.length_cons] at hlen; omega
      have htl : t.length < (x ++ 47 :: t).length := by rw [List.length_append, List.length_cons]; omega
      have hkl : k + 1 ≤ (x ++ 47 :: t).length := by rw [List.length_append, List.length_cons]; omega
      have e2 : x ++ 47 :: t ++ [47] = x ++ 47 :: (t ++ [47]) := by simp
      rw [e2] at hJr
      obtain ⟨fn, tmps, assign, body, hy, hR⟩ := HY.out x (t ++ [47]) wr hJr hx hxl
      have hT : (x ++ 47 :: t).take k = x := by rw [hk]; simp
      have hD : (x ++ 47 :: t).drop (k + 1) = t := by
        rw [hk, List.drop_append]
        have e3 : x.length + 1 - x.length = 1 := by omega
        rw [e3, List.drop_eq_nil_of_le (by omega)]; rfl
      obtain ⟨rr, hrr⟩ : ∃ rr, rr = x ++ 47 :: t := ⟨_, rfl⟩
      rw [← hrr] at HII bS c0 hlen htl hkl hT hD
      rw [← hT] at hy
      have hk0 : (k : Int) ≤ (rr.length : Int) := by omega
      have hk1 : (k : Int) + 1 ≤ (rr.length : Int) := by omega
      have HR := sec hR
      have HD := sec hD
      have HTL := sec htl
      have c0S := sec c0
      clear hi hx hJr hR hk hT hD hrr e2 hxl htl
      gi_wp2_with (refine ⟨trivial, fun h => absurd h (by decide), ?_⟩; refine CallsIn.mono (callsIn_wide.2 (HII.out _)) ?_; rintro e w' ⟨rfl, rfl⟩)
      refine ⟨fun h => absurd h (by decide), RoundIn.mono HR.out ?_⟩
      rintro e W3 (⟨rfl, hJ3, hk3⟩ | ⟨rfl, hJx3⟩)
      · have bS3 := bS.below hk3 hs
        have bP3 := bP.below hk3 hp
        have bV3 := bV.below hk3 hv
        have d0 : W3.cell? ⟨Bs, 0, none⟩ = some (.string (bs rr)) := bS3.cell 0
        have d1 : W3.cell? ⟨Bp, 0, none⟩ = some (.string (bs [47])) := bP3.cell 0
        have d2 : W3.frozen? ⟨Bs, 0, none⟩ = false := bS3.frozen 0
        have hJ4 := HJ.out _ _ _ hJ3 (grown_setCell W3 ⟨Bs, 0, none⟩ (.string (bs t)))
        have bS4 := bS3.set_ 0 (.string (bs t))
        have bP4 := bP3.far (p := ⟨Bs, 0, none⟩) hne1 (.string (bs t))
        have bV4 := bV3.far (p := ⟨Bs, 0, none⟩) hne2 (.string (bs t))
        have HQ := sec (And.intro hJ4 (And.intro bS4 (And.intro bP4 bV4)))
        clear hJ3 hk3 bS3 bP3 bV3 hJ4 bS4 bP4 bV4 bS bP bV c0 c1 c2 hy
        gi_wp2
        rw [HD.out]
        go_roundw
        case rel =>
          obtain ⟨h1, h2, h3, h4⟩ := HQ.out
          exact ⟨t, h2, h3, h4, h1, by have := HTL.out; omega⟩
        case measure =>
          have h5 := HQ.out.2.1.cell 0
          have h6 := strLen_of (a := ⟨Bs, 0, none⟩) h5
          have h7 := strLen_of (a := ⟨Bs, 0, none⟩) c0S.out
          have h8 := HTL.out
          rw [h6, h7]
          omega
      · gi_wp2
        refine bodyPost_ret (results_none rfl _ _ _) rfl ?_
        exact ⟨⟨_, rfl⟩, .inr hJx3⟩

theorem enters_fn {f : FuncId} {fn : Func} {c : Code} (hf : Tryd.prog.funcs[f]? = some fn) (hname : (fn.name == "runtime.NumGoroutine") = false) (hb : fn.body = some c) : ∀ args w, (callFunc f args).run Tryd.prog w = .ok (.enter f args) w := by
  intro args w
  have h1 : fn.name ≠ "runtime.NumGoroutine" := by simpa using hname
  simp [callFunc, hf, h1, hb, mark]
/-- how the body of a round may be left: it goes on, and nothing old has turned; or it returns, and one block of the caller's has turned -/
def splitPost (B : Nat) (I Ix : World → Prop) (W : World) : Exit → Act → World → Prop
  | .normal, _, W' => Gr W W' ∧ I W'
  | .ret, _, W' => ∃ r, r < B ∧ W.grownBy W' (some r) ∧ Ix W'
  | _, _, _ => False

/-- 'for piece := range strings.SplitSeq(s, "/") { .. }' -/
theorem wpIn_rangeSplit {g : Operand} {ps : Array Tmp} {assign body : Code} {Q : Exit → Act → World → Prop} {a : Act} {w : World} {n Bs Bp Bv : Nat}
    (hg : a.eval g = .func (.func 92) #[] #[.pointer (some ⟨Bp, 0, none⟩), .pointer (some ⟨Bs, 0, none⟩), .pointer (some ⟨Bv, 0, none⟩)]) (hps : ps.size = 1)
    (s : List UInt8) (hBs : Blk w Bs 9 #[.string (bs s)]) (hBp : Blk w Bp 9 #[.string (bs [47])]) (hBv : Blk w Bv 3 #[.int .i64 0]) (hne1 : Bp ≠ Bs) (hne2 : Bv ≠ Bs) (hlen : s.length ≤ 1099511627776)
    (I : List UInt8 → World → Prop) (Ix : World → Prop)
    (hI : ∀ z W W' r, I z W → W.grownBy W' r → (∀ k, r = some k → k = Bs ∨ w.heap.size ≤ k) → I z W')
    (hIx : ∀ W W' r, Ix W → W.grownBy W' r → (∀ k, r = some k → w.heap.size ≤ k) → Ix W')
    (h0 : I (s ++ [47]) w) (a₁ : List UInt8 → Act)
    (hassign : ∀ (l : Nat) (x : List UInt8) (W : World) (K : Act → World → Prop), K (a₁ x) W →
      assign.wpIn (Fence.wide.inRound l) (n - 1 - 1) Tryd.prog (Exit.then K (fun _ _ _ => False)) { tmps := (ps.zip #[.string (bs x)]).foldl (fun t (p, v) => t.setIfInBounds p v) a.tmps, defers := [] } W)
    (hbody : ∀ (l : Nat) (x t : List UInt8) (W : World), I (x ++ 47 :: t) W → (∀ c ∈ x, c ≠ 47) → x.length ≤ 1099511627776 → body.wpIn (Fence.wide.inRound l) (n - 1 - 1) Tryd.prog (splitPost w.heap.size (I t) Ix W) (a₁ x) W)
    (hdone : ∀ (D : Nat) (W : World), w.heap.size ≤ D → I [] W → W.heap[D]? = some (.deferred (some [])) → Q .normal { a with defers := { target := .collected D, args := #[] } :: a.defers } W)
    (hstop : ∀ (D : Nat) (W : World), w.heap.size ≤ D → Ix W → W.heap[D]? = some (.deferred (some [])) → Code.ret.wpIn Fence.wide n Tryd.prog Q { a with defers := { target := .collected D, args := #[] } :: a.defers } W) :
    (Code.rangeFunc g ps assign body).wpIn Fence.wide n Tryd.prog Q a w := by
  refine wpIn_rangeFunc ?_
  intro fn hfn
  have hro : Fence.wide.round = none := rfl
  rw [hro]
  obtain ⟨rec, hrec⟩ : ∃ rec : LoopState → Option Code → Loop, rec = fun st pe => { state := st, pending := pe, fn, tmps := a.tmps, params := ps, assign, body, defers := w.heap.size } := ⟨_, rfl⟩
  obtain ⟨W1, hW1⟩ : ∃ W1, (w.alloc (.deferred (some []))).alloc (.loop (rec .ready none)) = W1 := ⟨_, rfl⟩
  have hL1 : W1.heap[w.heap.size + 1]? = some (.loop (rec .ready none)) := by
    rw [← hW1]; have := World.alloc_heap_new (w.alloc (.deferred (some []))) (.loop (rec .ready none)); rwa [World.size_alloc] at this
  have hK1 : W1.heap[w.heap.size]? = some (.deferred (some [])) := by
    rw [← hW1]; exact (Below.heap_alloc _ _ _ (by simp)).trans (World.alloc_heap_new w _)
  have g1 : Gr w W1 := by rw [← hW1]; exact ((Gr.refl w).alloc _).alloc _
  have hI1 : I (s ++ [47]) W1 := hI _ _ _ none h0 ⟨g1.below.os, g1.below.tape, g1.below.output, g1.below.size, fun k hk _ => g1.below.block k hk⟩ (fun k e => by cases e)
  refine ⟨w.heap.size + 1, [{ target := .collected w.heap.size, args := #[] }], W1, { target := .fn (.func 92) #[.pointer (some ⟨Bp, 0, none⟩), .pointer (some ⟨Bs, 0, none⟩), .pointer (some ⟨Bv, 0, none⟩)], args := #[.func (.yield (w.heap.size + 1)) #[] #[]] }, W1, 92,
    #[.func (.yield (w.heap.size + 1)) #[] #[]] ++ #[.pointer (some ⟨Bp, 0, none⟩), .pointer (some ⟨Bs, 0, none⟩), .pointer (some ⟨Bv, 0, none⟩)], W1, ?_, ?_, ?_, ?_, fun h => absurd h (by decide), ?_⟩
  · rw [← hW1, hrec]; exact run_enterLoop_outer _ _ _ _ _
  · simp only [resolve, hg]
    simp [go_sem]
  · intro f' hf'; trivial
  · have eg : ∀ args w, (callFunc 92 args).run Tryd.prog w = .ok (.enter 92 args) w := enters_fn Tryd.func92 (by kernel_rfl) rfl
    simp [invoke, go_sem, eg]
  · refine (splitIt_any (n - 1) (w.heap.size + 1) Bs Bp Bv w.heap.size
      (fun z W => I z W ∧ W.heap[w.heap.size + 1]? = some (.loop (rec .ready none)) ∧ W.heap[w.heap.size]? = some (.deferred (some [])))
      (fun W => Ix W ∧ W.heap[w.heap.size + 1]? = some (.loop (rec .done (some .ret))) ∧ W.heap[w.heap.size]? = some (.deferred (some [])))
      (fun z W W' h hg' => ⟨hI _ _ _ _ h.1 hg' (fun k e => .inl (by cases e; rfl)), (hg'.block _ (Array.getElem?_eq_some_iff.1 h.2.1).1 (fun e => by have := hBs.lt; injection e with e; omega)).trans h.2.1, (hg'.block _ (Array.getElem?_eq_some_iff.1 h.2.2).1 (fun e => by have := hBs.lt; injection e with e; omega)).trans h.2.2⟩)
      ?_ hBs.lt hBp.lt hBv.lt hne1 hne2 s W1 (hBs.gr g1) (hBp.gr g1) (hBv.gr g1) ⟨hI1, hL1, hK1⟩ hlen).mono ?_
    · rintro x t W ⟨hi, hl, hk⟩ hx hxl
      have hlt : w.heap.size + 1 < W.heap.size := (Array.getElem?_eq_some_iff.1 hl).1
      have hy := run_yield (P := Tryd.prog) (args := #[.string (bs x)]) hl (by rw [hrec]; exact hps.symm)
      rw [hrec] at hy
      refine ⟨fn, _, assign, body, hy, roundIn_of_wpIn hfn (hassign _ x W _ ⟨_, run_beginRound hl (by rw [hrec]), ?_⟩)⟩
      have hl2 : (W.putObj (w.heap.size + 1) (.loop { rec .ready none with state := .busy })).heap[w.heap.size + 1]? = some (.loop { rec .ready none with state := .busy }) := World.putObj_heap_same hlt
      have hk2 : (W.putObj (w.heap.size + 1) (.loop { rec .ready none with state := .busy })).heap[w.heap.size]? = some (.deferred (some [])) := (World.putObj_heap_other (by omega)).trans hk
      have hg2 := grownBy_putObj' W (w.heap.size + 1) (.loop { rec .ready none with state := .busy })
      refine wpIn_mono (hbody _ x t _ (hI _ _ _ _ hi hg2 (fun k e => .inr (by cases e; omega))) hx hxl) ?_
      rintro e a3 W3 hp
      cases e with
      | normal =>
        obtain ⟨g3, hi3⟩ := hp
        have hl3 := (g3.below.block _ (Array.getElem?_eq_some_iff.1 hl2).1).trans hl2
        have hk3 := (g3.below.block _ (Array.getElem?_eq_some_iff.1 hk2).1).trans hk2
        have hr := run_endRound (P := Tryd.prog) none hl3
        have hg3 := grownBy_putObj' W3 (w.heap.size + 1) (.loop (rec .ready none))
        rw [hrec] at hr
        refine ⟨_, _, hr, .inl ⟨rfl, ⟨hI _ _ _ _ hi3 (grownBy_putObj' W3 (w.heap.size + 1) _) (fun k e => .inr (by cases e; omega)), ?_, ?_⟩, ?_⟩⟩
        · rw [hrec]; exact World.putObj_heap_same (Array.getElem?_eq_some_iff.1 hl3).1
        · exact (World.putObj_heap_other (by omega)).trans hk3
        · have b2 : Below w.heap.size W (W.putObj (w.heap.size + 1) (.loop { rec .ready none with state := .busy })) := (Below.refl _ W).grown hg2 (by omega) (fun k e => by cases e; omega)
          have b3 : Below w.heap.size (W.putObj (w.heap.size + 1) (.loop { rec .ready none with state := .busy })) W3 := Below.mono g3 (Nat.le_trans (Nat.le_of_lt (Nat.lt_of_succ_lt hlt)) hg2.size)
          have b4 := (Below.refl w.heap.size W3).grown (grownBy_putObj' W3 (w.heap.size + 1) (.loop (rec .ready none))) (by have := (Array.getElem?_eq_some_iff.1 hl3).1; omega) (fun k e => by cases e; omega)
          rw [hrec] at b4
          exact (b2.trans b3).trans b4
      | ret =>
        obtain ⟨r, hr0, g3, hi3⟩ := hp
        have hl3 := (g3.block _ (Array.getElem?_eq_some_iff.1 hl2).1 (fun e => by injection e with e; omega)).trans hl2
        have hk3 := (g3.block _ (Array.getElem?_eq_some_iff.1 hk2).1 (fun e => by injection e with e; omega)).trans hk2
        have hr := run_endRound (P := Tryd.prog) (some .ret) hl3
        rw [hrec] at hr
        refine ⟨_, _, hr, .inr ⟨rfl, hIx _ _ _ hi3 (grownBy_putObj' W3 (w.heap.size + 1) _) (fun k e => by cases e; omega), ?_, ?_⟩⟩
        · rw [hrec]; exact World.putObj_heap_same (Array.getElem?_eq_some_iff.1 hl3).1
        · exact (World.putObj_heap_other (by omega)).trans hk3
      | exit id => exact hp.elim
      | goto t => exact hp.elim
      | panic ch => exact hp.elim
      | outgrown => exact hp.elim
    · rintro e W2 ⟨⟨v, rfl⟩, (⟨hi, hl, hk⟩ | ⟨hi, hl, hk⟩)⟩
      · exact ⟨none, _, by have := run_endLoop (P := Tryd.prog) hl (by rw [hrec]; simp); rw [hrec] at this; exact this, hdone _ _ (Nat.le_refl _) (hI _ _ _ _ hi (grownBy_putObj' W2 (w.heap.size + 1) _) (fun k e => .inr (by cases e; omega))) ((World.putObj_heap_other (by omega)).trans hk)⟩
      · exact ⟨some .ret, _, by have := run_endLoop (P := Tryd.prog) hl (by rw [hrec]; simp); rw [hrec] at this; exact this, hstop _ _ (Nat.le_refl _) (hIx _ _ _ hi (grownBy_putObj' W2 (w.heap.size + 1) _) (fun k e => by cases e; omega)) ((World.putObj_heap_other (by omega)).trans hk)⟩
end Go.Proofs.YtkgmimmneeppgaaDoor

namespace Go.Proofs.YtkgmimmneeppgaaDoor
open Go.RowKit
attribute [local go_sem] Oper.semAt_some
set_option maxRecDepth 100000
set_option linter.unusedVariables false
/-- the cases of a byte in a piece -/
theorem refc_cases (n : Nat) : (97 ≤ n ∧ n ≤ 122) ∨ (97 ≤ n ∧ ¬ n ≤ 122) ∨ (¬ 97 ≤ n ∧ 48 ≤ n ∧ n ≤ 57) ∨ (¬ 97 ≤ n ∧ 48 ≤ n ∧ ¬ n ≤ 57 ∧ n = 95) ∨ (¬ 97 ≤ n ∧ 48 ≤ n ∧ ¬ n ≤ 57 ∧ n ≠ 95) ∨ (¬ 97 ≤ n ∧ ¬ 48 ≤ n ∧ n = 45) ∨ (¬ 97 ≤ n ∧ ¬ 48 ≤ n ∧ n ≠ 45) := by omega
set_option maxHeartbeats 2000000 in
theorem notref_any : Asks 74 (fun n => !refC n) := by
  intro R w hR
  show Calls Tryd.prog 74 #[.int .i32 (R : Int)] w fun e w' => e = .returned (.bool (!refC R)) ∧ Gr w w'
  rcases refc_cases R with ⟨h1, h2⟩ | ⟨h1, h2⟩ | ⟨h1, h2, h3⟩ | ⟨h1, h2, h3, h4⟩ | ⟨h1, h2, h3, h4⟩ | ⟨h1, h2, h3⟩ | ⟨h1, h2, h3⟩
  · have HX : Sec (refC R = true) := sec (by simp [refC, h1, h2])
    have q1 : ¬ (R : Int) < 97 := by omega
    have q2 : ¬ (122 : Int) < (R : Int) := by omega
    clear h1 h2
    rw [HX.out]
    go_enter Tryd.func74, Tryd.ntmps74
    go_wp2_with fail
    go_ret
    exact ⟨rfl, Gr.refl _⟩
  · have HX : Sec (refC R = false) := sec (by simp [refC]; omega)
    have q1 : ¬ (R : Int) < 97 := by omega
    have q2 : (122 : Int) < (R : Int) := by omega
    have q3 : ¬ (R : Int) < 48 := by omega
    have q4 : (57 : Int) < (R : Int) := by omega
    have q5 : ((R : Int) == 45) = false := by rw [beq_eq_false_iff_ne]; omega
    have q6 : ((R : Int) == 95) = false := by rw [beq_eq_false_iff_ne]; omega
    have q7 : ((R : Int) != 45) = true := by rw [bne_iff_ne]; omega
    have q8 : ((R : Int) != 95) = true := by rw [bne_iff_ne]; omega
    clear h1 h2
    rw [HX.out]
    go_enter Tryd.func74, Tryd.ntmps74
    go_wp2_with fail
    go_ret
    exact ⟨rfl, Gr.refl _⟩
  · have HX : Sec (refC R = true) := sec (by simp [refC, h2, h3])
    have q1 : (R : Int) < 97 := by omega
    have q3 : ¬ (R : Int) < 48 := by omega
    have q4 : ¬ (57 : Int) < (R : Int) := by omega
    clear h1 h2 h3
    rw [HX.out]
    go_enter Tryd.func74, Tryd.ntmps74
    go_wp2_with fail
    go_ret
    exact ⟨rfl, Gr.refl _⟩
  · subst h4
    have HX : Sec (refC 95 = true) := sec (by decide)
    rw [HX.out]
    go_enter Tryd.func74, Tryd.ntmps74
    go_wp2_with fail
    go_ret
    exact ⟨rfl, Gr.refl _⟩
  · have HX : Sec (refC R = false) := sec (by simp [refC]; omega)
    have q1 : (R : Int) < 97 := by omega
    have q3 : ¬ (R : Int) < 48 := by omega
    have q4 : (57 : Int) < (R : Int) := by omega
    have q5 : ((R : Int) == 45) = false := by rw [beq_eq_false_iff_ne]; omega
    have q6 : ((R : Int) == 95) = false := by rw [beq_eq_false_iff_ne]; omega
    have q7 : ((R : Int) != 45) = true := by rw [bne_iff_ne]; omega
    have q8 : ((R : Int) != 95) = true := by rw [bne_iff_ne]; omega
    clear h1 h2 h3 h4
    rw [HX.out]
    go_enter Tryd.func74, Tryd.ntmps74
    go_wp2_with fail
    go_ret
    exact ⟨rfl, Gr.refl _⟩
  · subst h3
    have HX : Sec (refC 45 = true) := sec (by decide)
    rw [HX.out]
    go_enter Tryd.func74, Tryd.ntmps74
    go_wp2_with fail
    go_ret
    exact ⟨rfl, Gr.refl _⟩
  · have HX : Sec (refC R = false) := sec (by simp [refC]; omega)
    have q1 : (R : Int) < 97 := by omega
    have q3 : (R : Int) < 48 := by omega
    have q5 : ((R : Int) == 45) = false := by rw [beq_eq_false_iff_ne]; omega
    have q6 : ((R : Int) == 95) = false := by rw [beq_eq_false_iff_ne]; omega
    have q7 : ((R : Int) != 45) = true := by rw [bne_iff_ne]; omega
    have q8 : ((R : Int) != 95) = true := by rw [bne_iff_ne]; omega
    clear h1 h2 h3
    rw [HX.out]
    go_enter Tryd.func74, Tryd.ntmps74
    go_wp2_with fail
    go_ret
    exact ⟨rfl, Gr.refl _⟩

set_option maxHeartbeats 1000000 in
theorem splitSeq_any (s : List UInt8) (w : World) : Calls Tryd.prog 87 #[.string (bs s), .string (bs [47]), .int .i64 0] w fun e w' =>
    e = .returned (.func (.func 92) #[] #[.pointer (some ⟨w.heap.size + 1, 0, none⟩), .pointer (some ⟨w.heap.size, 0, none⟩), .pointer (some ⟨w.heap.size + 1 + 1, 0, none⟩)]) ∧
    w' = ((w.alloc (.cells #[.string (bs s)] 9)).alloc (.cells #[.string (bs [47])] 9)).alloc (.cells #[.int .i64 0] 3) := by
  go_enter Tryd.func87, Tryd.ntmps87
  go_wp2_with fail
  go_ret
  exact ⟨rfl, rfl⟩
set_option maxHeartbeats 1000000 in
theorem splitSeqF_any (s : List UInt8) (w : World) : Calls Tryd.prog 73 #[.string (bs s), .string (bs [47])] w fun e w' =>
    e = .returned (.func (.func 92) #[] #[.pointer (some ⟨w.heap.size + 1, 0, none⟩), .pointer (some ⟨w.heap.size, 0, none⟩), .pointer (some ⟨w.heap.size + 1 + 1, 0, none⟩)]) ∧
    w' = ((w.alloc (.cells #[.string (bs s)] 9)).alloc (.cells #[.string (bs [47])] 9)).alloc (.cells #[.int .i64 0] 3) := by
  have H := sec (splitSeq_any s)
  go_enter Tryd.func73, Tryd.ntmps73
  go_wp2_with (go_at_call 87; refine Calls.mono (H.out _) ?_; rintro e w1 ⟨rfl, rfl⟩)
  go_ret
  exact ⟨rfl, rfl⟩

theorem gr_then_set {W W1 : World} (g : Gr W W1) (b : Nat) (u : Value) : W.grownBy (W1.setCell ⟨b, 0, none⟩ u) (some b) := by
  have k := grown_setCell W1 ⟨b, 0, none⟩ u
  exact ⟨k.os.trans g.below.os, k.tape.trans g.below.tape, k.output.trans g.below.output, Nat.le_trans g.below.size k.size, fun i hi hne => (k.block i (Nat.lt_of_lt_of_le hi g.below.size) hne).trans (g.below.block i hi)⟩
set_option maxHeartbeats 4000000 in
theorem refNamed_any (s : List UInt8) (w : World) (hs : s.length ≤ 1099511627776) :
    Calls Tryd.prog 49 #[.string (bs s)] w fun e w' => e = .returned (.bool (refB s)) ∧ Gr w w' := by
  have HC := sec (fun (x : List UInt8) (hx : x.length ≤ 1099511627776) w => containsFunc_any 74 _ notref_any (fun R h => by simp [refC]; omega) (enters_fn Tryd.func74 (by kernel_rfl) rfl) x w (by omega))
  have HS := sec (splitSeqF_any s)
  refine (callsIn_wide (n := 3)).1 ?_
  refine callsIn_of_wp_marks Tryd.func49 rfl trivial ?_ rfl
  simp only [Tryd.ntmps49, List.size_toArray, List.length_cons, List.length_nil, Nat.reduceAdd, Nat.reduceSub, Array.replicate_succ, Array.replicate_zero, List.push_toArray, List.append_toArray, List.nil_append, List.cons_append]
  by_cases h60 : s.length ≤ 60
  · have q60 : ¬ (60 : Int) < (s.length : Int) := by omega
    gi_wp2_with (refine ⟨trivial, ?_⟩; refine CallsIn.mono (callsIn_wide.2 (HS.out _)) ?_; rintro e w1 ⟨rfl, rfl⟩)
    obtain ⟨wl, hwl⟩ : ∃ x, x = (((w.alloc (.cells #[.bool false] 4)).alloc (.cells #[.string (bs s)] 9)).alloc (.cells #[.string (bs [47])] 9)).alloc (.cells #[.int .i64 0] 3) := ⟨_, rfl⟩
    have b0 : Blk wl w.heap.size 4 #[.bool false] := by rw [hwl]; exact (((Blk.new w _ _).alloc _).alloc _).alloc _
    have b1 : Blk wl (w.heap.size + 1) 9 #[.string (bs s)] := by rw [hwl]; exact ((Blk.new1 w _ _ _).alloc _).alloc _
    have b2 : Blk wl (w.heap.size + 1 + 1) 9 #[.string (bs [47])] := by
      rw [hwl]
      have := Blk.new ((w.alloc (.cells #[.bool false] 4)).alloc (.cells #[.string (bs s)] 9)) 9 #[.string (bs [47])]
      rw [World.size_alloc, World.size_alloc] at this
      exact this.alloc _
    have b3 : Blk wl (w.heap.size + 1 + 1 + 1) 3 #[.int .i64 0] := by
      rw [hwl]
      have := Blk.new (((w.alloc (.cells #[.bool false] 4)).alloc (.cells #[.string (bs s)] 9)).alloc (.cells #[.string (bs [47])] 9)) 3 #[.int .i64 0]
      rwa [World.size_alloc, World.size_alloc, World.size_alloc] at this
    have g0 : Gr w wl := by rw [hwl]; exact ((((Gr.refl w).alloc _).alloc _).alloc _).alloc _
    rw [← hwl]
    clear hwl
    have hwz : w.heap.size < wl.heap.size := b0.lt
    refine wpIn_rangeSplit (n := 3) (Bs := w.heap.size + 1) (Bp := w.heap.size + 1 + 1) (Bv := w.heap.size + 1 + 1 + 1) rfl rfl s b1 b2 b3 (by omega) (by omega) hs
      (fun z W => rnGo 0 (s ++ [47]) = rnGo 0 z ∧ Blk W w.heap.size 4 #[.bool false] ∧ Gr w W)
      (fun W => rnGo 0 (s ++ [47]) = false ∧ Blk W w.heap.size 4 #[.bool false] ∧ Gr w W)
      (fun z W W' r h hg hr => ⟨h.1, h.2.1.grown hg (fun e => by have := hr _ e.symm; omega), h.2.2.grown hg (fun k e => by have := hr _ e; omega)⟩)
      (fun W W' r h hg hr => ⟨h.1, h.2.1.grown hg (fun e => by have := hr _ e.symm; omega), h.2.2.grown hg (fun k e => by have := hr _ e; omega)⟩)
      ⟨rfl, b0, g0⟩
      (fun x => { tmps := #[.string (bs s), undef, .pointer (some ⟨w.heap.size, 0, none⟩), .string (bs x), undef, .string (bs s), .int .i64 (s.length : Int), .bool false, .string (bs s), .func (.func 92) #[] #[.pointer (some ⟨w.heap.size + 1 + 1, 0, none⟩), .pointer (some ⟨w.heap.size + 1, 0, none⟩), .pointer (some ⟨w.heap.size + 1 + 1 + 1, 0, none⟩)], .string (bs x), undef, undef, undef, undef, undef, undef, undef], defers := [] }) ?assign ?body ?done ?stop
    case assign =>
      intro l x W K hK
      gi_wp2
      exact hK
    case body =>
      rintro l x t W ⟨hz, hb, hg⟩ hx hxl
      have hh := rn_here (t := t) hx
      rw [← hz] at hh
      have HCx := sec (HC.out x hxl)
      have HH := sec hh
      have HB := sec hb
      have HX0 : Sec (x.any (fun c => !refC c.toNat) = false → x ≠ [] → rnGo 0 (s ++ [47]) = rnGo 0 t) := sec (fun h1 h2 => by
        rw [HH.out]
        have h3 : x.all (fun c => refC c.toNat) = true := by rw [any_notref] at h1; simpa using h1
        rw [h3]
        cases x with
        | nil => exact absurd rfl h2
        | cons c r => rfl)
      have HX1 : Sec (x.any (fun c => !refC c.toNat) = true → rnGo 0 (s ++ [47]) = false) := sec (fun h1 => by
        rw [HH.out, rn_bad h1]; simp)
      have HX2 : Sec (x = [] → rnGo 0 (s ++ [47]) = false) := sec (fun h1 => by rw [HH.out, h1]; rfl)
      have c0 : W.cell? ⟨w.heap.size, 0, none⟩ = some (.bool false) := hb.cell 0
      have f0 : W.frozen? ⟨w.heap.size, 0, none⟩ = false := hb.frozen 0
      clear hh hz hx b0 b1 b2 b3 hb HS HC
      obtain ⟨b, hbx⟩ : ∃ b, b = x.any (fun c => !refC c.toNat) := ⟨_, rfl⟩
      rw [← hbx] at HCx HX0 HX1
      by_cases hx0 : x = []
      · have HF := sec (HX2.out hx0)
        subst hx0
        clear HX0 HX1 HX2 hbx
        gi_wp2
        refine ⟨trivial, ?_⟩
        gi_wp2
        exact ⟨w.heap.size, hwz, grown_setCell _ _ _, HF.out, HB.out.set_ 0 _, hg.setCell (p := ⟨w.heap.size, 0, none⟩) (Nat.le_refl _) _⟩
      · have hne : (x == []) = false := by rw [beq_eq_false_iff_ne]; exact hx0
        have HNE := sec hx0
        clear hbx hx0
        cases b
        · have HF := sec (HX0.out rfl HNE.out)
          clear HX0 HX1 HX2
          gi_wp2_with (refine ⟨trivial, ?_⟩; refine CallsIn.mono (CallsIn.inRound l (callsIn_wide.2 (HCx.out _))) ?_; rintro e w1 ⟨rfl, g1⟩)
          exact ⟨g1, HF.out, HB.out.gr g1, hg.trans g1⟩
        · have HF := sec (HX1.out rfl)
          clear HX0 HX1 HX2
          gi_wp2_with (refine ⟨trivial, ?_⟩; refine CallsIn.mono (CallsIn.inRound l (callsIn_wide.2 (HCx.out _))) ?_; rintro e w1 ⟨rfl, g1⟩; have c1 : w1.cell? ⟨w.heap.size, 0, none⟩ = some (.bool false) := (HB.out.gr g1).cell 0; have f1 : w1.frozen? ⟨w.heap.size, 0, none⟩ = false := (HB.out.gr g1).frozen 0)
          exact ⟨w.heap.size, hwz, gr_then_set g1 _ _, HF.out, (HB.out.gr g1).set_ 0 _, (hg.trans g1).setCell (p := ⟨w.heap.size, 0, none⟩) (Nat.le_refl _) _⟩
    case done =>
      rintro D W hD ⟨hz, hb, hg⟩ hK
      have c0 : W.cell? ⟨w.heap.size, 0, none⟩ = some (.bool false) := hb.cell 0
      have f0 : W.frozen? ⟨w.heap.size, 0, none⟩ = false := hb.frozen 0
      have HF : Sec (refB s = true) := sec (by unfold refB; rw [hz, decide_eq_true h60]; rfl)
      have HB := sec hb
      clear hz hb HC HS b0 b1 b2 b3
      gi_wp2
      have hDl := (Array.getElem?_eq_some_iff.1 hK).1
      have hK' : (W.setCell ⟨w.heap.size, 0, none⟩ (.bool true)).heap[D]? = some (.deferred (some [])) := (Below.heap_setCell W ⟨w.heap.size, 0, none⟩ (.bool true) D (by show D ≠ w.heap.size; omega)).trans hK
      have hBx := (HB.out.set_ 0 (.bool true)).grown (grownBy_putObj' _ D (.deferred none)) (fun e => by injection e with e; omega)
      have hc5 : World.cell? ((W.setCell ⟨w.heap.size, 0, none⟩ (.bool true)).putObj D (.deferred none)) ⟨w.heap.size, 0, none⟩ = some (.bool true) := hBx.cell 0
      have hG := (hg.setCell (p := ⟨w.heap.size, 0, none⟩) (Nat.le_refl _) (.bool true)).grown (grownBy_putObj' _ D (.deferred none)) (fun k e => by cases e; omega)
      refine ⟨by simp, .inl ⟨_, _, rfl, run_takeDeferred hK', ?_⟩⟩
      refine ⟨.bool true, ?_, by rw [HF.out], hG⟩
      simp [results, Tryd.f49, go_sem, hc5]
    case stop =>
      rintro D W hD ⟨hz, hb, hg⟩ hK
      have HF : Sec (refB s = false) := sec (by unfold refB; rw [hz]; rfl)
      gi_wp2
      have hBx := hb.grown (grownBy_putObj' W D (.deferred none)) (fun e => by injection e with e; omega)
      have hc5 : World.cell? (W.putObj D (.deferred none)) ⟨w.heap.size, 0, none⟩ = some (.bool false) := hBx.cell 0
      have hG := hg.grown (grownBy_putObj' W D (.deferred none)) (fun k e => by cases e; omega)
      refine ⟨by simp, .inl ⟨_, _, rfl, run_takeDeferred hK, ?_⟩⟩
      refine ⟨.bool false, ?_, by rw [HF.out], hG⟩
      simp [results, Tryd.f49, go_sem, hc5]
  · have q60 : (60 : Int) < (s.length : Int) := by omega
    have HF : Sec (refB s = false) := sec (by unfold refB; rw [decide_eq_false h60]; simp)
    have hB := Blk.new w 4 #[.bool false]
    have hc5 : (w.alloc (.cells #[.bool false] 4)).cell? ⟨w.heap.size, 0, none⟩ = some (.bool false) := hB.cell 0
    gi_wp2_with fail
    refine ⟨.bool false, ?_, by rw [HF.out], (Gr.refl w).alloc _⟩
    simp [results, Tryd.f49, go_sem, hc5]
end Go.Proofs.YtkgmimmneeppgaaDoor

namespace Go.Proofs.YtkgmimmneeppgaaDoor
set_option maxRecDepth 100000
open Go.RowKit
set_option linter.unusedVariables false
set_option maxHeartbeats 8000000 in
theorem stGood_any (s : Stp) (A : Option Addr) (c : Nat) (B : Option Addr) (d : Nat) (w : World) (hR : StR w s A c B d) (hz : StSz 1099511627776 s) :
    Calls Tryd.prog 25 #[.agg (stepA s A c B d)] w fun e w' => e = .returned (.int .i64 (stE s)) ∧ Gr w w' := by
  have HNa := sec (fun w => refNamed_any s.r w hz.r)
  obtain ⟨wa, hwa⟩ : ∃ x, x = w.alloc (.cells (stepA s A c B d) 46) := ⟨_, rfl⟩
  have hb : Blk wa w.heap.size 46 (stepA s A c B d) := by rw [hwa]; exact Blk.new w _ _
  have hg0 : Gr w wa := by rw [hwa]; exact (Gr.refl w).alloc _
  obtain ⟨p, hp⟩ : ∃ p, p = w.heap.size := ⟨_, rfl⟩
  rw [← hp] at hb
  have HW := sec (hR.who.gr hg0)
  have HS := sec (hR.seals.gr hg0)
  have hwl := hz.who
  have hsl := hz.seals
  obtain ⟨V, hV⟩ : ∃ V : Int, V = stE s := ⟨_, rfl⟩
  rw [← hV]
  have HV := sec hV
  obtain ⟨r, o, n, who, seals⟩ := s
  simp only at HNa hwl hsl HW HS
  unfold stepA at hb hwa
  unfold stepA
  simp only at hb hwa ⊢
  have HCELL : Sec (∀ w', Gr wa w' → w'.cell? ⟨p, 0, none⟩ = some (.string (bs r)) ∧ w'.cell? ⟨p, 1, none⟩ = some (.string (bs o)) ∧ w'.cell? ⟨p, 2, none⟩ = some (.string (bs n)) ∧ w'.cell? ⟨p, 3, none⟩ = some (.slice A who.length c) ∧ w'.cell? ⟨p, 4, none⟩ = some (.slice B seals.length d)) := sec (fun w' g => ⟨(hb.gr g).cell 0, (hb.gr g).cell 1, (hb.gr g).cell 2, (hb.gr g).cell 3, (hb.gr g).cell 4⟩)
  clear hb hV hR hz
  obtain ⟨ok, hok⟩ : ∃ ok : Bool, ok = stB ⟨r, o, n, who, seals⟩ := ⟨_, rfl⟩
  have HOK := sec hok
  clear hok
  go_enter Tryd.func25, Tryd.ntmps25
  go_upto_region 1 with fail
  rw [← hwa, ← hp]
  clear hwa hp
  obtain ⟨c0, c1, c2, c3, c4⟩ := HCELL.out wa (Gr.refl _)
  go_cut [39] from 5 to 39 (fun v39 wc => v39 = .bool (!ok) ∧ Gr wa wc)
  case first =>
    obtain ⟨rb, hrb⟩ : ∃ b, b = refB r := ⟨_, rfl⟩
    rw [← hrb] at HNa
    have hok : ok = (rb && (mayB o && (mayB n && !(o == n)))) := by rw [HOK.out, hrb]; rfl
    clear hrb
    cases rb
    · have HX : Sec (ok = false) := sec (by rw [hok]; rfl)
      clear hok
      go_wp2_with (go_at_call 49; refine Calls.mono (HNa.out _) ?_; rintro e w1 ⟨rfl, g1⟩; obtain ⟨d0, d1, d2, d3, d4⟩ := HCELL.out w1 g1)
      go_meet
      exact ⟨by rw [HX.out]; rfl, g1⟩
    · rcases may_cases o with ⟨a1, a2⟩ | ⟨a1, a2, a3⟩ | ⟨a1, a2, a3⟩
      · rw [a2] at hok
        clear a2
        rcases may_cases n with ⟨b1, b2⟩ | ⟨b1, b2, b3⟩ | ⟨b1, b2, b3⟩
        · rw [b2] at hok
          clear b2
          cases heq : (o == n)
          · have HX : Sec (ok = true) := sec (by rw [hok, heq]; rfl)
            clear hok
            go_wp2_with (go_at_call 49; refine Calls.mono (HNa.out _) ?_; rintro e w1 ⟨rfl, g1⟩; obtain ⟨d0, d1, d2, d3, d4⟩ := HCELL.out w1 g1)
            go_meet
            exact ⟨by rw [HX.out]; rfl, g1⟩
          · have HX : Sec (ok = false) := sec (by rw [hok, heq]; rfl)
            clear hok
            go_wp2_with (go_at_call 49; refine Calls.mono (HNa.out _) ?_; rintro e w1 ⟨rfl, g1⟩; obtain ⟨d0, d1, d2, d3, d4⟩ := HCELL.out w1 g1)
            go_meet
            exact ⟨by rw [HX.out]; rfl, g1⟩
        · rw [b3] at hok
          clear b3
          cases heq : (o == n)
          · have HX : Sec (ok = true) := sec (by rw [hok, heq]; rfl)
            clear hok
            go_wp2_with (go_at_call 49; refine Calls.mono (HNa.out _) ?_; rintro e w1 ⟨rfl, g1⟩; obtain ⟨d0, d1, d2, d3, d4⟩ := HCELL.out w1 g1)
            go_meet
            exact ⟨by rw [HX.out]; rfl, g1⟩
          · have HX : Sec (ok = false) := sec (by rw [hok, heq]; rfl)
            clear hok
            go_wp2_with (go_at_call 49; refine Calls.mono (HNa.out _) ?_; rintro e w1 ⟨rfl, g1⟩; obtain ⟨d0, d1, d2, d3, d4⟩ := HCELL.out w1 g1)
            go_meet
            exact ⟨by rw [HX.out]; rfl, g1⟩
        · have HX : Sec (ok = false) := sec (by rw [hok, b3]; simp)
          clear hok b3
          go_wp2_with (go_at_call 49; refine Calls.mono (HNa.out _) ?_; rintro e w1 ⟨rfl, g1⟩; obtain ⟨d0, d1, d2, d3, d4⟩ := HCELL.out w1 g1)
          go_meet
          exact ⟨by rw [HX.out]; rfl, g1⟩
      · rw [a3] at hok
        clear a3
        rcases may_cases n with ⟨b1, b2⟩ | ⟨b1, b2, b3⟩ | ⟨b1, b2, b3⟩
        · rw [b2] at hok
          clear b2
          cases heq : (o == n)
          · have HX : Sec (ok = true) := sec (by rw [hok, heq]; rfl)
            clear hok
            go_wp2_with (go_at_call 49; refine Calls.mono (HNa.out _) ?_; rintro e w1 ⟨rfl, g1⟩; obtain ⟨d0, d1, d2, d3, d4⟩ := HCELL.out w1 g1)
            go_meet
            exact ⟨by rw [HX.out]; rfl, g1⟩
          · have HX : Sec (ok = false) := sec (by rw [hok, heq]; rfl)
            clear hok
            go_wp2_with (go_at_call 49; refine Calls.mono (HNa.out _) ?_; rintro e w1 ⟨rfl, g1⟩; obtain ⟨d0, d1, d2, d3, d4⟩ := HCELL.out w1 g1)
            go_meet
            exact ⟨by rw [HX.out]; rfl, g1⟩
        · rw [b3] at hok
          clear b3
          cases heq : (o == n)
          · have HX : Sec (ok = true) := sec (by rw [hok, heq]; rfl)
            clear hok
            go_wp2_with (go_at_call 49; refine Calls.mono (HNa.out _) ?_; rintro e w1 ⟨rfl, g1⟩; obtain ⟨d0, d1, d2, d3, d4⟩ := HCELL.out w1 g1)
            go_meet
            exact ⟨by rw [HX.out]; rfl, g1⟩
          · have HX : Sec (ok = false) := sec (by rw [hok, heq]; rfl)
            clear hok
            go_wp2_with (go_at_call 49; refine Calls.mono (HNa.out _) ?_; rintro e w1 ⟨rfl, g1⟩; obtain ⟨d0, d1, d2, d3, d4⟩ := HCELL.out w1 g1)
            go_meet
            exact ⟨by rw [HX.out]; rfl, g1⟩
        · have HX : Sec (ok = false) := sec (by rw [hok, b3]; simp)
          clear hok b3
          go_wp2_with (go_at_call 49; refine Calls.mono (HNa.out _) ?_; rintro e w1 ⟨rfl, g1⟩; obtain ⟨d0, d1, d2, d3, d4⟩ := HCELL.out w1 g1)
          go_meet
          exact ⟨by rw [HX.out]; rfl, g1⟩
      · have HX : Sec (ok = false) := sec (by rw [hok, a3]; simp)
        clear hok a3
        go_wp2_with (go_at_call 49; refine Calls.mono (HNa.out _) ?_; rintro e w1 ⟨rfl, g1⟩; obtain ⟨d0, d1, d2, d3, d4⟩ := HCELL.out w1 g1)
        go_meet
        exact ⟨by rw [HX.out]; rfl, g1⟩
  case rest =>
    obtain ⟨rfl, gc⟩ := hcut
    clear c0 c1 c2 c3 c4
    obtain ⟨c0, c1, c2, c3, c4⟩ := HCELL.out wc gc
    cases ok
    · have HV2 : Sec (V = 2) := sec (by rw [HV.out]; unfold stE; rw [← HOK.out]; rfl)
      go_wp2_with fail
      go_ret
      exact ⟨by rw [HV2.out]; rfl, hg0.trans gc⟩
    · have HV1 : Sec (V = if 8 < who.length ∨ ¬ seals.length = who.length then 6 else stF (-1) who seals) := sec (by rw [HV.out]; unfold stE; rw [← HOK.out]; rfl)
      by_cases h8 : 8 < who.length
      · have q8 : (8 : Int) < (who.length : Int) := by omega
        have HV6 : Sec (V = 6) := sec (by rw [HV1.out, if_pos (Or.inl h8)])
        clear h8
        go_wp2_with fail
        go_ret
        exact ⟨by rw [HV6.out]; rfl, hg0.trans gc⟩
      · have q8 : ¬ (8 : Int) < (who.length : Int) := by omega
        by_cases hne : seals.length = who.length
        · have HLEN := sec hne
          have HV0 : Sec (V = stF (-1) who seals) := sec (by rw [HV1.out, if_neg (by omega)])
          have qne : ((who.length : Int) != (seals.length : Int)) = false := by rw [bne_eq_false_iff_eq]; omega
          clear hne h8
          go_wp2_with fail
          clear c0 c1 c2 c3 c4 qne
          go_loopg [56, 3, 4] who.length (fun fuel iv _ _ wr => ∃ (i : Nat) (last : Int), iv = .int .i64 (i : Int) ∧ who.length ≤ i + fuel ∧ i ≤ who.length ∧ Sec (stSeen ⟨r, o, n, who, seals⟩ i last) ∧ Gr wa wr)
          case atStart => exact ⟨0, -1, rfl, by omega, by omega, sec (stSeen0 _), gc⟩
          case round =>
            obtain ⟨i, last, rfl, hik, hi, HST, hg⟩ := hrel
            by_cases hlt : i < who.length
            · have hss : i < seals.length := by have := HLEN.out; omega
              have hii : (i : Int) < (who.length : Int) := by omega
              have hjj : (i : Int) < (seals.length : Int) := by omega
              obtain ⟨b, off, rfl, e0⟩ := (HW.out.gr hg).cell hlt
              obtain ⟨b2, off2, rfl, x0⟩ := (HS.out.gr hg).cell hss
              obtain ⟨c0, c1, c2, c3, c4⟩ := HCELL.out wr hg
              have hhere := HST.out.here (s := ⟨r, o, n, who, seals⟩) hlt hss
              have HNEXT := sec (fun h1 h2 => HST.out.next (s := ⟨r, o, n, who, seals⟩) hlt hss h1 h2)
              have hlow := HST.out.low (s := ⟨r, o, n, who, seals⟩) (Nat.le_of_lt hlt)
              simp only at hhere HNEXT
              have HPREV : Sec (∀ j, i = j + 1 → wr.cell? ⟨b, off + j, none⟩ = some (.int .i64 last)) := sec (fun j hj => by
                obtain ⟨b', off', e, h0⟩ := (HW.out.gr hg).cell (i := j) (by omega)
                injection e with e; injection e with e3 e4 _
                subst e3 e4
                have := (HST.out.2.2 ⟨by omega, Nat.le_of_lt hlt⟩).1
                subst hj
                rw [this]; exact h0)
              have HZERO : Sec (i = 0 → last = -1) := sec HST.out.2.1
              obtain ⟨mw, hmw⟩ : ∃ x, x = who[i] := ⟨_, rfl⟩
              obtain ⟨sl, hslx⟩ : ∃ x, x = seals[i] := ⟨_, rfl⟩
              rw [← hmw, ← hslx] at hhere HNEXT
              rw [← hmw] at e0
              rw [← hslx] at x0
              have HHERE := sec hhere
              have HII := sec (And.intro hss hlt)
              clear hmw hslx hhere hss hlt
              by_cases hbad : mw ≤ last ∨ 7 < mw
              · have HV3 : Sec (V = 3) := sec (by rw [HV0.out, HHERE.out, if_pos hbad])
                by_cases g0 : mw < 0
                · have q0 : decide (mw < 0) = true := decide_eq_true g0
                  clear hbad
                  go_wp2_with fail
                  go_ret
                  exact ⟨by rw [HV3.out]; rfl, hg0.trans hg⟩
                · have q0 : decide (mw < 0) = false := decide_eq_false g0
                  by_cases g1 : 8 ≤ mw
                  · have q1 : decide (8 ≤ mw) = true := decide_eq_true g1
                    clear hbad
                    go_wp2_with fail
                    go_ret
                    exact ⟨by rw [HV3.out]; rfl, hg0.trans hg⟩
                  · have q1 : decide (8 ≤ mw) = false := decide_eq_false g1
                    have hi0 : i ≠ 0 := fun e => by have := HZERO.out e; omega
                    obtain ⟨j, hj⟩ : ∃ j, i = j + 1 := ⟨i - 1, by omega⟩
                    have p0 := HPREV.out j hj
                    have hij : (i : Int) - 1 = (j : Int) := by omega
                    have hi1 : 0 < i := by omega
                    have hjk : (j : Int) < (who.length : Int) := by omega
                    have q2 : decide (mw ≤ last) = true := decide_eq_true (by omega)
                    clear hbad hj hi0
                    go_wp2_with fail
                    go_ret
                    exact ⟨by rw [HV3.out]; rfl, hg0.trans hg⟩
              · have q0 : decide (mw < 0) = false := decide_eq_false (by omega)
                have q1 : decide (8 ≤ mw) = false := decide_eq_false (by omega)
                have q2 : decide (mw ≤ last) = false := decide_eq_false (by omega)
                by_cases hs32 : sl.length = 32
                · have q3 : ((sl.length : Int) != 32) = false := by rw [bne_eq_false_iff_eq]; omega
                  have HEN : Sec (stSeen ⟨r, o, n, who, seals⟩ (i + 1) mw) := sec (HNEXT.out hbad hs32)
                  clear hbad hs32
                  by_cases hi0 : i = 0
                  · have hi1 : ¬ 0 < i := by omega
                    clear hi0
                    go_wp2_with fail
                    go_roundg (gk - 1)
                    case rel => exact ⟨i + 1, mw, by go_num, by omega, by have := HII.out.2; omega, HEN, hg⟩
                    case measure => have := HII.out.2; omega
                  · obtain ⟨j, hj⟩ : ∃ j, i = j + 1 := ⟨i - 1, by omega⟩
                    have p0 := HPREV.out j hj
                    have hij : (i : Int) - 1 = (j : Int) := by omega
                    have hi1 : 0 < i := by omega
                    have hjk : (j : Int) < (who.length : Int) := by omega
                    clear hj hi0
                    go_wp2_with fail
                    go_roundg (gk - 1)
                    case rel => exact ⟨i + 1, mw, by go_num, by omega, by have := HII.out.2; omega, HEN, hg⟩
                    case measure => have := HII.out.2; omega
                · have q3 : ((sl.length : Int) != 32) = true := by rw [bne_iff_ne]; omega
                  have HV2 : Sec (V = 2) := sec (by rw [HV0.out, HHERE.out, if_neg hbad, if_neg hs32])
                  clear hbad hs32
                  by_cases hi0 : i = 0
                  · have hi1 : ¬ 0 < i := by omega
                    clear hi0
                    go_wp2_with fail
                    go_ret
                    exact ⟨by rw [HV2.out]; rfl, hg0.trans hg⟩
                  · obtain ⟨j, hj⟩ : ∃ j, i = j + 1 := ⟨i - 1, by omega⟩
                    have p0 := HPREV.out j hj
                    have hij : (i : Int) - 1 = (j : Int) := by omega
                    have hi1 : 0 < i := by omega
                    have hjk : (j : Int) < (who.length : Int) := by omega
                    clear hj hi0
                    go_wp2_with fail
                    go_ret
                    exact ⟨by rw [HV2.out]; rfl, hg0.trans hg⟩
            · have HE : Sec (V = 0) := sec (by rw [HV0.out]; exact HST.out.done (s := ⟨r, o, n, who, seals⟩) (by simp only; omega))
              obtain rfl : i = who.length := by omega
              clear hlt hik
              go_wp2_with fail
              go_ret
              exact ⟨by rw [HE.out]; rfl, hg0.trans hg⟩
        · have qne : ((who.length : Int) != (seals.length : Int)) = true := by rw [bne_iff_ne]; omega
          have HV6 : Sec (V = 6) := sec (by rw [HV1.out, if_pos (Or.inr hne)])
          clear hne h8
          go_wp2_with fail
          go_ret
          exact ⟨by rw [HV6.out]; rfl, hg0.trans gc⟩
end Go.Proofs.YtkgmimmneeppgaaDoor

namespace Go.Proofs.YtkgmimmneeppgaaDoor
set_option maxRecDepth 100000
open Go.RowKit
set_option linter.unusedVariables false
/-- a head's bytes -/
def hdTxt (n : Int) (r : List UInt8) : List UInt8 × Int := if hdE n r = 0 then (numS n ++ r, 0) else ([], hdE n r)
theorem hdE_zero {n : Int} {r : List UInt8} (h : hdE n r = 0) : 0 ≤ n ∧ n ≤ 200 ∧ r.length = 32 := by
  unfold hdE at h
  split at h
  · cases h
  · rename_i h1
    split at h
    · rename_i h2; exact ⟨by omega, by omega, h2⟩
    · cases h

set_option maxHeartbeats 4000000 in
theorem rhtext_any (n : Int) (r : List UInt8) (w : World) (hr : r.length ≤ 1099511627776) :
    Calls Tryd.prog 38 #[.agg (headC n r)] w fun e w' => e = .returned (.tuple #[.string (bs (hdTxt n r).1), .int .i64 (hdTxt n r).2]) ∧ Gr w w' := by
  have HG := sec (fun w => rhgood_any n r w (by omega))
  have hg0 := (Gr.refl w).alloc (.cells (headC n r) 26)
  have hb := Blk.new w 26 (headC n r)
  have HN := sec (fun w => number_any n w)
  obtain ⟨wa, hwa⟩ : ∃ x, x = w.alloc (.cells (headC n r) 26) := ⟨_, rfl⟩
  obtain ⟨p, hp⟩ : ∃ p, p = w.heap.size := ⟨_, rfl⟩
  rw [← hwa] at hg0 hb
  rw [← hp] at hb
  have HB := sec hb
  have c0 : wa.cell? ⟨p, 0, none⟩ = some (.int .i64 n) := hb.cell 0
  have c1 : wa.cell? ⟨p, 1, none⟩ = some (.string (bs r)) := hb.cell 1
  clear hb
  unfold headC at HG hwa
  unfold headC
  by_cases hE : hdE n r = 0
  · have HR : Sec (hdTxt n r = (numS n ++ r, 0)) := sec (by unfold hdTxt; rw [if_pos hE])
    obtain ⟨h0, h1, h2⟩ := hdE_zero hE
    rw [HR.out]
    rw [hE] at HG
    have hnl : (numS n).length ≤ 9 := by rw [numS_in h0 (by omega)]; exact num_len9 (by omega)
    obtain ⟨N, hN⟩ : ∃ N, N = numS n := ⟨_, rfl⟩
    rw [← hN] at hnl HN
    rw [← hN]
    have hcat : ¬ 9223372036854775807 < N.length + r.length := by omega
    clear hE HR hN
    go_enter Tryd.func38, Tryd.ntmps38
    go_wp2_with (first
      | (rw [← hwa, ← hp]; clear hwa hp; go_wp2_with fail)
      | (go_at_call 63; refine Calls.mono (HG.out _) ?_; rintro e w1 ⟨rfl, g1⟩; have x0 : w1.cell? ⟨p, 0, none⟩ = some (.int .i64 n) := (HB.out.gr g1).cell 0; have x1 : w1.cell? ⟨p, 1, none⟩ = some (.string (bs r)) := (HB.out.gr g1).cell 1))
    have g1d : Gr w1 w1.drew := (Gr.refl _).drew
    have HSK : Sec (∀ w', Gr w1 w' → w'.cell? ⟨p, 0, none⟩ = some (.int .i64 n) ∧ w'.cell? ⟨p, 1, none⟩ = some (.string (bs r)) ∧ Gr w1 w') := sec (fun w' g => ⟨(HB.out.gr (g1.trans g)).cell 0, (HB.out.gr (g1.trans g)).cell 1, g⟩)
    go_region_with (go_at_call 48; (with_reducible refine Calls.mono (HN.out w1.drew) ?_); rintro e w2 ⟨rfl, g2'⟩; have g2 : Gr w1 w2 := Gr.trans g1d g2'; obtain ⟨y0, y1, _⟩ := HSK.out w2 g2)
    all_goals (go_wp2_with fail; go_ret2; exact ⟨rfl, hg0.trans (g1.trans g2)⟩)
  · have HR : Sec (hdTxt n r = ([], hdE n r)) := sec (by unfold hdTxt; rw [if_neg hE])
    rw [HR.out]
    obtain ⟨E, hEE⟩ : ∃ E, E = hdE n r := ⟨_, rfl⟩
    rw [← hEE] at HG hE
    rw [← hEE]
    have m0 : (E != 0) = true := by simpa using hE
    clear hEE HR
    go_enter Tryd.func38, Tryd.ntmps38
    go_wp2_with (first
      | (rw [← hwa, ← hp]; clear hwa hp; go_wp2_with fail)
      | (go_at_call 63; refine Calls.mono (HG.out _) ?_; rintro e w1 ⟨rfl, g1⟩))
    go_ret2
    exact ⟨rfl, hg0.trans g1⟩

set_option maxHeartbeats 4000000 in
theorem htext_any (n : Int) (r : List UInt8) (w : World) (hr : r.length ≤ 1099511627776) :
    Calls Tryd.prog 35 #[.agg (headC n r)] w fun e w' => e = .returned (.tuple #[.string (bs (hdTxt n r).1), .int .i64 (hdTxt n r).2]) ∧ Gr w w' := by
  have HG := sec (fun w => hgood_any n r w (by omega))
  have hg0 := (Gr.refl w).alloc (.cells (headC n r) 26)
  have hb := Blk.new w 26 (headC n r)
  obtain ⟨wa, hwa⟩ : ∃ x, x = w.alloc (.cells (headC n r) 26) := ⟨_, rfl⟩
  obtain ⟨p, hp⟩ : ∃ p, p = w.heap.size := ⟨_, rfl⟩
  rw [← hwa] at hg0 hb
  rw [← hp] at hb
  have HB := sec hb
  have c0 : wa.cell? ⟨p, 0, none⟩ = some (.int .i64 n) := hb.cell 0
  have c1 : wa.cell? ⟨p, 1, none⟩ = some (.string (bs r)) := hb.cell 1
  clear hb
  unfold headC at HG hwa
  unfold headC
  by_cases hE : hdE n r = 0
  · have HR : Sec (hdTxt n r = (numS n ++ r, 0)) := sec (by unfold hdTxt; rw [if_pos hE])
    obtain ⟨h0, h1, h2⟩ := hdE_zero hE
    rw [HR.out]
    rw [hE] at HG
    have hnl : (numS n).length ≤ 9 := by rw [numS_in h0 (by omega)]; exact num_len9 (by omega)
    have HNu : Sec (∀ B g w, WrAt w B g ([], 0) → Calls Tryd.prog 44 #[.pointer (some ⟨g, 0, none⟩), .int .i64 n] w fun e w' => e = .returned (.tuple #[]) ∧ WrAt w' B g (numS n, 0) ∧ Below B w w' ∧ KeepT g w w') := sec (fun B g w h => by
      have := wrNumber B g ([], 0) n w h (by simp)
      have e : wNum n ([], 0) = (numS n, 0) := by unfold wNum; rw [if_pos rfl, if_pos ⟨h0, by omega⟩]; rfl
      rwa [e] at this)
    have HBy : Sec (∀ B g w, WrAt w B g (numS n, 0) → Calls Tryd.prog 45 #[.pointer (some ⟨g, 0, none⟩), .string (bs r)] w fun e w' => e = .returned (.tuple #[]) ∧ WrAt w' B g (numS n ++ r, 0) ∧ Below B w w' ∧ KeepT g w w') := sec (fun B g w h => wrBytes B g (numS n, 0) r w h (by simp only; omega))
    have HDn : Sec (∀ B g w, WrAt w B g (numS n ++ r, 0) → Calls Tryd.prog 46 #[.pointer (some ⟨g, 0, none⟩)] w fun e w' => e = .returned (.tuple #[.string (bs (numS n ++ r)), .int .i64 0]) ∧ Gr w w') := sec (fun B g w h => wrDone B g (numS n ++ r, 0) w h)
    have HW0 : Sec (∀ w1 : World, WrAt (w1.alloc (.cells #[.slice none 0 0, .int .i64 0] 71)) w1.heap.size w1.heap.size ([], 0)) := sec (fun w1 => ⟨⟨none, 0, Blk.new w1 _ _, World.ownsRow_nil _ _ _ _⟩, Nat.le_refl _, by simp⟩)
    clear hE HR h2
    go_enter Tryd.func35, Tryd.ntmps35
    go_wp2_with (first
      | (rw [← hwa, ← hp]; clear hwa hp; go_wp2_with fail)
      | (go_at_call 61; refine Calls.mono (HG.out _) ?_; rintro e w1 ⟨rfl, g1⟩; have b1 := HB.out.gr g1; have x0 : (w1.alloc (.cells #[.slice none 0 0, .int .i64 0] 71)).cell? ⟨p, 0, none⟩ = some (.int .i64 n) := (b1.alloc _).cell 0; have x1 : (w1.alloc (.cells #[.slice none 0 0, .int .i64 0] 71)).cell? ⟨p, 1, none⟩ = some (.string (bs r)) := (b1.alloc _).cell 1)
      | (go_at_call 44; refine Calls.mono (HNu.out w1.heap.size w1.heap.size _ (HW0.out w1)) ?_; rintro e w2 ⟨rfl, d2, k2, _⟩; have b2 : Gr w1 w2 := Below.trans ((Gr.refl w1).alloc _) k2; have y0 : w2.cell? ⟨p, 0, none⟩ = some (.int .i64 n) := (b1.gr b2).cell 0; have y1 : w2.cell? ⟨p, 1, none⟩ = some (.string (bs r)) := (b1.gr b2).cell 1)
      | (go_at_call 45; refine Calls.mono (HBy.out _ _ _ d2) ?_; rintro e w3 ⟨rfl, d3, k3, _⟩; have b3 : Gr w1 w3 := Below.trans b2 k3)
      | (go_at_call 46; refine Calls.mono (HDn.out _ _ _ d3) ?_; rintro e w4 ⟨rfl, g4⟩))
    go_ret2
    exact ⟨rfl, hg0.trans (g1.trans (b3.trans g4))⟩
  · have HR : Sec (hdTxt n r = ([], hdE n r)) := sec (by unfold hdTxt; rw [if_neg hE])
    rw [HR.out]
    obtain ⟨E, hEE⟩ : ∃ E, E = hdE n r := ⟨_, rfl⟩
    rw [← hEE] at HG hE
    rw [← hEE]
    have m0 : (E != 0) = true := by simpa using hE
    clear hEE HR
    go_enter Tryd.func35, Tryd.ntmps35
    go_wp2_with (first
      | (rw [← hwa, ← hp]; clear hwa hp; go_wp2_with fail)
      | (go_at_call 61; refine Calls.mono (HG.out _) ?_; rintro e w1 ⟨rfl, g1⟩))
    go_ret2
    exact ⟨rfl, hg0.trans g1⟩
end Go.Proofs.YtkgmimmneeppgaaDoor

namespace Go.Proofs.YtkgmimmneeppgaaDoor
set_option maxRecDepth 100000
open Go.RowKit
set_option linter.unusedVariables false
theorem hdTxt0 (R : List UInt8) (h : R.length = 32) : (hdTxt 0 R).2 = 0 ∧ (hdTxt 0 R).1.length = 33 := by
  have hE : hdE 0 R = 0 := by
    unfold hdE
    rw [if_neg (by decide), if_pos h]
  unfold hdTxt
  rw [if_pos hE]
  refine ⟨rfl, ?_⟩
  have h1 : (numS 0).length = 1 := by
    rw [numS_in (by omega) (by omega)]
    have a := num_pos 0
    have b := num_len 0 0 (by decide)
    have e : (0 : Int).toNat = 0 := rfl
    rw [e]
    omega
  rw [List.length_append, h1, h]
set_option maxHeartbeats 1000000 in
theorem leaves0_any (w : World) : Calls Tryd.prog 17 #[.slice none 0 0] w fun e w' => e = .returned (.tuple #[.slice none 0 0, .int .i64 0]) ∧ w' = w := by
  go_enter Tryd.func17, Tryd.ntmps17
  go_wp2_with fail
  go_loopw [11, 4, 6, 7, 8] (fun iv v4 _ _ _ wr => iv = .int .i64 0 ∧ v4 = .slice none 0 0 ∧ wr = w) (fun _ _ _ _ _ _ => 0)
  case atStart => exact ⟨rfl, rfl, rfl⟩
  case round =>
    obtain ⟨rfl, rfl, rfl⟩ := hrel
    go_wp2_with fail
    go_ret2
    exact ⟨rfl, rfl⟩

set_option maxHeartbeats 1000000 in
theorem of0_any (w : World) (hT : TabK w) : Calls Tryd.prog 14 #[.slice none 0 0] w fun e w' => e = .returned (.tuple #[.agg (headC 0 (sha [])), .int .i64 0]) ∧ Gr w w' := by
  have HR : Sec (∀ W, Gr w W → Calls Tryd.prog 41 #[.slice none 0 0] W fun e w' => e = .returned (.string (bs (sha []))) ∧ Gr W w') := sec (fun W g => by
    have := root_any 0 [] none 0 0 W (by simp) (by omega) (by omega) ⟨rfl, fun h => absurd h (by omega)⟩ (by intro s h; cases h) (hT.gr g)
    rw [rootL_nil] at this
    exact this)
  clear hT
  go_enter Tryd.func14, Tryd.ntmps14
  go_wp2_with (first
    | (refine wpList_store_blk rfl 26 (.tmp 2) (.tmp 23) rfl (g := w.heap.size) (cs' := headC 0 (sha [])) rfl rfl hB A.head rfl (headC_one _ _) ?_; intro w2 h2 hg2)
    | (go_at_call 17; refine Calls.mono (leaves0_any _) ?_; rintro e w3 ⟨rfl, rfl⟩)
    | (go_at_call 41; refine Calls.mono (HR.out _ ((Gr.refl w).alloc _)) ?_; rintro e w1 ⟨rfl, g1⟩; have hB := (Blk.new w 26 (headC 0 [])).gr g1; have gg1 : Gr w w1 := Gr.trans ((Gr.refl w).alloc _) g1))
  refine bodyPost_ret (results_blk_tmp rfl _ rfl h2 A.head) rfl ?_
  exact ⟨rfl, Gr.only gg1 hg2 (Nat.le_refl _)⟩
set_option maxHeartbeats 1000000 in
theorem heads_any (w : World) (hT : TabK w) : Calls Tryd.prog 13 #[] w fun e w' => e = .returned (.bool true) ∧ Gr w w' := by
  have HOf := sec (of0_any w hT)
  have HEm : Sec (∀ W, Gr w W → Calls Tryd.prog 40 #[] W fun e w' => e = .returned (.agg (headC 0 (sha []))) ∧ Gr W w') := sec (fun W g => empty_any W (hT.gr g))
  have hl := sha_len []
  obtain ⟨R, hR⟩ : ∃ R, R = sha [] := ⟨_, rfl⟩
  rw [← hR] at HEm HOf hl
  clear hR hT
  obtain ⟨t0, t1⟩ := hdTxt0 R hl
  have HTx : Sec (∀ W, Calls Tryd.prog 35 #[.agg (headC 0 R)] W fun e w' => e = .returned (.tuple #[.string (bs (hdTxt 0 R).1), .int .i64 0]) ∧ Gr W w') := sec (fun W => by
    have h := htext_any 0 R W (by omega)
    rw [t0] at h
    exact h)
  obtain ⟨X, hX⟩ : ∃ X, X = (hdTxt 0 R).1 := ⟨_, rfl⟩
  rw [← hX] at HTx t1
  have hx33 : (X.length : Int) = 33 := by omega
  unfold headC at HOf HEm HTx
  clear hX t0
  go_enter Tryd.func13, Tryd.ntmps13
  go_wp2_with (first
    | (go_at_call 14; refine Calls.mono HOf.out ?_; rintro e w1 ⟨rfl, g1⟩)
    | (go_at_call 35; refine Calls.mono (HTx.out _) ?_; rintro e w2 ⟨rfl, g2⟩; have hb := (Blk.new w1 26 #[.int .i64 0, .string (bs R)]).gr g2; have gg2 : Gr w w2 := (g1.alloc _).trans g2; have x0 : w2.cell? ⟨w1.heap.size, 0, none⟩ = some (.int .i64 0) := hb.cell 0; have x1 : w2.cell? ⟨w1.heap.size, 1, none⟩ = some (.string (bs R)) := hb.cell 1))
  have g2d : Gr w2 w2.drew := (Gr.refl _).drew
  have HSK : Sec (∀ w', Gr w2 w' → w'.cell? ⟨w1.heap.size, 0, none⟩ = some (.int .i64 0) ∧ w'.cell? ⟨w1.heap.size, 1, none⟩ = some (.string (bs R)) ∧ Gr w2 w') := sec (fun w' g => ⟨(hb.gr g).cell 0, (hb.gr g).cell 1, g⟩)
  go_region_held3 (fun w' => w'.cell? ⟨w1.heap.size, 0, none⟩ = some (.int .i64 0) ∧ w'.cell? ⟨w1.heap.size, 1, none⟩ = some (.string (bs R)) ∧ Gr w2 w')
    (first | with_reducible assumption | with_reducible exact HSK.out _ g2d | with_reducible exact HSK.out _ g4 | fail)
    (first
      | (go_at_call 40; (with_reducible refine Calls.mono (HEm.out w2.drew (gg2.trans g2d)) ?_); rintro e w4 ⟨rfl, g4'⟩; have g4 : Gr w2 w4 := Gr.trans g2d g4')
      | fail)
  all_goals (go_wp2_with fail; go_ret; exact ⟨rfl, gg2.trans g4⟩)
end Go.Proofs.YtkgmimmneeppgaaDoor

namespace Go.Proofs.YtkgmimmneeppgaaDoor
open Go.RowKit
set_option linter.unusedVariables false
/-- 64 bytes while they are filled -/
def kArr (x : UInt8) (K : List UInt8) (n : Nat) : Array Value := ((List.range 64).map fun j => if j < n then byteV (K.getD j 0 ^^^ x) else Value.int .u8 0).toArray
theorem kArr_size (x : UInt8) (K : List UInt8) (n : Nat) : (kArr x K n).size = 64 := by unfold kArr; simp
theorem kArr_set (x : UInt8) (K : List UInt8) (n : Nat) : (kArr x K n).setIfInBounds n (byteV (K.getD n 0 ^^^ x)) = kArr x K (n + 1) := by
  unfold kArr
  rw [List.setIfInBounds_toArray]
  congr 1
  apply List.ext_getElem
  · simp
  · intro i h1 h2
    rw [List.getElem_set]
    simp only [List.getElem_map, List.getElem_range]
    by_cases e : n = i
    · subst e; rw [if_pos rfl, if_pos (by omega)]
    · rw [if_neg e]
      by_cases h : i < n
      · rw [if_pos h, if_pos (by omega)]
      · rw [if_neg h, if_neg (by omega)]
theorem kArr_full (x : UInt8) (K : List UInt8) : (kArr x K 64).toList = (xorPad x K).map byteV := by
  unfold kArr xorPad
  simp only [List.map_map]
  refine List.map_congr_left ?_
  intro j hj
  have : j < 64 := by simpa using hj
  rw [if_pos this]; rfl
def zero64 : Array Value := #[.int .u8 0, .int .u8 0, .int .u8 0, .int .u8 0, .int .u8 0, .int .u8 0, .int .u8 0, .int .u8 0, .int .u8 0, .int .u8 0, .int .u8 0, .int .u8 0, .int .u8 0, .int .u8 0, .int .u8 0, .int .u8 0, .int .u8 0, .int .u8 0, .int .u8 0, .int .u8 0, .int .u8 0, .int .u8 0, .int .u8 0, .int .u8 0, .int .u8 0, .int .u8 0, .int .u8 0, .int .u8 0, .int .u8 0, .int .u8 0, .int .u8 0, .int .u8 0, .int .u8 0, .int .u8 0, .int .u8 0, .int .u8 0, .int .u8 0, .int .u8 0, .int .u8 0, .int .u8 0, .int .u8 0, .int .u8 0, .int .u8 0, .int .u8 0, .int .u8 0, .int .u8 0, .int .u8 0, .int .u8 0, .int .u8 0, .int .u8 0, .int .u8 0, .int .u8 0, .int .u8 0, .int .u8 0, .int .u8 0, .int .u8 0, .int .u8 0, .int .u8 0, .int .u8 0, .int .u8 0, .int .u8 0, .int .u8 0, .int .u8 0, .int .u8 0]
theorem kArr_zero (x : UInt8) (K : List UInt8) : kArr x K 0 = zero64 := by kernel_rfl
theorem x_xor (a c : UInt8) : bits .xor .u8 (a.toNat : Int) (c.toNat : Int) = ((c ^^^ a).toNat : Int) := by
  have h1 := a.toNat_lt
  have h2 := c.toNat_lt
  rw [u8_xor_nat a.toNat c.toNat (by omega) (by omega), UInt8.toNat_xor, Nat.xor_comm]
theorem x_zero (a : UInt8) : (0 : UInt8) ^^^ a = a := by
  apply UInt8.eq_of_toBitVec_eq
  rw [UInt8.toBitVec_xor]; exact BitVec.zero_xor
theorem conv_arr (w : World) {g : Nat} {t : TypeId} {cs : Array Value} {l : List UInt8} (hB : Blk w g t cs) (h : cs.toList = l.map byteV) (n : Nat) (hn : l.length = n) :
    (convert 69 9 (.slice (some ⟨g, 0, none⟩) n n)).run Tryd.prog w = .ok (.string (bs l)) w := by
  subst hn
  refine run_conv_at Tryd.underlying69 Tryd.underlying5 Tryd.underlying9 w g 0 _ l (fun j u hu => ?_)
  rw [Nat.zero_add, hB.cell, ← h] at *
  simpa using hu

set_option maxRecDepth 100000 in
set_option maxHeartbeats 2000000 in
theorem seal_any (key b : List UInt8) (w : World) (hT : TabK w) (hk : key.length ≤ 288230376151711744) (hb : b.length ≤ 288230376151711744) :
    Calls Tryd.prog 36 #[.string (bs key), .string (bs b)] w fun e w' => e = .returned (.string (bs (seal' key b))) ∧ Gr w w' := by
  obtain ⟨K, hK⟩ : ∃ K, K = keyOf key := ⟨_, rfl⟩
  have hKl : K.length ≤ 64 := by rw [hK]; exact keyOf_len key
  have HF : Sec (seal' key b = sha (xorPad 0x5c K ++ sha (xorPad 0x36 K ++ b))) := sec (by rw [hK]; rfl)
  have HK := sec hK
  clear hK
  by_cases hlt : 64 < key.length
  · have HS : Sec (sha key = K) := sec (by rw [HK.out]; unfold keyOf; rw [if_pos hlt])
    have hlti : (64 : Int) < (key.length : Int) := by omega
    go_enter Tryd.func36, Tryd.ntmps36
    go_wp2_with ((go_at_call 62; refine (sum_any key _ hT (by omega)).mono ?_; rw [HS.out]; rintro e w1 ⟨rfl, g1⟩))
    have HZ5 : Sec (Blk ((w1.alloc (.cells zero64 86)).alloc (.cells zero64 86)) w1.heap.size 86 zero64) := sec ((Blk.new w1 _ _).alloc _)
    have HZ6 : Sec (Blk ((w1.alloc (.cells zero64 86)).alloc (.cells zero64 86)) (w1.heap.size + 1) 86 zero64) := sec (Blk.new1 w1 _ _ _)
    have HG : Sec (Gr w ((w1.alloc (.cells zero64 86)).alloc (.cells zero64 86))) := sec ((g1.alloc _).alloc _)
    obtain ⟨q, hq⟩ : ∃ q, q = w1.heap.size := ⟨_, rfl⟩
    have hwb : w.heap.size ≤ q := by rw [hq]; exact g1.size
    rw [← hq] at HZ5 HZ6
    rw [← hq]
    clear hq
    go_loopw [13, 7] (fun iv _ wr => ∃ i : Nat, iv = .int .i64 i ∧ i ≤ 64 ∧ Blk wr q 86 (kArr 0x36 K i) ∧ Blk wr (q + 1) 86 (kArr 0x5c K i) ∧ Gr w wr)
      (fun iv _ _ => 64 - (intOf iv).toNat)
    case atStart => exact ⟨0, rfl, by omega, by rw [kArr_zero]; exact HZ5.out, by rw [kArr_zero]; exact HZ6.out, HG.out⟩
    case round =>
      obtain ⟨i, rfl, hi, hB5, hB6, hg⟩ := hrel
      by_cases h64 : i < 64
      · have hi64 : (i : Int) < 64 := by omega
        have z5 : ∃ v, wr.cell? ⟨q, i, none⟩ = some v := ⟨_, (hB5.cell i).trans (Array.getElem?_eq_getElem (by rw [kArr_size]; omega))⟩
        have z6 : ∃ v, wr.cell? ⟨q + 1, i, none⟩ = some v := ⟨_, (hB6.cell i).trans (Array.getElem?_eq_getElem (by rw [kArr_size]; omega))⟩
        obtain ⟨v5, z5⟩ := z5
        obtain ⟨v6, z6⟩ := z6
        have f5 := hB5.frozen i
        have f6 := hB6.frozen i
        by_cases hik : i < K.length
        · have hiki : (i : Int) < (K.length : Int) := by omega
          obtain ⟨c, hc⟩ : ∃ c, c = K[i] := ⟨_, rfl⟩
          have hgd : K.getD i 0 = c := by rw [hc]; simp [hik]
          have hci : (bs K)[i]'(by rw [bs_size]; exact hik) = c := by rw [bs_get, hc]
          have e5 := kArr_set 0x36 K i
          have e6 := kArr_set 0x5c K i
          rw [hgd] at e5 e6
          have E5 := sec e5
          have E6 := sec e6
          have HC := sec hc
          have x5 : bits .xor .u8 54 (c.toNat : Int) = ((c ^^^ 0x36).toNat : Int) := x_xor 0x36 c
          have x6 : bits .xor .u8 92 (c.toNat : Int) = ((c ^^^ 0x5c).toNat : Int) := x_xor 0x5c c
          clear e5 e6 hc hgd
          go_wp2_with fail
          refine region_still_tail_w 8 (by kernel_rfl) (by kernel_rfl) ?_
          simp only [List.take_succ_cons, List.take_zero, List.drop_succ_cons, List.drop_zero]
          intro wd hwd
          have D5 : Blk wd q 86 ((kArr 0x36 K i).setIfInBounds i (.int .u8 54)) := by subst hwd; exact ((hB5.set_ i (.int .u8 54)).far (by simp) _).drew
          have D6 : Blk wd (q + 1) 86 ((kArr 0x5c K i).setIfInBounds i (.int .u8 92)) := by subst hwd; exact ((hB6.far (by simp) _).set_ i (.int .u8 92)).drew
          have Dg : Gr w wd := by subst hwd; exact ((hg.setCell (by simp; omega) _).setCell (by simp; omega) _).drew
          clear hwd hB5 hB6 hg z5 z6 f5 f6
          have c5 : wd.cell? ⟨q, i, none⟩ = some (.int .u8 54) := (D5.cell i).trans (Array.getElem?_setIfInBounds_self_of_lt (by rw [kArr_size]; exact h64))
          have f5 := D5.frozen i
          repeat still_step
          refine wpStill_nil ?_
          go_wp2_with fail
          clear c5 f5
          refine region_still_tail_w 8 (by kernel_rfl) (by kernel_rfl) ?_
          simp only [List.take_succ_cons, List.take_zero, List.drop_succ_cons, List.drop_zero]
          intro we hwe
          have F5 : Blk we q 86 (kArr 0x36 K (i + 1)) := by
            subst hwe
            have h5 := (D5.set_ i (.int .u8 ((c ^^^ 0x36).toNat : Int))).drew
            rw [Array.setIfInBounds_setIfInBounds, show (kArr 0x36 K i).setIfInBounds i (.int .u8 ((c ^^^ 0x36).toNat : Int)) = kArr 0x36 K (i + 1) from E5.out] at h5
            exact h5
          have F6 : Blk we (q + 1) 86 ((kArr 0x5c K i).setIfInBounds i (.int .u8 92)) := by subst hwe; exact (D6.far (by simp) _).drew
          have Fg : Gr w we := by subst hwe; exact (Dg.setCell (by simp; omega) _).drew
          clear hwe D5 D6 Dg
          have c6 : we.cell? ⟨q + 1, i, none⟩ = some (.int .u8 92) := (F6.cell i).trans (Array.getElem?_setIfInBounds_self_of_lt (by rw [kArr_size]; exact h64))
          have f6 := F6.frozen i
          repeat still_step
          refine wpStill_nil ?_
          go_wp2_with fail
          go_roundw
          case rel =>
            have h6 := F6.set_ i (.int .u8 ((c ^^^ 0x5c).toNat : Int))
            have e6 : ((kArr 0x5c K i).setIfInBounds i (.int .u8 92)).setIfInBounds i (.int .u8 ((c ^^^ 0x5c).toNat : Int)) = kArr 0x5c K (i + 1) := by
              rw [Array.setIfInBounds_setIfInBounds]; exact E6.out
            rw [e6] at h6
            exact ⟨i + 1, by go_num, by omega, F5.far (by simp) _, h6, Fg.setCell (by simp; omega) _⟩
          case measure => simp [intOf]; omega
        · have hiki : ¬ (i : Int) < (K.length : Int) := by omega
          have hgd : K.getD i 0 = 0 := by simp [List.getD]; rw [List.getElem?_eq_none (by omega)]; rfl
          have e5 := kArr_set 0x36 K i
          have e6 := kArr_set 0x5c K i
          rw [hgd, x_zero] at e5 e6
          have E5 := sec e5
          have E6 := sec e6
          clear e5 e6 hgd
          go_wp2_with fail
          go_roundw
          case rel =>
            have h5 := hB5.set_ i (.int .u8 54)
            have h6 := (hB6.far (p := ⟨q, i, none⟩) (by simp) (.int .u8 54)).set_ i (.int .u8 92)
            rw [show (kArr 0x36 K i).setIfInBounds i (.int .u8 54) = kArr 0x36 K (i + 1) from E5.out] at h5
            rw [show (kArr 0x5c K i).setIfInBounds i (.int .u8 92) = kArr 0x5c K (i + 1) from E6.out] at h6
            exact ⟨i + 1, by go_num, by omega, h5.far (by simp) _, h6, (hg.setCell (by simp; omega) _).setCell (by simp; omega) _⟩
          case measure => simp [intOf]; omega
      · obtain rfl : i = 64 := by omega
        clear h64 hi
        rw [show ((64 : Nat) : Int) = 64 from rfl]
        go_wp2_with fail
        have k5 := kArr_full 0x36 K
        have k6 := kArr_full 0x5c K
        have K5 := sec k5
        have K6 := sec k6
        have hP5 : (xorPad 0x36 K).length = 64 := xorPad_len _ _
        have hP6 : (xorPad 0x5c K).length = 64 := xorPad_len _ _
        obtain ⟨P5, hQ5⟩ : ∃ P, P = xorPad 0x36 K := ⟨_, rfl⟩
        obtain ⟨P6, hQ6⟩ : ∃ P, P = xorPad 0x5c K := ⟨_, rfl⟩
        rw [← hQ5, ← hQ6] at HF
        rw [← hQ5] at K5 hP5
        rw [← hQ6] at K6 hP6
        have HP5 := sec hP5
        have HP6 := sec hP6
        have hl5 : ¬ 9223372036854775807 < P5.length + b.length := by omega
        have hl6 : ¬ 9223372036854775807 < P6.length + (sha (P5 ++ b)).length := by rw [sha_len]; omega
        have HL5 : Sec ((P5 ++ b).length ≤ 576460752303423488) := sec (by rw [List.length_append]; omega)
        have HL6 : Sec ((P6 ++ sha (P5 ++ b)).length ≤ 576460752303423488) := sec (by rw [List.length_append, sha_len]; omega)
        clear k5 k6 hQ5 hQ6 hP5 hP6
        go_region_held3 (fun w' => (convert 69 9 (.slice (some ⟨q, 0, none⟩) 64 64)).run Tryd.prog w' = .ok (.string (bs P5)) w' ∧ (convert 69 9 (.slice (some ⟨q + 1, 0, none⟩) 64 64)).run Tryd.prog w' = .ok (.string (bs P6)) w' ∧ Gr w w')
          (first | with_reducible assumption | exact ⟨conv_arr _ hB5.drew K5.out 64 HP5.out, conv_arr _ hB6.drew K6.out 64 HP6.out, hg.drew⟩ | exact ⟨conv_arr _ hB5 K5.out 64 HP5.out, conv_arr _ hB6 K6.out 64 HP6.out, hg⟩ | exact ⟨conv_arr _ e5 K5.out 64 HP5.out, conv_arr _ e6 K6.out 64 HP6.out, eg⟩ | exact ⟨conv_arr _ i5 K5.out 64 HP5.out, conv_arr _ i6 K6.out 64 HP6.out, ig⟩)
          (first
            | (go_at_call 62; with_reducible refine Calls.mono (sum_any (P5 ++ b) _ (hT.gr hg.drew) HL5.out) ?_; rintro e w3 ⟨rfl, k⟩; have e5 := hB5.drew.gr k; have e6 := hB6.drew.gr k; have eg := hg.drew.trans k; clear k)
            | (go_at_call 62; with_reducible refine Calls.mono (sum_any (P6 ++ sha (P5 ++ b)) _ (hT.gr eg) HL6.out) ?_; rintro e w4 ⟨rfl, k⟩; have i5 := e5.gr k; have i6 := e6.gr k; have ig := eg.trans k; clear k))
        all_goals
          go_wp2_with fail
          go_ret
          exact ⟨by rw [HF.out]; rfl, ig⟩
  · have hlti : ¬ (64 : Int) < (key.length : Int) := by omega
    obtain rfl : K = key := by rw [HK.out]; unfold keyOf; rw [if_neg hlt]
    go_enter Tryd.func36, Tryd.ntmps36
    go_wp2_with fail
    have HZ5 : Sec (Blk ((w.alloc (.cells zero64 86)).alloc (.cells zero64 86)) w.heap.size 86 zero64) := sec ((Blk.new w _ _).alloc _)
    have HZ6 : Sec (Blk ((w.alloc (.cells zero64 86)).alloc (.cells zero64 86)) (w.heap.size + 1) 86 zero64) := sec (Blk.new1 w _ _ _)
    have HG : Sec (Gr w ((w.alloc (.cells zero64 86)).alloc (.cells zero64 86))) := sec (((Gr.refl w).alloc _).alloc _)
    obtain ⟨q, hq⟩ : ∃ q, q = w.heap.size := ⟨_, rfl⟩
    have hwb : w.heap.size ≤ q := by rw [hq]; exact Nat.le_refl _
    rw [← hq] at HZ5 HZ6
    rw [← hq]
    clear hq
    go_loopw [13, 7] (fun iv _ wr => ∃ i : Nat, iv = .int .i64 i ∧ i ≤ 64 ∧ Blk wr q 86 (kArr 0x36 K i) ∧ Blk wr (q + 1) 86 (kArr 0x5c K i) ∧ Gr w wr)
      (fun iv _ _ => 64 - (intOf iv).toNat)
    case atStart => exact ⟨0, rfl, by omega, by rw [kArr_zero]; exact HZ5.out, by rw [kArr_zero]; exact HZ6.out, HG.out⟩
    case round =>
      obtain ⟨i, rfl, hi, hB5, hB6, hg⟩ := hrel
      by_cases h64 : i < 64
      · have hi64 : (i : Int) < 64 := by omega
        have z5 : ∃ v, wr.cell? ⟨q, i, none⟩ = some v := ⟨_, (hB5.cell i).trans (Array.getElem?_eq_getElem (by rw [kArr_size]; omega))⟩
        have z6 : ∃ v, wr.cell? ⟨q + 1, i, none⟩ = some v := ⟨_, (hB6.cell i).trans (Array.getElem?_eq_getElem (by rw [kArr_size]; omega))⟩
        obtain ⟨v5, z5⟩ := z5
        obtain ⟨v6, z6⟩ := z6
        have f5 := hB5.frozen i
        have f6 := hB6.frozen i
        by_cases hik : i < K.length
        · have hiki : (i : Int) < (K.length : Int) := by omega
          obtain ⟨c, hc⟩ : ∃ c, c = K[i] := ⟨_, rfl⟩
          have hgd : K.getD i 0 = c := by rw [hc]; simp [hik]
          have hci : (bs K)[i]'(by rw [bs_size]; exact hik) = c := by rw [bs_get, hc]
          have e5 := kArr_set 0x36 K i
          have e6 := kArr_set 0x5c K i
          rw [hgd] at e5 e6
          have E5 := sec e5
          have E6 := sec e6
          have HC := sec hc
          have x5 : bits .xor .u8 54 (c.toNat : Int) = ((c ^^^ 0x36).toNat : Int) := x_xor 0x36 c
          have x6 : bits .xor .u8 92 (c.toNat : Int) = ((c ^^^ 0x5c).toNat : Int) := x_xor 0x5c c
          clear e5 e6 hc hgd
          go_wp2_with fail
          refine region_still_tail_w 8 (by kernel_rfl) (by kernel_rfl) ?_
          simp only [List.take_succ_cons, List.take_zero, List.drop_succ_cons, List.drop_zero]
          intro wd hwd
          have D5 : Blk wd q 86 ((kArr 0x36 K i).setIfInBounds i (.int .u8 54)) := by subst hwd; exact ((hB5.set_ i (.int .u8 54)).far (by simp) _).drew
          have D6 : Blk wd (q + 1) 86 ((kArr 0x5c K i).setIfInBounds i (.int .u8 92)) := by subst hwd; exact ((hB6.far (by simp) _).set_ i (.int .u8 92)).drew
          have Dg : Gr w wd := by subst hwd; exact ((hg.setCell (by simp; omega) _).setCell (by simp; omega) _).drew
          clear hwd hB5 hB6 hg z5 z6 f5 f6
          have c5 : wd.cell? ⟨q, i, none⟩ = some (.int .u8 54) := (D5.cell i).trans (Array.getElem?_setIfInBounds_self_of_lt (by rw [kArr_size]; exact h64))
          have f5 := D5.frozen i
          repeat still_step
          refine wpStill_nil ?_
          go_wp2_with fail
          clear c5 f5
          refine region_still_tail_w 8 (by kernel_rfl) (by kernel_rfl) ?_
          simp only [List.take_succ_cons, List.take_zero, List.drop_succ_cons, List.drop_zero]
          intro we hwe
          have F5 : Blk we q 86 (kArr 0x36 K (i + 1)) := by
            subst hwe
            have h5 := (D5.set_ i (.int .u8 ((c ^^^ 0x36).toNat : Int))).drew
            rw [Array.setIfInBounds_setIfInBounds, show (kArr 0x36 K i).setIfInBounds i (.int .u8 ((c ^^^ 0x36).toNat : Int)) = kArr 0x36 K (i + 1) from E5.out] at h5
            exact h5
          have F6 : Blk we (q + 1) 86 ((kArr 0x5c K i).setIfInBounds i (.int .u8 92)) := by subst hwe; exact (D6.far (by simp) _).drew
          have Fg : Gr w we := by subst hwe; exact (Dg.setCell (by simp; omega) _).drew
          clear hwe D5 D6 Dg
          have c6 : we.cell? ⟨q + 1, i, none⟩ = some (.int .u8 92) := (F6.cell i).trans (Array.getElem?_setIfInBounds_self_of_lt (by rw [kArr_size]; exact h64))
          have f6 := F6.frozen i
          repeat still_step
          refine wpStill_nil ?_
          go_wp2_with fail
          go_roundw
          case rel =>
            have h6 := F6.set_ i (.int .u8 ((c ^^^ 0x5c).toNat : Int))
            have e6 : ((kArr 0x5c K i).setIfInBounds i (.int .u8 92)).setIfInBounds i (.int .u8 ((c ^^^ 0x5c).toNat : Int)) = kArr 0x5c K (i + 1) := by
              rw [Array.setIfInBounds_setIfInBounds]; exact E6.out
            rw [e6] at h6
            exact ⟨i + 1, by go_num, by omega, F5.far (by simp) _, h6, Fg.setCell (by simp; omega) _⟩
          case measure => simp [intOf]; omega
        · have hiki : ¬ (i : Int) < (K.length : Int) := by omega
          have hgd : K.getD i 0 = 0 := by simp [List.getD]; rw [List.getElem?_eq_none (by omega)]; rfl
          have e5 := kArr_set 0x36 K i
          have e6 := kArr_set 0x5c K i
          rw [hgd, x_zero] at e5 e6
          have E5 := sec e5
          have E6 := sec e6
          clear e5 e6 hgd
          go_wp2_with fail
          go_roundw
          case rel =>
            have h5 := hB5.set_ i (.int .u8 54)
            have h6 := (hB6.far (p := ⟨q, i, none⟩) (by simp) (.int .u8 54)).set_ i (.int .u8 92)
            rw [show (kArr 0x36 K i).setIfInBounds i (.int .u8 54) = kArr 0x36 K (i + 1) from E5.out] at h5
            rw [show (kArr 0x5c K i).setIfInBounds i (.int .u8 92) = kArr 0x5c K (i + 1) from E6.out] at h6
            exact ⟨i + 1, by go_num, by omega, h5.far (by simp) _, h6, (hg.setCell (by simp; omega) _).setCell (by simp; omega) _⟩
          case measure => simp [intOf]; omega
      · obtain rfl : i = 64 := by omega
        clear h64 hi
        rw [show ((64 : Nat) : Int) = 64 from rfl]
        go_wp2_with fail
        have k5 := kArr_full 0x36 K
        have k6 := kArr_full 0x5c K
        have K5 := sec k5
        have K6 := sec k6
        have hP5 : (xorPad 0x36 K).length = 64 := xorPad_len _ _
        have hP6 : (xorPad 0x5c K).length = 64 := xorPad_len _ _
        obtain ⟨P5, hQ5⟩ : ∃ P, P = xorPad 0x36 K := ⟨_, rfl⟩
        obtain ⟨P6, hQ6⟩ : ∃ P, P = xorPad 0x5c K := ⟨_, rfl⟩
        rw [← hQ5, ← hQ6] at HF
        rw [← hQ5] at K5 hP5
        rw [← hQ6] at K6 hP6
        have HP5 := sec hP5
        have HP6 := sec hP6
        have hl5 : ¬ 9223372036854775807 < P5.length + b.length := by omega
        have hl6 : ¬ 9223372036854775807 < P6.length + (sha (P5 ++ b)).length := by rw [sha_len]; omega
        have HL5 : Sec ((P5 ++ b).length ≤ 576460752303423488) := sec (by rw [List.length_append]; omega)
        have HL6 : Sec ((P6 ++ sha (P5 ++ b)).length ≤ 576460752303423488) := sec (by rw [List.length_append, sha_len]; omega)
        clear k5 k6 hQ5 hQ6 hP5 hP6
        go_region_held3 (fun w' => (convert 69 9 (.slice (some ⟨q, 0, none⟩) 64 64)).run Tryd.prog w' = .ok (.string (bs P5)) w' ∧ (convert 69 9 (.slice (some ⟨q + 1, 0, none⟩) 64 64)).run Tryd.prog w' = .ok (.string (bs P6)) w' ∧ Gr w w')
          (first | with_reducible assumption | exact ⟨conv_arr _ hB5.drew K5.out 64 HP5.out, conv_arr _ hB6.drew K6.out 64 HP6.out, hg.drew⟩ | exact ⟨conv_arr _ hB5 K5.out 64 HP5.out, conv_arr _ hB6 K6.out 64 HP6.out, hg⟩ | exact ⟨conv_arr _ e5 K5.out 64 HP5.out, conv_arr _ e6 K6.out 64 HP6.out, eg⟩ | exact ⟨conv_arr _ i5 K5.out 64 HP5.out, conv_arr _ i6 K6.out 64 HP6.out, ig⟩)
          (first
            | (go_at_call 62; with_reducible refine Calls.mono (sum_any (P5 ++ b) _ (hT.gr hg.drew) HL5.out) ?_; rintro e w3 ⟨rfl, k⟩; have e5 := hB5.drew.gr k; have e6 := hB6.drew.gr k; have eg := hg.drew.trans k; clear k)
            | (go_at_call 62; with_reducible refine Calls.mono (sum_any (P6 ++ sha (P5 ++ b)) _ (hT.gr eg) HL6.out) ?_; rintro e w4 ⟨rfl, k⟩; have i5 := e5.gr k; have i6 := e6.gr k; have ig := eg.trans k; clear k))
        all_goals
          go_wp2_with fail
          go_ret
          exact ⟨by rw [HF.out]; rfl, ig⟩
end Go.Proofs.YtkgmimmneeppgaaDoor

namespace Go.Proofs.YtkgmimmneeppgaaDoor
open Go.RowKit
set_option linter.unusedVariables false
theorem BRow.set {w : World} {B g cap : Nat} {l : List UInt8} (h : BRow w B g cap l) (i : Nat) (hi : i < l.length) (c : UInt8) : BRow (w.setCell ⟨g, i, none⟩ (byteV c)) B g cap (l.set i c) := by
  refine ⟨h.base, by simpa using h.lt, by simpa using h.le, h.max, fun j hj => ⟨?_, by rw [World.frozen?_setCell]; exact (h.there j hj).2⟩, fun j u hu => ?_⟩
  · by_cases e : i = j
    · subst e
      obtain ⟨u, hu⟩ := Option.isSome_iff_exists.1 (h.there i hj).1
      rw [World.cell?_setCell_same w _ _ hu]; rfl
    · rw [World.cell?_setCell_other w _ _ _ (by intro e'; injection e' with _ e2 _; exact e e2)]
      exact (h.there j hj).1
  · by_cases e : i = j
    · subst e
      have : i < cap := Nat.lt_of_lt_of_le hi h.le
      obtain ⟨v, hv⟩ := Option.isSome_iff_exists.1 (h.there i this).1
      rw [World.cell?_setCell_same w _ _ hv]
      rw [← hu]
      simp [hi]
    · rw [World.cell?_setCell_other w _ _ _ (by intro e'; injection e' with _ e2 _; exact e e2)]
      refine h.at_ j u ?_
      rw [← hu]
      simp [e]

/-- the first i bytes turned -/
def mixL (x : UInt8) (K : List UInt8) (i : Nat) : List UInt8 := (K.take i).map (· ^^^ x) ++ K.drop i
theorem mixL_len (x : UInt8) (K : List UInt8) (i : Nat) : (mixL x K i).length = K.length := by
  unfold mixL
  rw [List.length_append, List.length_map, List.length_take, List.length_drop]
  omega
theorem mixL_set (x : UInt8) (K : List UInt8) (i : Nat) (hi : i < K.length) : (mixL x K i).set i (K[i] ^^^ x) = mixL x K (i + 1) := by
  unfold mixL
  have hl : ((K.take i).map (· ^^^ x)).length = i := by rw [List.length_map, List.length_take]; omega
  rw [List.set_append_right _ _ (by omega), hl, Nat.sub_self, List.drop_eq_getElem_cons hi, List.take_succ_eq_append_getElem hi, List.map_append]
  simp only [List.set_cons_zero, List.map_cons, List.map_nil, List.append_assoc, List.cons_append, List.nil_append]
theorem mixL_at (x : UInt8) (K : List UInt8) (i : Nat) (hi : i < K.length) : (mixL x K i)[i]'(by rw [mixL_len]; exact hi) = K[i] := by
  unfold mixL
  have hl : ((K.take i).map (· ^^^ x)).length = i := by rw [List.length_map, List.length_take]; omega
  rw [List.getElem_append_right (by omega)]
  simp only [hl, Nat.sub_self, List.getElem_drop, Nat.add_zero]

set_option maxRecDepth 100000 in
set_option maxHeartbeats 1000000 in
theorem seal1_any (x : UInt8) (q : Nat) (K : List UInt8) (w : World) (hc : w.cell? ⟨q, 0, none⟩ = some (.string (bs K))) (hK : K.length ≤ 4611686018427387904) :
    Calls Tryd.prog 65 #[.int .u8 (x.toNat : Int), .pointer (some ⟨q, 0, none⟩)] w fun e w' => e = .returned (.string (bs (K.map (· ^^^ x)))) ∧ Gr w w' := by
  obtain ⟨w2, cap, hcv, hg2, hB⟩ := conv_brow Tryd.underlying9 Tryd.underlying69 Tryd.underlying5 w K (by unfold maxLen; omega)
  have hM : mixL x K 0 = K := rfl
  go_enter Tryd.func65, Tryd.ntmps65
  go_wp2_with fail
  go_loopw [10, 5] (fun iv _ wr => ∃ i : Nat, iv = .int .i64 (i : Int) ∧ i ≤ K.length ∧ BRow wr w.heap.size w.heap.size cap (mixL x K i) ∧ Gr w wr)
    (fun iv _ _ => K.length - (intOf iv).toNat)
  case atStart => exact ⟨0, rfl, by omega, by rw [hM]; exact hB, hg2⟩
  case round =>
    clear hM hcv hB hg2 hc
    obtain ⟨i, rfl, hi, hB, hg⟩ := hrel
    have hl := mixL_len x K i
    by_cases hlt : i < K.length
    · have hli : (i : Int) < (K.length : Int) := by omega
      have hcl := hB.at_ i (byteV K[i]) (by rw [List.getElem?_map, List.getElem?_eq_getElem (by omega), mixL_at x K i hlt]; rfl)
      have hf := (hB.there i (by have := hB.le; omega)).2
      obtain ⟨c, hcc⟩ : ∃ c, c = K[i] := ⟨_, rfl⟩
      have hset := mixL_set x K i hlt
      rw [← hcc] at hset hcl
      have HS := sec hset
      unfold byteV at hcl
      have HL := sec (show i < (mixL x K i).length by omega)
      have hx : bits .xor .u8 (c.toNat : Int) (x.toNat : Int) = ((c ^^^ x).toNat : Int) := by
        have h1 := c.toNat_lt
        have h2 := x.toNat_lt
        rw [u8_xor_nat c.toNat x.toNat (by omega) (by omega), UInt8.toNat_xor]
      clear hset hcc hl
      go_wp2_with fail
      go_roundw
      case rel =>
        refine ⟨i + 1, by go_num, by omega, ?_, hg.setCell (by simp) _⟩
        rw [← HS.out]
        exact hB.set i HL.out (c ^^^ x)
      case measure => simp [intOf]; omega
    · obtain rfl : i = K.length := by omega
      have he : mixL x K K.length = K.map (· ^^^ x) := by unfold mixL; simp
      have hcv := hB.conv Tryd.underlying69 Tryd.underlying5 Tryd.underlying9
      rw [hl, he] at hcv
      clear hl he hlt hi
      go_wp2_with fail
      go_ret
      exact ⟨rfl, hg⟩

def padK (K : List UInt8) : List UInt8 := K ++ List.replicate (64 - K.length) 0
theorem padK_xor (x : UInt8) (K : List UInt8) (h : K.length ≤ 64) : (padK K).map (· ^^^ x) = xorPad x K := by
  apply List.ext_getElem
  · rw [xorPad_len]; unfold padK; simp; omega
  · intro i h1 h2
    unfold padK xorPad at *
    simp only [List.getElem_map, List.getElem_range]
    by_cases e : i < K.length
    · rw [List.getElem_append_left e]; simp [e]
    · rw [List.getElem_append_right (by omega)]
      simp only [List.getElem_replicate]
      have : K.getD i 0 = 0 := by simp [List.getD]; rw [List.getElem?_eq_none (by omega)]; rfl
      rw [this]

set_option maxRecDepth 100000 in
set_option maxHeartbeats 1000000 in
theorem rseal_any (key b : List UInt8) (w : World) (hk : key.length ≤ 288230376151711744) (hb : b.length ≤ 288230376151711744) :
    Calls Tryd.prog 39 #[.string (bs key), .string (bs b)] w fun e w' => e = .returned (.string (bs (seal' key b))) ∧ Gr w w' := by
  obtain ⟨K, hK⟩ : ∃ K, K = keyOf key := ⟨_, rfl⟩
  have hKl : K.length ≤ 64 := by rw [hK]; exact keyOf_len key
  have HF : Sec (seal' key b = sha (xorPad 0x5c K ++ sha (xorPad 0x36 K ++ b))) := sec (by rw [hK]; rfl)
  have HK := sec hK
  have hmf : ∀ (fn : Fn) (first cap : Array Value) (w : World), (Instr.makeFunc fn first cap).run Tryd.prog w = .ok (.func fn first cap) w := fun _ _ _ _ => rfl
  clear hK
  have K5 := sec (padK_xor 0x5c K hKl)
  have K6 := sec (padK_xor 0x36 K hKl)
  have c5 : ∀ (q : Nat) (w : World), w.cell? ⟨q, 0, none⟩ = some (.string (bs (padK K))) → Calls Tryd.prog 65 #[.int .u8 92, .pointer (some ⟨q, 0, none⟩)] w fun e w' => e = .returned (.string (bs (xorPad 0x5c K))) ∧ Gr w w' := by
    intro q w hc
    rw [← K5.out]
    exact seal1_any 0x5c q (padK K) w hc (by unfold padK; simp; omega)
  have c6 : ∀ (q : Nat) (w : World), w.cell? ⟨q, 0, none⟩ = some (.string (bs (padK K))) → Calls Tryd.prog 65 #[.int .u8 54, .pointer (some ⟨q, 0, none⟩)] w fun e w' => e = .returned (.string (bs (xorPad 0x36 K))) ∧ Gr w w' := by
    intro q w hc
    rw [← K6.out]
    exact seal1_any 0x36 q (padK K) w hc (by unfold padK; simp; omega)
  have C5 := sec c5
  have C6 := sec c6
  clear c5 c6
  by_cases hlt : 64 < key.length
  · have HS : Sec (sha key = K) := sec (by rw [HK.out]; unfold keyOf; rw [if_pos hlt])
    have hlti : (64 : Int) < (key.length : Int) := by omega
    go_enter Tryd.func39, Tryd.ntmps39
    go_wp2_with (go_at_call 64; refine (rsum_any key _ (by omega)).mono ?_; rw [HS.out]; rintro e w1 ⟨rfl, g1⟩; have hb1 := (Blk.new w 9 #[Value.string (bs key)]).gr g1; have hc1 := hb1.cell 0; have hf1 := hb1.frozen 0)
    obtain ⟨q, hq⟩ : ∃ q, q = w.heap.size := ⟨_, rfl⟩
    have hqs : w.heap.size ≤ q := by rw [hq]; exact Nat.le_refl _
    have HB : Sec (Blk (w1.setCell ⟨q, 0, none⟩ (.string (bs K))) q 9 #[.string (bs K)]) := sec (by
      rw [hq]
      exact hb1.set_ 0 (.string (bs K)))
    have HG : Sec (Gr w (w1.setCell ⟨q, 0, none⟩ (.string (bs K)))) := sec ((Gr.trans ((Gr.refl w).alloc _) g1).setCell (by simpa using hqs) _)
    clear hb1 hc1 hf1 g1
    rw [← hq]
    clear hq
    go_loopw [] (fun wr => ∃ j : Nat, j ≤ 64 - K.length ∧ Blk wr q 9 #[.string (bs (K ++ List.replicate j 0))] ∧ Gr w wr)
      (fun wr => 64 - lenOf ((wr.cell? ⟨q, 0, none⟩).getD (.int .i64 0)))
    case atStart => exact ⟨0, by omega, by rw [List.replicate_zero, List.append_nil]; exact HB.out, HG.out⟩
    case round =>
      obtain ⟨j, hj, hB, hg⟩ := hrel
      have hc := hB.cell 0
      have hf := hB.frozen 0
      have hll : (K ++ List.replicate j (0 : UInt8)).length = K.length + j := by simp
      by_cases hjl : j < 64 - K.length
      · obtain ⟨L, hL⟩ : ∃ L, L = K ++ List.replicate j (0 : UInt8) := ⟨_, rfl⟩
        rw [← hL] at hc hB hll
        have hlt : (L.length : Int) < 64 := by omega
        have h63 : ¬ 9223372036854775807 < L.length + 1 := by omega
        have HL := sec hL
        have HJ := sec hjl
        simp at hc
        clear hL hjl hj hll
        go_wp2_with fail
        go_roundw
        case rel => exact ⟨j + 1, by have := HJ.out; omega, by rw [List.replicate_succ', ← List.append_assoc, ← HL.out]; exact hB.set_ 0 _, hg.setCell (by simpa using hqs) _⟩
        case measure =>
          have h2 := (hB.set_ 0 (.string (bs (L ++ [0])))).cell 0
          simp [h2, hc, lenOf, bs_size]
          omega
      · obtain rfl : j = 64 - K.length := by omega
        have hlt : ¬ ((K ++ List.replicate (64 - K.length) (0 : UInt8)).length : Int) < 64 := by omega
        have HP : K ++ List.replicate (64 - K.length) (0 : UInt8) = padK K := rfl
        rw [HP] at hc hB hlt
        simp at hc
        clear hll hj hjl HP
        have hP5 : (xorPad 0x5c K).length = 64 := xorPad_len _ _
        have hP6 : (xorPad 0x36 K).length = 64 := xorPad_len _ _
        obtain ⟨P5, hQ5⟩ : ∃ P, P = xorPad 0x5c K := ⟨_, rfl⟩
        obtain ⟨P6, hQ6⟩ : ∃ P, P = xorPad 0x36 K := ⟨_, rfl⟩
        rw [← hQ5, ← hQ6] at HF
        rw [← hQ5] at hP5 C5
        rw [← hQ6] at hP6 C6
        have hl6 : ¬ 9223372036854775807 < P6.length + b.length := by omega
        have hl5 : ¬ 9223372036854775807 < P5.length + (sha (P6 ++ b)).length := by rw [sha_len]; omega
        have HL6 : Sec ((P6 ++ b).length ≤ 576460752303423488) := sec (by rw [List.length_append]; omega)
        have HL5 : Sec ((P5 ++ sha (P6 ++ b)).length ≤ 576460752303423488) := sec (by rw [List.length_append, sha_len]; omega)
        clear hQ5 hQ6 hP5 hP6
        go_wp2_with (first
          | (go_at_call 65; with_reducible refine Calls.mono (C5.out q _ hc) ?_; rintro e w3 ⟨rfl, g3⟩; have c3 := (hB.gr g3).cell 0; simp at c3; have gg3 := hg.trans g3)
          | (go_at_call 65; with_reducible refine Calls.mono (C6.out q _ c3) ?_; rintro e w4 ⟨rfl, g4⟩; have gg4 := gg3.trans g4)
          | (go_at_call 64; with_reducible refine Calls.mono (rsum_any (P6 ++ b) _ HL6.out) ?_; rintro e w5 ⟨rfl, g5⟩; have gg5 := gg4.trans g5)
          | (go_at_call 64; with_reducible refine Calls.mono (rsum_any (P5 ++ sha (P6 ++ b)) _ HL5.out) ?_; rintro e w6 ⟨rfl, g6⟩; have gg6 := gg5.trans g6))
        go_ret
        exact ⟨by rw [HF.out]; rfl, gg6⟩
  · have hlti : ¬ (64 : Int) < (key.length : Int) := by omega
    obtain rfl : K = key := by rw [HK.out]; unfold keyOf; rw [if_neg hlt]
    go_enter Tryd.func39, Tryd.ntmps39
    go_wp2_with fail
    obtain ⟨q, hq⟩ : ∃ q, q = w.heap.size := ⟨_, rfl⟩
    have hqs : w.heap.size ≤ q := by rw [hq]; exact Nat.le_refl _
    have HB : Sec (Blk (w.alloc (.cells #[.string (bs K)] 9)) q 9 #[.string (bs K)]) := sec (by
      rw [hq]
      exact Blk.new w _ _)
    have HG : Sec (Gr w (w.alloc (.cells #[.string (bs K)] 9))) := sec ((Gr.refl w).alloc _)
    rw [← hq]
    clear hq
    go_loopw [] (fun wr => ∃ j : Nat, j ≤ 64 - K.length ∧ Blk wr q 9 #[.string (bs (K ++ List.replicate j 0))] ∧ Gr w wr)
      (fun wr => 64 - lenOf ((wr.cell? ⟨q, 0, none⟩).getD (.int .i64 0)))
    case atStart => exact ⟨0, by omega, by rw [List.replicate_zero, List.append_nil]; exact HB.out, HG.out⟩
    case round =>
      obtain ⟨j, hj, hB, hg⟩ := hrel
      have hc := hB.cell 0
      have hf := hB.frozen 0
      have hll : (K ++ List.replicate j (0 : UInt8)).length = K.length + j := by simp
      by_cases hjl : j < 64 - K.length
      · obtain ⟨L, hL⟩ : ∃ L, L = K ++ List.replicate j (0 : UInt8) := ⟨_, rfl⟩
        rw [← hL] at hc hB hll
        have hlt : (L.length : Int) < 64 := by omega
        have h63 : ¬ 9223372036854775807 < L.length + 1 := by omega
        have HL := sec hL
        have HJ := sec hjl
        simp at hc
        clear hL hjl hj hll
        go_wp2_with fail
        go_roundw
        case rel => exact ⟨j + 1, by have := HJ.out; omega, by rw [List.replicate_succ', ← List.append_assoc, ← HL.out]; exact hB.set_ 0 _, hg.setCell (by simpa using hqs) _⟩
        case measure =>
          have h2 := (hB.set_ 0 (.string (bs (L ++ [0])))).cell 0
          simp [h2, hc, lenOf, bs_size]
          omega
      · obtain rfl : j = 64 - K.length := by omega
        have hlt : ¬ ((K ++ List.replicate (64 - K.length) (0 : UInt8)).length : Int) < 64 := by omega
        have HP : K ++ List.replicate (64 - K.length) (0 : UInt8) = padK K := rfl
        rw [HP] at hc hB hlt
        simp at hc
        clear hll hj hjl HP
        have hP5 : (xorPad 0x5c K).length = 64 := xorPad_len _ _
        have hP6 : (xorPad 0x36 K).length = 64 := xorPad_len _ _
        obtain ⟨P5, hQ5⟩ : ∃ P, P = xorPad 0x5c K := ⟨_, rfl⟩
        obtain ⟨P6, hQ6⟩ : ∃ P, P = xorPad 0x36 K := ⟨_, rfl⟩
        rw [← hQ5, ← hQ6] at HF
        rw [← hQ5] at hP5 C5
        rw [← hQ6] at hP6 C6
        have hl6 : ¬ 9223372036854775807 < P6.length + b.length := by omega
        have hl5 : ¬ 9223372036854775807 < P5.length + (sha (P6 ++ b)).length := by rw [sha_len]; omega
        have HL6 : Sec ((P6 ++ b).length ≤ 576460752303423488) := sec (by rw [List.length_append]; omega)
        have HL5 : Sec ((P5 ++ sha (P6 ++ b)).length ≤ 576460752303423488) := sec (by rw [List.length_append, sha_len]; omega)
        clear hQ5 hQ6 hP5 hP6
        go_wp2_with (first
          | (go_at_call 65; with_reducible refine Calls.mono (C5.out q _ hc) ?_; rintro e w3 ⟨rfl, g3⟩; have c3 := (hB.gr g3).cell 0; simp at c3; have gg3 := hg.trans g3)
          | (go_at_call 65; with_reducible refine Calls.mono (C6.out q _ c3) ?_; rintro e w4 ⟨rfl, g4⟩; have gg4 := gg3.trans g4)
          | (go_at_call 64; with_reducible refine Calls.mono (rsum_any (P6 ++ b) _ HL6.out) ?_; rintro e w5 ⟨rfl, g5⟩; have gg5 := gg4.trans g5)
          | (go_at_call 64; with_reducible refine Calls.mono (rsum_any (P5 ++ sha (P6 ++ b)) _ HL5.out) ?_; rintro e w6 ⟨rfl, g6⟩; have gg6 := gg5.trans g6))
        go_ret
        exact ⟨by rw [HF.out]; rfl, gg6⟩
end Go.Proofs.YtkgmimmneeppgaaDoor

namespace Go.Proofs.YtkgmimmneeppgaaDoor
set_option maxRecDepth 100000
open Go.RowKit
set_option linter.unusedVariables false
def hd4 : List UInt8 := [104, 101, 97, 100]
theorem hdTxt_len (n : Int) (r : List UInt8) : (hdTxt n r).1.length ≤ 64 := by
  unfold hdTxt
  split
  · rename_i hE
    obtain ⟨h0, h1, h2⟩ := hdE_zero hE
    have hnl : (numS n).length ≤ 9 := by rw [numS_in h0 (by omega)]; exact num_len9 (by omega)
    simp only [List.length_append]
    omega
  · simp

end Go.Proofs.YtkgmimmneeppgaaDoor

namespace Go.Proofs.YtkgmimmneeppgaaDoor
set_option maxRecDepth 100000
open Go.RowKit Go.ChangeShapes Go.WideShapes
theorem flat_single {α β : Type} (f : α → β) : ∀ xs : List α, xs.flatMap (fun l => [f l]) = xs.map f
  | [] => rfl
  | x :: r => by rw [List.flatMap_cons, flat_single f r]; rfl
end Go.Proofs.YtkgmimmneeppgaaDoor

namespace Go.Proofs.YtkgmimmneeppgaaDoor
open Go.RowKit
set_option linter.unusedVariables false
theorem strV_oneCell {ss : List (List UInt8)} : ∀ u ∈ ss.map strV, u.oneCell' = true := by
  intro u hu
  obtain ⟨c, _, rfl⟩ := List.mem_map.1 hu
  rfl
set_option maxRecDepth 100000 in
set_option maxHeartbeats 1000000 in
theorem strings_any (ss : List (List UInt8)) (m : Nat) (A : Option Addr) (cap : Nat) (w : World) (hm : m ≤ 1099511627776) (hrow : StrRow w A m ss) (hA : A = none → m = 0 ∧ cap = 0) :
    Calls Tryd.prog 37 #[.slice A m cap] w fun e w' => ∃ A' cap', e = .returned (.slice A' m cap') ∧ w'.ownsRow w.heap.size 9 1 (.slice A' m cap') m (ss.map strV) ∧ Gr w w' := by
  obtain ⟨i0, hi0, hz0, hz1, hz2⟩ := info_parts E.str.info
  have hlen := hrow.len
  cases A with
  | none =>
    obtain ⟨rfl, rfl⟩ := hA rfl
    obtain rfl : ss = [] := List.eq_nil_of_length_eq_zero hlen
    go_enter Tryd.func37, Tryd.ntmps37
    go_wp2_with (refine wpList_append_own_none rfl (.const (.slice none 0 0)) (.tmp 3) 22 rfl w.heap.size 9 i0 1 E.str.under hi0 _ 0 [] rfl (World.ownsRow_nil _ _ _ _) rfl ?_)
    go_ret
    exact ⟨none, 0, rfl, World.ownsRow_nil _ _ _ _, Gr.refl _⟩
  | some ad =>
    have hnews : ∀ j u, (ss.map strV)[j]? = some u → w.cell? (ad.add j) = some u := by
      intro j u hu
      have hj : j < ss.length := by have := (List.getElem?_eq_some_iff.1 hu).1; simpa using this
      obtain ⟨b, off, e, hc⟩ := Row.at_ hrow (by omega)
      injection e with e
      subst e
      have : (⟨b, off, none⟩ : Addr).add j = ⟨b, off + j, none⟩ := by unfold Addr.add; split <;> simp_all
      rw [this]
      exact hc j u hu
    have HN := sec hnews
    have HL := sec hlen
    clear hnews hrow
    go_enter Tryd.func37, Tryd.ntmps37
    go_wp2_with (refine wpList_append_own _ rfl (.const (.slice none 0 0)) (.tmp 3) 22 rfl w.heap.size 9 i0 (.string (bs [])) 1 16 E.str.under hi0 hz0 hz1 hz2 E.str.zcells (by omega) _ 0 [] rfl (World.ownsRow_nil _ _ _ _) ad m cap (ss.map strV) rfl (by rw [List.length_map, HL.out, Nat.mul_one]) HN.out strV_oneCell (by unfold maxLen; omega) (by omega) (Nat.le_refl _) ?_; intro v' w' hown hgr hnil)
    go_ret
    rw [Nat.zero_add, List.nil_append] at hown
    have hg : Gr w w' := (Gr.refl w).grown hgr (by rintro k hk; cases hk)
    rcases hown.2 with ⟨rfl, h0⟩ | ⟨g, cap', cur, rfl, _⟩
    · subst h0
      exact ⟨none, 0, rfl, hown, hg⟩
    · exact ⟨some ⟨g, 0, none⟩, cap', rfl, hown, hg⟩
end Go.Proofs.YtkgmimmneeppgaaDoor

namespace Go.Proofs.YtkgmimmneeppgaaDoor
set_option maxRecDepth 100000
open Go.RowKit Go.ChangeShapes Go.WideShapes
set_option linter.unusedVariables false
/-! ### marks in a row -/
def markL (x : Int × List UInt8) : List Value := [.int .i64 x.1, .string (bs x.2)]
theorem E.mark : ElemOk 27 63 (.agg #[.int .i64 0, .string (bs [])]) 2 24 := ⟨Tryd.underlying27, by kernel_rfl, rfl, by omega⟩
theorem markL_one {fs : List (Int × List UInt8)} : ∀ u ∈ fs.flatMap markL, u.oneCell' = true := by
  intro u hu
  obtain ⟨f, _, h⟩ := List.mem_flatMap.1 hu
  simp only [markL, List.mem_cons, List.not_mem_nil, or_false] at h
  rcases h with rfl | rfl <;> rfl
def MRow (w : World) (A : Option Addr) (n : Nat) (ms : List (Int × List UInt8)) : Prop := Row w 2 A n (ms.flatMap markL)
theorem MRow.gr {w w' : World} {A : Option Addr} {n : Nat} {ms : List (Int × List UInt8)} (h : MRow w A n ms) (g : Gr w w') : MRow w' A n ms := Row.gr h g
theorem MRow.len {w : World} {A : Option Addr} {n : Nat} {ms : List (Int × List UInt8)} (h : MRow w A n ms) : ms.length = n := Row.flen markL (fun _ => rfl) (by omega) h
theorem MRow.cell {w : World} {A : Option Addr} {n : Nat} {ms : List (Int × List UInt8)} (h : MRow w A n ms) {i : Nat} (hi : i < ms.length) :
    ∃ b off, A = some ⟨b, off, none⟩ ∧ w.cell? ⟨b, off + i * 2, none⟩ = some (.int .i64 ms[i].1) ∧ w.cell? ⟨b, off + i * 2 + 1, none⟩ = some (.string (bs ms[i].2)) := by
  obtain ⟨b, off, e, _, hc⟩ := Row.fcell markL (fun _ => rfl) (by omega) h hi
  exact ⟨b, off, e, hc 0 _ rfl, hc 1 _ rfl⟩

/-! ### keys and a sealed head as arguments -/
def szMark (x : Int × List UInt8) : Nat := x.2.length + 1
theorem opens_mark (w : World) : Opens w 63 2 (fun cs (x : Int × List UInt8) => cs = markL x) szMark :=
  (opens_struct Tryd.underlying63 (by kernel_rfl) (opensF_cons rfl (opens_int Tryd.underlying3 (by kernel_rfl) w) (opensF_cons rfl (opens_string Tryd.underlying9 (by kernel_rfl) w) (opensF_nil w 2)))).map
    (fun a => (a.1, a.2.1)) (by
      rintro cs ⟨n, r, _⟩ ⟨c1, c2, rfl, _, h1, d1, d2, rfl, _, h2, h3⟩
      obtain ⟨h1, h1'⟩ := h1
      simp only [strR] at h1 h2
      simp only [nilR] at h3
      subst h1
      subst h2
      subst h3
      rfl) (by intro a; simp only [szMark]; omega)
structure StrsIn (w : World) (A : Option Addr) (c : Nat) (l : List (List UInt8)) : Prop where
  row : StrRow w A l.length l
  len : l.length ≤ 1048576
  size : ∀ x ∈ l, x.length ≤ 1048576
  cap : l.length ≤ c
  nil : A = none → l.length = 0 ∧ c = 0
def szStr (l : List UInt8) : Nat := l.length + 1
theorem strs_in {w : World} {A : Option Addr} {c : Nat} {l : List (List UInt8)} (hR : sliceR w 1 strR [.slice A l.length c] l) (hb : szs szStr l ≤ 1048576) : StrsIn w A c l := by
  obtain ⟨A', c', e', h1, h2, hrow⟩ := sliceR_row (k := 1) (fun l => [strV l]) (fun _ => rfl) (by omega) (fun ci x h => h) hR
  simp only [List.cons.injEq, and_true, Value.slice.injEq, true_and] at e'
  obtain ⟨rfl, rfl⟩ := e'
  obtain ⟨A2, c2, e2, _, h3, _⟩ := hR
  simp only [List.cons.injEq, and_true, Value.slice.injEq, true_and] at e2
  obtain ⟨rfl, rfl⟩ := e2
  have hl := szs_len szStr (fun x => Nat.succ_le_succ (Nat.zero_le _)) l
  rw [flat_single] at hrow
  refine ⟨hrow, by omega, fun x hx => ?_, h1, fun h => ?_⟩
  · have h5 := szs_mem szStr hx
    unfold szStr at h5 hb
    omega
  · have := h3.2 h
    omega
structure MarksIn (w : World) (A : Option Addr) (c : Nat) (l : List (Int × List UInt8)) : Prop where
  row : MRow w A l.length l
  len : l.length ≤ 1048576
  size : ∀ x ∈ l, x.2.length ≤ 1048576
  cap : l.length ≤ c
  nil : A = none → l.length = 0 ∧ c = 0
theorem marks_in {w : World} {A : Option Addr} {c : Nat} {l : List (Int × List UInt8)} (hR : sliceR w 2 (fun cs (x : Int × List UInt8) => cs = markL x) [.slice A l.length c] l) (hb : szs szMark l ≤ 1048576) : MarksIn w A c l := by
  obtain ⟨A', c', e', h1, h2, hrow⟩ := sliceR_row markL (fun _ => rfl) (by omega) (fun ci x h => h) hR
  simp only [List.cons.injEq, and_true, Value.slice.injEq, true_and] at e'
  obtain ⟨rfl, rfl⟩ := e'
  obtain ⟨A2, c2, e2, _, h3, _⟩ := hR
  simp only [List.cons.injEq, and_true, Value.slice.injEq, true_and] at e2
  obtain ⟨rfl, rfl⟩ := e2
  have hl := szs_len szMark (fun x => Nat.succ_le_succ (Nat.zero_le _)) l
  refine ⟨hrow, by omega, fun x hx => ?_, h1, fun h => ?_⟩
  · have h5 := szs_mem szMark hx
    unfold szMark at h5 hb
    omega
  · have := h3.2 h
    omega
def keysA (A : Option Addr) (n c : Nat) (B : Option Addr) (m d : Nat) (need : Int) : Array Value := #[.slice A n c, .slice B m d, .int .i64 need]
def sealA (n : Int) (r : List UInt8) (A : Option Addr) (k c : Nat) : Array Value := #[.int .i64 n, .string (bs r), .slice A k c]
theorem opens_keys (w : World) : Opens w 24 3 (fun cs (x : List (List UInt8) × List (List UInt8) × Int) => ∃ A c B d, cs = [.slice A x.1.length c, .slice B x.2.1.length d, .int .i64 x.2.2] ∧ sliceR w 1 strR [.slice A x.1.length c] x.1 ∧ sliceR w 1 strR [.slice B x.2.1.length d] x.2.1) (fun x => szs szStr x.1 + szs szStr x.2.1) :=
  (opens_struct Tryd.underlying24 (by kernel_rfl) (opensF_cons rfl (opens_slice Tryd.underlying22 (by kernel_rfl) (opens_string Tryd.underlying9 (by kernel_rfl) w) (by omega)) (opensF_cons rfl (opens_slice Tryd.underlying22 (by kernel_rfl) (opens_string Tryd.underlying9 (by kernel_rfl) w) (by omega)) (opensF_cons rfl (opens_int Tryd.underlying3 (by kernel_rfl) w) (opensF_nil w 3))))).map
    (fun a => (a.1, a.2.1, a.2.2.1)) (by
      rintro cs ⟨ss, ws, n, _⟩ ⟨c1, c2, rfl, _, h1, d1, d2, rfl, _, h2, e1, e2, rfl, _, h3, h4⟩
      have h1' := h1
      have h2' := h2
      obtain ⟨A, c, hc, _⟩ := h1
      obtain ⟨B, d, hd, _⟩ := h2
      simp only at hc hd
      subst hc
      subst hd
      obtain ⟨h5, _⟩ := h3
      simp only at h5
      subst h5
      simp only [nilR] at h4
      subst h4
      exact ⟨A, c, B, d, rfl, h1', h2'⟩) (by intro a; simp only; unfold szStr; omega)
theorem opens_sealed (w : World) : Opens w 29 3 (fun cs (x : (Int × List UInt8) × List (Int × List UInt8)) => ∃ A c, cs = [.int .i64 x.1.1, .string (bs x.1.2), .slice A x.2.length c] ∧ sliceR w 2 (fun cs (x : Int × List UInt8) => cs = markL x) [.slice A x.2.length c] x.2) (fun x => x.1.2.length + szs szMark x.2) :=
  (opens_struct Tryd.underlying29 (by kernel_rfl) (opensF_cons rfl (opens_headD w) (opensF_cons rfl (opens_slice Tryd.underlying27 (by kernel_rfl) (opens_mark w) (by omega)) (opensF_nil w 3)))).map
    (fun a => (a.1, a.2.1)) (by
      rintro cs ⟨⟨n, r⟩, ms, _⟩ ⟨c1, c2, rfl, _, h1, d1, d2, rfl, _, h2, h3⟩
      obtain ⟨h1, h1'⟩ := h1
      simp only at h1
      subst h1
      have h2' := h2
      obtain ⟨A, c, hc, _⟩ := h2
      simp only at hc
      subst hc
      simp only [nilR] at h3
      subst h3
      exact ⟨A, c, rfl, h2'⟩) (by intro a; simp only; omega)
theorem open_keys {w : World} {r : Reach} {base : Nat} {H : Type} {enc : TypeId × Value → H} {v : Value} {d : DataW H} {p : List MemPlace}
    (hv : Value.okWide Tryd.prog w r base 24 v) (hd : DataW.Trod enc Tryd.prog w 0 (fun _ => true) true 24 v d p) (hb : Rows.uptoBulk d ≤ 1048576) :
    ∃ A c B e need ss ws, v = .agg (keysA A (List.length ss) c B (List.length ws) e need) ∧ StrsIn w A c ss ∧ StrsIn w B e ws := by
  obtain ⟨cs, ⟨ss, ws, need⟩, rfl, ⟨A, c, B, e, hc, h1, h2⟩, hs⟩ := open_structD_arg Tryd.underlying24 (opens_keys w) hv hd
  simp only at hc h1 h2 hs
  refine ⟨A, c, B, e, need, ss, ws, ?_, strs_in h1 (by omega), strs_in h2 (by omega)⟩
  unfold keysA
  congr 1
  exact Array.toList_inj.1 hc
theorem open_sealed {w : World} {r : Reach} {base : Nat} {H : Type} {enc : TypeId × Value → H} {v : Value} {d : DataW H} {p : List MemPlace}
    (hv : Value.okWide Tryd.prog w r base 29 v) (hd : DataW.Trod enc Tryd.prog w 0 (fun _ => true) true 29 v d p) (hb : Rows.uptoBulk d ≤ 1048576) :
    ∃ n rt A c ms, v = .agg (sealA n rt A (List.length ms) c) ∧ MarksIn w A c ms ∧ rt.length ≤ 1048576 := by
  obtain ⟨cs, ⟨⟨n, rt⟩, ms⟩, rfl, ⟨A, c, hc, h1⟩, hs⟩ := open_structD_arg Tryd.underlying29 (opens_sealed w) hv hd
  simp only at hc h1 hs
  refine ⟨n, rt, A, c, ms, ?_, marks_in h1 (by omega), by omega⟩
  unfold sealA
  congr 1
  exact Array.toList_inj.1 hc

/-! ### P11.5 -/
/-- the marks behind a last one: the error -/
def ckM (ws : List (List UInt8)) (b : List UInt8) : Int → List (Int × List UInt8) → Int
  | _, [] => 0
  | last, (w, s) :: r => if w ≤ last ∨ 3 < w ∨ (ws.length : Int) ≤ w then 3 else if seal' (ws.getD w.toNat []) b = s then ckM ws b w r else 13
/-- P11.5: the error -/
def ckH (ws : List (List UInt8)) (n : Int) (r : List UInt8) (ms : List (Int × List UInt8)) : Int :=
  if (hdTxt n r).2 = 0 then (if ckM ws (hd4 ++ (hdTxt n r).1) (-1) ms = 0 then (if ms.length < 3 then 13 else 0) else ckM ws (hd4 ++ (hdTxt n r).1) (-1) ms) else (hdTxt n r).2
/-- where the loop stands: i marks seen, all of them right; the last one's number -/
def ckSeen (ws : List (List UInt8)) (b : List UInt8) (ms : List (Int × List UInt8)) (i : Nat) (last : Int) : Prop :=
  ckM ws b (-1) ms = ckM ws b last (ms.drop i) ∧ (i = 0 → last = -1) ∧ (∀ h : 0 < i ∧ i ≤ ms.length, last = (ms[i - 1]'(by omega)).1 ∧ 0 ≤ last)
theorem ckSeen0 (ws : List (List UInt8)) (b : List UInt8) (ms : List (Int × List UInt8)) : ckSeen ws b ms 0 (-1) := ⟨rfl, fun _ => rfl, fun h => absurd h.1 (by omega)⟩
theorem ckM_cons (ws : List (List UInt8)) (b : List UInt8) (last w : Int) (s : List UInt8) (r : List (Int × List UInt8)) :
    ckM ws b last ((w, s) :: r) = if w ≤ last ∨ 3 < w ∨ (ws.length : Int) ≤ w then 3 else if seal' (ws.getD w.toNat []) b = s then ckM ws b w r else 13 := rfl
theorem ckSeen.here {ws : List (List UInt8)} {b : List UInt8} {ms : List (Int × List UInt8)} {i : Nat} {last : Int} (h : ckSeen ws b ms i last) (hi : i < ms.length) :
    ckM ws b (-1) ms = if ms[i].1 ≤ last ∨ 3 < ms[i].1 ∨ (ws.length : Int) ≤ ms[i].1 then 3 else if seal' (ws.getD ms[i].1.toNat []) b = ms[i].2 then ckM ws b ms[i].1 (ms.drop (i + 1)) else 13 := by
  rw [h.1, List.drop_eq_getElem_cons hi]
  exact ckM_cons ..
theorem ckSeen.next {ws : List (List UInt8)} {b : List UInt8} {ms : List (Int × List UInt8)} {i : Nat} {last : Int} (h : ckSeen ws b ms i last) (hi : i < ms.length)
    (h1 : ¬ (ms[i].1 ≤ last ∨ 3 < ms[i].1 ∨ (ws.length : Int) ≤ ms[i].1)) (h2 : seal' (ws.getD ms[i].1.toNat []) b = ms[i].2) : ckSeen ws b ms (i + 1) ms[i].1 := by
  refine ⟨?_, fun e => absurd e (by omega), fun _ => ⟨rfl, ?_⟩⟩
  · rw [h.here hi, if_neg h1, if_pos h2]
  · have hl : -1 ≤ last := by
      by_cases e : i = 0
      · have := h.2.1 e; omega
      · have := (h.2.2 ⟨by omega, by omega⟩).2; omega
    omega
theorem ckSeen.done {ws : List (List UInt8)} {b : List UInt8} {ms : List (Int × List UInt8)} {i : Nat} {last : Int} (h : ckSeen ws b ms i last) (hi : ms.length ≤ i) : ckM ws b (-1) ms = 0 := by
  rw [h.1, List.drop_eq_nil_of_le hi]
  rfl
theorem ckSeen.low {ws : List (List UInt8)} {b : List UInt8} {ms : List (Int × List UInt8)} {i : Nat} {last : Int} (h : ckSeen ws b ms i last) (hi : i ≤ ms.length) : -1 ≤ last := by
  by_cases e : i = 0
  · have := h.2.1 e; omega
  · have := (h.2.2 ⟨by omega, by omega⟩).2; omega
end Go.Proofs.YtkgmimmneeppgaaDoor

namespace Go.Proofs.YtkgmimmneeppgaaDoor
set_option maxRecDepth 100000
open Go.RowKit
set_option linter.unusedVariables false
/-- P10.5: is a seal right -/
def rgB (ss : List (List UInt8)) (b : List UInt8) (w : Int) (sl : List UInt8) : Bool := decide (w < (ss.length : Int)) && (seal' (ss.getD w.toNat []) b == sl)
def rgL (ss : List (List UInt8)) (b : List UInt8) (s : Stp) : List Bool := List.zipWith (rgB ss b) s.who s.seals
/-- P10.5: the error -/
def stCk (ss : List (List UInt8)) (need at_ : Int) (s : Stp) : Int :=
  if stE s = 0 then (if (bodyR at_ s).2 = 0 then (if (rgL ss (bodyR at_ s).1 s).all id = true ∧ need ≤ (s.who.length : Int) then 0 else 13) else (bodyR at_ s).2) else stE s
theorem rgL_len {ss : List (List UInt8)} {b : List UInt8} {s : Stp} (h : s.seals.length = s.who.length) : (rgL ss b s).length = s.who.length := by
  unfold rgL; rw [List.length_zipWith, h, Nat.min_self]
theorem rgL_get {ss : List (List UInt8)} {b : List UInt8} {s : Stp} {i : Nat} (hi : i < s.who.length) (hs : i < s.seals.length) (h : i < (rgL ss b s).length) : (rgL ss b s)[i] = rgB ss b s.who[i] s.seals[i] := by
  exact List.getElem_zipWith (h := h)
theorem all_take (l : List Bool) (i : Nat) (h : i < l.length) (ha : (l.take i).all id = true) : (l.take (i + 1)).all id = l[i] := by
  rw [List.take_succ_eq_append_getElem h, List.all_append, ha]; simp
theorem all_bad (l : List Bool) (i : Nat) (h : i < l.length) (hb : l[i] = false) : l.all id = false := by
  rw [List.all_eq_false]
  exact ⟨l[i], List.getElem_mem h, by simp [hb]⟩
set_option maxHeartbeats 8000000 in
theorem stCheck_any (A0 : Option Addr) (m c0 : Nat) (B0 : Option Addr) (m' d0 : Nat) (need : Int) (ss : List (List UInt8)) (at_ : Int) (s : Stp) (A : Option Addr) (c : Nat) (B : Option Addr) (d : Nat) (w : World)
    (hK : StrRow w A0 m ss) (hm : m ≤ 1099511627776) (hss : ∀ x ∈ ss, x.length ≤ 1099511627776) (hR : StR w s A c B d) (hz : StSz 1099511627776 s) (hT : TabK w) :
    Calls Tryd.prog 33 #[.agg (keysA A0 m c0 B0 m' d0 need), .int .i64 at_, .agg (stepA s A c B d)] w fun e w' => e = .returned (.int .i64 (stCk ss need at_ s)) ∧ Gr w w' := by
  obtain ⟨wa, hwa⟩ : ∃ x, x = (w.alloc (.cells (keysA A0 m c0 B0 m' d0 need) 24)).alloc (.cells (stepA s A c B d) 46) := ⟨_, rfl⟩
  have hk : Blk wa w.heap.size 24 (keysA A0 m c0 B0 m' d0 need) := by rw [hwa]; exact (Blk.new w _ _).alloc _
  have hb : Blk wa (w.heap.size + 1) 46 (stepA s A c B d) := by rw [hwa]; exact Blk.new1 w _ _ _
  have hg0 : Gr w wa := by rw [hwa]; exact ((Gr.refl w).alloc _).alloc _
  obtain ⟨p, hp⟩ : ∃ p, p = w.heap.size := ⟨_, rfl⟩
  rw [← hp] at hk hb
  have HGo : Sec (Calls Tryd.prog 25 #[.agg (stepA s A c B d)] wa fun e w' => e = .returned (.int .i64 (stE s)) ∧ Gr wa w') := sec (stGood_any s A c B d wa (hR.gr hg0) hz)
  have HBo : Sec (∀ W, Calls Tryd.prog 23 #[.int .i64 at_, .agg (stepA s A c B d)] W fun e w' => e = .returned (.tuple #[.string (bs (bodyR at_ s).1), .int .i64 (bodyR at_ s).2]) ∧ Gr W w') := sec (fun W => stBody_any at_ s A c B d W hz)
  have HBL := sec (bodyR_len at_ s)
  have HSe : Sec (∀ key : List UInt8, key.length ≤ 1099511627776 → ∀ w', Gr wa w' → Calls Tryd.prog 36 #[.string (bs key), .string (bs (bodyR at_ s).1)] w' fun e w'' => e = .returned (.string (bs (seal' key (bodyR at_ s).1))) ∧ Gr w' w'') := sec (fun key hkey w' g => seal_any key _ w' (hT.gr (hg0.trans g)) (by omega) (by have := HBL.out; omega))
  have HW := sec (hR.who.gr hg0)
  have HS := sec (hR.seals.gr hg0)
  have HKR := sec (hK.gr hg0)
  have HKL := sec (StrRow.len hK)
  have HSS := sec hss
  have hwl := hz.who
  have hsl := hz.seals
  have HSE := sec (fun h => stE_zero (s := s) h)
  obtain ⟨V, hV⟩ : ∃ V : Int, V = stCk ss need at_ s := ⟨_, rfl⟩
  rw [← hV]
  have HV := sec hV
  obtain ⟨E, hE⟩ : ∃ E, E = stE s := ⟨_, rfl⟩
  rw [← hE] at HGo HSE
  have HE := sec hE
  obtain ⟨b, hbb⟩ : ∃ b, b = (bodyR at_ s).1 := ⟨_, rfl⟩
  obtain ⟨be, hbe⟩ : ∃ b, b = (bodyR at_ s).2 := ⟨_, rfl⟩
  rw [← hbb, ← hbe] at HBo
  rw [← hbb] at HSe
  have HVV : Sec (V = if E = 0 then (if be = 0 then (if (rgL ss b s).all id = true ∧ need ≤ (s.who.length : Int) then 0 else 13) else be) else E) := sec (by rw [HV.out, hbb, hbe, hE]; rfl)
  clear hV hE hbb hbe HV HE HBL
  obtain ⟨r, o, n, who, seals⟩ := s
  unfold stepA at hb hwa HGo HBo
  unfold keysA at hk hwa
  unfold stepA keysA
  simp only at hb hwa hwl hsl HW HS HGo HBo HVV HSE ⊢
  have HCELL : Sec (∀ w', Gr wa w' → w'.cell? ⟨p, 0, none⟩ = some (.slice A0 m c0) ∧ w'.cell? ⟨p, 2, none⟩ = some (.int .i64 need) ∧ w'.cell? ⟨p + 1, 0, none⟩ = some (.string (bs r)) ∧ w'.cell? ⟨p + 1, 1, none⟩ = some (.string (bs o)) ∧ w'.cell? ⟨p + 1, 2, none⟩ = some (.string (bs n)) ∧ w'.cell? ⟨p + 1, 3, none⟩ = some (.slice A who.length c) ∧ w'.cell? ⟨p + 1, 4, none⟩ = some (.slice B seals.length d)) := sec (fun w' g => ⟨(hk.gr g).cell 0, (hk.gr g).cell 2, (hb.gr g).cell 0, (hb.gr g).cell 1, (hb.gr g).cell 2, (hb.gr g).cell 3, (hb.gr g).cell 4⟩)
  clear hb hk hK hss hR hz hT
  obtain ⟨u0, u1, u2, u3, u4, u5, u6⟩ := HCELL.out wa (Gr.refl _)
  by_cases h0 : E = 0
  · obtain ⟨-, -, -, -, z4, z5, z6, z7, -⟩ := HSE.out h0
    try simp only at z4 z5 z6 z7
    have HV1 : Sec (V = if be = 0 then (if (rgL ss b ⟨r, o, n, who, seals⟩).all id = true ∧ need ≤ (who.length : Int) then 0 else 13) else be) := sec (by rw [HVV.out, if_pos h0])
    subst h0
    by_cases h1 : be = 0
    · have HV2 : Sec (V = if (rgL ss b ⟨r, o, n, who, seals⟩).all id = true ∧ need ≤ (who.length : Int) then 0 else 13) := sec (by rw [HV1.out, if_pos h1])
      have HSL := sec z5
      have HZ7 := sec z7
      have HRL : Sec ((rgL ss b ⟨r, o, n, who, seals⟩).length = who.length) := sec (rgL_len (s := ⟨r, o, n, who, seals⟩) z5)
      subst h1
      clear HVV HV1 HSE z5 z6 z7
      go_enter Tryd.func33, Tryd.ntmps33
      go_upto_region 1 with fail
      rw [← hwa, ← hp]
      clear hwa hp
      go_wp2_with (first
        | (go_at_call 25; refine Calls.mono HGo.out ?_; rintro e w1 ⟨rfl, g1⟩; obtain ⟨v0, v1, v2, v3, v4, v5, v6⟩ := HCELL.out w1 g1)
        | (go_at_call 23; refine Calls.mono (HBo.out _) ?_; rintro e w2 ⟨rfl, g2'⟩; have g2 : Gr wa w2 := Gr.trans g1 g2'; obtain ⟨t0, t1, t2, t3, t4, t5, t6⟩ := HCELL.out w2 g2))
      clear u0 u1 u2 u3 u4 u5 u6 v0 v1 v2 v3 v4 v5 v6 t0 t1 t2 t3 t4 t5 t6
      go_loopg [29, 10, 11] who.length (fun fuel iv _ _ wr => ∃ i : Nat, iv = .int .i64 (i : Int) ∧ who.length ≤ i + fuel ∧ i ≤ who.length ∧ Sec (((rgL ss b ⟨r, o, n, who, seals⟩).take i).all id = true) ∧ Gr wa wr)
      case atStart => exact ⟨0, rfl, by omega, by omega, sec rfl, g2⟩
      case round =>
        clear g1 g2 g2'
        obtain ⟨i, rfl, hik, hi, HAL, gw⟩ := hrel
        by_cases hlt : i < who.length
        · have hsl2 : i < seals.length := by have := HSL.out; omega
          have hii : (i : Int) < (who.length : Int) := by omega
          have hjj : (i : Int) < (seals.length : Int) := by omega
          have hrl : i < (rgL ss b ⟨r, o, n, who, seals⟩).length := by rw [HRL.out]; exact hlt
          have HGET := sec (rgL_get (ss := ss) (b := b) (s := ⟨r, o, n, who, seals⟩) hlt hsl2 hrl)
          have HAT := sec (all_take _ i hrl HAL.out)
          have HBAD := sec (all_bad _ i hrl)
          have hwz := HZ7.out _ (List.getElem_mem hlt)
          obtain ⟨bk, off, rfl, e0⟩ := (HW.out.gr gw).cell hlt
          obtain ⟨bk2, off2, rfl, -⟩ := (HS.out.gr gw).cell hsl2
          have HX1 : Sec (∀ W, Gr wa W → W.cell? ⟨p, 0, none⟩ = some (.slice A0 m c0) ∧ W.cell? ⟨p + 1, 4, none⟩ = some (.slice (some ⟨bk2, off2, none⟩) seals.length d) ∧ W.cell? ⟨bk2, off2 + i, none⟩ = some (.string (bs seals[i])) ∧ Gr wa W) := sec (fun W g => by
            obtain ⟨b', o', e', h'⟩ := (HS.out.gr g).cell hsl2
            injection e' with e'; injection e' with e3 e4 _
            subst e3 e4
            exact ⟨(HCELL.out W g).1, (HCELL.out W g).2.2.2.2.2.2, h', g⟩)
          obtain ⟨mw, hmw⟩ : ∃ x, x = who[i] := ⟨_, rfl⟩
          obtain ⟨sl, hslx⟩ : ∃ x, x = seals[i] := ⟨_, rfl⟩
          try simp only at HGET
          rw [← hmw, ← hslx] at HGET
          rw [← hmw] at e0 hwz
          rw [← hslx] at HX1
          obtain ⟨a, rfl⟩ : ∃ a : Nat, mw = (a : Int) := ⟨mw.toNat, by omega⟩
          have HII := sec hlt
          have hkl := HKL.out
          clear hmw hslx hsl2 hwz
          obtain ⟨y0, y1, y2, -⟩ := HX1.out wr gw
          by_cases ham : a < m
          · have haw : a < ss.length := by omega
            have hgd : ss.getD (a : Int).toNat [] = ss[a] := by rw [Int.toNat_natCast, List.getD_eq_getElem?_getD, List.getElem?_eq_getElem haw]; rfl
            have HRG : Sec (rgB ss b (a : Int) sl = (seal' ss[a] b == sl)) := sec (by unfold rgB; rw [decide_eq_true (show (a : Int) < (ss.length : Int) by omega), hgd]; rfl)
            obtain ⟨bk3, off3, rfl, -⟩ := (HKR.out.gr gw).cell haw
            have hwsz := HSS.out ss[a] (List.getElem_mem haw)
            have HKP0 : Sec (∀ W, Gr wa W → W.cell? ⟨bk3, off3 + a, none⟩ = some (.string (bs ss[a]))) := sec (fun W g => by
              obtain ⟨b', o', e', h'⟩ := (HKR.out.gr g).cell haw
              injection e' with e'; injection e' with e3 e4 _
              subst e3 e4
              exact h')
            obtain ⟨key, hkey⟩ : ∃ key, key = ss[a] := ⟨_, rfl⟩
            rw [← hkey] at hwsz HRG HKP0
            have HSk := sec (fun W (g : Gr wa W) => HSe.out key hwsz W g)
            obtain ⟨sv, hsv⟩ : ∃ sv, sv = seal' key b := ⟨_, rfl⟩
            rw [← hsv] at HSk HRG
            have q0 : decide (m ≤ a) = false := decide_eq_false (by omega)
            have ham' : (a : Int) < (m : Int) := by omega
            have HKP : Sec (∀ W, Gr wa W → W.cell? ⟨p, 0, none⟩ = some (.slice (some ⟨bk3, off3, none⟩) m c0) ∧ W.cell? ⟨p + 1, 4, none⟩ = some (.slice (some ⟨bk2, off2, none⟩) seals.length d) ∧ W.cell? ⟨bk2, off2 + i, none⟩ = some (.string (bs sl)) ∧ W.cell? ⟨bk3, off3 + a, none⟩ = some (.string (bs key)) ∧ Gr wa W) := sec (fun W g => ⟨(HX1.out W g).1, (HX1.out W g).2.1, (HX1.out W g).2.2.1, HKP0.out W g, g⟩)
            have gd : Gr wa wr.drew := gw.drew
            clear hkey hsv hwsz hgd haw ham hkl
            by_cases hsl3 : sv = sl
            · have HNX : Sec (((rgL ss b ⟨r, o, n, who, seals⟩).take (i + 1)).all id = true) := sec (by rw [HAT.out, HGET.out, HRG.out, hsl3]; simp)
              subst hsl3
              go_wp2_with fail
              go_region_held3 (fun W => W.cell? ⟨p, 0, none⟩ = some (.slice (some ⟨bk3, off3, none⟩) m c0) ∧ W.cell? ⟨p + 1, 4, none⟩ = some (.slice (some ⟨bk2, off2, none⟩) seals.length d) ∧ W.cell? ⟨bk2, off2 + i, none⟩ = some (.string (bs sv)) ∧ W.cell? ⟨bk3, off3 + a, none⟩ = some (.string (bs key)) ∧ Gr wa W)
                (first | with_reducible assumption | with_reducible exact HKP.out _ gd | with_reducible exact HKP.out _ g4 | fail)
                (first
                  | (go_at_call 36; (with_reducible refine Calls.mono (HSk.out wr.drew gd) ?_); rintro e w4 ⟨rfl, g4'⟩; have g4 : Gr wa w4 := Gr.trans gd g4')
                  | fail)
              all_goals
                go_wp2_with fail
                go_roundg (gk - 1)
                case rel => exact ⟨i + 1, by go_num, by omega, HII.out, HNX, g4⟩
                case measure => have := HII.out; omega
            · have HV13 : Sec (V = 13) := sec (by
                have hx : (sv == sl) = false := by rw [beq_eq_false_iff_ne]; exact hsl3
                rw [HV2.out, HBAD.out (by rw [HGET.out, HRG.out, hx]), if_neg (by simp)])
              have hne : (sv == sl) = false := by rw [beq_eq_false_iff_ne]; exact hsl3
              have hne2 : (sv != sl) = true := by rw [bne_iff_ne]; exact hsl3
              clear hsl3
              go_wp2_with fail
              go_region_held3 (fun W => W.cell? ⟨p, 0, none⟩ = some (.slice (some ⟨bk3, off3, none⟩) m c0) ∧ W.cell? ⟨p + 1, 4, none⟩ = some (.slice (some ⟨bk2, off2, none⟩) seals.length d) ∧ W.cell? ⟨bk2, off2 + i, none⟩ = some (.string (bs sl)) ∧ W.cell? ⟨bk3, off3 + a, none⟩ = some (.string (bs key)) ∧ Gr wa W)
                (first | with_reducible assumption | with_reducible exact HKP.out _ gd | with_reducible exact HKP.out _ g4 | fail)
                (first
                  | (go_at_call 36; (with_reducible refine Calls.mono (HSk.out wr.drew gd) ?_); rintro e w4 ⟨rfl, g4'⟩; have g4 : Gr wa w4 := Gr.trans gd g4')
                  | fail)
              all_goals
                go_wp2_with fail
                go_ret
                exact ⟨by rw [HV13.out]; rfl, hg0.trans g4⟩
          · have HRG : Sec (rgB ss b (a : Int) sl = false) := sec (by unfold rgB; rw [decide_eq_false (show ¬ (a : Int) < (ss.length : Int) by omega)]; rfl)
            have HV13 : Sec (V = 13) := sec (by rw [HV2.out, HBAD.out (by rw [HGET.out, HRG.out]), if_neg (by simp)])
            have q0 : decide (m ≤ a) = true := decide_eq_true (by omega)
            clear ham hkl
            go_wp2_with fail
            go_quiet (fail)
            go_wp2_with fail
            go_ret
            exact ⟨by rw [HV13.out]; rfl, hg0.trans (Gr.drewN gw _)⟩
        · have HALL : Sec ((rgL ss b ⟨r, o, n, who, seals⟩).all id = true) := sec (by
            have h := HAL.out
            rwa [List.take_of_length_le (by rw [HRL.out]; omega)] at h)
          obtain hE2 : i = who.length := by omega
          obtain ⟨y0, y1, y2, y3, y4, y5, y6⟩ := HCELL.out wr gw
          have q : decide (i < who.length) = false := decide_eq_false hlt
          clear hE2 hlt hik
          by_cases hn : need ≤ (who.length : Int)
          · have q1 : decide ((who.length : Int) < need) = false := decide_eq_false (by omega)
            have HV0 : Sec (V = 0) := sec (by rw [HV2.out, if_pos ⟨HALL.out, hn⟩])
            clear hn
            go_wp2_with fail
            go_ret
            exact ⟨by rw [HV0.out]; rfl, hg0.trans gw⟩
          · have q1 : decide ((who.length : Int) < need) = true := decide_eq_true (by omega)
            have HV0 : Sec (V = 13) := sec (by rw [HV2.out, if_neg (fun h => hn h.2)])
            clear hn
            go_wp2_with fail
            go_ret
            exact ⟨by rw [HV0.out]; rfl, hg0.trans gw⟩
    · have HV0 : Sec (V = be) := sec (by rw [HV1.out, if_neg h1])
      have m0 : (be != 0) = true := by simpa using h1
      clear HVV HV1 HSE z4 z5 z6 z7
      go_enter Tryd.func33, Tryd.ntmps33
      go_upto_region 1 with fail
      rw [← hwa, ← hp]
      clear hwa hp
      go_wp2_with (first
        | (go_at_call 25; refine Calls.mono HGo.out ?_; rintro e w1 ⟨rfl, g1⟩; obtain ⟨v0, v1, v2, v3, v4, v5, v6⟩ := HCELL.out w1 g1)
        | (go_at_call 23; refine Calls.mono (HBo.out _) ?_; rintro e w2 ⟨rfl, g2'⟩))
      go_ret
      exact ⟨by rw [HV0.out]; rfl, hg0.trans (g1.trans g2')⟩
  · have HV0 : Sec (V = E) := sec (by rw [HVV.out, if_neg h0])
    have m0 : (E != 0) = true := by simpa using h0
    clear HVV HSE
    go_enter Tryd.func33, Tryd.ntmps33
    go_upto_region 1 with fail
    rw [← hwa, ← hp]
    clear hwa hp
    go_wp2_with (go_at_call 25; refine Calls.mono HGo.out ?_; rintro e w1 ⟨rfl, g1⟩)
    go_ret
    exact ⟨by rw [HV0.out]; rfl, hg0.trans g1⟩
end Go.Proofs.YtkgmimmneeppgaaDoor

namespace Go.Proofs.YtkgmimmneeppgaaDoor
set_option maxRecDepth 100000
open Go.RowKit
set_option linter.unusedVariables false
/-- where x comes to stand -/
def kx (who : List Int) (x : Int) : Nat := (who.takeWhile fun y => decide (y < x)).length
theorem kx_le (who : List Int) (x : Int) : kx who x ≤ who.length := by
  unfold kx
  induction who with
  | nil => simp
  | cons y r ih =>
    rw [List.takeWhile_cons]
    split
    · simp only [List.length_cons]; omega
    · simp
theorem kx_of (x : Int) : ∀ (who : List Int) (k : Nat), k ≤ who.length → (∀ j (h : j < who.length), j < k → who[j] < x) → (∀ h : k < who.length, ¬ who[k] < x) → kx who x = k
  | [], k, hk, _, _ => by simp at hk; subst hk; rfl
  | y :: r, 0, _, _, h2 => by
    have := h2 (by simp)
    unfold kx
    rw [List.takeWhile_cons, if_neg (by simpa using this)]
    rfl
  | y :: r, k + 1, hk, h1, h2 => by
    have hy := h1 0 (by simp) (by omega)
    have ih := kx_of x r k (by simpa using hk) (fun j hj hjk => by have := h1 (j + 1) (by simpa using hj) (by omega); simpa using this) (fun h => by have := h2 (by simpa using h); simpa using this)
    unfold kx at ih ⊢
    rw [List.takeWhile_cons, if_pos (by simpa using hy), List.length_cons, ih]
/-- the list with x at its place -/
def insL {α : Type} (k : Nat) (x : α) (l : List α) : List α := l.take k ++ [x] ++ l.drop k
theorem insL_len {α : Type} (k : Nat) (x : α) (l : List α) : (insL k x l).length = l.length + 1 := by
  unfold insL
  simp only [List.length_append, List.length_take, List.length_cons, List.length_nil, List.length_drop]
  omega
def stpZ : Stp := ⟨[], [], [], [], []⟩
/-- P10.4 -/
def stSg (s : Stp) (at_ x : Int) (key : List UInt8) : Stp × Int :=
  if stE s = 0 then
    (if (bodyR at_ s).2 = 0 then
      (if x < 0 ∨ 7 < x then (stpZ, 3)
      else if s.who[kx s.who x]? = some x then (stpZ, 8)
      else (⟨s.r, s.o, s.n, insL (kx s.who x) x s.who, insL (kx s.who x) (seal' key (bodyR at_ s).1) s.seals⟩, 0))
    else (stpZ, (bodyR at_ s).2))
  else (stpZ, stE s)
theorem row1 {W : World} {g : Nat} {T : TypeId} {u : Value} (h : Blk W g T #[u]) : Row W 1 (some ⟨g, 0, none⟩) 1 [u] := by
  refine ⟨by simp, fun _ => ⟨g, 0, rfl, fun i v hi => ?_⟩⟩
  have := h.cell i
  rw [Nat.zero_add, this]
  simpa using hi
/-- the first k of a row -/
theorem Row.take1 {w : World} {n : Nat} {A : Option Addr} {vs : List Value} (h : Row w 1 A n vs) (k : Nat) (hk : k ≤ n) : Row w 1 A k (vs.take k) := by
  have hl := h.len
  refine ⟨by rw [List.length_take]; omega, fun h0 => ?_⟩
  obtain ⟨b, off, e, hc⟩ := h.at_ (by omega)
  refine ⟨b, off, e, fun i v hi => hc i v ?_⟩
  rw [List.getElem?_take] at hi
  split at hi
  · exact hi
  · cases hi
/-- what is behind the first k of a row -/
theorem Row.drop1 {w : World} {n b off : Nat} {vs : List Value} (h : Row w 1 (some ⟨b, off, none⟩) n vs) (k : Nat) (hk : k ≤ n) : Row w 1 (some ⟨b, off + k, none⟩) (n - k) (vs.drop k) := by
  have hl := h.len
  refine ⟨by rw [List.length_drop]; omega, fun h0 => ?_⟩
  obtain ⟨b', off', e, hc⟩ := h.at_ (by omega)
  injection e with e; injection e with e1 e2 _
  subst e1 e2
  refine ⟨b, off + k, rfl, fun i v hi => ?_⟩
  rw [List.getElem?_drop] at hi
  have := hc (k + i) v hi
  rwa [← Nat.add_assoc] at this
theorem Row.none1 {w : World} {A : Option Addr} {vs : List Value} (n : Nat) (h : vs.length ≤ n) : Row w 1 A 0 (vs.drop n) := by
  rw [List.drop_eq_nil_of_le h]
  exact Row.nil w 1 A
/-- append of one piece that was just built, one cell, at a step of a region that draws its order -/
theorem step_append_oneS {ops : Array Oper} {o : Oper} {a : Act} {K : Act → World → Prop} {Q : Exit → Act → World → Prop} {X : Prop} {w : World} {t e : TypeId} {z : Value} {bytes : Nat}
    (E : ElemOk t e z 1 bytes) (hgd : o.guard = none) (s x : Operand) (ho : o.op = .call { callee := .builtin .append, args := #[s, x], argTypes := #[t, t] })
    {A : Option Addr} {B n cap : Nat} {xs : List Value} (hs : a.eval s = .slice A n cap) (hown : w.ownsRow B e 1 (.slice A n cap) n xs)
    {u : Value} {c : Nat} (hx : a.eval x = .slice (some ⟨w.heap.size, 0, none⟩) 1 c) (h1 : u.oneCell' = true)
    (hbytes : (n + 1) * bytes ≤ 140737488355328) (h63 : n + 1 ≤ maxLen) (hB : B ≤ w.heap.size)
    (h : ∀ g cap' w', w'.ownsRow B e 1 (.slice (some ⟨g, 0, none⟩) (n + 1) cap') (n + 1) (xs ++ [u]) → w.grownBy w' (Value.ownBlock (.slice A n cap)) → K (a.put o.dst (.slice (some ⟨g, 0, none⟩) (n + 1) cap')) w') :
    if Region.wanted o (yielded ops a.tmps) = true then Oper.wp Tryd.prog o a (w.alloc (.cells #[u] e)) K Q else X := by
  obtain ⟨i0, hi0, hz0, hz1, hz2⟩ := info_parts E.info
  refine step_append_lies _ hgd s x t ho B e i0 z 1 bytes E.under hi0 hz0 hz1 hz2 E.zcells E.pos _ n xs hs (hown.alloc _) ⟨w.heap.size, 0, none⟩ 1 c [u] hx (by simp) ?_ (by intro v hv; simp at hv; subst hv; exact h1) (by omega) h63 hbytes (by simp; omega) _ rfl ?_
  · intro j v hv
    have hc : (w.alloc (.cells #[u] e)).cell? ⟨w.heap.size, j, none⟩ = (#[u] : Array Value)[j]? := World.cell?_alloc_mark w #[u] e (0, 0) j
    rw [add_zero_block, hc]
    simpa using hv
  · intro g cap' w' hown' hg hat _
    exact h g cap' w' hown' ⟨hg.os, hg.tape, hg.output, by have := hg.size; simp at this; omega, fun k hk hne => (hg.block k (by simp; omega) hne).trans (Below.heap_alloc w _ k hk)⟩
theorem own_lowS {w : World} {B B' e size n : Nat} {v : Value} {xs : List Value} (h : w.ownsRow B e size v n xs) (hle : B' ≤ B) : w.ownsRow B' e size v n xs := by
  refine ⟨h.1, ?_⟩
  rcases h.2 with h0 | ⟨g, cap, cur, hv, hB, r⟩
  · exact .inl h0
  · exact .inr ⟨g, cap, cur, hv, Nat.le_trans hle hB, r⟩
theorem StR.zero (w : World) : StR w stpZ none 0 none 0 := ⟨Row.nil w 1 none, Row.nil w 1 none, fun _ => ⟨rfl, rfl⟩, fun _ => ⟨rfl, rfl⟩, Nat.le_refl _, Nat.le_refl _⟩
/-- behind the first field's turn -/
structure SgMid (w : World) (p : Nat) (r o n : List UInt8) (N : Nat) (who' : List Int) (B : Option Addr) (m d : Nat) (wx : World) : Prop where
  ex : ∃ A1 c1, Blk wx p 46 #[.string (bs r), .string (bs o), .string (bs n), .slice A1 N c1, .slice B m d] ∧ wx.ownsRow (p + 1 + 1) 3 1 (.slice A1 N c1) N (who'.map iV)
  z : Blk wx (p + 1) 46 #[.string (bs []), .string (bs []), .string (bs []), .slice none 0 0, .slice none 0 0]
  gr : Gr w wx
theorem sgMid_set {w W : World} {p N c1 : Nat} {r o n : List UInt8} {A A1 B : Option Addr} {c m d nn : Nat} {who' : List Int} (hb : Blk W p 46 #[.string (bs r), .string (bs o), .string (bs n), .slice A nn c, .slice B m d])
    (hz : Blk W (p + 1) 46 #[.string (bs []), .string (bs []), .string (bs []), .slice none 0 0, .slice none 0 0]) (g : Gr w W) (hp : w.heap.size ≤ p)
    (ho : W.ownsRow (p + 1 + 1) 3 1 (.slice A1 N c1) N (who'.map iV)) : SgMid w p r o n N who' B m d (W.setCell ⟨p, 3, none⟩ (.slice A1 N c1)) :=
  ⟨⟨A1, c1, hb.set_ 3 _, ownsRow_setCell_other ho (a := ⟨p, 3, none⟩) (fun e => by have h1 := (ho.lt p e).1; omega) _⟩, hz.far (p := ⟨p, 3, none⟩) (by show p + 1 ≠ p; omega) _, g.setCell (p := ⟨p, 3, none⟩) hp _⟩
/-- behind both -/
structure SgEnd (w : World) (p : Nat) (r o n : List UInt8) (N : Nat) (who' : List Int) (seals' : List (List UInt8)) (wx : World) : Prop where
  ex : ∃ A1 c1 B1 d1, Blk wx p 46 #[.string (bs r), .string (bs o), .string (bs n), .slice A1 N c1, .slice B1 N d1] ∧ wx.ownsRow (p + 1 + 1) 3 1 (.slice A1 N c1) N (who'.map iV) ∧ wx.ownsRow (p + 1 + 1) 9 1 (.slice B1 N d1) N (seals'.map strV)
  z : Blk wx (p + 1) 46 #[.string (bs []), .string (bs []), .string (bs []), .slice none 0 0, .slice none 0 0]
  gr : Gr w wx
theorem sgEnd_set {w W : World} {p N c1 d1 : Nat} {r o n : List UInt8} {A1 B B1 : Option Addr} {m d : Nat} {who' : List Int} {seals' : List (List UInt8)} (hb : Blk W p 46 #[.string (bs r), .string (bs o), .string (bs n), .slice A1 N c1, .slice B m d])
    (hz : Blk W (p + 1) 46 #[.string (bs []), .string (bs []), .string (bs []), .slice none 0 0, .slice none 0 0]) (g : Gr w W) (hp : w.heap.size ≤ p)
    (ho : W.ownsRow (p + 1 + 1) 3 1 (.slice A1 N c1) N (who'.map iV)) (ho2 : W.ownsRow (p + 1 + 1) 9 1 (.slice B1 N d1) N (seals'.map strV)) : SgEnd w p r o n N who' seals' (W.setCell ⟨p, 4, none⟩ (.slice B1 N d1)) :=
  ⟨⟨A1, c1, B1, d1, hb.set_ 4 _, ownsRow_setCell_other ho (a := ⟨p, 4, none⟩) (fun e => by have h1 := (ho.lt p e).1; omega) _, ownsRow_setCell_other ho2 (a := ⟨p, 4, none⟩) (fun e => by have h1 := (ho2.lt p e).1; omega) _⟩, hz.far (p := ⟨p, 4, none⟩) (by show p + 1 ≠ p; omega) _, g.setCell (p := ⟨p, 4, none⟩) hp _⟩
theorem ins_map {α β : Type} (f : α → β) (k : Nat) (x : α) (l : List α) : (insL k x l).map f = (l.map f).take k ++ [f x] ++ (l.map f).drop k := by
  unfold insL
  simp [List.map_take, List.map_drop]
end Go.Proofs.YtkgmimmneeppgaaDoor

namespace Go.Proofs.YtkgmimmneeppgaaDoor
open Go.RowKit
set_option linter.unusedVariables false
set_option maxRecDepth 100000 in
set_option maxHeartbeats 1000000 in
theorem maybe_any (l : List UInt8) (w : World) : Calls Tryd.prog 51 #[.string (bs l)] w fun e w' => e = .returned (.bool (mayB l)) ∧ w = w' := by
  by_cases h0 : l.length = 0
  · have q0 : ((l.length : Int) == 0) = true := by rw [beq_iff_eq]; omega
    have HM : Sec (mayB l = true) := sec (by unfold mayB; rw [decide_eq_true h0]; rfl)
    clear h0
    rw [HM.out]
    go_enter Tryd.func51, Tryd.ntmps51
    go_wp2_with fail
    go_ret
    exact ⟨rfl, rfl⟩
  · have q0 : ((l.length : Int) == 0) = false := by rw [beq_eq_false_iff_ne]; omega
    by_cases h1 : l.length = 32
    · have q1 : ((l.length : Int) == 32) = true := by rw [beq_iff_eq]; omega
      have HM : Sec (mayB l = true) := sec (by unfold mayB; rw [decide_eq_true h1]; simp)
      clear h0 h1
      rw [HM.out]
      go_enter Tryd.func51, Tryd.ntmps51
      go_wp2_with fail
      go_ret
      exact ⟨rfl, rfl⟩
    · have q1 : ((l.length : Int) == 32) = false := by rw [beq_eq_false_iff_ne]; omega
      have HM : Sec (mayB l = false) := sec (by unfold mayB; rw [decide_eq_false h0, decide_eq_false h1]; rfl)
      clear h0 h1
      rw [HM.out]
      go_enter Tryd.func51, Tryd.ntmps51
      go_wp2_with fail
      go_ret
      exact ⟨rfl, rfl⟩

/-- the cases of a byte in a ref's name -/
theorem ref_cases (n : Nat) : (n = 47) ∨ (n ≠ 47 ∧ 97 ≤ n ∧ n ≤ 122) ∨ (n ≠ 47 ∧ ¬ 97 ≤ n ∧ 48 ≤ n ∧ n ≤ 57) ∨ (n ≠ 47 ∧ ¬ 97 ≤ n ∧ n = 45) ∨ (n ≠ 47 ∧ ¬ 97 ≤ n ∧ n = 95) ∨ (n ≠ 47 ∧ (97 ≤ n → ¬ n ≤ 122) ∧ (48 ≤ n → ¬ n ≤ 57) ∧ n ≠ 45 ∧ n ≠ 95) := by omega

set_option maxRecDepth 100000 in
set_option maxHeartbeats 4000000 in
theorem refName_any (s : List UInt8) (w : World) (hs : s.length ≤ 1099511627776) :
    Calls Tryd.prog 50 #[.string (bs s)] w fun e w' => e = .returned (.bool (refB s)) ∧ Gr w w' := by
  obtain ⟨w2, cap, hcv, hg2, hB⟩ := conv_brow Tryd.underlying9 Tryd.underlying69 Tryd.underlying5 w (s ++ [47]) (by simp only [List.length_append, List.length_cons, List.length_nil]; unfold maxLen; omega)
  have hcat : ¬ 9223372036854775807 < s.length + 1 := by omega
  obtain ⟨z, hz⟩ : ∃ z, z = s ++ [47] := ⟨_, rfl⟩
  have hzl : z.length = s.length + 1 := by rw [hz]; simp
  have HR : Sec (refB s = (rnGo 0 z && decide (s.length ≤ 60))) := sec (by rw [hz]; rfl)
  simp only [List.length_append, List.length_cons, List.length_nil, Nat.zero_add] at hcv
  rw [← hz] at hB
  have HZL := sec hzl
  clear hz hzl
  go_enter Tryd.func50, Tryd.ntmps50
  go_wp2_with fail
  go_loopw [10, 3, 5, 14, 21, 24] (fun iv pv _ _ _ _ wr => ∃ (i p : Nat), iv = .int .i64 (i : Int) ∧ pv = .int .i64 (p : Int) ∧ i ≤ s.length + 1 ∧ p ≤ i ∧ Sec (rnGo 0 z = rnGo p (z.drop i)) ∧ wr = w2)
    (fun iv _ _ _ _ _ _ => s.length + 1 - (intOf iv).toNat)
  case atStart => exact ⟨0, 0, rfl, rfl, by omega, by omega, sec rfl, rfl⟩
  case round =>
    clear hcv
    obtain ⟨i, p, rfl, rfl, hi, hp, HA, rfl⟩ := hrel
    have hpb : p ≤ 2199023255552 := by omega
    by_cases hlt : i < s.length + 1
    · have hiz : i < z.length := by rw [HZL.out]; exact hlt
      have hli : (i : Int) < (s.length : Int) + 1 := by omega
      have hcl := hB.at_ i (byteV z[i]) (by rw [List.getElem?_map, List.getElem?_eq_getElem hiz]; rfl)
      have hgo := HA.out
      rw [List.drop_eq_getElem_cons hiz, rn_step] at hgo
      obtain ⟨c, hc⟩ : ∃ c, c = z[i] := ⟨_, rfl⟩
      rw [← hc] at hcl hgo
      unfold byteV at hcl
      have h47 : (c = 47) ↔ c.toNat = 47 := ⟨fun e => by rw [e]; rfl, fun e => UInt8.toNat_inj.1 e⟩
      simp only [h47] at hgo
      clear hc h47
      obtain ⟨n, hn⟩ : ∃ n, n = c.toNat := ⟨_, rfl⟩
      rw [← hn] at hcl hgo
      have HLT := sec (And.intro hlt hp)
      clear hn hlt hiz
      have HGO := sec hgo
      clear hgo
      rcases ref_cases n with h1 | ⟨h0, h1, h2⟩ | ⟨h0, h1, h2, h3⟩ | ⟨h0, h1, h2⟩ | ⟨h0, h1, h2⟩ | ⟨h0, h1, h2, h3, h4⟩
      · by_cases hp0 : p = 0
        · have t1 : ((n : Int) == 47) = true := by rw [beq_iff_eq]; omega
          have t2 : ((p : Int) == 0) = true := by rw [beq_iff_eq]; omega
          have HF : Sec (refB s = false) := sec (by rw [HR.out, HGO.out, if_pos h1, if_pos hp0]; rfl)
          clear h1 hp0 hp
          go_wp2_with fail
          go_ret
          exact ⟨by rw [HF.out]; rfl, hg2⟩
        · have t1 : ((n : Int) == 47) = true := by rw [beq_iff_eq]; omega
          have t2 : ((p : Int) == 0) = false := by rw [beq_eq_false_iff_ne]; omega
          have HN : Sec (rnGo 0 z = rnGo 0 (z.drop (i + 1))) := sec (by rw [HGO.out, if_pos h1, if_neg hp0])
          clear h1 hp0 hp
          go_wp2_with fail
          go_roundw
          case rel => exact ⟨i + 1, 0, by go_num, rfl, HLT.out.1, by omega, HN, by trivial⟩
          case measure => simp [intOf]; have := HLT.out.1; omega
      · have t1 : ((n : Int) == 47) = false := by rw [beq_eq_false_iff_ne]; omega
        have q1 : (97 : Int) ≤ (n : Int) := by omega
        have q2 : (n : Int) ≤ 122 := by omega
        have HN : Sec (rnGo 0 z = rnGo (p + 1) (z.drop (i + 1))) := sec (by rw [HGO.out, if_neg h0, if_pos (by simp [refC]; omega)])
        clear h0 h1 h2 hp
        go_wp2_with fail
        go_roundw
        case rel => exact ⟨i + 1, p + 1, by go_num, by go_num, HLT.out.1, by have := HLT.out.2; omega, HN, by trivial⟩
        case measure => simp [intOf]; have := HLT.out.1; omega
      · have t1 : ((n : Int) == 47) = false := by rw [beq_eq_false_iff_ne]; omega
        have q1 : ¬ (97 : Int) ≤ (n : Int) := by omega
        have q3 : (48 : Int) ≤ (n : Int) := by omega
        have q4 : (n : Int) ≤ 57 := by omega
        have HN : Sec (rnGo 0 z = rnGo (p + 1) (z.drop (i + 1))) := sec (by rw [HGO.out, if_neg h0, if_pos (by simp [refC]; omega)])
        clear h0 h1 h2 h3 hp
        go_wp2_with fail
        go_roundw
        case rel => exact ⟨i + 1, p + 1, by go_num, by go_num, HLT.out.1, by have := HLT.out.2; omega, HN, by trivial⟩
        case measure => simp [intOf]; have := HLT.out.1; omega
      · have t1 : ((n : Int) == 47) = false := by rw [beq_eq_false_iff_ne]; omega
        have q1 : ¬ (97 : Int) ≤ (n : Int) := by omega
        have q3 : ¬ (48 : Int) ≤ (n : Int) := by omega
        have t2 : ((n : Int) == 45) = true := by rw [beq_iff_eq]; omega
        have HN : Sec (rnGo 0 z = rnGo (p + 1) (z.drop (i + 1))) := sec (by rw [HGO.out, if_neg h0, if_pos (by simp [refC]; omega)])
        clear h0 h1 h2 hp
        go_wp2_with fail
        go_roundw
        case rel => exact ⟨i + 1, p + 1, by go_num, by go_num, HLT.out.1, by have := HLT.out.2; omega, HN, by trivial⟩
        case measure => simp [intOf]; have := HLT.out.1; omega
      · have t1 : ((n : Int) == 47) = false := by rw [beq_eq_false_iff_ne]; omega
        have q1 : ¬ (97 : Int) ≤ (n : Int) := by omega
        have q3 : (48 : Int) ≤ (n : Int) := by omega
        have q4 : ¬ (n : Int) ≤ 57 := by omega
        have t2 : ((n : Int) == 45) = false := by rw [beq_eq_false_iff_ne]; omega
        have t3 : ((n : Int) == 95) = true := by rw [beq_iff_eq]; omega
        have HN : Sec (rnGo 0 z = rnGo (p + 1) (z.drop (i + 1))) := sec (by rw [HGO.out, if_neg h0, if_pos (by simp [refC]; omega)])
        clear h0 h1 h2 hp
        go_wp2_with fail
        go_roundw
        case rel => exact ⟨i + 1, p + 1, by go_num, by go_num, HLT.out.1, by have := HLT.out.2; omega, HN, by trivial⟩
        case measure => simp [intOf]; have := HLT.out.1; omega
      · by_cases g1 : 97 ≤ n
        · have t1 : ((n : Int) == 47) = false := by rw [beq_eq_false_iff_ne]; omega
          have q1 : (97 : Int) ≤ (n : Int) := by omega
          have q2 : ¬ (n : Int) ≤ 122 := by omega
          have q3 : (48 : Int) ≤ (n : Int) := by omega
          have q4 : ¬ (n : Int) ≤ 57 := by omega
          have t2 : ((n : Int) == 45) = false := by rw [beq_eq_false_iff_ne]; omega
          have t3 : ((n : Int) == 95) = false := by rw [beq_eq_false_iff_ne]; omega
          have HF : Sec (refB s = false) := sec (by rw [HR.out, HGO.out, if_neg h0, if_neg (by simp [refC]; omega)]; rfl)
          clear h0 h1 h2 h3 h4 g1 hp
          go_wp2_with fail
          go_ret
          exact ⟨by rw [HF.out]; rfl, hg2⟩
        · by_cases g2 : 48 ≤ n
          · have t1 : ((n : Int) == 47) = false := by rw [beq_eq_false_iff_ne]; omega
            have q1 : ¬ (97 : Int) ≤ (n : Int) := by omega
            have q3 : (48 : Int) ≤ (n : Int) := by omega
            have q4 : ¬ (n : Int) ≤ 57 := by omega
            have t2 : ((n : Int) == 45) = false := by rw [beq_eq_false_iff_ne]; omega
            have t3 : ((n : Int) == 95) = false := by rw [beq_eq_false_iff_ne]; omega
            have HF : Sec (refB s = false) := sec (by rw [HR.out, HGO.out, if_neg h0, if_neg (by simp [refC]; omega)]; rfl)
            clear h0 h1 h2 h3 h4 g1 g2 hp
            go_wp2_with fail
            go_ret
            exact ⟨by rw [HF.out]; rfl, hg2⟩
          · have t1 : ((n : Int) == 47) = false := by rw [beq_eq_false_iff_ne]; omega
            have q1 : ¬ (97 : Int) ≤ (n : Int) := by omega
            have q3 : ¬ (48 : Int) ≤ (n : Int) := by omega
            have t2 : ((n : Int) == 45) = false := by rw [beq_eq_false_iff_ne]; omega
            have t3 : ((n : Int) == 95) = false := by rw [beq_eq_false_iff_ne]; omega
            have HF : Sec (refB s = false) := sec (by rw [HR.out, HGO.out, if_neg h0, if_neg (by simp [refC]; omega)]; rfl)
            clear h0 h1 h2 h3 h4 g1 g2 hp
            go_wp2_with fail
            go_ret
            exact ⟨by rw [HF.out]; rfl, hg2⟩
    · obtain rfl : i = s.length + 1 := by omega
      have HE : Sec (rnGo 0 z = true) := sec (by rw [HA.out, List.drop_eq_nil_of_le (by rw [HZL.out]; omega)]; cases p <;> rfl)
      clear hlt
      by_cases h60 : s.length ≤ 60
      · have q1 : (s.length : Int) ≤ 60 := by omega
        have HF : Sec (refB s = true) := sec (by rw [HR.out, HE.out, decide_eq_true h60]; rfl)
        clear h60
        go_wp2_with fail
        go_ret
        exact ⟨by rw [HF.out]; rfl, hg2⟩
      · have q1 : ¬ (s.length : Int) ≤ 60 := by omega
        have HF : Sec (refB s = false) := sec (by rw [HR.out, HE.out, decide_eq_false h60]; rfl)
        clear h60
        go_wp2_with fail
        go_ret
        exact ⟨by rw [HF.out]; rfl, hg2⟩
end Go.Proofs.YtkgmimmneeppgaaDoor

namespace Go.Proofs.YtkgmimmneeppgaaDoor
set_option maxRecDepth 100000
open Go.RowKit
set_option linter.unusedVariables false
set_option maxHeartbeats 8000000 in
theorem rstGood_any (s : Stp) (A : Option Addr) (c : Nat) (B : Option Addr) (d : Nat) (w : World) (hR : StR w s A c B d) (hz : StSz 1099511627776 s) :
    Calls Tryd.prog 26 #[.agg (stepA s A c B d)] w fun e w' => e = .returned (.int .i64 (stE s)) ∧ Gr w w' := by
  have HNa := sec (fun w => refName_any s.r w hz.r)
  obtain ⟨wa, hwa⟩ : ∃ x, x = w.alloc (.cells (stepA s A c B d) 46) := ⟨_, rfl⟩
  have hb : Blk wa w.heap.size 46 (stepA s A c B d) := by rw [hwa]; exact Blk.new w _ _
  have hg0 : Gr w wa := by rw [hwa]; exact (Gr.refl w).alloc _
  obtain ⟨p, hp⟩ : ∃ p, p = w.heap.size := ⟨_, rfl⟩
  rw [← hp] at hb
  have HW := sec (hR.who.gr hg0)
  have HS := sec (hR.seals.gr hg0)
  have hwl := hz.who
  have hsl := hz.seals
  obtain ⟨V, hV⟩ : ∃ V : Int, V = stE s := ⟨_, rfl⟩
  rw [← hV]
  have HV := sec hV
  obtain ⟨r, o, n, who, seals⟩ := s
  simp only at HNa hwl hsl HW HS
  unfold stepA at hb hwa
  unfold stepA
  simp only at hb hwa ⊢
  have HCELL : Sec (∀ w', Gr wa w' → w'.cell? ⟨p, 0, none⟩ = some (.string (bs r)) ∧ w'.cell? ⟨p, 1, none⟩ = some (.string (bs o)) ∧ w'.cell? ⟨p, 2, none⟩ = some (.string (bs n)) ∧ w'.cell? ⟨p, 3, none⟩ = some (.slice A who.length c) ∧ w'.cell? ⟨p, 4, none⟩ = some (.slice B seals.length d)) := sec (fun w' g => ⟨(hb.gr g).cell 0, (hb.gr g).cell 1, (hb.gr g).cell 2, (hb.gr g).cell 3, (hb.gr g).cell 4⟩)
  clear hb hV hR hz
  obtain ⟨ok, hok⟩ : ∃ ok : Bool, ok = stB ⟨r, o, n, who, seals⟩ := ⟨_, rfl⟩
  have HOK := sec hok
  clear hok
  go_enter Tryd.func26, Tryd.ntmps26
  go_upto_region 1 with fail
  rw [← hwa, ← hp]
  clear hwa hp
  obtain ⟨c0, c1, c2, c3, c4⟩ := HCELL.out wa (Gr.refl _)
  go_cut [28] from 6 to 28 (fun v28 wc => v28 = .bool (!ok) ∧ Gr wa wc)
  case first =>
    have HM1 := sec (fun w => maybe_any o w)
    have HM2 := sec (fun w => maybe_any n w)
    obtain ⟨rb, hrb⟩ : ∃ b, b = refB r := ⟨_, rfl⟩
    rw [← hrb] at HNa
    obtain ⟨ob, hob⟩ : ∃ b, b = mayB o := ⟨_, rfl⟩
    rw [← hob] at HM1
    obtain ⟨nb, hnb⟩ : ∃ b, b = mayB n := ⟨_, rfl⟩
    rw [← hnb] at HM2
    have hok : ok = (rb && (ob && (nb && !(o == n)))) := by rw [HOK.out, hrb, hob, hnb]; rfl
    clear hrb hob hnb
    cases rb
    · have HX : Sec (ok = false) := sec (by rw [hok]; rfl)
      clear hok
      go_wp2_with (first | (go_at_call 50; refine Calls.mono (HNa.out _) ?_; rintro e w1 ⟨rfl, g1⟩; obtain ⟨d0, d1, d2, d3, d4⟩ := HCELL.out w1 g1) | (go_at_call 51; (with_reducible refine Calls.mono (HM1.out _) ?_); rintro e w2 ⟨rfl, rfl⟩) | (go_at_call 51; (with_reducible refine Calls.mono (HM2.out _) ?_); rintro e w3 ⟨rfl, rfl⟩))
      go_meet
      exact ⟨by rw [HX.out]; rfl, g1⟩
    · cases ob
      · have HX : Sec (ok = false) := sec (by rw [hok]; rfl)
        clear hok
        go_wp2_with (first | (go_at_call 50; refine Calls.mono (HNa.out _) ?_; rintro e w1 ⟨rfl, g1⟩; obtain ⟨d0, d1, d2, d3, d4⟩ := HCELL.out w1 g1) | (go_at_call 51; (with_reducible refine Calls.mono (HM1.out _) ?_); rintro e w2 ⟨rfl, rfl⟩) | (go_at_call 51; (with_reducible refine Calls.mono (HM2.out _) ?_); rintro e w3 ⟨rfl, rfl⟩))
        go_meet
        exact ⟨by rw [HX.out]; rfl, g1⟩
      · cases nb
        · have HX : Sec (ok = false) := sec (by rw [hok]; rfl)
          clear hok
          go_wp2_with (first | (go_at_call 50; refine Calls.mono (HNa.out _) ?_; rintro e w1 ⟨rfl, g1⟩; obtain ⟨d0, d1, d2, d3, d4⟩ := HCELL.out w1 g1) | (go_at_call 51; (with_reducible refine Calls.mono (HM1.out _) ?_); rintro e w2 ⟨rfl, rfl⟩) | (go_at_call 51; (with_reducible refine Calls.mono (HM2.out _) ?_); rintro e w3 ⟨rfl, rfl⟩))
          go_meet
          exact ⟨by rw [HX.out]; rfl, g1⟩
        · cases heq : (o == n)
          · have HX : Sec (ok = true) := sec (by rw [hok, heq]; rfl)
            clear hok
            go_wp2_with (first | (go_at_call 50; refine Calls.mono (HNa.out _) ?_; rintro e w1 ⟨rfl, g1⟩; obtain ⟨d0, d1, d2, d3, d4⟩ := HCELL.out w1 g1) | (go_at_call 51; (with_reducible refine Calls.mono (HM1.out _) ?_); rintro e w2 ⟨rfl, rfl⟩) | (go_at_call 51; (with_reducible refine Calls.mono (HM2.out _) ?_); rintro e w3 ⟨rfl, rfl⟩))
            go_meet
            exact ⟨by rw [HX.out]; rfl, g1⟩
          · have HX : Sec (ok = false) := sec (by rw [hok, heq]; rfl)
            clear hok
            go_wp2_with (first | (go_at_call 50; refine Calls.mono (HNa.out _) ?_; rintro e w1 ⟨rfl, g1⟩; obtain ⟨d0, d1, d2, d3, d4⟩ := HCELL.out w1 g1) | (go_at_call 51; (with_reducible refine Calls.mono (HM1.out _) ?_); rintro e w2 ⟨rfl, rfl⟩) | (go_at_call 51; (with_reducible refine Calls.mono (HM2.out _) ?_); rintro e w3 ⟨rfl, rfl⟩))
            go_meet
            exact ⟨by rw [HX.out]; rfl, g1⟩
  case rest =>
    obtain ⟨rfl, gc⟩ := hcut
    clear c0 c1 c2 c3 c4
    obtain ⟨c0, c1, c2, c3, c4⟩ := HCELL.out wc gc
    cases ok
    · have HV2 : Sec (V = 2) := sec (by rw [HV.out]; unfold stE; rw [← HOK.out]; rfl)
      go_wp2_with fail
      go_ret
      exact ⟨by rw [HV2.out]; rfl, hg0.trans gc⟩
    · have HV1 : Sec (V = if 8 < who.length ∨ ¬ seals.length = who.length then 6 else stF (-1) who seals) := sec (by rw [HV.out]; unfold stE; rw [← HOK.out]; rfl)
      by_cases h8 : 8 < who.length
      · have q8 : (8 : Int) < (who.length : Int) := by omega
        have HV6 : Sec (V = 6) := sec (by rw [HV1.out, if_pos (Or.inl h8)])
        clear h8
        go_wp2_with fail
        go_ret
        exact ⟨by rw [HV6.out]; rfl, hg0.trans gc⟩
      · have q8 : ¬ (8 : Int) < (who.length : Int) := by omega
        by_cases hne : seals.length = who.length
        · have HLEN := sec hne
          have HV0 : Sec (V = stF (-1) who seals) := sec (by rw [HV1.out, if_neg (by omega)])
          have qne : ((seals.length : Int) != (who.length : Int)) = false := by rw [bne_eq_false_iff_eq]; omega
          clear hne h8
          go_wp2_with fail
          clear c0 c1 c2 c3 c4 qne
          go_loopg [45, 3, 4, 5] who.length (fun fuel iv lv _ _ wr => ∃ (i : Nat) (last : Int), iv = .int .i64 (i : Int) ∧ lv = .int .i64 last ∧ who.length ≤ i + fuel ∧ i ≤ who.length ∧ Sec (stSeen ⟨r, o, n, who, seals⟩ i last) ∧ Gr wa wr)
          case atStart => exact ⟨0, -1, rfl, rfl, by omega, by omega, sec (stSeen0 _), gc⟩
          case round =>
            obtain ⟨i, last, rfl, rfl, hik, hi, HST, hg⟩ := hrel
            by_cases hlt : i < who.length
            · have hss : i < seals.length := by have := HLEN.out; omega
              have hii : (i : Int) < (who.length : Int) := by omega
              have hjj : (i : Int) < (seals.length : Int) := by omega
              obtain ⟨b, off, rfl, e0⟩ := (HW.out.gr hg).cell hlt
              obtain ⟨b2, off2, rfl, x0⟩ := (HS.out.gr hg).cell hss
              obtain ⟨c0, c1, c2, c3, c4⟩ := HCELL.out wr hg
              have hhere := HST.out.here (s := ⟨r, o, n, who, seals⟩) hlt hss
              have HNEXT := sec (fun h1 h2 => HST.out.next (s := ⟨r, o, n, who, seals⟩) hlt hss h1 h2)
              have hlow := HST.out.low (s := ⟨r, o, n, who, seals⟩) (Nat.le_of_lt hlt)
              simp only at hhere HNEXT
              obtain ⟨mw, hmw⟩ : ∃ x, x = who[i] := ⟨_, rfl⟩
              obtain ⟨sl, hslx⟩ : ∃ x, x = seals[i] := ⟨_, rfl⟩
              rw [← hmw, ← hslx] at hhere HNEXT
              rw [← hmw] at e0
              rw [← hslx] at x0
              have HHERE := sec hhere
              have HII := sec (And.intro hss hlt)
              clear hmw hslx hhere hss hlt
              by_cases hbad : mw ≤ last ∨ 7 < mw
              · have HV3 : Sec (V = 3) := sec (by rw [HV0.out, HHERE.out, if_pos hbad])
                by_cases g0 : mw ≤ last
                · have q0 : decide (mw ≤ last) = true := decide_eq_true g0
                  clear hbad
                  go_wp2_with fail
                  go_ret
                  exact ⟨by rw [HV3.out]; rfl, hg0.trans hg⟩
                · have q0 : decide (mw ≤ last) = false := decide_eq_false g0
                  have q1 : decide (7 < mw) = true := decide_eq_true (by omega)
                  clear hbad
                  go_wp2_with fail
                  go_ret
                  exact ⟨by rw [HV3.out]; rfl, hg0.trans hg⟩
              · have q0 : decide (mw ≤ last) = false := decide_eq_false (by omega)
                have q1 : decide (7 < mw) = false := decide_eq_false (by omega)
                by_cases hs32 : sl.length = 32
                · have q3 : ((sl.length : Int) != 32) = false := by rw [bne_eq_false_iff_eq]; omega
                  have HEN : Sec (stSeen ⟨r, o, n, who, seals⟩ (i + 1) mw) := sec (HNEXT.out hbad hs32)
                  clear hbad hs32
                  go_wp2_with fail
                  go_roundg (gk - 1)
                  case rel => exact ⟨i + 1, mw, by go_num, rfl, by omega, by have := HII.out.2; omega, HEN, hg⟩
                  case measure => have := HII.out.2; omega
                · have q3 : ((sl.length : Int) != 32) = true := by rw [bne_iff_ne]; omega
                  have HV2 : Sec (V = 2) := sec (by rw [HV0.out, HHERE.out, if_neg hbad, if_neg hs32])
                  clear hbad hs32
                  go_wp2_with fail
                  go_ret
                  exact ⟨by rw [HV2.out]; rfl, hg0.trans hg⟩
            · have HE : Sec (V = 0) := sec (by rw [HV0.out]; exact HST.out.done (s := ⟨r, o, n, who, seals⟩) (by simp only; omega))
              obtain rfl : i = who.length := by omega
              clear hlt hik
              go_wp2_with fail
              go_ret
              exact ⟨by rw [HE.out]; rfl, hg0.trans hg⟩
        · have qne : ((seals.length : Int) != (who.length : Int)) = true := by rw [bne_iff_ne]; omega
          have HV6 : Sec (V = 6) := sec (by rw [HV1.out, if_pos (Or.inr hne)])
          clear hne h8
          go_wp2_with fail
          go_ret
          exact ⟨by rw [HV6.out]; rfl, hg0.trans gc⟩
end Go.Proofs.YtkgmimmneeppgaaDoor

namespace Go.Proofs.YtkgmimmneeppgaaDoor
set_option maxRecDepth 100000
open Go.RowKit Go.ChangeShapes Go.WideShapes
set_option linter.unusedVariables false
def szI (_ : Int) : Nat := 1
structure IntsIn (w : World) (A : Option Addr) (c : Nat) (l : List Int) : Prop where
  row : IntRow w A l.length l
  len : l.length ≤ 1048576
  cap : l.length ≤ c
  nil : A = none → l.length = 0 ∧ c = 0
theorem ints_in {w : World} {A : Option Addr} {c : Nat} {l : List Int} (hR : sliceR w 1 intR [.slice A l.length c] l) (hb : szs szI l ≤ 1048576) : IntsIn w A c l := by
  obtain ⟨A', c', e', h1, h2, hrow⟩ := sliceR_row (k := 1) (fun n => [iV n]) (fun _ => rfl) (by omega) (fun ci x h => h.1) hR
  simp only [List.cons.injEq, and_true, Value.slice.injEq, true_and] at e'
  obtain ⟨rfl, rfl⟩ := e'
  obtain ⟨A2, c2, e2, _, h3, _⟩ := hR
  simp only [List.cons.injEq, and_true, Value.slice.injEq, true_and] at e2
  obtain ⟨rfl, rfl⟩ := e2
  have hl := szs_len szI (fun x => Nat.le_refl 1) l
  rw [flat_single] at hrow
  refine ⟨hrow, by omega, h1, fun h => ?_⟩
  have := h3.2 h
  omega
structure StepIn (w : World) (s : Stp) (A : Option Addr) (c : Nat) (B : Option Addr) (d : Nat) : Prop where
  row : StR w s A c B d
  size : StSz 1048576 s
theorem StSz.up {k k' : Nat} {s : Stp} (h : StSz k s) (hk : k ≤ k') : StSz k' s := ⟨Nat.le_trans h.r hk, Nat.le_trans h.o hk, Nat.le_trans h.n hk, Nat.le_trans h.who hk, Nat.le_trans h.seals hk, fun x hx => Nat.le_trans (h.each x hx) hk⟩
def szStp (s : Stp) : Nat := s.r.length + s.o.length + s.n.length + szs szI s.who + szs szStr s.seals
theorem opens_step (w : World) : Opens w 46 5 (fun cs (s : Stp) => ∃ A c B d, cs = (stepA s A c B d).toList ∧ sliceR w 1 intR [.slice A s.who.length c] s.who ∧ sliceR w 1 strR [.slice B s.seals.length d] s.seals) szStp :=
  (opens_struct Tryd.underlying46 (by kernel_rfl) (opensF_cons rfl (opens_string Tryd.underlying9 (by kernel_rfl) w) (opensF_cons rfl (opens_string Tryd.underlying9 (by kernel_rfl) w) (opensF_cons rfl (opens_string Tryd.underlying9 (by kernel_rfl) w)
    (opensF_cons rfl (opens_slice Tryd.underlying44 (by kernel_rfl) (opens_int Tryd.underlying3 (by kernel_rfl) w) (by omega)) (opensF_cons rfl (opens_slice Tryd.underlying22 (by kernel_rfl) (opens_string Tryd.underlying9 (by kernel_rfl) w) (by omega)) (opensF_nil w 5))))))).map
    (fun a => ⟨a.1, a.2.1, a.2.2.1, a.2.2.2.1, a.2.2.2.2.1⟩) (by
      rintro cs ⟨r, o, n, who, seals, _⟩ ⟨c1, c2, rfl, _, h1, d1, d2, rfl, _, h2, e1, e2, rfl, _, h3, f1, f2, rfl, _, h4, g1, g2, rfl, _, h5, h6⟩
      have h4' := h4
      have h5' := h5
      obtain ⟨A, c, hc, _⟩ := h4
      obtain ⟨B, d, hd, _⟩ := h5
      simp only [strR] at h1 h2 h3
      simp only at hc hd
      subst hc
      subst hd
      subst h1
      subst h2
      subst h3
      simp only [nilR] at h6
      subst h6
      exact ⟨A, c, B, d, rfl, h4', h5'⟩) (by intro a; simp only [szStp]; unfold szStr szI; omega)
theorem step_in {w : World} {s : Stp} {A : Option Addr} {c : Nat} {B : Option Addr} {d : Nat} (h1 : sliceR w 1 intR [.slice A s.who.length c] s.who) (h2 : sliceR w 1 strR [.slice B s.seals.length d] s.seals) (hs : szStp s ≤ 1048576) : StepIn w s A c B d := by
  unfold szStp at hs
  have a := ints_in h1 (by omega)
  have b := strs_in h2 (by omega)
  exact ⟨⟨a.row, b.row, a.nil, b.nil, a.cap, b.cap⟩, ⟨by omega, by omega, by omega, a.len, b.len, b.size⟩⟩
theorem open_step {w : World} {r : Reach} {base : Nat} {H : Type} {enc : TypeId × Value → H} {v : Value} {d : DataW H} {p : List MemPlace}
    (hv : Value.okWide Tryd.prog w r base 46 v) (hd : DataW.Trod enc Tryd.prog w 0 (fun _ => true) true 46 v d p) (hb : Rows.uptoBulk d ≤ 1048576) :
    ∃ s A c B e, v = .agg (stepA s A c B e) ∧ StepIn w s A c B e := by
  obtain ⟨cs, s, rfl, ⟨A, c, B, e, hc, h1, h2⟩, hs⟩ := open_structD_arg Tryd.underlying46 (opens_step w) hv hd
  refine ⟨s, A, c, B, e, ?_, step_in h1 h2 (by omega)⟩
  congr 1
  exact Array.toList_inj.1 hc
end Go.Proofs.YtkgmimmneeppgaaDoor

/-
  Rows of cells, nil let in; append of one one-cell element; No conditions: a library text.
-/
import Derived.Test.YtdpombnelangjaaGreatDoorBase
namespace Go.Proofs.YtdpombnelangjaaGreatDoor
open Go.RowKit
/-- a slice value of n elements (size cells each) whose cells are vs; of an empty one nothing is known -/
structure Row (w : World) (size : Nat) (A : Option Addr) (n : Nat) (vs : List Value) : Prop where
  len : vs.length = n * size
  at_ : 0 < n → ∃ b off, A = some ⟨b, off, none⟩ ∧ ∀ i v, vs[i]? = some v → w.cell? ⟨b, off + i, none⟩ = some v

theorem Row.nil (w : World) (size : Nat) (A : Option Addr) : Row w size A 0 [] := ⟨by simp, fun h => absurd h (by omega)⟩
theorem Row.keep {w w' : World} {size n : Nat} {A : Option Addr} {vs : List Value} (h : Row w size A n vs) (hk : ∀ b o v, w.cell? ⟨b, o, none⟩ = some v → (∃ off, A = some ⟨b, off, none⟩) → w'.cell? ⟨b, o, none⟩ = some v) : Row w' size A n vs :=
  ⟨h.len, fun hn => by
    obtain ⟨b, off, e, hc⟩ := h.at_ hn
    exact ⟨b, off, e, fun i v hv => hk b _ v (hc i v hv) ⟨off, e⟩⟩⟩
theorem Row.gr {w w' : World} {size n : Nat} {A : Option Addr} {vs : List Value} (h : Row w size A n vs) (g : Gr w w') : Row w' size A n vs :=
  h.keep fun b o _ hv _ => (g.below.cell (p := ⟨b, o, none⟩) (World.block_lt_of_cell? w _ hv)).trans hv
theorem Row.only {w w' : World} {size n g : Nat} {A : Option Addr} {vs : List Value} (h : Row w size A n vs) (hg : w.grownBy w' (some g)) (hne : 0 < n → ∀ b off, A = some ⟨b, off, none⟩ → b ≠ g) : Row w' size A n vs :=
  ⟨h.len, fun hn => by
    obtain ⟨b, off, e, hc⟩ := h.at_ hn
    exact ⟨b, off, e, fun i v hv => hg.cell (hc i v hv) (fun e' => hne hn b off e (by simpa using e'))⟩⟩
theorem Row.own {w : World} {B e size n cap : Nat} {A : Option Addr} {vs : List Value} (h : w.ownsRow B e size (.slice A n cap) n vs) : Row w size A n vs := by
  refine ⟨h.1, fun hn => ?_⟩
  rcases h.2 with ⟨_, h0⟩ | ⟨g, cap', cur, hv, _⟩
  · omega
  · injection hv with hA _ _
    refine ⟨g, 0, hA, fun i v hi => ?_⟩
    have := h.cells (g := g) (by rw [hA]; rfl) i v hi
    rw [add_zero_block] at this
    rw [Nat.zero_add]; exact this
theorem Row.lt {w : World} {size n : Nat} {A : Option Addr} {vs : List Value} (h : Row w size A n vs) (hn : 0 < n) (hs : 0 < size) : ∃ b off, A = some ⟨b, off, none⟩ ∧ b < w.heap.size := by
  obtain ⟨b, off, e, hc⟩ := h.at_ hn
  have hl : 0 < vs.length := by rw [h.len]; exact Nat.mul_pos hn hs
  exact ⟨b, off, e, World.block_lt_of_cell? w _ (hc 0 vs[0] (List.getElem?_eq_getElem hl))⟩
/-- one-cell elements: the i-th -/
theorem Row.cell1 {w : World} {n : Nat} {A : Option Addr} {vs : List Value} (h : Row w 1 A n vs) {i : Nat} (hi : i < n) : ∃ b off, A = some ⟨b, off, none⟩ ∧ ∃ (h' : i < vs.length), w.cell? ⟨b, off + i, none⟩ = some vs[i] := by
  obtain ⟨b, off, e, hc⟩ := h.at_ (by omega)
  have hl : i < vs.length := by rw [h.len]; omega
  exact ⟨b, off, e, hl, hc i _ (List.getElem?_eq_getElem hl)⟩

def strV (s : List UInt8) : Value := .string (bs s)
def intV (n : Int) : Value := .int .i64 n
/-- a slice of strings -/
def StrRow (w : World) (A : Option Addr) (n : Nat) (ss : List (List UInt8)) : Prop := Row w 1 A n (ss.map strV)
theorem StrRow.len {w : World} {A : Option Addr} {n : Nat} {ss : List (List UInt8)} (h : StrRow w A n ss) : ss.length = n := by have := Row.len h; simpa using this
theorem StrRow.gr {w w' : World} {A : Option Addr} {n : Nat} {ss : List (List UInt8)} (h : StrRow w A n ss) (g : Gr w w') : StrRow w' A n ss := Row.gr h g
theorem StrRow.only {w w' : World} {A : Option Addr} {n g : Nat} {ss : List (List UInt8)} (h : StrRow w A n ss) (hg : w.grownBy w' (some g)) (hne : 0 < n → ∀ b off, A = some ⟨b, off, none⟩ → b ≠ g) : StrRow w' A n ss := Row.only h hg hne
theorem StrRow.cell {w : World} {A : Option Addr} {n : Nat} {ss : List (List UInt8)} (h : StrRow w A n ss) {i : Nat} (hi : i < ss.length) : ∃ b off, A = some ⟨b, off, none⟩ ∧ w.cell? ⟨b, off + i, none⟩ = some (.string (bs ss[i])) := by
  obtain ⟨b, off, e, hl, hc⟩ := Row.cell1 h (i := i) (by have := h.len; omega)
  exact ⟨b, off, e, by simpa [strV] using hc⟩

/-- a slice of structs: each element's cells by f, k of them -/
theorem flat_len {α : Type} (f : α → List Value) (k : Nat) (hf : ∀ x, (f x).length = k) (l : List α) : (l.flatMap f).length = l.length * k := by
  induction l with
  | nil => simp
  | cons x r ih => rw [List.flatMap_cons, List.length_append, ih, hf, List.length_cons, Nat.add_mul]; omega
theorem flat_at {α : Type} (f : α → List Value) (k : Nat) (hf : ∀ x, (f x).length = k) (l : List α) : ∀ (i : Nat) (h : i < l.length) (j : Nat), j < k → (l.flatMap f)[i * k + j]? = (f l[i])[j]? := by
  induction l with
  | nil => intro i h; simp at h
  | cons x r ih =>
    intro i h j hj
    rw [List.flatMap_cons]
    cases i with
    | zero => rw [Nat.zero_mul, Nat.zero_add, List.getElem?_append_left (by rw [hf]; exact hj)]; rfl
    | succ i =>
      rw [List.getElem?_append_right (by rw [hf, Nat.add_mul]; omega), hf]
      have e : (i + 1) * k + j - k = i * k + j := by rw [Nat.add_mul]; omega
      rw [e]
      exact ih i (by simpa using h) j hj
theorem Row.fcell {α : Type} {w : World} {k n : Nat} {A : Option Addr} (f : α → List Value) (hf : ∀ x, (f x).length = k) (hk : 0 < k) {l : List α} (h : Row w k A n (l.flatMap f)) {i : Nat} (hi : i < l.length) :
    ∃ b off, A = some ⟨b, off, none⟩ ∧ b < w.heap.size ∧ ∀ j v, (f l[i])[j]? = some v → w.cell? ⟨b, off + i * k + j, none⟩ = some v := by
  have hn : l.length * k = n * k := by have := h.len; rwa [flat_len f k hf] at this
  have hn' : l.length = n := Nat.eq_of_mul_eq_mul_right hk hn
  obtain ⟨b, off, e, hc⟩ := h.at_ (by omega)
  have hat : ∀ j v, (f l[i])[j]? = some v → w.cell? ⟨b, off + i * k + j, none⟩ = some v := by
    intro j v hv
    have hj : j < k := by rw [← hf l[i]]; exact (List.getElem?_eq_some_iff.1 hv).1
    rw [Nat.add_assoc]
    exact hc _ _ ((flat_at f k hf l i hi j hj).trans hv)
  have h0 : 0 < (f l[i]).length := by rw [hf]; exact hk
  exact ⟨b, off, e, World.block_lt_of_cell? w _ (hat 0 _ (List.getElem?_eq_getElem h0)), hat⟩
theorem Row.flen {α : Type} {w : World} {k n : Nat} {A : Option Addr} (f : α → List Value) (hf : ∀ x, (f x).length = k) (hk : 0 < k) {l : List α} (h : Row w k A n (l.flatMap f)) : l.length = n := by
  have hn : l.length * k = n * k := by have := h.len; rwa [flat_len f k hf] at this
  exact Nat.eq_of_mul_eq_mul_right hk hn

/-- append of one element of one cell -/
theorem wpList_append_one {ops : Array Oper} {rest : List Oper} {o : Oper} {a : Act} {Q : Exit → Act → World → Prop} {w0 w : World} {t e : TypeId} {z : Value} {bytes : Nat}
    (E : ElemOk t e z 1 bytes) (hgd : o.guard = none) (s x : Operand) (ho : o.op = .call { callee := .builtin .append, args := #[s, x], argTypes := #[t, t] })
    {A : Option Addr} {n cap : Nat} {xs : List Value} (hs : a.eval s = .slice A n cap) (hown : w.ownsRow w0.heap.size e 1 (.slice A n cap) n xs)
    {u : Value} {c : Nat} (hx : a.eval x = .slice (some ⟨w.heap.size, 0, none⟩) 1 c) (h1 : u.oneCell' = true)
    (hbytes : (n + 1) * bytes ≤ 140737488355328) (h63 : n + 1 ≤ maxLen) (hb : Gr w0 w)
    (h : ∀ g cap' w', w'.ownsRow w0.heap.size e 1 (.slice (some ⟨g, 0, none⟩) (n + 1) cap') (n + 1) (xs ++ [u]) → w.grownBy w' (Value.ownBlock (.slice A n cap)) → Gr w0 w' →
      wpList Tryz.prog ops Q rest (a.put o.dst (.slice (some ⟨g, 0, none⟩) (n + 1) cap')) w') :
    wpList Tryz.prog ops Q (o :: rest) a (w.alloc (.cells #[u] e)) := by
  obtain ⟨i0, hi0, hz0, hz1, hz2⟩ := info_parts E.info
  refine wpList_append_own _ hgd s x t ho w0.heap.size e i0 z 1 bytes E.under hi0 hz0 hz1 hz2 E.zcells E.pos _ n xs hs (hown.alloc _) ⟨w.heap.size, 0, none⟩ 1 c [u] hx (by simp) ?_ (by intro v hv; simp at hv; subst hv; exact h1) h63 hbytes (by have := hb.size; simp; omega) ?_
  · intro j v hv
    have hc : (w.alloc (.cells #[u] e)).cell? ⟨w.heap.size, j, none⟩ = (#[u] : Array Value)[j]? := World.cell?_alloc_mark w #[u] e (0, 0) j
    rw [add_zero_block, hc]
    simpa using hv
  · intro v' w' hown' hg hnil
    have hb' : Gr w0 w' := (hb.alloc _).grown hg (fun k hk => (hown.lt k hk).1)
    have hg' : w.grownBy w' (Value.ownBlock (.slice A n cap)) :=
      ⟨hg.os, hg.tape, hg.output, by have := hg.size; simp at this; omega, fun k hk hne => (hg.block k (by simp; omega) hne).trans (Below.heap_alloc w _ k hk)⟩
    rcases hown'.2 with ⟨hv, h0⟩ | ⟨g, cap', cur, hv, _⟩
    · omega
    · subst hv
      exact h g cap' w' hown' hg' hb'

/-- the same over any base: the world is told by what the append writes alone -/
theorem wpList_append_oneB {ops : Array Oper} {rest : List Oper} {o : Oper} {a : Act} {Q : Exit → Act → World → Prop} {w : World} {t e : TypeId} {z : Value} {bytes : Nat}
    (E : ElemOk t e z 1 bytes) (hgd : o.guard = none) (s x : Operand) (ho : o.op = .call { callee := .builtin .append, args := #[s, x], argTypes := #[t, t] })
    {B : Nat} {A : Option Addr} {n cap : Nat} {xs : List Value} (hs : a.eval s = .slice A n cap) (hown : w.ownsRow B e 1 (.slice A n cap) n xs)
    {u : Value} {c : Nat} (hx : a.eval x = .slice (some ⟨w.heap.size, 0, none⟩) 1 c) (h1 : u.oneCell' = true)
    (hbytes : (n + 1) * bytes ≤ 140737488355328) (h63 : n + 1 ≤ maxLen) (hB : B ≤ w.heap.size)
    (h : ∀ g cap' w', w'.ownsRow B e 1 (.slice (some ⟨g, 0, none⟩) (n + 1) cap') (n + 1) (xs ++ [u]) → w.grownBy w' (Value.ownBlock (.slice A n cap)) →
      wpList Tryz.prog ops Q rest (a.put o.dst (.slice (some ⟨g, 0, none⟩) (n + 1) cap')) w') :
    wpList Tryz.prog ops Q (o :: rest) a (w.alloc (.cells #[u] e)) := by
  obtain ⟨i0, hi0, hz0, hz1, hz2⟩ := info_parts E.info
  refine wpList_append_own _ hgd s x t ho B e i0 z 1 bytes E.under hi0 hz0 hz1 hz2 E.zcells E.pos _ n xs hs (hown.alloc _) ⟨w.heap.size, 0, none⟩ 1 c [u] hx (by simp) ?_ (by intro v hv; simp at hv; subst hv; exact h1) h63 hbytes (by simp; omega) ?_
  · intro j v hv
    have hc : (w.alloc (.cells #[u] e)).cell? ⟨w.heap.size, j, none⟩ = (#[u] : Array Value)[j]? := World.cell?_alloc_mark w #[u] e (0, 0) j
    rw [add_zero_block, hc]
    simpa using hv
  · intro v' w' hown' hg hnil
    have hg' : w.grownBy w' (Value.ownBlock (.slice A n cap)) :=
      ⟨hg.os, hg.tape, hg.output, by have := hg.size; simp at this; omega, fun k hk hne => (hg.block k (by simp; omega) hne).trans (Below.heap_alloc w _ k hk)⟩
    rcases hown'.2 with ⟨hv, h0⟩ | ⟨g, cap', cur, hv, _⟩
    · omega
    · subst hv
      exact h g cap' w' hown' hg'

/-- only block g has turned since a: an append onto a row that is younger than a -/
theorem only_own {a b c : World} {g e size n : Nat} {v : Value} {xs : List Value} (h : a.grownBy b (some g)) (hown : b.ownsRow a.heap.size e size v n xs) (k : b.grownBy c v.ownBlock) : a.grownBy c (some g) :=
  ⟨k.os.trans h.os, k.tape.trans h.tape, k.output.trans h.output, Nat.le_trans h.size k.size, fun i hi hne =>
    (k.block i (Nat.lt_of_lt_of_le hi h.size) (fun e' => by have := (hown.lt i e'.symm).1; omega)).trans (h.block i hi hne)⟩

/-- what is owned stays owned while another block is written -/
theorem own_gr {w w' : World} {B e size n : Nat} {v : Value} {xs : List Value} (h : w.ownsRow B e size v n xs) (g : Gr w w') : w'.ownsRow B e size v n xs :=
  h.kept (row := none) ⟨g.below.os, g.below.tape, g.below.output, g.below.size, fun k hk _ => g.below.block k hk⟩ (by cases v.ownBlock <;> simp)
theorem own_only {w w' : World} {B e size n g : Nat} {v : Value} {xs : List Value} {T : TypeId} {cs : Array Value} (h : w.ownsRow B e size v n xs) (hb : Blk w g T cs) (hT : e ≠ T) (hg : w.grownBy w' (some g)) : w'.ownsRow B e size v n xs :=
  h.kept hg (.inr (own_blk_ne h hb hT))
theorem own_other {w w' : World} {B B' e e' size size' n n' : Nat} {v v' : Value} {xs xs' : List Value} (h : w.ownsRow B e size v n xs) (h' : w.ownsRow B' e' size' v' n' xs') (hT : e ≠ e') (hg : w.grownBy w' v'.ownBlock) : w'.ownsRow B e size v n xs := by
  refine h.kept hg ?_
  rcases h'.2 with ⟨rfl, _⟩ | ⟨g', cap', cur', rfl, _, hh', _⟩
  · cases hv : v.ownBlock
    · exact .inl rfl
    · right; simp [Value.ownBlock]
  · exact .inr (own_blk_ne h (show Blk w g' e' cur' from hh') hT)
theorem blk_own {w w' : World} {B e size n g : Nat} {v : Value} {xs : List Value} {T : TypeId} {cs : Array Value} (hb : Blk w g T cs) (h : w.ownsRow B e size v n xs) (hT : e ≠ T) (hg : w.grownBy w' v.ownBlock) : Blk w' g T cs :=
  hb.grown hg (fun e' => own_blk_ne h hb hT e'.symm)
theorem Blk.gr {w w' : World} {g : Nat} {T : TypeId} {cs : Array Value} (h : Blk w g T cs) (k : Gr w w') : Blk w' g T cs := h.below k.below h.lt

theorem results_tmp4 {fn : Func} {t u v x : Tmp} (h : fn.results = #[.tmp t, .tmp u, .tmp v, .tmp x]) (tmps : Array Value) (P : Program) (w : World) :
    (results fn tmps).run P w = .ok (.tuple #[tmps.getD t undef, tmps.getD u undef, tmps.getD v undef, tmps.getD x undef]) w := by simp [results, h]

end Go.Proofs.YtdpombnelangjaaGreatDoor

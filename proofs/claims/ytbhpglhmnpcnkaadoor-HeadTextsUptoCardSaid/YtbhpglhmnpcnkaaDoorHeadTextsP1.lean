/-
  What the walk of cartularylaw.HeadTexts leans on, part 1 of 7: contracts and plain laws. No conditions.
-/
import Derived.Test.YtbhpglhmnpcnkaaDoorRows
import Derived.WalkKit
import Derived.WalkLawsBesides
import Derived.WalkSpells
import Derived.Lib.Hide
import Derived.Deep.Draws
import Derived.Deep.DeepFit
import Derived.Deep.DeepMust
import Derived.Deep.LoopGhost
import Derived.Deep.DeepCutAuto
import Derived.Deep.QuietTactic
import Derived.BigQuiet
import Derived.Deep.RegionWith
import Derived.Deep.AppendLies
import Derived.Maps.AppendAt
import Derived.Laws.OwnMore
import Derived.Laws.Rows
import Derived.Laws.CopyOwn
import Derived.Laws.CopyRow
import Derived.Laws.RangeAny
import Derived.Lib.OthersKept
import Derived.ArgAppend
import Derived.Deep.Upon
import Derived.Lib.ConvBytes
import Derived.Lib.AtoiErrMem
namespace Go.Proofs.YtbhpglhmnpcnkaaDoor

/-- P2.1: seven bits a byte, the least first, all but the last marked -/
def num (n : Nat) : List UInt8 := if h : n < 128 then [UInt8.ofNat n] else UInt8.ofNat (n % 128 + 128) :: num (n / 128)
termination_by n
decreasing_by omega

theorem num_small {n : Nat} (h : n < 128) : num n = [UInt8.ofNat n] := by rw [num, dif_pos h]
theorem num_big {n : Nat} (h : ¬ n < 128) : num n = UInt8.ofNat (n % 128 + 128) :: num (n / 128) := by rw [num, dif_neg h]
theorem num_pos (n : Nat) : 1 ≤ (num n).length := by
  by_cases h : n < 128
  · rw [num_small h]; simp
  · rw [num_big h]; simp
theorem num_len : ∀ (k n : Nat), n < 128 ^ (k + 1) → (num n).length ≤ k + 1
  | 0, n, h => by rw [num_small (by omega)]; simp
  | k + 1, n, h => by
    by_cases hs : n < 128
    · rw [num_small hs]; simp
    · rw [num_big hs]
      have : n / 128 < 128 ^ (k + 1) := by
        rw [Nat.div_lt_iff_lt_mul (by omega)]
        rw [Nat.pow_succ] at h; exact h
      have := num_len k _ this
      simp; omega
theorem num_len9 {n : Nat} (h : n < 4611686018427387904) : (num n).length ≤ 9 := by
  have e : (128 : Nat) ^ (8 + 1) = 9223372036854775808 := by decide
  exact num_len 8 n (by rw [e]; omega)
end Go.Proofs.YtbhpglhmnpcnkaaDoor

namespace Go.Proofs.YtbhpglhmnpcnkaaDoor
open Go.RowKit

/-- a fact kept from the walk: no tactic looks behind it -/
structure Sec (p : Prop) : Prop where
  out : p
theorem sec {p : Prop} (h : p) : Sec p := ⟨h⟩

/-! ### strings -/
/-- the string of these bytes -/
def bs (l : List UInt8) : ByteArray := ⟨l.toArray⟩
theorem mk_bs (l : List UInt8) : ByteArray.mk l.toArray = bs l := rfl
theorem bs_of (b : ByteArray) : ∃ l, b = bs l := ⟨b.data.toList, by cases b; simp [bs]⟩
theorem bs_size (l : List UInt8) : (bs l).size = l.length := by simp [bs, ByteArray.size]
theorem bs_toList (l : List UInt8) : (bs l).toList = l := ByteArray.toList_mk l
theorem bs_data (l : List UInt8) : (bs l).data.toList = l := by simp [bs]
theorem bs_inj {a b : List UInt8} (h : bs a = bs b) : a = b := by have := congrArg ByteArray.toList h; simpa [bs_toList] using this
theorem bs_append (a b : List UInt8) : bs a ++ bs b = bs (a ++ b) := ByteArray.mk_append_mk a b
/-- the bytes from i to j -/
def sub (l : List UInt8) (i j : Nat) : List UInt8 := (l.drop i).take (j - i)
theorem bs_extract (l : List UInt8) (i j : Nat) : (bs l).extract i j = bs (sub l i j) := ByteArray.extract_mk l i j
theorem sub_zero (l : List UInt8) (j : Nat) : sub l 0 j = l.take j := by simp [sub]
theorem sub_end (l : List UInt8) (i : Nat) : sub l i l.length = l.drop i := by unfold sub; exact List.take_of_length_le (by simp)
theorem sub_len (l : List UInt8) (i j : Nat) (h : j ≤ l.length) : (sub l i j).length = j - i := by unfold sub; rw [List.length_take, List.length_drop]; omega
theorem bs_get (l : List UInt8) (i : Nat) (h : i < (bs l).size) : (bs l)[i] = l[i]'(by rw [bs_size] at h; exact h) := by
  simp [bs, ByteArray.getElem_eq_getElem_data]
attribute [go_sem] mk_bs bs_size bs_toList bs_append bs_extract bs_get sub_zero sub_end

/-- a byte as a value -/
def byteV (c : UInt8) : Value := .int .u8 (c.toNat : Int)

/-! ### rows of the call's own -/
/-- the element type's row of the table -/
structure ElemOk (t e : TypeId) (z : Value) (size bytes : Nat) : Prop where
  under : Tryd.prog.underlying t = some (.slice e)
  info : (Tryd.prog.info? e).map (fun i => (i.zero, i.size, i.bytes)) = some (some z, size, bytes)
  zcells : z.cells.size = size
  pos : 0 < size

/-- the world has at most new blocks: what was there is as it was -/
def Gr (w w' : World) : Prop := Below w.heap.size w w'
theorem Gr.refl (w : World) : Gr w w := Below.refl _ _
theorem Gr.below {w w' : World} (h : Gr w w') : Below w.heap.size w w' := h
theorem Gr.size {w w' : World} (h : Gr w w') : w.heap.size ≤ w'.heap.size := Below.size h
theorem Gr.trans {a b c : World} (h : Gr a b) (k : Gr b c) : Gr a c := Below.trans h (Below.mono k (Below.size h))
theorem Gr.drew {a b : World} (h : Gr a b) : Gr a b.drew := Below.drew h
theorem Gr.drewN {a b : World} (h : Gr a b) (n : Nat) : Gr a (b.drewN n) := ⟨h.below.os, h.below.tape, h.below.output, h.below.size, h.below.block⟩
theorem Gr.alloc {a b : World} (h : Gr a b) (o : Obj) : Gr a (b.alloc o) := Below.alloc h (Below.size h) o
theorem Gr.setCell {a b : World} (h : Gr a b) {p : Addr} (hp : a.heap.size ≤ p.block) (u : Value) : Gr a (b.setCell p u) := Below.setCell h hp u
theorem Gr.grown {a b c : World} {row : Option Nat} (h : Gr a b) (hg : b.grownBy c row) (hr : ∀ k, row = some k → a.heap.size ≤ k) : Gr a c := Below.grown h hg (Below.size h) hr
theorem Gr.cells {W w1 : World} (hb : Gr W w1) : (∀ b o, b < W.heap.size → w1.cell? ⟨b, o, none⟩ = W.cell? ⟨b, o, none⟩) ∧ (∀ b o, b < W.heap.size → w1.frozen? ⟨b, o, none⟩ = W.frozen? ⟨b, o, none⟩) :=
  ⟨fun b o h => Below.cell (p := ⟨b, o, none⟩) hb h, fun b o h => Below.frozen (p := ⟨b, o, none⟩) hb h⟩

/-- append of one piece that was just built: the value behind it is written out -/
theorem wpList_append_new {ops : Array Oper} {rest : List Oper} {o : Oper} {a : Act} {Q : Exit → Act → World → Prop} {w0 w : World} {t e : TypeId} {z : Value} {size bytes : Nat}
    (E : ElemOk t e z size bytes) (hgd : o.guard = none) (s x : Operand) (ho : o.op = .call { callee := .builtin .append, args := #[s, x], argTypes := #[t, t] })
    {A : Option Addr} {n cap : Nat} {xs : List Value} (hs : a.eval s = .slice A n cap) (hown : w.ownsRow w0.heap.size e size (.slice A n cap) n xs)
    {cs : Array Value} {m c : Nat} (hx : a.eval x = .slice (some ⟨w.heap.size, 0, none⟩) m c) (hl : cs.size = m * size) (h1 : ∀ u ∈ cs.toList, u.oneCell' = true) (hm : 0 < m)
    (hbytes : (n + m) * bytes ≤ 140737488355328) (h63 : n + m ≤ maxLen) (hb : Gr w0 w)
    (h : ∀ g cap' w', w'.ownsRow w0.heap.size e size (.slice (some ⟨g, 0, none⟩) (n + m) cap') (n + m) (xs ++ cs.toList) → Gr w0 w' →
      wpList Tryd.prog ops Q rest (a.put o.dst (.slice (some ⟨g, 0, none⟩) (n + m) cap')) w') :
    wpList Tryd.prog ops Q (o :: rest) a (w.alloc (.cells cs e)) := by
  obtain ⟨i0, hi0, hz0, hz1, hz2⟩ := info_parts E.info
  refine wpList_append_own _ hgd s x t ho w0.heap.size e i0 z size bytes E.under hi0 hz0 hz1 hz2 E.zcells E.pos _ n xs hs (hown.alloc _) ⟨w.heap.size, 0, none⟩ m c cs.toList hx (by simpa using hl) ?_ h1 h63 hbytes (by have := hb.size; simp; omega) ?_
  · intro j u hu
    have hc : (w.alloc (.cells cs e)).cell? ⟨w.heap.size, j, none⟩ = cs[j]? := World.cell?_alloc_mark w cs e (0, 0) j
    have : (⟨w.heap.size, 0, none⟩ : Addr).add j = ⟨w.heap.size, j, none⟩ := by unfold Addr.add; split <;> simp_all
    rw [this, hc]
    simpa using hu
  · intro v' w' hown' hg hnil
    have hb' : Gr w0 w' := (hb.alloc _).grown hg (fun k hk => (hown.lt k hk).1)
    rcases hown'.2 with ⟨hv, h0⟩ | ⟨g, cap', cur, hv, _⟩
    · omega
    · subst hv
      exact h g cap' w' hown' hb'

/-- append of one byte -/
theorem wpList_append_byte {ops : Array Oper} {rest : List Oper} {o : Oper} {a : Act} {Q : Exit → Act → World → Prop} {w0 w : World} {t e : TypeId}
    (E : ElemOk t e (.int .u8 0) 1 1) (hgd : o.guard = none) (s x : Operand) (ho : o.op = .call { callee := .builtin .append, args := #[s, x], argTypes := #[t, t] })
    {A : Option Addr} {n cap : Nat} {l : List UInt8} (hs : a.eval s = .slice A n cap) (hown : w.ownsRow w0.heap.size e 1 (.slice A n cap) n (l.map byteV))
    {k : Int} {c : Nat} (hx : a.eval x = .slice (some ⟨w.heap.size, 0, none⟩) 1 c) (hk : 0 ≤ k) (hk' : k < 256)
    (hbytes : n + 1 ≤ 140737488355328) (hb : Gr w0 w)
    (h : ∀ g cap' w', w'.ownsRow w0.heap.size e 1 (.slice (some ⟨g, 0, none⟩) (n + 1) cap') (n + 1) ((l ++ [UInt8.ofNat k.toNat]).map byteV) → Gr w0 w' →
      wpList Tryd.prog ops Q rest (a.put o.dst (.slice (some ⟨g, 0, none⟩) (n + 1) cap')) w') :
    wpList Tryd.prog ops Q (o :: rest) a (w.alloc (.cells #[.int .u8 k] e)) := by
  refine wpList_append_new E hgd s x ho hs hown hx rfl (by simp [Value.oneCell']) (by omega) (by omega) (by unfold maxLen; omega) hb ?_
  intro g cap' w' hown'
  refine h g cap' w' ?_
  have : byteV (UInt8.ofNat k.toNat) = .int .u8 k := by
    unfold byteV
    congr 1
    simp
    omega
  simpa [this] using hown'

theorem add_zero_block (g j : Nat) : (⟨g, 0, none⟩ : Addr).add j = ⟨g, j, none⟩ := by unfold Addr.add; split <;> simp_all

set_option maxRecDepth 100000 in
/-- string(b) of a row of bytes of the call's own -/
theorem run_conv_own {src e dst : TypeId} (hs : Tryd.prog.underlying src = some (.slice e)) (he : Tryd.prog.underlying e = some (.int .u8)) (hd : Tryd.prog.underlying dst = some .string)
    {w : World} {B : Nat} {A : Option Addr} {n cap : Nat} {l : List UInt8} (hown : w.ownsRow B e 1 (.slice A n cap) n (l.map byteV)) :
    (convert src dst (.slice A n cap)).run Tryd.prog w = .ok (.string (bs l)) w := by
  have hn : n = l.length := by have := hown.1; simp at this; exact this.symm
  subst hn
  rcases hown.2 with ⟨hv, h0⟩ | ⟨g, cap', cur, hv, _⟩
  · have hl : l = [] := List.eq_nil_of_length_eq_zero h0
    subst hl
    injection hv with hA hn hc
    subst hA hc
    exact run_convert_bytes_nil w src e hs he 0 0 dst hd
  · injection hv with hA hn hc
    subst hA hc
    refine run_convert_bytes_back w src dst e _ _ l hs he hd ?_
    intro j hj
    refine hown.cells (g := g) rfl j _ ?_
    simp [byteV, hj]
/-! ### blocks known whole -/
def Blk (w : World) (g : Nat) (t : TypeId) (cs : Array Value) : Prop := w.heap[g]? = some (.cells cs t (0, 0))

section
variable {w w' : World} {g : Nat} {t : TypeId} {cs : Array Value}
theorem Blk.lt (h : Blk w g t cs) : g < w.heap.size := by
  rcases Nat.lt_or_ge g w.heap.size with hlt | hge
  · exact hlt
  · unfold Blk at h; rw [Array.getElem?_eq_none hge] at h; cases h
theorem Blk.cell (h : Blk w g t cs) (i : Nat) : w.cell? ⟨g, i, none⟩ = cs[i]? := cell_of_row w g i cs t (0, 0) h
theorem Blk.frozen (h : Blk w g t cs) (i : Nat) : w.frozen? ⟨g, i, none⟩ = false := by
  unfold Blk at h
  simp [World.frozen?, h]
theorem Blk.new (w : World) (t : TypeId) (cs : Array Value) : Blk (w.alloc (.cells cs t)) w.heap.size t cs := heap_alloc_new w _
theorem Blk.drew (h : Blk w g t cs) : Blk w.drew g t cs := h
theorem Blk.drewN (h : Blk w g t cs) (n : Nat) : Blk (w.drewN n) g t cs := h
theorem Blk.alloc (h : Blk w g t cs) (o : Obj) : Blk (w.alloc o) g t cs := (Below.heap_alloc w o g h.lt).trans h
theorem Blk.set_ (h : Blk w g t cs) (i : Nat) (u : Value) : Blk (w.setCell ⟨g, i, none⟩ u) g t (cs.setIfInBounds i u) := by
  unfold Blk at h ⊢
  simp [World.setCell, Array.getElem?_modify, h]
theorem Blk.far (h : Blk w g t cs) {p : Addr} (hp : g ≠ p.block) (u : Value) : Blk (w.setCell p u) g t cs := (Below.heap_setCell w p u g hp).trans h
theorem Blk.below {B : Nat} (h : Blk w g t cs) (hb : Below B w w') (hg : g < B) : Blk w' g t cs := (hb.block g hg).trans h
theorem Blk.grown {row : Option Nat} (h : Blk w g t cs) (hb : w.grownBy w' row) (hg : some g ≠ row) : Blk w' g t cs := (hb.block g h.lt hg).trans h
theorem Blk.ne_ {g' : Nat} {t' : TypeId} {cs' : Array Value} (h : Blk w g t cs) (h' : Blk w g' t' cs') (hne : t ≠ t') : g ≠ g' := by
  rintro rfl
  unfold Blk at h h'
  rw [h] at h'
  injection h' with h'
  injection h' with _ ht
  exact hne ht
theorem own_blk_ne {base : Nat} {e : TypeId} {size n : Nat} {v : Value} {xs : List Value} (h : w.ownsRow base e size v n xs) (hg : Blk w g t cs) (hne : e ≠ t) : v.ownBlock ≠ some g := by
  rcases h.2 with ⟨rfl, _⟩ | ⟨g', cap, cur, rfl, _, hh, _⟩
  · simp [Value.ownBlock]
  · intro he
    have : g' = g := by simpa [Value.ownBlock] using he
    subst this
    exact Blk.ne_ (t := e) hh hg hne rfl
end

/-- string(b) of one byte, wherever it lies -/
theorem run_conv_one {src e dst : TypeId} (hs : Tryd.prog.underlying src = some (.slice e)) (he : Tryd.prog.underlying e = some (.int .u8)) (hd : Tryd.prog.underlying dst = some .string)
    (w : World) (g cap : Nat) (k : Int) (hc : w.cell? ⟨g, 0, none⟩ = some (.int .u8 k)) (h0 : 0 ≤ k) (h1 : k < 256) :
    (convert src dst (.slice (some ⟨g, 0, none⟩) 1 cap)).run Tryd.prog w = .ok (.string (bs [UInt8.ofNat k.toNat])) w := by
  refine run_convert_bytes_back w src dst e ⟨g, 0, none⟩ cap [UInt8.ofNat k.toNat] hs he hd ?_
  intro j hj
  have : j = 0 := by simp at hj; exact hj
  subst this
  rw [add_zero_block, hc]
  simp; omega

end Go.Proofs.YtbhpglhmnpcnkaaDoor

namespace Go.Proofs.YtbhpglhmnpcnkaaDoor
open Go.RowKit

/-- a slice value of n elements (size cells each) whose cells are vs; of an empty one nothing is known -/
structure Row (w : World) (size : Nat) (A : Option Addr) (n : Nat) (vs : List Value) : Prop where
  len : vs.length = n * size
  at_ : 0 < n → ∃ b off, A = some ⟨b, off, none⟩ ∧ ∀ i v, vs[i]? = some v → w.cell? ⟨b, off + i, none⟩ = some v

theorem Row.nil (w : World) (size : Nat) (A : Option Addr) : Row w size A 0 [] := ⟨by simp, fun h => absurd h (by omega)⟩
theorem Row.keep {w w' : World} {size n : Nat} {A : Option Addr} {vs : List Value} (h : Row w size A n vs) (hk : ∀ b o v, w.cell? ⟨b, o, none⟩ = some v → (∃ off, A = some ⟨b, off, none⟩) → w'.cell? ⟨b, o, none⟩ = some v) : Row w' size A n vs :=
  ⟨h.len, fun hn => by
    obtain ⟨b, off, e, hc⟩ := h.at_ hn
    exact ⟨b, off, e, fun i v hv => hk b _ v (hc i v hv) ⟨off, e⟩⟩⟩
theorem Row.gr {w w' : World} {size n : Nat} {A : Option Addr} {vs : List Value} (h : Row w size A n vs) (g : Gr w w') : Row w' size A n vs :=
  h.keep fun b o _ hv _ => (g.below.cell (p := ⟨b, o, none⟩) (World.block_lt_of_cell? w _ hv)).trans hv
theorem Row.only {w w' : World} {size n g : Nat} {A : Option Addr} {vs : List Value} (h : Row w size A n vs) (hg : w.grownBy w' (some g)) (hne : 0 < n → ∀ b off, A = some ⟨b, off, none⟩ → b ≠ g) : Row w' size A n vs :=
  ⟨h.len, fun hn => by
    obtain ⟨b, off, e, hc⟩ := h.at_ hn
    exact ⟨b, off, e, fun i v hv => hg.cell (hc i v hv) (fun e' => hne hn b off e (by simpa using e'))⟩⟩
theorem Row.own {w : World} {B e size n cap : Nat} {A : Option Addr} {vs : List Value} (h : w.ownsRow B e size (.slice A n cap) n vs) : Row w size A n vs := by
  refine ⟨h.1, fun hn => ?_⟩
  rcases h.2 with ⟨_, h0⟩ | ⟨g, cap', cur, hv, _⟩
  · omega
  · injection hv with hA _ _
    refine ⟨g, 0, hA, fun i v hi => ?_⟩
    have := h.cells (g := g) (by rw [hA]; rfl) i v hi
    rw [add_zero_block] at this
    rw [Nat.zero_add]; exact this
theorem Row.lt {w : World} {size n : Nat} {A : Option Addr} {vs : List Value} (h : Row w size A n vs) (hn : 0 < n) (hs : 0 < size) : ∃ b off, A = some ⟨b, off, none⟩ ∧ b < w.heap.size := by
  obtain ⟨b, off, e, hc⟩ := h.at_ hn
  have hl : 0 < vs.length := by rw [h.len]; exact Nat.mul_pos hn hs
  exact ⟨b, off, e, World.block_lt_of_cell? w _ (hc 0 vs[0] (List.getElem?_eq_getElem hl))⟩
/-- one-cell elements: the i-th -/
theorem Row.cell1 {w : World} {n : Nat} {A : Option Addr} {vs : List Value} (h : Row w 1 A n vs) {i : Nat} (hi : i < n) : ∃ b off, A = some ⟨b, off, none⟩ ∧ ∃ (h' : i < vs.length), w.cell? ⟨b, off + i, none⟩ = some vs[i] := by
  obtain ⟨b, off, e, hc⟩ := h.at_ (by omega)
  have hl : i < vs.length := by rw [h.len]; omega
  exact ⟨b, off, e, hl, hc i _ (List.getElem?_eq_getElem hl)⟩

def strV (s : List UInt8) : Value := .string (bs s)
def intV (n : Int) : Value := .int .i64 n
/-- a slice of strings -/
def StrRow (w : World) (A : Option Addr) (n : Nat) (ss : List (List UInt8)) : Prop := Row w 1 A n (ss.map strV)
theorem StrRow.len {w : World} {A : Option Addr} {n : Nat} {ss : List (List UInt8)} (h : StrRow w A n ss) : ss.length = n := by have := Row.len h; simpa using this
theorem StrRow.gr {w w' : World} {A : Option Addr} {n : Nat} {ss : List (List UInt8)} (h : StrRow w A n ss) (g : Gr w w') : StrRow w' A n ss := Row.gr h g
theorem StrRow.only {w w' : World} {A : Option Addr} {n g : Nat} {ss : List (List UInt8)} (h : StrRow w A n ss) (hg : w.grownBy w' (some g)) (hne : 0 < n → ∀ b off, A = some ⟨b, off, none⟩ → b ≠ g) : StrRow w' A n ss := Row.only h hg hne
theorem StrRow.cell {w : World} {A : Option Addr} {n : Nat} {ss : List (List UInt8)} (h : StrRow w A n ss) {i : Nat} (hi : i < ss.length) : ∃ b off, A = some ⟨b, off, none⟩ ∧ w.cell? ⟨b, off + i, none⟩ = some (.string (bs ss[i])) := by
  obtain ⟨b, off, e, hl, hc⟩ := Row.cell1 h (i := i) (by have := h.len; omega)
  exact ⟨b, off, e, by simpa [strV] using hc⟩

/-- a slice of structs: each element's cells by f, k of them -/
theorem flat_len {α : Type} (f : α → List Value) (k : Nat) (hf : ∀ x, (f x).length = k) (l : List α) : (l.flatMap f).length = l.length * k := by
  induction l with
  | nil => simp
  | cons x r ih => rw [List.flatMap_cons, List.length_append, ih, hf, List.length_cons, Nat.add_mul]; omega
theorem flat_at {α : Type} (f : α → List Value) (k : Nat) (hf : ∀ x, (f x).length = k) (l : List α) : ∀ (i : Nat) (h : i < l.length) (j : Nat), j < k → (l.flatMap f)[i * k + j]? = (f l[i])[j]? := by
  induction l with
  | nil => intro i h; simp at h
  | cons x r ih =>
    intro i h j hj
    rw [List.flatMap_cons]
    cases i with
    | zero => rw [Nat.zero_mul, Nat.zero_add, List.getElem?_append_left (by rw [hf]; exact hj)]; rfl
    | succ i =>
      rw [List.getElem?_append_right (by rw [hf, Nat.add_mul]; omega), hf]
      have e : (i + 1) * k + j - k = i * k + j := by rw [Nat.add_mul]; omega
      rw [e]
      exact ih i (by simpa using h) j hj
theorem Row.fcell {α : Type} {w : World} {k n : Nat} {A : Option Addr} (f : α → List Value) (hf : ∀ x, (f x).length = k) (hk : 0 < k) {l : List α} (h : Row w k A n (l.flatMap f)) {i : Nat} (hi : i < l.length) :
    ∃ b off, A = some ⟨b, off, none⟩ ∧ b < w.heap.size ∧ ∀ j v, (f l[i])[j]? = some v → w.cell? ⟨b, off + i * k + j, none⟩ = some v := by
  have hn : l.length * k = n * k := by have := h.len; rwa [flat_len f k hf] at this
  have hn' : l.length = n := Nat.eq_of_mul_eq_mul_right hk hn
  obtain ⟨b, off, e, hc⟩ := h.at_ (by omega)
  have hat : ∀ j v, (f l[i])[j]? = some v → w.cell? ⟨b, off + i * k + j, none⟩ = some v := by
    intro j v hv
    have hj : j < k := by rw [← hf l[i]]; exact (List.getElem?_eq_some_iff.1 hv).1
    rw [Nat.add_assoc]
    exact hc _ _ ((flat_at f k hf l i hi j hj).trans hv)
  have h0 : 0 < (f l[i]).length := by rw [hf]; exact hk
  exact ⟨b, off, e, World.block_lt_of_cell? w _ (hat 0 _ (List.getElem?_eq_getElem h0)), hat⟩
theorem Row.flen {α : Type} {w : World} {k n : Nat} {A : Option Addr} (f : α → List Value) (hf : ∀ x, (f x).length = k) (hk : 0 < k) {l : List α} (h : Row w k A n (l.flatMap f)) : l.length = n := by
  have hn : l.length * k = n * k := by have := h.len; rwa [flat_len f k hf] at this
  exact Nat.eq_of_mul_eq_mul_right hk hn

/-- append of one element of one cell -/
theorem wpList_append_one {ops : Array Oper} {rest : List Oper} {o : Oper} {a : Act} {Q : Exit → Act → World → Prop} {w0 w : World} {t e : TypeId} {z : Value} {bytes : Nat}
    (E : ElemOk t e z 1 bytes) (hgd : o.guard = none) (s x : Operand) (ho : o.op = .call { callee := .builtin .append, args := #[s, x], argTypes := #[t, t] })
    {A : Option Addr} {n cap : Nat} {xs : List Value} (hs : a.eval s = .slice A n cap) (hown : w.ownsRow w0.heap.size e 1 (.slice A n cap) n xs)
    {u : Value} {c : Nat} (hx : a.eval x = .slice (some ⟨w.heap.size, 0, none⟩) 1 c) (h1 : u.oneCell' = true)
    (hbytes : (n + 1) * bytes ≤ 140737488355328) (h63 : n + 1 ≤ maxLen) (hb : Gr w0 w)
    (h : ∀ g cap' w', w'.ownsRow w0.heap.size e 1 (.slice (some ⟨g, 0, none⟩) (n + 1) cap') (n + 1) (xs ++ [u]) → w.grownBy w' (Value.ownBlock (.slice A n cap)) → Gr w0 w' →
      wpList Tryd.prog ops Q rest (a.put o.dst (.slice (some ⟨g, 0, none⟩) (n + 1) cap')) w') :
    wpList Tryd.prog ops Q (o :: rest) a (w.alloc (.cells #[u] e)) := by
  obtain ⟨i0, hi0, hz0, hz1, hz2⟩ := info_parts E.info
  refine wpList_append_own _ hgd s x t ho w0.heap.size e i0 z 1 bytes E.under hi0 hz0 hz1 hz2 E.zcells E.pos _ n xs hs (hown.alloc _) ⟨w.heap.size, 0, none⟩ 1 c [u] hx (by simp) ?_ (by intro v hv; simp at hv; subst hv; exact h1) h63 hbytes (by have := hb.size; simp; omega) ?_
  · intro j v hv
    have hc : (w.alloc (.cells #[u] e)).cell? ⟨w.heap.size, j, none⟩ = (#[u] : Array Value)[j]? := World.cell?_alloc_mark w #[u] e (0, 0) j
    rw [add_zero_block, hc]
    simpa using hv
  · intro v' w' hown' hg hnil
    have hb' : Gr w0 w' := (hb.alloc _).grown hg (fun k hk => (hown.lt k hk).1)
    have hg' : w.grownBy w' (Value.ownBlock (.slice A n cap)) :=
      ⟨hg.os, hg.tape, hg.output, by have := hg.size; simp at this; omega, fun k hk hne => (hg.block k (by simp; omega) hne).trans (Below.heap_alloc w _ k hk)⟩
    rcases hown'.2 with ⟨hv, h0⟩ | ⟨g, cap', cur, hv, _⟩
    · omega
    · subst hv
      exact h g cap' w' hown' hg' hb'

/-- the same over any base: the world is told by what the append writes alone -/
theorem wpList_append_oneB {ops : Array Oper} {rest : List Oper} {o : Oper} {a : Act} {Q : Exit → Act → World → Prop} {w : World} {t e : TypeId} {z : Value} {bytes : Nat}
    (E : ElemOk t e z 1 bytes) (hgd : o.guard = none) (s x : Operand) (ho : o.op = .call { callee := .builtin .append, args := #[s, x], argTypes := #[t, t] })
    {B : Nat} {A : Option Addr} {n cap : Nat} {xs : List Value} (hs : a.eval s = .slice A n cap) (hown : w.ownsRow B e 1 (.slice A n cap) n xs)
    {u : Value} {c : Nat} (hx : a.eval x = .slice (some ⟨w.heap.size, 0, none⟩) 1 c) (h1 : u.oneCell' = true)
    (hbytes : (n + 1) * bytes ≤ 140737488355328) (h63 : n + 1 ≤ maxLen) (hB : B ≤ w.heap.size)
    (h : ∀ g cap' w', w'.ownsRow B e 1 (.slice (some ⟨g, 0, none⟩) (n + 1) cap') (n + 1) (xs ++ [u]) → w.grownBy w' (Value.ownBlock (.slice A n cap)) →
      wpList Tryd.prog ops Q rest (a.put o.dst (.slice (some ⟨g, 0, none⟩) (n + 1) cap')) w') :
    wpList Tryd.prog ops Q (o :: rest) a (w.alloc (.cells #[u] e)) := by
  obtain ⟨i0, hi0, hz0, hz1, hz2⟩ := info_parts E.info
  refine wpList_append_own _ hgd s x t ho B e i0 z 1 bytes E.under hi0 hz0 hz1 hz2 E.zcells E.pos _ n xs hs (hown.alloc _) ⟨w.heap.size, 0, none⟩ 1 c [u] hx (by simp) ?_ (by intro v hv; simp at hv; subst hv; exact h1) h63 hbytes (by simp; omega) ?_
  · intro j v hv
    have hc : (w.alloc (.cells #[u] e)).cell? ⟨w.heap.size, j, none⟩ = (#[u] : Array Value)[j]? := World.cell?_alloc_mark w #[u] e (0, 0) j
    rw [add_zero_block, hc]
    simpa using hv
  · intro v' w' hown' hg hnil
    have hg' : w.grownBy w' (Value.ownBlock (.slice A n cap)) :=
      ⟨hg.os, hg.tape, hg.output, by have := hg.size; simp at this; omega, fun k hk hne => (hg.block k (by simp; omega) hne).trans (Below.heap_alloc w _ k hk)⟩
    rcases hown'.2 with ⟨hv, h0⟩ | ⟨g, cap', cur, hv, _⟩
    · omega
    · subst hv
      exact h g cap' w' hown' hg'

/-- only block g has turned since a: an append onto a row that is younger than a -/
theorem only_own {a b c : World} {g e size n : Nat} {v : Value} {xs : List Value} (h : a.grownBy b (some g)) (hown : b.ownsRow a.heap.size e size v n xs) (k : b.grownBy c v.ownBlock) : a.grownBy c (some g) :=
  ⟨k.os.trans h.os, k.tape.trans h.tape, k.output.trans h.output, Nat.le_trans h.size k.size, fun i hi hne =>
    (k.block i (Nat.lt_of_lt_of_le hi h.size) (fun e' => by have := (hown.lt i e'.symm).1; omega)).trans (h.block i hi hne)⟩

/-- what is owned stays owned while another block is written -/
theorem own_gr {w w' : World} {B e size n : Nat} {v : Value} {xs : List Value} (h : w.ownsRow B e size v n xs) (g : Gr w w') : w'.ownsRow B e size v n xs :=
  h.kept (row := none) ⟨g.below.os, g.below.tape, g.below.output, g.below.size, fun k hk _ => g.below.block k hk⟩ (by cases v.ownBlock <;> simp)
theorem own_only {w w' : World} {B e size n g : Nat} {v : Value} {xs : List Value} {T : TypeId} {cs : Array Value} (h : w.ownsRow B e size v n xs) (hb : Blk w g T cs) (hT : e ≠ T) (hg : w.grownBy w' (some g)) : w'.ownsRow B e size v n xs :=
  h.kept hg (.inr (own_blk_ne h hb hT))
theorem own_other {w w' : World} {B B' e e' size size' n n' : Nat} {v v' : Value} {xs xs' : List Value} (h : w.ownsRow B e size v n xs) (h' : w.ownsRow B' e' size' v' n' xs') (hT : e ≠ e') (hg : w.grownBy w' v'.ownBlock) : w'.ownsRow B e size v n xs := by
  refine h.kept hg ?_
  rcases h'.2 with ⟨rfl, _⟩ | ⟨g', cap', cur', rfl, _, hh', _⟩
  · cases hv : v.ownBlock
    · exact .inl rfl
    · right; simp [Value.ownBlock]
  · exact .inr (own_blk_ne h (show Blk w g' e' cur' from hh') hT)
theorem blk_own {w w' : World} {B e size n g : Nat} {v : Value} {xs : List Value} {T : TypeId} {cs : Array Value} (hb : Blk w g T cs) (h : w.ownsRow B e size v n xs) (hT : e ≠ T) (hg : w.grownBy w' v.ownBlock) : Blk w' g T cs :=
  hb.grown hg (fun e' => own_blk_ne h hb hT e'.symm)
theorem Blk.gr {w w' : World} {g : Nat} {T : TypeId} {cs : Array Value} (h : Blk w g T cs) (k : Gr w w') : Blk w' g T cs := h.below k.below h.lt

theorem results_tmp4 {fn : Func} {t u v x : Tmp} (h : fn.results = #[.tmp t, .tmp u, .tmp v, .tmp x]) (tmps : Array Value) (P : Program) (w : World) :
    (results fn tmps).run P w = .ok (.tuple #[tmps.getD t undef, tmps.getD u undef, tmps.getD v undef, tmps.getD x undef]) w := by simp [results, h]

end Go.Proofs.YtbhpglhmnpcnkaaDoor

namespace Go.Proofs.YtbhpglhmnpcnkaaDoor
theorem E.u8 : ElemOk 67 5 (.int .u8 0) 1 1 := ⟨Tryd.underlying67, by kernel_rfl, rfl, by omega⟩
theorem E.str : ElemOk 48 9 (.string (bs [])) 1 16 := ⟨Tryd.underlying48, by kernel_rfl, rfl, by omega⟩
theorem E.int : ElemOk 116 3 (.int .i64 0) 1 8 := ⟨Tryd.underlying116, by kernel_rfl, rfl, by omega⟩
end Go.Proofs.YtbhpglhmnpcnkaaDoor

namespace Go.Proofs.YtbhpglhmnpcnkaaDoor
open Go.RowKit


theorem u8_or_nat' (m : Nat) : bits BinOp.or .u8 ((m : Int) % 256) 128 = ((m % 128 + 128 : Nat) : Int) := by
  rcases Nat.lt_or_ge (m % 256) 128 with h | h
  · rw [u8_or128_right _ (by omega) (by omega)]; omega
  · rw [u8_or _ _ (by omega) (by omega) (by omega) (by omega)]
    have e : ((m : Int) % 256).toNat = m % 256 := by omega
    rw [e]
    have : ∀ k : Fin 256, 128 ≤ k.val → (k.val ||| 128) = k.val := by decide +kernel
    have h2 := this ⟨m % 256, by omega⟩ h
    show (((m % 256) ||| 128 : Nat) : Int) = _
    simp only at h2
    rw [h2]; omega
theorem or128 (m : Nat) : bits BinOp.or .u8 ((m : Int) % 256) 128 = ((m % 128 + 128 : Nat) : Int) := by
  rw [u8_or_nat' m]
set_option maxHeartbeats 400000 in
theorem put_ok (b : List UInt8) (n : Int) (w : World) (h0 : 0 ≤ n) (h1 : n < 4611686018427387904) (hb : b.length ≤ 1152921504606846976) :
    Calls Tryd.prog 61 #[.string (bs b), .int .i64 n] w fun e w' => e = .returned (.tuple #[.string (bs (b ++ num n.toNat)), .int .i64 0]) ∧ Gr w w' := by
  go_enter Tryd.func61, Tryd.ntmps61
  go_wp2_with fail
  go_loopw [1, 6] (fun nv lv wr => ∃ (m : Nat) (l : List UInt8) (A : Option Addr) (cap : Nat), nv = .int .i64 m ∧ m < 4611686018427387904 ∧ Sec (num n.toNat = l ++ num m) ∧ lv = .slice A l.length cap ∧ wr.ownsRow w.heap.size 5 1 (.slice A l.length cap) l.length (l.map byteV) ∧ Gr w wr)
    (fun nv _ _ => (intOf nv).toNat)
  case atStart => exact ⟨n.toNat, [], none, 0, by rw [Int.toNat_of_nonneg h0], by omega, ⟨by simp⟩, rfl, World.ownsRow_nil _ _ _ _, Gr.refl _⟩
  case round =>
    obtain ⟨m, l, A, cap, rfl, hm, hl, rfl, hown, hbel⟩ := hrel
    have hl9 : l.length + 1 ≤ 9 := by
      have h9 := num_len9 (n := n.toNat) (by omega)
      rw [hl.out] at h9
      have := num_pos m
      simp at h9; omega
    by_cases hlt : 127 < (m : Int)
    · have hor := or128 m
      go_wp2_with (at_builtin; refine wpList_append_byte E.u8 rfl (.tmp 15) (.tmp 19) rfl rfl hown rfl (by omega) (by omega) (by omega) hbel ?_; intro g cap' w1 hown1 hbel1)
      go_round
      case rel =>
        have e : ((m : Int) % 128 + 128).toNat = m % 128 + 128 := by omega
        rw [e] at hown1
        refine ⟨m / 128, l ++ [UInt8.ofNat (m % 128 + 128)], some ⟨g, 0, none⟩, cap', by go_num, by omega, ?_, by simp, by rw [List.length_append]; exact hown1, hbel1⟩
        have := hl.out
        rw [num_big (n := m) (by omega)] at this
        exact ⟨by simpa using this⟩
      case measure => simp [intOf]; omega
    · have hmod : (m : Int) % 256 = m := by omega
      go_wp2_with (at_builtin; refine wpList_append_byte E.u8 rfl (.tmp 24) (.tmp 27) rfl rfl hown rfl (by omega) (by omega) (by omega) hbel ?_; intro g cap' w1 hown1 hbel1; have hcv := run_conv_own (src := 67) (dst := 9) Tryd.underlying67 Tryd.underlying5 Tryd.underlying9 hown1)
      go_ret2
      refine ⟨?_, hbel1⟩
      rw [hl.out, num_small (by omega)]
      simp
theorem put_err (b : List UInt8) (n : Int) (w : World) (h : n < 0 ∨ 4611686018427387904 ≤ n) :
    Calls Tryd.prog 61 #[.string (bs b), .int .i64 n] w fun e w' => e = .returned (.tuple #[.string (bs []), .int .i64 3]) ∧ w = w' := by
  rcases h with h | h
  all_goals
    go_enter Tryd.func61, Tryd.ntmps61
    go_wp2
    go_ret2
    exact ⟨rfl, rfl⟩
end Go.Proofs.YtbhpglhmnpcnkaaDoor

namespace Go.Proofs.YtbhpglhmnpcnkaaDoor
open Go.RowKit

set_option maxHeartbeats 400000 in
theorem number_out (n : Int) (w : World) (h : n < 0 ∨ 4611686018427387904 ≤ n) :
    Calls Tryd.prog 40 #[.int .i64 n] w fun e w' => e = .returned (.string (bs [])) ∧ Gr w w' := by
  rcases h with h | h
  all_goals
    go_enter Tryd.func40, Tryd.ntmps40
    go_wp2
    go_ret
    exact ⟨rfl, Gr.refl _⟩

set_option maxHeartbeats 1000000 in
theorem number_ok : ∀ (k : Nat) (n : Int) (w : World) (_ : n.toNat < k) (_ : 0 ≤ n) (_ : n < 4611686018427387904),
    Calls Tryd.prog 40 #[.int .i64 n] w fun e w' => e = .returned (.string (bs (num n.toNat))) ∧ Gr w w' := by
  intro k
  induction k with
  | zero => intro n w hk _ _; omega
  | succ k ih =>
    intro n w hk h0 h1
    have IH := sec ih
    clear ih
    have hcv := run_conv_one (src := 67) (dst := 9) Tryd.underlying67 Tryd.underlying5 Tryd.underlying9
    by_cases hlt : n < 128
    · go_enter Tryd.func40, Tryd.ntmps40
      have hk : n < 256 := by omega
      go_wp2
      go_ret
      refine ⟨?_, (Gr.refl _).alloc _⟩
      rw [num_small (by omega)]; rfl
    · have hl9 := num_len9 (n := n.toNat / 128) (by omega)
      have hd0 : (n / 128).toNat = n.toNat / 128 := by omega
      have HD := sec hd0
      clear hd0
      have a0 : 0 ≤ n / 128 := by omega
      have a1 : n / 128 < 4611686018427387904 := by omega
      have a2 : (n / 128).toNat < k := by omega
      have b0 : 0 ≤ n % 128 + 128 := by omega
      have b1 : n % 128 + 128 < 256 := by omega
      have e1 : n.tmod 128 = n % 128 := Int.tmod_eq_emod_of_nonneg h0
      have e2 : IntKind.i64.wrap (n % 128 + 128) = n % 128 + 128 := IntWalk.i64_in _ (by omega)
      have e3 : IntKind.u8.wrap (n % 128 + 128) = n % 128 + 128 := IntWalk.u8_in _ (by omega)
      have e4 : IntKind.i64.wrap (n.tdiv 128) = n / 128 := IntWalk.i64_quo _ _ (by omega)
      have hcat : ¬ 9223372036854775807 < 1 + (num (n.toNat / 128)).length := by omega
      have hfin : num n.toNat = UInt8.ofNat (n % 128 + 128).toNat :: num (n.toNat / 128) := by
        rw [num_big (n := n.toNat) (by omega)]; congr 2; omega
      have HF := sec hfin
      clear hfin
      go_enter Tryd.func40, Tryd.ntmps40
      go_wp2
      go_region_with (go_at_call 40; refine (IH.out _ _ a2 a0 a1).mono ?_; rintro e w1 ⟨rfl, hb1⟩; rw [HD.out]; have hc1 := hb1.cells)
      all_goals
        go_wp2
        go_ret
        refine ⟨by rw [HF.out]; rfl, ?_⟩
      all_goals repeat (first | exact Gr.refl _ | assumption | refine Gr.drew ?_ | refine Gr.alloc ?_ _ | refine Gr.trans ?_ (by assumption))
end Go.Proofs.YtbhpglhmnpcnkaaDoor

namespace Go.Proofs.YtbhpglhmnpcnkaaDoor
open Go.RowKit

/-- P2.1: a number's bytes; none where it has none -/
def numS (n : Int) : List UInt8 := if 0 ≤ n ∧ n < 4611686018427387904 then num n.toNat else []
theorem numS_in {n : Int} (h0 : 0 ≤ n) (h1 : n < 4611686018427387904) : numS n = num n.toNat := if_pos ⟨h0, h1⟩
theorem numS_nat {n : Nat} (h1 : n < 4611686018427387904) : numS n = num n := by rw [numS_in (by omega) (by omega)]; simp
theorem numS_out {n : Int} (h : n < 0 ∨ 4611686018427387904 ≤ n) : numS n = [] := if_neg (by omega)
/-- P2.1: a text's bytes -/
def txt (l : List UInt8) : List UInt8 := num l.length ++ l

theorem number_any (n : Int) (w : World) :
    Calls Tryd.prog 40 #[.int .i64 n] w fun e w' => e = .returned (.string (bs (numS n))) ∧ Gr w w' := by
  by_cases h : 0 ≤ n ∧ n < 4611686018427387904
  · rw [numS_in h.1 h.2]; exact number_ok (n.toNat + 1) n w (by omega) h.1 h.2
  · rw [numS_out (by omega)]; exact number_out n w (by omega)

theorem puttext_ok (b t : List UInt8) (w : World) (hb : b.length ≤ 1152921504606846976) (ht : t.length ≤ 4096) :
    Calls Tryd.prog 114 #[.string (bs b), .string (bs t)] w fun e w' => e = .returned (.tuple #[.string (bs (b ++ txt t)), .int .i64 0]) ∧ Gr w w' := by
  have hl := num_len9 (n := t.length) (by omega)
  go_enter Tryd.func114, Tryd.ntmps114
  go_wp2_with (go_at_call 61; refine (put_ok b _ _ (by omega) (by omega) hb).mono ?_; rintro e w1 ⟨rfl, g1⟩; rw [Int.toNat_natCast])
  go_ret2
  exact ⟨by simp [txt], g1⟩

theorem puttext_long (b t : List UInt8) (w : World) (ht : 4096 < t.length) :
    Calls Tryd.prog 114 #[.string (bs b), .string (bs t)] w fun e w' => e = .returned (.tuple #[.string (bs []), .int .i64 1]) ∧ w = w' := by
  go_enter Tryd.func114, Tryd.ntmps114
  go_wp2
  go_ret2
  exact ⟨rfl, rfl⟩

end Go.Proofs.YtbhpglhmnpcnkaaDoor

namespace Go.Proofs.YtbhpglhmnpcnkaaDoor

/-- from place i on, n read so far -/
def getGo : Nat → Nat → List UInt8 → Option (Nat × Nat)
  | _, _, [] => none
  | i, n, c :: r =>
    if 9 ≤ i then none
    else if i = 8 ∧ 63 < c.toNat then none
    else if c.toNat < 128 then (if 0 < i ∧ c.toNat = 0 then none else some (n + c.toNat % 128 * 128 ^ i, i + 1))
    else getGo (i + 1) (n + c.toNat % 128 * 128 ^ i) r
def get (l : List UInt8) : Option (Nat × Nat) := getGo 0 0 l

theorem drop_cons {α : Type} (l : List α) (i : Nat) (h : i < l.length) : l.drop i = l[i] :: l.drop (i + 1) := List.drop_eq_getElem_cons h
theorem getGo_end (i n : Nat) (l : List UInt8) (h : l.length ≤ i ∨ 9 ≤ i) : getGo i n (l.drop i) = none := by
  by_cases hi : i < l.length
  · rw [drop_cons l i hi, getGo, if_pos (by omega)]
  · rw [List.drop_eq_nil_of_le (by omega), getGo]
theorem getGo_big (i n : Nat) (l : List UInt8) (hi : i < l.length) (h8 : i = 8) (h : 63 < l[i].toNat) : getGo i n (l.drop i) = none := by
  rw [drop_cons l i hi, getGo, if_neg (by omega), if_pos ⟨h8, h⟩]
theorem getGo_zero (i n : Nat) (l : List UInt8) (hi : i < l.length) (h0 : 0 < i) (h : l[i].toNat = 0) (h9 : i < 9) : getGo i n (l.drop i) = none := by
  rw [drop_cons l i hi, getGo, if_neg (by omega), if_neg (by omega), if_pos (by omega), if_pos ⟨h0, h⟩]
theorem getGo_hit (i n : Nat) (l : List UInt8) (hi : i < l.length) (h9 : i < 9) (h8 : ¬ (i = 8 ∧ 63 < l[i].toNat)) (hc : l[i].toNat < 128) (h0 : ¬ (0 < i ∧ l[i].toNat = 0)) :
    getGo i n (l.drop i) = some (n + l[i].toNat % 128 * 128 ^ i, i + 1) := by
  rw [drop_cons l i hi, getGo, if_neg (by omega), if_neg h8, if_pos hc, if_neg h0]
theorem getGo_step (i n : Nat) (l : List UInt8) (hi : i < l.length) (h9 : i < 9) (h8 : ¬ (i = 8 ∧ 63 < l[i].toNat)) (hc : ¬ l[i].toNat < 128) :
    getGo i n (l.drop i) = getGo (i + 1) (n + l[i].toNat % 128 * 128 ^ i) (l.drop (i + 1)) := by
  rw [drop_cons l i hi, getGo, if_neg (by omega), if_neg h8, if_neg hc]

/-- what the bytes of a number come to -/
def valP : List UInt8 → Nat
  | [] => 0
  | c :: r => c.toNat % 128 + 128 * valP r
theorem valP_snoc (p : List UInt8) (c : UInt8) : valP (p ++ [c]) = valP p + c.toNat % 128 * 128 ^ p.length := by
  induction p with
  | nil => simp [valP]
  | cons x r ih =>
    simp only [List.cons_append, valP, ih, List.length_cons, Nat.pow_succ, Nat.mul_add]
    have : 128 * (c.toNat % 128 * 128 ^ r.length) = c.toNat % 128 * (128 ^ r.length * 128) := by
      rw [Nat.mul_left_comm, Nat.mul_comm 128 (128 ^ r.length)]
    omega
theorem valP_take (l : List UInt8) (i : Nat) (h : i < l.length) : valP (l.take (i + 1)) = valP (l.take i) + l[i].toNat % 128 * 128 ^ i := by
  rw [List.take_succ_eq_append_getElem h, valP_snoc, List.length_take, Nat.min_eq_left (by omega)]
theorem valP_lt (p : List UInt8) : valP p < 128 ^ p.length := by
  induction p with
  | nil => simp [valP]
  | cons x r ih =>
    simp only [valP, List.length_cons, Nat.pow_succ]
    omega

/-- a number's bytes, read, are written again (P2.2): exactly where the last is not 0 -/
theorem num_valP (p : List UInt8) (c : UInt8) (hp : ∀ x ∈ p, 128 ≤ x.toNat) (hc : c.toNat < 128) (h0 : p = [] ∨ c.toNat ≠ 0) : num (valP (p ++ [c])) = p ++ [c] := by
  induction p with
  | nil =>
    have : valP ([] ++ [c]) = c.toNat := by simp [valP]; omega
    rw [this, num_small hc]; simp
  | cons x r ih =>
    have hx : 128 ≤ x.toNat := hp x (by simp)
    have hc0 : c.toNat ≠ 0 := by rcases h0 with h | h; · cases h
                                 · exact h
    have hv : 1 ≤ valP (r ++ [c]) := by
      rw [valP_snoc]
      have h1 : 1 ≤ c.toNat % 128 := by omega
      have := Nat.mul_le_mul h1 (Nat.pos_of_ne_zero (n := 128 ^ r.length) (by simp))
      omega
    simp only [List.cons_append, valP]
    rw [num_big (by omega)]
    have hx256 := x.toNat_lt
    have e1 : (x.toNat % 128 + 128 * valP (r ++ [c])) % 128 + 128 = x.toNat := by omega
    have e2 : (x.toNat % 128 + 128 * valP (r ++ [c])) / 128 = valP (r ++ [c]) := by omega
    rw [e1, e2, ih (fun y hy => hp y (by simp [hy])) (.inr hc0)]
    simp
theorem num_last (n : Nat) : ∀ (p : List UInt8) (c : UInt8), num n = p ++ [c] → c.toNat = 0 → p = [] := by
  induction n using Nat.strongRecOn with
  | ind n ih =>
    intro p c h h0
    by_cases hs : n < 128
    · rw [num_small hs] at h
      cases p with
      | nil => rfl
      | cons x r => simp at h
    · rw [num_big hs] at h
      cases p with
      | nil => rfl
      | cons x r =>
        simp only [List.cons_append, List.cons.injEq] at h
        have hr := ih (n / 128) (by omega) r c h.2 h0
        subst hr
        have h2 := h.2
        simp only [List.nil_append] at h2
        by_cases hs2 : n / 128 < 128
        · rw [num_small hs2] at h2
          simp only [List.cons.injEq, and_true] at h2
          have h3 := congrArg UInt8.toNat h2
          simp at h3
          omega
        · rw [num_big hs2] at h2
          have := num_pos (n / 128 / 128)
          simp only [List.cons.injEq] at h2
          rw [h2.2] at this
          simp at this

/-- the document's test at place i -/
theorem num_take (l : List UInt8) (i : Nat) (hi : i < l.length) (hp : ∀ x ∈ l.take i, 128 ≤ x.toNat) (hc : l[i].toNat < 128) :
    (num (valP (l.take (i + 1))) == l.take (i + 1)) = !(decide (0 < i) && decide (l[i].toNat = 0)) := by
  rw [List.take_succ_eq_append_getElem hi]
  by_cases h : 0 < i ∧ l[i].toNat = 0
  · have hne : num (valP (l.take i ++ [l[i]])) ≠ l.take i ++ [l[i]] := by
      intro he
      have := num_last _ _ _ he h.2
      have hl : (l.take i).length = 0 := by rw [this]; rfl
      rw [List.length_take] at hl
      omega
    rw [beq_eq_false_iff_ne.2 hne]
    simp [h.1, h.2]
  · have he := num_valP (l.take i) l[i] hp hc (by
      by_cases hi0 : i = 0
      · left; subst hi0; rfl
      · right; omega)
    rw [he]
    simp only [beq_self_eq_true]
    by_cases h1 : 0 < i <;> simp_all

theorem getGo_le (l : List UInt8) : ∀ (i n m k : Nat), getGo i n l = some (m, k) → k ≤ i + l.length ∧ i < k ∧ k ≤ 9 := by
  induction l with
  | nil => intro i n m k h; simp [getGo] at h
  | cons c r ih =>
    intro i n m k h
    rw [getGo] at h
    split at h
    · cases h
    · split at h
      · cases h
      · split at h
        · split at h
          · cases h
          · simp only [Option.some.injEq, Prod.mk.injEq] at h
            simp; omega
        · have := ih _ _ _ _ h
          simp; omega
theorem getGo_lt (l : List UInt8) : ∀ (i n m k : Nat), n < 128 ^ i → getGo i n l = some (m, k) → m < 4611686018427387904 := by
  induction l with
  | nil => intro i n m k _ h; simp [getGo] at h
  | cons c r ih =>
    intro i n m k hn h
    rw [getGo] at h
    have hd : c.toNat % 128 * 128 ^ i ≤ 127 * 128 ^ i := Nat.mul_le_mul_right _ (by omega)
    have hs : 128 ^ (i + 1) = 128 * 128 ^ i := by rw [Nat.pow_succ, Nat.mul_comm]
    split at h
    · cases h
    · rename_i h9
      split at h
      · cases h
      · rename_i h8
        split at h
        · split at h
          · cases h
          · simp only [Option.some.injEq, Prod.mk.injEq] at h
            by_cases e : i = 8
            · subst e
              have h63 : c.toNat % 128 ≤ 63 := by omega
              have hd2 : c.toNat % 128 * 128 ^ 8 ≤ 63 * 128 ^ 8 := Nat.mul_le_mul_right _ h63
              have e8 : (128 : Nat) ^ 8 = 72057594037927936 := by decide
              rw [e8] at hn hd2 h
              omega
            · have : 128 ^ (i + 1) ≤ 128 ^ 8 := Nat.pow_le_pow_right (by omega) (by omega)
              have e8 : (128 : Nat) ^ 8 = 72057594037927936 := by decide
              omega
        · exact ih _ _ _ _ (by omega) h
theorem get_le {l : List UInt8} {m k : Nat} (h : get l = some (m, k)) : k ≤ l.length ∧ 0 < k ∧ k ≤ 9 := by
  have := getGo_le l 0 0 m k h; omega
theorem get_lt {l : List UInt8} {m k : Nat} (h : get l = some (m, k)) : m < 4611686018427387904 := getGo_lt l 0 0 m k (by simp) h
end Go.Proofs.YtbhpglhmnpcnkaaDoor

namespace Go.Proofs.YtbhpglhmnpcnkaaDoor
open Go.RowKit

/-- what Get answers -/
def getV (r : Option (Nat × Nat)) : Value := match r with
  | none => .tuple #[.int .i64 0, .int .i64 0, .int .i64 2]
  | some (n, k) => .tuple #[.int .i64 (n : Int), .int .i64 (k : Int), .int .i64 0]

set_option maxHeartbeats 1000000 in
theorem ofInt_i64 (a : Nat) (ha : a < 9223372036854775808) : (BitVec.ofInt 64 (a : Int)).toNat = a := by
  rw [BitVec.ofInt_natCast, BitVec.toNat_ofNat]; exact Nat.mod_eq_of_lt (by omega)
theorem i64_or_nat (a b : Nat) (ha : a < 9223372036854775808) (hb : b < 9223372036854775808) : bits .or .i64 (a : Int) (b : Int) = ((a ||| b : Nat) : Int) := by
  have hx : a ||| b < 2 ^ 63 := Nat.or_lt_two_pow (by omega) (by omega)
  show IntKind.i64.wrap ((BitVec.ofInt 64 (a : Int) ||| BitVec.ofInt 64 (b : Int)).toNat : Int) = _
  rw [BitVec.toNat_or, ofInt_i64 a ha, ofInt_i64 b hb, IntKind.wrap_i64]
  omega
theorem and127 (c : UInt8) : bits .and .u8 (c.toNat : Int) 127 = ((c.toNat % 128 : Nat) : Int) := by
  have h := c.toNat_lt
  rw [show (127 : Int) = ((127 : Nat) : Int) from rfl, u8_and_nat _ _ (by omega) (by omega)]
  congr 1
  exact Nat.and_two_pow_sub_one_eq_mod c.toNat 7

/-- one step of the sum, as the walk spells it -/
theorem step_or (n i : Nat) (c : UInt8) (hi : i < 9) (hn : n < 128 ^ i) (h8 : ¬ (i = 8 ∧ 63 < c.toNat)) :
    bits .or .i64 (n : Int) (wrap64 (wrap64 (bits .and .u8 (c.toNat : Int) 127) * 2 ^ (7 * i))) = ((n + c.toNat % 128 * 128 ^ i : Nat) : Int) ∧ n + c.toNat % 128 * 128 ^ i < 128 ^ (i + 1) := by
  have hp : (128 : Nat) ^ i = 2 ^ (7 * i) := by rw [show (128 : Nat) = 2 ^ 7 from rfl, ← Nat.pow_mul]
  have hd : c.toNat % 128 * 128 ^ i ≤ 127 * 128 ^ i := Nat.mul_le_mul_right _ (by omega)
  have hs : 128 ^ (i + 1) = 128 * 128 ^ i := by rw [Nat.pow_succ, Nat.mul_comm]
  have e8 : (128 : Nat) ^ 8 = 72057594037927936 := by decide
  have hb : n + c.toNat % 128 * 128 ^ i < 4611686018427387904 := by
    by_cases e : i = 8
    · subst e
      have h63 : c.toNat % 128 ≤ 63 := by omega
      have hd2 : c.toNat % 128 * 128 ^ 8 ≤ 63 * 128 ^ 8 := Nat.mul_le_mul_right _ h63
      rw [e8] at hn hd2 ⊢
      omega
    · have : 128 ^ (i + 1) ≤ 128 ^ 8 := Nat.pow_le_pow_right (by omega) (by omega)
      omega
  refine ⟨?_, by omega⟩
  rw [and127, IntWalk.wrap64_in ((c.toNat % 128 : Nat) : Int) (by omega)]
  have hm : ((c.toNat % 128 : Nat) : Int) * 2 ^ (7 * i) = ((c.toNat % 128 * 128 ^ i : Nat) : Int) := by rw [hp]; simp
  rw [hm, IntWalk.wrap64_in _ (by omega), i64_or_nat _ _ (by omega) (by omega)]
  congr 1
  rw [hp] at hn ⊢
  rw [Nat.or_comm, Nat.mul_comm (c.toNat % 128), ← Nat.two_pow_add_eq_or_of_lt hn]
  omega

set_option maxRecDepth 100000 in
set_option maxHeartbeats 1000000 in
theorem wget (l : List UInt8) (w : World) (hl : l.length ≤ 1152921504606846976) :
    Calls Tryd.prog 62 #[.string (bs l)] w fun e w' => e = .returned (getV (get l)) ∧ w = w' := by
  go_enter Tryd.func62, Tryd.ntmps62
  go_wp2_with fail
  go_loop [5, 6, 7] (fun nv iv _ => ∃ (i n : Nat), nv = .int .i64 n ∧ iv = .int .i64 i ∧ i ≤ l.length ∧ i ≤ 9 ∧ Sec (n < 128 ^ i) ∧ Sec (getGo i n (l.drop i) = get l))
    (fun _ iv _ => 9 - (intOf iv).toNat)
  case atStart => exact ⟨0, 0, rfl, rfl, by omega, by omega, ⟨by simp⟩, ⟨rfl⟩⟩
  case round =>
    obtain ⟨i, n, rfl, rfl, hi, h9, hn, hg⟩ := hrel
    by_cases hlt : i < l.length
    · by_cases hi9 : i < 9
      · by_cases h8 : i = 8 ∧ 63 < l[i].toNat
        · obtain ⟨rfl, h63⟩ := h8
          have h63' : (63 : Int) < (l[8].toNat : Int) := by omega
          go_wp2
          go_ret3
          exact ⟨by rw [← hg.out, getGo_big 8 n l hlt rfl h63]; rfl, rfl⟩
        · have hor := step_or n i l[i] hi9 hn.out h8
          have HO := sec hor
          clear hor
          by_cases e8 : i = 8
          · subst e8
            have eP : (2 : Int) ^ (7 * 8) = 72057594037927936 := by decide
            have hor := HO.out
            rw [eP] at hor
            have HO := sec hor
            clear hor eP
            have h63 : (l[8].toNat : Int) ≤ 63 := by omega
            by_cases hc : l[8].toNat < 128
            · by_cases h0 : 0 < 8 ∧ l[8].toNat = 0
              · have hfin := getGo_zero 8 n l hlt h0.1 h0.2 hi9
                have HF := sec hfin
                clear hfin
                have hc1 : ((l[8].toNat : Int) < 128) := by omega
                have hc2 : ((l[8].toNat : Int) == 0) = true := by simp [h0.2]
                clear h0 hc h8
                go_wp2
                all_goals
                  go_ret3
                  exact ⟨by rw [← hg.out, HF.out]; rfl, rfl⟩
              · have hfin := getGo_hit 8 n l hlt hi9 h8 hc h0
                have HF := sec hfin
                clear hfin
                have hc1 : ((l[8].toNat : Int) < 128) := by omega
                have H8 := sec h8
                have H0 := sec h0
                clear h0 hc h8
                go_wp2
                all_goals first
                  | (exfalso; have h8 := H8.out; omega)
                  | (exfalso; have h0 := H0.out; have hz : (l[8].toNat : Int) = 0 := by simpa using ‹((l[8].toNat : Int) == 0) = true›
                     omega)
                  | (go_ret3
                     refine ⟨?_, rfl⟩
                     rw [← hg.out, HF.out, HO.out.1]
                     rfl)
            · have hfin := getGo_step 8 n l hlt hi9 h8 hc
              have HF := sec hfin
              clear hfin
              have hc1 : ((128 : Int) ≤ (l[8].toNat : Int)) := by omega
              have H8 := sec h8
              clear h8 hc
              go_wp2
              all_goals first
                | (exfalso; have h8 := H8.out; omega)
                | (go_round
                   case rel =>
                     refine ⟨9, n + l[8].toNat % 128 * 128 ^ 8, by rw [HO.out.1], by go_num, by omega, by omega, ⟨HO.out.2⟩, ?_⟩
                     exact ⟨HF.out.symm.trans hg.out⟩
                   case measure => simp [intOf]; omega)
          · have hne : ¬ ((i : Int) = 8) := by omega
            have hne' : ((i : Int) == 8) = false := by simpa using hne
            have HE := sec e8
            clear e8 hne
            by_cases hc : l[i].toNat < 128
            · by_cases h0 : 0 < i ∧ l[i].toNat = 0
              · have hfin := getGo_zero i n l hlt h0.1 h0.2 hi9
                have HF := sec hfin
                clear hfin
                have hc1 : ((l[i].toNat : Int) < 128) := by omega
                have hc2 : ((l[i].toNat : Int) == 0) = true := by simp [h0.2]
                have hi0 : (0 : Int) < (i : Int) := by omega
                clear h0 hc h8
                go_wp2
                all_goals
                  go_ret3
                  exact ⟨by rw [← hg.out, HF.out]; rfl, rfl⟩
              · have hfin := getGo_hit i n l hlt hi9 h8 hc h0
                have HF := sec hfin
                clear hfin
                have hc1 : ((l[i].toNat : Int) < 128) := by omega
                have H8 := sec h8
                have H0 := sec h0
                clear h0 hc h8
                go_wp2
                all_goals first
                  | (exfalso; have h8 := H8.out; omega)
                  | (exfalso; have h0 := H0.out; have hz : (l[i].toNat : Int) = 0 := by simpa using ‹((l[i].toNat : Int) == 0) = true›
                     omega)
                  | (go_ret3
                     refine ⟨?_, rfl⟩
                     rw [← hg.out, HF.out, HO.out.1]
                     rfl)
            · have hfin := getGo_step i n l hlt hi9 h8 hc
              have HF := sec hfin
              clear hfin
              have hc1 : ((128 : Int) ≤ (l[i].toNat : Int)) := by omega
              have H8 := sec h8
              clear h8 hc
              go_wp2
              all_goals first
                | (exfalso; have h8 := H8.out; omega)
                | (go_round
                   case rel =>
                     refine ⟨i + 1, n + l[i].toNat % 128 * 128 ^ i, by rw [HO.out.1], by go_num, by omega, by omega, ⟨HO.out.2⟩, ?_⟩
                     exact ⟨HF.out.symm.trans hg.out⟩
                   case measure => simp [intOf]; omega)
      · go_wp2
        go_ret3
        exact ⟨by rw [← hg.out, getGo_end i n l (by omega)]; rfl, rfl⟩
    · go_wp2
      go_ret3
      exact ⟨by rw [← hg.out, getGo_end i n l (by omega)]; rfl, rfl⟩
end Go.Proofs.YtbhpglhmnpcnkaaDoor

namespace Go.Proofs.YtbhpglhmnpcnkaaDoor
open Go.RowKit

theorem pow_le (i : Nat) (h : i ≤ 8) : 128 ^ i ≤ 72057594037927936 := by
  have : 128 ^ i ≤ 128 ^ 8 := Nat.pow_le_pow_right (by omega) h
  have e8 : (128 : Nat) ^ 8 = 72057594037927936 := by decide
  omega
theorem pow_le7 (i : Nat) (h : i < 8) : 128 ^ i ≤ 562949953421312 := by
  have : 128 ^ i ≤ 128 ^ 7 := Nat.pow_le_pow_right (by omega) (by omega)
  have e8 : (128 : Nat) ^ 7 = 562949953421312 := by decide
  omega

set_option maxRecDepth 100000 in
set_option maxHeartbeats 2000000 in
theorem rget (l : List UInt8) (w : World) (hl : l.length ≤ 1152921504606846976) :
    Calls Tryd.prog 46 #[.string (bs l)] w fun e w' => e = .returned (getV (get l)) ∧ Gr w w' := by
  go_enter Tryd.func46, Tryd.ntmps46
  go_wp2_with fail
  go_loopw [5, 6, 7] (fun nv kv iv wr => ∃ (i n K : Nat), nv = .int .i64 n ∧ kv = .int .i64 K ∧ iv = .int .i64 i ∧ i ≤ l.length ∧ i ≤ 8 ∧ Sec (n = valP (l.take i)) ∧ Sec (K = 128 ^ i) ∧ Sec (∀ x ∈ l.take i, 128 ≤ x.toNat) ∧ Sec (getGo i n (l.drop i) = get l) ∧ Gr w wr)
    (fun _ _ iv _ => 9 - (intOf iv).toNat)
  case atStart => exact ⟨0, 0, 1, rfl, rfl, rfl, by omega, by omega, ⟨by simp [valP]⟩, ⟨by simp⟩, ⟨by simp⟩, ⟨rfl⟩, Gr.refl _⟩
  case round =>
    obtain ⟨i, n, K, rfl, rfl, rfl, hi, h9, hn, hK, hall, hg, hgr⟩ := hrel
    have hK1 : K ≤ 72057594037927936 := by rw [hK.out]; exact pow_le i h9
    have hn1 : n < K := by
      rw [hn.out, hK.out]
      have := valP_lt (l.take i)
      rw [List.length_take, Nat.min_eq_left hi] at this
      exact this
    by_cases hlt : i < l.length
    · have hp0 : 0 ≤ (l[i].toNat : Int) % 128 * (K : Int) := Int.mul_nonneg (by omega) (by omega)
      have hp1 : (l[i].toNat : Int) % 128 * (K : Int) ≤ 127 * (K : Int) := Int.mul_le_mul_of_nonneg_right (by omega) (by omega)
      have hs : n + l[i].toNat % 128 * K = valP (l.take (i + 1)) := by rw [valP_take l i hlt, hn.out, hK.out]
      have HS := sec hs
      clear hs
      by_cases h8 : i = 8 ∧ 63 < l[i].toNat
      · obtain ⟨rfl, h63⟩ := h8
        have hfin := getGo_big 8 n l hlt rfl h63
        have HF := sec hfin
        clear hfin
        have h63' : (64 : Int) ≤ (l[8].toNat : Int) := by omega
        go_wp2
        go_ret3
        exact ⟨by rw [← hg.out, HF.out]; rfl, hgr⟩
      · have hp2 : n + l[i].toNat % 128 * K < 4611686018427387904 := by
          by_cases e8 : i = 8
          · have h63 : l[i].toNat % 128 ≤ 63 := by omega
            have := Nat.mul_le_mul_right K h63
            omega
          · have hK7 : K ≤ 562949953421312 := by rw [hK.out]; exact pow_le7 i (by omega)
            have := Nat.mul_le_mul_right K (show l[i].toNat % 128 ≤ 127 by omega)
            omega
        have hN : numS ((n : Int) + (l[i].toNat : Int) % 128 * (K : Int)) = num (valP (l.take (i + 1))) := by
          have e : (n : Int) + (l[i].toNat : Int) % 128 * (K : Int) = ((n + l[i].toNat % 128 * K : Nat) : Int) := by simp
          rw [e, numS_nat hp2, HS.out]
        have HN := sec hN
        clear hN
        have hpz : ((n + l[i].toNat % 128 * K : Nat) : Int) = (n : Int) + (l[i].toNat : Int) % 128 * (K : Int) := by simp
        have HP := sec hpz
        clear hpz
        by_cases e8 : i = 8
        · subst e8
          have hi8 : (l[8].toNat : Int) < 64 := by omega
          have h64 : (l[8].toNat : Int) < 64 := hi8
          have hc : l[8].toNat < 128 := by omega
          have hc1 : ((l[8].toNat : Int) < 128) := by omega
          have htest := num_take l 8 hlt hall.out hc
          by_cases h0 : 0 < 8 ∧ l[8].toNat = 0
          · have hfin := getGo_zero 8 n l hlt h0.1 h0.2 (by omega)
            have HF := sec hfin
            have ht : (num (valP (l.take (8 + 1))) == l.take (8 + 1)) = false := by rw [htest]; simp [h0.1, h0.2]
            clear hfin htest h0 hc h8 hp2 hi8
            go_wp2
            have q1 : IntKind.i64.wrap 9 = 9 := by decide
            have q3 : 9 ≤ l.length := by omega
            have q4 : (9 : Int) ≤ (l.length : Int) := by omega
            go_region_with (go_at_call 40; refine (number_any _ _).mono ?_; rintro e w1 ⟨rfl, g1⟩; rw [HN.out])
            clear q1 q3 q4
            go_wp2
            go_ret3
            refine ⟨by rw [← hg.out, HF.out]; rfl, ?_⟩
            repeat (first | exact Gr.refl _ | assumption | refine Gr.drew ?_ | refine Gr.trans ?_ (by assumption))
          · have hfin := getGo_hit 8 n l hlt (by omega) h8 hc h0
            have HF := sec hfin
            have ht : (num (valP (l.take (8 + 1))) == l.take (8 + 1)) = true := by
              rw [htest]
              by_cases h1 : 0 < 8
              · have : ¬ l[8].toNat = 0 := fun h => h0 ⟨h1, h⟩
                simp [this]
              · simp [h1]
            clear hfin htest h0 hc h8 hp2 hi8
            go_wp2
            have q1 : IntKind.i64.wrap 9 = 9 := by decide
            have q3 : 9 ≤ l.length := by omega
            have q4 : (9 : Int) ≤ (l.length : Int) := by omega
            go_region_with (go_at_call 40; refine (number_any _ _).mono ?_; rintro e w1 ⟨rfl, g1⟩; rw [HN.out])
            clear q1 q3 q4
            go_wp2
            go_ret3
            refine ⟨?_, ?_⟩
            · rw [← hg.out, HF.out, ← hK.out]
              simp [getV]
            · repeat (first | exact Gr.refl _ | assumption | refine Gr.drew ?_ | refine Gr.trans ?_ (by assumption))
        · have hK7 : K ≤ 562949953421312 := by rw [hK.out]; exact pow_le7 i (by omega)
          have hi7 : i < 8 := by omega
          have hi8 : ¬ ((i : Int) = 8) := by omega
          have hbe : ((i : Int) == 8) = false := by simpa using hi8
          clear e8
          by_cases hc : l[i].toNat < 128
          · have htest := num_take l i hlt hall.out hc
            have hc1 : ((l[i].toNat : Int) < 128) := by omega
            by_cases h0 : 0 < i ∧ l[i].toNat = 0
            · have hfin := getGo_zero i n l hlt h0.1 h0.2 (by omega)
              have HF := sec hfin
              have ht : (num (valP (l.take (i + 1))) == l.take (i + 1)) = false := by rw [htest]; simp [h0.1, h0.2]
              clear hfin htest h0 hc h8 hp2 hi8
              go_wp2
              have q1 : IntKind.i64.wrap ((i : Int) + 1) = (i : Int) + 1 := IntWalk.i64_in _ (by omega)
              have q2 : (0 : Int) ≤ (i : Int) + 1 := by omega
              have q3 : (i : Int) + 1 ≤ (l.length : Int) := by omega
              have q4 : ((i : Int) + 1).toNat = i + 1 := by omega
              go_region_with (go_at_call 40; refine (number_any _ _).mono ?_; rintro e w1 ⟨rfl, g1⟩; rw [HN.out])
              clear q1 q2 q3 q4
              go_wp2
              go_ret3
              refine ⟨by rw [← hg.out, HF.out]; rfl, ?_⟩
              repeat (first | exact Gr.refl _ | assumption | refine Gr.drew ?_ | refine Gr.trans ?_ (by assumption))
            · have hfin := getGo_hit i n l hlt (by omega) h8 hc h0
              have HF := sec hfin
              have ht : (num (valP (l.take (i + 1))) == l.take (i + 1)) = true := by
                rw [htest]
                by_cases h1 : 0 < i
                · have : ¬ l[i].toNat = 0 := fun h => h0 ⟨h1, h⟩
                  simp [this]
                · simp [h1]
              clear hfin htest h0 hc h8 hp2 hi8
              go_wp2
              have q1 : IntKind.i64.wrap ((i : Int) + 1) = (i : Int) + 1 := IntWalk.i64_in _ (by omega)
              have q2 : (0 : Int) ≤ (i : Int) + 1 := by omega
              have q3 : (i : Int) + 1 ≤ (l.length : Int) := by omega
              have q4 : ((i : Int) + 1).toNat = i + 1 := by omega
              go_region_with (go_at_call 40; refine (number_any _ _).mono ?_; rintro e w1 ⟨rfl, g1⟩; rw [HN.out])
              clear q1 q2 q3 q4
              go_wp2
              go_ret3
              refine ⟨?_, ?_⟩
              · rw [← hg.out, HF.out, ← hK.out]
                simp [getV]
              · repeat (first | exact Gr.refl _ | assumption | refine Gr.drew ?_ | refine Gr.trans ?_ (by assumption))
          · have hfin := getGo_step i n l hlt (by omega) h8 hc
            have HF := sec hfin
            have hc1 : ((128 : Int) ≤ (l[i].toNat : Int)) := by omega
            have hall' : ∀ x ∈ l.take (i + 1), 128 ≤ x.toNat := by
              intro x hx
              rw [List.take_succ_eq_append_getElem hlt, List.mem_append] at hx
              rcases hx with hx | hx
              · exact hall.out x hx
              · simp at hx; subst hx; omega
            have HA := sec hall'
            clear hfin hall' hc h8 hp2 hi8
            go_wp2
            go_roundw
            case rel =>
              refine ⟨i + 1, n + l[i].toNat % 128 * K, K * 128, by rw [HP.out], by go_num, by go_num, by omega, by omega, ⟨HS.out⟩, ?_, HA, ?_, hgr⟩
              · exact ⟨by rw [hK.out, Nat.pow_succ]⟩
              · have := HF.out.symm.trans hg.out
                rw [← hK.out] at this
                exact ⟨this⟩
            case measure => simp [intOf]; omega
    · go_wp2
      go_ret3
      exact ⟨by rw [← hg.out, getGo_end i n l (by omega)]; rfl, hgr⟩
end Go.Proofs.YtbhpglhmnpcnkaaDoor

namespace Go.Proofs.YtbhpglhmnpcnkaaDoor
open Go.RowKit

/-- P2.2: the number, its bytes, the error -/
def gN (l : List UInt8) : Nat := ((get l).map (·.1)).getD 0
def gK (l : List UInt8) : Nat := ((get l).map (·.2)).getD 0
def gE (l : List UInt8) : Nat := if (get l).isSome then 0 else 2
theorem g_none {l : List UInt8} (h : get l = none) : gN l = 0 ∧ gK l = 0 ∧ gE l = 2 := by simp [gN, gK, gE, h]
theorem g_some {l : List UInt8} {n k : Nat} (h : get l = some (n, k)) : gN l = n ∧ gK l = k ∧ gE l = 0 := by simp [gN, gK, gE, h]
theorem getV_eq (l : List UInt8) : getV (get l) = .tuple #[.int .i64 (gN l : Int), .int .i64 (gK l : Int), .int .i64 (gE l : Int)] := by
  rcases h : get l with _ | ⟨n, k⟩
  · simp [getV, g_none h]
  · simp [getV, g_some h]
theorem gK_le (l : List UInt8) : gK l ≤ l.length ∧ gK l ≤ 9 := by
  rcases h : get l with _ | ⟨n, k⟩
  · simp [g_none h]
  · rw [(g_some h).2.1]; have := get_le h; omega
theorem gN_lt (l : List UInt8) : gN l < 4611686018427387904 := by
  rcases h : get l with _ | ⟨n, k⟩
  · simp [g_none h]
  · rw [(g_some h).1]; exact get_lt h
theorem gE_or (l : List UInt8) : gE l = 0 ∨ gE l = 2 := by
  unfold gE; split <;> simp
/-- P2.3 -/
def tOk (l : List UInt8) : Prop := gE l = 0 ∧ gN l ≤ 4096 ∧ gN l ≤ l.length - gK l
instance (l : List UInt8) : Decidable (tOk l) := by unfold tOk; infer_instance
def tS (l : List UInt8) : List UInt8 := if tOk l then sub l (gK l) (gK l + gN l) else []
def tK (l : List UInt8) : Nat := if tOk l then gK l + gN l else 0
def tE (l : List UInt8) : Nat := if gE l ≠ 0 then gE l else if 4096 < gN l then 1 else if l.length - gK l < gN l then 2 else 0
theorem t_ok {l : List UInt8} (h : tOk l) : tS l = sub l (gK l) (gK l + gN l) ∧ tK l = gK l + gN l ∧ tE l = 0 := by
  refine ⟨if_pos h, if_pos h, ?_⟩
  unfold tE; rw [if_neg (by have := h.1; omega), if_neg (by have := h.2.1; omega), if_neg (by have := h.2.2; omega)]
theorem t_no {l : List UInt8} (h : ¬ tOk l) : tS l = [] ∧ tK l = 0 := ⟨if_neg h, if_neg h⟩
theorem tK_le (l : List UInt8) : tK l ≤ l.length := by
  by_cases h : tOk l
  · rw [(t_ok h).2.1]; have := h.2.2; have := gK_le l; omega
  · rw [(t_no h).2]; omega
theorem tS_len (l : List UInt8) : (tS l).length ≤ 4096 ∧ (tS l).length ≤ l.length := by
  by_cases h : tOk l
  · have h1 := gK_le l
    rw [(t_ok h).1, sub_len _ _ _ (by have := h.2.2; omega)]; have := h.2; omega
  · rw [(t_no h).1]; simp
theorem tE_or (l : List UInt8) : tE l = 0 ∨ tE l = 1 ∨ tE l = 2 := by
  have := gE_or l
  unfold tE; split
  · omega
  · split
    · omega
    · split <;> omega

theorem wget_any (l : List UInt8) (w : World) (hl : l.length ≤ 1152921504606846976) :
    Calls Tryd.prog 62 #[.string (bs l)] w fun e w' => e = .returned (.tuple #[.int .i64 (gN l : Int), .int .i64 (gK l : Int), .int .i64 (gE l : Int)]) ∧ w = w' := by
  rw [← getV_eq]; exact wget l w hl
theorem rget_any (l : List UInt8) (w : World) (hl : l.length ≤ 1152921504606846976) :
    Calls Tryd.prog 46 #[.string (bs l)] w fun e w' => e = .returned (.tuple #[.int .i64 (gN l : Int), .int .i64 (gK l : Int), .int .i64 (gE l : Int)]) ∧ Gr w w' := by
  rw [← getV_eq]; exact rget l w hl

end Go.Proofs.YtbhpglhmnpcnkaaDoor

namespace Go.Proofs.YtbhpglhmnpcnkaaDoor
open Go.RowKit

/-- P2.4: a reader's state: what is left, what went wrong -/
abbrev St := List UInt8 × Nat
def nxtN (q : St) : Nat := if q.2 = 0 then gN q.1 else 0
def aftN (q : St) : St := if q.2 = 0 then (q.1.drop (gK q.1), gE q.1) else q
def nxtT (q : St) : List UInt8 := if q.2 = 0 then tS q.1 else []
def aftT (q : St) : St := if q.2 = 0 then (q.1.drop (tK q.1), tE q.1) else q
def nxtB (n : Int) (q : St) : List UInt8 := if q.2 = 0 ∧ 0 ≤ n ∧ n ≤ q.1.length then q.1.take n.toNat else []
def aftB (n : Int) (q : St) : St := if q.2 = 0 then (if 0 ≤ n ∧ n ≤ q.1.length then (q.1.drop n.toNat, 0) else (q.1, 2)) else q

/-- a reader of state q lies in block g -/
structure RdAt (T : TypeId) (w : World) (g : Nat) (q : St) : Prop where
  blk : Blk w g T #[.string (bs q.1), .int .i64 (q.2 : Int)]
  len : q.1.length ≤ 1152921504606846976
  err : q.2 ≤ 2

theorem RdAt.gr {T : TypeId} {w w' : World} {g : Nat} {q : St} (h : RdAt T w g q) (k : Gr w w') : RdAt T w' g q := ⟨h.blk.below k.below h.blk.lt, h.len, h.err⟩
theorem RdAt.other {T : TypeId} {w w' : World} {g : Nat} {q : St} {row : Option Nat} (h : RdAt T w g q) (k : w.grownBy w' row) (hne : some g ≠ row) : RdAt T w' g q := ⟨h.blk.grown k hne, h.len, h.err⟩
/-- only block g has turned, and what is new -/
theorem only_set2 (w : World) (g : Nat) (u v : Value) : w.grownBy ((w.setCell ⟨g, 0, none⟩ u).setCell ⟨g, 1, none⟩ v) (some g) :=
  ⟨rfl, rfl, rfl, by simp [World.setCell], fun k _ hne => by
    rw [Below.heap_setCell _ _ _ _ (fun e => hne (by rw [e])), Below.heap_setCell _ _ _ _ (fun e => hne (by rw [e]))]⟩
theorem only_set1 (w : World) (g j : Nat) (u : Value) : w.grownBy (w.setCell ⟨g, j, none⟩ u) (some g) :=
  ⟨rfl, rfl, rfl, by simp [World.setCell], fun k _ hne => by
    rw [Below.heap_setCell _ _ _ _ (fun e => hne (by rw [e]))]⟩
theorem only_refl (w : World) (row : Option Nat) : w.grownBy w row := ⟨rfl, rfl, rfl, Nat.le_refl _, fun _ _ _ => rfl⟩

set_option maxRecDepth 100000 in
theorem rdNumber (g : Nat) (q : St) (w : World) (h : RdAt 95 w g q) :
    Calls Tryd.prog 42 #[.pointer (some ⟨g, 0, none⟩)] w fun e w' => e = .returned (.int .i64 (nxtN q : Int)) ∧ RdAt 95 w' g (aftN q) ∧ w.grownBy w' (some g) := by
  obtain ⟨s, er⟩ := q
  have hlen := h.len
  have hc0 : w.cell? ⟨g, 0, none⟩ = some (.string (bs s)) := h.blk.cell 0
  have hc1 : w.cell? ⟨g, 1, none⟩ = some (.int .i64 (er : Int)) := h.blk.cell 1
  have hf0 := h.blk.frozen 0
  have hf1 := h.blk.frozen 1
  have hk := gK_le s
  simp only at hlen
  by_cases he : er = 0
  · subst he
    go_enter Tryd.func42, Tryd.ntmps42
    go_wp2_with (go_at_call 62; refine (wget_any _ _ hlen).mono ?_; rintro e w1 ⟨rfl, rfl⟩)
    go_ret
    refine ⟨by simp [nxtN], ⟨?_, ?_, ?_⟩, only_set2 _ _ _ _⟩
    · have := (h.blk.set_ 0 (.string (bs (s.drop (gK s))))).set_ 1 (.int .i64 (gE s : Int))
      simpa [aftN] using this
    · simp [aftN]; omega
    · simp [aftN]; have := gE_or s; omega
  · have he' : ((er : Int) == 0) = false := by simpa using he
    have he2 : ((er : Int) != 0) = true := by simpa using he
    go_enter Tryd.func42, Tryd.ntmps42
    go_wp2
    go_ret
    exact ⟨by simp [nxtN, he], by simpa [aftN, he] using h, only_refl _ _⟩
theorem only_gr {w w' : World} (h : Gr w w') (row : Option Nat) : w.grownBy w' row := ⟨h.below.os, h.below.tape, h.below.output, h.below.size, fun k hk _ => h.below.block k hk⟩
theorem only_trans {a b c : World} {g : Nat} (h : a.grownBy b (some g)) (k : b.grownBy c (some g)) : a.grownBy c (some g) :=
  ⟨k.os.trans h.os, k.tape.trans h.tape, k.output.trans h.output, Nat.le_trans h.size k.size, fun i hi hne => (k.block i (Nat.lt_of_lt_of_le hi h.size) hne).trans (h.block i hi hne)⟩
theorem gr_only {a b c : World} {g : Nat} (h : Gr a b) (k : b.grownBy c (some g)) (hg : a.heap.size ≤ g) : Gr a c := h.grown k (fun i hi => by injection hi with hi; omega)

set_option maxRecDepth 100000 in
theorem rdBytes (g : Nat) (q : St) (n : Int) (w : World) (h : RdAt 95 w g q) (_hn : -9223372036854775808 ≤ n ∧ n ≤ 9223372036854775807) :
    Calls Tryd.prog 43 #[.pointer (some ⟨g, 0, none⟩), .int .i64 n] w fun e w' => e = .returned (.string (bs (nxtB n q))) ∧ RdAt 95 w' g (aftB n q) ∧ w.grownBy w' (some g) := by
  obtain ⟨s, er⟩ := q
  have hlen := h.len
  have hc0 : w.cell? ⟨g, 0, none⟩ = some (.string (bs s)) := h.blk.cell 0
  have hc1 : w.cell? ⟨g, 1, none⟩ = some (.int .i64 (er : Int)) := h.blk.cell 1
  have hf0 := h.blk.frozen 0
  have hf1 := h.blk.frozen 1
  simp only at hlen
  by_cases he : er = 0
  · subst he
    by_cases hn : 0 ≤ n ∧ n ≤ (s.length : Int)
    · obtain ⟨hn0, hn1⟩ := hn
      go_enter Tryd.func43, Tryd.ntmps43
      go_wp2
      go_ret
      refine ⟨by simp [nxtB, hn0, hn1], ⟨?_, ?_, ?_⟩, only_set1 _ _ _ _⟩
      · have := h.blk.set_ 0 (.string (bs (s.drop n.toNat)))
        simpa [aftB, hn0, hn1] using this
      · simp [aftB, hn0, hn1]; omega
      · simp [aftB, hn0, hn1]
    · have hn' : n < 0 ∨ (s.length : Int) < n := by omega
      rcases hn' with hn' | hn'
      all_goals
        go_enter Tryd.func43, Tryd.ntmps43
        go_wp2
        go_ret
        refine ⟨by simp [nxtB, hn]; try rfl, ⟨?_, ?_, ?_⟩, only_set1 _ _ _ _⟩
        · have := h.blk.set_ 1 (.int .i64 2)
          simpa [aftB, hn] using this
        · simp [aftB, hn]; omega
        · simp [aftB, hn]
  · have he' : ((er : Int) == 0) = false := by simpa using he
    have he2 : ((er : Int) != 0) = true := by simpa using he
    go_enter Tryd.func43, Tryd.ntmps43
    go_wp2
    go_ret
    exact ⟨by simp [nxtB, he]; try rfl, by simpa [aftB, he] using h, only_refl _ _⟩

theorem rdLeft (g : Nat) (q : St) (w : World) (h : RdAt 95 w g q) :
    Calls Tryd.prog 45 #[.pointer (some ⟨g, 0, none⟩)] w fun e w' => e = .returned (.int .i64 (q.1.length : Int)) ∧ w = w' := by
  have hc0 : w.cell? ⟨g, 0, none⟩ = some (.string (bs q.1)) := h.blk.cell 0
  go_enter Tryd.func45, Tryd.ntmps45
  go_wp2
  go_ret
  exact ⟨rfl, rfl⟩

theorem rdBad (g : Nat) (q : St) (w : World) (h : RdAt 95 w g q) :
    Calls Tryd.prog 44 #[.pointer (some ⟨g, 0, none⟩)] w fun e w' => e = .returned (.int .i64 (q.2 : Int)) ∧ w = w' := by
  have hc1 : w.cell? ⟨g, 1, none⟩ = some (.int .i64 (q.2 : Int)) := h.blk.cell 1
  go_enter Tryd.func44, Tryd.ntmps44
  go_wp2
  go_ret
  exact ⟨rfl, rfl⟩

theorem rdRead (l : List UInt8) (w : World) (hl : l.length ≤ 1152921504606846976) :
    Calls Tryd.prog 41 #[.string (bs l)] w fun e w' => e = .returned (.pointer (some ⟨w.heap.size, 0, none⟩)) ∧ RdAt 95 w' w.heap.size (l, 0) ∧ Gr w w' := by
  go_enter Tryd.func41, Tryd.ntmps41
  go_wp2
  go_ret
  exact ⟨rfl, ⟨Blk.new _ _ _, hl, by simp⟩, (Gr.refl _).alloc _⟩

end Go.Proofs.YtbhpglhmnpcnkaaDoor

namespace Go.Proofs.YtbhpglhmnpcnkaaDoor
open Go.RowKit

/-- a type that is a struct or an array of n cells -/
structure AggOk (ty : TypeId) (n : Nat) : Prop where
  d : ∃ d, Tryd.prog.underlying ty = some d ∧ (match d with | .struct _ | .array _ _ => true | _ => false) = true
  info : (Tryd.prog.info? ty).map (·.size) = some n

theorem grown_setRow (w : World) (g : Nat) (cs : Array Value) : w.grownBy (w.setRow g cs) (some g) :=
  ⟨rfl, rfl, rfl, by simp, fun k _ hne => setRow_other w g k cs (by rintro rfl; exact hne rfl)⟩
theorem grown_setCell (w : World) (p : Addr) (v : Value) : w.grownBy (w.setCell p v) (some p.block) :=
  ⟨rfl, rfl, rfl, by simp, fun k _ hne => Below.heap_setCell w p v k (by rintro rfl; exact hne rfl)⟩
theorem Gr.only {a b c : World} {g : Nat} (h : Gr a b) (hg : b.grownBy c (some g)) (hle : a.heap.size ≤ g) : Gr a c :=
  h.grown hg (by rintro k hk; obtain rfl := Option.some.inj hk; exact hle)
theorem Blk.only {w w' : World} {g k : Nat} {t : TypeId} {cs : Array Value} (h : Blk w g t cs) (hg : w.grownBy w' (some k)) (hne : g ≠ k) : Blk w' g t cs :=
  h.grown hg (fun e => hne (Option.some.inj e))
theorem Blk.of_setRow {w : World} {g : Nat} {t : TypeId} {cs : Array Value} (h : Blk w g t cs) (ds : Array Value) : Blk (w.setRow g ds) g t ds := setRow_heap w g _ ds t _ h
theorem Blk.new1 (w : World) (o : Obj) (t : TypeId) (cs : Array Value) : Blk ((w.alloc o).alloc (.cells cs t)) (w.heap.size + 1) t cs := by
  have := Blk.new (w.alloc o) t cs
  rwa [World.size_alloc] at this
theorem Blk.new2 (w : World) (o p : Obj) (t : TypeId) (cs : Array Value) : Blk (((w.alloc o).alloc p).alloc (.cells cs t)) (w.heap.size + 1 + 1) t cs := by
  have := Blk.new ((w.alloc o).alloc p) t cs
  rwa [World.size_alloc, World.size_alloc] at this
/-- the block of an address, new at the world's end -/
theorem Blk.newAt {w : World} {g : Nat} (h : g = w.heap.size) (t : TypeId) (cs : Array Value) : Blk (w.alloc (.cells cs t)) g t cs := by subst h; exact Blk.new w t cs

theorem wpList_load_blk {ops : Array Oper} {rest : List Oper} {o : Oper} {a : Act} {w : World} {Q : Exit → Act → World → Prop} (hgd : o.guard = none) (ty : TypeId) (x : Operand) (ho : o.op = .load ty x)
    {g : Nat} (hx : a.eval x = .pointer (some ⟨g, 0, none⟩)) {t : TypeId} {cs : Array Value} (hB : Blk w g t cs) (A : AggOk ty cs.size)
    (h : wpList Tryd.prog ops Q rest (a.put o.dst (.agg cs)) w) : wpList Tryd.prog ops Q (o :: rest) a w := by
  obtain ⟨d, hu, hd⟩ := A.d
  exact wpList_load_row hgd ty x ho g hx t cs (0, 0) d hB hu (by cases d <;> simp_all) A.info h
theorem wpList_store_blk {ops : Array Oper} {rest : List Oper} {o : Oper} {a : Act} {w : World} {Q : Exit → Act → World → Prop} (hgd : o.guard = none) (ty : TypeId) (x y : Operand) (ho : o.op = .store ty x y)
    {g : Nat} {cs' : Array Value} (hx : a.eval x = .pointer (some ⟨g, 0, none⟩)) (hy : a.eval y = .agg cs') {t : TypeId} {cs : Array Value} (hB : Blk w g t cs) (A : AggOk ty cs'.size)
    (hs : cs.size = cs'.size) (h1 : cs'.all (·.oneCell') = true)
    (h : ∀ w', Blk w' g t cs' → w.grownBy w' (some g) → wpList Tryd.prog ops Q rest (a.put o.dst undef) w') : wpList Tryd.prog ops Q (o :: rest) a w :=
  wpList_store_row hgd ty x y ho g cs' hx hy t cs hB A.info hs h1 (h _ (hB.of_setRow cs') (grown_setRow w g cs'))

theorem run_loadVar_at {w : World} {g off : Nat} {ty : TypeId} {xs : Array Value} (A : AggOk ty xs.size) (hc : ∀ j v, xs[j]? = some v → w.cell? ⟨g, off + j, none⟩ = some v) : (loadVar ty ⟨g, off, none⟩).run Tryd.prog w = .ok (.agg xs) w := by
  obtain ⟨d, hu, hd⟩ := A.d
  have hi := A.info
  have hl : (loadCells ⟨g, off, none⟩ xs.toList.length).run Tryd.prog w = .ok xs.toList.toArray w :=
    run_loadCells_list (P := Tryd.prog) w ⟨g, off, none⟩ xs.toList (fun j v hv => by
      have hadd : (⟨g, off, none⟩ : Addr).add j = ⟨g, off + j, none⟩ := by unfold Addr.add; split <;> simp_all
      rw [hadd]
      exact hc j v (by simpa using hv))
  cases hq : Tryd.prog.info? ty with
  | none => simp [hq] at hi
  | some i =>
    have hs : i.size = xs.size := by simpa [hq] using hi
    have hagg : (isAgg ty).run Tryd.prog w = .ok true w := by
      unfold isAgg
      rw [Sem.run_bind, run_underlying hu w]
      cases d <;> simp_all
    simp only [Array.length_toList, Array.toArray_toList] at hl
    simp [loadVar, Sem.run_bind, hagg, sizeOf, typeInfo, hq, hs, hl]
/-- a load of a part of memory: an element of a slice of structs, a field that is an array -/
theorem wpList_load_at {ops : Array Oper} {rest : List Oper} {o : Oper} {a : Act} {w : World} {Q : Exit → Act → World → Prop} (hgd : o.guard = none) (ty : TypeId) (x : Operand) (ho : o.op = .load ty x)
    {g off : Nat} (hx : a.eval x = .pointer (some ⟨g, off, none⟩)) {xs : Array Value} (A : AggOk ty xs.size) (hc : ∀ j v, xs[j]? = some v → w.cell? ⟨g, off + j, none⟩ = some v)
    (h : wpList Tryd.prog ops Q rest (a.put o.dst (.agg xs)) w) : wpList Tryd.prog ops Q (o :: rest) a w :=
  wpList_plain hgd fun _ hK => by
    unfold Oper.wp execOp
    simp only [ho, hx, Instr.loadAt, Instr.sureAddr, Sem.run_bind, Sem.run_pure, Result.andThen_ok, run_loadVar_at A hc]
    exact hK _ _ h
theorem Blk.part {w : World} {g : Nat} {t : TypeId} {cs : Array Value} (hB : Blk w g t cs) (off : Nat) {xs : Array Value} (hp : (cs.toList.drop off).take xs.size = xs.toList) : ∀ j v, xs[j]? = some v → w.cell? ⟨g, off + j, none⟩ = some v := by
  intro j v hv
  rw [hB.cell]
  have h1 : xs.toList[j]? = some v := by simpa using hv
  rw [← hp] at h1
  have hj : j < xs.size := (Array.getElem?_eq_some_iff.1 hv).1
  rw [List.getElem?_take, if_pos hj, List.getElem?_drop] at h1
  simpa using h1
def splice (cs : Array Value) (off : Nat) (xs : Array Value) : Array Value := (cs.toList.take off ++ xs.toList ++ cs.toList.drop (off + xs.size)).toArray
theorem wpList_store_part {ops : Array Oper} {rest : List Oper} {o : Oper} {a : Act} {w : World} {Q : Exit → Act → World → Prop} (hgd : o.guard = none) (ty : TypeId) (x y : Operand) (ho : o.op = .store ty x y)
    {g off : Nat} {xs : Array Value} (hx : a.eval x = .pointer (some ⟨g, off, none⟩)) (hy : a.eval y = .agg xs) {t : TypeId} {cs : Array Value} (hB : Blk w g t cs) (A : AggOk ty xs.size)
    (hs : off + xs.size ≤ cs.size) (h1 : xs.all (·.oneCell') = true)
    (h : ∀ w', Blk w' g t (splice cs off xs) → w.grownBy w' (some g) → wpList Tryd.prog ops Q rest (a.put o.dst undef) w') : wpList Tryd.prog ops Q (o :: rest) a w := by
  refine wpList_plain hgd fun _ hK => ?_
  have hst : (storeVar ty ⟨g, off, none⟩ (.agg xs)).run Tryd.prog w = .ok () (w.setRow g (splice cs off xs)) := by
    have := run_storeCells_at (P := Tryd.prog) g off t xs.toList 0 cs w hB (by simpa using hs) (fun v hv => (Array.all_eq_true_iff_forall_mem.1 h1) v (by simpa using hv))
    have hi := A.info
    cases hq : Tryd.prog.info? ty with
    | none => simp [hq] at hi
    | some i =>
      have hs' : xs.size = i.size := by simp [hq] at hi; omega
      simp only [Nat.add_zero, Array.length_toList] at this
      simp [storeVar, sizeOf, typeInfo, hq, Value.cells, hs', this, splice]
  unfold Oper.wp execOp
  simp only [ho, hx, hy, Instr.storeAt, Instr.sureAddr, Sem.run_bind, Sem.run_pure, Result.andThen_ok, hst]
  exact hK _ _ (h _ (hB.of_setRow _) (grown_setRow w g _))

theorem run_results_blk {w : World} {g : Nat} {t ty : TypeId} {cs : Array Value} (hB : Blk w g t cs) (A : AggOk ty cs.size) : (loadVar ty ⟨g, 0, none⟩).run Tryd.prog w = .ok (.agg cs) w := by
  obtain ⟨d, hu, hd⟩ := A.d
  exact run_loadVar_row w g t ty cs (0, 0) d hB hu (by cases d <;> simp_all) A.info
theorem results_blk {fn : Func} {p : Tmp} {ty : TypeId} (h : fn.results = #[.cell p ty]) (tmps : Array Value) {w : World} {g : Nat} {t : TypeId} {cs : Array Value}
    (hp : tmps.getD p undef = .pointer (some ⟨g, 0, none⟩)) (hB : Blk w g t cs) (A : AggOk ty cs.size) :
    (results fn tmps).run Tryd.prog w = .ok (.agg cs) w := by
  have hp' : tmps[p]?.getD undef = .pointer (some ⟨g, 0, none⟩) := by simpa using hp
  simp [results, h, hp', asAddr, run_results_blk hB A]
theorem results_blk_tmp {fn : Func} {p q : Tmp} {ty : TypeId} (h : fn.results = #[.cell p ty, .tmp q]) (tmps : Array Value) {w : World} {g : Nat} {t : TypeId} {cs : Array Value}
    (hp : tmps.getD p undef = .pointer (some ⟨g, 0, none⟩)) (hB : Blk w g t cs) (A : AggOk ty cs.size) :
    (results fn tmps).run Tryd.prog w = .ok (.tuple #[.agg cs, tmps.getD q undef]) w := by
  have hp' : tmps[p]?.getD undef = .pointer (some ⟨g, 0, none⟩) := by simpa using hp
  simp [results, h, hp', asAddr, run_results_blk hB A]
theorem results_blk_tmp2 {fn : Func} {p q r : Tmp} {ty : TypeId} (h : fn.results = #[.cell p ty, .tmp q, .tmp r]) (tmps : Array Value) {w : World} {g : Nat} {t : TypeId} {cs : Array Value}
    (hp : tmps.getD p undef = .pointer (some ⟨g, 0, none⟩)) (hB : Blk w g t cs) (A : AggOk ty cs.size) :
    (results fn tmps).run Tryd.prog w = .ok (.tuple #[.agg cs, tmps.getD q undef, tmps.getD r undef]) w := by
  have hp' : tmps[p]?.getD undef = .pointer (some ⟨g, 0, none⟩) := by simpa using hp
  simp [results, h, hp', asAddr, run_results_blk hB A]
end Go.Proofs.YtbhpglhmnpcnkaaDoor

namespace Go.Proofs.YtbhpglhmnpcnkaaDoor
open Go.RowKit
set_option linter.unusedVariables false

theorem A.head : AggOk 26 2 := ⟨⟨_, Tryd.underlying26, rfl⟩, by kernel_rfl⟩
theorem A.disk : AggOk 24 2 := ⟨⟨_, Tryd.underlying24, rfl⟩, by kernel_rfl⟩
theorem A.wit : AggOk 28 6 := ⟨⟨_, Tryd.underlying28, rfl⟩, by kernel_rfl⟩
theorem A.cli : AggOk 62 6 := ⟨⟨_, Tryd.underlying62, rfl⟩, by kernel_rfl⟩
def headC (n : Int) (r : List UInt8) : Array Value := #[.int .i64 n, .string (bs r)]

theorem headC_one (n : Int) (r : List UInt8) : (headC n r).all (·.oneCell') = true := by simp [headC, Value.oneCell']

end Go.Proofs.YtbhpglhmnpcnkaaDoor

namespace Go.Proofs.YtbhpglhmnpcnkaaDoor
open Go.RowKit
set_option linter.unusedVariables false

/-- function g asks p of a rune, turns nothing and lays new blocks alone -/
def Asks (g : Nat) (p : Nat → Bool) : Prop := ∀ (R : Nat) (w : World), R ≤ 2147483647 → Calls Tryd.prog g #[.int .i32 (R : Int)] w fun e w' => e = .returned (.bool (p R)) ∧ Gr w w'

def idxV (found : Bool) (k : Int) : Prop := if found then 0 ≤ k else k = -1

set_option maxRecDepth 100000 in
set_option maxHeartbeats 2000000 in
theorem indexFunc_any (g : Nat) (p : Nat → Bool) (hp : Asks g p) (hhi : ∀ R, 128 ≤ R → p R = true) (eg : ∀ args w, (callFunc g args).run Tryd.prog w = .ok (.enter g args) w) (s : List UInt8) (w : World) (hs : s.length ≤ 4611686018427387904) :
    Calls Tryd.prog 115 #[.string (bs s), .func (.func g) #[] #[], .bool true] w fun e w' => (∃ k : Int, e = .returned (.int .i64 k) ∧ idxV (s.any fun c => p c.toNat) k) ∧ Gr w w' := by
  go_enter Tryd.func115, Tryd.ntmps115
  go_wp2
  go_loopw [7, 8] (fun _ _ wx => ∃ pos : Nat, wx.heap[w.heap.size]? = some (.stringIter (bs s) pos) ∧ Gr w wx ∧ Sec ((s.take pos).any (fun c => p c.toNat) = false) ∧ pos ≤ s.length)
    (fun _ _ wx => s.length + 1 - wx.iterPos w.heap.size)
  case atStart => exact ⟨0, World.iter_heap w (bs s) 0, (Below.refl _ w).alloc (Nat.le_refl _) _, sec rfl, Nat.zero_le _⟩
  case round =>
    obtain ⟨pos, hit, hg, HA, hle⟩ := hrel
    by_cases hps : pos < s.length
    · have hsz : pos < (bs s).size := by rw [bs_size]; exact hps
      have hnx : ∀ ty, (Instr.next (.pointer (some ⟨w.heap.size, 0, none⟩)) true ty).run Tryd.prog wr = _ := fun ty => Lib.run_next_any_at wr w.heap.size (bs s) pos ty hit hsz
      obtain ⟨c, hc⟩ : ∃ c, c = List.get s ⟨pos, hps⟩ := ⟨_, rfl⟩
      have hgc : (bs s)[pos]'hsz = c := (bs_get s pos hsz).trans hc.symm
      have hP : p (Utf8.decode (bs s) pos).1 = p c.toNat ∧ (p (Utf8.decode (bs s) pos).1 = false → (Utf8.decode (bs s) pos).2 = 1) := by
        by_cases hlo : c.toNat < 128
        · have := decode_ascii (bs s) pos hsz (by rw [hgc]; exact hlo)
          rw [this, hgc]
          exact ⟨rfl, fun _ => rfl⟩
        · have := (decode_high (bs s) pos hsz (by rw [hgc]; omega)).1
          rw [hhi _ this, hhi c.toNat (by omega)]
          exact ⟨rfl, fun h => by cases h⟩
      have hRle := decode_le (bs s) pos
      obtain ⟨R, hR⟩ : ∃ R, (Utf8.decode (bs s) pos).1 = R := ⟨_, rfl⟩
      obtain ⟨K, hK⟩ : ∃ K, (Utf8.decode (bs s) pos).2 = K := ⟨_, rfl⟩
      rw [hR, hK] at hnx
      rw [hR, hK] at hP
      rw [hR] at hRle
      have hit2 := Lib.iterAt_heap wr w.heap.size (bs s) pos (pos + K) hit
      have hg2 : Gr w (wr.iterAt w.heap.size (bs s) (pos + K)) := Lib.below_iterAt hg (Nat.le_refl _) (bs s) (pos + K)
      have hpos0 := hit
      obtain ⟨W, hW⟩ : ∃ W, wr.iterAt w.heap.size (bs s) (pos + K) = W := ⟨_, rfl⟩
      rw [hW] at hnx hit2 hg2
      have hcS := hp R W hRle
      have hmeas : wr.iterPos w.heap.size = pos := by unfold World.iterPos; rw [hit]
      have HANY : Sec ((s.take (pos + 1)).any (fun c => p c.toNat) = p R) := sec (by
        have h1 : (s.take (pos + 1)) = s.take pos ++ [c] := (List.take_succ_eq_append_getElem hps).trans (by rw [hc]; rfl)
        rw [h1, List.any_append, HA.out, hP.1]
        simp)
      have HTAKE : Sec (p R = true → s.any (fun c => p c.toNat) = true) := sec (fun h => by
        rw [← List.take_append_drop (pos + 1) s, List.any_append, HANY.out, h]; rfl)
      have HK := sec hP.2
      have HPS := sec hps
      have HIT := sec hit2
      have HME := sec hmeas
      have CS := sec hcS
      clear hgc hc hR hK hP hRle hW hpos0 hit2 hp hhi hit hmeas hcS
      cases hb : p R
      · rw [hb] at CS HANY
        have HK1 : Sec (K = 1) := sec (HK.out hb)
        clear HK HTAKE hb
        go_wp2_with (refine Calls.mono CS.out ?_; rintro e W' ⟨rfl, g1⟩)
        go_roundw
        case rel =>
          refine ⟨pos + 1, ?_, hg2.trans g1, HANY, HPS.out⟩
          rw [g1.below.block w.heap.size (by have := (Array.getElem?_eq_some_iff.1 HIT.out).1; exact this), HIT.out, HK1.out]
        case measure =>
          have h1 : W'.iterPos w.heap.size = pos + 1 := by
            unfold World.iterPos
            rw [g1.below.block w.heap.size (by have := (Array.getElem?_eq_some_iff.1 HIT.out).1; exact this), HIT.out, HK1.out]
          have h2 := HME.out
          have h3 := HPS.out
          omega
      · rw [hb] at CS
        have HT := sec (HTAKE.out hb)
        clear HK HTAKE hb
        go_wp2_with (refine Calls.mono CS.out ?_; rintro e W' ⟨rfl, g1⟩)
        go_ret
        exact ⟨⟨(pos : Int), rfl, by rw [HT.out]; show (0 : Int) ≤ pos; omega⟩, hg2.trans g1⟩
    · obtain rfl : pos = s.length := by omega
      have hsz : ¬ s.length < (bs s).size := by rw [bs_size]; omega
      have hnx : ∀ ty, (Instr.next (.pointer (some ⟨w.heap.size, 0, none⟩)) true ty).run Tryd.prog wr = _ := fun ty => Lib.run_next_end_at wr w.heap.size (bs s) s.length ty hit hsz
      have HAA : Sec (s.any (fun c => p c.toNat) = false) := sec (by have := HA.out; rwa [List.take_length] at this)
      clear hsz hps hp hhi
      go_wp2
      go_ret
      exact ⟨⟨-1, rfl, by rw [HAA.out]; rfl⟩, hg⟩

set_option maxRecDepth 100000 in
set_option maxHeartbeats 2000000 in
theorem containsFunc_any (g : Nat) (p : Nat → Bool) (hp : Asks g p) (hhi : ∀ R, 128 ≤ R → p R = true) (eg : ∀ args w, (callFunc g args).run Tryd.prog w = .ok (.enter g args) w) (s : List UInt8) (w : World) (hs : s.length ≤ 4611686018427387904) :
    Calls Tryd.prog 88 #[.string (bs s), .func (.func g) #[] #[]] w fun e w' => e = .returned (.bool (s.any fun c => p c.toNat)) ∧ Gr w w' := by
  have HI : Sec (∀ w, Calls Tryd.prog 108 #[.string (bs s), .func (.func g) #[] #[]] w fun e w' => (∃ k : Int, e = .returned (.int .i64 k) ∧ idxV (s.any fun c => p c.toNat) k) ∧ Gr w w') := sec (by
    intro w
    have HX := sec (fun w => indexFunc_any g p hp hhi eg s w hs)
    clear hp hhi eg
    go_enter Tryd.func108, Tryd.ntmps108
    go_wp2_with (go_at_call 115; refine Calls.mono (HX.out _) ?_; rintro e w1 ⟨⟨k, rfl, hk⟩, g1⟩)
    go_ret
    exact ⟨⟨k, rfl, hk⟩, g1⟩)
  clear hp hhi eg
  obtain ⟨B, hB⟩ : ∃ B, B = s.any fun c => p c.toNat := ⟨_, rfl⟩
  rw [← hB] at HI
  rw [← hB]
  clear hB
  cases B with
  | true =>
    go_enter Tryd.func88, Tryd.ntmps88
    go_wp2_with (go_at_call 108; refine Calls.mono (HI.out _) ?_; rintro e w1 ⟨⟨k, rfl, hk⟩, g1⟩; have hk' : 0 ≤ k := hk)
    go_ret
    exact ⟨by simp, g1⟩
  | false =>
    go_enter Tryd.func88, Tryd.ntmps88
    go_wp2_with (go_at_call 108; refine Calls.mono (HI.out _) ?_; rintro e w1 ⟨⟨k, rfl, hk⟩, g1⟩; obtain rfl : k = -1 := hk)
    go_ret
    exact ⟨rfl, g1⟩
end Go.Proofs.YtbhpglhmnpcnkaaDoor

namespace Go.Proofs.YtbhpglhmnpcnkaaDoor
open Go.RowKit
set_option linter.unusedVariables false

structure BRow (w : World) (B g cap : Nat) (l : List UInt8) : Prop where
  base : B ≤ g
  lt : g < w.heap.size
  le : l.length ≤ cap
  max : cap ≤ maxLen
  there : ∀ j, j < cap → (w.cell? ⟨g, j, none⟩).isSome = true ∧ w.frozen? ⟨g, j, none⟩ = false
  at_ : ∀ j u, (l.map byteV)[j]? = some u → w.cell? ⟨g, j, none⟩ = some u

theorem BRow.gr {w w' : World} {B g cap : Nat} {l : List UInt8} (h : BRow w B g cap l) (k : Gr w w') : BRow w' B g cap l :=
  ⟨h.base, Nat.lt_of_lt_of_le h.lt k.size, h.le, h.max, fun j hj => by rw [k.cells.1 g j h.lt, k.cells.2 g j h.lt]; exact h.there j hj, fun j u hu => by rw [k.cells.1 g j h.lt]; exact h.at_ j u hu⟩
theorem BRow.only {w w' : World} {B g cap k : Nat} {l : List UInt8} (h : BRow w B g cap l) (hg : w.grownBy w' (some k)) (hne : g ≠ k) : BRow w' B g cap l := by
  have hb : w'.heap[g]? = w.heap[g]? := hg.block g h.lt (fun e => hne (Option.some.inj e))
  exact ⟨h.base, Nat.lt_of_lt_of_le h.lt hg.size, h.le, h.max, fun j hj => by rw [World.cell?_of_block (a := ⟨g, j, none⟩) hb, World.frozen?_of_block (a := ⟨g, j, none⟩) hb]; exact h.there j hj, fun j u hu => by rw [World.cell?_of_block (a := ⟨g, j, none⟩) hb]; exact h.at_ j u hu⟩
theorem BRow.of_own {w : World} {B e n : Nat} {v : Value} {l : List UInt8} (h : w.ownsRow B e 1 v n (l.map byteV)) (hn : 0 < n) : ∃ g cap, v = .slice (some ⟨g, 0, none⟩) l.length cap ∧ BRow w B g cap l := by
  have hl : n = l.length := by have := h.1; simp at this; exact this.symm
  rcases h.2 with ⟨_, h0⟩ | ⟨g, cap, cur, hv, hB, hh, hle, hm, hs, ht⟩
  · omega
  · subst hv
    have hlt := (h.lt g rfl).2
    refine ⟨g, cap, by rw [hl], hB, hlt, by omega, hm, fun j hj => ⟨?_, h.frozenAt j⟩, fun j u hu => ?_⟩
    · have : w.cell? ⟨g, j, none⟩ = cur[j]? := by simp [World.cell?, hh]
      rw [this, Array.getElem?_eq_getElem (by omega)]; rfl
    · have hj : j < n * 1 := by have := (List.getElem?_eq_some_iff.1 hu).1; simp at this; omega
      rw [h.cellAt j hj]
      exact hu

/-- '[]byte(s)' -/
theorem conv_brow {src dst e : TypeId} (hs : Tryd.prog.underlying src = some .string) (hd : Tryd.prog.underlying dst = some (.slice e)) (he : Tryd.prog.underlying e = some (.int .u8)) (w : World) (l : List UInt8) (hl : l.length ≤ maxLen) :
    ∃ w2 cap, (convert src dst (.string (bs l))).run Tryd.prog w = .ok (.slice (some ⟨w.heap.size, 0, none⟩) l.length cap) w2 ∧ Gr w w2 ∧ BRow w2 w.heap.size w.heap.size cap l := by
  have h1 := Lib.run_convert_string_bytes (P := Tryd.prog) w src dst e (bs l) hs hd he
  rw [bs_size] at h1
  have hge : l.length ≤ grownCap w l.length 0 e := grownCap_ge w _ _ e
  have hnew := Lib.bytesWorld_at_new w e (bs l)
  have hsz : (Lib.bytesCells w e (bs l)).size = grownCap w l.length 0 e := by
    unfold Lib.bytesCells
    have : (bs l).data.size = l.length := bs_size l
    rw [Array.size_append, Array.size_map, Array.size_replicate, bs_size, this]
    omega
  refine ⟨_, _, h1, Lib.bytesWorld_below w e (bs l), Nat.le_refl _, by rw [Lib.bytesWorld_size]; omega, hge, grownCap_le_maxLen w _ _ e hl, fun j hj => ⟨?_, ?_⟩, fun j u hu => ?_⟩
  · have : (Lib.bytesWorld w e (bs l)).cell? ⟨w.heap.size, j, none⟩ = (Lib.bytesCells w e (bs l))[j]? := by simp [World.cell?, hnew]
    rw [this, Array.getElem?_eq_getElem (by omega)]; rfl
  · simp [World.frozen?, hnew]
    omega
  · have hj : j < l.length := by have := (List.getElem?_eq_some_iff.1 hu).1; simpa using this
    rw [Lib.bytesWorld_cell w e (bs l) j (by rw [bs_size]; exact hj)]
    simp [byteV, hj] at hu
    subst hu
    simp [bs_data, hj]

/-- string(b[i:j]) -/
theorem run_conv_at {src e dst : TypeId} (hs : Tryd.prog.underlying src = some (.slice e)) (he : Tryd.prog.underlying e = some (.int .u8)) (hd : Tryd.prog.underlying dst = some .string)
    (w : World) (g off cap : Nat) (l : List UInt8) (hc : ∀ j u, (l.map byteV)[j]? = some u → w.cell? ⟨g, off + j, none⟩ = some u) :
    (convert src dst (.slice (some ⟨g, off, none⟩) l.length cap)).run Tryd.prog w = .ok (.string (bs l)) w := by
  refine run_convert_bytes_back w src dst e _ _ l hs he hd ?_
  intro j hj
  have hadd : (⟨g, off, none⟩ : Addr).add j = ⟨g, off + j, none⟩ := by unfold Addr.add; split <;> simp_all
  rw [hadd]
  exact hc j _ (by simp [byteV, hj])
theorem BRow.conv {src e dst : TypeId} (hs : Tryd.prog.underlying src = some (.slice e)) (he : Tryd.prog.underlying e = some (.int .u8)) (hd : Tryd.prog.underlying dst = some .string)
    {w : World} {B g cap : Nat} {l : List UInt8} (h : BRow w B g cap l) : (convert src dst (.slice (some ⟨g, 0, none⟩) l.length cap)).run Tryd.prog w = .ok (.string (bs l)) w :=
  run_conv_at hs he hd w g 0 cap l (fun j u hu => by rw [Nat.zero_add]; exact h.at_ j u hu)

theorem tape_setCells (g : Nat) : ∀ (vs : List Value) (o : Nat) (w : World), (w.setCells g o vs).tape = w.tape
  | [], _, _ => rfl
  | v :: r, o, w => by
    show ((w.setCell ⟨g, o, none⟩ v).setCells g (o + 1) r).tape = w.tape
    rw [tape_setCells g r (o + 1) _]
    rfl
theorem grown_of_alloc {w w' : World} {o : Obj} {row : Option Nat} (h : (w.alloc o).grownBy w' row) : w.grownBy w' row :=
  ⟨h.os, h.tape, h.output, by have := h.size; simp at this; omega, fun k hk hne => (h.block k (by simp; omega) hne).trans (Below.heap_alloc w o k hk)⟩
/-- append of bytes that were just built -/
theorem wpList_append_brow {ops : Array Oper} {rest : List Oper} {o : Oper} {a : Act} {Q : Exit → Act → World → Prop} {w0 w : World} {t e : TypeId}
    (E : ElemOk t e (.int .u8 0) 1 1) (hgd : o.guard = none) (s x : Operand) (ho : o.op = .call { callee := .builtin .append, args := #[s, x], argTypes := #[t, t] })
    {g cap : Nat} {l : List UInt8} (hs : a.eval s = .slice (some ⟨g, 0, none⟩) l.length cap) (hB : BRow w w0.heap.size g cap l)
    (news : List UInt8) {cs : Array Value} {m c : Nat} (hx : a.eval x = .slice (some ⟨w.heap.size, 0, none⟩) m c) (hcs : cs.toList = news.map byteV) (hm : news.length = m)
    (hbytes : l.length + m ≤ 140737488355328) (hb : Gr w0 w)
    (h : ∀ g' cap' w', BRow w' w0.heap.size g' cap' (l ++ news) → w.grownBy w' (some g) → (g' = g ∨ w.heap.size ≤ g') → Gr w0 w' → wpList Tryd.prog ops Q rest (a.put o.dst (.slice (some ⟨g', 0, none⟩) (l ++ news).length cap')) w') :
    wpList Tryd.prog ops Q (o :: rest) a (w.alloc (.cells cs e)) := by
  obtain ⟨i0, hi0, hz0, hz1, hz2⟩ := info_parts E.info
  have hB1 : BRow (w.alloc (.cells cs e)) w0.heap.size g cap l := hB.gr ((Gr.refl w).alloc _)
  have hg1 : Gr w0 (w.alloc (.cells cs e)) := hb.alloc _
  have hnl : (news.map byteV).length = m := by simp [hm]
  have hone : ∀ u ∈ news.map byteV, u.oneCell' = true := by
    intro u hu
    obtain ⟨c, _, rfl⟩ := List.mem_map.1 hu
    rfl
  refine wpList_append_arg _ hgd s x t ho e i0 (.int .u8 0) 1 1 E.under hi0 hz0 hz1 hz2 E.zcells (by omega) g 0 l.length cap (l.map byteV) hs (by simp) (fun j u hu => by rw [Nat.zero_add]; exact hB1.at_ j u hu)
    ⟨w.heap.size, 0, none⟩ m c (news.map byteV) hx (by simp [hm]) ?_ hone ?_ (by unfold maxLen; omega) (by omega) ?_ ?_
  · intro j u hu
    have hc : (w.alloc (.cells cs e)).cell? ⟨w.heap.size, j, none⟩ = cs[j]? := World.cell?_alloc_mark w cs e (0, 0) j
    rw [add_zero_block, hc]
    rw [← hcs] at hu
    simpa using hu
  · intro hle j hj
    have := hB1.there (0 + l.length * 1 + j) (by omega)
    exact this
  · intro hle
    have hlen : (l ++ news).length = l.length + m := by rw [List.length_append, hm]
    rw [← hlen]
    have hgg : (w.alloc (.cells cs e)).grownBy ((w.alloc (.cells cs e)).setCells g (0 + l.length * 1) (news.map byteV)) (some g) := by
      refine ⟨?_, ?_, ?_, ?_, ?_⟩
      · exact World.os_setCells _ _ _ _
      · exact tape_setCells g _ _ _
      · exact World.output_setCells _ _ _ _
      · exact (World.keptBut_setCells g (may := fun _ => True) (news.map byteV) (0 + l.length * 1) (w.alloc (.cells cs e)) (fun _ _ => trivial)).size
      · intro k hk hne
        exact World.heap_setCells_other _ _ _ _ hk (fun e' => hne (by rw [e']))
    refine h g cap _ ⟨hB.base, ?_, by omega, hB.max, ?_, ?_⟩ (grown_of_alloc hgg) (.inl rfl) ?_
    · have := (World.keptBut_setCells g (may := fun _ => True) (news.map byteV) (0 + l.length * 1) (w.alloc (.cells cs e)) (fun _ _ => trivial)).size
      exact Nat.lt_of_lt_of_le hB1.lt this
    · intro j hj
      rw [World.frozen?_setCells]
      refine ⟨?_, (hB1.there j hj).2⟩
      by_cases hin : j < l.length ∨ l.length + m ≤ j
      · rw [World.cell?_setCells_out g _ _ _ ⟨g, j, none⟩ (fun _ _ => by simp only [hnl]; omega)]
        exact (hB1.there j hj).1
      · have hj2 : j - l.length < (news.map byteV).length := by omega
        have := World.cell?_setCells_in g (news.map byteV) (0 + l.length * 1) (w.alloc (.cells cs e)) (fun j hj => (hB1.there _ (by omega)).1) (j - l.length) hj2
        rw [show 0 + l.length * 1 + (j - l.length) = j by omega] at this
        rw [this]; rfl
    · intro j u hu
      rw [List.map_append] at hu
      by_cases hin : j < l.length
      · rw [List.getElem?_append_left (by simpa using hin)] at hu
        rw [World.cell?_setCells_out g _ _ _ ⟨g, j, none⟩ (fun _ _ => by left; simp; omega)]
        exact hB1.at_ j u hu
      · rw [List.getElem?_append_right (by simpa using hin)] at hu
        simp only [List.length_map] at hu
        obtain ⟨hj2, hu2⟩ := List.getElem?_eq_some_iff.1 hu
        have := World.cell?_setCells_in g (news.map byteV) (0 + l.length * 1) (w.alloc (.cells cs e)) (fun j hj => (hB1.there _ (by omega)).1) (j - l.length) hj2
        rw [show 0 + l.length * 1 + (j - l.length) = j by omega] at this
        rw [this, hu2]
    · exact hg1.only hgg hB.base
  · intro hlt v' w' hown hgr
    rw [← List.map_append] at hown
    obtain ⟨g', cap', hv, hr⟩ := BRow.of_own hown (by omega)
    subst hv
    have hb0 := hr.base
    have hb1 : w.heap.size + 1 = (w.alloc (.cells cs e)).heap.size := by simp
    have hb2 := hg1.size
    refine h g' cap' w' ⟨by omega, hr.lt, hr.le, hr.max, hr.there, hr.at_⟩ (grown_of_alloc ⟨hgr.os, hgr.tape, hgr.output, hgr.size, fun k hk _ => hgr.block k hk (by simp)⟩) (.inr (by omega)) (hg1.grown hgr (by rintro k hk; cases hk))
theorem far_of {g g' b n : Nat} (h : g' = g ∨ n ≤ g') (hne : g ≠ b) (hlt : b < n) : g' ≠ b := by rcases h with h | h <;> omega
end Go.Proofs.YtbhpglhmnpcnkaaDoor

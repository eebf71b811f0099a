/-
  Words and laws that all walks of this seat share: strings as lists of bytes, rows of the call's own, appends. No conditions: a library text.
-/
import Derived.Test.YtdpombnelangjaaGreatDoorRows
import Derived.Test.YtdpombnelangjaaGreatDoorNum
import Derived.WalkKit
import Derived.WalkLawsBesides
import Derived.WalkSpells
import Derived.Lib.Hide
import Derived.Deep.Draws
import Derived.Deep.DeepFit
import Derived.Deep.DeepMust
import Derived.Deep.LoopGhost
import Derived.Deep.DeepCutAuto
import Derived.Deep.QuietTactic
import Derived.BigQuiet
import Derived.Deep.RegionWith
import Derived.Deep.AppendLies
import Derived.Maps.AppendAt
import Derived.Laws.OwnMore
import Derived.Laws.Rows
namespace Go.Proofs.YtdpombnelangjaaGreatDoor
open Go.RowKit
/-- a fact kept from the walk: no tactic looks behind it -/
structure Sec (p : Prop) : Prop where
  out : p
theorem sec {p : Prop} (h : p) : Sec p := ⟨h⟩

/-! ### strings -/
/-- the string of these bytes -/
def bs (l : List UInt8) : ByteArray := ⟨l.toArray⟩
theorem mk_bs (l : List UInt8) : ByteArray.mk l.toArray = bs l := rfl
theorem bs_of (b : ByteArray) : ∃ l, b = bs l := ⟨b.data.toList, by cases b; simp [bs]⟩
theorem bs_size (l : List UInt8) : (bs l).size = l.length := by simp [bs, ByteArray.size]
theorem bs_toList (l : List UInt8) : (bs l).toList = l := ByteArray.toList_mk l
theorem bs_data (l : List UInt8) : (bs l).data.toList = l := by simp [bs]
theorem bs_inj {a b : List UInt8} (h : bs a = bs b) : a = b := by have := congrArg ByteArray.toList h; simpa [bs_toList] using this
theorem bs_append (a b : List UInt8) : bs a ++ bs b = bs (a ++ b) := ByteArray.mk_append_mk a b
/-- the bytes from i to j -/
def sub (l : List UInt8) (i j : Nat) : List UInt8 := (l.drop i).take (j - i)
theorem bs_extract (l : List UInt8) (i j : Nat) : (bs l).extract i j = bs (sub l i j) := ByteArray.extract_mk l i j
theorem sub_zero (l : List UInt8) (j : Nat) : sub l 0 j = l.take j := by simp [sub]
theorem sub_end (l : List UInt8) (i : Nat) : sub l i l.length = l.drop i := by unfold sub; exact List.take_of_length_le (by simp)
theorem sub_len (l : List UInt8) (i j : Nat) (h : j ≤ l.length) : (sub l i j).length = j - i := by unfold sub; rw [List.length_take, List.length_drop]; omega
theorem bs_get (l : List UInt8) (i : Nat) (h : i < (bs l).size) : (bs l)[i] = l[i]'(by rw [bs_size] at h; exact h) := by
  simp [bs, ByteArray.getElem_eq_getElem_data]
attribute [go_sem] mk_bs bs_size bs_toList bs_append bs_extract bs_get sub_zero sub_end
/-- a byte as a value -/
def byteV (c : UInt8) : Value := .int .u8 (c.toNat : Int)

/-! ### rows of the call's own -/
/-- the element type's row of the table -/
structure ElemOk (t e : TypeId) (z : Value) (size bytes : Nat) : Prop where
  under : Tryz.prog.underlying t = some (.slice e)
  info : (Tryz.prog.info? e).map (fun i => (i.zero, i.size, i.bytes)) = some (some z, size, bytes)
  zcells : z.cells.size = size
  pos : 0 < size

/-- the world has at most new blocks: what was there is as it was -/
def Gr (w w' : World) : Prop := Below w.heap.size w w'
theorem Gr.refl (w : World) : Gr w w := Below.refl _ _
theorem Gr.below {w w' : World} (h : Gr w w') : Below w.heap.size w w' := h
theorem Gr.size {w w' : World} (h : Gr w w') : w.heap.size ≤ w'.heap.size := Below.size h
theorem Gr.trans {a b c : World} (h : Gr a b) (k : Gr b c) : Gr a c := Below.trans h (Below.mono k (Below.size h))
theorem Gr.drew {a b : World} (h : Gr a b) : Gr a b.drew := Below.drew h
theorem Gr.drewN {a b : World} (h : Gr a b) (n : Nat) : Gr a (b.drewN n) := ⟨h.below.os, h.below.tape, h.below.output, h.below.size, h.below.block⟩
theorem Gr.alloc {a b : World} (h : Gr a b) (o : Obj) : Gr a (b.alloc o) := Below.alloc h (Below.size h) o
theorem Gr.setCell {a b : World} (h : Gr a b) {p : Addr} (hp : a.heap.size ≤ p.block) (u : Value) : Gr a (b.setCell p u) := Below.setCell h hp u
theorem Gr.grown {a b c : World} {row : Option Nat} (h : Gr a b) (hg : b.grownBy c row) (hr : ∀ k, row = some k → a.heap.size ≤ k) : Gr a c := Below.grown h hg (Below.size h) hr
theorem Gr.cells {W w1 : World} (hb : Gr W w1) : (∀ b o, b < W.heap.size → w1.cell? ⟨b, o, none⟩ = W.cell? ⟨b, o, none⟩) ∧ (∀ b o, b < W.heap.size → w1.frozen? ⟨b, o, none⟩ = W.frozen? ⟨b, o, none⟩) :=
  ⟨fun b o h => Below.cell (p := ⟨b, o, none⟩) hb h, fun b o h => Below.frozen (p := ⟨b, o, none⟩) hb h⟩

/-- append of one piece that was just built: the value behind it is written out -/
theorem wpList_append_new {ops : Array Oper} {rest : List Oper} {o : Oper} {a : Act} {Q : Exit → Act → World → Prop} {w0 w : World} {t e : TypeId} {z : Value} {size bytes : Nat}
    (E : ElemOk t e z size bytes) (hgd : o.guard = none) (s x : Operand) (ho : o.op = .call { callee := .builtin .append, args := #[s, x], argTypes := #[t, t] })
    {A : Option Addr} {n cap : Nat} {xs : List Value} (hs : a.eval s = .slice A n cap) (hown : w.ownsRow w0.heap.size e size (.slice A n cap) n xs)
    {cs : Array Value} {m c : Nat} (hx : a.eval x = .slice (some ⟨w.heap.size, 0, none⟩) m c) (hl : cs.size = m * size) (h1 : ∀ u ∈ cs.toList, u.oneCell' = true) (hm : 0 < m)
    (hbytes : (n + m) * bytes ≤ 140737488355328) (h63 : n + m ≤ maxLen) (hb : Gr w0 w)
    (h : ∀ g cap' w', w'.ownsRow w0.heap.size e size (.slice (some ⟨g, 0, none⟩) (n + m) cap') (n + m) (xs ++ cs.toList) → Gr w0 w' →
      wpList Tryz.prog ops Q rest (a.put o.dst (.slice (some ⟨g, 0, none⟩) (n + m) cap')) w') :
    wpList Tryz.prog ops Q (o :: rest) a (w.alloc (.cells cs e)) := by
  obtain ⟨i0, hi0, hz0, hz1, hz2⟩ := info_parts E.info
  refine wpList_append_own _ hgd s x t ho w0.heap.size e i0 z size bytes E.under hi0 hz0 hz1 hz2 E.zcells E.pos _ n xs hs (hown.alloc _) ⟨w.heap.size, 0, none⟩ m c cs.toList hx (by simpa using hl) ?_ h1 h63 hbytes (by have := hb.size; simp; omega) ?_
  · intro j u hu
    have hc : (w.alloc (.cells cs e)).cell? ⟨w.heap.size, j, none⟩ = cs[j]? := World.cell?_alloc_mark w cs e (0, 0) j
    have : (⟨w.heap.size, 0, none⟩ : Addr).add j = ⟨w.heap.size, j, none⟩ := by unfold Addr.add; split <;> simp_all
    rw [this, hc]
    simpa using hu
  · intro v' w' hown' hg hnil
    have hb' : Gr w0 w' := (hb.alloc _).grown hg (fun k hk => (hown.lt k hk).1)
    rcases hown'.2 with ⟨hv, h0⟩ | ⟨g, cap', cur, hv, _⟩
    · omega
    · subst hv
      exact h g cap' w' hown' hb'

/-- append of one byte -/
theorem wpList_append_byte {ops : Array Oper} {rest : List Oper} {o : Oper} {a : Act} {Q : Exit → Act → World → Prop} {w0 w : World} {t e : TypeId}
    (E : ElemOk t e (.int .u8 0) 1 1) (hgd : o.guard = none) (s x : Operand) (ho : o.op = .call { callee := .builtin .append, args := #[s, x], argTypes := #[t, t] })
    {A : Option Addr} {n cap : Nat} {l : List UInt8} (hs : a.eval s = .slice A n cap) (hown : w.ownsRow w0.heap.size e 1 (.slice A n cap) n (l.map byteV))
    {k : Int} {c : Nat} (hx : a.eval x = .slice (some ⟨w.heap.size, 0, none⟩) 1 c) (hk : 0 ≤ k) (hk' : k < 256)
    (hbytes : n + 1 ≤ 140737488355328) (hb : Gr w0 w)
    (h : ∀ g cap' w', w'.ownsRow w0.heap.size e 1 (.slice (some ⟨g, 0, none⟩) (n + 1) cap') (n + 1) ((l ++ [UInt8.ofNat k.toNat]).map byteV) → Gr w0 w' →
      wpList Tryz.prog ops Q rest (a.put o.dst (.slice (some ⟨g, 0, none⟩) (n + 1) cap')) w') :
    wpList Tryz.prog ops Q (o :: rest) a (w.alloc (.cells #[.int .u8 k] e)) := by
  refine wpList_append_new E hgd s x ho hs hown hx rfl (by simp [Value.oneCell']) (by omega) (by omega) (by unfold maxLen; omega) hb ?_
  intro g cap' w' hown'
  refine h g cap' w' ?_
  have : byteV (UInt8.ofNat k.toNat) = .int .u8 k := by
    unfold byteV
    congr 1
    simp
    omega
  simpa [this] using hown'

theorem add_zero_block (g j : Nat) : (⟨g, 0, none⟩ : Addr).add j = ⟨g, j, none⟩ := by unfold Addr.add; split <;> simp_all

set_option maxRecDepth 100000 in
/-- string(b) of a row of bytes of the call's own -/
theorem run_conv_own {src e dst : TypeId} (hs : Tryz.prog.underlying src = some (.slice e)) (he : Tryz.prog.underlying e = some (.int .u8)) (hd : Tryz.prog.underlying dst = some .string)
    {w : World} {B : Nat} {A : Option Addr} {n cap : Nat} {l : List UInt8} (hown : w.ownsRow B e 1 (.slice A n cap) n (l.map byteV)) :
    (convert src dst (.slice A n cap)).run Tryz.prog w = .ok (.string (bs l)) w := by
  have hn : n = l.length := by have := hown.1; simp at this; exact this.symm
  subst hn
  rcases hown.2 with ⟨hv, h0⟩ | ⟨g, cap', cur, hv, _⟩
  · have hl : l = [] := List.eq_nil_of_length_eq_zero h0
    subst hl
    injection hv with hA hn hc
    subst hA hc
    exact run_convert_bytes_nil w src e hs he 0 0 dst hd
  · injection hv with hA hn hc
    subst hA hc
    refine run_convert_bytes_back w src dst e _ _ l hs he hd ?_
    intro j hj
    refine hown.cells (g := g) rfl j _ ?_
    simp [byteV, hj]
/-! ### blocks known whole -/
def Blk (w : World) (g : Nat) (t : TypeId) (cs : Array Value) : Prop := w.heap[g]? = some (.cells cs t (0, 0))

section
variable {w w' : World} {g : Nat} {t : TypeId} {cs : Array Value}
theorem Blk.lt (h : Blk w g t cs) : g < w.heap.size := by
  rcases Nat.lt_or_ge g w.heap.size with hlt | hge
  · exact hlt
  · unfold Blk at h; rw [Array.getElem?_eq_none hge] at h; cases h
theorem Blk.cell (h : Blk w g t cs) (i : Nat) : w.cell? ⟨g, i, none⟩ = cs[i]? := cell_of_row w g i cs t (0, 0) h
theorem Blk.frozen (h : Blk w g t cs) (i : Nat) : w.frozen? ⟨g, i, none⟩ = false := by
  unfold Blk at h
  simp [World.frozen?, h]
theorem Blk.new (w : World) (t : TypeId) (cs : Array Value) : Blk (w.alloc (.cells cs t)) w.heap.size t cs := heap_alloc_new w _
theorem Blk.drew (h : Blk w g t cs) : Blk w.drew g t cs := h
theorem Blk.drewN (h : Blk w g t cs) (n : Nat) : Blk (w.drewN n) g t cs := h
theorem Blk.alloc (h : Blk w g t cs) (o : Obj) : Blk (w.alloc o) g t cs := (Below.heap_alloc w o g h.lt).trans h
theorem Blk.set_ (h : Blk w g t cs) (i : Nat) (u : Value) : Blk (w.setCell ⟨g, i, none⟩ u) g t (cs.setIfInBounds i u) := by
  unfold Blk at h ⊢
  simp [World.setCell, Array.getElem?_modify, h]
theorem Blk.far (h : Blk w g t cs) {p : Addr} (hp : g ≠ p.block) (u : Value) : Blk (w.setCell p u) g t cs := (Below.heap_setCell w p u g hp).trans h
theorem Blk.below {B : Nat} (h : Blk w g t cs) (hb : Below B w w') (hg : g < B) : Blk w' g t cs := (hb.block g hg).trans h
theorem Blk.grown {row : Option Nat} (h : Blk w g t cs) (hb : w.grownBy w' row) (hg : some g ≠ row) : Blk w' g t cs := (hb.block g h.lt hg).trans h
theorem Blk.ne_ {g' : Nat} {t' : TypeId} {cs' : Array Value} (h : Blk w g t cs) (h' : Blk w g' t' cs') (hne : t ≠ t') : g ≠ g' := by
  rintro rfl
  unfold Blk at h h'
  rw [h] at h'
  injection h' with h'
  injection h' with _ ht
  exact hne ht
theorem own_blk_ne {base : Nat} {e : TypeId} {size n : Nat} {v : Value} {xs : List Value} (h : w.ownsRow base e size v n xs) (hg : Blk w g t cs) (hne : e ≠ t) : v.ownBlock ≠ some g := by
  rcases h.2 with ⟨rfl, _⟩ | ⟨g', cap, cur, rfl, _, hh, _⟩
  · simp [Value.ownBlock]
  · intro he
    have : g' = g := by simpa [Value.ownBlock] using he
    subst this
    exact Blk.ne_ (t := e) hh hg hne rfl
end
/-- string(b) of one byte, wherever it lies -/
theorem run_conv_one {src e dst : TypeId} (hs : Tryz.prog.underlying src = some (.slice e)) (he : Tryz.prog.underlying e = some (.int .u8)) (hd : Tryz.prog.underlying dst = some .string)
    (w : World) (g cap : Nat) (k : Int) (hc : w.cell? ⟨g, 0, none⟩ = some (.int .u8 k)) (h0 : 0 ≤ k) (h1 : k < 256) :
    (convert src dst (.slice (some ⟨g, 0, none⟩) 1 cap)).run Tryz.prog w = .ok (.string (bs [UInt8.ofNat k.toNat])) w := by
  refine run_convert_bytes_back w src dst e ⟨g, 0, none⟩ cap [UInt8.ofNat k.toNat] hs he hd ?_
  intro j hj
  have : j = 0 := by simp at hj; exact hj
  subst this
  rw [add_zero_block, hc]
  simp; omega

end Go.Proofs.YtdpombnelangjaaGreatDoor

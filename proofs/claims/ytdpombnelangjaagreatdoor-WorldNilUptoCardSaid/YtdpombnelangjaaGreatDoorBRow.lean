/-
  Slices of bytes of the call's own, however they were made ('[]byte(s)' too): append, back to a string. No conditions: a library text.
-/
import Derived.Test.YtdpombnelangjaaGreatDoorAgg
import Derived.ArgAppend
import Derived.Deep.Upon
import Derived.Lib.ConvBytes
import Derived.Lib.AtoiErrMem
namespace Go.Proofs.YtdpombnelangjaaGreatDoor
open Go.RowKit
set_option linter.unusedVariables false
structure BRow (w : World) (B g cap : Nat) (l : List UInt8) : Prop where
  base : B ≤ g
  lt : g < w.heap.size
  le : l.length ≤ cap
  max : cap ≤ maxLen
  there : ∀ j, j < cap → (w.cell? ⟨g, j, none⟩).isSome = true ∧ w.frozen? ⟨g, j, none⟩ = false
  at_ : ∀ j u, (l.map byteV)[j]? = some u → w.cell? ⟨g, j, none⟩ = some u

theorem BRow.gr {w w' : World} {B g cap : Nat} {l : List UInt8} (h : BRow w B g cap l) (k : Gr w w') : BRow w' B g cap l :=
  ⟨h.base, Nat.lt_of_lt_of_le h.lt k.size, h.le, h.max, fun j hj => by rw [k.cells.1 g j h.lt, k.cells.2 g j h.lt]; exact h.there j hj, fun j u hu => by rw [k.cells.1 g j h.lt]; exact h.at_ j u hu⟩
theorem BRow.only {w w' : World} {B g cap k : Nat} {l : List UInt8} (h : BRow w B g cap l) (hg : w.grownBy w' (some k)) (hne : g ≠ k) : BRow w' B g cap l := by
  have hb : w'.heap[g]? = w.heap[g]? := hg.block g h.lt (fun e => hne (Option.some.inj e))
  exact ⟨h.base, Nat.lt_of_lt_of_le h.lt hg.size, h.le, h.max, fun j hj => by rw [World.cell?_of_block (a := ⟨g, j, none⟩) hb, World.frozen?_of_block (a := ⟨g, j, none⟩) hb]; exact h.there j hj, fun j u hu => by rw [World.cell?_of_block (a := ⟨g, j, none⟩) hb]; exact h.at_ j u hu⟩
theorem BRow.of_own {w : World} {B e n : Nat} {v : Value} {l : List UInt8} (h : w.ownsRow B e 1 v n (l.map byteV)) (hn : 0 < n) : ∃ g cap, v = .slice (some ⟨g, 0, none⟩) l.length cap ∧ BRow w B g cap l := by
  have hl : n = l.length := by have := h.1; simp at this; exact this.symm
  rcases h.2 with ⟨_, h0⟩ | ⟨g, cap, cur, hv, hB, hh, hle, hm, hs, ht⟩
  · omega
  · subst hv
    have hlt := (h.lt g rfl).2
    refine ⟨g, cap, by rw [hl], hB, hlt, by omega, hm, fun j hj => ⟨?_, h.frozenAt j⟩, fun j u hu => ?_⟩
    · have : w.cell? ⟨g, j, none⟩ = cur[j]? := by simp [World.cell?, hh]
      rw [this, Array.getElem?_eq_getElem (by omega)]; rfl
    · have hj : j < n * 1 := by have := (List.getElem?_eq_some_iff.1 hu).1; simp at this; omega
      rw [h.cellAt j hj]
      exact hu

/-- '[]byte(s)' -/
theorem conv_brow {src dst e : TypeId} (hs : Tryz.prog.underlying src = some .string) (hd : Tryz.prog.underlying dst = some (.slice e)) (he : Tryz.prog.underlying e = some (.int .u8)) (w : World) (l : List UInt8) (hl : l.length ≤ maxLen) :
    ∃ w2 cap, (convert src dst (.string (bs l))).run Tryz.prog w = .ok (.slice (some ⟨w.heap.size, 0, none⟩) l.length cap) w2 ∧ Gr w w2 ∧ BRow w2 w.heap.size w.heap.size cap l := by
  have h1 := Lib.run_convert_string_bytes (P := Tryz.prog) w src dst e (bs l) hs hd he
  rw [bs_size] at h1
  have hge : l.length ≤ grownCap w l.length 0 e := grownCap_ge w _ _ e
  have hnew := Lib.bytesWorld_at_new w e (bs l)
  have hsz : (Lib.bytesCells w e (bs l)).size = grownCap w l.length 0 e := by
    unfold Lib.bytesCells
    have : (bs l).data.size = l.length := bs_size l
    rw [Array.size_append, Array.size_map, Array.size_replicate, bs_size, this]
    omega
  refine ⟨_, _, h1, Lib.bytesWorld_below w e (bs l), Nat.le_refl _, by rw [Lib.bytesWorld_size]; omega, hge, grownCap_le_maxLen w _ _ e hl, fun j hj => ⟨?_, ?_⟩, fun j u hu => ?_⟩
  · have : (Lib.bytesWorld w e (bs l)).cell? ⟨w.heap.size, j, none⟩ = (Lib.bytesCells w e (bs l))[j]? := by simp [World.cell?, hnew]
    rw [this, Array.getElem?_eq_getElem (by omega)]; rfl
  · simp [World.frozen?, hnew]
    omega
  · have hj : j < l.length := by have := (List.getElem?_eq_some_iff.1 hu).1; simpa using this
    rw [Lib.bytesWorld_cell w e (bs l) j (by rw [bs_size]; exact hj)]
    simp [byteV, hj] at hu
    subst hu
    simp [bs_data, hj]

/-- string(b[i:j]) -/
theorem run_conv_at {src e dst : TypeId} (hs : Tryz.prog.underlying src = some (.slice e)) (he : Tryz.prog.underlying e = some (.int .u8)) (hd : Tryz.prog.underlying dst = some .string)
    (w : World) (g off cap : Nat) (l : List UInt8) (hc : ∀ j u, (l.map byteV)[j]? = some u → w.cell? ⟨g, off + j, none⟩ = some u) :
    (convert src dst (.slice (some ⟨g, off, none⟩) l.length cap)).run Tryz.prog w = .ok (.string (bs l)) w := by
  refine run_convert_bytes_back w src dst e _ _ l hs he hd ?_
  intro j hj
  have hadd : (⟨g, off, none⟩ : Addr).add j = ⟨g, off + j, none⟩ := by unfold Addr.add; split <;> simp_all
  rw [hadd]
  exact hc j _ (by simp [byteV, hj])
theorem BRow.conv {src e dst : TypeId} (hs : Tryz.prog.underlying src = some (.slice e)) (he : Tryz.prog.underlying e = some (.int .u8)) (hd : Tryz.prog.underlying dst = some .string)
    {w : World} {B g cap : Nat} {l : List UInt8} (h : BRow w B g cap l) : (convert src dst (.slice (some ⟨g, 0, none⟩) l.length cap)).run Tryz.prog w = .ok (.string (bs l)) w :=
  run_conv_at hs he hd w g 0 cap l (fun j u hu => by rw [Nat.zero_add]; exact h.at_ j u hu)

theorem tape_setCells (g : Nat) : ∀ (vs : List Value) (o : Nat) (w : World), (w.setCells g o vs).tape = w.tape
  | [], _, _ => rfl
  | v :: r, o, w => by
    show ((w.setCell ⟨g, o, none⟩ v).setCells g (o + 1) r).tape = w.tape
    rw [tape_setCells g r (o + 1) _]
    rfl
theorem grown_of_alloc {w w' : World} {o : Obj} {row : Option Nat} (h : (w.alloc o).grownBy w' row) : w.grownBy w' row :=
  ⟨h.os, h.tape, h.output, by have := h.size; simp at this; omega, fun k hk hne => (h.block k (by simp; omega) hne).trans (Below.heap_alloc w o k hk)⟩
/-- append of bytes that were just built -/
theorem wpList_append_brow {ops : Array Oper} {rest : List Oper} {o : Oper} {a : Act} {Q : Exit → Act → World → Prop} {w0 w : World} {t e : TypeId}
    (E : ElemOk t e (.int .u8 0) 1 1) (hgd : o.guard = none) (s x : Operand) (ho : o.op = .call { callee := .builtin .append, args := #[s, x], argTypes := #[t, t] })
    {g cap : Nat} {l : List UInt8} (hs : a.eval s = .slice (some ⟨g, 0, none⟩) l.length cap) (hB : BRow w w0.heap.size g cap l)
    (news : List UInt8) {cs : Array Value} {m c : Nat} (hx : a.eval x = .slice (some ⟨w.heap.size, 0, none⟩) m c) (hcs : cs.toList = news.map byteV) (hm : news.length = m)
    (hbytes : l.length + m ≤ 140737488355328) (hb : Gr w0 w)
    (h : ∀ g' cap' w', BRow w' w0.heap.size g' cap' (l ++ news) → w.grownBy w' (some g) → (g' = g ∨ w.heap.size ≤ g') → Gr w0 w' → wpList Tryz.prog ops Q rest (a.put o.dst (.slice (some ⟨g', 0, none⟩) (l ++ news).length cap')) w') :
    wpList Tryz.prog ops Q (o :: rest) a (w.alloc (.cells cs e)) := by
  obtain ⟨i0, hi0, hz0, hz1, hz2⟩ := info_parts E.info
  have hB1 : BRow (w.alloc (.cells cs e)) w0.heap.size g cap l := hB.gr ((Gr.refl w).alloc _)
  have hg1 : Gr w0 (w.alloc (.cells cs e)) := hb.alloc _
  have hnl : (news.map byteV).length = m := by simp [hm]
  have hone : ∀ u ∈ news.map byteV, u.oneCell' = true := by
    intro u hu
    obtain ⟨c, _, rfl⟩ := List.mem_map.1 hu
    rfl
  refine wpList_append_arg _ hgd s x t ho e i0 (.int .u8 0) 1 1 E.under hi0 hz0 hz1 hz2 E.zcells (by omega) g 0 l.length cap (l.map byteV) hs (by simp) (fun j u hu => by rw [Nat.zero_add]; exact hB1.at_ j u hu)
    ⟨w.heap.size, 0, none⟩ m c (news.map byteV) hx (by simp [hm]) ?_ hone ?_ (by unfold maxLen; omega) (by omega) ?_ ?_
  · intro j u hu
    have hc : (w.alloc (.cells cs e)).cell? ⟨w.heap.size, j, none⟩ = cs[j]? := World.cell?_alloc_mark w cs e (0, 0) j
    rw [add_zero_block, hc]
    rw [← hcs] at hu
    simpa using hu
  · intro hle j hj
    have := hB1.there (0 + l.length * 1 + j) (by omega)
    exact this
  · intro hle
    have hlen : (l ++ news).length = l.length + m := by rw [List.length_append, hm]
    rw [← hlen]
    have hgg : (w.alloc (.cells cs e)).grownBy ((w.alloc (.cells cs e)).setCells g (0 + l.length * 1) (news.map byteV)) (some g) := by
      refine ⟨?_, ?_, ?_, ?_, ?_⟩
      · exact World.os_setCells _ _ _ _
      · exact tape_setCells g _ _ _
      · exact World.output_setCells _ _ _ _
      · exact (World.keptBut_setCells g (may := fun _ => True) (news.map byteV) (0 + l.length * 1) (w.alloc (.cells cs e)) (fun _ _ => trivial)).size
      · intro k hk hne
        exact World.heap_setCells_other _ _ _ _ hk (fun e' => hne (by rw [e']))
    refine h g cap _ ⟨hB.base, ?_, by omega, hB.max, ?_, ?_⟩ (grown_of_alloc hgg) (.inl rfl) ?_
    · have := (World.keptBut_setCells g (may := fun _ => True) (news.map byteV) (0 + l.length * 1) (w.alloc (.cells cs e)) (fun _ _ => trivial)).size
      exact Nat.lt_of_lt_of_le hB1.lt this
    · intro j hj
      rw [World.frozen?_setCells]
      refine ⟨?_, (hB1.there j hj).2⟩
      by_cases hin : j < l.length ∨ l.length + m ≤ j
      · rw [World.cell?_setCells_out g _ _ _ ⟨g, j, none⟩ (fun _ _ => by simp only [hnl]; omega)]
        exact (hB1.there j hj).1
      · have hj2 : j - l.length < (news.map byteV).length := by omega
        have := World.cell?_setCells_in g (news.map byteV) (0 + l.length * 1) (w.alloc (.cells cs e)) (fun j hj => (hB1.there _ (by omega)).1) (j - l.length) hj2
        rw [show 0 + l.length * 1 + (j - l.length) = j by omega] at this
        rw [this]; rfl
    · intro j u hu
      rw [List.map_append] at hu
      by_cases hin : j < l.length
      · rw [List.getElem?_append_left (by simpa using hin)] at hu
        rw [World.cell?_setCells_out g _ _ _ ⟨g, j, none⟩ (fun _ _ => by left; simp; omega)]
        exact hB1.at_ j u hu
      · rw [List.getElem?_append_right (by simpa using hin)] at hu
        simp only [List.length_map] at hu
        obtain ⟨hj2, hu2⟩ := List.getElem?_eq_some_iff.1 hu
        have := World.cell?_setCells_in g (news.map byteV) (0 + l.length * 1) (w.alloc (.cells cs e)) (fun j hj => (hB1.there _ (by omega)).1) (j - l.length) hj2
        rw [show 0 + l.length * 1 + (j - l.length) = j by omega] at this
        rw [this, hu2]
    · exact hg1.only hgg hB.base
  · intro hlt v' w' hown hgr
    rw [← List.map_append] at hown
    obtain ⟨g', cap', hv, hr⟩ := BRow.of_own hown (by omega)
    subst hv
    have hb0 := hr.base
    have hb1 : w.heap.size + 1 = (w.alloc (.cells cs e)).heap.size := by simp
    have hb2 := hg1.size
    refine h g' cap' w' ⟨by omega, hr.lt, hr.le, hr.max, hr.there, hr.at_⟩ (grown_of_alloc ⟨hgr.os, hgr.tape, hgr.output, hgr.size, fun k hk _ => hgr.block k hk (by simp)⟩) (.inr (by omega)) (hg1.grown hgr (by rintro k hk; cases hk))
theorem far_of {g g' b n : Nat} (h : g' = g ∨ n ≤ g') (hne : g ≠ b) (hlt : b < n) : g' ≠ b := by rcases h with h | h <;> omega
end Go.Proofs.YtdpombnelangjaaGreatDoor

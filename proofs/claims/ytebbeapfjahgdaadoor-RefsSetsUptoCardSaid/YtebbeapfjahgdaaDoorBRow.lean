/-
  Slices of bytes of the call's own, however they were made ('[]byte(s)' too): append, back to a string. No conditions: a library text.
-/
import Derived.Test.YtebbeapfjahgdaaDoorAgg
import Derived.ArgAppend
import Derived.Deep.Upon
import Derived.Lib.ConvBytes
import Derived.Lib.AtoiErrMem
namespace Go.Proofs.YtebbeapfjahgdaaDoor
open Go.RowKit
set_option linter.unusedVariables false
structure BRow (w : World) (B g cap : Nat) (l : List UInt8) : Prop where
  base : B ≤ g
  lt : g < w.heap.size
  le : l.length ≤ cap
  max : cap ≤ maxLen
  there : ∀ j, j < cap → (w.cell? ⟨g, j, none⟩).isSome = true ∧ w.frozen? ⟨g, j, none⟩ = false
  at_ : ∀ j u, (l.map byteV)[j]? = some u → w.cell? ⟨g, j, none⟩ = some u

theorem BRow.gr {w w' : World} {B g cap : Nat} {l : List UInt8} (h : BRow w B g cap l) (k : Gr w w') : BRow w' B g cap l :=
  ⟨h.base, Nat.lt_of_lt_of_le h.lt k.size, h.le, h.max, fun j hj => by rw [k.cells.1 g j h.lt, k.cells.2 g j h.lt]; exact h.there j hj, fun j u hu => by rw [k.cells.1 g j h.lt]; exact h.at_ j u hu⟩
theorem BRow.only {w w' : World} {B g cap k : Nat} {l : List UInt8} (h : BRow w B g cap l) (hg : w.grownBy w' (some k)) (hne : g ≠ k) : BRow w' B g cap l := by
  have hb : w'.heap[g]? = w.heap[g]? := hg.block g h.lt (fun e => hne (Option.some.inj e))
  exact ⟨h.base, Nat.lt_of_lt_of_le h.lt hg.size, h.le, h.max, fun j hj => by rw [World.cell?_of_block (a := ⟨g, j, none⟩) hb, World.frozen?_of_block (a := ⟨g, j, none⟩) hb]; exact h.there j hj, fun j u hu => by rw [World.cell?_of_block (a := ⟨g, j, none⟩) hb]; exact h.at_ j u hu⟩
/-- '[]byte(s)' -/
theorem conv_brow {src dst e : TypeId} (hs : Tryd.prog.underlying src = some .string) (hd : Tryd.prog.underlying dst = some (.slice e)) (he : Tryd.prog.underlying e = some (.int .u8)) (w : World) (l : List UInt8) (hl : l.length ≤ maxLen) :
    ∃ w2 cap, (convert src dst (.string (bs l))).run Tryd.prog w = .ok (.slice (some ⟨w.heap.size, 0, none⟩) l.length cap) w2 ∧ Gr w w2 ∧ BRow w2 w.heap.size w.heap.size cap l := by
  have h1 := Lib.run_convert_string_bytes (P := Tryd.prog) w src dst e (bs l) hs hd he
  rw [bs_size] at h1
  have hge : l.length ≤ grownCap w l.length 0 e := grownCap_ge w _ _ e
  have hnew := Lib.bytesWorld_at_new w e (bs l)
  have hsz : (Lib.bytesCells w e (bs l)).size = grownCap w l.length 0 e := by
    unfold Lib.bytesCells
    have : (bs l).data.size = l.length := bs_size l
    rw [Array.size_append, Array.size_map, Array.size_replicate, bs_size, this]
    omega
  refine ⟨_, _, h1, Lib.bytesWorld_below w e (bs l), Nat.le_refl _, by rw [Lib.bytesWorld_size]; omega, hge, grownCap_le_maxLen w _ _ e hl, fun j hj => ⟨?_, ?_⟩, fun j u hu => ?_⟩
  · have : (Lib.bytesWorld w e (bs l)).cell? ⟨w.heap.size, j, none⟩ = (Lib.bytesCells w e (bs l))[j]? := by simp [World.cell?, hnew]
    rw [this, Array.getElem?_eq_getElem (by omega)]; rfl
  · simp [World.frozen?, hnew]
    omega
  · have hj : j < l.length := by have := (List.getElem?_eq_some_iff.1 hu).1; simpa using this
    rw [Lib.bytesWorld_cell w e (bs l) j (by rw [bs_size]; exact hj)]
    simp [byteV, hj] at hu
    subst hu
    simp [bs_data, hj]

end Go.Proofs.YtebbeapfjahgdaaDoor

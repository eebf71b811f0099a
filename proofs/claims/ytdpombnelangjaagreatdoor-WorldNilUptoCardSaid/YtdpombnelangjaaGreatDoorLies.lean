/-
  Append of one element of one cell, and where the new slice lies. No conditions: a library text.
-/
import Derived.Test.YtdpombnelangjaaGreatDoorBRow
import Derived.Deep.AppendLies
namespace Go.Proofs.YtdpombnelangjaaGreatDoor
open Go.RowKit
set_option linter.unusedVariables false
theorem wpList_append_oneL {ops : Array Oper} {rest : List Oper} {o : Oper} {a : Act} {Q : Exit → Act → World → Prop} {w : World} {t e : TypeId} {z : Value} {bytes : Nat}
    (E : ElemOk t e z 1 bytes) (hgd : o.guard = none) (s x : Operand) (ho : o.op = .call { callee := .builtin .append, args := #[s, x], argTypes := #[t, t] })
    {B : Nat} {A : Option Addr} {n cap : Nat} {xs : List Value} (hs : a.eval s = .slice A n cap) (hown : w.ownsRow B e 1 (.slice A n cap) n xs)
    {u : Value} {c : Nat} (hx : a.eval x = .slice (some ⟨w.heap.size, 0, none⟩) 1 c) (h1 : u.oneCell' = true)
    (hbytes : (n + 1) * bytes ≤ 140737488355328) (h63 : n + 1 ≤ maxLen) (hB : B ≤ w.heap.size)
    (h : ∀ g cap' w', w'.ownsRow B e 1 (.slice (some ⟨g, 0, none⟩) (n + 1) cap') (n + 1) (xs ++ [u]) → w.grownBy w' (Value.ownBlock (.slice A n cap)) → (Value.ownBlock (.slice A n cap) = some g ∨ w.heap.size ≤ g) →
      wpList Tryz.prog ops Q rest (a.put o.dst (.slice (some ⟨g, 0, none⟩) (n + 1) cap')) w') :
    wpList Tryz.prog ops Q (o :: rest) a (w.alloc (.cells #[u] e)) := by
  obtain ⟨i0, hi0, hz0, hz1, hz2⟩ := info_parts E.info
  refine wpList_append_lies _ hgd s x t ho B e i0 z 1 bytes E.under hi0 hz0 hz1 hz2 E.zcells E.pos _ n xs hs (hown.alloc _) ⟨w.heap.size, 0, none⟩ 1 c [u] hx (by simp) ?_ (by intro v hv; simp at hv; subst hv; exact h1) (by omega) h63 hbytes (by simp; omega) _ rfl ?_
  · intro j v hv
    have hc : (w.alloc (.cells #[u] e)).cell? ⟨w.heap.size, j, none⟩ = (#[u] : Array Value)[j]? := World.cell?_alloc_mark w #[u] e (0, 0) j
    rw [add_zero_block, hc]
    simpa using hv
  · intro g cap' w' hown' hg hat _
    refine h g cap' w' hown' ⟨hg.os, hg.tape, hg.output, by have := hg.size; simp at this; omega, fun k hk hne => (hg.block k (by simp; omega) hne).trans (Below.heap_alloc w _ k hk)⟩ ?_
    rcases hat with h | h
    · exact .inl h
    · right; simp at h; omega

theorem BRow.grown {w w' : World} {B g cap : Nat} {row : Option Nat} {l : List UInt8} (h : BRow w B g cap l) (hg : w.grownBy w' row) (hne : row ≠ some g) : BRow w' B g cap l := by
  have hb : w'.heap[g]? = w.heap[g]? := hg.block g h.lt (fun e => hne e.symm)
  exact ⟨h.base, Nat.lt_of_lt_of_le h.lt hg.size, h.le, h.max, fun j hj => by rw [World.cell?_of_block (a := ⟨g, j, none⟩) hb, World.frozen?_of_block (a := ⟨g, j, none⟩) hb]; exact h.there j hj, fun j u hu => by rw [World.cell?_of_block (a := ⟨g, j, none⟩) hb]; exact h.at_ j u hu⟩
/-- the new slice lies elsewhere than an old block that was not the row -/
theorem lies_ne {row : Option Nat} {g k n : Nat} (hat : row = some g ∨ n ≤ g) (hne : row ≠ some k) (hlt : k < n) : g ≠ k := by
  rcases hat with h | h
  · intro e; exact hne (by rw [h, e])
  · omega
end Go.Proofs.YtdpombnelangjaaGreatDoor

/-
  Whole structs and arrays in blocks: loads, stores, results. No conditions: a library text.
-/
import Derived.Test.YtebbeapfjahgdaaDoorRowsG
import Derived.Laws.Rows
import Derived.Laws.CopyOwn
import Derived.Laws.CopyRow
namespace Go.Proofs.YtebbeapfjahgdaaDoor
open Go.RowKit
theorem grown_setRow (w : World) (g : Nat) (cs : Array Value) : w.grownBy (w.setRow g cs) (some g) :=
  ⟨rfl, rfl, rfl, by simp, fun k _ hne => setRow_other w g k cs (by rintro rfl; exact hne rfl)⟩
theorem grown_setCell (w : World) (p : Addr) (v : Value) : w.grownBy (w.setCell p v) (some p.block) :=
  ⟨rfl, rfl, rfl, by simp, fun k _ hne => Below.heap_setCell w p v k (by rintro rfl; exact hne rfl)⟩
theorem Gr.only {a b c : World} {g : Nat} (h : Gr a b) (hg : b.grownBy c (some g)) (hle : a.heap.size ≤ g) : Gr a c :=
  h.grown hg (by rintro k hk; obtain rfl := Option.some.inj hk; exact hle)
theorem Blk.only {w w' : World} {g k : Nat} {t : TypeId} {cs : Array Value} (h : Blk w g t cs) (hg : w.grownBy w' (some k)) (hne : g ≠ k) : Blk w' g t cs :=
  h.grown hg (fun e => hne (Option.some.inj e))
theorem Blk.of_setRow {w : World} {g : Nat} {t : TypeId} {cs : Array Value} (h : Blk w g t cs) (ds : Array Value) : Blk (w.setRow g ds) g t ds := setRow_heap w g _ ds t _ h
theorem Blk.new1 (w : World) (o : Obj) (t : TypeId) (cs : Array Value) : Blk ((w.alloc o).alloc (.cells cs t)) (w.heap.size + 1) t cs := by
  have := Blk.new (w.alloc o) t cs
  rwa [World.size_alloc] at this
end Go.Proofs.YtebbeapfjahgdaaDoor

/-
  An object under construction: its block, and two rows of the call's own that grow.
-/
import Derived.Test.YtoamnifnfkgbiaaGreatDoorObL
import Derived.Test.YtoamnifnfkgbiaaGreatDoorRdr
namespace Go.Proofs.YtoamnifnfkgbiaaGreatDoor
set_option maxRecDepth 100000
open Go.RowKit
set_option linter.unusedVariables false
structure Om (w0 : World) (q K : Nat) (cs : Array Value) (X Y : Value) (N M : Nat) (F : List Ent) (G : List (List UInt8)) (w : World) : Prop where
  blk : Blk w q 91 cs
  own1 : w.ownsRow K 128 3 X N (F.flatMap entV)
  own2 : w.ownsRow K 9 1 Y M (G.map strV)
  gr : Gr w0 w
  lt : q < K
  le : w0.heap.size ≤ q
section
variable {w0 : World} {q K : Nat} {cs : Array Value} {X Y : Value} {N M : Nat} {F : List Ent} {G : List (List UInt8)} {w w' : World}
theorem Om.gr' (h : Om w0 q K cs X Y N M F G w) (g : Gr w w') : Om w0 q K cs X Y N M F G w' := ⟨h.blk.gr g, own_gr h.own1 g, own_gr h.own2 g, h.gr.trans g, h.lt, h.le⟩
theorem Om.al (h : Om w0 q K cs X Y N M F G w) (o : Obj) : Om w0 q K cs X Y N M F G (w.alloc o) := h.gr' ((Gr.refl _).alloc _)
theorem Om.drew (h : Om w0 q K cs X Y N M F G w) : Om w0 q K cs X Y N M F G w.drew := h.gr' (Gr.refl _).drew
/-- another block, of no such kind, has turned -/
theorem Om.only {g : Nat} {T : TypeId} {cs' : Array Value} (h : Om w0 q K cs X Y N M F G w) (hb : Blk w g T cs') (h1 : 128 ≠ T) (h2 : 9 ≠ T) (hq : q ≠ g) (hg : w0.heap.size ≤ g) (k : w.grownBy w' (some g)) : Om w0 q K cs X Y N M F G w' :=
  ⟨h.blk.only k hq, own_only h.own1 hb h1 k, own_only h.own2 hb h2 k, h.gr.only k hg, h.lt, h.le⟩
theorem Om.app1 {X' : Value} {N' : Nat} {F' : List Ent} (h : Om w0 q K cs X Y N M F G w) (ho : w'.ownsRow K 128 3 X' N' (F'.flatMap entV)) (k : w.grownBy w' X.ownBlock) : Om w0 q K cs X' Y N' M F' G w' :=
  ⟨blk_own h.blk h.own1 (by decide) k, ho, own_other h.own2 h.own1 (by decide) k, h.gr.grown k (fun i hi => by have := (h.own1.lt i hi).1; have := h.lt; have := h.le; omega), h.lt, h.le⟩
theorem Om.app2 {Y' : Value} {M' : Nat} {G' : List (List UInt8)} (h : Om w0 q K cs X Y N M F G w) (ho : w'.ownsRow K 9 1 Y' M' (G'.map strV)) (k : w.grownBy w' Y.ownBlock) : Om w0 q K cs X Y' N M' F G' w' :=
  ⟨blk_own h.blk h.own2 (by decide) k, own_other h.own1 h.own2 (by decide) k, ho, h.gr.grown k (fun i hi => by have := (h.own2.lt i hi).1; have := h.lt; have := h.le; omega), h.lt, h.le⟩
theorem Om.st (h : Om w0 q K cs X Y N M F G w) (i : Nat) (u : Value) : Om w0 q K (cs.setIfInBounds i u) X Y N M F G (w.setCell ⟨q, i, none⟩ u) :=
  ⟨h.blk.set_ i u, ownsRow_setCell_other h.own1 (a := ⟨q, i, none⟩) (fun e => by have := (h.own1.lt q e).1; have := h.lt; omega) u, ownsRow_setCell_other h.own2 (a := ⟨q, i, none⟩) (fun e => by have := (h.own2.lt q e).1; have := h.lt; omega) u, h.gr.setCell (p := ⟨q, i, none⟩) h.le u, h.lt, h.le⟩
theorem Om.size (h : Om w0 q K cs X Y N M F G w) (hK : K ≤ q + 1) : K ≤ w.heap.size := by have := h.blk.lt; omega
theorem Om.keep1 {g : Nat} {T : TypeId} {cs' : Array Value} (h : Om w0 q K cs X Y N M F G w) (hb : Blk w g T cs') (h1 : 128 ≠ T) (k : w.grownBy w' X.ownBlock) : Blk w' g T cs' := blk_own hb h.own1 h1 k
theorem Om.keep2 {g : Nat} {T : TypeId} {cs' : Array Value} (h : Om w0 q K cs X Y N M F G w) (hb : Blk w g T cs') (h1 : 9 ≠ T) (k : w.grownBy w' Y.ownBlock) : Blk w' g T cs' := blk_own hb h.own2 h1 k
theorem Om.rd {T : TypeId} {g : Nat} {st : St} {W : World} (h : Om w0 q K cs X Y N M F G w) (gx : Gr w W) (hd : RdAt T w g st) (h1 : 128 ≠ T) (h2 : 9 ≠ T) (hq : q ≠ g) (hg : w0.heap.size ≤ g) (k : W.grownBy w' (some g)) : Om w0 q K cs X Y N M F G w' :=
  (h.gr' gx).only (hd.gr gx).blk h1 h2 hq hg k
theorem Om.rdApp1 {T : TypeId} {g : Nat} {st : St} (h : Om w0 q K cs X Y N M F G w) (hd : RdAt T w g st) (h1 : 128 ≠ T) (k : w.grownBy w' X.ownBlock) : RdAt T w' g st := ⟨h.keep1 hd.blk h1 k, hd.len, hd.err⟩
theorem Om.rdApp2 {T : TypeId} {g : Nat} {st : St} (h : Om w0 q K cs X Y N M F G w) (hd : RdAt T w g st) (h1 : 9 ≠ T) (k : w.grownBy w' Y.ownBlock) : RdAt T w' g st := ⟨h.keep2 hd.blk h1 k, hd.len, hd.err⟩
theorem RdAt.farO {T : TypeId} {g : Nat} {st : St} (hd : RdAt T w g st) {a : Addr} (hne : g ≠ a.block) (u : Value) : RdAt T (w.setCell a u) g st := ⟨hd.blk.far hne u, hd.len, hd.err⟩
theorem Om.new (h : Blk w q 91 cs) (g : Gr w0 w) (lt : q < K) (le : w0.heap.size ≤ q) : Om w0 q K cs (.slice none 0 0) (.slice none 0 0) 0 0 [] [] w :=
  ⟨h, World.ownsRow_nil _ _ _ _, World.ownsRow_nil _ _ _ _, g, lt, le⟩
end
/-- a cell of a block that is none of these -/
theorem Om.farx {w0 : World} {q K : Nat} {cs : Array Value} {X Y : Value} {N M : Nat} {F : List Ent} {G : List (List UInt8)} {w : World} (h : Om w0 q K cs X Y N M F G w) {x : Nat} (hx : X.ownBlock ≠ some x) (hy : Y.ownBlock ≠ some x) (hq : q ≠ x) (hle : w0.heap.size ≤ x) (i : Nat) (u : Value) : Om w0 q K cs X Y N M F G (w.setCell ⟨x, i, none⟩ u) :=
  ⟨h.blk.far hq u, ownsRow_setCell_other h.own1 (a := ⟨x, i, none⟩) hx u, ownsRow_setCell_other h.own2 (a := ⟨x, i, none⟩) hy u, h.gr.setCell (p := ⟨x, i, none⟩) hle u, h.lt, h.le⟩
theorem Om.notX {w0 : World} {q K : Nat} {cs : Array Value} {X Y : Value} {N M : Nat} {F : List Ent} {G : List (List UInt8)} {w : World} (h : Om w0 q K cs X Y N M F G w) {x : Nat} (hx : w.heap.size ≤ x) : X.ownBlock ≠ some x ∧ Y.ownBlock ≠ some x ∧ q ≠ x ∧ w0.heap.size ≤ x :=
  ⟨fun e => by have := (h.own1.lt x e).2; omega, fun e => by have := (h.own2.lt x e).2; omega, by have := h.blk.lt; omega, by have := h.gr.size; omega⟩
theorem rowk {W : World} {g : Nat} {T : TypeId} {cs : Array Value} {k : Nat} (h : Blk W g T cs) (hk : cs.size = k) : Row W k (some ⟨g, 0, none⟩) 1 cs.toList := by
  refine ⟨by rw [Nat.one_mul]; simpa using hk, fun _ => ⟨g, 0, rfl, fun i v hv => ?_⟩⟩
  rw [Nat.zero_add, h.cell]
  simpa using hv
theorem BlkAtO {w : World} {g : Nat} {t : TypeId} {cs : Array Value} (h : g = w.heap.size) : Blk (w.alloc (.cells cs t)) g t cs := by subst h; exact Blk.new w t cs
theorem own_nilO {w : World} {k e n cap size : Nat} {A : Option Addr} {xs : List Value} (h : w.ownsRow k e size (.slice A n cap) n xs) : A = none → n = 0 ∧ cap = 0 := by
  intro e
  rcases h.2 with ⟨h, h0⟩ | ⟨g, _, _, h, _⟩
  · injection h with _ h2 h3
    exact ⟨h0, h3⟩
  · injection h with h2 _ _
    rw [e] at h2; cases h2
theorem own_capO {w : World} {k e n cap size : Nat} {A : Option Addr} {xs : List Value} (h : w.ownsRow k e size (.slice A n cap) n xs) : n ≤ cap := by
  rcases h.2 with ⟨h, h0⟩ | ⟨g, cap', cur, h, _, _, hle, _⟩
  · omega
  · injection h with _ _ h3
    subst h3
    exact hle
/-- the object's block with its two slices -/
def OcA (kd : Int) (dt : List UInt8) (A : Option Addr) (c N : Nat) (tr : List UInt8) (B : Option Addr) (d M : Nat) (wh no : List UInt8) (ti : Int) (ta : List UInt8) : Array Value :=
  #[.int .i64 kd, .string (bs dt), .slice A N c, .string (bs tr), .slice B M d, .string (bs wh), .string (bs no), .int .i64 ti, .string (bs ta)]
theorem flat3_len (F : List Ent) : (F.flatMap entV).length = F.length * 3 := flat_len entV 3 entV_len F
theorem obr_own {w : World} {K K' N M : Nat} {kd : Int} {dt tr wh no ta : List UInt8} {ti : Int} {F : List Ent} {G : List (List UInt8)} {A B : Option Addr} {c d : Nat} (h : w.ownsRow K 128 3 (.slice A N c) N (F.flatMap entV)) (h' : w.ownsRow K' 9 1 (.slice B M d) M (G.map strV)) :
    ObR w ⟨kd, dt, F, tr, G, wh, no, ti, ta⟩ A c B d ∧ OcA kd dt A c N tr B d M wh no ti ta = obA ⟨kd, dt, F, tr, G, wh, no, ti, ta⟩ A c B d := by
  have h1 : F.length = N := by have := h.1; rw [flat3_len] at this; omega
  have h2 : G.length = M := by have := h'.1; simpa using this
  subst h1
  subst h2
  exact ⟨⟨Row.own h, Row.own h', own_nilO h, own_nilO h', own_capO h, own_capO h'⟩, rfl⟩
theorem entV_add (F : List Ent) (x : Ent) : F.flatMap entV ++ entV x = (F ++ [x]).flatMap entV := by rw [List.flatMap_append]; simp
theorem sV_addO (G : List (List UInt8)) (x : List UInt8) : G.map strV ++ [Value.string (bs x)] = (G ++ [x]).map strV := by simp [strV]
end Go.Proofs.YtoamnifnfkgbiaaGreatDoor

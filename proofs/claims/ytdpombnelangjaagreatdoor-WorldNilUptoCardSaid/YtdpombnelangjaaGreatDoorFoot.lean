/-
  What lies in which blocks: rows of a structure's own blocks, and changes elsewhere. No conditions: a library text.
-/
import Derived.Test.YtdpombnelangjaaGreatDoorRowsG
namespace Go.Proofs.YtdpombnelangjaaGreatDoor
set_option maxRecDepth 100000
open Go.RowKit
set_option linter.unusedVariables false
/-- old blocks that are not in M are as they were -/
structure Mod (M : Nat → Prop) (w w' : World) : Prop where
  os : w'.os = w.os
  tape : w'.tape = w.tape
  output : w'.output = w.output
  size : w.heap.size ≤ w'.heap.size
  block : ∀ k, k < w.heap.size → ¬ M k → w'.heap[k]? = w.heap[k]?
section
variable {M M' F F' : Nat → Prop} {w w' w'' : World}
theorem Gr.mod (g : Gr w w') : Mod M w w' := ⟨g.below.os, g.below.tape, g.below.output, g.size, fun k hk _ => g.below.block k hk⟩
theorem Mod.refl (M : Nat → Prop) (w : World) : Mod M w w := ⟨rfl, rfl, rfl, Nat.le_refl _, fun _ _ _ => rfl⟩
theorem Mod.trans (h : Mod M w w') (k : Mod M w' w'') : Mod M w w'' :=
  ⟨k.os.trans h.os, k.tape.trans h.tape, k.output.trans h.output, Nat.le_trans h.size k.size, fun i hi hM => (k.block i (Nat.lt_of_lt_of_le hi h.size) hM).trans (h.block i hi hM)⟩
theorem Mod.mono (h : Mod M w w') (hM : ∀ k, k < w.heap.size → M k → M' k) : Mod M' w w' := ⟨h.os, h.tape, h.output, h.size, fun k hk h' => h.block k hk (fun x => h' (hM k hk x))⟩
theorem Mod.gr (h : Mod M w w') (hM : ∀ k, k < w.heap.size → ¬ M k) : Gr w w' := ⟨h.os, h.tape, h.output, h.size, fun k hk => h.block k hk (hM k hk)⟩
theorem Mod.grown {row : Option Nat} (h : w.grownBy w' row) (hM : ∀ k, row = some k → M k) : Mod M w w' :=
  ⟨h.os, h.tape, h.output, h.size, fun k hk h' => h.block k hk (fun e => h' (hM k e.symm))⟩
theorem Mod.setCell (p : Addr) (v : Value) (hM : M p.block) : Mod M w (w.setCell p v) :=
  ⟨rfl, rfl, rfl, by simp [World.setCell], fun k _ h' => Below.heap_setCell _ _ _ _ (fun e => h' (by rw [e]; exact hM))⟩
theorem Blk.mod {g : Nat} {t : TypeId} {cs : Array Value} (h : Blk w g t cs) (m : Mod M w w') (hg : ¬ M g) : Blk w' g t cs := (m.block g h.lt hg).trans h
theorem own_mod {B e size n : Nat} {v : Value} {xs : List Value} (h : w.ownsRow B e size v n xs) (m : Mod M w w') (hv : ∀ k, v.ownBlock = some k → ¬ M k) : w'.ownsRow B e size v n xs := by
  refine ⟨h.1, ?_⟩
  rcases h.2 with h0 | ⟨g, cap, cur, e1, hB, hb, r⟩
  · exact .inl h0
  · have hlt : g < w.heap.size := by
      rcases Nat.lt_or_ge g w.heap.size with h | h
      · exact h
      · rw [Array.getElem?_eq_none h] at hb; cases hb
    exact .inr ⟨g, cap, cur, e1, hB, (m.block g hlt (hv g (by rw [e1]; rfl))).trans hb, r⟩
/-- the row lies in F -/
def InF (F : Nat → Prop) (A : Option Addr) (n : Nat) : Prop := 0 < n → ∀ b off, A = some ⟨b, off, none⟩ → F b
theorem InF.mono {A : Option Addr} {n : Nat} (h : InF F A n) (hF : ∀ k, F k → F' k) : InF F' A n := fun hn b off e => hF _ (h hn b off e)
theorem Row.mod {size n : Nat} {A : Option Addr} {vs : List Value} (h : Row w size A n vs) (hF : InF F A n) (m : Mod M w w') (hd : ∀ k, F k → ¬ M k) : Row w' size A n vs :=
  ⟨h.len, fun hn => by
    obtain ⟨b, off, e, hc⟩ := h.at_ hn
    refine ⟨b, off, e, fun i v hv => ?_⟩
    have h1 := hc i v hv
    have hlt := World.block_lt_of_cell? w _ h1
    rw [World.cell?_of_block (a := ⟨b, off + i, none⟩) (m.block b hlt (hd b (hF hn b off e)))]
    exact h1⟩
/-- a row in blocks from B on -/
def FrN (B : Nat) (A : Option Addr) (n : Nat) : Prop := InF (fun k => B ≤ k) A n
theorem FrN.zero (B : Nat) (A : Option Addr) : FrN B A 0 := fun h => absurd h (by omega)
theorem FrN.low {B B' n : Nat} {A : Option Addr} (h : FrN B A n) (hB : B' ≤ B) : FrN B' A n := InF.mono h (fun k hk => Nat.le_trans hB hk)
theorem FrN.own {B e size n c : Nat} {A : Option Addr} {xs : List Value} (h : w.ownsRow B e size (.slice A n c) n xs) : FrN B A n := fun _ b off e => (h.lt b (by rw [e]; rfl)).1
/-- a row in blocks from B on, or where another one lies -/
def FrA (B : Nat) (A0 : Option Addr) (n0 : Nat) (A : Option Addr) (n : Nat) : Prop := 0 < n → ∀ b off, A = some ⟨b, off, none⟩ → B ≤ b ∨ (0 < n0 ∧ ∃ off0, A0 = some ⟨b, off0, none⟩)
theorem FrA.same (B : Nat) (A : Option Addr) (n : Nat) : FrA B A n A n := fun hn b off e => .inr ⟨hn, off, e⟩
theorem FrN.fa {B n0 n : Nat} {A0 A : Option Addr} (h : FrN B A n) : FrA B A0 n0 A n := fun hn b off e => .inl (h hn b off e)
theorem FrA.low {B B' n0 n : Nat} {A0 A : Option Addr} (h : FrA B A0 n0 A n) (hB : B' ≤ B) : FrA B' A0 n0 A n := fun hn b off e => (h hn b off e).imp (fun h => Nat.le_trans hB h) id
theorem own_nilF {B e size n c : Nat} {A : Option Addr} {xs : List Value} (h : w.ownsRow B e size (.slice A n c) n xs) : A = none → n = 0 ∧ c = 0 := by
  intro e
  rcases h.2 with ⟨h, h0⟩ | ⟨g, _, _, h, _⟩
  · injection h with _ h2 h3; exact ⟨h0, h3⟩
  · injection h with h2 _ _; rw [e] at h2; cases h2
theorem own_capF {B e size n c : Nat} {A : Option Addr} {xs : List Value} (h : w.ownsRow B e size (.slice A n c) n xs) : n ≤ c := by
  rcases h.2 with ⟨h, h0⟩ | ⟨g, cap', cur, h, _, _, hle, _⟩
  · omega
  · injection h with _ _ h3
    subst h3
    exact hle
/-- a disk's files lie where they lay, or in new blocks -/
def RiD (w : World) (A : Option Addr) (n c : Nat) (A' : Option Addr) (n' c' : Nat) : Prop := (A' = none → n' = 0 ∧ c' = 0) ∧ (n ≤ c → n' ≤ c') ∧ FrA w.heap.size A n A' n'
theorem RiD.same {A : Option Addr} {n c : Nat} (hA : A = none → n = 0 ∧ c = 0) : RiD w A n c A n c := ⟨hA, id, FrA.same _ _ _⟩
/-- a row of F's blocks -/
structure RowM (F : Nat → Prop) (w : World) (size : Nat) (A : Option Addr) (n c : Nat) (vs : List Value) : Prop where
  row : Row w size A n vs
  inF : InF F A n
  nil : A = none → n = 0 ∧ c = 0
  cap : n ≤ c
variable {size n c : Nat} {A : Option Addr} {vs : List Value}
theorem RowM.mod (h : RowM F w size A n c vs) (m : Mod M w w') (hd : ∀ k, F k → ¬ M k) : RowM F w' size A n c vs := ⟨h.row.mod h.inF m hd, h.inF, h.nil, h.cap⟩
theorem RowM.gr (h : RowM F w size A n c vs) (g : Gr w w') : RowM F w' size A n c vs := ⟨h.row.gr g, h.inF, h.nil, h.cap⟩
theorem RowM.mono (h : RowM F w size A n c vs) (hF : ∀ k, F k → F' k) : RowM F' w size A n c vs := ⟨h.row, h.inF.mono hF, h.nil, h.cap⟩
theorem RowM.zero (F : Nat → Prop) (w : World) (size : Nat) : RowM F w size none 0 0 [] := ⟨Row.nil _ _ _, fun h => absurd h (by omega), fun _ => ⟨rfl, rfl⟩, Nat.le_refl _⟩
/-- F and what was made since -/
def NewF (F : Nat → Prop) (w w' : World) : Nat → Prop := fun k => F k ∨ (w.heap.size ≤ k ∧ k < w'.heap.size)
theorem NewF.old {k : Nat} (h : F k) : NewF F w w' k := .inl h
theorem RowM.own {B e : Nat} (h : w'.ownsRow B e size (.slice A n c) n vs) (hB : w.heap.size ≤ B) : RowM (NewF F w w') w' size A n c vs := by
  refine ⟨Row.own h, fun hn b off eA => ?_, fun e => ?_, ?_⟩
  · have h1 := h.lt b (by rw [eA]; rfl)
    exact .inr ⟨by omega, h1.2⟩
  · rcases h.2 with ⟨h, h0⟩ | ⟨g, _, _, h, _⟩
    · injection h with _ h2 h3; exact ⟨h0, h3⟩
    · injection h with h2 _ _; rw [e] at h2; cases h2
  · rcases h.2 with ⟨h, h0⟩ | ⟨g, cap', cur, h, _, _, hle, _⟩
    · omega
    · injection h with _ _ h3
      subst h3
      exact hle
theorem RowM.same_or_own {B e : Nat} {A' : Option Addr} {n' c' : Nat} {vs' : List Value} (h : RowM F w size A n c vs) (hg : Gr w w') (h' : (A' = A ∧ n' = n ∧ c' = c ∧ vs' = vs) ∨ w'.ownsRow B e size (.slice A' n' c') n' vs') (hB : w.heap.size ≤ B) : RowM (NewF F w w') w' size A' n' c' vs' := by
  rcases h' with ⟨rfl, rfl, rfl, rfl⟩ | h'
  · exact (h.gr hg).mono fun _ => .inl
  · exact RowM.own h' hB
theorem RowM.fr {vs' : List Value} {A' : Option Addr} {n' c' : Nat} (h : RowM F w size A n c vs) (hr : Row w' size A' n' vs') (hs : 0 < size) (hf : FrA w.heap.size A n A' n') (hn : A' = none → n' = 0 ∧ c' = 0) (hc : n' ≤ c') : RowM (NewF F w w') w' size A' n' c' vs' := by
  refine ⟨hr, fun h0 b off e => ?_, hn, hc⟩
  rcases hf h0 b off e with h1 | ⟨h1, off0, h2⟩
  · obtain ⟨b', off', e', hlt⟩ := hr.lt h0 hs
    rw [e] at e'; injection e' with e'; injection e' with e1 _
    subst e1
    exact .inr ⟨h1, hlt⟩
  · exact .inl (h.inF h1 b off0 h2)
theorem RowM.frn {vs' : List Value} {A' : Option Addr} {n' c' : Nat} (hr : Row w' size A' n' vs') (hs : 0 < size) (hf : FrN w.heap.size A' n') (hn : A' = none → n' = 0 ∧ c' = 0) (hc : n' ≤ c') : RowM (NewF F w w') w' size A' n' c' vs' :=
  RowM.fr (RowM.zero F w size) hr hs hf.fa hn hc
theorem NewF.trans {k : Nat} (h : Mod M w w') (h' : NewF (NewF F w w') w' w'' k) (hs : w'.heap.size ≤ w''.heap.size) : NewF F w w'' k := by
  rcases h' with (h1 | h1) | h1
  · exact .inl h1
  · exact .inr ⟨h1.1, Nat.lt_of_lt_of_le h1.2 hs⟩
  · exact .inr ⟨Nat.le_trans h.size h1.1, h1.2⟩
end
end Go.Proofs.YtdpombnelangjaaGreatDoor

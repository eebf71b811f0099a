/-
  wire.Reader and cartularyref.cursor by their contracts: what is left and what went wrong.
-/
import Derived.Test.YtoamnifnfkgbiaaGreatDoorGetC
namespace Go.Proofs.YtoamnifnfkgbiaaGreatDoor
open Go.RowKit
/-- P2.4: a reader's state: what is left, what went wrong -/
abbrev St := List UInt8 × Nat
def nxtN (q : St) : Nat := if q.2 = 0 then gN q.1 else 0
def aftN (q : St) : St := if q.2 = 0 then (q.1.drop (gK q.1), gE q.1) else q
def nxtT (q : St) : List UInt8 := if q.2 = 0 then tS q.1 else []
def aftT (q : St) : St := if q.2 = 0 then (q.1.drop (tK q.1), tE q.1) else q
def nxtB (n : Int) (q : St) : List UInt8 := if q.2 = 0 ∧ 0 ≤ n ∧ n ≤ q.1.length then q.1.take n.toNat else []
def aftB (n : Int) (q : St) : St := if q.2 = 0 then (if 0 ≤ n ∧ n ≤ q.1.length then (q.1.drop n.toNat, 0) else (q.1, 2)) else q

/-- a reader of state q lies in block g -/
structure RdAt (T : TypeId) (w : World) (g : Nat) (q : St) : Prop where
  blk : Blk w g T #[.string (bs q.1), .int .i64 (q.2 : Int)]
  len : q.1.length ≤ 1152921504606846976
  err : q.2 ≤ 2

theorem RdAt.gr {T : TypeId} {w w' : World} {g : Nat} {q : St} (h : RdAt T w g q) (k : Gr w w') : RdAt T w' g q := ⟨h.blk.below k.below h.blk.lt, h.len, h.err⟩
theorem RdAt.other {T : TypeId} {w w' : World} {g : Nat} {q : St} {row : Option Nat} (h : RdAt T w g q) (k : w.grownBy w' row) (hne : some g ≠ row) : RdAt T w' g q := ⟨h.blk.grown k hne, h.len, h.err⟩
/-- only block g has turned, and what is new -/
theorem only_set2 (w : World) (g : Nat) (u v : Value) : w.grownBy ((w.setCell ⟨g, 0, none⟩ u).setCell ⟨g, 1, none⟩ v) (some g) :=
  ⟨rfl, rfl, rfl, by simp [World.setCell], fun k _ hne => by
    rw [Below.heap_setCell _ _ _ _ (fun e => hne (by rw [e])), Below.heap_setCell _ _ _ _ (fun e => hne (by rw [e]))]⟩
theorem only_set1 (w : World) (g j : Nat) (u : Value) : w.grownBy (w.setCell ⟨g, j, none⟩ u) (some g) :=
  ⟨rfl, rfl, rfl, by simp [World.setCell], fun k _ hne => by
    rw [Below.heap_setCell _ _ _ _ (fun e => hne (by rw [e]))]⟩
theorem only_refl (w : World) (row : Option Nat) : w.grownBy w row := ⟨rfl, rfl, rfl, Nat.le_refl _, fun _ _ _ => rfl⟩

set_option maxRecDepth 100000 in
theorem rdNumber (g : Nat) (q : St) (w : World) (h : RdAt 113 w g q) :
    Calls Tryz.prog 31 #[.pointer (some ⟨g, 0, none⟩)] w fun e w' => e = .returned (.int .i64 (nxtN q : Int)) ∧ RdAt 113 w' g (aftN q) ∧ w.grownBy w' (some g) := by
  obtain ⟨s, er⟩ := q
  have hlen := h.len
  have hc0 : w.cell? ⟨g, 0, none⟩ = some (.string (bs s)) := h.blk.cell 0
  have hc1 : w.cell? ⟨g, 1, none⟩ = some (.int .i64 (er : Int)) := h.blk.cell 1
  have hf0 := h.blk.frozen 0
  have hf1 := h.blk.frozen 1
  have hk := gK_le s
  simp only at hlen
  by_cases he : er = 0
  · subst he
    go_enter Tryz.func31, Tryz.ntmps31
    go_wp2_with (go_at_call 79; refine (wget_any _ _ hlen).mono ?_; rintro e w1 ⟨rfl, rfl⟩)
    go_ret
    refine ⟨by simp [nxtN], ⟨?_, ?_, ?_⟩, only_set2 _ _ _ _⟩
    · have := (h.blk.set_ 0 (.string (bs (s.drop (gK s))))).set_ 1 (.int .i64 (gE s : Int))
      simpa [aftN] using this
    · simp [aftN]; omega
    · simp [aftN]; have := gE_or s; omega
  · have he' : ((er : Int) == 0) = false := by simpa using he
    have he2 : ((er : Int) != 0) = true := by simpa using he
    go_enter Tryz.func31, Tryz.ntmps31
    go_wp2
    go_ret
    exact ⟨by simp [nxtN, he], by simpa [aftN, he] using h, only_refl _ _⟩
theorem only_gr {w w' : World} (h : Gr w w') (row : Option Nat) : w.grownBy w' row := ⟨h.below.os, h.below.tape, h.below.output, h.below.size, fun k hk _ => h.below.block k hk⟩
theorem only_trans {a b c : World} {g : Nat} (h : a.grownBy b (some g)) (k : b.grownBy c (some g)) : a.grownBy c (some g) :=
  ⟨k.os.trans h.os, k.tape.trans h.tape, k.output.trans h.output, Nat.le_trans h.size k.size, fun i hi hne => (k.block i (Nat.lt_of_lt_of_le hi h.size) hne).trans (h.block i hi hne)⟩
theorem gr_only {a b c : World} {g : Nat} (h : Gr a b) (k : b.grownBy c (some g)) (hg : a.heap.size ≤ g) : Gr a c := h.grown k (fun i hi => by injection hi with hi; omega)

set_option maxRecDepth 100000 in
theorem rdBytes (g : Nat) (q : St) (n : Int) (w : World) (h : RdAt 113 w g q) (_hn : -9223372036854775808 ≤ n ∧ n ≤ 9223372036854775807) :
    Calls Tryz.prog 32 #[.pointer (some ⟨g, 0, none⟩), .int .i64 n] w fun e w' => e = .returned (.string (bs (nxtB n q))) ∧ RdAt 113 w' g (aftB n q) ∧ w.grownBy w' (some g) := by
  obtain ⟨s, er⟩ := q
  have hlen := h.len
  have hc0 : w.cell? ⟨g, 0, none⟩ = some (.string (bs s)) := h.blk.cell 0
  have hc1 : w.cell? ⟨g, 1, none⟩ = some (.int .i64 (er : Int)) := h.blk.cell 1
  have hf0 := h.blk.frozen 0
  have hf1 := h.blk.frozen 1
  simp only at hlen
  by_cases he : er = 0
  · subst he
    by_cases hn : 0 ≤ n ∧ n ≤ (s.length : Int)
    · obtain ⟨hn0, hn1⟩ := hn
      go_enter Tryz.func32, Tryz.ntmps32
      go_wp2
      go_ret
      refine ⟨by simp [nxtB, hn0, hn1], ⟨?_, ?_, ?_⟩, only_set1 _ _ _ _⟩
      · have := h.blk.set_ 0 (.string (bs (s.drop n.toNat)))
        simpa [aftB, hn0, hn1] using this
      · simp [aftB, hn0, hn1]; omega
      · simp [aftB, hn0, hn1]
    · have hn' : n < 0 ∨ (s.length : Int) < n := by omega
      rcases hn' with hn' | hn'
      all_goals
        go_enter Tryz.func32, Tryz.ntmps32
        go_wp2
        go_ret
        refine ⟨by simp [nxtB, hn]; try rfl, ⟨?_, ?_, ?_⟩, only_set1 _ _ _ _⟩
        · have := h.blk.set_ 1 (.int .i64 2)
          simpa [aftB, hn] using this
        · simp [aftB, hn]; omega
        · simp [aftB, hn]
  · have he' : ((er : Int) == 0) = false := by simpa using he
    have he2 : ((er : Int) != 0) = true := by simpa using he
    go_enter Tryz.func32, Tryz.ntmps32
    go_wp2
    go_ret
    exact ⟨by simp [nxtB, he]; try rfl, by simpa [aftB, he] using h, only_refl _ _⟩

theorem rdLeft (g : Nat) (q : St) (w : World) (h : RdAt 113 w g q) :
    Calls Tryz.prog 33 #[.pointer (some ⟨g, 0, none⟩)] w fun e w' => e = .returned (.int .i64 (q.1.length : Int)) ∧ w = w' := by
  have hc0 : w.cell? ⟨g, 0, none⟩ = some (.string (bs q.1)) := h.blk.cell 0
  go_enter Tryz.func33, Tryz.ntmps33
  go_wp2
  go_ret
  exact ⟨rfl, rfl⟩

theorem rdBad (g : Nat) (q : St) (w : World) (h : RdAt 113 w g q) :
    Calls Tryz.prog 34 #[.pointer (some ⟨g, 0, none⟩)] w fun e w' => e = .returned (.int .i64 (q.2 : Int)) ∧ w = w' := by
  have hc1 : w.cell? ⟨g, 1, none⟩ = some (.int .i64 (q.2 : Int)) := h.blk.cell 1
  go_enter Tryz.func34, Tryz.ntmps34
  go_wp2
  go_ret
  exact ⟨rfl, rfl⟩

theorem rdRead (l : List UInt8) (w : World) (hl : l.length ≤ 1152921504606846976) :
    Calls Tryz.prog 30 #[.string (bs l)] w fun e w' => e = .returned (.pointer (some ⟨w.heap.size, 0, none⟩)) ∧ RdAt 113 w' w.heap.size (l, 0) ∧ Gr w w' := by
  go_enter Tryz.func30, Tryz.ntmps30
  go_wp2
  go_ret
  exact ⟨rfl, ⟨Blk.new _ _ _, hl, by simp⟩, (Gr.refl _).alloc _⟩

end Go.Proofs.YtoamnifnfkgbiaaGreatDoor

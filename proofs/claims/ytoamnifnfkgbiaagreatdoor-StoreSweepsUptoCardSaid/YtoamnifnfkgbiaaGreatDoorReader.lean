/-
  wire.Reader and cartularyref.cursor by their contracts: what is left and what went wrong.
-/
import Derived.Test.YtoamnifnfkgbiaaGreatDoorGetT
import Derived.Test.YtoamnifnfkgbiaaGreatDoorRdr
namespace Go.Proofs.YtoamnifnfkgbiaaGreatDoor
open Go.RowKit
set_option maxRecDepth 100000 in
theorem rdText (g : Nat) (q : St) (w : World) (h : RdAt 113 w g q) :
    Calls Tryz.prog 36 #[.pointer (some ⟨g, 0, none⟩)] w fun e w' => e = .returned (.string (bs (nxtT q))) ∧ RdAt 113 w' g (aftT q) ∧ w.grownBy w' (some g) := by
  obtain ⟨s, er⟩ := q
  have hlen := h.len
  have hc0 : w.cell? ⟨g, 0, none⟩ = some (.string (bs s)) := h.blk.cell 0
  have hc1 : w.cell? ⟨g, 1, none⟩ = some (.int .i64 (er : Int)) := h.blk.cell 1
  have hf0 := h.blk.frozen 0
  have hf1 := h.blk.frozen 1
  simp only at hlen
  have hk := tK_le s
  by_cases he : er = 0
  · subst he
    go_enter Tryz.func36, Tryz.ntmps36
    go_wp2_with (go_at_call 81; refine (wgett_any _ _ hlen).mono ?_; rintro e w1 ⟨rfl, rfl⟩)
    go_ret
    refine ⟨by simp [nxtT], ⟨?_, ?_, ?_⟩, only_set2 _ _ _ _⟩
    · have := (h.blk.set_ 0 (.string (bs (s.drop (tK s))))).set_ 1 (.int .i64 (tE s : Int))
      simpa [aftT] using this
    · simp [aftT]; omega
    · simp [aftT]; have := tE_or s; omega
  · have he' : ((er : Int) == 0) = false := by simpa using he
    have he2 : ((er : Int) != 0) = true := by simpa using he
    go_enter Tryz.func36, Tryz.ntmps36
    go_wp2
    go_ret
    exact ⟨by simp [nxtT, he]; rfl, by simpa [aftT, he] using h, only_refl _ _⟩

set_option maxRecDepth 100000 in
theorem cuNumber (g : Nat) (q : St) (w : World) (h : RdAt 80 w g q) :
    Calls Tryz.prog 43 #[.pointer (some ⟨g, 0, none⟩)] w fun e w' => e = .returned (.int .i64 (nxtN q : Int)) ∧ RdAt 80 w' g (aftN q) ∧ w.grownBy w' (some g) := by
  obtain ⟨s, er⟩ := q
  have hlen := h.len
  have hc0 : w.cell? ⟨g, 0, none⟩ = some (.string (bs s)) := h.blk.cell 0
  have hc1 : w.cell? ⟨g, 1, none⟩ = some (.int .i64 (er : Int)) := h.blk.cell 1
  have hf0 := h.blk.frozen 0
  have hf1 := h.blk.frozen 1
  simp only at hlen
  have hk := gK_le s
  by_cases he : er = 0
  · subst he
    go_enter Tryz.func43, Tryz.ntmps43
    go_wp2_with (go_at_call 87; refine (rget_any _ _ hlen).mono ?_; rintro e w1 ⟨rfl, g1⟩; have hb1 := h.blk.below g1.below h.blk.lt; have hd0 : w1.cell? ⟨g, 0, none⟩ = some (.string (bs s)) := hb1.cell 0; have hd1 : w1.cell? ⟨g, 1, none⟩ = some (.int .i64 ((0 : Nat) : Int)) := hb1.cell 1; have he0 := hb1.frozen 0; have he1 := hb1.frozen 1)
    go_ret
    refine ⟨by simp [nxtN], ⟨?_, ?_, ?_⟩, only_trans (only_gr g1 _) (only_set2 _ _ _ _)⟩
    · have := (hb1.set_ 0 (.string (bs (s.drop (gK s))))).set_ 1 (.int .i64 (gE s : Int))
      simpa [aftN] using this
    · simp [aftN]; omega
    · simp [aftN]; have := gE_or s; omega
  · have he' : ((er : Int) == 0) = false := by simpa using he
    have he2 : ((er : Int) != 0) = true := by simpa using he
    go_enter Tryz.func43, Tryz.ntmps43
    go_wp2
    go_ret
    exact ⟨by simp [nxtN, he], by simpa [aftN, he] using h, only_refl _ _⟩

set_option maxRecDepth 100000 in
theorem cuText (g : Nat) (q : St) (w : World) (h : RdAt 80 w g q) :
    Calls Tryz.prog 46 #[.pointer (some ⟨g, 0, none⟩)] w fun e w' => e = .returned (.string (bs (nxtT q))) ∧ RdAt 80 w' g (aftT q) ∧ w.grownBy w' (some g) := by
  obtain ⟨s, er⟩ := q
  have hlen := h.len
  have hc0 : w.cell? ⟨g, 0, none⟩ = some (.string (bs s)) := h.blk.cell 0
  have hc1 : w.cell? ⟨g, 1, none⟩ = some (.int .i64 (er : Int)) := h.blk.cell 1
  have hf0 := h.blk.frozen 0
  have hf1 := h.blk.frozen 1
  simp only at hlen
  have hk := tK_le s
  by_cases he : er = 0
  · subst he
    go_enter Tryz.func46, Tryz.ntmps46
    go_wp2_with (go_at_call 89; refine (rgett_any _ _ hlen).mono ?_; rintro e w1 ⟨rfl, g1⟩; have hb1 := h.blk.below g1.below h.blk.lt; have hd0 : w1.cell? ⟨g, 0, none⟩ = some (.string (bs s)) := hb1.cell 0; have hd1 : w1.cell? ⟨g, 1, none⟩ = some (.int .i64 ((0 : Nat) : Int)) := hb1.cell 1; have he0 := hb1.frozen 0; have he1 := hb1.frozen 1)
    go_ret
    refine ⟨by simp [nxtT], ⟨?_, ?_, ?_⟩, only_trans (only_gr g1 _) (only_set2 _ _ _ _)⟩
    · have := (hb1.set_ 0 (.string (bs (s.drop (tK s))))).set_ 1 (.int .i64 (tE s : Int))
      simpa [aftT] using this
    · simp [aftT]; omega
    · simp [aftT]; have := tE_or s; omega
  · have he' : ((er : Int) == 0) = false := by simpa using he
    have he2 : ((er : Int) != 0) = true := by simpa using he
    go_enter Tryz.func46, Tryz.ntmps46
    go_wp2
    go_ret
    exact ⟨by simp [nxtT, he]; rfl, by simpa [aftT, he] using h, only_refl _ _⟩

set_option maxRecDepth 100000 in
theorem cuTake (g : Nat) (q : St) (n : Int) (w : World) (h : RdAt 80 w g q) (_hn : -9223372036854775808 ≤ n ∧ n ≤ 9223372036854775807) :
    Calls Tryz.prog 44 #[.pointer (some ⟨g, 0, none⟩), .int .i64 n] w fun e w' => e = .returned (.string (bs (nxtB n q))) ∧ RdAt 80 w' g (aftB n q) ∧ w.grownBy w' (some g) := by
  obtain ⟨s, er⟩ := q
  have hlen := h.len
  have hc0 : w.cell? ⟨g, 0, none⟩ = some (.string (bs s)) := h.blk.cell 0
  have hc1 : w.cell? ⟨g, 1, none⟩ = some (.int .i64 (er : Int)) := h.blk.cell 1
  have hf0 := h.blk.frozen 0
  have hf1 := h.blk.frozen 1
  simp only at hlen
  by_cases he : er = 0
  · subst he
    by_cases hn : 0 ≤ n ∧ n ≤ (s.length : Int)
    · obtain ⟨hn0, hn1⟩ := hn
      go_enter Tryz.func44, Tryz.ntmps44
      go_wp2
      go_ret
      refine ⟨by simp [nxtB, hn0, hn1], ⟨?_, ?_, ?_⟩, only_set1 _ _ _ _⟩
      · have := h.blk.set_ 0 (.string (bs (s.drop n.toNat)))
        simpa [aftB, hn0, hn1] using this
      · simp [aftB, hn0, hn1]; omega
      · simp [aftB, hn0, hn1]
    · have hn' : n < 0 ∨ (s.length : Int) < n := by omega
      rcases hn' with hn' | hn'
      all_goals
        go_enter Tryz.func44, Tryz.ntmps44
        go_wp2
        go_ret
        refine ⟨by simp [nxtB, hn]; try rfl, ⟨?_, ?_, ?_⟩, only_set1 _ _ _ _⟩
        · have := h.blk.set_ 1 (.int .i64 2)
          simpa [aftB, hn] using this
        · simp [aftB, hn]; omega
        · simp [aftB, hn]
  · have he' : ((er : Int) == 0) = false := by simpa using he
    have he2 : ((er : Int) != 0) = true := by simpa using he
    go_enter Tryz.func44, Tryz.ntmps44
    go_wp2
    go_ret
    exact ⟨by simp [nxtB, he]; try rfl, by simpa [aftB, he] using h, only_refl _ _⟩

end Go.Proofs.YtoamnifnfkgbiaaGreatDoor

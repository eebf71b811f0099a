/-
  refs.Named by its contract.
-/
import Derived.Test.YtoamnifnfkgbiaaGreatDoorSplitIt
import Derived.Test.YtoamnifnfkgbiaaGreatDoorCFunc
namespace Go.Proofs.YtoamnifnfkgbiaaGreatDoor
open Go.RowKit
attribute [local go_sem] Oper.semAt_some
set_option maxRecDepth 100000
set_option linter.unusedVariables false
/-- the cases of a byte in a piece -/
theorem refc_cases (n : Nat) : (97 ≤ n ∧ n ≤ 122) ∨ (97 ≤ n ∧ ¬ n ≤ 122) ∨ (¬ 97 ≤ n ∧ 48 ≤ n ∧ n ≤ 57) ∨ (¬ 97 ≤ n ∧ 48 ≤ n ∧ ¬ n ≤ 57 ∧ n = 95) ∨ (¬ 97 ≤ n ∧ 48 ≤ n ∧ ¬ n ≤ 57 ∧ n ≠ 95) ∨ (¬ 97 ≤ n ∧ ¬ 48 ≤ n ∧ n = 45) ∨ (¬ 97 ≤ n ∧ ¬ 48 ≤ n ∧ n ≠ 45) := by omega
set_option maxHeartbeats 2000000 in
theorem notref_any : Asks 173 (fun n => !refC n) := by
  intro R w hR
  show Calls Tryz.prog 173 #[.int .i32 (R : Int)] w fun e w' => e = .returned (.bool (!refC R)) ∧ Gr w w'
  rcases refc_cases R with ⟨h1, h2⟩ | ⟨h1, h2⟩ | ⟨h1, h2, h3⟩ | ⟨h1, h2, h3, h4⟩ | ⟨h1, h2, h3, h4⟩ | ⟨h1, h2, h3⟩ | ⟨h1, h2, h3⟩
  · have HX : Sec (refC R = true) := sec (by simp [refC, h1, h2])
    have q1 : ¬ (R : Int) < 97 := by omega
    have q2 : ¬ (122 : Int) < (R : Int) := by omega
    clear h1 h2
    rw [HX.out]
    go_enter Tryz.func173, Tryz.ntmps173
    go_wp2_with fail
    go_ret
    exact ⟨rfl, Gr.refl _⟩
  · have HX : Sec (refC R = false) := sec (by simp [refC]; omega)
    have q1 : ¬ (R : Int) < 97 := by omega
    have q2 : (122 : Int) < (R : Int) := by omega
    have q3 : ¬ (R : Int) < 48 := by omega
    have q4 : (57 : Int) < (R : Int) := by omega
    have q5 : ((R : Int) == 45) = false := by rw [beq_eq_false_iff_ne]; omega
    have q6 : ((R : Int) == 95) = false := by rw [beq_eq_false_iff_ne]; omega
    have q7 : ((R : Int) != 45) = true := by rw [bne_iff_ne]; omega
    have q8 : ((R : Int) != 95) = true := by rw [bne_iff_ne]; omega
    clear h1 h2
    rw [HX.out]
    go_enter Tryz.func173, Tryz.ntmps173
    go_wp2_with fail
    go_ret
    exact ⟨rfl, Gr.refl _⟩
  · have HX : Sec (refC R = true) := sec (by simp [refC, h2, h3])
    have q1 : (R : Int) < 97 := by omega
    have q3 : ¬ (R : Int) < 48 := by omega
    have q4 : ¬ (57 : Int) < (R : Int) := by omega
    clear h1 h2 h3
    rw [HX.out]
    go_enter Tryz.func173, Tryz.ntmps173
    go_wp2_with fail
    go_ret
    exact ⟨rfl, Gr.refl _⟩
  · subst h4
    have HX : Sec (refC 95 = true) := sec (by decide)
    rw [HX.out]
    go_enter Tryz.func173, Tryz.ntmps173
    go_wp2_with fail
    go_ret
    exact ⟨rfl, Gr.refl _⟩
  · have HX : Sec (refC R = false) := sec (by simp [refC]; omega)
    have q1 : (R : Int) < 97 := by omega
    have q3 : ¬ (R : Int) < 48 := by omega
    have q4 : (57 : Int) < (R : Int) := by omega
    have q5 : ((R : Int) == 45) = false := by rw [beq_eq_false_iff_ne]; omega
    have q6 : ((R : Int) == 95) = false := by rw [beq_eq_false_iff_ne]; omega
    have q7 : ((R : Int) != 45) = true := by rw [bne_iff_ne]; omega
    have q8 : ((R : Int) != 95) = true := by rw [bne_iff_ne]; omega
    clear h1 h2 h3 h4
    rw [HX.out]
    go_enter Tryz.func173, Tryz.ntmps173
    go_wp2_with fail
    go_ret
    exact ⟨rfl, Gr.refl _⟩
  · subst h3
    have HX : Sec (refC 45 = true) := sec (by decide)
    rw [HX.out]
    go_enter Tryz.func173, Tryz.ntmps173
    go_wp2_with fail
    go_ret
    exact ⟨rfl, Gr.refl _⟩
  · have HX : Sec (refC R = false) := sec (by simp [refC]; omega)
    have q1 : (R : Int) < 97 := by omega
    have q3 : (R : Int) < 48 := by omega
    have q5 : ((R : Int) == 45) = false := by rw [beq_eq_false_iff_ne]; omega
    have q6 : ((R : Int) == 95) = false := by rw [beq_eq_false_iff_ne]; omega
    have q7 : ((R : Int) != 45) = true := by rw [bne_iff_ne]; omega
    have q8 : ((R : Int) != 95) = true := by rw [bne_iff_ne]; omega
    clear h1 h2 h3
    rw [HX.out]
    go_enter Tryz.func173, Tryz.ntmps173
    go_wp2_with fail
    go_ret
    exact ⟨rfl, Gr.refl _⟩

set_option maxHeartbeats 1000000 in
theorem splitSeq_any (s : List UInt8) (w : World) : Calls Tryz.prog 202 #[.string (bs s), .string (bs [47]), .int .i64 0] w fun e w' =>
    e = .returned (.func (.func 211) #[] #[.pointer (some ⟨w.heap.size + 1, 0, none⟩), .pointer (some ⟨w.heap.size, 0, none⟩), .pointer (some ⟨w.heap.size + 1 + 1, 0, none⟩)]) ∧
    w' = ((w.alloc (.cells #[.string (bs s)] 9)).alloc (.cells #[.string (bs [47])] 9)).alloc (.cells #[.int .i64 0] 3) := by
  go_enter Tryz.func202, Tryz.ntmps202
  go_wp2_with fail
  go_ret
  exact ⟨rfl, rfl⟩
set_option maxHeartbeats 1000000 in
theorem splitSeqF_any (s : List UInt8) (w : World) : Calls Tryz.prog 172 #[.string (bs s), .string (bs [47])] w fun e w' =>
    e = .returned (.func (.func 211) #[] #[.pointer (some ⟨w.heap.size + 1, 0, none⟩), .pointer (some ⟨w.heap.size, 0, none⟩), .pointer (some ⟨w.heap.size + 1 + 1, 0, none⟩)]) ∧
    w' = ((w.alloc (.cells #[.string (bs s)] 9)).alloc (.cells #[.string (bs [47])] 9)).alloc (.cells #[.int .i64 0] 3) := by
  have H := sec (splitSeq_any s)
  go_enter Tryz.func172, Tryz.ntmps172
  go_wp2_with (go_at_call 202; refine Calls.mono (H.out _) ?_; rintro e w1 ⟨rfl, rfl⟩)
  go_ret
  exact ⟨rfl, rfl⟩

theorem gr_then_set {W W1 : World} (g : Gr W W1) (b : Nat) (u : Value) : W.grownBy (W1.setCell ⟨b, 0, none⟩ u) (some b) := by
  have k := grown_setCell W1 ⟨b, 0, none⟩ u
  exact ⟨k.os.trans g.below.os, k.tape.trans g.below.tape, k.output.trans g.below.output, Nat.le_trans g.below.size k.size, fun i hi hne => (k.block i (Nat.lt_of_lt_of_le hi g.below.size) hne).trans (g.below.block i hi)⟩
set_option maxHeartbeats 4000000 in
theorem refNamed_any (s : List UInt8) (w : World) (hs : s.length ≤ 1099511627776) :
    Calls Tryz.prog 123 #[.string (bs s)] w fun e w' => e = .returned (.bool (refB s)) ∧ Gr w w' := by
  have HC := sec (fun (x : List UInt8) (hx : x.length ≤ 1099511627776) w => containsFunc_any 173 _ notref_any (fun R h => by simp [refC]; omega) (enters_fn Tryz.func173 (by kernel_rfl) rfl) x w (by omega))
  have HS := sec (splitSeqF_any s)
  refine (callsIn_wide (n := 3)).1 ?_
  refine callsIn_of_wp_marks Tryz.func123 rfl trivial ?_ rfl
  simp only [Tryz.ntmps123, List.size_toArray, List.length_cons, List.length_nil, Nat.reduceAdd, Nat.reduceSub, Array.replicate_succ, Array.replicate_zero, List.push_toArray, List.append_toArray, List.nil_append, List.cons_append]
  by_cases h60 : s.length ≤ 60
  · have q60 : ¬ (60 : Int) < (s.length : Int) := by omega
    gi_wp2_with (refine ⟨trivial, ?_⟩; refine CallsIn.mono (callsIn_wide.2 (HS.out _)) ?_; rintro e w1 ⟨rfl, rfl⟩)
    obtain ⟨wl, hwl⟩ : ∃ x, x = (((w.alloc (.cells #[.bool false] 4)).alloc (.cells #[.string (bs s)] 9)).alloc (.cells #[.string (bs [47])] 9)).alloc (.cells #[.int .i64 0] 3) := ⟨_, rfl⟩
    have b0 : Blk wl w.heap.size 4 #[.bool false] := by rw [hwl]; exact (((Blk.new w _ _).alloc _).alloc _).alloc _
    have b1 : Blk wl (w.heap.size + 1) 9 #[.string (bs s)] := by rw [hwl]; exact ((Blk.new1 w _ _ _).alloc _).alloc _
    have b2 : Blk wl (w.heap.size + 1 + 1) 9 #[.string (bs [47])] := by
      rw [hwl]
      have := Blk.new ((w.alloc (.cells #[.bool false] 4)).alloc (.cells #[.string (bs s)] 9)) 9 #[.string (bs [47])]
      rw [World.size_alloc, World.size_alloc] at this
      exact this.alloc _
    have b3 : Blk wl (w.heap.size + 1 + 1 + 1) 3 #[.int .i64 0] := by
      rw [hwl]
      have := Blk.new (((w.alloc (.cells #[.bool false] 4)).alloc (.cells #[.string (bs s)] 9)).alloc (.cells #[.string (bs [47])] 9)) 3 #[.int .i64 0]
      rwa [World.size_alloc, World.size_alloc, World.size_alloc] at this
    have g0 : Gr w wl := by rw [hwl]; exact ((((Gr.refl w).alloc _).alloc _).alloc _).alloc _
    rw [← hwl]
    clear hwl
    have hwz : w.heap.size < wl.heap.size := b0.lt
    refine wpIn_rangeSplit (n := 3) (Bs := w.heap.size + 1) (Bp := w.heap.size + 1 + 1) (Bv := w.heap.size + 1 + 1 + 1) rfl rfl s b1 b2 b3 (by omega) (by omega) hs
      (fun z W => rnGo 0 (s ++ [47]) = rnGo 0 z ∧ Blk W w.heap.size 4 #[.bool false] ∧ Gr w W)
      (fun W => rnGo 0 (s ++ [47]) = false ∧ Blk W w.heap.size 4 #[.bool false] ∧ Gr w W)
      (fun z W W' r h hg hr => ⟨h.1, h.2.1.grown hg (fun e => by have := hr _ e.symm; omega), h.2.2.grown hg (fun k e => by have := hr _ e; omega)⟩)
      (fun W W' r h hg hr => ⟨h.1, h.2.1.grown hg (fun e => by have := hr _ e.symm; omega), h.2.2.grown hg (fun k e => by have := hr _ e; omega)⟩)
      ⟨rfl, b0, g0⟩
      (fun x => { tmps := #[.string (bs s), undef, .pointer (some ⟨w.heap.size, 0, none⟩), .string (bs x), undef, .string (bs s), .int .i64 (s.length : Int), .bool false, .string (bs s), .func (.func 211) #[] #[.pointer (some ⟨w.heap.size + 1 + 1, 0, none⟩), .pointer (some ⟨w.heap.size + 1, 0, none⟩), .pointer (some ⟨w.heap.size + 1 + 1 + 1, 0, none⟩)], .string (bs x), undef, undef, undef, undef, undef, undef, undef], defers := [] }) ?assign ?body ?done ?stop
    case assign =>
      intro l x W K hK
      gi_wp2
      exact hK
    case body =>
      rintro l x t W ⟨hz, hb, hg⟩ hx hxl
      have hh := rn_here (t := t) hx
      rw [← hz] at hh
      have HCx := sec (HC.out x hxl)
      have HH := sec hh
      have HB := sec hb
      have HX0 : Sec (x.any (fun c => !refC c.toNat) = false → x ≠ [] → rnGo 0 (s ++ [47]) = rnGo 0 t) := sec (fun h1 h2 => by
        rw [HH.out]
        have h3 : x.all (fun c => refC c.toNat) = true := by rw [any_notref] at h1; simpa using h1
        rw [h3]
        cases x with
        | nil => exact absurd rfl h2
        | cons c r => rfl)
      have HX1 : Sec (x.any (fun c => !refC c.toNat) = true → rnGo 0 (s ++ [47]) = false) := sec (fun h1 => by
        rw [HH.out, rn_bad h1]; simp)
      have HX2 : Sec (x = [] → rnGo 0 (s ++ [47]) = false) := sec (fun h1 => by rw [HH.out, h1]; rfl)
      have c0 : W.cell? ⟨w.heap.size, 0, none⟩ = some (.bool false) := hb.cell 0
      have f0 : W.frozen? ⟨w.heap.size, 0, none⟩ = false := hb.frozen 0
      clear hh hz hx b0 b1 b2 b3 hb HS HC
      obtain ⟨b, hbx⟩ : ∃ b, b = x.any (fun c => !refC c.toNat) := ⟨_, rfl⟩
      rw [← hbx] at HCx HX0 HX1
      by_cases hx0 : x = []
      · have HF := sec (HX2.out hx0)
        subst hx0
        clear HX0 HX1 HX2 hbx
        gi_wp2
        refine ⟨trivial, ?_⟩
        gi_wp2
        exact ⟨w.heap.size, hwz, grown_setCell _ _ _, HF.out, HB.out.set_ 0 _, hg.setCell (p := ⟨w.heap.size, 0, none⟩) (Nat.le_refl _) _⟩
      · have hne : (x == []) = false := by rw [beq_eq_false_iff_ne]; exact hx0
        have HNE := sec hx0
        clear hbx hx0
        cases b
        · have HF := sec (HX0.out rfl HNE.out)
          clear HX0 HX1 HX2
          gi_wp2_with (refine ⟨trivial, ?_⟩; refine CallsIn.mono (CallsIn.inRound l (callsIn_wide.2 (HCx.out _))) ?_; rintro e w1 ⟨rfl, g1⟩)
          exact ⟨g1, HF.out, HB.out.gr g1, hg.trans g1⟩
        · have HF := sec (HX1.out rfl)
          clear HX0 HX1 HX2
          gi_wp2_with (refine ⟨trivial, ?_⟩; refine CallsIn.mono (CallsIn.inRound l (callsIn_wide.2 (HCx.out _))) ?_; rintro e w1 ⟨rfl, g1⟩; have c1 : w1.cell? ⟨w.heap.size, 0, none⟩ = some (.bool false) := (HB.out.gr g1).cell 0; have f1 : w1.frozen? ⟨w.heap.size, 0, none⟩ = false := (HB.out.gr g1).frozen 0)
          exact ⟨w.heap.size, hwz, gr_then_set g1 _ _, HF.out, (HB.out.gr g1).set_ 0 _, (hg.trans g1).setCell (p := ⟨w.heap.size, 0, none⟩) (Nat.le_refl _) _⟩
    case done =>
      rintro D W hD ⟨hz, hb, hg⟩ hK
      have c0 : W.cell? ⟨w.heap.size, 0, none⟩ = some (.bool false) := hb.cell 0
      have f0 : W.frozen? ⟨w.heap.size, 0, none⟩ = false := hb.frozen 0
      have HF : Sec (refB s = true) := sec (by unfold refB; rw [hz, decide_eq_true h60]; rfl)
      have HB := sec hb
      clear hz hb HC HS b0 b1 b2 b3
      gi_wp2
      have hDl := (Array.getElem?_eq_some_iff.1 hK).1
      have hK' : (W.setCell ⟨w.heap.size, 0, none⟩ (.bool true)).heap[D]? = some (.deferred (some [])) := (Below.heap_setCell W ⟨w.heap.size, 0, none⟩ (.bool true) D (by show D ≠ w.heap.size; omega)).trans hK
      have hBx := (HB.out.set_ 0 (.bool true)).grown (grownBy_putObj' _ D (.deferred none)) (fun e => by injection e with e; omega)
      have hc5 : World.cell? ((W.setCell ⟨w.heap.size, 0, none⟩ (.bool true)).putObj D (.deferred none)) ⟨w.heap.size, 0, none⟩ = some (.bool true) := hBx.cell 0
      have hG := (hg.setCell (p := ⟨w.heap.size, 0, none⟩) (Nat.le_refl _) (.bool true)).grown (grownBy_putObj' _ D (.deferred none)) (fun k e => by cases e; omega)
      refine ⟨by simp, .inl ⟨_, _, rfl, run_takeDeferred hK', ?_⟩⟩
      refine ⟨.bool true, ?_, by rw [HF.out], hG⟩
      simp [results, Tryz.f123, go_sem, hc5]
    case stop =>
      rintro D W hD ⟨hz, hb, hg⟩ hK
      have HF : Sec (refB s = false) := sec (by unfold refB; rw [hz]; rfl)
      gi_wp2
      have hBx := hb.grown (grownBy_putObj' W D (.deferred none)) (fun e => by injection e with e; omega)
      have hc5 : World.cell? (W.putObj D (.deferred none)) ⟨w.heap.size, 0, none⟩ = some (.bool false) := hBx.cell 0
      have hG := hg.grown (grownBy_putObj' W D (.deferred none)) (fun k e => by cases e; omega)
      refine ⟨by simp, .inl ⟨_, _, rfl, run_takeDeferred hK, ?_⟩⟩
      refine ⟨.bool false, ?_, by rw [HF.out], hG⟩
      simp [results, Tryz.f123, go_sem, hc5]
  · have q60 : (60 : Int) < (s.length : Int) := by omega
    have HF : Sec (refB s = false) := sec (by unfold refB; rw [decide_eq_false h60]; simp)
    have hB := Blk.new w 4 #[.bool false]
    have hc5 : (w.alloc (.cells #[.bool false] 4)).cell? ⟨w.heap.size, 0, none⟩ = some (.bool false) := hB.cell 0
    gi_wp2_with fail
    refine ⟨.bool false, ?_, by rw [HF.out], (Gr.refl w).alloc _⟩
    simp [results, Tryz.f123, go_sem, hc5]
end Go.Proofs.YtoamnifnfkgbiaaGreatDoor

/-
  disk.Named, cartularyref.fileName by their contracts.
-/
import Derived.Test.YtdpombnelangjaaGreatDoorCFunc
import Derived.Test.YtdpombnelangjaaGreatDoorBRow
namespace Go.Proofs.YtdpombnelangjaaGreatDoor
open Go.RowKit
set_option linter.unusedVariables false
theorem enters_own {f : FuncId} {fn : Func} {c : Code} (hf : Tryz.prog.funcs[f]? = some fn) (hname : (fn.name == "runtime.NumGoroutine") = false) (hb : fn.body = some c) : ∀ args w, (callFunc f args).run Tryz.prog w = .ok (.enter f args) w := by
  intro args w
  have h1 : fn.name ≠ "runtime.NumGoroutine" := by simpa using hname
  simp [callFunc, hf, h1, hb, mark]
/-- may a byte stand in a file's name (P6.1) -/
def nameC (n : Nat) : Bool := (decide (97 ≤ n) && decide (n ≤ 122)) || (decide (48 ≤ n) && decide (n ≤ 57)) || (n == 46) || (n == 45)
def namedB (s : List UInt8) : Bool := decide (s.length ≠ 0 ∧ s.length ≤ 80) && s.all fun c => nameC c.toNat
theorem any_bad (s : List UInt8) : (s.any fun c => !nameC c.toNat) = !(s.all fun c => nameC c.toNat) := by
  induction s with
  | nil => rfl
  | cons c r ih => simp [ih]

set_option maxRecDepth 100000 in
set_option maxHeartbeats 2000000 in
theorem bad_any : Asks 193 (fun n => !nameC n) := by
  intro R w hR
  show Calls Tryz.prog 193 #[.int .i32 (R : Int)] w fun e w' => e = .returned (.bool (!nameC R)) ∧ Gr w w'
  by_cases h1 : 97 ≤ R
  · by_cases h2 : R ≤ 122
    · have HX : Sec (nameC R = true) := sec (by simp [nameC, h1, h2])
      have q1 : ¬ (R : Int) < 97 := by omega
      have q2 : ¬ (122 : Int) < (R : Int) := by omega
      rw [HX.out]
      go_enter Tryz.func193, Tryz.ntmps193
      go_wp2_with fail
      go_ret
      exact ⟨rfl, Gr.refl _⟩
    · have HX : Sec (nameC R = false) := sec (by simp [nameC]; omega)
      have q1 : ¬ (R : Int) < 97 := by omega
      have q2 : (122 : Int) < (R : Int) := by omega
      have q3 : ¬ (R : Int) < 48 := by omega
      have q4 : (57 : Int) < (R : Int) := by omega
      have q5 : ((R : Int) == 46) = false := by rw [beq_eq_false_iff_ne]; omega
      have q6 : ((R : Int) == 45) = false := by rw [beq_eq_false_iff_ne]; omega
      have q7 : ((R : Int) != 46) = true := by rw [bne_iff_ne]; omega
      have q8 : ((R : Int) != 45) = true := by rw [bne_iff_ne]; omega
      rw [HX.out]
      go_enter Tryz.func193, Tryz.ntmps193
      go_wp2_with fail
      go_ret
      exact ⟨rfl, Gr.refl _⟩
  · have q1 : (R : Int) < 97 := by omega
    by_cases h3 : 48 ≤ R
    · have q3 : ¬ (R : Int) < 48 := by omega
      by_cases h4 : R ≤ 57
      · have HX : Sec (nameC R = true) := sec (by simp [nameC, h3, h4])
        have q4 : ¬ (57 : Int) < (R : Int) := by omega
        rw [HX.out]
        go_enter Tryz.func193, Tryz.ntmps193
        go_wp2_with fail
        go_ret
        exact ⟨rfl, Gr.refl _⟩
      · have HX : Sec (nameC R = false) := sec (by simp [nameC]; omega)
        have q4 : (57 : Int) < (R : Int) := by omega
        have q7 : ((R : Int) != 46) = true := by rw [bne_iff_ne]; omega
        have q8 : ((R : Int) != 45) = true := by rw [bne_iff_ne]; omega
        have q5 : ((R : Int) == 46) = false := by rw [beq_eq_false_iff_ne]; omega
        have q6 : ((R : Int) == 45) = false := by rw [beq_eq_false_iff_ne]; omega
        rw [HX.out]
        go_enter Tryz.func193, Tryz.ntmps193
        go_wp2_with fail
        go_ret
        exact ⟨rfl, Gr.refl _⟩
    · have q3 : (R : Int) < 48 := by omega
      by_cases h5 : R = 46
      · subst h5
        have HX : Sec (nameC 46 = true) := sec (by decide)
        rw [HX.out]
        go_enter Tryz.func193, Tryz.ntmps193
        go_wp2_with fail
        go_ret
        exact ⟨rfl, Gr.refl _⟩
      · have q7 : ((R : Int) != 46) = true := by rw [bne_iff_ne]; omega
        have q5 : ((R : Int) == 46) = false := by rw [beq_eq_false_iff_ne]; omega
        by_cases h6 : R = 45
        · subst h6
          have HX : Sec (nameC 45 = true) := sec (by decide)
          rw [HX.out]
          go_enter Tryz.func193, Tryz.ntmps193
          go_wp2_with fail
          go_ret
          exact ⟨rfl, Gr.refl _⟩
        · have q8 : ((R : Int) != 45) = true := by rw [bne_iff_ne]; omega
          have q6 : ((R : Int) == 45) = false := by rw [beq_eq_false_iff_ne]; omega
          have HX : Sec (nameC R = false) := sec (by simp [nameC, h5, h6]; omega)
          clear h5 h6
          rw [HX.out]
          go_enter Tryz.func193, Tryz.ntmps193
          go_wp2_with fail
          go_ret
          exact ⟨rfl, Gr.refl _⟩

set_option maxRecDepth 100000 in
set_option maxHeartbeats 2000000 in
theorem named_any (s : List UInt8) (w : World) (hs : s.length ≤ 4611686018427387904) :
    Calls Tryz.prog 156 #[.string (bs s)] w fun e w' => e = .returned (.bool (namedB s)) ∧ Gr w w' := by
  have HC := sec (fun w => containsFunc_any 193 _ bad_any (fun R h => by simp [nameC]; omega) (enters_own Tryz.func193 (by kernel_rfl) rfl) s w hs)
  simp only [any_bad] at HC
  cases s with
  | nil =>
    go_enter Tryz.func156, Tryz.ntmps156
    go_wp2_with fail
    go_ret
    exact ⟨rfl, Gr.refl _⟩
  | cons c r =>
    by_cases h8 : (c :: r).length ≤ 80
    · have HB : Sec (namedB (c :: r) = (c :: r).all fun c => nameC c.toNat) := sec (by
        unfold namedB
        rw [decide_eq_true (by exact ⟨by simp, h8⟩), Bool.true_and])
      rw [HB.out]
      have q1 : ((c :: r).length : Int) ≤ 80 := by omega
      obtain ⟨l, hl⟩ : ∃ l, l = c :: r := ⟨_, rfl⟩
      rw [← hl] at HC HB q1 h8
      rw [← hl]
      have q2 : (l == []) = false := by rw [hl]; rfl
      obtain ⟨B, hB⟩ : ∃ B, B = l.all fun c => nameC c.toNat := ⟨_, rfl⟩
      rw [← hB] at HC
      rw [← hB]
      clear hl hB HB
      go_enter Tryz.func156, Tryz.ntmps156
      go_wp2_with (go_at_call 123; refine Calls.mono (HC.out _) ?_; rintro e w1 ⟨rfl, g1⟩)
      go_ret
      exact ⟨rfl, g1⟩
    · have HB : Sec (namedB (c :: r) = false) := sec (by
        unfold namedB
        rw [decide_eq_false (fun h => h8 h.2), Bool.false_and])
      rw [HB.out]
      have q1 : ¬ ((c :: r).length : Int) ≤ 80 := by omega
      obtain ⟨l, hl⟩ : ∃ l, l = c :: r := ⟨_, rfl⟩
      rw [← hl] at q1 h8
      rw [← hl]
      have q2 : (l == []) = false := by rw [hl]; rfl
      clear hl HB HC
      go_enter Tryz.func156, Tryz.ntmps156
      go_wp2_with fail
      go_ret
      exact ⟨rfl, Gr.refl _⟩

end Go.Proofs.YtdpombnelangjaaGreatDoor

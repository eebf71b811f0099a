/-
  disk.Named, cartularyref.fileName by their contracts.
-/
import Derived.Test.YtoamnifnfkgbiaaGreatDoorCFunc
import Derived.Test.YtoamnifnfkgbiaaGreatDoorBRow
namespace Go.Proofs.YtoamnifnfkgbiaaGreatDoor
open Go.RowKit
set_option linter.unusedVariables false
theorem enters_own {f : FuncId} {fn : Func} {c : Code} (hf : Tryz.prog.funcs[f]? = some fn) (hname : (fn.name == "runtime.NumGoroutine") = false) (hb : fn.body = some c) : ∀ args w, (callFunc f args).run Tryz.prog w = .ok (.enter f args) w := by
  intro args w
  have h1 : fn.name ≠ "runtime.NumGoroutine" := by simpa using hname
  simp [callFunc, hf, h1, hb, mark]
/-- may a byte stand in a file's name (P6.1) -/
def nameC (n : Nat) : Bool := (decide (97 ≤ n) && decide (n ≤ 122)) || (decide (48 ≤ n) && decide (n ≤ 57)) || (n == 46) || (n == 45)
def namedB (s : List UInt8) : Bool := decide (s.length ≠ 0 ∧ s.length ≤ 80) && s.all fun c => nameC c.toNat
theorem any_bad (s : List UInt8) : (s.any fun c => !nameC c.toNat) = !(s.all fun c => nameC c.toNat) := by
  induction s with
  | nil => rfl
  | cons c r ih => simp [ih]

set_option maxRecDepth 100000 in
set_option maxHeartbeats 2000000 in
theorem bad_any : Asks 168 (fun n => !nameC n) := by
  intro R w hR
  show Calls Tryz.prog 168 #[.int .i32 (R : Int)] w fun e w' => e = .returned (.bool (!nameC R)) ∧ Gr w w'
  by_cases h1 : 97 ≤ R
  · by_cases h2 : R ≤ 122
    · have HX : Sec (nameC R = true) := sec (by simp [nameC, h1, h2])
      have q1 : ¬ (R : Int) < 97 := by omega
      have q2 : ¬ (122 : Int) < (R : Int) := by omega
      rw [HX.out]
      go_enter Tryz.func168, Tryz.ntmps168
      go_wp2_with fail
      go_ret
      exact ⟨rfl, Gr.refl _⟩
    · have HX : Sec (nameC R = false) := sec (by simp [nameC]; omega)
      have q1 : ¬ (R : Int) < 97 := by omega
      have q2 : (122 : Int) < (R : Int) := by omega
      have q3 : ¬ (R : Int) < 48 := by omega
      have q4 : (57 : Int) < (R : Int) := by omega
      have q5 : ((R : Int) == 46) = false := by rw [beq_eq_false_iff_ne]; omega
      have q6 : ((R : Int) == 45) = false := by rw [beq_eq_false_iff_ne]; omega
      have q7 : ((R : Int) != 46) = true := by rw [bne_iff_ne]; omega
      have q8 : ((R : Int) != 45) = true := by rw [bne_iff_ne]; omega
      rw [HX.out]
      go_enter Tryz.func168, Tryz.ntmps168
      go_wp2_with fail
      go_ret
      exact ⟨rfl, Gr.refl _⟩
  · have q1 : (R : Int) < 97 := by omega
    by_cases h3 : 48 ≤ R
    · have q3 : ¬ (R : Int) < 48 := by omega
      by_cases h4 : R ≤ 57
      · have HX : Sec (nameC R = true) := sec (by simp [nameC, h3, h4])
        have q4 : ¬ (57 : Int) < (R : Int) := by omega
        rw [HX.out]
        go_enter Tryz.func168, Tryz.ntmps168
        go_wp2_with fail
        go_ret
        exact ⟨rfl, Gr.refl _⟩
      · have HX : Sec (nameC R = false) := sec (by simp [nameC]; omega)
        have q4 : (57 : Int) < (R : Int) := by omega
        have q7 : ((R : Int) != 46) = true := by rw [bne_iff_ne]; omega
        have q8 : ((R : Int) != 45) = true := by rw [bne_iff_ne]; omega
        have q5 : ((R : Int) == 46) = false := by rw [beq_eq_false_iff_ne]; omega
        have q6 : ((R : Int) == 45) = false := by rw [beq_eq_false_iff_ne]; omega
        rw [HX.out]
        go_enter Tryz.func168, Tryz.ntmps168
        go_wp2_with fail
        go_ret
        exact ⟨rfl, Gr.refl _⟩
    · have q3 : (R : Int) < 48 := by omega
      by_cases h5 : R = 46
      · subst h5
        have HX : Sec (nameC 46 = true) := sec (by decide)
        rw [HX.out]
        go_enter Tryz.func168, Tryz.ntmps168
        go_wp2_with fail
        go_ret
        exact ⟨rfl, Gr.refl _⟩
      · have q7 : ((R : Int) != 46) = true := by rw [bne_iff_ne]; omega
        have q5 : ((R : Int) == 46) = false := by rw [beq_eq_false_iff_ne]; omega
        by_cases h6 : R = 45
        · subst h6
          have HX : Sec (nameC 45 = true) := sec (by decide)
          rw [HX.out]
          go_enter Tryz.func168, Tryz.ntmps168
          go_wp2_with fail
          go_ret
          exact ⟨rfl, Gr.refl _⟩
        · have q8 : ((R : Int) != 45) = true := by rw [bne_iff_ne]; omega
          have q6 : ((R : Int) == 45) = false := by rw [beq_eq_false_iff_ne]; omega
          have HX : Sec (nameC R = false) := sec (by simp [nameC, h5, h6]; omega)
          clear h5 h6
          rw [HX.out]
          go_enter Tryz.func168, Tryz.ntmps168
          go_wp2_with fail
          go_ret
          exact ⟨rfl, Gr.refl _⟩

set_option maxRecDepth 100000 in
set_option maxHeartbeats 2000000 in
theorem named_any (s : List UInt8) (w : World) (hs : s.length ≤ 4611686018427387904) :
    Calls Tryz.prog 116 #[.string (bs s)] w fun e w' => e = .returned (.bool (namedB s)) ∧ Gr w w' := by
  have HC := sec (fun w => containsFunc_any 168 _ bad_any (fun R h => by simp [nameC]; omega) (enters_own Tryz.func168 (by kernel_rfl) rfl) s w hs)
  simp only [any_bad] at HC
  cases s with
  | nil =>
    go_enter Tryz.func116, Tryz.ntmps116
    go_wp2_with fail
    go_ret
    exact ⟨rfl, Gr.refl _⟩
  | cons c r =>
    by_cases h8 : (c :: r).length ≤ 80
    · have HB : Sec (namedB (c :: r) = (c :: r).all fun c => nameC c.toNat) := sec (by
        unfold namedB
        rw [decide_eq_true (by exact ⟨by simp, h8⟩), Bool.true_and])
      rw [HB.out]
      have q1 : ((c :: r).length : Int) ≤ 80 := by omega
      obtain ⟨l, hl⟩ : ∃ l, l = c :: r := ⟨_, rfl⟩
      rw [← hl] at HC HB q1 h8
      rw [← hl]
      have q2 : (l == []) = false := by rw [hl]; rfl
      obtain ⟨B, hB⟩ : ∃ B, B = l.all fun c => nameC c.toNat := ⟨_, rfl⟩
      rw [← hB] at HC
      rw [← hB]
      clear hl hB HB
      go_enter Tryz.func116, Tryz.ntmps116
      go_wp2_with (go_at_call 169; refine Calls.mono (HC.out _) ?_; rintro e w1 ⟨rfl, g1⟩)
      go_ret
      exact ⟨rfl, g1⟩
    · have HB : Sec (namedB (c :: r) = false) := sec (by
        unfold namedB
        rw [decide_eq_false (fun h => h8 h.2), Bool.false_and])
      rw [HB.out]
      have q1 : ¬ ((c :: r).length : Int) ≤ 80 := by omega
      obtain ⟨l, hl⟩ : ∃ l, l = c :: r := ⟨_, rfl⟩
      rw [← hl] at q1 h8
      rw [← hl]
      have q2 : (l == []) = false := by rw [hl]; rfl
      clear hl HB HC
      go_enter Tryz.func116, Tryz.ntmps116
      go_wp2_with fail
      go_ret
      exact ⟨rfl, Gr.refl _⟩

set_option maxRecDepth 100000 in
set_option maxHeartbeats 4000000 in
theorem fileName_any (s : List UInt8) (w : World) (hs : s.length ≤ 4611686018427387904) :
    Calls Tryz.prog 114 #[.string (bs s)] w fun e w' => e = .returned (.bool (namedB s)) ∧ Gr w w' := by
  obtain ⟨w2, cap, hcv, hg2, hB⟩ := conv_brow Tryz.underlying9 Tryz.underlying140 Tryz.underlying5 w s (by unfold maxLen; omega)
  go_enter Tryz.func114, Tryz.ntmps114
  go_wp2_with fail
  go_loopw [8, 4] (fun iv _ wr => ∃ i : Nat, iv = .int .i64 (i : Int) ∧ i ≤ s.length ∧ Sec ((s.take i).all (fun c => nameC c.toNat) = true) ∧ wr = w2)
    (fun iv _ _ => s.length - (intOf iv).toNat)
  case atStart => exact ⟨0, rfl, by omega, sec rfl, rfl⟩
  case round =>
    clear hcv
    obtain ⟨i, rfl, hi, HA, rfl⟩ := hrel
    by_cases hlt : i < s.length
    · have hli : (i : Int) < (s.length : Int) := by omega
      have hcl := hB.at_ i (byteV s[i]) (by rw [List.getElem?_map, List.getElem?_eq_getElem hlt]; rfl)
      obtain ⟨c, hc⟩ : ∃ c, c = s[i] := ⟨_, rfl⟩
      rw [← hc] at hcl
      unfold byteV at hcl
      have HALL : Sec ((s.take (i + 1)).all (fun c => nameC c.toNat) = nameC c.toNat) := sec (by
        rw [List.take_succ_eq_append_getElem hlt, List.all_append, HA.out, ← hc]; simp)
      have HNO : Sec (nameC c.toNat = false → namedB s = false) := sec (fun h => by
        unfold namedB
        rw [Bool.and_eq_false_iff]
        right
        rw [← List.take_append_drop (i + 1) s, List.all_append, HALL.out, h]; rfl)
      clear hc
      obtain ⟨n, hn⟩ : ∃ n, n = c.toNat := ⟨_, rfl⟩
      rw [← hn] at hcl HALL HNO
      clear hn
      have HLT := sec hlt
      clear hlt
      by_cases g1 : 97 ≤ n ∧ n ≤ 122
      · obtain ⟨p1, p2⟩ := g1
        have q1 : (97 : Int) ≤ (n : Int) := by omega
        have q2 : (n : Int) ≤ 122 := by omega
        have HX : Sec (nameC n = true) := sec (by simp [nameC, p1, p2])
        rw [HX.out] at HALL
        go_wp2_with fail
        go_roundw
        case rel => exact ⟨i + 1, by go_num, HLT.out, HALL, by trivial⟩
        case measure => simp [intOf]; have := HLT.out; omega
      · by_cases g2 : 48 ≤ n ∧ n ≤ 57
        · obtain ⟨p1, p2⟩ := g2
          have q1 : ¬ (97 : Int) ≤ (n : Int) := by omega
          have q2 : (48 : Int) ≤ (n : Int) := by omega
          have q3 : (n : Int) ≤ 57 := by omega
          have HX : Sec (nameC n = true) := sec (by simp [nameC, p1, p2])
          rw [HX.out] at HALL
          clear g1
          go_wp2_with fail
          go_roundw
          case rel => exact ⟨i + 1, by go_num, HLT.out, HALL, by trivial⟩
          case measure => simp [intOf]; have := HLT.out; omega
        · by_cases p1 : 97 ≤ n
          · have q1 : (97 : Int) ≤ (n : Int) := by omega
            have q2 : ¬ (n : Int) ≤ 122 := by omega
            have q3 : (48 : Int) ≤ (n : Int) := by omega
            have q4 : ¬ (n : Int) ≤ 57 := by omega
            have HX : Sec (nameC n = false) := sec (by simp [nameC]; omega)
            have t1 : ((n : Int) == 46) = false := by rw [beq_eq_false_iff_ne]; omega
            have t2 : ((n : Int) == 45) = false := by rw [beq_eq_false_iff_ne]; omega
            have HF := sec (HNO.out HX.out)
            clear g1 g2
            go_wp2_with fail
            go_ret
            exact ⟨by rw [HF.out]; rfl, hg2⟩
          · have q1 : ¬ (97 : Int) ≤ (n : Int) := by omega
            by_cases p2 : 48 ≤ n
            · have q3 : (48 : Int) ≤ (n : Int) := by omega
              have q4 : ¬ (n : Int) ≤ 57 := by omega
              have HX : Sec (nameC n = false) := sec (by simp [nameC]; omega)
              have t1 : ((n : Int) == 46) = false := by rw [beq_eq_false_iff_ne]; omega
              have t2 : ((n : Int) == 45) = false := by rw [beq_eq_false_iff_ne]; omega
              have HF := sec (HNO.out HX.out)
              clear g1 g2
              go_wp2_with fail
              go_ret
              exact ⟨by rw [HF.out]; rfl, hg2⟩
            · have q3 : ¬ (48 : Int) ≤ (n : Int) := by omega
              by_cases p3 : n = 46
              · have t1 : ((n : Int) == 46) = true := by rw [beq_iff_eq]; omega
                have HX : Sec (nameC n = true) := sec (by rw [p3]; decide)
                clear g1 g2 p3
                rw [HX.out] at HALL
                go_wp2_with fail
                go_roundw
                case rel => exact ⟨i + 1, by go_num, HLT.out, HALL, by trivial⟩
                case measure => simp [intOf]; have := HLT.out; omega
              · have t1 : ((n : Int) == 46) = false := by rw [beq_eq_false_iff_ne]; omega
                by_cases p4 : n = 45
                · have t2 : ((n : Int) == 45) = true := by rw [beq_iff_eq]; omega
                  have HX : Sec (nameC n = true) := sec (by rw [p4]; decide)
                  clear g1 g2 p3 p4
                  rw [HX.out] at HALL
                  go_wp2_with fail
                  go_roundw
                  case rel => exact ⟨i + 1, by go_num, HLT.out, HALL, by trivial⟩
                  case measure => simp [intOf]; have := HLT.out; omega
                · have t2 : ((n : Int) == 45) = false := by rw [beq_eq_false_iff_ne]; omega
                  have HX : Sec (nameC n = false) := sec (by simp [nameC, p3, p4]; omega)
                  clear p3 p4
                  have HF := sec (HNO.out HX.out)
                  clear g1 g2
                  go_wp2_with fail
                  go_ret
                  exact ⟨by rw [HF.out]; rfl, hg2⟩
    · obtain rfl : i = s.length := by omega
      have hall := HA.out
      rw [List.take_length] at hall
      by_cases h0 : 1 ≤ s.length
      · have q1 : (1 : Int) ≤ (s.length : Int) := by omega
        by_cases h8 : s.length ≤ 80
        · have q2 : (s.length : Int) ≤ 80 := by omega
          have HF : Sec (namedB s = true) := sec (by unfold namedB; rw [decide_eq_true (show s.length ≠ 0 ∧ s.length ≤ 80 from ⟨by omega, h8⟩), hall]; rfl)
          clear hlt hall
          go_wp2_with fail
          go_ret
          exact ⟨by rw [HF.out]; rfl, hg2⟩
        · have q2 : ¬ (s.length : Int) ≤ 80 := by omega
          have HF : Sec (namedB s = false) := sec (by unfold namedB; rw [decide_eq_false (fun h => h8 h.2)]; rfl)
          clear hlt hall
          go_wp2_with fail
          go_ret
          exact ⟨by rw [HF.out]; rfl, hg2⟩
      · have q1 : ¬ (1 : Int) ≤ (s.length : Int) := by omega
        have HF : Sec (namedB s = false) := sec (by unfold namedB; rw [decide_eq_false (fun h => by omega)]; rfl)
        clear hlt hall
        go_wp2_with fail
        go_ret
        exact ⟨by rw [HF.out]; rfl, hg2⟩
end Go.Proofs.YtoamnifnfkgbiaaGreatDoor

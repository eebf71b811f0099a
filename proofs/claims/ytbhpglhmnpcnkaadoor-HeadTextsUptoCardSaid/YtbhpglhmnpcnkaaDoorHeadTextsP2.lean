/-
  What the walk of cartularylaw.HeadTexts leans on, part 2 of 7: contracts and plain laws. No conditions.
-/
import Derived.Test.YtbhpglhmnpcnkaaDoorHeadTextsP1
import Derived.Lib.Bytealg
import Derived.Deep.AppendLies
import Derived.Laws.AppendOwnNone
import Derived.Lib.SliceRun
import Derived.Deep.RegionHeld3
import Derived.StillTailTactics
import Derived.Deep.QuietTactic
import Derived.BigQuiet
namespace Go.Proofs.YtbhpglhmnpcnkaaDoor
open Go.RowKit
set_option linter.unusedVariables false

theorem enters_own {f : FuncId} {fn : Func} {c : Code} (hf : Tryd.prog.funcs[f]? = some fn) (hname : (fn.name == "runtime.NumGoroutine") = false) (hb : fn.body = some c) : ∀ args w, (callFunc f args).run Tryd.prog w = .ok (.enter f args) w := by
  intro args w
  have h1 : fn.name ≠ "runtime.NumGoroutine" := by simpa using hname
  simp [callFunc, hf, h1, hb, mark]
/-- may a byte stand in a file's name (P6.1) -/
def nameC (n : Nat) : Bool := (decide (97 ≤ n) && decide (n ≤ 122)) || (decide (48 ≤ n) && decide (n ≤ 57)) || (n == 46) || (n == 45)
def namedB (s : List UInt8) : Bool := decide (s.length ≠ 0 ∧ s.length ≤ 80) && s.all fun c => nameC c.toNat
theorem any_bad (s : List UInt8) : (s.any fun c => !nameC c.toNat) = !(s.all fun c => nameC c.toNat) := by
  induction s with
  | nil => rfl
  | cons c r ih => simp [ih]

set_option maxRecDepth 100000 in
set_option maxHeartbeats 2000000 in
theorem bad_any : Asks 87 (fun n => !nameC n) := by
  intro R w hR
  show Calls Tryd.prog 87 #[.int .i32 (R : Int)] w fun e w' => e = .returned (.bool (!nameC R)) ∧ Gr w w'
  by_cases h1 : 97 ≤ R
  · by_cases h2 : R ≤ 122
    · have HX : Sec (nameC R = true) := sec (by simp [nameC, h1, h2])
      have q1 : ¬ (R : Int) < 97 := by omega
      have q2 : ¬ (122 : Int) < (R : Int) := by omega
      rw [HX.out]
      go_enter Tryd.func87, Tryd.ntmps87
      go_wp2_with fail
      go_ret
      exact ⟨rfl, Gr.refl _⟩
    · have HX : Sec (nameC R = false) := sec (by simp [nameC]; omega)
      have q1 : ¬ (R : Int) < 97 := by omega
      have q2 : (122 : Int) < (R : Int) := by omega
      have q3 : ¬ (R : Int) < 48 := by omega
      have q4 : (57 : Int) < (R : Int) := by omega
      have q5 : ((R : Int) == 46) = false := by rw [beq_eq_false_iff_ne]; omega
      have q6 : ((R : Int) == 45) = false := by rw [beq_eq_false_iff_ne]; omega
      have q7 : ((R : Int) != 46) = true := by rw [bne_iff_ne]; omega
      have q8 : ((R : Int) != 45) = true := by rw [bne_iff_ne]; omega
      rw [HX.out]
      go_enter Tryd.func87, Tryd.ntmps87
      go_wp2_with fail
      go_ret
      exact ⟨rfl, Gr.refl _⟩
  · have q1 : (R : Int) < 97 := by omega
    by_cases h3 : 48 ≤ R
    · have q3 : ¬ (R : Int) < 48 := by omega
      by_cases h4 : R ≤ 57
      · have HX : Sec (nameC R = true) := sec (by simp [nameC, h3, h4])
        have q4 : ¬ (57 : Int) < (R : Int) := by omega
        rw [HX.out]
        go_enter Tryd.func87, Tryd.ntmps87
        go_wp2_with fail
        go_ret
        exact ⟨rfl, Gr.refl _⟩
      · have HX : Sec (nameC R = false) := sec (by simp [nameC]; omega)
        have q4 : (57 : Int) < (R : Int) := by omega
        have q7 : ((R : Int) != 46) = true := by rw [bne_iff_ne]; omega
        have q8 : ((R : Int) != 45) = true := by rw [bne_iff_ne]; omega
        have q5 : ((R : Int) == 46) = false := by rw [beq_eq_false_iff_ne]; omega
        have q6 : ((R : Int) == 45) = false := by rw [beq_eq_false_iff_ne]; omega
        rw [HX.out]
        go_enter Tryd.func87, Tryd.ntmps87
        go_wp2_with fail
        go_ret
        exact ⟨rfl, Gr.refl _⟩
    · have q3 : (R : Int) < 48 := by omega
      by_cases h5 : R = 46
      · subst h5
        have HX : Sec (nameC 46 = true) := sec (by decide)
        rw [HX.out]
        go_enter Tryd.func87, Tryd.ntmps87
        go_wp2_with fail
        go_ret
        exact ⟨rfl, Gr.refl _⟩
      · have q7 : ((R : Int) != 46) = true := by rw [bne_iff_ne]; omega
        have q5 : ((R : Int) == 46) = false := by rw [beq_eq_false_iff_ne]; omega
        by_cases h6 : R = 45
        · subst h6
          have HX : Sec (nameC 45 = true) := sec (by decide)
          rw [HX.out]
          go_enter Tryd.func87, Tryd.ntmps87
          go_wp2_with fail
          go_ret
          exact ⟨rfl, Gr.refl _⟩
        · have q8 : ((R : Int) != 45) = true := by rw [bne_iff_ne]; omega
          have q6 : ((R : Int) == 45) = false := by rw [beq_eq_false_iff_ne]; omega
          have HX : Sec (nameC R = false) := sec (by simp [nameC, h5, h6]; omega)
          clear h5 h6
          rw [HX.out]
          go_enter Tryd.func87, Tryd.ntmps87
          go_wp2_with fail
          go_ret
          exact ⟨rfl, Gr.refl _⟩

set_option maxRecDepth 100000 in
set_option maxHeartbeats 2000000 in
theorem named_any (s : List UInt8) (w : World) (hs : s.length ≤ 4611686018427387904) :
    Calls Tryd.prog 71 #[.string (bs s)] w fun e w' => e = .returned (.bool (namedB s)) ∧ Gr w w' := by
  have HC := sec (fun w => containsFunc_any 87 _ bad_any (fun R h => by simp [nameC]; omega) (enters_own Tryd.func87 (by kernel_rfl) rfl) s w hs)
  simp only [any_bad] at HC
  cases s with
  | nil =>
    go_enter Tryd.func71, Tryd.ntmps71
    go_wp2_with fail
    go_ret
    exact ⟨rfl, Gr.refl _⟩
  | cons c r =>
    by_cases h8 : (c :: r).length ≤ 80
    · have HB : Sec (namedB (c :: r) = (c :: r).all fun c => nameC c.toNat) := sec (by
        unfold namedB
        rw [decide_eq_true (by exact ⟨by simp, h8⟩), Bool.true_and])
      rw [HB.out]
      have q1 : ((c :: r).length : Int) ≤ 80 := by omega
      obtain ⟨l, hl⟩ : ∃ l, l = c :: r := ⟨_, rfl⟩
      rw [← hl] at HC HB q1 h8
      rw [← hl]
      have q2 : (l == []) = false := by rw [hl]; rfl
      obtain ⟨B, hB⟩ : ∃ B, B = l.all fun c => nameC c.toNat := ⟨_, rfl⟩
      rw [← hB] at HC
      rw [← hB]
      clear hl hB HB
      go_enter Tryd.func71, Tryd.ntmps71
      go_wp2_with (go_at_call 88; refine Calls.mono (HC.out _) ?_; rintro e w1 ⟨rfl, g1⟩)
      go_ret
      exact ⟨rfl, g1⟩
    · have HB : Sec (namedB (c :: r) = false) := sec (by
        unfold namedB
        rw [decide_eq_false (fun h => h8 h.2), Bool.false_and])
      rw [HB.out]
      have q1 : ¬ ((c :: r).length : Int) ≤ 80 := by omega
      obtain ⟨l, hl⟩ : ∃ l, l = c :: r := ⟨_, rfl⟩
      rw [← hl] at q1 h8
      rw [← hl]
      have q2 : (l == []) = false := by rw [hl]; rfl
      clear hl HB HC
      go_enter Tryd.func71, Tryd.ntmps71
      go_wp2_with fail
      go_ret
      exact ⟨rfl, Gr.refl _⟩

set_option maxRecDepth 100000 in
set_option maxHeartbeats 4000000 in
theorem fileName_any (s : List UInt8) (w : World) (hs : s.length ≤ 4611686018427387904) :
    Calls Tryd.prog 81 #[.string (bs s)] w fun e w' => e = .returned (.bool (namedB s)) ∧ Gr w w' := by
  obtain ⟨w2, cap, hcv, hg2, hB⟩ := conv_brow Tryd.underlying9 Tryd.underlying67 Tryd.underlying5 w s (by unfold maxLen; omega)
  go_enter Tryd.func81, Tryd.ntmps81
  go_wp2_with fail
  go_loopw [8, 4] (fun iv _ wr => ∃ i : Nat, iv = .int .i64 (i : Int) ∧ i ≤ s.length ∧ Sec ((s.take i).all (fun c => nameC c.toNat) = true) ∧ wr = w2)
    (fun iv _ _ => s.length - (intOf iv).toNat)
  case atStart => exact ⟨0, rfl, by omega, sec rfl, rfl⟩
  case round =>
    clear hcv
    obtain ⟨i, rfl, hi, HA, rfl⟩ := hrel
    by_cases hlt : i < s.length
    · have hli : (i : Int) < (s.length : Int) := by omega
      have hcl := hB.at_ i (byteV s[i]) (by rw [List.getElem?_map, List.getElem?_eq_getElem hlt]; rfl)
      obtain ⟨c, hc⟩ : ∃ c, c = s[i] := ⟨_, rfl⟩
      rw [← hc] at hcl
      unfold byteV at hcl
      have HALL : Sec ((s.take (i + 1)).all (fun c => nameC c.toNat) = nameC c.toNat) := sec (by
        rw [List.take_succ_eq_append_getElem hlt, List.all_append, HA.out, ← hc]; simp)
      have HNO : Sec (nameC c.toNat = false → namedB s = false) := sec (fun h => by
        unfold namedB
        rw [Bool.and_eq_false_iff]
        right
        rw [← List.take_append_drop (i + 1) s, List.all_append, HALL.out, h]; rfl)
      clear hc
      obtain ⟨n, hn⟩ : ∃ n, n = c.toNat := ⟨_, rfl⟩
      rw [← hn] at hcl HALL HNO
      clear hn
      have HLT := sec hlt
      clear hlt
      by_cases g1 : 97 ≤ n ∧ n ≤ 122
      · obtain ⟨p1, p2⟩ := g1
        have q1 : (97 : Int) ≤ (n : Int) := by omega
        have q2 : (n : Int) ≤ 122 := by omega
        have HX : Sec (nameC n = true) := sec (by simp [nameC, p1, p2])
        rw [HX.out] at HALL
        go_wp2_with fail
        go_roundw
        case rel => exact ⟨i + 1, by go_num, HLT.out, HALL, by trivial⟩
        case measure => simp [intOf]; have := HLT.out; omega
      · by_cases g2 : 48 ≤ n ∧ n ≤ 57
        · obtain ⟨p1, p2⟩ := g2
          have q1 : ¬ (97 : Int) ≤ (n : Int) := by omega
          have q2 : (48 : Int) ≤ (n : Int) := by omega
          have q3 : (n : Int) ≤ 57 := by omega
          have HX : Sec (nameC n = true) := sec (by simp [nameC, p1, p2])
          rw [HX.out] at HALL
          clear g1
          go_wp2_with fail
          go_roundw
          case rel => exact ⟨i + 1, by go_num, HLT.out, HALL, by trivial⟩
          case measure => simp [intOf]; have := HLT.out; omega
        · by_cases p1 : 97 ≤ n
          · have q1 : (97 : Int) ≤ (n : Int) := by omega
            have q2 : ¬ (n : Int) ≤ 122 := by omega
            have q3 : (48 : Int) ≤ (n : Int) := by omega
            have q4 : ¬ (n : Int) ≤ 57 := by omega
            have HX : Sec (nameC n = false) := sec (by simp [nameC]; omega)
            have t1 : ((n : Int) == 46) = false := by rw [beq_eq_false_iff_ne]; omega
            have t2 : ((n : Int) == 45) = false := by rw [beq_eq_false_iff_ne]; omega
            have HF := sec (HNO.out HX.out)
            clear g1 g2
            go_wp2_with fail
            go_ret
            exact ⟨by rw [HF.out]; rfl, hg2⟩
          · have q1 : ¬ (97 : Int) ≤ (n : Int) := by omega
            by_cases p2 : 48 ≤ n
            · have q3 : (48 : Int) ≤ (n : Int) := by omega
              have q4 : ¬ (n : Int) ≤ 57 := by omega
              have HX : Sec (nameC n = false) := sec (by simp [nameC]; omega)
              have t1 : ((n : Int) == 46) = false := by rw [beq_eq_false_iff_ne]; omega
              have t2 : ((n : Int) == 45) = false := by rw [beq_eq_false_iff_ne]; omega
              have HF := sec (HNO.out HX.out)
              clear g1 g2
              go_wp2_with fail
              go_ret
              exact ⟨by rw [HF.out]; rfl, hg2⟩
            · have q3 : ¬ (48 : Int) ≤ (n : Int) := by omega
              by_cases p3 : n = 46
              · have t1 : ((n : Int) == 46) = true := by rw [beq_iff_eq]; omega
                have HX : Sec (nameC n = true) := sec (by rw [p3]; decide)
                clear g1 g2 p3
                rw [HX.out] at HALL
                go_wp2_with fail
                go_roundw
                case rel => exact ⟨i + 1, by go_num, HLT.out, HALL, by trivial⟩
                case measure => simp [intOf]; have := HLT.out; omega
              · have t1 : ((n : Int) == 46) = false := by rw [beq_eq_false_iff_ne]; omega
                by_cases p4 : n = 45
                · have t2 : ((n : Int) == 45) = true := by rw [beq_iff_eq]; omega
                  have HX : Sec (nameC n = true) := sec (by rw [p4]; decide)
                  clear g1 g2 p3 p4
                  rw [HX.out] at HALL
                  go_wp2_with fail
                  go_roundw
                  case rel => exact ⟨i + 1, by go_num, HLT.out, HALL, by trivial⟩
                  case measure => simp [intOf]; have := HLT.out; omega
                · have t2 : ((n : Int) == 45) = false := by rw [beq_eq_false_iff_ne]; omega
                  have HX : Sec (nameC n = false) := sec (by simp [nameC, p3, p4]; omega)
                  clear p3 p4
                  have HF := sec (HNO.out HX.out)
                  clear g1 g2
                  go_wp2_with fail
                  go_ret
                  exact ⟨by rw [HF.out]; rfl, hg2⟩
    · obtain rfl : i = s.length := by omega
      have hall := HA.out
      rw [List.take_length] at hall
      by_cases h0 : 1 ≤ s.length
      · have q1 : (1 : Int) ≤ (s.length : Int) := by omega
        by_cases h8 : s.length ≤ 80
        · have q2 : (s.length : Int) ≤ 80 := by omega
          have HF : Sec (namedB s = true) := sec (by unfold namedB; rw [decide_eq_true (show s.length ≠ 0 ∧ s.length ≤ 80 from ⟨by omega, h8⟩), hall]; rfl)
          clear hlt hall
          go_wp2_with fail
          go_ret
          exact ⟨by rw [HF.out]; rfl, hg2⟩
        · have q2 : ¬ (s.length : Int) ≤ 80 := by omega
          have HF : Sec (namedB s = false) := sec (by unfold namedB; rw [decide_eq_false (fun h => h8 h.2)]; rfl)
          clear hlt hall
          go_wp2_with fail
          go_ret
          exact ⟨by rw [HF.out]; rfl, hg2⟩
      · have q1 : ¬ (1 : Int) ≤ (s.length : Int) := by omega
        have HF : Sec (namedB s = false) := sec (by unfold namedB; rw [decide_eq_false (fun h => by omega)]; rfl)
        clear hlt hall
        go_wp2_with fail
        go_ret
        exact ⟨by rw [HF.out]; rfl, hg2⟩
end Go.Proofs.YtbhpglhmnpcnkaaDoor

namespace Go.Proofs.YtbhpglhmnpcnkaaDoor
open Go.RowKit
set_option linter.unusedVariables false

abbrev ltB := Op.bytesLess
theorem ltB_irr : ∀ a : List UInt8, ltB a a = false
  | [] => rfl
  | c :: r => by
    have := ltB_irr r
    show (decide (c < c) || (c == c && ltB r r)) = false
    rw [this]; simp
theorem ltB_cons (a b : UInt8) (x y : List UInt8) : ltB (a :: x) (b :: y) = (decide (a < b) || (a == b && ltB x y)) := rfl
theorem ltB_trans : ∀ a b c : List UInt8, ltB a b = true → ltB b c = true → ltB a c = true
  | [], [], _, h, _ => by cases h
  | [], _ :: _, [], _, h => by cases h
  | [], _ :: _, _ :: _, _, _ => rfl
  | _ :: _, [], _, h, _ => by cases h
  | _ :: _, _ :: _, [], _, h => by cases h
  | a :: x, b :: y, c :: z, h1, h2 => by
    rw [ltB_cons, Bool.or_eq_true, Bool.and_eq_true, decide_eq_true_iff, beq_iff_eq] at h1 h2 ⊢
    rcases h1 with h1 | ⟨h1, h1'⟩
    · rcases h2 with h2 | ⟨h2, _⟩
      · exact .inl (UInt8.lt_trans h1 h2)
      · subst h2; exact .inl h1
    · subst h1
      rcases h2 with h2 | ⟨h2, h2'⟩
      · exact .inl h2
      · subst h2; exact .inr ⟨rfl, ltB_trans x y z h1' h2'⟩
theorem ltB_tri : ∀ a b : List UInt8, ltB a b = false → ltB b a = false → a = b
  | [], [], _, _ => rfl
  | [], _ :: _, h, _ => by cases h
  | _ :: _, [], _, h => by cases h
  | a :: x, b :: y, h1, h2 => by
    rw [ltB_cons, Bool.or_eq_false_iff, Bool.and_eq_false_iff, decide_eq_false_iff_not] at h1 h2
    have e : a = b := by
      have h3 := h1.1
      have h4 := h2.1
      apply UInt8.toNat_inj.1
      rw [UInt8.lt_iff_toNat_lt] at h3 h4
      omega
    subst e
    have h3 : ltB x y = false := by rcases h1.2 with h | h; simp at h; exact h
    have h4 : ltB y x = false := by rcases h2.2 with h | h; simp at h; exact h
    rw [ltB_tri x y h3 h4]
theorem cmp_lt : ∀ a b : List UInt8, (Lib.compareBytes a b < 0 ↔ ltB a b = true) ∧ (Lib.compareBytes a b = 0 ↔ a = b)
  | [], [] => by constructor <;> simp [Lib.compareBytes, ltB, Op.bytesLess]
  | [], _ :: _ => by constructor <;> simp [Lib.compareBytes, ltB, Op.bytesLess]
  | _ :: _, [] => by constructor <;> simp [Lib.compareBytes, ltB, Op.bytesLess]
  | a :: x, b :: y => by
    have ih := cmp_lt x y
    unfold Lib.compareBytes
    rw [ltB_cons, Bool.or_eq_true, Bool.and_eq_true, decide_eq_true_iff, beq_iff_eq]
    by_cases h1 : a < b
    · rw [if_pos h1]
      refine ⟨by simp [h1], ?_⟩
      constructor
      · intro h; omega
      · intro h; injection h with h _; subst h; exact absurd h1 (by rw [UInt8.lt_iff_toNat_lt]; omega)
    · rw [if_neg h1]
      by_cases h2 : b < a
      · rw [if_pos h2]
        refine ⟨⟨fun h => by omega, fun h => ?_⟩, ⟨fun h => by omega, fun h => ?_⟩⟩
        · rcases h with h | ⟨h, _⟩
          · exact absurd h h1
          · subst h; exact absurd h2 h1
        · injection h with h _; subst h; exact absurd h2 h1
      · rw [if_neg h2]
        have e : a = b := by
          apply UInt8.toNat_inj.1
          rw [UInt8.lt_iff_toNat_lt] at h1 h2
          omega
        subst e
        refine ⟨⟨fun h => .inr ⟨rfl, ih.1.1 h⟩, fun h => ?_⟩, ⟨fun h => by rw [ih.2.1 h], fun h => ?_⟩⟩
        · rcases h with h | ⟨_, h⟩
          · exact absurd h h1
          · exact ih.1.2 h
        · injection h with _ h; exact ih.2.2 h

/-- a file: its name, what is safe, what was written since -/
abbrev Fl := List UInt8 × List UInt8 × List UInt8
def fileC (f : Fl) : List Value := [.string (bs f.1), .string (bs f.2.1), .string (bs f.2.2)]
def fileOk (f : Fl) : Bool := namedB f.1 && decide (f.2.1.length ≤ 1048576 ∧ f.2.1.length + f.2.2.length ≤ 1048576)
def goodFrom : List UInt8 → List Fl → Bool
  | _, [] => true
  | last, f :: r => fileOk f && ltB last f.1 && goodFrom f.1 r
/-- P6.1 -/
def goodFs (fs : List Fl) : Bool := decide (fs.length ≤ 400) && goodFrom [] fs
theorem namedB_ne {s : List UInt8} (h : namedB s = true) : s ≠ [] := by
  intro e; subst e; cases h
theorem ltB_nil {s : List UInt8} (h : s ≠ []) : ltB [] s = true := by
  cases s with
  | nil => exact absurd rfl h
  | cons => rfl
theorem goodFrom_sorted : ∀ (fs : List Fl) (last : List UInt8), goodFrom last fs = true → (∀ f ∈ fs, ltB last f.1 = true ∧ fileOk f = true) ∧ fs.Pairwise (fun f g => ltB f.1 g.1 = true)
  | [], _, _ => ⟨fun f h => (by cases h), .nil⟩
  | f :: r, last, h => by
    rw [goodFrom, Bool.and_eq_true, Bool.and_eq_true] at h
    obtain ⟨⟨h1, h2⟩, h3⟩ := h
    have ih := goodFrom_sorted r f.1 h3
    refine ⟨fun g hg => ?_, .cons (fun g hg => (ih.1 g hg).1) ih.2⟩
    rcases List.mem_cons.1 hg with rfl | hg
    · exact ⟨h2, h1⟩
    · exact ⟨ltB_trans _ _ _ h2 (ih.1 g hg).1, (ih.1 g hg).2⟩
/-- where a file stands -/
def atF (name : List UInt8) (fs : List Fl) : Option Nat := fs.findIdx? (fun f => f.1 == name)
/-- P6.6 -/
def readF (fs : List Fl) (name : List UInt8) : List UInt8 × Int :=
  if goodFs fs then (match fs.find? (fun f => f.1 == name) with | some f => (f.2.1 ++ f.2.2, 0) | none => ([], 7)) else ([], 3)
/-- P6.7 -/
def crashF (keep : Nat) (f : Fl) : Fl := (f.1, f.2.1 ++ f.2.2.take keep, [])
end Go.Proofs.YtbhpglhmnpcnkaaDoor

namespace Go.Proofs.YtbhpglhmnpcnkaaDoor
open Go.RowKit
set_option linter.unusedVariables false

theorem wpList_append_oneL {ops : Array Oper} {rest : List Oper} {o : Oper} {a : Act} {Q : Exit → Act → World → Prop} {w : World} {t e : TypeId} {z : Value} {bytes : Nat}
    (E : ElemOk t e z 1 bytes) (hgd : o.guard = none) (s x : Operand) (ho : o.op = .call { callee := .builtin .append, args := #[s, x], argTypes := #[t, t] })
    {B : Nat} {A : Option Addr} {n cap : Nat} {xs : List Value} (hs : a.eval s = .slice A n cap) (hown : w.ownsRow B e 1 (.slice A n cap) n xs)
    {u : Value} {c : Nat} (hx : a.eval x = .slice (some ⟨w.heap.size, 0, none⟩) 1 c) (h1 : u.oneCell' = true)
    (hbytes : (n + 1) * bytes ≤ 140737488355328) (h63 : n + 1 ≤ maxLen) (hB : B ≤ w.heap.size)
    (h : ∀ g cap' w', w'.ownsRow B e 1 (.slice (some ⟨g, 0, none⟩) (n + 1) cap') (n + 1) (xs ++ [u]) → w.grownBy w' (Value.ownBlock (.slice A n cap)) → (Value.ownBlock (.slice A n cap) = some g ∨ w.heap.size ≤ g) →
      wpList Tryd.prog ops Q rest (a.put o.dst (.slice (some ⟨g, 0, none⟩) (n + 1) cap')) w') :
    wpList Tryd.prog ops Q (o :: rest) a (w.alloc (.cells #[u] e)) := by
  obtain ⟨i0, hi0, hz0, hz1, hz2⟩ := info_parts E.info
  refine wpList_append_lies _ hgd s x t ho B e i0 z 1 bytes E.under hi0 hz0 hz1 hz2 E.zcells E.pos _ n xs hs (hown.alloc _) ⟨w.heap.size, 0, none⟩ 1 c [u] hx (by simp) ?_ (by intro v hv; simp at hv; subst hv; exact h1) (by omega) h63 hbytes (by simp; omega) _ rfl ?_
  · intro j v hv
    have hc : (w.alloc (.cells #[u] e)).cell? ⟨w.heap.size, j, none⟩ = (#[u] : Array Value)[j]? := World.cell?_alloc_mark w #[u] e (0, 0) j
    rw [add_zero_block, hc]
    simpa using hv
  · intro g cap' w' hown' hg hat _
    refine h g cap' w' hown' ⟨hg.os, hg.tape, hg.output, by have := hg.size; simp at this; omega, fun k hk hne => (hg.block k (by simp; omega) hne).trans (Below.heap_alloc w _ k hk)⟩ ?_
    rcases hat with h | h
    · exact .inl h
    · right; simp at h; omega

theorem BRow.grown {w w' : World} {B g cap : Nat} {row : Option Nat} {l : List UInt8} (h : BRow w B g cap l) (hg : w.grownBy w' row) (hne : row ≠ some g) : BRow w' B g cap l := by
  have hb : w'.heap[g]? = w.heap[g]? := hg.block g h.lt (fun e => hne e.symm)
  exact ⟨h.base, Nat.lt_of_lt_of_le h.lt hg.size, h.le, h.max, fun j hj => by rw [World.cell?_of_block (a := ⟨g, j, none⟩) hb, World.frozen?_of_block (a := ⟨g, j, none⟩) hb]; exact h.there j hj, fun j u hu => by rw [World.cell?_of_block (a := ⟨g, j, none⟩) hb]; exact h.at_ j u hu⟩
/-- the new slice lies elsewhere than an old block that was not the row -/
theorem lies_ne {row : Option Nat} {g k n : Nat} (hat : row = some g ∨ n ≤ g) (hne : row ≠ some k) (hlt : k < n) : g ≠ k := by
  rcases hat with h | h
  · intro e; exact hne (by rw [h, e])
  · omega
end Go.Proofs.YtbhpglhmnpcnkaaDoor

namespace Go.Proofs.YtbhpglhmnpcnkaaDoor
set_option maxRecDepth 100000
open Go.RowKit
set_option linter.unusedVariables false


theorem aggDisk : AggOk 24 2 := ⟨⟨_, Tryd.underlying24, rfl⟩, by kernel_rfl⟩
theorem A.file : AggOk 87 3 := ⟨⟨_, Tryd.underlying87, rfl⟩, by kernel_rfl⟩
theorem E.file : ElemOk 22 87 (.agg #[.string (bs []), .string (bs []), .string (bs [])]) 3 48 := ⟨Tryd.underlying22, by kernel_rfl, rfl, by omega⟩
/-- a slice of files -/
def FRow (w : World) (A : Option Addr) (n : Nat) (fs : List Fl) : Prop := Row w 3 A n (fs.flatMap fileC)
theorem FRow.gr {w w' : World} {A : Option Addr} {n : Nat} {fs : List Fl} (h : FRow w A n fs) (g : Gr w w') : FRow w' A n fs := Row.gr h g
theorem FRow.len {w : World} {A : Option Addr} {n : Nat} {fs : List Fl} (h : FRow w A n fs) : fs.length = n := Row.flen fileC (fun _ => rfl) (by omega) h
theorem FRow.cell {w : World} {A : Option Addr} {n : Nat} {fs : List Fl} (h : FRow w A n fs) {i : Nat} (hi : i < fs.length) :
    ∃ b off, A = some ⟨b, off, none⟩ ∧ w.cell? ⟨b, off + i * 3, none⟩ = some (.string (bs fs[i].1)) ∧ w.cell? ⟨b, off + i * 3 + 1, none⟩ = some (.string (bs fs[i].2.1)) ∧ w.cell? ⟨b, off + i * 3 + 2, none⟩ = some (.string (bs fs[i].2.2)) := by
  obtain ⟨b, off, e, _, hc⟩ := Row.fcell fileC (fun _ => rfl) (by omega) h hi
  exact ⟨b, off, e, hc 0 _ rfl, hc 1 _ rfl, hc 2 _ rfl⟩
def diskV (A : Option Addr) (n cap : Nat) (fuse : Int) : Value := .agg #[.slice A n cap, .int .i64 fuse]

set_option maxRecDepth 100000 in
set_option maxHeartbeats 1000000 in
theorem compare_any (a b : List UInt8) (w : World) :
    Calls Tryd.prog 91 #[.string (bs a), .string (bs b)] w fun e w' => e = .returned (.int .i64 (Lib.compareBytes a b)) ∧ w' = w := by
  have HC : Sec (Calls Tryd.prog 109 #[.string (bs a), .string (bs b)] w fun e w' => e = .returned (.int .i64 (Lib.compareBytes a b)) ∧ w' = w) := sec (by
    have hr : ∀ w, (Extern.BytealgCompare.compare #[.string (bs a), .string (bs b)]).run Tryd.prog w = .ok (.int .i64 (Lib.compareBytes a b)) w := by
      intro w
      have := Lib.run_compareString (P := Tryd.prog) (bs a) (bs b) w
      rw [bs_data, bs_data] at this
      exact this
    go_enter Tryd.func109, Tryd.ntmps109
    go_wp2
    rw [run_callFunc_extern Tryd.func116 (by kernel_rfl) (by kernel_rfl) (by kernel_rfl) (e := Extern.BytealgCompare.compare) (by kernel_rfl), hr]
    simp only [Result.andThen]
    rw [Oper.upon_value]
    go_wp2
    go_ret
    exact ⟨rfl, rfl⟩)
  go_enter Tryd.func91, Tryd.ntmps91
  go_wp2_with (go_at_call 109; refine Calls.mono HC.out ?_; rintro e w1 ⟨rfl, rfl⟩)
  go_ret
  exact ⟨rfl, rfl⟩

/-! ### append of a row that may be nil -/
theorem run_append_row {t e ty : TypeId} {z : Value} {size bytes : Nat} (E : ElemOk t e z size bytes) {B : Nat} {w : World}
    {A0 : Option Addr} {n0 cap0 : Nat} {xs : List Value} (hown : w.ownsRow B e size (.slice A0 n0 cap0) n0 xs)
    {A : Option Addr} {n c : Nat} {vs : List Value} (hrow : Row w size A n vs) (hA : A = none → n = 0 ∧ c = 0) (h1 : ∀ u ∈ vs, u.oneCell' = true)
    (hbytes : (n0 + n) * bytes ≤ 140737488355328) (h63 : n0 + n ≤ maxLen) (hB : B ≤ w.heap.size) :
    ∃ A' cap' w', (Builtin.append_ #[t, t] ty #[.slice A0 n0 cap0, .slice A n c]).run Tryd.prog w = .ok (.slice A' (n0 + n) cap') w' ∧ w'.ownsRow B e size (.slice A' (n0 + n) cap') (n0 + n) (xs ++ vs) ∧ w.grownBy w' (Value.ownBlock (.slice A0 n0 cap0)) := by
  obtain ⟨i0, hi0, hz0, hz1, hz2⟩ := info_parts E.info
  cases A with
  | none =>
    obtain ⟨rfl, rfl⟩ := hA rfl
    have hv : vs = [] := List.eq_nil_of_length_eq_zero (by have := hrow.len; omega)
    subst hv
    refine ⟨A0, cap0, w, ?_, by rw [List.append_nil]; exact hown, ⟨rfl, rfl, rfl, Nat.le_refl _, fun _ _ _ => rfl⟩⟩
    exact run_append_owned_none w B t ty e i0 size E.under hi0 _ n0 xs hown
  | some ad =>
    have hnews : ∀ j u, vs[j]? = some u → w.cell? (ad.add j) = some u := by
      intro j u hu
      have hj : 0 < n := by
        rcases Nat.eq_zero_or_pos n with h | h
        · have := hrow.len
          rw [h, Nat.zero_mul] at this
          rw [List.eq_nil_of_length_eq_zero this] at hu
          cases hu
        · exact h
      obtain ⟨b, off, e, hc⟩ := Row.at_ hrow hj
      injection e with e
      subst e
      have : (⟨b, off, none⟩ : Addr).add j = ⟨b, off + j, none⟩ := by unfold Addr.add; split <;> simp_all
      rw [this]
      exact hc j u hu
    obtain ⟨v', w', hr, ho, hg, _⟩ := run_append_own (P := Tryd.prog) w B t ty e i0 z size bytes E.under hi0 hz0 hz1 hz2 E.zcells E.pos _ n0 xs hown ad n c vs hrow.len hnews h1 h63 hbytes hB
    rcases ho.2 with ⟨rfl, h0⟩ | ⟨g, cap', cur, rfl, _⟩
    · exact ⟨none, 0, w', by rw [hr, h0], by rw [h0] at ho ⊢; exact ho, hg⟩
    · exact ⟨_, _, w', hr, ho, hg⟩
theorem wp_append_row {o : Oper} {a : Act} {K : Act → World → Prop} {Q : Exit → Act → World → Prop} {t e : TypeId} {z : Value} {size bytes : Nat} (E : ElemOk t e z size bytes) (s x : Operand)
    (ho : o.op = .call { callee := .builtin .append, args := #[s, x], argTypes := #[t, t] }) {B : Nat} {w : World}
    {A0 : Option Addr} {n0 cap0 : Nat} {xs : List Value} (hs : a.eval s = .slice A0 n0 cap0) (hown : w.ownsRow B e size (.slice A0 n0 cap0) n0 xs)
    {A : Option Addr} {n c : Nat} {vs : List Value} (hx : a.eval x = .slice A n c) (hrow : Row w size A n vs) (hA : A = none → n = 0 ∧ c = 0) (h1 : ∀ u ∈ vs, u.oneCell' = true)
    (hbytes : (n0 + n) * bytes ≤ 140737488355328) (h63 : n0 + n ≤ maxLen) (hB : B ≤ w.heap.size)
    (h : ∀ A' cap' w', w'.ownsRow B e size (.slice A' (n0 + n) cap') (n0 + n) (xs ++ vs) → w.grownBy w' (Value.ownBlock (.slice A0 n0 cap0)) → K (a.put o.dst (.slice A' (n0 + n) cap')) w') : o.wp Tryd.prog a w K Q := by
  obtain ⟨A', cap', w', hr, h2, h3⟩ := run_append_row (ty := o.type) E hown hrow hA h1 hbytes h63 hB
  unfold Oper.wp execOp
  simp only [ho, resolve, invoke, builtin, Sem.run_bind, Sem.run_pure, Result.andThen_ok, List.map_toArray, List.map_cons, List.map_nil, hs, hx, hr]
  exact h A' cap' w' h2 h3
theorem wpList_append_row {ops : Array Oper} {rest : List Oper} {o : Oper} {a : Act} {Q : Exit → Act → World → Prop} {t e : TypeId} {z : Value} {size bytes : Nat} (E : ElemOk t e z size bytes) (hgd : o.guard = none) (s x : Operand)
    (ho : o.op = .call { callee := .builtin .append, args := #[s, x], argTypes := #[t, t] }) {B : Nat} {w : World}
    {A0 : Option Addr} {n0 cap0 : Nat} {xs : List Value} (hs : a.eval s = .slice A0 n0 cap0) (hown : w.ownsRow B e size (.slice A0 n0 cap0) n0 xs)
    {A : Option Addr} {n c : Nat} {vs : List Value} (hx : a.eval x = .slice A n c) (hrow : Row w size A n vs) (hA : A = none → n = 0 ∧ c = 0) (h1 : ∀ u ∈ vs, u.oneCell' = true)
    (hbytes : (n0 + n) * bytes ≤ 140737488355328) (h63 : n0 + n ≤ maxLen) (hB : B ≤ w.heap.size)
    (h : ∀ A' cap' w', w'.ownsRow B e size (.slice A' (n0 + n) cap') (n0 + n) (xs ++ vs) → w.grownBy w' (Value.ownBlock (.slice A0 n0 cap0)) → wpList Tryd.prog ops Q rest (a.put o.dst (.slice A' (n0 + n) cap')) w') : wpList Tryd.prog ops Q (o :: rest) a w :=
  wpList_plain hgd fun _ hK => wp_append_row E s x ho hs hown hx hrow hA h1 hbytes h63 hB fun A' cap' w' h2 h3 => hK _ _ (h A' cap' w' h2 h3)
theorem step_append_row {ops : Array Oper} {o : Oper} {a : Act} {K : Act → World → Prop} {Q : Exit → Act → World → Prop} {X : Prop} {t e : TypeId} {z : Value} {size bytes : Nat} (E : ElemOk t e z size bytes) (hgd : o.guard = none) (s x : Operand)
    (ho : o.op = .call { callee := .builtin .append, args := #[s, x], argTypes := #[t, t] }) {B : Nat} {w : World}
    {A0 : Option Addr} {n0 cap0 : Nat} {xs : List Value} (hs : a.eval s = .slice A0 n0 cap0) (hown : w.ownsRow B e size (.slice A0 n0 cap0) n0 xs)
    {A : Option Addr} {n c : Nat} {vs : List Value} (hx : a.eval x = .slice A n c) (hrow : Row w size A n vs) (hA : A = none → n = 0 ∧ c = 0) (h1 : ∀ u ∈ vs, u.oneCell' = true)
    (hbytes : (n0 + n) * bytes ≤ 140737488355328) (h63 : n0 + n ≤ maxLen) (hB : B ≤ w.heap.size)
    (h : ∀ A' cap' w', w'.ownsRow B e size (.slice A' (n0 + n) cap') (n0 + n) (xs ++ vs) → w.grownBy w' (Value.ownBlock (.slice A0 n0 cap0)) → K (a.put o.dst (.slice A' (n0 + n) cap')) w') :
    if Region.wanted o (yielded ops a.tmps) = true then Oper.wp Tryd.prog o a w K Q else X := by
  have hw : Region.wanted o (yielded ops a.tmps) = true := by simp [Region.wanted, hgd]
  rw [if_pos hw]
  exact wp_append_row E s x ho hs hown hx hrow hA h1 hbytes h63 hB h
theorem fileC_one {fs : List Fl} : ∀ u ∈ fs.flatMap fileC, u.oneCell' = true := by
  intro u hu
  obtain ⟨f, _, h⟩ := List.mem_flatMap.1 hu
  simp [fileC] at h
  rcases h with rfl | rfl | rfl <;> rfl

set_option maxRecDepth 100000 in
set_option maxHeartbeats 2000000 in
theorem sameDisk_any (fs : List Fl) (A A' : Option Addr) (n cap cap' : Nat) (f : Int) (w : World) (hn : n ≤ 140737488355328) (hx : FRow w A n fs) (hy : FRow w A' n fs) :
    Calls Tryd.prog 31 #[diskV A n cap f, diskV A' n cap' f] w fun e w' => e = .returned (.bool true) ∧ Gr w w' := by
  unfold diskV
  have hl := hx.len
  go_enter Tryd.func31, Tryd.ntmps31
  go_wp2_with fail
  have hg0 : Gr w ((w.alloc (.cells #[.slice A n cap, .int .i64 f] 24)).alloc (.cells #[.slice A' n cap', .int .i64 f] 24)) := ((Gr.refl w).alloc _).alloc _
  have hb1 : Blk ((w.alloc (.cells #[.slice A n cap, .int .i64 f] 24)).alloc (.cells #[.slice A' n cap', .int .i64 f] 24)) w.heap.size 24 #[.slice A n cap, .int .i64 f] := (Blk.new w _ _).alloc _
  have hb2 := Blk.new1 w (.cells #[.slice A n cap, .int .i64 f] 24) 24 #[.slice A' n cap', .int .i64 f]
  obtain ⟨wa, hwa⟩ : ∃ x, x = (w.alloc (.cells #[.slice A n cap, .int .i64 f] 24)).alloc (.cells #[.slice A' n cap', .int .i64 f] 24) := ⟨_, rfl⟩
  rw [← hwa] at hg0 hb1 hb2
  rw [← hwa]
  have HX := sec (hx.gr hg0)
  have HY := sec (hy.gr hg0)
  have HB1 := sec hb1
  have HB2 := sec hb2
  clear hwa hx hy hb1 hb2
  go_loopw [23, 5] (fun iv _ wr => ∃ i : Nat, iv = .int .i64 (i : Int) ∧ i ≤ n ∧ Gr wa wr) (fun iv _ _ => n - (intOf iv).toNat)
  case atStart => exact ⟨0, rfl, by omega, Gr.refl _⟩
  case round =>
    obtain ⟨i, rfl, hi, hg⟩ := hrel
    have d1 : wr.cell? ⟨w.heap.size, 0, none⟩ = some (.slice A n cap) := (HB1.out.gr hg).cell 0
    have d2 : wr.cell? ⟨w.heap.size + 1, 0, none⟩ = some (.slice A' n cap') := (HB2.out.gr hg).cell 0
    by_cases hlt : i < n
    · have hif : i < fs.length := by omega
      have hii : (i : Int) < (n : Int) := by omega
      obtain ⟨b, off, rfl, e0, e1, e2⟩ := (HX.out.gr hg).cell hif
      obtain ⟨b', off', rfl, g0, g1, g2⟩ := (HY.out.gr hg).cell hif
      obtain ⟨x, hx⟩ : ∃ x, x = fs[i] := ⟨_, rfl⟩
      rw [← hx] at e0 e1 e2 g0 g1 g2
      clear hx hif
      go_wp2_with fail
      go_quiet (fail)
      go_wp2_with fail
      go_roundw
      case rel => exact ⟨i + 1, by go_num, by omega, hg.drewN _⟩
      case measure => simp [intOf]; omega
    · obtain rfl : i = n := by omega
      clear hlt hi
      go_wp2_with fail
      go_ret
      exact ⟨rfl, hg0.trans hg⟩

set_option maxRecDepth 100000 in
set_option maxHeartbeats 2000000 in
theorem clone_any (fs : List Fl) (A : Option Addr) (n cap : Nat) (w : World) (hn : n ≤ 1099511627776) (hx : FRow w A n fs) (hA : A = none → n = 0 ∧ cap = 0) :
    Calls Tryd.prog 55 #[.slice A n cap] w fun e w' => ∃ A' cap', e = .returned (.slice A' n cap') ∧ w'.ownsRow w.heap.size 87 3 (.slice A' n cap') n (fs.flatMap fileC) ∧ Gr w w' := by
  cases A with
  | none =>
    obtain ⟨rfl, rfl⟩ := hA rfl
    have hl := hx.len
    obtain rfl : fs = [] := List.eq_nil_of_length_eq_zero hl
    have hq : ∀ w, (eqGuard .eql 22 (.tmp 3) (.const (.slice none 0 0)) (.slice none 0 0) (.slice none 0 0)).run Tryd.prog w = .ok () w := by
      intro w; rfl
    have hz : ∀ w, (binOp .eql 22 (.slice none 0 0) (.slice none 0 0)).run Tryd.prog w = .ok (.bool true) w := fun w => Lib.run_eql_slice_nil w _ _ none 0 0 0 0 Tryd.underlying22
    go_enter Tryd.func55, Tryd.ntmps55
    go_wp2_with fail
    go_ret
    exact ⟨none, 0, rfl, World.ownsRow_nil _ _ _ _, Gr.refl _⟩
  | some ad =>
    have hq : ∀ w, (eqGuard .eql 22 (.tmp 3) (.const (.slice none 0 0)) (.slice (some ad) n cap) (.slice none 0 0)).run Tryd.prog w = .ok () w := by
      intro w; rfl
    have hz : ∀ w, (binOp .eql 22 (.slice (some ad) n cap) (.slice none 0 0)).run Tryd.prog w = .ok (.bool false) w := fun w => Lib.run_eql_slice_nil w _ _ (some ad) n cap 0 0 Tryd.underlying22
    have hb1 : (0 + n) * 48 ≤ 140737488355328 := by omega
    have hb2 : 0 + n ≤ maxLen := by unfold maxLen; omega
    have HX := sec hx
    clear hx
    go_enter Tryd.func55, Tryd.ntmps55
    go_wp2_with (refine wpList_append_row E.file rfl (.tmp 5) (.tmp 6) rfl (B := w.heap.size) (A0 := some ⟨w.heap.size, 0, none⟩) (n0 := 0) (cap0 := 0) (xs := []) rfl (World.ownsRow_lit w #[] 0 (Nat.le_refl _) (by simp) rfl) rfl (FRow.gr HX.out ((Gr.refl w).alloc _)) hA fileC_one hb1 hb2 (by simp) ?_; intro A' c' w' hown hgn)
    go_ret
    rw [Nat.zero_add, List.nil_append] at hown
    exact ⟨A', c', rfl, hown, Gr.grown ((Gr.refl w).alloc _) hgn (fun k hk => by simp [Value.ownBlock] at hk; omega)⟩

set_option maxRecDepth 100000 in
set_option maxHeartbeats 2000000 in
theorem copyDisk_any (fs : List Fl) (A : Option Addr) (n cap : Nat) (f : Int) (w : World) (hn : n ≤ 1099511627776) (hx : FRow w A n fs) (hA : A = none → n = 0 ∧ cap = 0) :
    Calls Tryd.prog 28 #[diskV A n cap f] w fun e w' => ∃ A' cap', e = .returned (diskV A' n cap' f) ∧ w'.ownsRow w.heap.size 87 3 (.slice A' n cap') n (fs.flatMap fileC) ∧ (A' = none → n = 0 ∧ cap' = 0) ∧ Gr w w' := by
  unfold diskV
  have hb1 : (0 + n) * 48 ≤ 140737488355328 := by omega
  have hb2 : 0 + n ≤ maxLen := by unfold maxLen; omega
  go_enter Tryd.func28, Tryd.ntmps28
  go_wp2_with fail
  have hg0 : Gr w ((w.alloc (.cells #[.slice A n cap, .int .i64 f] 24)).alloc (.cells #[.slice none 0 0, .int .i64 0] 24)) := ((Gr.refl w).alloc _).alloc _
  have hb1' : Blk ((w.alloc (.cells #[.slice A n cap, .int .i64 f] 24)).alloc (.cells #[.slice none 0 0, .int .i64 0] 24)) w.heap.size 24 #[.slice A n cap, .int .i64 f] := (Blk.new w _ _).alloc _
  have hb2' := Blk.new1 w (.cells #[.slice A n cap, .int .i64 f] 24) 24 #[.slice none 0 0, .int .i64 0]
  obtain ⟨wa, hwa⟩ : ∃ x, x = (w.alloc (.cells #[.slice A n cap, .int .i64 f] 24)).alloc (.cells #[.slice none 0 0, .int .i64 0] 24) := ⟨_, rfl⟩
  rw [← hwa] at hg0 hb1' hb2'
  rw [← hwa]
  obtain ⟨p1, hp1⟩ : ∃ p1, p1 = w.heap.size := ⟨_, rfl⟩
  have hp1le : w.heap.size ≤ p1 := by omega
  rw [← hp1] at hb1' hb2'
  rw [← hp1]
  clear hwa hp1
  have c10 : wa.cell? ⟨p1, 0, none⟩ = some (.slice A n cap) := hb1'.cell 0
  have c11 : wa.cell? ⟨p1, 1, none⟩ = some (.int .i64 f) := hb1'.cell 1
  have HX := sec (hx.gr hg0)
  clear hx
  go_region_law ((refine step_append_row E.file rfl (.const (.slice none 0 0)) (.tmp 4) rfl (w := wa.drew) (B := w.heap.size) rfl (World.ownsRow_nil _ _ _ _) rfl (FRow.gr HX.out (Gr.refl _).drew) hA fileC_one hb1 hb2 (hg0.drew).size ?_; intro A' c' w' hown hgn; have b1w := hb1'.drew.grown hgn (by simp [Value.ownBlock]); have b2w := hb2'.drew.grown hgn (by simp [Value.ownBlock]); have c11w : w'.cell? ⟨p1, 1, none⟩ = some (.int .i64 f) := b1w.cell 1; have c20w : w'.cell? ⟨p1 + 1, 0, none⟩ = some (.slice none 0 0) := b2w.cell 0; have c21w : w'.cell? ⟨p1 + 1, 1, none⟩ = some (.int .i64 0) := b2w.cell 1; have f20w := b2w.frozen 0; have f21w := b2w.frozen 1; have gw : Gr w w' := hg0.drew.grown hgn (by rintro k hk; cases hk)))
  all_goals
    rw [Nat.zero_add, List.nil_append] at hown
    have hne := own_blk_ne hown b2w (by decide)
    have hown2 := (hown.kept (grown_setCell w' ⟨p1 + 1, 0, none⟩ (.slice A' n c')) (.inr hne)).kept (grown_setCell _ ⟨p1 + 1, 1, none⟩ (.int .i64 f)) (.inr hne)
    have hB2 := (b2w.set_ 0 (.slice A' n c')).set_ 1 (.int .i64 f)
    have hG2 := (gw.setCell (p := ⟨p1 + 1, 0, none⟩) (Nat.le_succ_of_le hp1le) (.slice A' n c')).setCell (p := ⟨p1 + 1, 1, none⟩) (Nat.le_succ_of_le hp1le) (.int .i64 f)
    go_wp2_with fail
    refine bodyPost_ret (results_blk rfl _ rfl hB2 aggDisk) rfl ?_
    refine ⟨A', c', rfl, hown2, fun e => ?_, hG2⟩
    rcases hown.2 with ⟨h, h0⟩ | ⟨g, _, _, h, _⟩
    · injection h with _ h2 h3
      exact ⟨h0, h3⟩
    · injection h with h2 _ _
      rw [e] at h2; cases h2
end Go.Proofs.YtbhpglhmnpcnkaaDoor

namespace Go.Proofs.YtbhpglhmnpcnkaaDoor
open Go.RowKit
set_option linter.unusedVariables false

theorem ltB_asym {a b : List UInt8} (h : ltB a b = true) : ltB b a = false := by
  cases hb : ltB b a
  · rfl
  · have := ltB_trans a b a h hb
    rw [ltB_irr] at this
    cases this
theorem goodFrom_cons {last : List UInt8} {f : Fl} {r : List Fl} : goodFrom last (f :: r) = (fileOk f && ltB last f.1 && goodFrom f.1 r) := rfl

set_option maxRecDepth 100000 in
set_option maxHeartbeats 4000000 in
theorem drgood_any (fs : List Fl) (A : Option Addr) (n cap : Nat) (f : Int) (w : World) (hn : n ≤ 1099511627776) (hx : FRow w A n fs) (hs : ∀ f ∈ fs, f.1.length ≤ 1099511627776 ∧ f.2.1.length ≤ 1099511627776 ∧ f.2.2.length ≤ 1099511627776) :
    Calls Tryd.prog 57 #[diskV A n cap f] w fun e w' => e = .returned (.bool (goodFs fs)) ∧ Gr w w' := by
  unfold diskV
  have hl := hx.len
  go_enter Tryd.func57, Tryd.ntmps57
  go_wp2_with fail
  try rw [show ({ data := #[] } : ByteArray) = bs [] from rfl]
  have hb1 := Blk.new w 24 #[.slice A n cap, .int .i64 f]
  have hg0 := (Gr.refl w).alloc (.cells #[.slice A n cap, .int .i64 f] 24)
  obtain ⟨wa, hwa⟩ : ∃ x, x = w.alloc (.cells #[.slice A n cap, .int .i64 f] 24) := ⟨_, rfl⟩
  rw [← hwa] at hb1 hg0
  rw [← hwa]
  have HX := sec (hx.gr hg0)
  have HB := sec hb1
  have HSZ := sec hs
  clear hwa hx hb1 hs
  go_loopw [3, 9, 5] (fun v iv _ wr => ∃ (i : Nat) (last : List UInt8), v = .string (bs last) ∧ iv = .int .i64 (i : Int) ∧ i ≤ n ∧ Sec (goodFrom [] fs = goodFrom last (fs.drop i)) ∧ Gr wa wr) (fun _ iv _ _ => n - (intOf iv).toNat)
  case atStart => exact ⟨0, [], rfl, rfl, by omega, sec rfl, Gr.refl _⟩
  case round =>
    obtain ⟨i, last, rfl, rfl, hi, HG, hg⟩ := hrel
    by_cases hlt : i < n
    · have hif : i < fs.length := by omega
      have hii : (i : Int) < (n : Int) := by omega
      have hsz := HSZ.out fs[i] (List.getElem_mem hif)
      have hgo := HG.out
      rw [List.drop_eq_getElem_cons hif, goodFrom_cons] at hgo
      obtain ⟨b, off, rfl, e0, e1, e2⟩ := (HX.out.gr hg).cell hif
      obtain ⟨x, hx⟩ : ∃ x, x = fs[i] := ⟨_, rfl⟩
      rw [← hx] at e0 e1 e2 hsz hgo
      clear hx hif
      obtain ⟨nm, sf, tl⟩ := x
      simp only at e0 e1 e2 hsz hgo
      have HGO := sec hgo
      have HN := sec (fun w => fileName_any nm w (by omega))
      obtain ⟨h1, h2, h3⟩ := hsz
      clear hgo
      have HNB : Sec (∀ B, namedB nm = B → namedB nm = B) := sec fun _ h => h
      cases hnb : namedB nm with
      | false =>
        have HF : Sec (goodFs fs = false) := sec (by unfold goodFs; rw [HGO.out]; unfold fileOk; rw [hnb]; simp)
        rw [hnb] at HN
        clear hnb
        go_wp2_with (go_at_call 81; refine Calls.mono (HN.out _) ?_; rintro e w1 ⟨rfl, g1⟩)
        go_ret
        exact ⟨by rw [HF.out]; rfl, hg0.trans ((hg.alloc _).trans g1)⟩
      | true =>
        rw [hnb] at HN
        cases hlt2 : ltB last nm with
        | false =>
          have q1 : (Op.bytesLess nm last || nm == last) = true := by
            cases h : Op.bytesLess nm last
            · rw [ltB_tri nm last h hlt2]; simp
            · rfl
          have HF : Sec (goodFs fs = false) := sec (by unfold goodFs; rw [HGO.out]; unfold fileOk; rw [hlt2]; simp)
          clear hlt2 hnb
          go_wp2_with (go_at_call 81; refine Calls.mono (HN.out _) ?_; rintro e w1 ⟨rfl, g1⟩; have hFB := (Blk.new wr 87 #[.string (bs nm), .string (bs sf), .string (bs tl)]).gr g1; have c0f : w1.cell? ⟨wr.heap.size, 0, none⟩ = some (.string (bs nm)) := hFB.cell 0; have c1f : w1.cell? ⟨wr.heap.size, 1, none⟩ = some (.string (bs sf)) := hFB.cell 1; have c2f : w1.cell? ⟨wr.heap.size, 2, none⟩ = some (.string (bs tl)) := hFB.cell 2; clear hFB)
          go_ret
          exact ⟨by rw [HF.out]; rfl, hg0.trans ((hg.alloc _).trans g1)⟩
        | true =>
          have q1 : Op.bytesLess nm last = false := ltB_asym hlt2
          have q2 : (nm == last) = false := by
            rw [beq_eq_false_iff_ne]
            intro e; subst e; rw [ltB_irr] at hlt2; cases hlt2
          by_cases hs1 : sf.length ≤ 1048576
          · have q3 : ¬ (1048576 : Int) < (sf.length : Int) := by omega
            by_cases hs2 : sf.length + tl.length ≤ 1048576
            · have q4 : ¬ (1048576 : Int) < (sf.length : Int) + (tl.length : Int) := by omega
              have HOK : Sec (goodFrom [] fs = goodFrom nm (fs.drop (i + 1))) := sec (by
                rw [HGO.out]; unfold fileOk; rw [hnb, hlt2, decide_eq_true ⟨hs1, hs2⟩]; rfl)
              clear hnb hlt2 hs1 hs2
              go_wp2_with (go_at_call 81; refine Calls.mono (HN.out _) ?_; rintro e w1 ⟨rfl, g1⟩; have hFB := (Blk.new wr 87 #[.string (bs nm), .string (bs sf), .string (bs tl)]).gr g1; have c0f : w1.cell? ⟨wr.heap.size, 0, none⟩ = some (.string (bs nm)) := hFB.cell 0; have c1f : w1.cell? ⟨wr.heap.size, 1, none⟩ = some (.string (bs sf)) := hFB.cell 1; have c2f : w1.cell? ⟨wr.heap.size, 2, none⟩ = some (.string (bs tl)) := hFB.cell 2; clear hFB)
              go_roundw
              case rel => exact ⟨i + 1, nm, rfl, by go_num, by omega, HOK, (hg.alloc _).trans g1⟩
              case measure => simp [intOf]; omega
            · have q4 : (1048576 : Int) < (sf.length : Int) + (tl.length : Int) := by omega
              have hd : decide (sf.length ≤ 1048576 ∧ sf.length + tl.length ≤ 1048576) = false := decide_eq_false (fun h => hs2 h.2)
              have HF : Sec (goodFs fs = false) := sec (by unfold goodFs; rw [HGO.out]; unfold fileOk; rw [hd]; simp)
              clear hlt2 hnb hd hs1 hs2
              go_wp2_with (go_at_call 81; refine Calls.mono (HN.out _) ?_; rintro e w1 ⟨rfl, g1⟩; have hFB := (Blk.new wr 87 #[.string (bs nm), .string (bs sf), .string (bs tl)]).gr g1; have c0f : w1.cell? ⟨wr.heap.size, 0, none⟩ = some (.string (bs nm)) := hFB.cell 0; have c1f : w1.cell? ⟨wr.heap.size, 1, none⟩ = some (.string (bs sf)) := hFB.cell 1; have c2f : w1.cell? ⟨wr.heap.size, 2, none⟩ = some (.string (bs tl)) := hFB.cell 2; clear hFB)
              go_ret
              exact ⟨by rw [HF.out]; rfl, hg0.trans ((hg.alloc _).trans g1)⟩
          · have q3 : (1048576 : Int) < (sf.length : Int) := by omega
            have hd : decide (sf.length ≤ 1048576 ∧ sf.length + tl.length ≤ 1048576) = false := decide_eq_false (fun h => hs1 h.1)
            have HF : Sec (goodFs fs = false) := sec (by unfold goodFs; rw [HGO.out]; unfold fileOk; rw [hd]; simp)
            clear hlt2 hnb hd hs1
            go_wp2_with (go_at_call 81; refine Calls.mono (HN.out _) ?_; rintro e w1 ⟨rfl, g1⟩; have hFB := (Blk.new wr 87 #[.string (bs nm), .string (bs sf), .string (bs tl)]).gr g1; have c0f : w1.cell? ⟨wr.heap.size, 0, none⟩ = some (.string (bs nm)) := hFB.cell 0; have c1f : w1.cell? ⟨wr.heap.size, 1, none⟩ = some (.string (bs sf)) := hFB.cell 1; have c2f : w1.cell? ⟨wr.heap.size, 2, none⟩ = some (.string (bs tl)) := hFB.cell 2; clear hFB)
            go_ret
            exact ⟨by rw [HF.out]; rfl, hg0.trans ((hg.alloc _).trans g1)⟩
    · obtain rfl : i = n := by omega
      have hgd := HG.out
      rw [List.drop_eq_nil_of_le (by omega)] at hgd
      have d1 : wr.cell? ⟨w.heap.size, 0, none⟩ = some (.slice A i cap) := (HB.out.gr hg).cell 0
      have HF : Sec (goodFs fs = decide ((i : Int) ≤ 400)) := sec (by
        unfold goodFs; rw [hgd, hl, show goodFrom last [] = true from rfl, Bool.and_true]
        exact decide_eq_decide.2 (by omega))
      clear hgd hlt hi
      go_wp2_with fail
      all_goals
        go_ret
        exact ⟨by rw [HF.out]; simp, hg0.trans hg⟩
end Go.Proofs.YtbhpglhmnpcnkaaDoor

namespace Go.Proofs.YtbhpglhmnpcnkaaDoor
open Go.RowKit
set_option linter.unusedVariables false

theorem oper_wp_post {P : Program} {o : Oper} {a : Act} {w : World} {K K' : Act → World → Prop} {Q Q' : Exit → Act → World → Prop} (h : ∀ a w, K a w → K' a w)
    (hq : ∀ e a w, e ≠ .normal → Q e a w → Q' e a w) (hh : o.wp P a w K Q) : o.wp P a w K' Q' := by
  unfold Oper.wp at *
  generalize (execOp a.eval o).run P w = r at *
  cases r with
  | ok n w' =>
    cases n <;> simp only [Oper.upon] at hh ⊢ <;>
      first
        | exact h _ _ hh
        | exact Calls.mono hh (fun e w'' he => by
            cases e with
            | returned v => exact h _ _ he
            | panicked c => exact hq _ _ _ (by intro h; cases h) he
            | outgrown => exact he.elim (fun a h1 => h1.elim (fun w h2 => ⟨a, w, hq _ _ _ (by intro h; cases h) h2⟩)))
        | exact Rows.mono hh (fun _ _ he => h _ _ he)
        | exact hq _ _ _ (by intro h; cases h) hh
  | halt x w' => cases x <;> simp only [Oper.upon] at hh ⊢ <;> first | exact hq _ _ _ (by intro h; cases h) hh | exact hh | exact hh.elim (fun a h1 => h1.elim (fun w h2 => ⟨a, w, hq _ _ _ (by intro h; cases h) h2⟩))

/-- the first n operations from k on are each the only one that may come up -/
def seqHB (md : Region.Mode) (ops : Array Oper) : Nat → Nat → Array Bool → Bool
  | 0, _, _ => true
  | n + 1, k, listed => decide (Region.ready md ops listed = [k]) && seqHB md ops n (k + 1) (listed.setIfInBounds k true)
def markN : Nat → Nat → Array Bool → Array Bool
  | 0, _, listed => listed
  | n + 1, k, listed => markN n (k + 1) (listed.setIfInBounds k true)

/-- a post that goes on, in the place of 'normal' -/
def OnQ (K : Act → World → Prop) (Q : Exit → Act → World → Prop) : Exit → Act → World → Prop
  | .normal, a, w => K a w
  | e, a, w => Q e a w
theorem OnQ.out {K : Act → World → Prop} {Q : Exit → Act → World → Prop} (e : Exit) (a : Act) (w : World) (h : e ≠ .normal) (hh : OnQ K Q e a w) : Q e a w := by
  cases e <;> first | exact absurd rfl h | exact hh

theorem wpAny_seqHead {P : Program} {md : Region.Mode} {ops : Array Oper} {Q : Exit → Act → World → Prop} {g : Nat} {K : Act → World → Prop} : ∀ (l : List Oper) (k : Nat) (listed : Array Bool) (a : Act) (w : World),
    (∀ j, j < l.length → l[j]? = ops[k + j]?) → seqHB md ops l.length k listed = true →
    (∀ a w, K a w → wpAny P md ops Q g (markN l.length k listed) a w) → wpList P ops (OnQ K Q) l a w → wpAny P md ops Q (l.length + g) listed a w
  | [], k, listed, a, w, _, _, hk, h => by
    simp only [List.length_nil, Nat.zero_add]
    exact hk a w h
  | o :: l, k, listed, a, w, hl, hB, hk, h => by
    have h0 : ops[k]? = some o := by simpa using (hl 0 (by simp)).symm
    simp only [List.length_cons, seqHB, Bool.and_eq_true, decide_eq_true_eq] at hB
    rw [List.length_cons, show l.length + 1 + g = (l.length + g) + 1 by omega]
    refine ⟨fun h1 => (by rw [hB.1] at h1; cases h1), fun i hi => ?_⟩
    rw [hB.1] at hi
    have hik : i = k := by simpa using hi
    subst hik
    have ih := fun a' w' h' => wpAny_seqHead (Q := Q) (g := g) (K := K) l (i + 1) (listed.setIfInBounds i true) a' w' (fun j hj => by
      have := hl (j + 1) (by simp only [List.length_cons]; omega); simpa [Nat.add_assoc, Nat.add_comm 1 j] using this) hB.2 hk h'
    unfold wpOp
    simp only [h0]
    simp only [wpList] at h
    split
    · rename_i hw
      simp only [hw, if_true] at h
      rcases h with h | ⟨h1, a1, w1, h2⟩
      · exact .inl (oper_wp_post ih OnQ.out h)
      · exact .inr ⟨h1, a1, w1, OnQ.out _ _ _ (by intro h; cases h) h2⟩
    · rename_i hw
      simp only [hw] at h
      exact ih _ _ h

def headStillB (ops : Array Oper) (n : Nat) : Bool :=
  Region.noSelect ops && seqHB .any ops n 0 (Array.replicate ops.size false) && Region.lexFrom .any ops (ops.size - n) n (markN n 0 (Array.replicate ops.size false))

theorem region_head_quiet {P : Program} {id : Nat} {Q : Exit → Act → World → Prop} {a : Act} {w : World} {l : List Oper} (n : Nat) (hm : P.follows .mixedOrders = true) (hn : n ≤ l.length) (hB : headStillB l.toArray n = true)
    (h : ∀ wd, wd = w.drew → wpList P l.toArray (OnQ (fun a' w' => wpQuiet P l.toArray (fun w'' => ∃ n, w'' = w'.drewN n) (fun a'' => ∀ w'', (∃ n, w'' = w'.drewN n) → Q .normal a'' w'') (l.drop n) a') Q) (l.take n) a wd) : (Code.region id l.toArray true).wp P Q a w := by
  simp only [headStillB, Bool.and_eq_true] at hB
  obtain ⟨⟨hs, hq⟩, hlx⟩ := hB
  refine wp_region_any hm ?_
  have htl : (l.take n).length = n := by simp; omega
  have hdl : (l.drop n).length = l.toArray.size - n := by simp
  have := wpAny_seqHead (P := P) (md := .any) (ops := l.toArray) (Q := Q) (g := l.toArray.size - n) (K := fun a' w' => wpQuiet P l.toArray (fun w'' => ∃ n, w'' = w'.drewN n) (fun a'' => ∀ w'', (∃ n, w'' = w'.drewN n) → Q .normal a'' w'') (l.drop n) a')
    (l.take n) 0 (Array.replicate l.toArray.size false) a { w with drawn := w.drawn + 1 }
    (fun j hj => by rw [htl] at hj; simp [hj]) (by rw [htl]; exact hq)
    (fun a' w' hk => by
      rw [htl]
      have := wpAnyQ_lex (P := P) (C := fun w'' => ∃ n, w'' = w'.drewN n) (md := .any) (Q := fun a'' => ∀ w'', (∃ n, w'' = w'.drewN n) → Q .normal a'' w'') hs (l.drop n) n (markN n 0 (Array.replicate l.toArray.size false)) a' (fun j => by simp [List.getElem?_drop]) (by rw [hdl]; exact hlx) hk
      rw [hdl] at this
      exact wpAny_of_quiet (P := P) (C := fun w'' => ∃ n, w'' = w'.drewN n) (Q := fun a'' => ∀ w'', (∃ n, w'' = w'.drewN n) → Q .normal a'' w'') (Q' := Q) (fun a'' w'' hw h => h w'' hw) (l.toArray.size - n) (markN n 0 (Array.replicate l.toArray.size false)) a' w' ⟨0, rfl⟩ this) (h _ rfl)
  rw [htl, show n + (l.toArray.size - n) = l.toArray.size by simp; omega] at this
  exact this

end Go.Proofs.YtbhpglhmnpcnkaaDoor

namespace Go.Proofs.YtbhpglhmnpcnkaaDoor
open Go.RowKit
set_option linter.unusedVariables false

set_option maxRecDepth 100000 in
set_option maxHeartbeats 8000000 in
theorem dgood_any (fs : List Fl) (A : Option Addr) (n cap : Nat) (f : Int) (w : World) (hn : n ≤ 1099511627776) (hx : FRow w A n fs) (hs : ∀ f ∈ fs, f.1.length ≤ 1099511627776 ∧ f.2.1.length ≤ 1099511627776 ∧ f.2.2.length ≤ 1099511627776) :
    Calls Tryd.prog 54 #[diskV A n cap f] w fun e w' => e = .returned (.bool (goodFs fs)) ∧ Gr w w' := by
  unfold diskV
  have hl := hx.len
  by_cases h400 : n ≤ 400
  · have HG0 : Sec (goodFs fs = goodFrom [] fs) := sec (by unfold goodFs; rw [decide_eq_true (show fs.length ≤ 400 by omega), Bool.true_and])
    rw [HG0.out]
    have q400 : ¬ (400 : Int) < (n : Int) := by omega
    go_enter Tryd.func54, Tryd.ntmps54
    go_wp2_with fail
    have hb1 := Blk.new w 24 #[.slice A n cap, .int .i64 f]
    have hg0 := (Gr.refl w).alloc (.cells #[.slice A n cap, .int .i64 f] 24)
    obtain ⟨wa, hwa⟩ : ∃ x, x = w.alloc (.cells #[.slice A n cap, .int .i64 f] 24) := ⟨_, rfl⟩
    rw [← hwa] at hb1 hg0
    rw [← hwa]
    have HX := sec (hx.gr hg0)
    have HB := sec hb1
    have HSZ := sec hs
    clear hwa hx hb1 hs
    go_loopw [12, 4, 3] (fun iv _ _ wr => ∃ (i : Nat) (last : List UInt8), iv = .int .i64 (i : Int) ∧ i ≤ n ∧ Sec (i = 0 ∧ last = [] ∨ ∃ j, i = j + 1 ∧ ∃ h : j < fs.length, last = fs[j].1) ∧ Sec (goodFrom [] fs = goodFrom last (fs.drop i)) ∧ Gr wa wr) (fun iv _ _ _ => n - (intOf iv).toNat)
    case atStart => exact ⟨0, [], rfl, by omega, sec (.inl ⟨rfl, rfl⟩), sec rfl, Gr.refl _⟩
    case round =>
      obtain ⟨i, last, rfl, hi, HL, HG, hg⟩ := hrel
      by_cases hlt : i < n
      · have hif : i < fs.length := by omega
        have hii : (i : Int) < (n : Int) := by omega
        have hsz := HSZ.out fs[i] (List.getElem_mem hif)
        have hgo := HG.out
        rw [List.drop_eq_getElem_cons hif, goodFrom_cons] at hgo
        obtain ⟨b, off, rfl, e0, e1, e2⟩ := (HX.out.gr hg).cell hif
        have HNX : Sec (∃ h : i < fs.length, fs[i].1 = fs[i].1) := sec ⟨hif, rfl⟩
        obtain ⟨x, hx⟩ : ∃ x, x = fs[i] := ⟨_, rfl⟩
        have HXI : Sec (i + 1 = 0 ∧ x.1 = [] ∨ ∃ j, i + 1 = j + 1 ∧ ∃ h : j < fs.length, x.1 = fs[j].1) := sec (.inr ⟨i, rfl, hif, by rw [hx]⟩)
        rw [← hx] at e0 e1 e2 hsz hgo
        clear hx HNX
        obtain ⟨nm, sf, tl⟩ := x
        simp only at e0 e1 e2 hsz hgo HXI
        have HGO := sec hgo
        have HN := sec (fun w => named_any nm w (by omega))
        obtain ⟨h1, h2, h3⟩ := hsz
        have HIF := sec hif
        clear hgo hif
        have hprev := HL.out
        rcases hprev with ⟨rfl, rfl⟩ | ⟨j, hj, hjl, hlast⟩
        · rw [show ((0 : Nat) : Int) = 0 from rfl] at hii
          rw [show ((0 : Nat) : Int) = 0 from rfl]
          simp only [Nat.zero_mul, Nat.add_zero] at e0 e1 e2
          cases hnb : namedB nm with
          | false =>
            have HF : Sec (goodFrom [] fs = false) := sec (by rw [HGO.out]; unfold fileOk; rw [hnb]; simp)
            rw [hnb] at HN
            clear hnb
            go_wp2_with fail
            have hFB := Blk.new wr 87 #[.string (bs nm), .string (bs sf), .string (bs tl)]
            have hBX := ((HB.out.gr hg).alloc (.cells #[.string (bs nm), .string (bs sf), .string (bs tl)] 87))
            have hgx := hg.alloc (.cells #[.string (bs nm), .string (bs sf), .string (bs tl)] 87)
            obtain ⟨wx, hwx⟩ : ∃ x, x = wr.alloc (.cells #[.string (bs nm), .string (bs sf), .string (bs tl)] 87) := ⟨_, rfl⟩
            obtain ⟨q, hq⟩ : ∃ q, q = wr.heap.size := ⟨_, rfl⟩
            rw [← hwx] at hFB hBX hgx
            rw [← hq] at hFB
            rw [← hwx, ← hq]
            have HFB := sec hFB
            have HBX := sec hBX
            clear hwx hq hFB hBX e0 e1 e2
            refine region_head_quiet 3 (by kernel_rfl) (by decide) (by kernel_rfl) (fun wd hwd => ?_)
            simp only [List.take_succ_cons, List.take_zero, List.drop_succ_cons, List.drop_zero]
            have gd : Gr wx wd := by rw [hwd]; exact (Gr.refl _).drew
            clear hwd
            have c0d : wd.cell? ⟨q, 0, none⟩ = some (.string (bs nm)) := (HFB.out.gr gd).cell 0
            go_wp2_with (go_at_call 71; refine (HN.out _).mono ?_; rintro e w1 ⟨rfl, g1⟩; have gg1 : Gr wx w1 := gd.trans g1)
            have c0y : w1.cell? ⟨q, 0, none⟩ = some (.string (bs nm)) := (HFB.out.gr gg1).cell 0
            have c1y : w1.cell? ⟨q, 1, none⟩ = some (.string (bs sf)) := (HFB.out.gr gg1).cell 1
            have c2y : w1.cell? ⟨q, 2, none⟩ = some (.string (bs tl)) := (HFB.out.gr gg1).cell 2
            have d0y : w1.cell? ⟨w.heap.size, 0, none⟩ = some (.slice (some ⟨b, off, none⟩) n cap) := (HBX.out.gr gg1).cell 0
            simp only [OnQ]
            clear g1 gd c0d
            repeat (go_big_quiet_step (fail))
            refine wpQuiet_nil ?_
            intro _ hw'
            obtain ⟨nq, hw''⟩ := hw'
            subst hw''
            have gg2 : Gr wx (w1.drewN nq) := Gr.drewN gg1 nq
            go_wp2_with fail
            go_ret
            exact ⟨by rw [HF.out]; rfl, hg0.trans (hgx.trans gg2)⟩
          | true =>
            rw [hnb] at HN
            have hlt2 : ltB [] nm = true := ltB_nil (namedB_ne hnb)
            by_cases hs1 : sf.length ≤ 1048576
            · have q3 : decide ((1048576 : Int) < (sf.length : Int)) = false := decide_eq_false (by omega)
              by_cases hs2 : sf.length + tl.length ≤ 1048576
              · have q4 : decide ((1048576 : Int) - (sf.length : Int) < (tl.length : Int)) = false := decide_eq_false (by omega)
                have HOK : Sec (goodFrom [] fs = goodFrom nm (fs.drop (0 + 1))) := sec (by
                  rw [HGO.out]; unfold fileOk; rw [hnb, hlt2, decide_eq_true ⟨hs1, hs2⟩]; rfl)
                clear hnb hlt2 hs1 hs2
                go_wp2_with fail
                have hFB := Blk.new wr 87 #[.string (bs nm), .string (bs sf), .string (bs tl)]
                have hBX := ((HB.out.gr hg).alloc (.cells #[.string (bs nm), .string (bs sf), .string (bs tl)] 87))
                have hgx := hg.alloc (.cells #[.string (bs nm), .string (bs sf), .string (bs tl)] 87)
                obtain ⟨wx, hwx⟩ : ∃ x, x = wr.alloc (.cells #[.string (bs nm), .string (bs sf), .string (bs tl)] 87) := ⟨_, rfl⟩
                obtain ⟨q, hq⟩ : ∃ q, q = wr.heap.size := ⟨_, rfl⟩
                rw [← hwx] at hFB hBX hgx
                rw [← hq] at hFB
                rw [← hwx, ← hq]
                have HFB := sec hFB
                have HBX := sec hBX
                clear hwx hq hFB hBX e0 e1 e2
                refine region_head_quiet 3 (by kernel_rfl) (by decide) (by kernel_rfl) (fun wd hwd => ?_)
                simp only [List.take_succ_cons, List.take_zero, List.drop_succ_cons, List.drop_zero]
                have gd : Gr wx wd := by rw [hwd]; exact (Gr.refl _).drew
                clear hwd
                have c0d : wd.cell? ⟨q, 0, none⟩ = some (.string (bs nm)) := (HFB.out.gr gd).cell 0
                go_wp2_with (go_at_call 71; refine (HN.out _).mono ?_; rintro e w1 ⟨rfl, g1⟩; have gg1 : Gr wx w1 := gd.trans g1)
                have c0y : w1.cell? ⟨q, 0, none⟩ = some (.string (bs nm)) := (HFB.out.gr gg1).cell 0
                have c1y : w1.cell? ⟨q, 1, none⟩ = some (.string (bs sf)) := (HFB.out.gr gg1).cell 1
                have c2y : w1.cell? ⟨q, 2, none⟩ = some (.string (bs tl)) := (HFB.out.gr gg1).cell 2
                have d0y : w1.cell? ⟨w.heap.size, 0, none⟩ = some (.slice (some ⟨b, off, none⟩) n cap) := (HBX.out.gr gg1).cell 0
                simp only [OnQ]
                clear g1 gd c0d
                repeat (go_big_quiet_step (fail))
                refine wpQuiet_nil ?_
                intro _ hw'
                obtain ⟨nq, hw''⟩ := hw'
                subst hw''
                have gg2 : Gr wx (w1.drewN nq) := Gr.drewN gg1 nq
                go_wp2_with fail
                go_roundw
                case rel => exact ⟨0 + 1, nm, rfl, by omega, HXI, HOK, hgx.trans gg2⟩
                case measure => simp [intOf]; omega
              · have q4 : (1048576 : Int) - (sf.length : Int) < (tl.length : Int) := by omega
                have hd : decide (sf.length ≤ 1048576 ∧ sf.length + tl.length ≤ 1048576) = false := decide_eq_false (fun h => hs2 h.2)
                have HF : Sec (goodFrom [] fs = false) := sec (by rw [HGO.out]; unfold fileOk; rw [hd]; simp)
                clear hnb hlt2 hd hs1 hs2
                go_wp2_with fail
                have hFB := Blk.new wr 87 #[.string (bs nm), .string (bs sf), .string (bs tl)]
                have hBX := ((HB.out.gr hg).alloc (.cells #[.string (bs nm), .string (bs sf), .string (bs tl)] 87))
                have hgx := hg.alloc (.cells #[.string (bs nm), .string (bs sf), .string (bs tl)] 87)
                obtain ⟨wx, hwx⟩ : ∃ x, x = wr.alloc (.cells #[.string (bs nm), .string (bs sf), .string (bs tl)] 87) := ⟨_, rfl⟩
                obtain ⟨q, hq⟩ : ∃ q, q = wr.heap.size := ⟨_, rfl⟩
                rw [← hwx] at hFB hBX hgx
                rw [← hq] at hFB
                rw [← hwx, ← hq]
                have HFB := sec hFB
                have HBX := sec hBX
                clear hwx hq hFB hBX e0 e1 e2
                refine region_head_quiet 3 (by kernel_rfl) (by decide) (by kernel_rfl) (fun wd hwd => ?_)
                simp only [List.take_succ_cons, List.take_zero, List.drop_succ_cons, List.drop_zero]
                have gd : Gr wx wd := by rw [hwd]; exact (Gr.refl _).drew
                clear hwd
                have c0d : wd.cell? ⟨q, 0, none⟩ = some (.string (bs nm)) := (HFB.out.gr gd).cell 0
                go_wp2_with (go_at_call 71; refine (HN.out _).mono ?_; rintro e w1 ⟨rfl, g1⟩; have gg1 : Gr wx w1 := gd.trans g1)
                have c0y : w1.cell? ⟨q, 0, none⟩ = some (.string (bs nm)) := (HFB.out.gr gg1).cell 0
                have c1y : w1.cell? ⟨q, 1, none⟩ = some (.string (bs sf)) := (HFB.out.gr gg1).cell 1
                have c2y : w1.cell? ⟨q, 2, none⟩ = some (.string (bs tl)) := (HFB.out.gr gg1).cell 2
                have d0y : w1.cell? ⟨w.heap.size, 0, none⟩ = some (.slice (some ⟨b, off, none⟩) n cap) := (HBX.out.gr gg1).cell 0
                simp only [OnQ]
                clear g1 gd c0d
                repeat (go_big_quiet_step (fail))
                refine wpQuiet_nil ?_
                intro _ hw'
                obtain ⟨nq, hw''⟩ := hw'
                subst hw''
                have gg2 : Gr wx (w1.drewN nq) := Gr.drewN gg1 nq
                go_wp2_with fail
                go_ret
                exact ⟨by rw [HF.out]; rfl, hg0.trans (hgx.trans gg2)⟩
            · have q3 : (1048576 : Int) < (sf.length : Int) := by omega
              have hd : decide (sf.length ≤ 1048576 ∧ sf.length + tl.length ≤ 1048576) = false := decide_eq_false (fun h => hs1 h.1)
              have HF : Sec (goodFrom [] fs = false) := sec (by rw [HGO.out]; unfold fileOk; rw [hd]; simp)
              clear hnb hlt2 hd hs1
              go_wp2_with fail
              have hFB := Blk.new wr 87 #[.string (bs nm), .string (bs sf), .string (bs tl)]
              have hBX := ((HB.out.gr hg).alloc (.cells #[.string (bs nm), .string (bs sf), .string (bs tl)] 87))
              have hgx := hg.alloc (.cells #[.string (bs nm), .string (bs sf), .string (bs tl)] 87)
              obtain ⟨wx, hwx⟩ : ∃ x, x = wr.alloc (.cells #[.string (bs nm), .string (bs sf), .string (bs tl)] 87) := ⟨_, rfl⟩
              obtain ⟨q, hq⟩ : ∃ q, q = wr.heap.size := ⟨_, rfl⟩
              rw [← hwx] at hFB hBX hgx
              rw [← hq] at hFB
              rw [← hwx, ← hq]
              have HFB := sec hFB
              have HBX := sec hBX
              clear hwx hq hFB hBX e0 e1 e2
              refine region_head_quiet 3 (by kernel_rfl) (by decide) (by kernel_rfl) (fun wd hwd => ?_)
              simp only [List.take_succ_cons, List.take_zero, List.drop_succ_cons, List.drop_zero]
              have gd : Gr wx wd := by rw [hwd]; exact (Gr.refl _).drew
              clear hwd
              have c0d : wd.cell? ⟨q, 0, none⟩ = some (.string (bs nm)) := (HFB.out.gr gd).cell 0
              go_wp2_with (go_at_call 71; refine (HN.out _).mono ?_; rintro e w1 ⟨rfl, g1⟩; have gg1 : Gr wx w1 := gd.trans g1)
              have c0y : w1.cell? ⟨q, 0, none⟩ = some (.string (bs nm)) := (HFB.out.gr gg1).cell 0
              have c1y : w1.cell? ⟨q, 1, none⟩ = some (.string (bs sf)) := (HFB.out.gr gg1).cell 1
              have c2y : w1.cell? ⟨q, 2, none⟩ = some (.string (bs tl)) := (HFB.out.gr gg1).cell 2
              have d0y : w1.cell? ⟨w.heap.size, 0, none⟩ = some (.slice (some ⟨b, off, none⟩) n cap) := (HBX.out.gr gg1).cell 0
              simp only [OnQ]
              clear g1 gd c0d
              repeat (go_big_quiet_step (fail))
              refine wpQuiet_nil ?_
              intro _ hw'
              obtain ⟨nq, hw''⟩ := hw'
              subst hw''
              have gg2 : Gr wx (w1.drewN nq) := Gr.drewN gg1 nq
              go_wp2_with fail
              go_ret
              exact ⟨by rw [HF.out]; rfl, hg0.trans (hgx.trans gg2)⟩
        · have hij : (i : Int) - 1 = (j : Int) := by omega
          have hi0 : 0 < i := by omega
          have hjn : (j : Int) < (n : Int) := by omega
          have p0 : wr.cell? ⟨b, off + j * 3, none⟩ = some (.string (bs last)) := by
            obtain ⟨b', off', e, h0, _, _⟩ := (HX.out.gr hg).cell hjl
            injection e with e; injection e with e3 e4 _
            subst e3 e4
            rw [hlast]; exact h0
          have hbl : b < wr.heap.size := World.block_lt_of_cell? wr _ p0
          have HIJ := sec (And.intro hij hi0)
          clear hlast hij hj hi0
          cases hnb : namedB nm with
          | false =>
            have HF : Sec (goodFrom [] fs = false) := sec (by rw [HGO.out]; unfold fileOk; rw [hnb]; simp)
            rw [hnb] at HN
            clear hnb
            go_wp2_with fail
            have hFB := Blk.new wr 87 #[.string (bs nm), .string (bs sf), .string (bs tl)]
            have hBX := ((HB.out.gr hg).alloc (.cells #[.string (bs nm), .string (bs sf), .string (bs tl)] 87))
            have hgx := hg.alloc (.cells #[.string (bs nm), .string (bs sf), .string (bs tl)] 87)
            have p0x := (World.cell?_alloc_lt wr (.cells #[.string (bs nm), .string (bs sf), .string (bs tl)] 87) ⟨b, off + j * 3, none⟩ hbl).trans p0
            have hbx : b < (wr.alloc (.cells #[.string (bs nm), .string (bs sf), .string (bs tl)] 87)).heap.size := by rw [World.size_alloc]; omega
            obtain ⟨wx, hwx⟩ : ∃ x, x = wr.alloc (.cells #[.string (bs nm), .string (bs sf), .string (bs tl)] 87) := ⟨_, rfl⟩
            obtain ⟨q, hq⟩ : ∃ q, q = wr.heap.size := ⟨_, rfl⟩
            rw [← hwx] at hFB hBX hgx p0x hbx
            rw [← hq] at hFB
            rw [← hwx, ← hq]
            have HFB := sec hFB
            have HBX := sec hBX
            clear hwx hq hFB hBX e0 e1 e2 p0 hbl
            refine region_head_quiet 3 (by kernel_rfl) (by decide) (by kernel_rfl) (fun wd hwd => ?_)
            simp only [List.take_succ_cons, List.take_zero, List.drop_succ_cons, List.drop_zero]
            have gd : Gr wx wd := by rw [hwd]; exact (Gr.refl _).drew
            clear hwd
            have c0d : wd.cell? ⟨q, 0, none⟩ = some (.string (bs nm)) := (HFB.out.gr gd).cell 0
            go_wp2_with (go_at_call 71; refine (HN.out _).mono ?_; rintro e w1 ⟨rfl, g1⟩; have gg1 : Gr wx w1 := gd.trans g1)
            have c0y : w1.cell? ⟨q, 0, none⟩ = some (.string (bs nm)) := (HFB.out.gr gg1).cell 0
            have c1y : w1.cell? ⟨q, 1, none⟩ = some (.string (bs sf)) := (HFB.out.gr gg1).cell 1
            have c2y : w1.cell? ⟨q, 2, none⟩ = some (.string (bs tl)) := (HFB.out.gr gg1).cell 2
            have d0y : w1.cell? ⟨w.heap.size, 0, none⟩ = some (.slice (some ⟨b, off, none⟩) n cap) := (HBX.out.gr gg1).cell 0
            obtain ⟨hij, hi0⟩ := HIJ.out
            have p0y : w1.cell? ⟨b, off + j * 3, none⟩ = some (.string (bs last)) := (gg1.cells.1 b _ hbx).trans p0x
            simp only [OnQ]
            clear g1 gd c0d
            repeat (go_big_quiet_step (fail))
            refine wpQuiet_nil ?_
            intro _ hw'
            obtain ⟨nq, hw''⟩ := hw'
            subst hw''
            have gg2 : Gr wx (w1.drewN nq) := Gr.drewN gg1 nq
            clear hij hi0
            go_wp2_with fail
            go_ret
            exact ⟨by rw [HF.out]; rfl, hg0.trans (hgx.trans gg2)⟩
          | true =>
            rw [hnb] at HN
            cases hlt2 : ltB last nm with
            | false =>
              have HF : Sec (goodFrom [] fs = false) := sec (by rw [HGO.out]; unfold fileOk; rw [hlt2]; simp)
              have q1 : Op.bytesLess last nm = false := hlt2
              clear hnb hlt2
              go_wp2_with fail
              have hFB := Blk.new wr 87 #[.string (bs nm), .string (bs sf), .string (bs tl)]
              have hBX := ((HB.out.gr hg).alloc (.cells #[.string (bs nm), .string (bs sf), .string (bs tl)] 87))
              have hgx := hg.alloc (.cells #[.string (bs nm), .string (bs sf), .string (bs tl)] 87)
              have p0x := (World.cell?_alloc_lt wr (.cells #[.string (bs nm), .string (bs sf), .string (bs tl)] 87) ⟨b, off + j * 3, none⟩ hbl).trans p0
              have hbx : b < (wr.alloc (.cells #[.string (bs nm), .string (bs sf), .string (bs tl)] 87)).heap.size := by rw [World.size_alloc]; omega
              obtain ⟨wx, hwx⟩ : ∃ x, x = wr.alloc (.cells #[.string (bs nm), .string (bs sf), .string (bs tl)] 87) := ⟨_, rfl⟩
              obtain ⟨q, hq⟩ : ∃ q, q = wr.heap.size := ⟨_, rfl⟩
              rw [← hwx] at hFB hBX hgx p0x hbx
              rw [← hq] at hFB
              rw [← hwx, ← hq]
              have HFB := sec hFB
              have HBX := sec hBX
              clear hwx hq hFB hBX e0 e1 e2 p0 hbl
              refine region_head_quiet 3 (by kernel_rfl) (by decide) (by kernel_rfl) (fun wd hwd => ?_)
              simp only [List.take_succ_cons, List.take_zero, List.drop_succ_cons, List.drop_zero]
              have gd : Gr wx wd := by rw [hwd]; exact (Gr.refl _).drew
              clear hwd
              have c0d : wd.cell? ⟨q, 0, none⟩ = some (.string (bs nm)) := (HFB.out.gr gd).cell 0
              go_wp2_with (go_at_call 71; refine (HN.out _).mono ?_; rintro e w1 ⟨rfl, g1⟩; have gg1 : Gr wx w1 := gd.trans g1)
              have c0y : w1.cell? ⟨q, 0, none⟩ = some (.string (bs nm)) := (HFB.out.gr gg1).cell 0
              have c1y : w1.cell? ⟨q, 1, none⟩ = some (.string (bs sf)) := (HFB.out.gr gg1).cell 1
              have c2y : w1.cell? ⟨q, 2, none⟩ = some (.string (bs tl)) := (HFB.out.gr gg1).cell 2
              have d0y : w1.cell? ⟨w.heap.size, 0, none⟩ = some (.slice (some ⟨b, off, none⟩) n cap) := (HBX.out.gr gg1).cell 0
              obtain ⟨hij, hi0⟩ := HIJ.out
              have p0y : w1.cell? ⟨b, off + j * 3, none⟩ = some (.string (bs last)) := (gg1.cells.1 b _ hbx).trans p0x
              simp only [OnQ]
              clear g1 gd c0d
              repeat (go_big_quiet_step (fail))
              refine wpQuiet_nil ?_
              intro _ hw'
              obtain ⟨nq, hw''⟩ := hw'
              subst hw''
              have gg2 : Gr wx (w1.drewN nq) := Gr.drewN gg1 nq
              clear hij hi0
              go_wp2_with fail
              go_ret
              exact ⟨by rw [HF.out]; rfl, hg0.trans (hgx.trans gg2)⟩
            | true =>
              have q1 : Op.bytesLess last nm = true := hlt2
              by_cases hs1 : sf.length ≤ 1048576
              · have q3 : decide ((1048576 : Int) < (sf.length : Int)) = false := decide_eq_false (by omega)
                by_cases hs2 : sf.length + tl.length ≤ 1048576
                · have q4 : decide ((1048576 : Int) - (sf.length : Int) < (tl.length : Int)) = false := decide_eq_false (by omega)
                  have HOK : Sec (goodFrom [] fs = goodFrom nm (fs.drop (i + 1))) := sec (by
                    rw [HGO.out]; unfold fileOk; rw [hnb, hlt2, decide_eq_true ⟨hs1, hs2⟩]; rfl)
                  clear hnb hlt2 hs1 hs2
                  go_wp2_with fail
                  have hFB := Blk.new wr 87 #[.string (bs nm), .string (bs sf), .string (bs tl)]
                  have hBX := ((HB.out.gr hg).alloc (.cells #[.string (bs nm), .string (bs sf), .string (bs tl)] 87))
                  have hgx := hg.alloc (.cells #[.string (bs nm), .string (bs sf), .string (bs tl)] 87)
                  have p0x := (World.cell?_alloc_lt wr (.cells #[.string (bs nm), .string (bs sf), .string (bs tl)] 87) ⟨b, off + j * 3, none⟩ hbl).trans p0
                  have hbx : b < (wr.alloc (.cells #[.string (bs nm), .string (bs sf), .string (bs tl)] 87)).heap.size := by rw [World.size_alloc]; omega
                  obtain ⟨wx, hwx⟩ : ∃ x, x = wr.alloc (.cells #[.string (bs nm), .string (bs sf), .string (bs tl)] 87) := ⟨_, rfl⟩
                  obtain ⟨q, hq⟩ : ∃ q, q = wr.heap.size := ⟨_, rfl⟩
                  rw [← hwx] at hFB hBX hgx p0x hbx
                  rw [← hq] at hFB
                  rw [← hwx, ← hq]
                  have HFB := sec hFB
                  have HBX := sec hBX
                  clear hwx hq hFB hBX e0 e1 e2 p0 hbl
                  refine region_head_quiet 3 (by kernel_rfl) (by decide) (by kernel_rfl) (fun wd hwd => ?_)
                  simp only [List.take_succ_cons, List.take_zero, List.drop_succ_cons, List.drop_zero]
                  have gd : Gr wx wd := by rw [hwd]; exact (Gr.refl _).drew
                  clear hwd
                  have c0d : wd.cell? ⟨q, 0, none⟩ = some (.string (bs nm)) := (HFB.out.gr gd).cell 0
                  go_wp2_with (go_at_call 71; refine (HN.out _).mono ?_; rintro e w1 ⟨rfl, g1⟩; have gg1 : Gr wx w1 := gd.trans g1)
                  have c0y : w1.cell? ⟨q, 0, none⟩ = some (.string (bs nm)) := (HFB.out.gr gg1).cell 0
                  have c1y : w1.cell? ⟨q, 1, none⟩ = some (.string (bs sf)) := (HFB.out.gr gg1).cell 1
                  have c2y : w1.cell? ⟨q, 2, none⟩ = some (.string (bs tl)) := (HFB.out.gr gg1).cell 2
                  have d0y : w1.cell? ⟨w.heap.size, 0, none⟩ = some (.slice (some ⟨b, off, none⟩) n cap) := (HBX.out.gr gg1).cell 0
                  obtain ⟨hij, hi0⟩ := HIJ.out
                  have p0y : w1.cell? ⟨b, off + j * 3, none⟩ = some (.string (bs last)) := (gg1.cells.1 b _ hbx).trans p0x
                  simp only [OnQ]
                  clear g1 gd c0d
                  repeat (go_big_quiet_step (fail))
                  refine wpQuiet_nil ?_
                  intro _ hw'
                  obtain ⟨nq, hw''⟩ := hw'
                  subst hw''
                  have gg2 : Gr wx (w1.drewN nq) := Gr.drewN gg1 nq
                  clear hij hi0
                  go_wp2_with fail
                  go_roundw
                  case rel => exact ⟨i + 1, nm, by go_num, by omega, HXI, HOK, hgx.trans gg2⟩
                  case measure => simp [intOf]; omega
                · have q4 : (1048576 : Int) - (sf.length : Int) < (tl.length : Int) := by omega
                  have hd : decide (sf.length ≤ 1048576 ∧ sf.length + tl.length ≤ 1048576) = false := decide_eq_false (fun h => hs2 h.2)
                  have HF : Sec (goodFrom [] fs = false) := sec (by rw [HGO.out]; unfold fileOk; rw [hd]; simp)
                  clear hnb hlt2 hd hs1 hs2
                  go_wp2_with fail
                  have hFB := Blk.new wr 87 #[.string (bs nm), .string (bs sf), .string (bs tl)]
                  have hBX := ((HB.out.gr hg).alloc (.cells #[.string (bs nm), .string (bs sf), .string (bs tl)] 87))
                  have hgx := hg.alloc (.cells #[.string (bs nm), .string (bs sf), .string (bs tl)] 87)
                  have p0x := (World.cell?_alloc_lt wr (.cells #[.string (bs nm), .string (bs sf), .string (bs tl)] 87) ⟨b, off + j * 3, none⟩ hbl).trans p0
                  have hbx : b < (wr.alloc (.cells #[.string (bs nm), .string (bs sf), .string (bs tl)] 87)).heap.size := by rw [World.size_alloc]; omega
                  obtain ⟨wx, hwx⟩ : ∃ x, x = wr.alloc (.cells #[.string (bs nm), .string (bs sf), .string (bs tl)] 87) := ⟨_, rfl⟩
                  obtain ⟨q, hq⟩ : ∃ q, q = wr.heap.size := ⟨_, rfl⟩
                  rw [← hwx] at hFB hBX hgx p0x hbx
                  rw [← hq] at hFB
                  rw [← hwx, ← hq]
                  have HFB := sec hFB
                  have HBX := sec hBX
                  clear hwx hq hFB hBX e0 e1 e2 p0 hbl
                  refine region_head_quiet 3 (by kernel_rfl) (by decide) (by kernel_rfl) (fun wd hwd => ?_)
                  simp only [List.take_succ_cons, List.take_zero, List.drop_succ_cons, List.drop_zero]
                  have gd : Gr wx wd := by rw [hwd]; exact (Gr.refl _).drew
                  clear hwd
                  have c0d : wd.cell? ⟨q, 0, none⟩ = some (.string (bs nm)) := (HFB.out.gr gd).cell 0
                  go_wp2_with (go_at_call 71; refine (HN.out _).mono ?_; rintro e w1 ⟨rfl, g1⟩; have gg1 : Gr wx w1 := gd.trans g1)
                  have c0y : w1.cell? ⟨q, 0, none⟩ = some (.string (bs nm)) := (HFB.out.gr gg1).cell 0
                  have c1y : w1.cell? ⟨q, 1, none⟩ = some (.string (bs sf)) := (HFB.out.gr gg1).cell 1
                  have c2y : w1.cell? ⟨q, 2, none⟩ = some (.string (bs tl)) := (HFB.out.gr gg1).cell 2
                  have d0y : w1.cell? ⟨w.heap.size, 0, none⟩ = some (.slice (some ⟨b, off, none⟩) n cap) := (HBX.out.gr gg1).cell 0
                  obtain ⟨hij, hi0⟩ := HIJ.out
                  have p0y : w1.cell? ⟨b, off + j * 3, none⟩ = some (.string (bs last)) := (gg1.cells.1 b _ hbx).trans p0x
                  simp only [OnQ]
                  clear g1 gd c0d
                  repeat (go_big_quiet_step (fail))
                  refine wpQuiet_nil ?_
                  intro _ hw'
                  obtain ⟨nq, hw''⟩ := hw'
                  subst hw''
                  have gg2 : Gr wx (w1.drewN nq) := Gr.drewN gg1 nq
                  clear hij hi0
                  go_wp2_with fail
                  go_ret
                  exact ⟨by rw [HF.out]; rfl, hg0.trans (hgx.trans gg2)⟩
              · have q3 : (1048576 : Int) < (sf.length : Int) := by omega
                have hd : decide (sf.length ≤ 1048576 ∧ sf.length + tl.length ≤ 1048576) = false := decide_eq_false (fun h => hs1 h.1)
                have HF : Sec (goodFrom [] fs = false) := sec (by rw [HGO.out]; unfold fileOk; rw [hd]; simp)
                clear hnb hlt2 hd hs1
                go_wp2_with fail
                have hFB := Blk.new wr 87 #[.string (bs nm), .string (bs sf), .string (bs tl)]
                have hBX := ((HB.out.gr hg).alloc (.cells #[.string (bs nm), .string (bs sf), .string (bs tl)] 87))
                have hgx := hg.alloc (.cells #[.string (bs nm), .string (bs sf), .string (bs tl)] 87)
                have p0x := (World.cell?_alloc_lt wr (.cells #[.string (bs nm), .string (bs sf), .string (bs tl)] 87) ⟨b, off + j * 3, none⟩ hbl).trans p0
                have hbx : b < (wr.alloc (.cells #[.string (bs nm), .string (bs sf), .string (bs tl)] 87)).heap.size := by rw [World.size_alloc]; omega
                obtain ⟨wx, hwx⟩ : ∃ x, x = wr.alloc (.cells #[.string (bs nm), .string (bs sf), .string (bs tl)] 87) := ⟨_, rfl⟩
                obtain ⟨q, hq⟩ : ∃ q, q = wr.heap.size := ⟨_, rfl⟩
                rw [← hwx] at hFB hBX hgx p0x hbx
                rw [← hq] at hFB
                rw [← hwx, ← hq]
                have HFB := sec hFB
                have HBX := sec hBX
                clear hwx hq hFB hBX e0 e1 e2 p0 hbl
                refine region_head_quiet 3 (by kernel_rfl) (by decide) (by kernel_rfl) (fun wd hwd => ?_)
                simp only [List.take_succ_cons, List.take_zero, List.drop_succ_cons, List.drop_zero]
                have gd : Gr wx wd := by rw [hwd]; exact (Gr.refl _).drew
                clear hwd
                have c0d : wd.cell? ⟨q, 0, none⟩ = some (.string (bs nm)) := (HFB.out.gr gd).cell 0
                go_wp2_with (go_at_call 71; refine (HN.out _).mono ?_; rintro e w1 ⟨rfl, g1⟩; have gg1 : Gr wx w1 := gd.trans g1)
                have c0y : w1.cell? ⟨q, 0, none⟩ = some (.string (bs nm)) := (HFB.out.gr gg1).cell 0
                have c1y : w1.cell? ⟨q, 1, none⟩ = some (.string (bs sf)) := (HFB.out.gr gg1).cell 1
                have c2y : w1.cell? ⟨q, 2, none⟩ = some (.string (bs tl)) := (HFB.out.gr gg1).cell 2
                have d0y : w1.cell? ⟨w.heap.size, 0, none⟩ = some (.slice (some ⟨b, off, none⟩) n cap) := (HBX.out.gr gg1).cell 0
                obtain ⟨hij, hi0⟩ := HIJ.out
                have p0y : w1.cell? ⟨b, off + j * 3, none⟩ = some (.string (bs last)) := (gg1.cells.1 b _ hbx).trans p0x
                simp only [OnQ]
                clear g1 gd c0d
                repeat (go_big_quiet_step (fail))
                refine wpQuiet_nil ?_
                intro _ hw'
                obtain ⟨nq, hw''⟩ := hw'
                subst hw''
                have gg2 : Gr wx (w1.drewN nq) := Gr.drewN gg1 nq
                clear hij hi0
                go_wp2_with fail
                go_ret
                exact ⟨by rw [HF.out]; rfl, hg0.trans (hgx.trans gg2)⟩
      · obtain rfl : i = n := by omega
        have HF : Sec (goodFrom [] fs = true) := sec (by rw [HG.out, List.drop_eq_nil_of_le (by omega)]; rfl)
        clear hlt hi
        go_wp2_with fail
        go_ret
        exact ⟨by rw [HF.out]; rfl, hg0.trans hg⟩
  · have HG0 : Sec (goodFs fs = false) := sec (by unfold goodFs; rw [decide_eq_false (fun h => h400 (by omega)), Bool.false_and])
    rw [HG0.out]
    have q400 : (400 : Int) < (n : Int) := by omega
    clear hx hl
    go_enter Tryd.func54, Tryd.ntmps54
    go_wp2_with fail
    go_ret
    exact ⟨rfl, (Gr.refl w).alloc _⟩
end Go.Proofs.YtbhpglhmnpcnkaaDoor

namespace Go.Proofs.YtbhpglhmnpcnkaaDoor
open Go.RowKit
set_option linter.unusedVariables false

/-- where a name stands or would -/
def lbF (name : List UInt8) (fs : List Fl) : Nat := (fs.takeWhile (fun f => ltB f.1 name)).length
def hasF (name : List UInt8) (fs : List Fl) : Bool := fs.any (fun f => f.1 == name)
abbrev SortedF (fs : List Fl) : Prop := fs.Pairwise (fun f g => ltB f.1 g.1 = true)
theorem lbF_le (name : List UInt8) (fs : List Fl) : lbF name fs ≤ fs.length := by
  unfold lbF
  exact (List.takeWhile_sublist _).length_le
theorem lbF_of (name : List UInt8) : ∀ (fs : List Fl) (i : Nat), i ≤ fs.length → (∀ m (hm : m < fs.length), m < i → ltB fs[m].1 name = true) → (∀ hm : i < fs.length, ltB fs[i].1 name = false) → lbF name fs = i
  | [], i, hi, _, _ => by
    have : i = 0 := by simpa using hi
    subst this; rfl
  | f :: r, 0, hi, _, h2 => by
    have := h2 (by simp)
    simp only [List.getElem_cons_zero] at this
    unfold lbF
    rw [List.takeWhile_cons, this]; rfl
  | f :: r, i + 1, hi, h1, h2 => by
    have h0 := h1 0 (by simp) (by omega)
    simp only [List.getElem_cons_zero] at h0
    have ih := lbF_of name r i (by simpa using hi) (fun m hm hl => by have := h1 (m + 1) (by simp; omega) (by omega); simpa using this)
      (fun hm => by have := h2 (by simp; omega); simpa using this)
    unfold lbF at ih ⊢
    rw [List.takeWhile_cons, h0]
    simp [ih]
theorem SortedF.get {fs : List Fl} (h : SortedF fs) {i j : Nat} (hj : j < fs.length) (hij : i < j) : ltB (fs[i]'(by omega)).1 fs[j].1 = true :=
  List.pairwise_iff_getElem.1 h i j (by omega) hj hij
theorem SortedF.below {fs : List Fl} (h : SortedF fs) {name : List UInt8} {i j : Nat} (hj : j < fs.length) (hij : i ≤ j) (hl : ltB fs[j].1 name = true) : ltB (fs[i]'(by omega)).1 name = true := by
  rcases Nat.lt_or_eq_of_le hij with h1 | rfl
  · exact ltB_trans _ _ _ (h.get hj h1) hl
  · exact hl
theorem SortedF.above {fs : List Fl} (h : SortedF fs) {name : List UInt8} {i j : Nat} (hj : j < fs.length) (hij : i ≤ j) (hl : ltB (fs[i]'(by omega)).1 name = false) : ltB fs[j].1 name = false := by
  cases h2 : ltB fs[j].1 name with
  | false => rfl
  | true => rw [h.below hj hij h2] at hl; cases hl
/-- the name is there iff it stands at the place -/
theorem has_of {fs : List Fl} (h : SortedF fs) {name : List UInt8} {i : Nat} (h1 : ∀ m (hm : m < fs.length), m < i → ltB fs[m].1 name = true) (hi : i < fs.length) (h2 : ltB fs[i].1 name = false) :
    hasF name fs = (fs[i].1 == name) := by
  unfold hasF
  cases he : fs[i].1 == name with
  | true => exact List.any_eq_true.2 ⟨fs[i], List.getElem_mem hi, he⟩
  | false =>
    refine List.any_eq_false.2 fun f hf => ?_
    obtain ⟨m, hm, rfl⟩ := List.getElem_of_mem hf
    intro hmn
    have hmn : fs[m].1 = name := by simpa using hmn
    rcases Nat.lt_trichotomy m i with h3 | rfl | h3
    · have := h1 m hm h3
      rw [hmn, ltB_irr] at this; cases this
    · rw [hmn] at he; simp at he
    · have := h.get hm h3
      rw [hmn, h2] at this; cases this
theorem has_of_end {fs : List Fl} {name : List UInt8} {i : Nat} (h1 : ∀ m (hm : m < fs.length), m < i → ltB fs[m].1 name = true) (hi : fs.length ≤ i) : hasF name fs = false := by
  unfold hasF
  refine List.any_eq_false.2 fun f hf => ?_
  obtain ⟨m, hm, rfl⟩ := List.getElem_of_mem hf
  intro hmn
  have hmn : fs[m].1 = name := by simpa using hmn
  have := h1 m hm (by omega)
  rw [hmn, ltB_irr] at this; cases this
theorem hasF_lt {fs : List Fl} {name : List UInt8} (h : SortedF fs) (hh : hasF name fs = true) : ∃ hi : lbF name fs < fs.length, fs[lbF name fs].1 = name := by
  obtain ⟨f, hf, hn⟩ := List.any_eq_true.1 hh
  obtain ⟨m, hm, rfl⟩ := List.getElem_of_mem hf
  have hmn : fs[m].1 = name := by simpa using hn
  have : lbF name fs = m := lbF_of name fs m (by omega) (fun k hk hl => by rw [← hmn]; exact h.get hm hl) (fun _ => by rw [hmn]; exact ltB_irr _)
  refine ⟨by omega, ?_⟩
  simp only [this]; exact hmn

def cmpB (a b : List UInt8) : Int := Lib.compareBytes a b

set_option maxRecDepth 100000 in
set_option maxHeartbeats 1000000 in
theorem findCl_any (nm sf tl name : List UInt8) (w : World) :
    Calls Tryd.prog 90 #[.agg #[.string (bs nm), .string (bs sf), .string (bs tl)], .string (bs name)] w fun e w' => e = .returned (.int .i64 (cmpB nm name)) ∧ Gr w w' := by
  go_enter Tryd.func90, Tryd.ntmps90
  go_wp2_with (go_at_call 91; refine Calls.mono (compare_any nm name _) ?_; rintro e w1 ⟨rfl, rfl⟩)
  go_ret
  exact ⟨rfl, (Gr.refl w).alloc _⟩

set_option maxRecDepth 100000 in
set_option maxHeartbeats 4000000 in
theorem bsearch_any (fs : List Fl) (name : List UInt8) (A : Option Addr) (n cap : Nat) (w : World) (hn : n ≤ 1099511627776) (hx : FRow w A n fs) (hso : SortedF fs) :
    Calls Tryd.prog 89 #[.slice A n cap, .string (bs name), .func (.func 90) #[] #[]] w
      fun e w' => e = .returned (.tuple #[.int .i64 (lbF name fs : Int), .bool (hasF name fs)]) ∧ Gr w w' := by
  have hl := hx.len
  have HX := sec hx
  have HS := sec hso
  have eg : ∀ args w, (callFunc 90 args).run Tryd.prog w = .ok (.enter 90 args) w := enters_own Tryd.func90 (by kernel_rfl) rfl
  clear hx hso
  go_enter Tryd.func89, Tryd.ntmps89
  go_wp2_with fail
  go_loopw [9, 10, 11] (fun iv jv _ wr => ∃ i j : Nat, iv = .int .i64 (i : Int) ∧ jv = .int .i64 (j : Int) ∧ i ≤ j ∧ j ≤ n ∧ Sec (∀ m (hm : m < fs.length), m < i → ltB fs[m].1 name = true) ∧ Sec (∀ m (hm : m < fs.length), j ≤ m → ltB fs[m].1 name = false) ∧ Gr w wr)
    (fun iv jv _ _ => (intOf jv).toNat - (intOf iv).toNat)
  case atStart => exact ⟨0, n, rfl, rfl, by omega, by omega, sec (fun m hm h => by omega), sec (fun m hm h => by omega), Gr.refl _⟩
  case round =>
    obtain ⟨i, j, rfl, rfl, hij, hj, H1, H2, hg⟩ := hrel
    by_cases hlt : i < j
    · have hii : (i : Int) < (j : Int) := by omega
      obtain ⟨h, hh⟩ : ∃ h, h = (i + j) / 2 := ⟨_, rfl⟩
      have q1 : ((i : Int) + (j : Int)) / 2 = (h : Int) := by omega
      have hih : i ≤ h := by omega
      have hhj : h < j := by omega
      have hhn : (h : Int) < (n : Int) := by omega
      have hhf : h < fs.length := by omega
      obtain ⟨b, off, rfl, e0, e1, e2⟩ := (HX.out.gr hg).cell hhf
      have HH : Sec (fs[h] = fs[h]) := sec rfl
      have HLT : Sec (ltB fs[h].1 name = true → ∀ m (hm : m < fs.length), m < h + 1 → ltB fs[m].1 name = true) := sec (fun hb m hm hl => HS.out.below hhf (by omega) hb)
      have HGE : Sec (ltB fs[h].1 name = false → ∀ m (hm : m < fs.length), h ≤ m → ltB fs[m].1 name = false) := sec (fun hb m hm hl => HS.out.above hm hl hb)
      obtain ⟨x, hxx⟩ : ∃ x, x = fs[h] := ⟨_, rfl⟩
      rw [← hxx] at e0 e1 e2 HLT HGE
      clear hxx HH hh hhf
      obtain ⟨nm, sf, tl⟩ := x
      simp only at e0 e1 e2 HLT HGE
      have HC := sec (fun w => findCl_any nm sf tl name w)
      have hcm := (cmp_lt nm name).1
      cases hb : ltB nm name with
      | true =>
        have q2 : cmpB nm name < 0 := hcm.2 hb
        have H1' := sec (HLT.out hb)
        clear HLT HGE hcm hb
        go_wp2_with (refine Calls.mono (HC.out _) ?_; rintro e w1 ⟨rfl, g1⟩)
        go_roundw
        case rel => exact ⟨h + 1, j, by go_num, rfl, by omega, by omega, H1', H2, hg.trans g1⟩
        case measure => simp [intOf]; omega
      | false =>
        have q2 : ¬ cmpB nm name < 0 := fun h => by rw [hcm.1 h] at hb; cases hb
        have H2' := sec (HGE.out hb)
        clear HLT HGE hcm hb
        go_wp2_with (refine Calls.mono (HC.out _) ?_; rintro e w1 ⟨rfl, g1⟩)
        go_roundw
        case rel => exact ⟨i, h, rfl, by go_num, by omega, by omega, H1, H2', hg.trans g1⟩
        case measure => simp [intOf]; omega
    · obtain rfl : i = j := by omega
      by_cases hin : i < n
      · have hif : i < fs.length := by omega
        have hii : (i : Int) < (n : Int) := by omega
        have HL : Sec (lbF name fs = i) := sec (lbF_of name fs i (by omega) H1.out (fun h => H2.out i h (Nat.le_refl _)))
        have HE : Sec (hasF name fs = (fs[i].1 == name)) := sec (has_of HS.out H1.out hif (H2.out i hif (Nat.le_refl _)))
        obtain ⟨b, off, rfl, e0, e1, e2⟩ := (HX.out.gr hg).cell hif
        obtain ⟨x, hxx⟩ : ∃ x, x = fs[i] := ⟨_, rfl⟩
        rw [← hxx] at e0 e1 e2 HE
        clear hxx hif hlt
        obtain ⟨nm, sf, tl⟩ := x
        simp only at e0 e1 e2 HE
        have HC := sec (fun w => findCl_any nm sf tl name w)
        have hcm := (cmp_lt nm name).2
        cases hb : nm == name with
        | true =>
          have q2 : cmpB nm name = 0 := hcm.2 (by simpa using hb)
          rw [hb] at HE
          clear hcm hb
          go_wp2_with (refine Calls.mono (HC.out _) ?_; rintro e w1 ⟨rfl, g1⟩)
          go_ret2
          exact ⟨by rw [HL.out, HE.out]; rfl, hg.trans g1⟩
        | false =>
          have q2 : (cmpB nm name == 0) = false := beq_eq_false_iff_ne.2 (fun h => by rw [hcm.1 h] at hb; simp at hb)
          rw [hb] at HE
          clear hcm hb
          go_wp2_with (refine Calls.mono (HC.out _) ?_; rintro e w1 ⟨rfl, g1⟩)
          go_ret2
          exact ⟨by rw [HL.out, HE.out]; rfl, hg.trans g1⟩
      · obtain rfl : i = n := by omega
        have HL : Sec (lbF name fs = i) := sec (lbF_of name fs i (by omega) H1.out (fun h => by omega))
        have HE : Sec (hasF name fs = false) := sec (has_of_end H1.out (by omega))
        clear hlt hin hj
        go_wp2_with fail
        go_ret2
        exact ⟨by rw [HL.out, HE.out]; rfl, hg⟩

set_option maxRecDepth 100000 in
set_option maxHeartbeats 2000000 in
theorem find_any (fs : List Fl) (name : List UInt8) (A : Option Addr) (n cap : Nat) (f : Int) (w : World) (hn : n ≤ 1099511627776) (hx : FRow w A n fs) (hso : SortedF fs) :
    Calls Tryd.prog 72 #[diskV A n cap f, .string (bs name)] w
      fun e w' => e = .returned (.tuple #[.int .i64 (lbF name fs : Int), .bool (hasF name fs)]) ∧ Gr w w' := by
  unfold diskV
  have hg0 := (Gr.refl w).alloc (.cells #[.slice A n cap, .int .i64 f] 24)
  have HC := sec (bsearch_any fs name A n cap _ hn (hx.gr hg0) hso)
  clear hx hso
  go_enter Tryd.func72, Tryd.ntmps72
  go_wp2_with (go_at_call 89; refine Calls.mono HC.out ?_; rintro e w1 ⟨rfl, g1⟩)
  go_ret2
  exact ⟨rfl, hg0.trans g1⟩
end Go.Proofs.YtbhpglhmnpcnkaaDoor

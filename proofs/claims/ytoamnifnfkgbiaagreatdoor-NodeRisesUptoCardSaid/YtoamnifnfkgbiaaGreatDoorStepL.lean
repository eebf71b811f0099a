/-
  Steps as values; what is wrong with one (P10.1), its body (P10.2), its bytes (P10.3): plain facts. No program is walked.
-/
import Derived.Test.YtoamnifnfkgbiaaGreatDoorRefNL
import Derived.Test.YtoamnifnfkgbiaaGreatDoorWireN
import Derived.Test.YtoamnifnfkgbiaaGreatDoorWrtC
import Derived.Test.YtoamnifnfkgbiaaGreatDoorAgg
namespace Go.Proofs.YtoamnifnfkgbiaaGreatDoor
set_option maxRecDepth 100000
open Go.RowKit
set_option linter.unusedVariables false
/-- a step -/
structure Stp where
  r : List UInt8
  o : List UInt8
  n : List UInt8
  who : List Int
  seals : List (List UInt8)
def stepA (s : Stp) (A : Option Addr) (c : Nat) (B : Option Addr) (d : Nat) : Array Value := #[.string (bs s.r), .string (bs s.o), .string (bs s.n), .slice A s.who.length c, .slice B s.seals.length d]
theorem aggStep : AggOk 69 5 := ⟨⟨_, Tryz.underlying69, rfl⟩, by kernel_rfl⟩

/-- a number in a cell -/
def iV (n : Int) : Value := .int .i64 n
def IntRow (w : World) (A : Option Addr) (n : Nat) (l : List Int) : Prop := Row w 1 A n (l.map iV)
theorem IntRow.len {w : World} {A : Option Addr} {n : Nat} {l : List Int} (h : IntRow w A n l) : l.length = n := by have := Row.len h; simpa using this
theorem IntRow.gr {w w' : World} {A : Option Addr} {n : Nat} {l : List Int} (h : IntRow w A n l) (g : Gr w w') : IntRow w' A n l := Row.gr h g
theorem IntRow.cell {w : World} {A : Option Addr} {n : Nat} {l : List Int} (h : IntRow w A n l) {i : Nat} (hi : i < l.length) : ∃ b off, A = some ⟨b, off, none⟩ ∧ w.cell? ⟨b, off + i, none⟩ = some (.int .i64 l[i]) := by
  obtain ⟨b, off, e, hl, hc⟩ := Row.cell1 h (i := i) (by have := h.len; omega)
  exact ⟨b, off, e, by simpa [iV] using hc⟩

/-- the step's two slices as they lie in a world -/
structure StR (w : World) (s : Stp) (A : Option Addr) (c : Nat) (B : Option Addr) (d : Nat) : Prop where
  who : IntRow w A s.who.length s.who
  seals : StrRow w B s.seals.length s.seals
  wn : A = none → s.who.length = 0 ∧ c = 0
  sn : B = none → s.seals.length = 0 ∧ d = 0
  wc : s.who.length ≤ c
  sc : s.seals.length ≤ d
theorem StR.gr {w w' : World} {s : Stp} {A : Option Addr} {c : Nat} {B : Option Addr} {d : Nat} (h : StR w s A c B d) (g : Gr w w') : StR w' s A c B d := ⟨h.who.gr g, h.seals.gr g, h.wn, h.sn, h.wc, h.sc⟩
/-- no part is longer than so many -/
structure StSz (k : Nat) (s : Stp) : Prop where
  r : s.r.length ≤ k
  o : s.o.length ≤ k
  n : s.n.length ≤ k
  who : s.who.length ≤ k
  seals : s.seals.length ≤ k
  each : ∀ x ∈ s.seals, x.length ≤ k

/-- P8.3: an id, or none -/
def mayB (l : List UInt8) : Bool := decide (l.length = 0) || decide (l.length = 32)
/-- P10.1: those who seal, behind a last one: the error -/
def stF : Int → List Int → List (List UInt8) → Int
  | last, w :: ws, s :: ss => if w ≤ last ∨ 7 < w then 3 else if s.length = 32 then stF w ws ss else 2
  | _, _, _ => 0
/-- P10.1: is it of the form that is wanted -/
def stB (s : Stp) : Bool := refB s.r && (mayB s.o && (mayB s.n && !(s.o == s.n)))
/-- P10.1: the error -/
def stE (s : Stp) : Int := if stB s = true then (if 8 < s.who.length ∨ ¬ s.seals.length = s.who.length then 6 else stF (-1) s.who s.seals) else 2
/-- where the loop stands: i seen, all of them right; the last one's number -/
def stSeen (s : Stp) (i : Nat) (last : Int) : Prop :=
  stF (-1) s.who s.seals = stF last (s.who.drop i) (s.seals.drop i) ∧ (i = 0 → last = -1) ∧ (∀ h : 0 < i ∧ i ≤ s.who.length, last = s.who[i - 1]'(by omega) ∧ 0 ≤ last)
theorem stSeen0 (s : Stp) : stSeen s 0 (-1) := ⟨rfl, fun _ => rfl, fun h => absurd h.1 (by omega)⟩
theorem stF_cons (last w : Int) (ws : List Int) (x : List UInt8) (ss : List (List UInt8)) : stF last (w :: ws) (x :: ss) = if w ≤ last ∨ 7 < w then 3 else if x.length = 32 then stF w ws ss else 2 := rfl
theorem stSeen.here {s : Stp} {i : Nat} {last : Int} (h : stSeen s i last) (hi : i < s.who.length) (hs : i < s.seals.length) :
    stF (-1) s.who s.seals = if s.who[i] ≤ last ∨ 7 < s.who[i] then 3 else if (s.seals[i]).length = 32 then stF s.who[i] (s.who.drop (i + 1)) (s.seals.drop (i + 1)) else 2 := by
  rw [h.1, List.drop_eq_getElem_cons hi, List.drop_eq_getElem_cons hs]
  exact stF_cons ..
theorem stSeen.low {s : Stp} {i : Nat} {last : Int} (h : stSeen s i last) (hi : i ≤ s.who.length) : -1 ≤ last := by
  by_cases e : i = 0
  · have := h.2.1 e; omega
  · have := (h.2.2 ⟨by omega, by omega⟩).2; omega
theorem stSeen.next {s : Stp} {i : Nat} {last : Int} (h : stSeen s i last) (hi : i < s.who.length) (hs : i < s.seals.length) (h1 : ¬ (s.who[i] ≤ last ∨ 7 < s.who[i])) (h2 : (s.seals[i]).length = 32) : stSeen s (i + 1) s.who[i] := by
  have hl := h.low (by omega)
  refine ⟨?_, fun e => absurd e (by omega), fun _ => ⟨rfl, by omega⟩⟩
  rw [h.here hi hs, if_neg h1, if_pos h2]
theorem stSeen.done {s : Stp} {i : Nat} {last : Int} (h : stSeen s i last) (hi : s.who.length ≤ i) : stF (-1) s.who s.seals = 0 := by
  rw [h.1, List.drop_eq_nil_of_le hi]
  cases s.seals.drop i <;> rfl
theorem stF_or : ∀ (last : Int) (ws : List Int) (ss : List (List UInt8)), stF last ws ss = 0 ∨ stF last ws ss = 2 ∨ stF last ws ss = 3
  | last, [], ss => .inl (by cases ss <;> rfl)
  | last, w :: ws, [] => .inl rfl
  | last, w :: ws, x :: ss => by
    rw [stF_cons]
    split
    · simp
    · split
      · exact stF_or w ws ss
      · simp
/-- what stands of a good step -/
theorem stF_zero : ∀ (ws : List Int) (ss : List (List UInt8)) (last : Int), ws.length = ss.length → stF last ws ss = 0 → (∀ x ∈ ss, x.length = 32) ∧ (∀ w ∈ ws, last < w ∧ w ≤ 7)
  | [], [], last, _, _ => ⟨by simp, by simp⟩
  | [], x :: ss, last, h, _ => by simp at h
  | w :: ws, [], last, h, _ => by simp at h
  | w :: ws, x :: ss, last, h, h0 => by
    rw [stF_cons] at h0
    split at h0
    · cases h0
    · rename_i h1
      split at h0
      · rename_i h2
        obtain ⟨a, b⟩ := stF_zero ws ss w (by simpa using h) h0
        refine ⟨fun y hy => ?_, fun y hy => ?_⟩
        · rcases List.mem_cons.1 hy with rfl | hy
          · exact h2
          · exact a y hy
        · rcases List.mem_cons.1 hy with rfl | hy
          · omega
          · have := b y hy; omega
      · cases h0
theorem stE_zero {s : Stp} (h : stE s = 0) : refB s.r = true ∧ s.r.length ≤ 60 ∧ s.o.length ≤ 32 ∧ s.n.length ≤ 32 ∧ s.who.length ≤ 8 ∧ s.seals.length = s.who.length ∧ (∀ x ∈ s.seals, x.length = 32) ∧ (∀ w ∈ s.who, -1 < w ∧ w ≤ 7) ∧ stF (-1) s.who s.seals = 0 := by
  unfold stE at h
  split at h
  · rename_i hb
    split at h
    · cases h
    · rename_i h1
      have hl : s.seals.length = s.who.length := by omega
      obtain ⟨a, b⟩ := stF_zero s.who s.seals (-1) hl.symm h
      unfold stB mayB at hb
      simp only [Bool.and_eq_true, Bool.or_eq_true, decide_eq_true_eq] at hb
      have hr : s.r.length ≤ 60 := by
        have := hb.1
        unfold refB at this
        simp only [Bool.and_eq_true, decide_eq_true_eq] at this
        exact this.2
      exact ⟨hb.1, hr, by omega, by omega, by omega, hl, a, b, h⟩
  · cases h

theorem may_cases (l : List UInt8) : (((l.length : Int) != 0) = false ∧ mayB l = true) ∨ (((l.length : Int) != 0) = true ∧ ((l.length : Int) != 32) = false ∧ mayB l = true) ∨ (((l.length : Int) != 0) = true ∧ ((l.length : Int) != 32) = true ∧ mayB l = false) := by
  by_cases h0 : l.length = 0
  · left
    refine ⟨?_, ?_⟩
    · rw [bne_eq_false_iff_eq]; omega
    · unfold mayB; rw [decide_eq_true h0]; rfl
  · by_cases h1 : l.length = 32
    · right; left
      refine ⟨?_, ?_, ?_⟩
      · rw [bne_iff_ne]; omega
      · rw [bne_eq_false_iff_eq]; omega
      · unfold mayB; rw [decide_eq_true h1]; simp
    · right; right
      refine ⟨?_, ?_, ?_⟩
      · rw [bne_iff_ne]; omega
      · rw [bne_iff_ne]; omega
      · unfold mayB; rw [decide_eq_false h0, decide_eq_false h1]; rfl

/-! ### the body, the bytes -/
/-- P10.2 -/
def bodyR (at_ : Int) (s : Stp) : List UInt8 × Int :=
  if at_ < 0 ∨ 199 < at_ then ([], 3) else if 4096 < s.r.length ∨ 4096 < s.o.length ∨ 4096 < s.n.length then ([], 1) else (numS at_ ++ txt s.r ++ txt s.o ++ txt s.n, 0)
/-- those who seal, as bytes -/
def whoS : List Int → List (List UInt8) → List UInt8
  | w :: ws, s :: ss => numS w ++ s ++ whoS ws ss
  | _, _ => []
/-- P10.3 -/
def encR (s : Stp) : List UInt8 × Int := if stE s = 0 then (txt s.r ++ txt s.o ++ txt s.n ++ numS s.who.length ++ whoS s.who s.seals, 0) else ([], stE s)
theorem whoS_take (ws : List Int) (ss : List (List UInt8)) : ∀ (i : Nat) (h : i < ws.length) (h' : i < ss.length), whoS (ws.take (i + 1)) (ss.take (i + 1)) = whoS (ws.take i) (ss.take i) ++ (numS ws[i] ++ ss[i]) := by
  induction ws generalizing ss with
  | nil => intro i h; simp at h
  | cons w ws ih =>
    intro i h h'
    cases ss with
    | nil => simp at h'
    | cons x ss =>
      cases i with
      | zero => simp [whoS]
      | succ i =>
        simp only [List.take_succ_cons, whoS, List.getElem_cons_succ]
        rw [ih ss i (by simpa using h) (by simpa using h')]
        simp only [List.append_assoc]
theorem whoS_len : ∀ (ws : List Int) (ss : List (List UInt8)) (k : Nat), (∀ x ∈ ss, x.length ≤ k) → (whoS ws ss).length ≤ ws.length * (k + 9)
  | [], ss, k, _ => by cases ss <;> simp [whoS]
  | w :: ws, [], k, _ => by simp [whoS]
  | w :: ws, x :: ss, k, h => by
    have a := whoS_len ws ss k (fun y hy => h y (List.mem_cons_of_mem _ hy))
    have b := h x (List.mem_cons_self ..)
    have c : (numS w).length ≤ 9 := by
      by_cases hw : 0 ≤ w ∧ w < 4611686018427387904
      · rw [numS_in hw.1 hw.2]; exact num_len9 (by omega)
      · rw [numS_out (by omega)]; simp
    simp only [whoS, List.length_append, List.length_cons]
    rw [Nat.add_mul, Nat.one_mul]
    omega
theorem txt_len (l : List UInt8) (h : l.length < 4611686018427387904) : (txt l).length ≤ l.length + 9 := by
  unfold txt
  have := num_len9 (n := l.length) h
  rw [List.length_append]
  omega
theorem encR_len (s : Stp) : (encR s).1.length ≤ 1024 := by
  unfold encR
  split
  · rename_i h
    obtain ⟨_, h1, h2, h3, h4, h5, h6, _, _⟩ := stE_zero h
    have a := txt_len s.r (by omega)
    have b := txt_len s.o (by omega)
    have c := txt_len s.n (by omega)
    have d := whoS_len s.who s.seals 32 (fun x hx => by rw [h6 x hx]; omega)
    have e : (numS s.who.length).length ≤ 9 := by rw [numS_nat (by omega)]; exact num_len9 (by omega)
    have f : s.who.length * (32 + 9) ≤ 8 * (32 + 9) := Nat.mul_le_mul_right _ h4
    simp only [List.length_append]
    omega
  · simp
theorem bodyR_len (at_ : Int) (s : Stp) : (bodyR at_ s).1.length ≤ 16384 := by
  unfold bodyR
  split
  · simp
  · split
    · simp
    · rename_i h0 h1
      have a := txt_len s.r (by omega)
      have b := txt_len s.o (by omega)
      have c := txt_len s.n (by omega)
      have e : (numS at_).length ≤ 9 := by rw [numS_in (by omega) (by omega)]; exact num_len9 (by omega)
      simp only [List.length_append]
      omega
end Go.Proofs.YtoamnifnfkgbiaaGreatDoor

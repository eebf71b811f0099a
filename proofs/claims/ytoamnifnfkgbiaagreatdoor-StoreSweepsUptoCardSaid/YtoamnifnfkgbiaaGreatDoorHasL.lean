/-
  The map of what an object has (P3.2): plain facts.
-/
import Derived.Test.YtoamnifnfkgbiaaGreatDoorObL
import Derived.Test.YtoamnifnfkgbiaaGreatDoorMapL
namespace Go.Proofs.YtoamnifnfkgbiaaGreatDoor
set_option maxRecDepth 100000
open Go.RowKit
set_option linter.unusedVariables false
def k_data : List UInt8 := [100, 97, 116, 97]
def k_entries : List UInt8 := [101, 110, 116, 114, 105, 101, 115]
def k_tree : List UInt8 := [116, 114, 101, 101]
def k_parents : List UInt8 := [112, 97, 114, 101, 110, 116, 115]
def k_time : List UInt8 := [116, 105, 109, 101]
def k_target : List UInt8 := [116, 97, 114, 103, 101, 116]
def k_who : List UInt8 := [119, 104, 111]
def k_note : List UInt8 := [110, 111, 116, 101]
def hasFo (b0 b1 b2 b3 b4 b5 b6 b7 : Bool) : List UInt8 → Option Bool := (mset (mset (mset (mset (mset (mset (mset (mset (fun _ => none) k_data b0) k_entries b1) k_tree b2) k_parents b3) k_time b4) k_target b5) k_who b6) k_note b7)
theorem Blk.newK3 (w : World) (o p q : Obj) (t : TypeId) (cs : Array Value) : Blk ((((w.alloc o).alloc p).alloc q).alloc (.cells cs t)) (w.heap.size + 1 + 1 + 1) t cs := by
  have := Blk.new (((w.alloc o).alloc p).alloc q) t cs
  rwa [World.size_alloc, World.size_alloc, World.size_alloc] at this
/-- what a kind may have -/
def mayL (kd : Int) : List (List UInt8) := if kd = 1 then [k_data] else if kd = 2 then [k_entries] else if kd = 3 then [k_tree, k_parents, k_time, k_who, k_note] else [k_target, k_who, k_note]
def maySet (f : List UInt8 → Option Bool) (L : List (List UInt8)) : List UInt8 → Option Bool := L.foldl (fun f l => mset f l false) f
theorem maySet_succ (f : List UInt8 → Option Bool) (L : List (List UInt8)) (i : Nat) (h : i < L.length) : maySet f (L.take (i + 1)) = mset (maySet f (L.take i)) L[i] false := by
  unfold maySet
  rw [List.take_succ_eq_append_getElem h, List.foldl_append]
  rfl
theorem mayL_len (kd : Int) : (mayL kd).length ≤ 5 ∧ ∀ x ∈ mayL kd, x.length ≤ maxLen := by
  unfold mayL
  split
  · exact ⟨by decide, by intro x hx; simp only [List.mem_cons, List.not_mem_nil, or_false] at hx; subst hx; decide⟩
  · split
    · exact ⟨by decide, by intro x hx; simp only [List.mem_cons, List.not_mem_nil, or_false] at hx; subst hx; decide⟩
    · split
      · exact ⟨by decide, by intro x hx; simp only [List.mem_cons, List.not_mem_nil, or_false] at hx; rcases hx with rfl | rfl | rfl | rfl | rfl <;> decide⟩
      · exact ⟨by decide, by intro x hx; simp only [List.mem_cons, List.not_mem_nil, or_false] at hx; rcases hx with rfl | rfl | rfl <;> decide⟩
theorem strRow_blk {w : World} {g : Nat} {t : TypeId} {cs : Array Value} {L : List (List UInt8)} (h : Blk w g t cs) (e : cs.toList = L.map strV) : StrRow w (some ⟨g, 0, none⟩) L.length L := by
  refine ⟨by rw [List.length_map, Nat.mul_one], fun _ => ⟨g, 0, rfl, fun i v hv => ?_⟩⟩
  rw [Nat.zero_add, h.cell]
  rw [← e] at hv
  simpa using hv

def hasO (o : Ob) : List UInt8 → Option Bool := hasFo (!o.data.isEmpty) (!o.ents.isEmpty) (!o.tree.isEmpty) (!o.pars.isEmpty) (!decide (o.time = 0)) (!o.target.isEmpty) (!o.who.isEmpty) (!o.note.isEmpty)
theorem mset_same {α : Type} (f : List UInt8 → Option α) (l : List UInt8) (x : α) : mset f l x l = some x := by simp [mset]
theorem mset_ne {α : Type} (f : List UInt8 → Option α) {l k : List UInt8} (x : α) (h : (k == l) = false) : mset f l x k = f k := by
  have : ¬ k = l := by simpa using h
  simp [mset, this]
theorem mset_true {f : List UInt8 → Option Bool} {l : List UInt8} {x : Bool} {k : List UInt8} (h : mset f l x k = some true) : (k = l ∧ x = true) ∨ f k = some true := by
  unfold mset at h
  split at h
  · rename_i e
    exact .inl ⟨e, by injection h⟩
  · exact .inr h

theorem has_true1 (b0 b1 b2 b3 b4 b5 b6 b7 : Bool) : (∃ l, l.length ≤ maxLen ∧ maySet (hasFo b0 b1 b2 b3 b4 b5 b6 b7) (mayL 1) l = some true) ↔ (b1 = true ∨ b2 = true ∨ b3 = true ∨ b4 = true ∨ b5 = true ∨ b6 = true ∨ b7 = true) := by
  have e : maySet (hasFo b0 b1 b2 b3 b4 b5 b6 b7) (mayL 1) = mset ((mset (mset (mset (mset (mset (mset (mset (mset (fun _ => none) k_data b0) k_entries b1) k_tree b2) k_parents b3) k_time b4) k_target b5) k_who b6) k_note b7)) k_data false := rfl
  rw [e]
  constructor
  · rintro ⟨l, _, h⟩
    have h0 := h
    rcases mset_true h with ⟨e0, h0⟩ | h
    · cases h0
    rcases mset_true h with ⟨e1, h1⟩ | h
    · exact Or.inr (Or.inr (Or.inr (Or.inr (Or.inr (Or.inr (h1))))))
    rcases mset_true h with ⟨e2, h2⟩ | h
    · exact Or.inr (Or.inr (Or.inr (Or.inr (Or.inr (Or.inl h2)))))
    rcases mset_true h with ⟨e3, h3⟩ | h
    · exact Or.inr (Or.inr (Or.inr (Or.inr (Or.inl h3))))
    rcases mset_true h with ⟨e4, h4⟩ | h
    · exact Or.inr (Or.inr (Or.inr (Or.inl h4)))
    rcases mset_true h with ⟨e5, h5⟩ | h
    · exact Or.inr (Or.inr (Or.inl h5))
    rcases mset_true h with ⟨e6, h6⟩ | h
    · exact Or.inr (Or.inl h6)
    rcases mset_true h with ⟨e7, h7⟩ | h
    · exact Or.inl h7
    rcases mset_true h with ⟨e8, h8⟩ | h
    · subst e8; skip
      exact absurd (show (some false : Option Bool) = some true from h0) (by decide)
    cases h
  · intro h
    rcases h with rfl | rfl | rfl | rfl | rfl | rfl | rfl
    · refine ⟨k_entries, by decide, ?_⟩
      rfl
    · refine ⟨k_tree, by decide, ?_⟩
      rfl
    · refine ⟨k_parents, by decide, ?_⟩
      rfl
    · refine ⟨k_time, by decide, ?_⟩
      rfl
    · refine ⟨k_target, by decide, ?_⟩
      rfl
    · refine ⟨k_who, by decide, ?_⟩
      rfl
    · refine ⟨k_note, by decide, ?_⟩
      rfl
theorem has_true2 (b0 b1 b2 b3 b4 b5 b6 b7 : Bool) : (∃ l, l.length ≤ maxLen ∧ maySet (hasFo b0 b1 b2 b3 b4 b5 b6 b7) (mayL 2) l = some true) ↔ (b0 = true ∨ b2 = true ∨ b3 = true ∨ b4 = true ∨ b5 = true ∨ b6 = true ∨ b7 = true) := by
  have e : maySet (hasFo b0 b1 b2 b3 b4 b5 b6 b7) (mayL 2) = mset ((mset (mset (mset (mset (mset (mset (mset (mset (fun _ => none) k_data b0) k_entries b1) k_tree b2) k_parents b3) k_time b4) k_target b5) k_who b6) k_note b7)) k_entries false := rfl
  rw [e]
  constructor
  · rintro ⟨l, _, h⟩
    have h0 := h
    rcases mset_true h with ⟨e0, h0⟩ | h
    · cases h0
    rcases mset_true h with ⟨e1, h1⟩ | h
    · exact Or.inr (Or.inr (Or.inr (Or.inr (Or.inr (Or.inr (h1))))))
    rcases mset_true h with ⟨e2, h2⟩ | h
    · exact Or.inr (Or.inr (Or.inr (Or.inr (Or.inr (Or.inl h2)))))
    rcases mset_true h with ⟨e3, h3⟩ | h
    · exact Or.inr (Or.inr (Or.inr (Or.inr (Or.inl h3))))
    rcases mset_true h with ⟨e4, h4⟩ | h
    · exact Or.inr (Or.inr (Or.inr (Or.inl h4)))
    rcases mset_true h with ⟨e5, h5⟩ | h
    · exact Or.inr (Or.inr (Or.inl h5))
    rcases mset_true h with ⟨e6, h6⟩ | h
    · exact Or.inr (Or.inl h6)
    rcases mset_true h with ⟨e7, h7⟩ | h
    · subst e7; skip
      exact absurd (show (some false : Option Bool) = some true from h0) (by decide)
    rcases mset_true h with ⟨e8, h8⟩ | h
    · exact Or.inl h8
    cases h
  · intro h
    rcases h with rfl | rfl | rfl | rfl | rfl | rfl | rfl
    · refine ⟨k_data, by decide, ?_⟩
      rfl
    · refine ⟨k_tree, by decide, ?_⟩
      rfl
    · refine ⟨k_parents, by decide, ?_⟩
      rfl
    · refine ⟨k_time, by decide, ?_⟩
      rfl
    · refine ⟨k_target, by decide, ?_⟩
      rfl
    · refine ⟨k_who, by decide, ?_⟩
      rfl
    · refine ⟨k_note, by decide, ?_⟩
      rfl
theorem has_true3 (b0 b1 b2 b3 b4 b5 b6 b7 : Bool) : (∃ l, l.length ≤ maxLen ∧ maySet (hasFo b0 b1 b2 b3 b4 b5 b6 b7) (mayL 3) l = some true) ↔ (b0 = true ∨ b1 = true ∨ b5 = true) := by
  have e : maySet (hasFo b0 b1 b2 b3 b4 b5 b6 b7) (mayL 3) = mset (mset (mset (mset (mset ((mset (mset (mset (mset (mset (mset (mset (mset (fun _ => none) k_data b0) k_entries b1) k_tree b2) k_parents b3) k_time b4) k_target b5) k_who b6) k_note b7)) k_tree false) k_parents false) k_time false) k_who false) k_note false := rfl
  rw [e]
  constructor
  · rintro ⟨l, _, h⟩
    have h0 := h
    rcases mset_true h with ⟨e0, h0⟩ | h
    · cases h0
    rcases mset_true h with ⟨e1, h1⟩ | h
    · cases h1
    rcases mset_true h with ⟨e2, h2⟩ | h
    · cases h2
    rcases mset_true h with ⟨e3, h3⟩ | h
    · cases h3
    rcases mset_true h with ⟨e4, h4⟩ | h
    · cases h4
    rcases mset_true h with ⟨e5, h5⟩ | h
    · subst e5; skip
      exact absurd (show (some false : Option Bool) = some true from h0) (by decide)
    rcases mset_true h with ⟨e6, h6⟩ | h
    · subst e6; skip
      exact absurd (show (some false : Option Bool) = some true from h0) (by decide)
    rcases mset_true h with ⟨e7, h7⟩ | h
    · exact Or.inr (Or.inr (h7))
    rcases mset_true h with ⟨e8, h8⟩ | h
    · subst e8; skip
      exact absurd (show (some false : Option Bool) = some true from h0) (by decide)
    rcases mset_true h with ⟨e9, h9⟩ | h
    · subst e9; skip
      exact absurd (show (some false : Option Bool) = some true from h0) (by decide)
    rcases mset_true h with ⟨e10, h10⟩ | h
    · subst e10; skip
      exact absurd (show (some false : Option Bool) = some true from h0) (by decide)
    rcases mset_true h with ⟨e11, h11⟩ | h
    · exact Or.inr (Or.inl h11)
    rcases mset_true h with ⟨e12, h12⟩ | h
    · exact Or.inl h12
    cases h
  · intro h
    rcases h with rfl | rfl | rfl
    · refine ⟨k_data, by decide, ?_⟩
      rfl
    · refine ⟨k_entries, by decide, ?_⟩
      rfl
    · refine ⟨k_target, by decide, ?_⟩
      rfl
theorem has_true4 (b0 b1 b2 b3 b4 b5 b6 b7 : Bool) : (∃ l, l.length ≤ maxLen ∧ maySet (hasFo b0 b1 b2 b3 b4 b5 b6 b7) (mayL 4) l = some true) ↔ (b0 = true ∨ b1 = true ∨ b2 = true ∨ b3 = true ∨ b4 = true) := by
  have e : maySet (hasFo b0 b1 b2 b3 b4 b5 b6 b7) (mayL 4) = mset (mset (mset ((mset (mset (mset (mset (mset (mset (mset (mset (fun _ => none) k_data b0) k_entries b1) k_tree b2) k_parents b3) k_time b4) k_target b5) k_who b6) k_note b7)) k_target false) k_who false) k_note false := rfl
  rw [e]
  constructor
  · rintro ⟨l, _, h⟩
    have h0 := h
    rcases mset_true h with ⟨e0, h0⟩ | h
    · cases h0
    rcases mset_true h with ⟨e1, h1⟩ | h
    · cases h1
    rcases mset_true h with ⟨e2, h2⟩ | h
    · cases h2
    rcases mset_true h with ⟨e3, h3⟩ | h
    · subst e3; skip
      exact absurd (show (some false : Option Bool) = some true from h0) (by decide)
    rcases mset_true h with ⟨e4, h4⟩ | h
    · subst e4; skip
      exact absurd (show (some false : Option Bool) = some true from h0) (by decide)
    rcases mset_true h with ⟨e5, h5⟩ | h
    · subst e5; skip
      exact absurd (show (some false : Option Bool) = some true from h0) (by decide)
    rcases mset_true h with ⟨e6, h6⟩ | h
    · exact Or.inr (Or.inr (Or.inr (Or.inr (h6))))
    rcases mset_true h with ⟨e7, h7⟩ | h
    · exact Or.inr (Or.inr (Or.inr (Or.inl h7)))
    rcases mset_true h with ⟨e8, h8⟩ | h
    · exact Or.inr (Or.inr (Or.inl h8))
    rcases mset_true h with ⟨e9, h9⟩ | h
    · exact Or.inr (Or.inl h9)
    rcases mset_true h with ⟨e10, h10⟩ | h
    · exact Or.inl h10
    cases h
  · intro h
    rcases h with rfl | rfl | rfl | rfl | rfl
    · refine ⟨k_data, by decide, ?_⟩
      rfl
    · refine ⟨k_entries, by decide, ?_⟩
      rfl
    · refine ⟨k_tree, by decide, ?_⟩
      rfl
    · refine ⟨k_parents, by decide, ?_⟩
      rfl
    · refine ⟨k_time, by decide, ?_⟩
      rfl
theorem dec8_1 : ∀ x1 x2 x3 x4 x5 x6 x7 x8 : Bool, ((!x2) = true ∨ (!x3) = true ∨ (!x4) = true ∨ (!x5) = true ∨ (!x6) = true ∨ (!x7) = true ∨ (!x8) = true) ↔ ((decide ((1 : Int) = 1) || x1) && ((decide ((1 : Int) = 2) || x2) && ((decide ((1 : Int) = 3) || (x3 && (x4 && x5))) && ((decide ((1 : Int) = 4) || x6) && (decide ((1 : Int) = 3) || (decide ((1 : Int) = 4) || (x7 && x8))))))) = false := by
  intro x1 x2 x3 x4 x5 x6 x7 x8
  cases x2 <;> cases x3 <;> cases x4 <;> cases x5 <;> cases x6 <;> cases x7 <;> cases x8 <;> simp
theorem dec8_2 : ∀ x1 x2 x3 x4 x5 x6 x7 x8 : Bool, ((!x1) = true ∨ (!x3) = true ∨ (!x4) = true ∨ (!x5) = true ∨ (!x6) = true ∨ (!x7) = true ∨ (!x8) = true) ↔ ((decide ((2 : Int) = 1) || x1) && ((decide ((2 : Int) = 2) || x2) && ((decide ((2 : Int) = 3) || (x3 && (x4 && x5))) && ((decide ((2 : Int) = 4) || x6) && (decide ((2 : Int) = 3) || (decide ((2 : Int) = 4) || (x7 && x8))))))) = false := by
  intro x1 x2 x3 x4 x5 x6 x7 x8
  cases x1 <;> cases x3 <;> cases x4 <;> cases x5 <;> cases x6 <;> cases x7 <;> cases x8 <;> simp
theorem dec8_3 : ∀ x1 x2 x3 x4 x5 x6 x7 x8 : Bool, ((!x1) = true ∨ (!x2) = true ∨ (!x6) = true) ↔ ((decide ((3 : Int) = 1) || x1) && ((decide ((3 : Int) = 2) || x2) && ((decide ((3 : Int) = 3) || (x3 && (x4 && x5))) && ((decide ((3 : Int) = 4) || x6) && (decide ((3 : Int) = 3) || (decide ((3 : Int) = 4) || (x7 && x8))))))) = false := by
  intro x1 x2 x3 x4 x5 x6 x7 x8
  cases x1 <;> cases x2 <;> cases x6 <;> simp
theorem dec8_4 : ∀ x1 x2 x3 x4 x5 x6 x7 x8 : Bool, ((!x1) = true ∨ (!x2) = true ∨ (!x3) = true ∨ (!x4) = true ∨ (!x5) = true) ↔ ((decide ((4 : Int) = 1) || x1) && ((decide ((4 : Int) = 2) || x2) && ((decide ((4 : Int) = 3) || (x3 && (x4 && x5))) && ((decide ((4 : Int) = 4) || x6) && (decide ((4 : Int) = 3) || (decide ((4 : Int) = 4) || (x7 && x8))))))) = false := by
  intro x1 x2 x3 x4 x5 x6 x7 x8
  cases x1 <;> cases x2 <;> cases x3 <;> cases x4 <;> cases x5 <;> simp
theorem emp_of (o : Ob) (hk : 1 ≤ o.kind ∧ o.kind ≤ 4) : (∃ l, l.length ≤ maxLen ∧ maySet (hasO o) (mayL o.kind) l = some true) ↔ obEmp o = false := by
  obtain ⟨kd, dt, en, tr, pa, wh, no, ti, ta⟩ := o
  simp only at hk
  unfold hasO
  rcases (by omega : kd = 1 ∨ kd = 2 ∨ kd = 3 ∨ kd = 4) with rfl | rfl | rfl | rfl
  · exact (has_true1 _ _ _ _ _ _ _ _).trans (dec8_1 dt.isEmpty en.isEmpty tr.isEmpty pa.isEmpty (decide (ti = 0)) ta.isEmpty wh.isEmpty no.isEmpty)
  · exact (has_true2 _ _ _ _ _ _ _ _).trans (dec8_2 dt.isEmpty en.isEmpty tr.isEmpty pa.isEmpty (decide (ti = 0)) ta.isEmpty wh.isEmpty no.isEmpty)
  · exact (has_true3 _ _ _ _ _ _ _ _).trans (dec8_3 dt.isEmpty en.isEmpty tr.isEmpty pa.isEmpty (decide (ti = 0)) ta.isEmpty wh.isEmpty no.isEmpty)
  · exact (has_true4 _ _ _ _ _ _ _ _).trans (dec8_4 dt.isEmpty en.isEmpty tr.isEmpty pa.isEmpty (decide (ti = 0)) ta.isEmpty wh.isEmpty no.isEmpty)
theorem hasO_eq (dt : List UInt8) (en : List Ent) (tr : List UInt8) (pa : List (List UInt8)) (ti : Int) (ta wh no : List UInt8) (kd : Int) :
    hasFo (!dt.isEmpty) (decide (0 < en.length)) (!tr.isEmpty) (decide (0 < pa.length)) (ti != 0) (!ta.isEmpty) (!wh.isEmpty) (!no.isEmpty) = hasO ⟨kd, dt, en, tr, pa, wh, no, ti, ta⟩ := by
  have e1 : ∀ {α : Type} (l : List α), decide (0 < l.length) = !l.isEmpty := by intro α l; cases l <;> simp
  have e2 : (ti != 0) = !decide (ti = 0) := by
    by_cases h : ti = 0
    · subst h; rfl
    · rw [decide_eq_false h]; simpa using h
  rw [e1, e1, e2]
  rfl
end Go.Proofs.YtoamnifnfkgbiaaGreatDoor

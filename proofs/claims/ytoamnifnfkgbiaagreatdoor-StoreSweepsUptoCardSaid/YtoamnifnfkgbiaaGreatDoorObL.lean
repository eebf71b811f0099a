/-
  Objects as values; what is wrong with one (P3.2), its bytes (P3.3), where it leads (P3.5): plain facts. No program is walked.
-/
import Derived.Test.YtoamnifnfkgbiaaGreatDoorElems
import Derived.Test.YtoamnifnfkgbiaaGreatDoorWireN
import Derived.Test.YtoamnifnfkgbiaaGreatDoorWrtC
import Derived.Test.YtoamnifnfkgbiaaGreatDoorAgg
import Derived.Test.YtoamnifnfkgbiaaGreatDoorDiskL
namespace Go.Proofs.YtoamnifnfkgbiaaGreatDoor
set_option maxRecDepth 100000
open Go.RowKit
set_option linter.unusedVariables false
/-- an entry of a tree -/
structure Ent where
  nm : List UInt8
  dir : Bool
  id : List UInt8
def entV (x : Ent) : List Value := [.string (bs x.nm), .bool x.dir, .string (bs x.id)]
theorem entV_len (x : Ent) : (entV x).length = 3 := rfl
theorem entV_one {l : List Ent} : ∀ u ∈ l.flatMap entV, u.oneCell' = true := by
  intro u hu
  obtain ⟨x, _, h⟩ := List.mem_flatMap.1 hu
  simp only [entV, List.mem_cons, List.not_mem_nil, or_false] at h
  rcases h with rfl | rfl | rfl <;> rfl
theorem aggEnt : AggOk 128 3 := ⟨⟨_, Tryz.underlying128, rfl⟩, by kernel_rfl⟩
theorem E.ent : ElemOk 89 128 (.agg #[.string (bs []), .bool false, .string (bs [])]) 3 40 := ⟨Tryz.underlying89, by kernel_rfl, rfl, by omega⟩
def EnRow (w : World) (A : Option Addr) (n : Nat) (l : List Ent) : Prop := Row w 3 A n (l.flatMap entV)
theorem EnRow.len {w : World} {A : Option Addr} {n : Nat} {l : List Ent} (h : EnRow w A n l) : l.length = n := Row.flen entV entV_len (by omega) h
theorem EnRow.gr {w w' : World} {A : Option Addr} {n : Nat} {l : List Ent} (h : EnRow w A n l) (g : Gr w w') : EnRow w' A n l := Row.gr h g
theorem EnRow.cell {w : World} {A : Option Addr} {n : Nat} {l : List Ent} (h : EnRow w A n l) {i : Nat} (hi : i < l.length) :
    ∃ b off, A = some ⟨b, off, none⟩ ∧ w.cell? ⟨b, off + i * 3, none⟩ = some (.string (bs l[i].nm)) ∧ w.cell? ⟨b, off + i * 3 + 1, none⟩ = some (.bool l[i].dir) ∧ w.cell? ⟨b, off + i * 3 + 2, none⟩ = some (.string (bs l[i].id)) := by
  obtain ⟨b, off, e, _, hc⟩ := Row.fcell entV entV_len (by omega) h hi
  exact ⟨b, off, e, hc 0 _ rfl, hc 1 _ rfl, hc 2 _ rfl⟩

/-- an object -/
structure Ob where
  kind : Int
  data : List UInt8
  ents : List Ent
  tree : List UInt8
  pars : List (List UInt8)
  who : List UInt8
  note : List UInt8
  time : Int
  target : List UInt8
def obZ : Ob := ⟨0, [], [], [], [], [], [], 0, []⟩
def obA (o : Ob) (A : Option Addr) (c : Nat) (B : Option Addr) (d : Nat) : Array Value :=
  #[.int .i64 o.kind, .string (bs o.data), .slice A o.ents.length c, .string (bs o.tree), .slice B o.pars.length d, .string (bs o.who), .string (bs o.note), .int .i64 o.time, .string (bs o.target)]
theorem obA_one (o : Ob) (A : Option Addr) (c : Nat) (B : Option Addr) (d : Nat) : (obA o A c B d).all (·.oneCell') = true := by simp [obA, Value.oneCell']
theorem aggOb : AggOk 91 9 := ⟨⟨_, Tryz.underlying91, rfl⟩, by kernel_rfl⟩
/-- the object's two slices as they lie in a world -/
structure ObR (w : World) (o : Ob) (A : Option Addr) (c : Nat) (B : Option Addr) (d : Nat) : Prop where
  ents : EnRow w A o.ents.length o.ents
  pars : StrRow w B o.pars.length o.pars
  en : A = none → o.ents.length = 0 ∧ c = 0
  pn : B = none → o.pars.length = 0 ∧ d = 0
  ec : o.ents.length ≤ c
  pc : o.pars.length ≤ d
theorem ObR.gr {w w' : World} {o : Ob} {A : Option Addr} {c : Nat} {B : Option Addr} {d : Nat} (h : ObR w o A c B d) (g : Gr w w') : ObR w' o A c B d := ⟨h.ents.gr g, h.pars.gr g, h.en, h.pn, h.ec, h.pc⟩
theorem ObR.z (w : World) : ObR w obZ none 0 none 0 := ⟨Row.nil _ _ _, Row.nil _ _ _, fun _ => ⟨rfl, rfl⟩, fun _ => ⟨rfl, rfl⟩, Nat.le_refl _, Nat.le_refl _⟩
/-- no part is longer than so many -/
structure ObSz (k : Nat) (o : Ob) : Prop where
  data : o.data.length ≤ k
  ents : o.ents.length ≤ k
  each : ∀ x ∈ o.ents, x.nm.length ≤ k ∧ x.id.length ≤ k
  tree : o.tree.length ≤ k
  pars : o.pars.length ≤ k
  peach : ∀ x ∈ o.pars, x.length ≤ k
  who : o.who.length ≤ k
  note : o.note.length ≤ k
  target : o.target.length ≤ k
theorem ObSz.z (k : Nat) : ObSz k obZ := ⟨by simp [obZ], by simp [obZ], by simp [obZ], by simp [obZ], by simp [obZ], by simp [obZ], by simp [obZ], by simp [obZ], by simp [obZ]⟩

/-- P3.1: may a byte stand in an entry's name -/
def entC (n : Nat) : Bool := decide (33 ≤ n) && decide (n ≤ 126) && !(n == 47)
/-- P3.1 -/
def entB (s : List UInt8) : Bool := decide (s.length ≠ 0 ∧ s.length ≤ 60) && (s.all (fun c => entC c.toNat) && (!(s == [46]) && !(s == [46, 46])))
/-- a text without a nought -/
def lineC (s : List UInt8) : Bool := s.all fun c => !(c.toNat == 0)
/-- P3.2: entries behind a name: are they right -/
def enF : List UInt8 → List Ent → Bool
  | _, [] => true
  | last, x :: r => entB x.nm && (decide (x.id.length = 32) && (ltB last x.nm && enF x.nm r))
/-- P3.2: parents behind others: the error -/
def paF : List (List UInt8) → List (List UInt8) → Int
  | _, [] => 0
  | had, p :: r => if p.length = 32 then (if p ∈ had then 8 else paF (had ++ [p]) r) else 2
/-- has it nothing but what its kind has -/
def obEmp (o : Ob) : Bool :=
  (decide (o.kind = 1) || o.data.isEmpty) && ((decide (o.kind = 2) || o.ents.isEmpty) && ((decide (o.kind = 3) || (o.tree.isEmpty && (o.pars.isEmpty && decide (o.time = 0)))) &&
    ((decide (o.kind = 4) || o.target.isEmpty) && (decide (o.kind = 3) || (decide (o.kind = 4) || (o.who.isEmpty && o.note.isEmpty))))))
/-- the sums' lengths, and the texts -/
def obIds (o : Ob) : Bool := (!decide (o.kind = 3) || decide (o.tree.length = 32)) && ((!decide (o.kind = 4) || decide (o.target.length = 32)) && (lineC o.who && lineC o.note))
/-- behind entries and parents -/
def obL (o : Ob) : Int := if obIds o = true then (if o.time < 0 ∨ 1099511627776 ≤ o.time then 3 else 0) else 2
def obP (o : Ob) : Int := if paF [] o.pars = 0 then obL o else paF [] o.pars
/-- behind the kind and what is empty -/
def obN (o : Ob) : Int :=
  if 4096 < o.data.length ∨ 4096 < o.who.length ∨ 4096 < o.note.length then 1 else if 64 < o.ents.length ∨ 4 < o.pars.length then 6 else if enF [] o.ents = true then obP o else 2
/-- P3.2: the error -/
def obE (o : Ob) : Int := if o.kind < 1 ∨ 4 < o.kind then 4 else if obEmp o = true then obN o else 2

theorem enF_cons (last : List UInt8) (x : Ent) (r : List Ent) : enF last (x :: r) = (entB x.nm && (decide (x.id.length = 32) && (ltB last x.nm && enF x.nm r))) := rfl
theorem paF_cons (had : List (List UInt8)) (p : List UInt8) (r : List (List UInt8)) : paF had (p :: r) = if p.length = 32 then (if p ∈ had then 8 else paF (had ++ [p]) r) else 2 := rfl
theorem entB_ne {s : List UInt8} (h : entB s = true) : s ≠ [] := by rintro rfl; exact absurd h (by decide)
theorem entB_len {s : List UInt8} (h : entB s = true) : s.length ≤ 60 := by
  unfold entB at h
  rw [Bool.and_eq_true, decide_eq_true_eq] at h
  exact h.1.2
/-- the name ahead of place i -/
def enLast (l : List Ent) (i : Nat) : List UInt8 := if i = 0 then [] else (l.drop (i - 1)).head?.map (·.nm) |>.getD []
theorem enLast_zero (l : List Ent) : enLast l 0 = [] := rfl
theorem enLast_succ (l : List Ent) (i : Nat) (h : i < l.length) : enLast l (i + 1) = l[i].nm := by
  unfold enLast
  rw [if_neg (by omega), Nat.add_sub_cancel, List.drop_eq_getElem_cons h]
  rfl
theorem enF_at (l : List Ent) (i : Nat) (h : i < l.length) : enF (enLast l i) (l.drop i) = (entB l[i].nm && (decide (l[i].id.length = 32) && (ltB (enLast l i) l[i].nm && enF (enLast l (i + 1)) (l.drop (i + 1))))) := by
  rw [List.drop_eq_getElem_cons h, enF_cons, enLast_succ l i h]
theorem enF_end (last : List UInt8) (l : List Ent) (i : Nat) (h : l.length ≤ i) : enF last (l.drop i) = true := by rw [List.drop_eq_nil_of_le h]; rfl
theorem paF_at (l : List (List UInt8)) (i : Nat) (h : i < l.length) : paF (l.take i) (l.drop i) = if l[i].length = 32 then (if l[i] ∈ l.take i then 8 else paF (l.take (i + 1)) (l.drop (i + 1))) else 2 := by
  rw [List.drop_eq_getElem_cons h, paF_cons, List.take_succ_eq_append_getElem h]
theorem paF_end (had l : List (List UInt8)) (i : Nat) (h : l.length ≤ i) : paF had (l.drop i) = 0 := by rw [List.drop_eq_nil_of_le h]; rfl

theorem enF_good : ∀ (l : List Ent) (last : List UInt8), enF last l = true → ∀ x ∈ l, x.nm.length ≤ 60 ∧ x.id.length = 32
  | [], _, _, x, hx => by simp at hx
  | y :: r, last, h, x, hx => by
    rw [enF_cons] at h
    simp only [Bool.and_eq_true, decide_eq_true_eq] at h
    rcases List.mem_cons.1 hx with rfl | hx
    · exact ⟨entB_len h.1, h.2.1⟩
    · exact enF_good r y.nm h.2.2.2 x hx
theorem paF_good : ∀ (l had : List (List UInt8)), paF had l = 0 → ∀ x ∈ l, x.length = 32
  | [], _, _, x, hx => by simp at hx
  | y :: r, had, h, x, hx => by
    rw [paF_cons] at h
    split at h
    · rename_i h1
      split at h
      · cases h
      · rcases List.mem_cons.1 hx with rfl | hx
        · exact h1
        · exact paF_good r _ h x hx
    · cases h
/-- what stands of a good object -/
structure ObOk (o : Ob) : Prop where
  kind : 1 ≤ o.kind ∧ o.kind ≤ 4
  data : o.data.length ≤ 4096
  who : o.who.length ≤ 4096
  note : o.note.length ≤ 4096
  ents : o.ents.length ≤ 64
  pars : o.pars.length ≤ 4
  each : ∀ x ∈ o.ents, x.nm.length ≤ 60 ∧ x.id.length = 32
  peach : ∀ x ∈ o.pars, x.length = 32
  tree : o.tree.length ≤ 32
  target : o.target.length ≤ 32
  time : 0 ≤ o.time ∧ o.time < 1099511627776
theorem obE_zero {o : Ob} (h : obE o = 0) : ObOk o := by
  unfold obE at h
  split at h
  · cases h
  · rename_i h1
    split at h
    · rename_i h2
      unfold obN at h
      split at h
      · cases h
      · rename_i h3
        split at h
        · cases h
        · rename_i h4
          split at h
          · rename_i h5
            unfold obP at h
            split at h
            · rename_i h6
              unfold obL at h
              split at h
              · rename_i h7
                split at h
                · cases h
                · rename_i h8
                  unfold obIds at h7
                  unfold obEmp at h2
                  simp only [Bool.and_eq_true, Bool.or_eq_true, Bool.not_eq_true', decide_eq_true_eq, decide_eq_false_iff_not, List.isEmpty_iff] at h7 h2
                  have ht : o.tree.length ≤ 32 := by
                    rcases h7.1 with h | h
                    · rcases h2.2.2.1 with h' | h'
                      · exact absurd h' h
                      · rw [h'.1]; simp
                    · omega
                  have hg : o.target.length ≤ 32 := by
                    rcases h7.2.1 with h | h
                    · rcases h2.2.2.2.1 with h' | h'
                      · exact absurd h' h
                      · rw [h']; simp
                    · omega
                  exact ⟨by omega, by omega, by omega, by omega, by omega, by omega, enF_good _ _ h5, paF_good _ _ h6, ht, hg, by omega⟩
              · cases h
            · rename_i h6; exact absurd h h6
          · cases h
    · cases h

/-- P3.3: an entry's bytes -/
def enS (x : Ent) : List UInt8 := txt x.nm ++ (numS (if x.dir then 1 else 0) ++ x.id)
def enSs (l : List Ent) : List UInt8 := l.flatMap enS
/-- P3.3: behind the kind -/
def obB (o : Ob) : List UInt8 :=
  if o.kind = 1 then txt o.data else if o.kind = 2 then numS o.ents.length ++ enSs o.ents else if o.kind = 3 then o.tree ++ (numS o.pars.length ++ (o.pars.flatten ++ (txt o.who ++ (numS o.time ++ txt o.note)))) else o.target ++ (txt o.who ++ txt o.note)
def obS (o : Ob) : List UInt8 := numS o.kind ++ obB o
/-- P3.3: the bytes, or the error -/
def obEnc (o : Ob) : List UInt8 × Int := if obE o = 0 then (if 8192 < (obS o).length then ([], 1) else (obS o, 0)) else ([], obE o)
theorem enSs_take (l : List Ent) (i : Nat) (h : i < l.length) : enSs (l.take (i + 1)) = enSs (l.take i) ++ enS l[i] := by
  unfold enSs
  rw [List.take_succ_eq_append_getElem h, List.flatMap_append]
  simp
theorem flat_snoc (l : List (List UInt8)) (i : Nat) (h : i < l.length) : (l.take (i + 1)).flatten = (l.take i).flatten ++ l[i] := by
  rw [List.take_succ_eq_append_getElem h, List.flatten_append]
  simp
theorem txt_le (l : List UInt8) (h : l.length ≤ 1099511627776) : (txt l).length ≤ l.length + 9 := by
  unfold txt
  rw [List.length_append]
  have := num_len9 (n := l.length) (by omega)
  omega
theorem numS_le {n : Int} : (numS n).length ≤ 9 := by
  unfold numS
  split
  · exact num_len9 (by omega)
  · simp
theorem enS_le {x : Ent} (h : x.nm.length ≤ 60 ∧ x.id.length = 32) : (enS x).length ≤ 110 := by
  unfold enS
  have h1 := txt_le x.nm (by omega)
  have h2 := numS_le (n := if x.dir then 1 else 0)
  simp only [List.length_append]
  omega
theorem enSs_le (l : List Ent) (h : ∀ x ∈ l, x.nm.length ≤ 60 ∧ x.id.length = 32) : (enSs l).length ≤ l.length * 110 := by
  induction l with
  | nil => simp [enSs]
  | cons x r ih =>
    have h1 := ih (fun y hy => h y (List.mem_cons_of_mem _ hy))
    have h2 := enS_le (h x List.mem_cons_self)
    unfold enSs at h1 ⊢
    rw [List.flatMap_cons, List.length_append, List.length_cons]
    omega
theorem flat32_le (l : List (List UInt8)) (h : ∀ x ∈ l, x.length = 32) : l.flatten.length ≤ l.length * 32 := by
  induction l with
  | nil => simp
  | cons x r ih =>
    have h1 := ih (fun y hy => h y (List.mem_cons_of_mem _ hy))
    have h2 := h x List.mem_cons_self
    rw [List.flatten_cons, List.length_append, List.length_cons]
    omega
theorem obS_le {o : Ob} (h : ObOk o) : (obS o).length ≤ 10000 := by
  have h1 := txt_le o.data (by have := h.data; omega)
  have h2 := txt_le o.who (by have := h.who; omega)
  have h3 := txt_le o.note (by have := h.note; omega)
  have h4 := enSs_le o.ents h.each
  have h5 := flat32_le o.pars h.peach
  have h6 := numS_le (n := o.kind)
  have h7 := numS_le (n := o.ents.length)
  have h8 := numS_le (n := o.pars.length)
  have h9 := numS_le (n := o.time)
  have := h.data; have := h.who; have := h.note; have := h.ents; have := h.pars; have := h.tree; have := h.target
  unfold obS obB
  rw [List.length_append]
  split
  · omega
  · split
    · simp only [List.length_append]; omega
    · split
      · simp only [List.length_append]; omega
      · simp only [List.length_append]; omega

/-- P3.5 -/
def obLk (o : Ob) : List (List UInt8) := if o.kind = 2 then o.ents.map (·.id) else if o.kind = 3 then o.tree :: o.pars else if o.kind = 4 then [o.target] else []
end Go.Proofs.YtoamnifnfkgbiaaGreatDoor

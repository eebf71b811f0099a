/-
  P3.4: what an object's bytes are read as; plain facts.
-/
import Derived.Test.YtoamnifnfkgbiaaGreatDoorObL
import Derived.Test.YtoamnifnfkgbiaaGreatDoorRdr
namespace Go.Proofs.YtoamnifnfkgbiaaGreatDoor
set_option maxRecDepth 100000
open Go.RowKit
set_option linter.unusedVariables false
theorem gKpO {l : List UInt8} (h : gE l = 0) : 0 < gK l := by
  unfold gE at h
  unfold gK
  rcases hg : get l with _ | ⟨n, k⟩
  · rw [hg] at h; cases h
  · exact (get_le hg).2.1
theorem nxtN_ltO (q : St) : nxtN q < 4611686018427387904 := by
  unfold nxtN
  split
  · exact gN_lt _
  · omega
theorem aftN_leO (q : St) : (aftN q).1.length ≤ q.1.length := by
  unfold aftN; split
  · simp
  · exact Nat.le_refl _
theorem aftN_lessO {q : St} (h2 : (aftN q).2 = 0) : (aftN q).1.length < q.1.length := by
  unfold aftN at h2 ⊢
  split at h2
  · rename_i h
    rw [if_pos h]
    have := gKpO h2
    have := (gK_le q.1).1
    simp; omega
  · rename_i h; exact absurd h2 h
theorem aftB_leO (n : Int) (q : St) : (aftB n q).1.length ≤ q.1.length := by
  unfold aftB
  split
  · split
    · simp
    · exact Nat.le_refl _
  · exact Nat.le_refl _
theorem aftB_okO {n : Int} {q : St} (h : (aftB n q).2 = 0) : q.2 = 0 := by
  unfold aftB at h
  split at h
  · assumption
  · exact h
theorem aftB_lessO {q : St} (h : (aftB 32 q).2 = 0) : (aftB 32 q).1.length < q.1.length := by
  unfold aftB at h ⊢
  split at h
  · rename_i h0
    rw [if_pos h0]
    split at h
    · rename_i h1
      rw [if_pos h1]
      simp; omega
    · cases h
  · rename_i h0; exact absurd h h0
theorem nxtB_leO (q : St) : (nxtB 32 q).length ≤ 32 := by
  unfold nxtB
  split
  · rw [List.length_take]; exact Nat.min_le_left _ _
  · simp
theorem aftT_leO (q : St) : (aftT q).1.length ≤ q.1.length := by
  unfold aftT; split
  · simp
  · exact Nat.le_refl _
theorem nxtT_leO (q : St) : (nxtT q).length ≤ q.1.length := by
  unfold nxtT
  split
  · unfold tS
    split
    · unfold sub; simp only [List.length_take, List.length_drop]; omega
    · simp
  · simp
theorem aftN_badO {q : St} (h : ¬ q.2 = 0) : aftN q = q := by unfold aftN; rw [if_neg h]
theorem aftT_badO {q : St} (h : ¬ q.2 = 0) : aftT q = q := by unfold aftT; rw [if_neg h]
theorem aftB_badO {n : Int} {q : St} (h : ¬ q.2 = 0) : aftB n q = q := by unfold aftB; rw [if_neg h]

/-- so many entries, as long as nothing went wrong; none: a number that is neither 0 nor 1 -/
def deL : Nat → St → Option (List Ent × St)
  | 0, q => some ([], q)
  | n + 1, q =>
    if q.2 = 0 then
      (if 1 < nxtN (aftT q) then none else (deL n (aftB 32 (aftN (aftT q)))).map fun r => (⟨nxtT q, decide (nxtN (aftT q) = 1), nxtB 32 (aftN (aftT q))⟩ :: r.1, r.2))
    else some ([], q)
def dpL : Nat → St → List (List UInt8) × St
  | 0, q => ([], q)
  | n + 1, q => if q.2 = 0 then (nxtB 32 q :: (dpL n (aftB 32 q)).1, (dpL n (aftB 32 q)).2) else ([], q)
theorem deL_bad {n : Nat} {q : St} (h : ¬ q.2 = 0) : deL n q = some ([], q) := by
  cases n with
  | zero => rfl
  | succ n => rw [deL, if_neg h]
theorem dpL_bad {n : Nat} {q : St} (h : ¬ q.2 = 0) : dpL n q = ([], q) := by
  cases n with
  | zero => rfl
  | succ n => rw [dpL, if_neg h]
/-- i entries are read, n are to come -/
structure DeAt (k n0 : Nat) (q0 : St) (i n : Nat) (q : St) (F : List Ent) : Prop where
  all : deL n0 q0 = (deL n q).map fun r => (F ++ r.1, r.2)
  fl : F.length = i
  le : i ≤ k + 1
  left : q.2 = 0 → q.1.length + i ≤ k
  len : q.1.length ≤ k
  each : ∀ x ∈ F, x.nm.length ≤ k ∧ x.id.length ≤ 32
theorem DeAt.start {k n0 : Nat} {q0 : St} (h : q0.1.length ≤ k) : DeAt k n0 q0 0 n0 q0 [] :=
  ⟨by cases deL n0 q0 <;> rfl, rfl, by omega, fun _ => by omega, h, by simp⟩
theorem DeAt.next {k n0 : Nat} {q0 : St} {i n : Nat} {q : St} {F : List Ent} (h : DeAt k n0 q0 i (n + 1) q F) (h0 : q.2 = 0) (h1 : ¬ 1 < nxtN (aftT q)) :
    DeAt k n0 q0 (i + 1) n (aftB 32 (aftN (aftT q))) (F ++ [⟨nxtT q, decide (nxtN (aftT q) = 1), nxtB 32 (aftN (aftT q))⟩]) := by
  have hl := h.left h0
  have a1 := aftB_leO 32 (aftN (aftT q))
  have a2 := aftN_leO (aftT q)
  have a3 := aftT_leO q
  have a4 := nxtT_leO q
  refine ⟨?_, by rw [List.length_append, h.fl]; rfl, by omega, fun e => ?_, by omega, fun x hx => ?_⟩
  · have := h.all
    rw [deL, if_pos h0, if_neg h1] at this
    rw [this]
    cases deL n (aftB 32 (aftN (aftT q))) with
    | none => rfl
    | some r => simp
  · have := aftN_lessO (aftB_okO e)
    omega
  · rcases List.mem_append.1 hx with hx | hx
    · exact h.each x hx
    · simp at hx; subst hx; exact ⟨by simp only; omega, nxtB_leO _⟩
theorem DeAt.high {k n0 : Nat} {q0 : St} {i n : Nat} {q : St} {F : List Ent} (h : DeAt k n0 q0 i (n + 1) q F) (h0 : q.2 = 0) (h1 : 1 < nxtN (aftT q)) : deL n0 q0 = none := by
  have := h.all
  rw [deL, if_pos h0, if_pos h1] at this
  exact this
theorem DeAt.bad {k n0 : Nat} {q0 : St} {i n : Nat} {q : St} {F : List Ent} (h : DeAt k n0 q0 i n q F) (h0 : ¬ q.2 = 0) : deL n0 q0 = some (F, q) := by
  have := h.all
  rw [deL_bad h0] at this
  simpa using this
theorem DeAt.done {k n0 : Nat} {q0 : St} {i : Nat} {q : St} {F : List Ent} (h : DeAt k n0 q0 i 0 q F) : deL n0 q0 = some (F, q) := by
  have := h.all
  simpa [deL] using this
structure DpAt (k n0 : Nat) (q0 : St) (i n : Nat) (q : St) (G : List (List UInt8)) : Prop where
  all : dpL n0 q0 = (G ++ (dpL n q).1, (dpL n q).2)
  gl : G.length = i
  le : i ≤ k + 1
  left : q.2 = 0 → q.1.length + i ≤ k
  len : q.1.length ≤ k
  each : ∀ x ∈ G, x.length ≤ 32
theorem DpAt.start {k n0 : Nat} {q0 : St} (h : q0.1.length ≤ k) : DpAt k n0 q0 0 n0 q0 [] := ⟨rfl, rfl, by omega, fun _ => by omega, h, by simp⟩
theorem DpAt.next {k n0 : Nat} {q0 : St} {i n : Nat} {q : St} {G : List (List UInt8)} (h : DpAt k n0 q0 i (n + 1) q G) (h0 : q.2 = 0) : DpAt k n0 q0 (i + 1) n (aftB 32 q) (G ++ [nxtB 32 q]) := by
  have hl := h.left h0
  have a1 := aftB_leO 32 q
  refine ⟨?_, by rw [List.length_append, h.gl]; rfl, by omega, fun e => ?_, by omega, fun x hx => ?_⟩
  · have := h.all
    rw [dpL, if_pos h0] at this
    rw [this]; simp
  · have := aftB_lessO e
    omega
  · rcases List.mem_append.1 hx with hx | hx
    · exact h.each x hx
    · simp at hx; subst hx; exact nxtB_leO _
theorem DpAt.bad {k n0 : Nat} {q0 : St} {i n : Nat} {q : St} {G : List (List UInt8)} (h : DpAt k n0 q0 i n q G) (h0 : ¬ q.2 = 0) : dpL n0 q0 = (G, q) := by
  have := h.all
  rw [dpL_bad h0] at this
  simpa using this
theorem DpAt.done {k n0 : Nat} {q0 : St} {i : Nat} {q : St} {G : List (List UInt8)} (h : DpAt k n0 q0 i 0 q G) : dpL n0 q0 = (G, q) := by
  have := h.all
  simpa [dpL] using this

/-- the object as it is read, and what is left -/
def ob1 (q : St) : Ob := ⟨1, nxtT q, [], [], [], [], [], 0, []⟩
def ob2 (F : List Ent) : Ob := ⟨2, [], F, [], [], [], [], 0, []⟩
def ob3 (q : St) (G : List (List UInt8)) (q4 : St) : Ob := ⟨3, [], [], nxtB 32 q, G, nxtT q4, nxtT (aftN (aftT q4)), (nxtN (aftT q4) : Int), []⟩
def ob4 (q : St) : Ob := ⟨4, [], [], [], [], nxtT (aftB 32 q), nxtT (aftT (aftB 32 q)), 0, nxtB 32 q⟩
def ob5 (k : Nat) : Ob := ⟨(k : Int), [], [], [], [], [], [], 0, []⟩
/-- what is to be said of it -/
def obFin (o : Ob) (q : St) : Ob × Int := if q.2 = 0 ∧ q.1.length = 0 then (if obE o = 0 then (o, 0) else (obZ, obE o)) else (obZ, 2)
def obR (k : Nat) (q : St) : Ob × Int :=
  if k = 1 then obFin (ob1 q) (aftT q)
  else if k = 2 then (match deL (nxtN q) (aftN q) with | none => (obZ, 2) | some r => obFin (ob2 r.1) r.2)
  else if k = 3 then obFin (ob3 q (dpL (nxtN (aftB 32 q)) (aftN (aftB 32 q))).1 (dpL (nxtN (aftB 32 q)) (aftN (aftB 32 q))).2) (aftT (aftN (aftT (dpL (nxtN (aftB 32 q)) (aftN (aftB 32 q))).2)))
  else if k = 4 then obFin (ob4 q) (aftT (aftT (aftB 32 q)))
  else if q.2 = 0 then (obZ, 4) else (obZ, 2)
/-- P3.4 -/
def obD (b : List UInt8) : Ob × Int := if 8192 < b.length then (obZ, 1) else obR (nxtN (b, 0)) (aftN (b, 0))
theorem obR_bad {k : Nat} {q : St} (h : ¬ q.2 = 0) : obR k q = (obZ, 2) := by
  have hf : ∀ o, obFin o q = (obZ, 2) := fun o => by unfold obFin; rw [if_neg (fun h' => h h'.1)]
  unfold obR
  rw [aftT_badO h, aftB_badO h, aftN_badO h, dpL_bad h, deL_bad h, aftT_badO h, aftT_badO h, aftN_badO h, aftT_badO h]
  simp only [hf]
  split
  · rfl
  · split
    · rfl
    · split
      · rfl
      · split
        · rfl
        · simp
theorem obE_kind {k : Nat} (h : ¬ (1 ≤ k ∧ k ≤ 4)) : obE (ob5 k) = 4 := by
  unfold obE
  rw [if_pos]
  simp only [ob5]
  omega
theorem obD_sz (b : List UInt8) (hb : b.length ≤ 1099511627776) : ObSz 1099511627776 (obD b).1 ∧ ((obD b).2 = 0 → ObOk (obD b).1) := by
  have hz : ∀ e : Int, e ≠ 0 → ObSz 1099511627776 ((obZ, e) : Ob × Int).1 ∧ (((obZ, e) : Ob × Int).2 = 0 → ObOk ((obZ, e) : Ob × Int).1) := fun e he => ⟨ObSz.z _, fun h => absurd h he⟩
  have hf : ∀ o q, ObSz 1099511627776 (obFin o q).1 ∧ ((obFin o q).2 = 0 → ObOk (obFin o q).1) := by
    intro o q
    unfold obFin
    split
    · split
      · rename_i h
        have h1 := obE_zero h
        refine ⟨⟨?_, ?_, fun x hx => ?_, ?_, ?_, fun x hx => ?_, ?_, ?_, ?_⟩, fun _ => h1⟩
        · have := h1.data; simp only; omega
        · have := h1.ents; simp only; omega
        · have := h1.each x hx; omega
        · have := h1.tree; simp only; omega
        · have := h1.pars; simp only; omega
        · have := h1.peach x hx; omega
        · have := h1.who; simp only; omega
        · have := h1.note; simp only; omega
        · have := h1.target; simp only; omega
      · rename_i h; exact hz _ h
    · exact hz 2 (by decide)
  unfold obD
  split
  · exact hz 1 (by decide)
  · unfold obR
    split
    · exact hf _ _
    · split
      · split
        · exact hz 2 (by decide)
        · exact hf _ _
      · split
        · exact hf _ _
        · split
          · exact hf _ _
          · split
            · exact hz 4 (by decide)
            · exact hz 2 (by decide)
end Go.Proofs.YtoamnifnfkgbiaaGreatDoor

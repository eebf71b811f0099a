/-
  Facts for Save: the disk in its variable, from step to step; what Save answers.
-/
import Derived.Test.YtcfghoohdlljkaaDiskDo0
import Derived.Test.YtcfghoohdlljkaaDiskDo1
import Derived.Test.YtcfghoohdlljkaaDiskDo2
import Derived.Test.YtcfghoohdlljkaaDiskDo3
import Derived.Test.YtcfghoohdlljkaaDiskStepL
namespace Go.Proofs.Ytcfghoohdlljkaa
open Go.RowKit
set_option linter.unusedVariables false

structure SaveSt (w0 : World) (p : Nat) (A0 : Option Addr) (n0 cap0 : Nat) (fs0 : List Fl) (w : World) (A : Option Addr) (n cap : Nat) (f : Int) (fs : List Fl) : Prop where
  g : Gr w0 w
  bp : Blk w p 37 #[.slice A n cap, .int .i64 f]
  bq : Blk w (p + 1) 37 #[.slice none 0 0, .int .i64 0]
  nil : A = none → n = 0 ∧ cap = 0
  le : n ≤ cap
  alt : (A = A0 ∧ n = n0 ∧ cap = cap0 ∧ fs = fs0) ∨ w.ownsRow (p + 2) 70 3 (.slice A n cap) n (fs.flatMap fileC)
theorem SaveSt.row {w0 w : World} {p n0 cap0 n cap : Nat} {A0 A : Option Addr} {f : Int} {fs0 fs : List Fl} (h : SaveSt w0 p A0 n0 cap0 fs0 w A n cap f fs) (hx : FRow w0 A0 n0 fs0) : FRow w A n fs := by
  rcases h.alt with ⟨rfl, rfl, _, rfl⟩ | h1
  · exact hx.gr h.g
  · exact Row.own h1
theorem SaveSt.gr {w0 w w' : World} {p n0 cap0 n cap : Nat} {A0 A : Option Addr} {f : Int} {fs0 fs : List Fl} (h : SaveSt w0 p A0 n0 cap0 fs0 w A n cap f fs) (hg : Gr w w') : SaveSt w0 p A0 n0 cap0 fs0 w' A n cap f fs :=
  ⟨h.g.trans hg, h.bp.gr hg, h.bq.gr hg, h.nil, h.le, h.alt.elim .inl (fun h1 => .inr (own_gr h1 hg))⟩
theorem SaveSt.facts {w0 w : World} {p n0 cap0 n cap : Nat} {A0 A : Option Addr} {f : Int} {fs0 fs : List Fl} (h : SaveSt w0 p A0 n0 cap0 fs0 w A n cap f fs) :
    w.cell? ⟨p, 0, none⟩ = some (.slice A n cap) ∧ w.cell? ⟨p, 1, none⟩ = some (.int .i64 f) ∧ w.frozen? ⟨p, 0, none⟩ = false ∧ w.frozen? ⟨p, 1, none⟩ = false ∧
    w.cell? ⟨p + 1, 0, none⟩ = some (.slice none 0 0) ∧ w.cell? ⟨p + 1, 1, none⟩ = some (.int .i64 0) ∧ w.frozen? ⟨p + 1, 0, none⟩ = false ∧ w.frozen? ⟨p + 1, 1, none⟩ = false :=
  ⟨h.bp.cell 0, h.bp.cell 1, h.bp.frozen 0, h.bp.frozen 1, h.bq.cell 0, h.bq.cell 1, h.bq.frozen 0, h.bq.frozen 1⟩
/-- a step's answer in the variable -/
theorem SaveSt.next {w0 w w' : World} {p n0 cap0 n cap n' cap' : Nat} {A0 A A' : Option Addr} {f u : Int} {fs0 fs gs : List Fl} (h : SaveSt w0 p A0 n0 cap0 fs0 w A n cap f fs) (hp : p = w0.heap.size) (hg : Gr w w') (hA' : A' = none → n' = 0 ∧ cap' = 0)
    (hr : (A' = A ∧ n' = n ∧ cap' = cap ∧ gs = fs) ∨ w'.ownsRow w.heap.size 70 3 (.slice A' n' cap') n' (gs.flatMap fileC)) :
    SaveSt w0 p A0 n0 cap0 fs0 ((w'.setCell ⟨p, 0, none⟩ (.slice A' n' cap')).setCell ⟨p, 1, none⟩ (.int .i64 u)) A' n' cap' u gs := by
  have hpp : w0.heap.size ≤ p := by omega
  have hq := h.bq.lt
  refine ⟨((h.g.trans hg).setCell (p := ⟨p, 0, none⟩) hpp _).setCell (p := ⟨p, 1, none⟩) hpp _, ((h.bp.gr hg).set_ 0 _).set_ 1 _, ((h.bq.gr hg).far (p := ⟨p, 0, none⟩) (by show p + 1 ≠ p; omega) _).far (p := ⟨p, 1, none⟩) (by show p + 1 ≠ p; omega) _, hA', StepPost.cap (r := (gs, u, 0)) h.le hr, ?_⟩
  have hown : ∀ B, p + 2 ≤ B → w'.ownsRow B 70 3 (.slice A' n' cap') n' (gs.flatMap fileC) → ((w'.setCell ⟨p, 0, none⟩ (.slice A' n' cap')).setCell ⟨p, 1, none⟩ (.int .i64 u)).ownsRow (p + 2) 70 3 (.slice A' n' cap') n' (gs.flatMap fileC) := fun B hB ho => by
    have hne : (Value.slice A' n' cap').ownBlock ≠ some p := fun e => by have := (ho.lt _ e).1; omega
    exact own_low (ownsRow_setCell_other (ownsRow_setCell_other ho (a := ⟨p, 0, none⟩) hne _) (a := ⟨p, 1, none⟩) hne _) hB
  rcases hr with ⟨rfl, rfl, rfl, rfl⟩ | hr
  · rcases h.alt with h1 | h1
    · exact .inl h1
    · exact .inr (hown _ (Nat.le_refl _) (own_gr h1 hg))
  · exact .inr (hown _ (by omega) hr)
/-- the answer, in the result's cell -/
theorem SaveSt.done {w0 w : World} {p n0 cap0 n cap : Nat} {A0 A : Option Addr} {f : Int} {fs0 fs : List Fl} (h : SaveSt w0 p A0 n0 cap0 fs0 w A n cap f fs) (hp : p = w0.heap.size) :
    Blk ((w.setCell ⟨p + 1, 0, none⟩ (.slice A n cap)).setCell ⟨p + 1, 1, none⟩ (.int .i64 f)) (p + 1) 37 #[.slice A n cap, .int .i64 f] ∧
    Gr w0 ((w.setCell ⟨p + 1, 0, none⟩ (.slice A n cap)).setCell ⟨p + 1, 1, none⟩ (.int .i64 f)) ∧ (A = none → n = 0 ∧ cap = 0) ∧
    ((A = A0 ∧ n = n0 ∧ cap = cap0 ∧ fs = fs0) ∨ ((w.setCell ⟨p + 1, 0, none⟩ (.slice A n cap)).setCell ⟨p + 1, 1, none⟩ (.int .i64 f)).ownsRow w0.heap.size 70 3 (.slice A n cap) n (fs.flatMap fileC)) := by
  have hpp : w0.heap.size ≤ p + 1 := by omega
  refine ⟨(h.bq.set_ 0 _).set_ 1 _, (h.g.setCell (p := ⟨p + 1, 0, none⟩) hpp _).setCell (p := ⟨p + 1, 1, none⟩) hpp _, h.nil, ?_⟩
  rcases h.alt with h1 | h1
  · exact .inl h1
  · have hne : (Value.slice A n cap).ownBlock ≠ some (p + 1) := fun e => by have := (h1.lt _ e).1; omega
    exact .inr (own_low (ownsRow_setCell_other (ownsRow_setCell_other h1 (a := ⟨p + 1, 0, none⟩) hne _) (a := ⟨p + 1, 1, none⟩) hne _) (by omega))
/-- the last step's answer, in the result's cell -/
theorem SaveSt.last {w0 w w' : World} {p n0 cap0 n cap n' cap' : Nat} {A0 A A' : Option Addr} {f u : Int} {fs0 fs gs : List Fl} (h : SaveSt w0 p A0 n0 cap0 fs0 w A n cap f fs) (hp : p = w0.heap.size) (hg : Gr w w') (hA' : A' = none → n' = 0 ∧ cap' = 0)
    (hr : (A' = A ∧ n' = n ∧ cap' = cap ∧ gs = fs) ∨ w'.ownsRow w.heap.size 70 3 (.slice A' n' cap') n' (gs.flatMap fileC)) :
    Blk ((w'.setCell ⟨p + 1, 0, none⟩ (.slice A' n' cap')).setCell ⟨p + 1, 1, none⟩ (.int .i64 u)) (p + 1) 37 #[.slice A' n' cap', .int .i64 u] ∧
    Gr w0 ((w'.setCell ⟨p + 1, 0, none⟩ (.slice A' n' cap')).setCell ⟨p + 1, 1, none⟩ (.int .i64 u)) ∧ (A' = none → n' = 0 ∧ cap' = 0) ∧
    ((A' = A0 ∧ n' = n0 ∧ cap' = cap0 ∧ gs = fs0) ∨ ((w'.setCell ⟨p + 1, 0, none⟩ (.slice A' n' cap')).setCell ⟨p + 1, 1, none⟩ (.int .i64 u)).ownsRow w0.heap.size 70 3 (.slice A' n' cap') n' (gs.flatMap fileC)) := by
  have hpp : w0.heap.size ≤ p + 1 := by omega
  have hq := h.bq.lt
  refine ⟨((h.bq.gr hg).set_ 0 _).set_ 1 _, ((h.g.trans hg).setCell (p := ⟨p + 1, 0, none⟩) hpp _).setCell (p := ⟨p + 1, 1, none⟩) hpp _, hA', ?_⟩
  have hown : ∀ B, p + 2 ≤ B → w'.ownsRow B 70 3 (.slice A' n' cap') n' (gs.flatMap fileC) → ((w'.setCell ⟨p + 1, 0, none⟩ (.slice A' n' cap')).setCell ⟨p + 1, 1, none⟩ (.int .i64 u)).ownsRow w0.heap.size 70 3 (.slice A' n' cap') n' (gs.flatMap fileC) := fun B hB ho => by
    have hne : (Value.slice A' n' cap').ownBlock ≠ some (p + 1) := fun e => by have := (ho.lt _ e).1; omega
    exact own_low (ownsRow_setCell_other (ownsRow_setCell_other ho (a := ⟨p + 1, 0, none⟩) hne _) (a := ⟨p + 1, 1, none⟩) hne _) (by omega)
  rcases hr with ⟨rfl, rfl, rfl, rfl⟩ | hr
  · rcases h.alt with h1 | h1
    · exact .inl h1
    · exact .inr (hown _ (Nat.le_refl _) (own_gr h1 hg))
  · exact .inr (hown _ (by omega) hr)

/-! ### sizes -/
def Sz (fs : List Fl) : Prop := fs.length ≤ 1048576 ∧ ∀ f ∈ fs, f.1.length ≤ 1099511627776 ∧ f.2.1.length ≤ 1099511627776 ∧ f.2.2.length ≤ 1099511627776
theorem namedB_len {s : List UInt8} (h : namedB s = true) : s.length ≤ 80 := by
  unfold namedB at h
  simp only [Bool.and_eq_true, decide_eq_true_eq] at h
  omega
theorem good_sz {fs : List Fl} (h : goodFs fs = true) : fs.length ≤ 400 ∧ ∀ f ∈ fs, f.1.length ≤ 80 ∧ f.2.1.length ≤ 1048576 ∧ f.2.2.length ≤ 1048576 := by
  refine ⟨goodFs_len h, fun f hf => ?_⟩
  have := goodFs_ok h f hf
  exact ⟨namedB_len this.1, this.2.1, by omega⟩
theorem stepR_sz {F : List Fl → List Fl × Int} (hF : ∀ fs, goodFs fs = true → Sz (F fs).1) {fs : List Fl} (f : Int) (h : Sz fs) : Sz (stepR F fs f).1 := by
  unfold stepR
  cases hg : goodFs fs with
  | false => exact h
  | true =>
    simp only [if_true]
    split
    · exact h
    · split
      · exact hF fs hg
      · exact h
theorem stepR_fuse {F : List Fl → List Fl × Int} {fs : List Fl} {f : Int} (h : -9223372036854775808 ≤ f ∧ f ≤ 9223372036854775807) : -9223372036854775808 ≤ (stepR F fs f).2.1 ∧ (stepR F fs f).2.1 ≤ 9223372036854775807 := by
  unfold stepR
  split
  · split
    · exact h
    · split
      · simp only
        split <;> omega
      · exact h
  · exact h
theorem sz_of {fs gs : List Fl} (h : goodFs fs = true) (hl : gs.length ≤ fs.length + 1) (hm : ∀ f ∈ gs, f ∈ fs ∨ (f.1.length ≤ 1099511627776 ∧ f.2.1.length ≤ 1099511627776 ∧ f.2.2.length ≤ 1099511627776)) : Sz gs := by
  obtain ⟨h1, h2⟩ := good_sz h
  refine ⟨by omega, fun f hf => ?_⟩
  rcases hm f hf with h3 | h3
  · have := h2 f h3; omega
  · exact h3
theorem insF_mem {i : Nat} {f x : Fl} {fs : List Fl} (h : x ∈ insF i f fs) : x ∈ fs ∨ x = f := by
  unfold insF at h
  rcases List.mem_append.1 h with h | h
  · exact .inl (List.mem_of_mem_take h)
  · rcases List.mem_cons.1 h with h | h
    · exact .inr h
    · exact .inl (List.mem_of_mem_drop h)
theorem getD_sz {fs : List Fl} (h : goodFs fs = true) (i : Nat) : (fs.getD i ([], [], [])).1.length ≤ 80 ∧ (fs.getD i ([], [], [])).2.1.length ≤ 1048576 ∧ (fs.getD i ([], [], [])).2.2.length ≤ 1048576 := by
  rw [List.getD_eq_getElem?_getD]
  cases he : fs[i]? with
  | none => simp
  | some x => exact (good_sz h).2 x (List.mem_of_getElem? he)
theorem rmF_sz (name : List UInt8) (fs : List Fl) (h : goodFs fs = true) : Sz (rmF name fs).1 :=
  sz_of h (rmF_len name fs) (fun f hf => by
    unfold rmF at hf
    split at hf
    · exact .inl ((List.eraseIdx_sublist fs _).subset hf)
    · exact .inl hf)
theorem syF_sz (name : List UInt8) (fs : List Fl) (h : goodFs fs = true) : Sz (syF name fs).1 :=
  sz_of h (syF_len name fs) (fun f hf => by
    unfold syF at hf
    split at hf
    · rcases List.mem_or_eq_of_mem_set hf with h1 | h1
      · exact .inl h1
      · have := getD_sz h (lbF name fs)
        rw [h1]
        exact .inr ⟨by simp only; omega, by simp only [List.length_append]; omega, by simp⟩
    · exact .inl hf)
theorem rnF_sz (frm dst : List UInt8) (hd : dst.length ≤ 1099511627776) (fs : List Fl) (h : goodFs fs = true) : Sz (rnF frm dst fs).1 :=
  sz_of h (rnF_len frm dst fs) (fun f hf => by
    have hg := getD_sz h (lbF frm fs)
    unfold rnF at hf
    split at hf
    · split at hf
      · simp only at hf
        unfold rnTo at hf
        split at hf
        · rcases List.mem_or_eq_of_mem_set hf with h1 | h1
          · exact .inl ((List.eraseIdx_sublist fs _).subset h1)
          · rw [h1]
            exact .inr ⟨hd, by simp only; omega, by simp only; omega⟩
        · rcases insF_mem hf with h1 | h1
          · exact .inl ((List.eraseIdx_sublist fs _).subset h1)
          · rw [h1]
            exact .inr ⟨hd, by simp only; omega, by simp only; omega⟩
      · exact .inl hf
    · exact .inl hf)
theorem wrF_sz (name s : List UInt8) (hd : name.length ≤ 1099511627776) (fs : List Fl) (h : goodFs fs = true) : Sz (wrF name s fs).1 :=
  sz_of h (wrF_len name s fs) (fun f hf => by
    have hpre : ∀ x ∈ wrPre name fs, x ∈ fs ∨ (x.1.length ≤ 1099511627776 ∧ x.2.1.length ≤ 1099511627776 ∧ x.2.2.length ≤ 1099511627776) := fun x hx => by
      unfold wrPre at hx
      split at hx
      · exact .inl hx
      · rcases insF_mem hx with h1 | h1
        · exact .inl h1
        · rw [h1]; exact .inr ⟨hd, by simp, by simp⟩
    unfold wrF at hf
    split at hf
    · split at hf
      · exact .inl hf
      · split at hf
        · rename_i hle
          rcases List.mem_or_eq_of_mem_set hf with h1 | h1
          · exact hpre f h1
          · obtain ⟨hk, hnm, _⟩ := wrPre_at name fs h
            have hgd : (wrPre name fs).getD (lbF name fs) ([], [], []) = (wrPre name fs)[lbF name fs] := by
              rw [List.getD_eq_getElem?_getD, List.getElem?_eq_getElem hk]; rfl
            rw [hgd] at hle h1
            rw [h1]
            refine .inr ⟨by simp only; rw [hnm]; exact hd, by simp only; omega, by simp only [List.length_append]; omega⟩
        · exact .inl hf
    · exact .inl hf)
/-! ### what Save answers -/
def dotNew : List UInt8 := [46, 110, 101, 119]
def save0 (fs : List Fl) (f : Int) (name : List UInt8) : List Fl × Int × Int := if hasF (name ++ dotNew) fs then stepR (rmF (name ++ dotNew)) fs f else (fs, f, 0)
def save1 (fs : List Fl) (f : Int) (name s : List UInt8) : List Fl × Int × Int :=
  if (save0 fs f name).2.2 = 0 then stepR (wrF (name ++ dotNew) s) (save0 fs f name).1 (save0 fs f name).2.1 else save0 fs f name
def save2 (fs : List Fl) (f : Int) (name s : List UInt8) : List Fl × Int × Int :=
  if (save1 fs f name s).2.2 = 0 then stepR (syF (name ++ dotNew)) (save1 fs f name s).1 (save1 fs f name s).2.1 else save1 fs f name s
def save3 (fs : List Fl) (f : Int) (name s : List UInt8) : List Fl × Int × Int :=
  if (save2 fs f name s).2.2 = 0 then stepR (rnF (name ++ dotNew) name) (save2 fs f name s).1 (save2 fs f name s).2.1 else save2 fs f name s
/-- P6.8 -/
def saveR (fs : List Fl) (f : Int) (name s : List UInt8) : List Fl × Int × Int :=
  if goodFs fs then (if namedB name && namedB (name ++ dotNew) then save3 fs f name s else (fs, f, 2)) else (fs, f, 3)
end Go.Proofs.Ytcfghoohdlljkaa

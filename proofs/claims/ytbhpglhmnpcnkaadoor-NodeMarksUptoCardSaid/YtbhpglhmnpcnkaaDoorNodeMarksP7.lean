/-
  What the walk of cartularylaw.NodeMarks leans on, part 7 of 8: contracts and plain laws. No conditions.
-/
import Derived.Test.YtbhpglhmnpcnkaaDoorNodeMarksP6
import Derived.Test.YtbhpglhmnpcnkaaDoorNodeMarksP4
import Derived.Test.YtbhpglhmnpcnkaaDoorNodeMarksP2
namespace Go.Proofs.YtbhpglhmnpcnkaaDoor
open Go.RowKit
set_option linter.unusedVariables false

structure SaveSt (w0 : World) (p : Nat) (A0 : Option Addr) (n0 cap0 : Nat) (fs0 : List Fl) (w : World) (A : Option Addr) (n cap : Nat) (f : Int) (fs : List Fl) : Prop where
  g : Gr w0 w
  bp : Blk w p 24 #[.slice A n cap, .int .i64 f]
  bq : Blk w (p + 1) 24 #[.slice none 0 0, .int .i64 0]
  nil : A = none → n = 0 ∧ cap = 0
  le : n ≤ cap
  alt : (A = A0 ∧ n = n0 ∧ cap = cap0 ∧ fs = fs0) ∨ w.ownsRow (p + 2) 87 3 (.slice A n cap) n (fs.flatMap fileC)
theorem SaveSt.row {w0 w : World} {p n0 cap0 n cap : Nat} {A0 A : Option Addr} {f : Int} {fs0 fs : List Fl} (h : SaveSt w0 p A0 n0 cap0 fs0 w A n cap f fs) (hx : FRow w0 A0 n0 fs0) : FRow w A n fs := by
  rcases h.alt with ⟨rfl, rfl, _, rfl⟩ | h1
  · exact hx.gr h.g
  · exact Row.own h1
theorem SaveSt.gr {w0 w w' : World} {p n0 cap0 n cap : Nat} {A0 A : Option Addr} {f : Int} {fs0 fs : List Fl} (h : SaveSt w0 p A0 n0 cap0 fs0 w A n cap f fs) (hg : Gr w w') : SaveSt w0 p A0 n0 cap0 fs0 w' A n cap f fs :=
  ⟨h.g.trans hg, h.bp.gr hg, h.bq.gr hg, h.nil, h.le, h.alt.elim .inl (fun h1 => .inr (own_gr h1 hg))⟩
theorem SaveSt.facts {w0 w : World} {p n0 cap0 n cap : Nat} {A0 A : Option Addr} {f : Int} {fs0 fs : List Fl} (h : SaveSt w0 p A0 n0 cap0 fs0 w A n cap f fs) :
    w.cell? ⟨p, 0, none⟩ = some (.slice A n cap) ∧ w.cell? ⟨p, 1, none⟩ = some (.int .i64 f) ∧ w.frozen? ⟨p, 0, none⟩ = false ∧ w.frozen? ⟨p, 1, none⟩ = false ∧
    w.cell? ⟨p + 1, 0, none⟩ = some (.slice none 0 0) ∧ w.cell? ⟨p + 1, 1, none⟩ = some (.int .i64 0) ∧ w.frozen? ⟨p + 1, 0, none⟩ = false ∧ w.frozen? ⟨p + 1, 1, none⟩ = false :=
  ⟨h.bp.cell 0, h.bp.cell 1, h.bp.frozen 0, h.bp.frozen 1, h.bq.cell 0, h.bq.cell 1, h.bq.frozen 0, h.bq.frozen 1⟩
/-- a step's answer in the variable -/
theorem SaveSt.next {w0 w w' : World} {p n0 cap0 n cap n' cap' : Nat} {A0 A A' : Option Addr} {f u : Int} {fs0 fs gs : List Fl} (h : SaveSt w0 p A0 n0 cap0 fs0 w A n cap f fs) (hp : p = w0.heap.size) (hg : Gr w w') (hA' : A' = none → n' = 0 ∧ cap' = 0)
    (hr : (A' = A ∧ n' = n ∧ cap' = cap ∧ gs = fs) ∨ w'.ownsRow w.heap.size 87 3 (.slice A' n' cap') n' (gs.flatMap fileC)) :
    SaveSt w0 p A0 n0 cap0 fs0 ((w'.setCell ⟨p, 0, none⟩ (.slice A' n' cap')).setCell ⟨p, 1, none⟩ (.int .i64 u)) A' n' cap' u gs := by
  have hpp : w0.heap.size ≤ p := by omega
  have hq := h.bq.lt
  refine ⟨((h.g.trans hg).setCell (p := ⟨p, 0, none⟩) hpp _).setCell (p := ⟨p, 1, none⟩) hpp _, ((h.bp.gr hg).set_ 0 _).set_ 1 _, ((h.bq.gr hg).far (p := ⟨p, 0, none⟩) (by show p + 1 ≠ p; omega) _).far (p := ⟨p, 1, none⟩) (by show p + 1 ≠ p; omega) _, hA', StepPost.cap (r := (gs, u, 0)) h.le hr, ?_⟩
  have hown : ∀ B, p + 2 ≤ B → w'.ownsRow B 87 3 (.slice A' n' cap') n' (gs.flatMap fileC) → ((w'.setCell ⟨p, 0, none⟩ (.slice A' n' cap')).setCell ⟨p, 1, none⟩ (.int .i64 u)).ownsRow (p + 2) 87 3 (.slice A' n' cap') n' (gs.flatMap fileC) := fun B hB ho => by
    have hne : (Value.slice A' n' cap').ownBlock ≠ some p := fun e => by have := (ho.lt _ e).1; omega
    exact own_low (ownsRow_setCell_other (ownsRow_setCell_other ho (a := ⟨p, 0, none⟩) hne _) (a := ⟨p, 1, none⟩) hne _) hB
  rcases hr with ⟨rfl, rfl, rfl, rfl⟩ | hr
  · rcases h.alt with h1 | h1
    · exact .inl h1
    · exact .inr (hown _ (Nat.le_refl _) (own_gr h1 hg))
  · exact .inr (hown _ (by omega) hr)
/-- the answer, in the result's cell -/
theorem SaveSt.done {w0 w : World} {p n0 cap0 n cap : Nat} {A0 A : Option Addr} {f : Int} {fs0 fs : List Fl} (h : SaveSt w0 p A0 n0 cap0 fs0 w A n cap f fs) (hp : p = w0.heap.size) :
    Blk ((w.setCell ⟨p + 1, 0, none⟩ (.slice A n cap)).setCell ⟨p + 1, 1, none⟩ (.int .i64 f)) (p + 1) 24 #[.slice A n cap, .int .i64 f] ∧
    Gr w0 ((w.setCell ⟨p + 1, 0, none⟩ (.slice A n cap)).setCell ⟨p + 1, 1, none⟩ (.int .i64 f)) ∧ (A = none → n = 0 ∧ cap = 0) ∧
    ((A = A0 ∧ n = n0 ∧ cap = cap0 ∧ fs = fs0) ∨ ((w.setCell ⟨p + 1, 0, none⟩ (.slice A n cap)).setCell ⟨p + 1, 1, none⟩ (.int .i64 f)).ownsRow w0.heap.size 87 3 (.slice A n cap) n (fs.flatMap fileC)) := by
  have hpp : w0.heap.size ≤ p + 1 := by omega
  refine ⟨(h.bq.set_ 0 _).set_ 1 _, (h.g.setCell (p := ⟨p + 1, 0, none⟩) hpp _).setCell (p := ⟨p + 1, 1, none⟩) hpp _, h.nil, ?_⟩
  rcases h.alt with h1 | h1
  · exact .inl h1
  · have hne : (Value.slice A n cap).ownBlock ≠ some (p + 1) := fun e => by have := (h1.lt _ e).1; omega
    exact .inr (own_low (ownsRow_setCell_other (ownsRow_setCell_other h1 (a := ⟨p + 1, 0, none⟩) hne _) (a := ⟨p + 1, 1, none⟩) hne _) (by omega))
/-- the last step's answer, in the result's cell -/
theorem SaveSt.last {w0 w w' : World} {p n0 cap0 n cap n' cap' : Nat} {A0 A A' : Option Addr} {f u : Int} {fs0 fs gs : List Fl} (h : SaveSt w0 p A0 n0 cap0 fs0 w A n cap f fs) (hp : p = w0.heap.size) (hg : Gr w w') (hA' : A' = none → n' = 0 ∧ cap' = 0)
    (hr : (A' = A ∧ n' = n ∧ cap' = cap ∧ gs = fs) ∨ w'.ownsRow w.heap.size 87 3 (.slice A' n' cap') n' (gs.flatMap fileC)) :
    Blk ((w'.setCell ⟨p + 1, 0, none⟩ (.slice A' n' cap')).setCell ⟨p + 1, 1, none⟩ (.int .i64 u)) (p + 1) 24 #[.slice A' n' cap', .int .i64 u] ∧
    Gr w0 ((w'.setCell ⟨p + 1, 0, none⟩ (.slice A' n' cap')).setCell ⟨p + 1, 1, none⟩ (.int .i64 u)) ∧ (A' = none → n' = 0 ∧ cap' = 0) ∧
    ((A' = A0 ∧ n' = n0 ∧ cap' = cap0 ∧ gs = fs0) ∨ ((w'.setCell ⟨p + 1, 0, none⟩ (.slice A' n' cap')).setCell ⟨p + 1, 1, none⟩ (.int .i64 u)).ownsRow w0.heap.size 87 3 (.slice A' n' cap') n' (gs.flatMap fileC)) := by
  have hpp : w0.heap.size ≤ p + 1 := by omega
  have hq := h.bq.lt
  refine ⟨((h.bq.gr hg).set_ 0 _).set_ 1 _, ((h.g.trans hg).setCell (p := ⟨p + 1, 0, none⟩) hpp _).setCell (p := ⟨p + 1, 1, none⟩) hpp _, hA', ?_⟩
  have hown : ∀ B, p + 2 ≤ B → w'.ownsRow B 87 3 (.slice A' n' cap') n' (gs.flatMap fileC) → ((w'.setCell ⟨p + 1, 0, none⟩ (.slice A' n' cap')).setCell ⟨p + 1, 1, none⟩ (.int .i64 u)).ownsRow w0.heap.size 87 3 (.slice A' n' cap') n' (gs.flatMap fileC) := fun B hB ho => by
    have hne : (Value.slice A' n' cap').ownBlock ≠ some (p + 1) := fun e => by have := (ho.lt _ e).1; omega
    exact own_low (ownsRow_setCell_other (ownsRow_setCell_other ho (a := ⟨p + 1, 0, none⟩) hne _) (a := ⟨p + 1, 1, none⟩) hne _) (by omega)
  rcases hr with ⟨rfl, rfl, rfl, rfl⟩ | hr
  · rcases h.alt with h1 | h1
    · exact .inl h1
    · exact .inr (hown _ (Nat.le_refl _) (own_gr h1 hg))
  · exact .inr (hown _ (by omega) hr)

/-! ### sizes -/
def Sz (fs : List Fl) : Prop := fs.length ≤ 1048576 ∧ ∀ f ∈ fs, f.1.length ≤ 1099511627776 ∧ f.2.1.length ≤ 1099511627776 ∧ f.2.2.length ≤ 1099511627776
theorem namedB_len {s : List UInt8} (h : namedB s = true) : s.length ≤ 80 := by
  unfold namedB at h
  simp only [Bool.and_eq_true, decide_eq_true_eq] at h
  omega
theorem good_sz {fs : List Fl} (h : goodFs fs = true) : fs.length ≤ 400 ∧ ∀ f ∈ fs, f.1.length ≤ 80 ∧ f.2.1.length ≤ 1048576 ∧ f.2.2.length ≤ 1048576 := by
  refine ⟨goodFs_len h, fun f hf => ?_⟩
  have := goodFs_ok h f hf
  exact ⟨namedB_len this.1, this.2.1, by omega⟩
theorem stepR_sz {F : List Fl → List Fl × Int} (hF : ∀ fs, goodFs fs = true → Sz (F fs).1) {fs : List Fl} (f : Int) (h : Sz fs) : Sz (stepR F fs f).1 := by
  unfold stepR
  cases hg : goodFs fs with
  | false => exact h
  | true =>
    simp only [if_true]
    split
    · exact h
    · split
      · exact hF fs hg
      · exact h
theorem stepR_fuse {F : List Fl → List Fl × Int} {fs : List Fl} {f : Int} (h : -9223372036854775808 ≤ f ∧ f ≤ 9223372036854775807) : -9223372036854775808 ≤ (stepR F fs f).2.1 ∧ (stepR F fs f).2.1 ≤ 9223372036854775807 := by
  unfold stepR
  split
  · split
    · exact h
    · split
      · simp only
        split <;> omega
      · exact h
  · exact h
theorem sz_of {fs gs : List Fl} (h : goodFs fs = true) (hl : gs.length ≤ fs.length + 1) (hm : ∀ f ∈ gs, f ∈ fs ∨ (f.1.length ≤ 1099511627776 ∧ f.2.1.length ≤ 1099511627776 ∧ f.2.2.length ≤ 1099511627776)) : Sz gs := by
  obtain ⟨h1, h2⟩ := good_sz h
  refine ⟨by omega, fun f hf => ?_⟩
  rcases hm f hf with h3 | h3
  · have := h2 f h3; omega
  · exact h3
theorem insF_mem {i : Nat} {f x : Fl} {fs : List Fl} (h : x ∈ insF i f fs) : x ∈ fs ∨ x = f := by
  unfold insF at h
  rcases List.mem_append.1 h with h | h
  · exact .inl (List.mem_of_mem_take h)
  · rcases List.mem_cons.1 h with h | h
    · exact .inr h
    · exact .inl (List.mem_of_mem_drop h)
theorem getD_sz {fs : List Fl} (h : goodFs fs = true) (i : Nat) : (fs.getD i ([], [], [])).1.length ≤ 80 ∧ (fs.getD i ([], [], [])).2.1.length ≤ 1048576 ∧ (fs.getD i ([], [], [])).2.2.length ≤ 1048576 := by
  rw [List.getD_eq_getElem?_getD]
  cases he : fs[i]? with
  | none => simp
  | some x => exact (good_sz h).2 x (List.mem_of_getElem? he)
theorem rmF_sz (name : List UInt8) (fs : List Fl) (h : goodFs fs = true) : Sz (rmF name fs).1 :=
  sz_of h (rmF_len name fs) (fun f hf => by
    unfold rmF at hf
    split at hf
    · exact .inl ((List.eraseIdx_sublist fs _).subset hf)
    · exact .inl hf)
theorem syF_sz (name : List UInt8) (fs : List Fl) (h : goodFs fs = true) : Sz (syF name fs).1 :=
  sz_of h (syF_len name fs) (fun f hf => by
    unfold syF at hf
    split at hf
    · rcases List.mem_or_eq_of_mem_set hf with h1 | h1
      · exact .inl h1
      · have := getD_sz h (lbF name fs)
        rw [h1]
        exact .inr ⟨by simp only; omega, by simp only [List.length_append]; omega, by simp⟩
    · exact .inl hf)
theorem rnF_sz (frm dst : List UInt8) (hd : dst.length ≤ 1099511627776) (fs : List Fl) (h : goodFs fs = true) : Sz (rnF frm dst fs).1 :=
  sz_of h (rnF_len frm dst fs) (fun f hf => by
    have hg := getD_sz h (lbF frm fs)
    unfold rnF at hf
    split at hf
    · split at hf
      · simp only at hf
        unfold rnTo at hf
        split at hf
        · rcases List.mem_or_eq_of_mem_set hf with h1 | h1
          · exact .inl ((List.eraseIdx_sublist fs _).subset h1)
          · rw [h1]
            exact .inr ⟨hd, by simp only; omega, by simp only; omega⟩
        · rcases insF_mem hf with h1 | h1
          · exact .inl ((List.eraseIdx_sublist fs _).subset h1)
          · rw [h1]
            exact .inr ⟨hd, by simp only; omega, by simp only; omega⟩
      · exact .inl hf
    · exact .inl hf)
theorem wrF_sz (name s : List UInt8) (hd : name.length ≤ 1099511627776) (fs : List Fl) (h : goodFs fs = true) : Sz (wrF name s fs).1 :=
  sz_of h (wrF_len name s fs) (fun f hf => by
    have hpre : ∀ x ∈ wrPre name fs, x ∈ fs ∨ (x.1.length ≤ 1099511627776 ∧ x.2.1.length ≤ 1099511627776 ∧ x.2.2.length ≤ 1099511627776) := fun x hx => by
      unfold wrPre at hx
      split at hx
      · exact .inl hx
      · rcases insF_mem hx with h1 | h1
        · exact .inl h1
        · rw [h1]; exact .inr ⟨hd, by simp, by simp⟩
    unfold wrF at hf
    split at hf
    · split at hf
      · exact .inl hf
      · split at hf
        · rename_i hle
          rcases List.mem_or_eq_of_mem_set hf with h1 | h1
          · exact hpre f h1
          · obtain ⟨hk, hnm, _⟩ := wrPre_at name fs h
            have hgd : (wrPre name fs).getD (lbF name fs) ([], [], []) = (wrPre name fs)[lbF name fs] := by
              rw [List.getD_eq_getElem?_getD, List.getElem?_eq_getElem hk]; rfl
            rw [hgd] at hle h1
            rw [h1]
            refine .inr ⟨by simp only; rw [hnm]; exact hd, by simp only; omega, by simp only [List.length_append]; omega⟩
        · exact .inl hf
    · exact .inl hf)
/-! ### what Save answers -/
def dotNew : List UInt8 := [46, 110, 101, 119]
def save0 (fs : List Fl) (f : Int) (name : List UInt8) : List Fl × Int × Int := if hasF (name ++ dotNew) fs then stepR (rmF (name ++ dotNew)) fs f else (fs, f, 0)
def save1 (fs : List Fl) (f : Int) (name s : List UInt8) : List Fl × Int × Int :=
  if (save0 fs f name).2.2 = 0 then stepR (wrF (name ++ dotNew) s) (save0 fs f name).1 (save0 fs f name).2.1 else save0 fs f name
def save2 (fs : List Fl) (f : Int) (name s : List UInt8) : List Fl × Int × Int :=
  if (save1 fs f name s).2.2 = 0 then stepR (syF (name ++ dotNew)) (save1 fs f name s).1 (save1 fs f name s).2.1 else save1 fs f name s
def save3 (fs : List Fl) (f : Int) (name s : List UInt8) : List Fl × Int × Int :=
  if (save2 fs f name s).2.2 = 0 then stepR (rnF (name ++ dotNew) name) (save2 fs f name s).1 (save2 fs f name s).2.1 else save2 fs f name s
/-- P6.8 -/
def saveR (fs : List Fl) (f : Int) (name s : List UInt8) : List Fl × Int × Int :=
  if goodFs fs then (if namedB name && namedB (name ++ dotNew) then save3 fs f name s else (fs, f, 2)) else (fs, f, 3)
end Go.Proofs.YtbhpglhmnpcnkaaDoor

namespace Go.Proofs.YtbhpglhmnpcnkaaDoor
set_option maxRecDepth 100000
open Go.RowKit
set_option linter.unusedVariables false

/-- P12.3: files, fuse, seen size, seen root, mark's who, mark's seal, the error -/
structure NMk where
  fs : List Fl
  u : Int
  so : Int
  ro : List UInt8
  mw : Int
  ms : List UInt8
  e : Int
def nmkR (fs : List Fl) (f : Int) (who : Int) (key : List UInt8) (so : Int) (ro : List UInt8) (n : Int) (r : List UInt8) (ps : List (List UInt8)) : NMk :=
  if (hdTxt n r).2 = 0 then
    (if folE so ro n r ps = 0 then
      (if (hdMk who key n r).2.2 = 0 then
        (if (saveR fs f seenB ((hdTxt n r).1 ++ sha (hdTxt n r).1)).2.2 = 0 then ⟨(saveR fs f seenB ((hdTxt n r).1 ++ sha (hdTxt n r).1)).1, (saveR fs f seenB ((hdTxt n r).1 ++ sha (hdTxt n r).1)).2.1, n, r, (hdMk who key n r).1, (hdMk who key n r).2.1, 0⟩
        else ⟨(saveR fs f seenB ((hdTxt n r).1 ++ sha (hdTxt n r).1)).1, (saveR fs f seenB ((hdTxt n r).1 ++ sha (hdTxt n r).1)).2.1, so, ro, 0, [], (saveR fs f seenB ((hdTxt n r).1 ++ sha (hdTxt n r).1)).2.2⟩)
      else ⟨fs, f, so, ro, 0, [], (hdMk who key n r).2.2⟩)
    else ⟨fs, f, so, ro, 0, [], folE so ro n r ps⟩)
  else ⟨fs, f, so, ro, 0, [], (hdTxt n r).2⟩
/-- what both answer: a witness, a mark, an error -/
def NPost (R : NMk) (who : Int) (key : List UInt8) (w : World) (e : Ending) (w' : World) : Prop :=
  ∃ A' n' cap', e = .returned (.tuple #[.agg (witA who key A' n' cap' R.u R.so R.ro), .agg (markC R.mw R.ms), .int .i64 R.e]) ∧ FRow w' A' n' R.fs ∧ Gr w w'

theorem results_blk_blk_tmp {fn : Func} {p q r : Tmp} {ty ty2 : TypeId} (h : fn.results = #[.cell p ty, .cell q ty2, .tmp r]) (tmps : Array Value) {w : World} {g g2 : Nat} {t t2 : TypeId} {cs cs2 : Array Value}
    (hp : tmps.getD p undef = .pointer (some ⟨g, 0, none⟩)) (hq : tmps.getD q undef = .pointer (some ⟨g2, 0, none⟩)) (hB : Blk w g t cs) (A : AggOk ty cs.size) (hB2 : Blk w g2 t2 cs2) (A2 : AggOk ty2 cs2.size) :
    (results fn tmps).run Tryd.prog w = .ok (.tuple #[.agg cs, .agg cs2, tmps.getD r undef]) w := by
  have hp' : tmps[p]?.getD undef = .pointer (some ⟨g, 0, none⟩) := by simpa using hp
  have hq' : tmps[q]?.getD undef = .pointer (some ⟨g2, 0, none⟩) := by simpa using hq
  simp [results, h, hp', hq', asAddr, run_results_blk hB A, run_results_blk hB2 A2]
theorem Blk.new3 (w : World) (o p q : Obj) (t : TypeId) (cs : Array Value) : Blk ((((w.alloc o).alloc p).alloc q).alloc (.cells cs t)) (w.heap.size + 1 + 1 + 1) t cs := by
  have := Blk.new (((w.alloc o).alloc p).alloc q) t cs
  rwa [World.size_alloc, World.size_alloc, World.size_alloc] at this
theorem far2 {W : World} {g p : Nat} {t : TypeId} {cs : Array Value} (h : Blk W g t cs) (hne : g ≠ p) (i j : Nat) (u v : Value) : Blk ((W.setCell ⟨p, i, none⟩ u).setCell ⟨p, j, none⟩ v) g t cs :=
  (h.far (p := ⟨p, i, none⟩) hne u).far (p := ⟨p, j, none⟩) hne v
theorem gr2 {w W : World} {p : Nat} (h : Gr w W) (hp : w.heap.size ≤ p) (i j : Nat) (u v : Value) : Gr w ((W.setCell ⟨p, i, none⟩ u).setCell ⟨p, j, none⟩ v) :=
  (h.setCell (p := ⟨p, i, none⟩) hp u).setCell (p := ⟨p, j, none⟩) hp v
/-- the results' blocks behind the last region: the witness' block p, the mark's q -/
theorem nmk_set {W : World} {p q n cap : Nat} {who : Int} {key r ms : List UInt8} {A : Option Addr} {f sz mw : Int} {z y : Array Value} (hz : z.size = 6) (hy : y.size = 2) (hne : p ≠ q) (Z : Blk W p 28 z) (Y : Blk W q 37 y) :
    Blk ((((((((W.setCell ⟨p, 0, none⟩ (.int .i64 who)).setCell ⟨p, 1, none⟩ (.string (bs key))).setCell ⟨p, 2, none⟩ (.slice A n cap)).setCell ⟨p, 3, none⟩ (.int .i64 f)).setCell ⟨p, 4, none⟩ (.int .i64 sz)).setCell ⟨p, 5, none⟩ (.string (bs r))).setCell ⟨q, 0, none⟩ (.int .i64 mw)).setCell ⟨q, 1, none⟩ (.string (bs ms))).drew p 28 (witA who key A n cap f sz r) ∧
    Blk ((((((((W.setCell ⟨p, 0, none⟩ (.int .i64 who)).setCell ⟨p, 1, none⟩ (.string (bs key))).setCell ⟨p, 2, none⟩ (.slice A n cap)).setCell ⟨p, 3, none⟩ (.int .i64 f)).setCell ⟨p, 4, none⟩ (.int .i64 sz)).setCell ⟨p, 5, none⟩ (.string (bs r))).setCell ⟨q, 0, none⟩ (.int .i64 mw)).setCell ⟨q, 1, none⟩ (.string (bs ms))).drew q 37 (markC mw ms) ∧
    (∀ (w : World), Gr w W → w.heap.size ≤ p → w.heap.size ≤ q → Gr w ((((((((W.setCell ⟨p, 0, none⟩ (.int .i64 who)).setCell ⟨p, 1, none⟩ (.string (bs key))).setCell ⟨p, 2, none⟩ (.slice A n cap)).setCell ⟨p, 3, none⟩ (.int .i64 f)).setCell ⟨p, 4, none⟩ (.int .i64 sz)).setCell ⟨p, 5, none⟩ (.string (bs r))).setCell ⟨q, 0, none⟩ (.int .i64 mw)).setCell ⟨q, 1, none⟩ (.string (bs ms))).drew) := by
  obtain ⟨a0, a1, a2, a3, a4, a5, rfl⟩ : ∃ a0 a1 a2 a3 a4 a5, z = #[a0, a1, a2, a3, a4, a5] := by
    obtain ⟨l⟩ := z
    match l, hz with
    | [a0, a1, a2, a3, a4, a5], _ => exact ⟨a0, a1, a2, a3, a4, a5, rfl⟩
  obtain ⟨b0, b1, rfl⟩ : ∃ b0 b1, y = #[b0, b1] := by
    obtain ⟨l⟩ := y
    match l, hy with
    | [b0, b1], _ => exact ⟨b0, b1, rfl⟩
  refine ⟨?_, ?_, ?_⟩
  · have h1 := (((((Z.set_ 0 (.int .i64 who)).set_ 1 (.string (bs key))).set_ 2 (.slice A n cap)).set_ 3 (.int .i64 f)).set_ 4 (.int .i64 sz)).set_ 5 (.string (bs r))
    exact (far2 h1 hne 0 1 _ _).drew
  · have hne' : q ≠ p := fun h => hne h.symm
    have h1 := far2 (far2 (far2 Y hne' 0 1 (.int .i64 who) (.string (bs key))) hne' 2 3 (.slice A n cap) (.int .i64 f)) hne' 4 5 (.int .i64 sz) (.string (bs r))
    exact ((h1.set_ 0 (.int .i64 mw)).set_ 1 (.string (bs ms))).drew
  · intro w g hp hq
    exact (gr2 (gr2 (gr2 (gr2 g hp 0 1 _ _) hp 2 3 _ _) hp 4 5 _ _) hq 0 1 _ _).drew
/-- the row of files: the argument's own, or new and behind block q -/
def NAlt (q : Nat) (A0 : Option Addr) (n0 cap0 : Nat) (fs : List Fl) (A : Option Addr) (n cap : Nat) (gs : List Fl) (wx : World) : Prop :=
  (A = A0 ∧ n = n0 ∧ cap = cap0 ∧ gs = fs) ∨ ∃ B, q < B ∧ wx.ownsRow B 87 3 (.slice A n cap) n (gs.flatMap fileC)
theorem own_far2 {W : World} {B n cap p : Nat} {A : Option Addr} {xs : List Value} (h : W.ownsRow B 87 3 (.slice A n cap) n xs) (hp : p < B) (i j : Nat) (u v : Value) :
    ((W.setCell ⟨p, i, none⟩ u).setCell ⟨p, j, none⟩ v).ownsRow B 87 3 (.slice A n cap) n xs := by
  have hne : (Value.slice A n cap).ownBlock ≠ some p := fun e => by have := (h.lt _ e).1; omega
  exact ownsRow_setCell_other (ownsRow_setCell_other h (a := ⟨p, i, none⟩) hne u) (a := ⟨p, j, none⟩) hne v
theorem nalt_only {w wx x2 x3 : World} {q n0 cap0 n cap a b : Nat} {A0 A : Option Addr} {fs gs : List Fl} (h : NAlt q A0 n0 cap0 fs A n cap gs wx) (hx : FRow w A0 n0 fs) (g : Gr w x3) (h2 : wx.grownBy x2 (some a)) (h3 : x2.grownBy x3 (some b))
    (ha : a ≤ q) (hb : b ≤ q) : FRow x3 A n gs := by
  rcases h with ⟨rfl, rfl, _, rfl⟩ | ⟨B, hB, ho⟩
  · exact hx.gr g
  · have r : FRow wx A n gs := Row.own ho
    have r2 : FRow x2 A n gs := Row.only r h2 (fun _ c off e => by have := (ho.lt c (by rw [e]; rfl)).1; omega)
    exact Row.only r2 h3 (fun _ c off e => by have := (ho.lt c (by rw [e]; rfl)).1; omega)
theorem nalt_set {w wx : World} {q n0 cap0 n cap a b c : Nat} {A0 A : Option Addr} {fs gs : List Fl} {i0 i1 i2 i3 i4 i5 i6 i7 j0 j1 : Value} (h : NAlt q A0 n0 cap0 fs A n cap gs wx) (hx : FRow w A0 n0 fs) (ha : a ≤ q) (hb : b ≤ q) (hc : c ≤ q)
    (g : Gr w ((((((((((wx.setCell ⟨a, 4, none⟩ j0).setCell ⟨a, 5, none⟩ j1).setCell ⟨b, 0, none⟩ i0).setCell ⟨b, 1, none⟩ i1).setCell ⟨b, 2, none⟩ i2).setCell ⟨b, 3, none⟩ i3).setCell ⟨b, 4, none⟩ i4).setCell ⟨b, 5, none⟩ i5).setCell ⟨c, 0, none⟩ i6).setCell ⟨c, 1, none⟩ i7).drew) :
    FRow ((((((((((wx.setCell ⟨a, 4, none⟩ j0).setCell ⟨a, 5, none⟩ j1).setCell ⟨b, 0, none⟩ i0).setCell ⟨b, 1, none⟩ i1).setCell ⟨b, 2, none⟩ i2).setCell ⟨b, 3, none⟩ i3).setCell ⟨b, 4, none⟩ i4).setCell ⟨b, 5, none⟩ i5).setCell ⟨c, 0, none⟩ i6).setCell ⟨c, 1, none⟩ i7).drew A n gs := by
  rcases h with ⟨rfl, rfl, _, rfl⟩ | ⟨B, hB, ho⟩
  · exact hx.gr g
  · have o := own_far2 (own_far2 (own_far2 (own_far2 (own_far2 ho (show a < B by omega) 4 5 j0 j1) (show b < B by omega) 0 1 i0 i1) (show b < B by omega) 2 3 i2 i3) (show b < B by omega) 4 5 i4 i5) (show c < B by omega) 0 1 i6 i7
    have r : FRow _ A n gs := Row.own o
    exact r.gr (Gr.refl _).drew
/-- behind the save: the witness with the new disk, and all else as it was -/
structure NMid (w : World) (p q : Nat) (A0 : Option Addr) (n0 cap0 : Nat) (fs : List Fl) (who : Int) (key : List UInt8) (A : Option Addr) (n cap : Nat) (u so : Int) (ro : List UInt8) (hn : Int) (hr : List UInt8) (mw : Int) (ms : List UInt8) (gs : List Fl) (wx : World) : Prop where
  wit : Blk wx p 28 (witA who key A n cap u so ro)
  hd : Blk wx (p + 1) 26 (headC hn hr)
  zw : Blk wx (p + 1 + 1) 28 (witA 0 [] none 0 0 0 0 [])
  zm : Blk wx (p + 1 + 1 + 1) 37 (markC 0 [])
  mb : Blk wx q 37 (markC mw ms)
  alt : NAlt q A0 n0 cap0 fs A n cap gs wx
  gr : Gr w wx
theorem nmid {w w4 w5 : World} {p q m cap n' cap' : Nat} {who : Int} {key ro hr ms : List UInt8} {A A' : Option Addr} {f u so hn mw : Int} {fs gs : List Fl}
    (hg : Gr w w4) (hg5 : Gr w4 w5) (hwp : w.heap.size ≤ p) (hpq : p + 1 + 1 + 1 < q)
    (B : Blk w4 p 28 (witA who key A m cap f so ro)) (H : Blk w4 (p + 1) 26 (headC hn hr)) (Z : Blk w4 (p + 1 + 1) 28 (witA 0 [] none 0 0 0 0 []))
    (Y : Blk w4 (p + 1 + 1 + 1) 37 (markC 0 [])) (M : Blk w4 q 37 (markC mw ms))
    (h : (A' = A ∧ n' = m ∧ cap' = cap ∧ gs = fs) ∨ w5.ownsRow w4.heap.size 87 3 (.slice A' n' cap') n' (gs.flatMap fileC)) :
    NMid w p q A m cap fs who key A' n' cap' u so ro hn hr mw ms gs ((w5.setCell ⟨p, 2, none⟩ (.slice A' n' cap')).setCell ⟨p, 3, none⟩ (.int .i64 u)) :=
  ⟨((B.gr hg5).set_ 2 (.slice A' n' cap')).set_ 3 (.int .i64 u), far2 (H.gr hg5) (by omega) 2 3 _ _, far2 (Z.gr hg5) (by omega) 2 3 _ _, far2 (Y.gr hg5) (by omega) 2 3 _ _, far2 (M.gr hg5) (by omega) 2 3 _ _,
   (by
    rcases h with h | h
    · exact .inl h
    · exact .inr ⟨_, M.lt, own_far2 h B.lt 2 3 _ _⟩), gr2 (hg.trans hg5) hwp 2 3 _ _⟩
end Go.Proofs.YtbhpglhmnpcnkaaDoor

namespace Go.Proofs.YtbhpglhmnpcnkaaDoor
open Go.RowKit
set_option linter.unusedVariables false

set_option maxRecDepth 100000 in
set_option maxHeartbeats 4000000 in
theorem save_any (name s : List UInt8) (fs : List Fl) (A : Option Addr) (n cap : Nat) (f : Int) (w : World) (hx : FRow w A n fs) (hnc : n ≤ cap) (hA : A = none → n = 0 ∧ cap = 0) (hz : Sz fs)
    (hf : -9223372036854775808 ≤ f ∧ f ≤ 9223372036854775807) (hl1 : name.length ≤ 1048576) (hl2 : s.length ≤ 1099511627776) :
    Calls Tryd.prog 50 #[diskV A n cap f, .string (bs name), .string (bs s)] w (StepPost (saveR fs f name s) A n cap fs w) := by
  have hln := hx.len
  have hz1 := hz.1
  have hS0 : SaveSt w w.heap.size A n cap fs ((w.alloc (.cells #[.slice A n cap, .int .i64 f] 24)).alloc (.cells #[.slice none 0 0, .int .i64 0] 24)) A n cap f fs :=
    ⟨((Gr.refl w).alloc _).alloc _, (Blk.new w _ _).alloc _, Blk.new1 w _ _ _, hA, hnc, .inl ⟨rfl, rfl, rfl, rfl⟩⟩
  obtain ⟨wa, hwa⟩ : ∃ x, x = (w.alloc (.cells #[.slice A n cap, .int .i64 f] 24)).alloc (.cells #[.slice none 0 0, .int .i64 0] 24) := ⟨_, rfl⟩
  obtain ⟨p, hp⟩ : ∃ p, p = w.heap.size := ⟨_, rfl⟩
  rw [← hwa, ← hp] at hS0
  have HG := sec (dgood_any fs A n cap f wa (by omega) (hS0.row hx) hz.2)
  obtain ⟨dst, hdst⟩ : ∃ d, d = name ++ dotNew := ⟨_, rfl⟩
  have hdl : dst.length ≤ 1099511627776 := by rw [hdst, List.length_append]; simp only [dotNew, List.length_cons, List.length_nil]; omega
  have hbd : bs (name ++ [46, 110, 101, 119]) = bs dst := by rw [hdst]; rfl
  have HN1 := sec (fun w => named_any name w (by omega))
  have HN2 := sec (fun w => named_any dst w (by omega))
  have HP := sec hp
  have HX := sec hx
  have HZ := sec hz
  have HFU := sec hf
  have HL1 := sec (show name.length ≤ 1099511627776 by omega)
  have HL2 := sec hl2
  have HLD := sec hdl
  have HDST := sec hdst
  have S0 := sec hS0
  have hpp : p + 1 ≠ p := by omega
  have hl4 : ¬ 9223372036854775807 < name.length + 4 := by omega
  obtain ⟨x1, x2, x3, x4, x5, x6, x7, x8⟩ := hS0.facts
  unfold diskV at HG
  unfold diskV
  clear hx hA hz hz1 hf hl1 hl2 hdl hdst hnc hS0 hln
  cases hgf : goodFs fs with
  | false =>
    have HR : Sec (saveR fs f name s = (fs, f, 3)) := sec (by unfold saveR; rw [hgf]; rfl)
    rw [hgf] at HG
    clear hgf
    go_enter Tryd.func50, Tryd.ntmps50
    go_wp2_with (first | (rw [← hwa, ← hp]; clear hwa hp; go_wp2_with fail) | (go_at_call 54; refine Calls.mono HG.out ?_; rintro e w1 ⟨rfl, g1⟩; have S1 := sec (S0.out.gr g1); obtain ⟨x1, x2, x3, x4, x5, x6, x7, x8⟩ := S1.out.facts))
    obtain ⟨hb9, hg9, hn9, ha9⟩ := S1.out.done HP.out
    refine bodyPost_ret (results_blk_tmp rfl _ rfl hb9 aggDisk) rfl ?_
    rw [HR.out]
    exact ⟨A, n, cap, rfl, hg9, hn9, ha9⟩
  | true =>
    rw [hgf] at HG
    cases hnb1 : namedB name with
    | false =>
      have HR : Sec (saveR fs f name s = (fs, f, 2)) := sec (by unfold saveR; rw [hgf, hnb1]; rfl)
      rw [hnb1] at HN1
      clear hgf hnb1
      go_enter Tryd.func50, Tryd.ntmps50
      go_wp2_with (first | (rw [← hwa, ← hp]; clear hwa hp; go_wp2_with fail) | (go_at_call 54; refine Calls.mono HG.out ?_; rintro e w1 ⟨rfl, g1⟩; have S1 := sec (S0.out.gr g1); obtain ⟨x1, x2, x3, x4, x5, x6, x7, x8⟩ := S1.out.facts) | (go_at_call 71; (with_reducible refine Calls.mono (HN1.out _) ?_); rintro e w2 ⟨rfl, g2⟩; have S2 := sec (S1.out.gr g2); obtain ⟨x1, x2, x3, x4, x5, x6, x7, x8⟩ := S2.out.facts))
      obtain ⟨hb9, hg9, hn9, ha9⟩ := S2.out.done HP.out
      refine bodyPost_ret (results_blk_tmp rfl _ rfl hb9 aggDisk) rfl ?_
      rw [HR.out]
      exact ⟨A, n, cap, rfl, hg9, hn9, ha9⟩
    | true =>
      rw [hnb1] at HN1
      cases hnb2 : namedB dst with
      | false =>
        have HR : Sec (saveR fs f name s = (fs, f, 2)) := sec (by unfold saveR; rw [hgf, hnb1, ← HDST.out, hnb2]; rfl)
        rw [hnb2] at HN2
        clear hgf hnb1 hnb2
        go_enter Tryd.func50, Tryd.ntmps50
        go_wp2_with (first | (rw [← hwa, ← hp]; clear hwa hp; go_wp2_with fail) | (go_at_call 54; refine Calls.mono HG.out ?_; rintro e w1 ⟨rfl, g1⟩; have S1 := sec (S0.out.gr g1); obtain ⟨x1, x2, x3, x4, x5, x6, x7, x8⟩ := S1.out.facts) | (go_at_call 71; (with_reducible refine Calls.mono (HN1.out _) ?_); rintro e w2 ⟨rfl, g2⟩; have S2 := sec (S1.out.gr g2); obtain ⟨x1, x2, x3, x4, x5, x6, x7, x8⟩ := S2.out.facts) | (go_at_call 71; (with_reducible refine Calls.mono (HN2.out _) ?_); rintro e w3 ⟨rfl, g3⟩; have S3 := sec (S2.out.gr g3); obtain ⟨x1, x2, x3, x4, x5, x6, x7, x8⟩ := S3.out.facts))
        obtain ⟨hb9, hg9, hn9, ha9⟩ := S3.out.done HP.out
        refine bodyPost_ret (results_blk_tmp rfl _ rfl hb9 aggDisk) rfl ?_
        rw [HR.out]
        exact ⟨A, n, cap, rfl, hg9, hn9, ha9⟩
      | true =>
        rw [hnb2] at HN2
        have HV : Sec (saveR fs f name s = save3 fs f name s) := sec (by unfold saveR; rw [hgf, hnb1, ← HDST.out, hnb2]; rfl)
        have HSO := sec (goodFs_sorted hgf)
        clear hgf hnb1 hnb2
        cases hhf : hasF dst fs with
        | false =>
          have HHB := sec hhf
          have HAI : Sec (atI dst fs = -1) := sec (by unfold atI; rw [hhf]; rfl)
          have HHF : Sec (hasF dst fs = false) := sec hhf
          clear hhf
          have Z1 := HZ
          have U1 := HFU
          have HQ0 : Sec (save0 fs f name = (fs, f, 0)) := sec (by unfold save0; rw [← HDST.out, HHB.out]; rfl)
          obtain ⟨⟨gs1, u1, er1⟩, hr1⟩ : ∃ x, x = stepR (wrF dst s) fs f := ⟨_, rfl⟩
          have R1 := sec hr1
          have HQ1 : Sec (save1 fs f name s = (gs1, u1, er1)) := sec (by unfold save1; rw [HQ0.out, if_pos rfl, ← HDST.out, R1.out])
          have Z2 : Sec (Sz gs1) := sec (by have := stepR_sz (F := wrF dst s) (wrF_sz dst s HLD.out) f Z1.out; rwa [← hr1] at this)
          have U2 : Sec (-9223372036854775808 ≤ u1 ∧ u1 ≤ 9223372036854775807) := sec (by have := stepR_fuse (F := wrF dst s) (fs := fs) U1.out; rwa [← hr1] at this)
          have HO1 : Sec (∀ w A n cap, FRow w A n fs → n ≤ cap → (A = none → n = 0 ∧ cap = 0) → Calls Tryd.prog 74 #[diskV A n cap f, .string (bs dst), .string (bs s)] w (StepPost (gs1, u1, er1) A n cap fs w)) := sec (fun w A n cap h hc hA => by
            rw [R1.out]; exact write_any dst s fs A n cap f w (by have := h.len; have := Z1.out.1; omega) h hA Z1.out.2 U1.out HLD.out HL2.out)
          unfold StepPost diskV at HO1
          clear hr1
          by_cases he1 : er1 = 0
          · subst he1
            obtain ⟨⟨gs2, u2, er2⟩, hr2⟩ : ∃ x, x = stepR (syF dst) gs1 u1 := ⟨_, rfl⟩
            have R2 := sec hr2
            have HQ2 : Sec (save2 fs f name s = (gs2, u2, er2)) := sec (by unfold save2; rw [HQ1.out, if_pos rfl, ← HDST.out, R2.out])
            have Z3 : Sec (Sz gs2) := sec (by have := stepR_sz (F := syF dst) (syF_sz dst) u1 Z2.out; rwa [← hr2] at this)
            have U3 : Sec (-9223372036854775808 ≤ u2 ∧ u2 ≤ 9223372036854775807) := sec (by have := stepR_fuse (F := syF dst) (fs := gs1) U2.out; rwa [← hr2] at this)
            have HO2 : Sec (∀ w A n cap, FRow w A n gs1 → n ≤ cap → (A = none → n = 0 ∧ cap = 0) → Calls Tryd.prog 75 #[diskV A n cap u1, .string (bs dst)] w (StepPost (gs2, u2, er2) A n cap gs1 w)) := sec (fun w A n cap h hc hA => by
              rw [R2.out]; exact sync_any dst gs1 A n cap u1 w (by have := h.len; have := Z2.out.1; omega) h hA Z2.out.2 U2.out)
            unfold StepPost diskV at HO2
            clear hr2
            by_cases he2 : er2 = 0
            · subst he2
              obtain ⟨⟨gs3, u3, er3⟩, hr3⟩ : ∃ x, x = stepR (rnF dst name) gs2 u2 := ⟨_, rfl⟩
              have R3 := sec hr3
              have HQ3 : Sec (save3 fs f name s = (gs3, u3, er3)) := sec (by unfold save3; rw [HQ2.out, if_pos rfl, ← HDST.out, R3.out])
              have Z4 : Sec (Sz gs3) := sec (by have := stepR_sz (F := rnF dst name) (rnF_sz dst name HL1.out) u2 Z3.out; rwa [← hr3] at this)
              have U4 : Sec (-9223372036854775808 ≤ u3 ∧ u3 ≤ 9223372036854775807) := sec (by have := stepR_fuse (F := rnF dst name) (fs := gs2) U3.out; rwa [← hr3] at this)
              have HO3 : Sec (∀ w A n cap, FRow w A n gs2 → n ≤ cap → (A = none → n = 0 ∧ cap = 0) → Calls Tryd.prog 76 #[diskV A n cap u2, .string (bs dst), .string (bs name)] w (StepPost (gs3, u3, er3) A n cap gs2 w)) := sec (fun w A n cap h hc hA => by
                rw [R3.out]; exact rename_any dst name gs2 A n cap u2 w (by have := h.len; have := Z3.out.1; omega) h hA Z3.out.2 U3.out HL1.out)
              unfold StepPost diskV at HO3
              clear hr3
              have HR : Sec (saveR fs f name s = (gs3, u3, er3)) := sec (by rw [HV.out]; rw [HQ3.out])
              go_enter Tryd.func50, Tryd.ntmps50
              go_wp2_with (first | (rw [← hwa, ← hp]; clear hwa hp; go_wp2_with fail) | (go_at_call 54; refine Calls.mono HG.out ?_; rintro e w1 ⟨rfl, g1⟩; have S1 := sec (S0.out.gr g1); obtain ⟨x1, x2, x3, x4, x5, x6, x7, x8⟩ := S1.out.facts) | (go_at_call 71; (with_reducible refine Calls.mono (HN1.out _) ?_); rintro e w2 ⟨rfl, g2⟩; have S2 := sec (S1.out.gr g2); obtain ⟨x1, x2, x3, x4, x5, x6, x7, x8⟩ := S2.out.facts) | (go_at_call 71; (with_reducible refine Calls.mono (HN2.out _) ?_); rintro e w3 ⟨rfl, g3⟩; have S3 := sec (S2.out.gr g3); obtain ⟨x1, x2, x3, x4, x5, x6, x7, x8⟩ := S3.out.facts) | (go_at_call 72; refine Calls.mono (find_any fs dst A n cap f w3 (by have := FRow.len HX.out; have := HZ.out.1; omega) (S3.out.row HX.out) HSO.out) ?_; rw [HHF.out]; rintro e w4 ⟨rfl, g4⟩; have S4 := sec (S3.out.gr g4); obtain ⟨x1, x2, x3, x4, x5, x6, x7, x8⟩ := S4.out.facts) | (go_at_call 74; (with_reducible refine Calls.mono (HO1.out _ _ _ _ (S4.out.row HX.out) S4.out.le S4.out.nil) ?_); rintro e w6 ⟨A6, n6, cap6, rfl, g6, hA1, hal1⟩; obtain ⟨x1, x2, x3, x4, x5, x6, x7, x8⟩ := (S4.out.gr g6).facts; have T1 := sec (S4.out.next (gs := gs1) (u := u1) HP.out g6 hA1 hal1)) | (go_at_call 75; (with_reducible refine Calls.mono (HO2.out _ _ _ _ (T1.out.row HX.out) T1.out.le T1.out.nil) ?_); rintro e w7 ⟨A7, n7, cap7, rfl, g7, hA2, hal2⟩; obtain ⟨x1, x2, x3, x4, x5, x6, x7, x8⟩ := (T1.out.gr g7).facts; have T2 := sec (T1.out.next (gs := gs2) (u := u2) HP.out g7 hA2 hal2)) | (go_at_call 76; (with_reducible refine Calls.mono (HO3.out _ _ _ _ (T2.out.row HX.out) T2.out.le T2.out.nil) ?_); rintro e w8 ⟨A8, n8, cap8, rfl, g8, hA3, hal3⟩; obtain ⟨x1, x2, x3, x4, x5, x6, x7, x8⟩ := (T2.out.gr g8).facts; have T3 := sec (T2.out.last (gs := gs3) (u := u3) HP.out g8 hA3 hal3)))
              obtain ⟨hb9, hg9, hn9, ha9⟩ := T3.out
              refine bodyPost_ret (results_blk_tmp rfl _ rfl hb9 aggDisk) rfl ?_
              rw [HR.out]
              exact ⟨A8, n8, cap8, rfl, hg9, hn9, ha9⟩
            · have HR : Sec (saveR fs f name s = (gs2, u2, er2)) := sec (by rw [HV.out]; unfold save3; rw [HQ2.out]; simp only [he2, if_false])
              go_enter Tryd.func50, Tryd.ntmps50
              go_wp2_with (first | (rw [← hwa, ← hp]; clear hwa hp; go_wp2_with fail) | (go_at_call 54; refine Calls.mono HG.out ?_; rintro e w1 ⟨rfl, g1⟩; have S1 := sec (S0.out.gr g1); obtain ⟨x1, x2, x3, x4, x5, x6, x7, x8⟩ := S1.out.facts) | (go_at_call 71; (with_reducible refine Calls.mono (HN1.out _) ?_); rintro e w2 ⟨rfl, g2⟩; have S2 := sec (S1.out.gr g2); obtain ⟨x1, x2, x3, x4, x5, x6, x7, x8⟩ := S2.out.facts) | (go_at_call 71; (with_reducible refine Calls.mono (HN2.out _) ?_); rintro e w3 ⟨rfl, g3⟩; have S3 := sec (S2.out.gr g3); obtain ⟨x1, x2, x3, x4, x5, x6, x7, x8⟩ := S3.out.facts) | (go_at_call 72; refine Calls.mono (find_any fs dst A n cap f w3 (by have := FRow.len HX.out; have := HZ.out.1; omega) (S3.out.row HX.out) HSO.out) ?_; rw [HHF.out]; rintro e w4 ⟨rfl, g4⟩; have S4 := sec (S3.out.gr g4); obtain ⟨x1, x2, x3, x4, x5, x6, x7, x8⟩ := S4.out.facts) | (go_at_call 74; (with_reducible refine Calls.mono (HO1.out _ _ _ _ (S4.out.row HX.out) S4.out.le S4.out.nil) ?_); rintro e w6 ⟨A6, n6, cap6, rfl, g6, hA1, hal1⟩; obtain ⟨x1, x2, x3, x4, x5, x6, x7, x8⟩ := (S4.out.gr g6).facts; have T1 := sec (S4.out.next (gs := gs1) (u := u1) HP.out g6 hA1 hal1)) | (go_at_call 75; (with_reducible refine Calls.mono (HO2.out _ _ _ _ (T1.out.row HX.out) T1.out.le T1.out.nil) ?_); rintro e w7 ⟨A7, n7, cap7, rfl, g7, hA2, hal2⟩; obtain ⟨x1, x2, x3, x4, x5, x6, x7, x8⟩ := (T1.out.gr g7).facts; have T2 := sec (T1.out.next (gs := gs2) (u := u2) HP.out g7 hA2 hal2)))
              obtain ⟨hb9, hg9, hn9, ha9⟩ := T2.out.done HP.out
              refine bodyPost_ret (results_blk_tmp rfl _ rfl hb9 aggDisk) rfl ?_
              rw [HR.out]
              exact ⟨A7, n7, cap7, rfl, hg9, hn9, ha9⟩
          · have HR : Sec (saveR fs f name s = (gs1, u1, er1)) := sec (by rw [HV.out]; unfold save3; unfold save2; rw [HQ1.out]; simp only [he1, if_false])
            go_enter Tryd.func50, Tryd.ntmps50
            go_wp2_with (first | (rw [← hwa, ← hp]; clear hwa hp; go_wp2_with fail) | (go_at_call 54; refine Calls.mono HG.out ?_; rintro e w1 ⟨rfl, g1⟩; have S1 := sec (S0.out.gr g1); obtain ⟨x1, x2, x3, x4, x5, x6, x7, x8⟩ := S1.out.facts) | (go_at_call 71; (with_reducible refine Calls.mono (HN1.out _) ?_); rintro e w2 ⟨rfl, g2⟩; have S2 := sec (S1.out.gr g2); obtain ⟨x1, x2, x3, x4, x5, x6, x7, x8⟩ := S2.out.facts) | (go_at_call 71; (with_reducible refine Calls.mono (HN2.out _) ?_); rintro e w3 ⟨rfl, g3⟩; have S3 := sec (S2.out.gr g3); obtain ⟨x1, x2, x3, x4, x5, x6, x7, x8⟩ := S3.out.facts) | (go_at_call 72; refine Calls.mono (find_any fs dst A n cap f w3 (by have := FRow.len HX.out; have := HZ.out.1; omega) (S3.out.row HX.out) HSO.out) ?_; rw [HHF.out]; rintro e w4 ⟨rfl, g4⟩; have S4 := sec (S3.out.gr g4); obtain ⟨x1, x2, x3, x4, x5, x6, x7, x8⟩ := S4.out.facts) | (go_at_call 74; (with_reducible refine Calls.mono (HO1.out _ _ _ _ (S4.out.row HX.out) S4.out.le S4.out.nil) ?_); rintro e w6 ⟨A6, n6, cap6, rfl, g6, hA1, hal1⟩; obtain ⟨x1, x2, x3, x4, x5, x6, x7, x8⟩ := (S4.out.gr g6).facts; have T1 := sec (S4.out.next (gs := gs1) (u := u1) HP.out g6 hA1 hal1)))
            obtain ⟨hb9, hg9, hn9, ha9⟩ := T1.out.done HP.out
            refine bodyPost_ret (results_blk_tmp rfl _ rfl hb9 aggDisk) rfl ?_
            rw [HR.out]
            exact ⟨A6, n6, cap6, rfl, hg9, hn9, ha9⟩
        | true =>
          have HHB := sec hhf
          have HHF : Sec (hasF dst fs = true) := sec hhf
          obtain ⟨k, hk⟩ : ∃ k, k = lbF dst fs := ⟨_, rfl⟩
          have HAI : Sec (atI dst fs = (k : Int)) := sec (by unfold atI; rw [hhf, hk]; rfl)
          clear hhf hk
          have Z0 := HZ
          have U0 := HFU
          obtain ⟨⟨gs0, u0, er0⟩, hr0⟩ : ∃ x, x = stepR (rmF dst) fs f := ⟨_, rfl⟩
          have R0 := sec hr0
          have HQ0 : Sec (save0 fs f name = (gs0, u0, er0)) := sec (by unfold save0; rw [← HDST.out, HHB.out, if_pos rfl, R0.out])
          have Z1 : Sec (Sz gs0) := sec (by have := stepR_sz (F := rmF dst) (rmF_sz dst) f Z0.out; rwa [← hr0] at this)
          have U1 : Sec (-9223372036854775808 ≤ u0 ∧ u0 ≤ 9223372036854775807) := sec (by have := stepR_fuse (F := rmF dst) (fs := fs) U0.out; rwa [← hr0] at this)
          have HO0 : Sec (∀ w A n cap, FRow w A n fs → n ≤ cap → (A = none → n = 0 ∧ cap = 0) → Calls Tryd.prog 73 #[diskV A n cap f, .string (bs dst)] w (StepPost (gs0, u0, er0) A n cap fs w)) := sec (fun w A n cap h hc hA => by
            rw [R0.out]; exact remove_any dst fs A n cap f w (by have := h.len; have := Z0.out.1; omega) h hA Z0.out.2 U0.out)
          unfold StepPost diskV at HO0
          clear hr0
          by_cases he0 : er0 = 0
          · subst he0
            obtain ⟨⟨gs1, u1, er1⟩, hr1⟩ : ∃ x, x = stepR (wrF dst s) gs0 u0 := ⟨_, rfl⟩
            have R1 := sec hr1
            have HQ1 : Sec (save1 fs f name s = (gs1, u1, er1)) := sec (by unfold save1; rw [HQ0.out, if_pos rfl, ← HDST.out, R1.out])
            have Z2 : Sec (Sz gs1) := sec (by have := stepR_sz (F := wrF dst s) (wrF_sz dst s HLD.out) u0 Z1.out; rwa [← hr1] at this)
            have U2 : Sec (-9223372036854775808 ≤ u1 ∧ u1 ≤ 9223372036854775807) := sec (by have := stepR_fuse (F := wrF dst s) (fs := gs0) U1.out; rwa [← hr1] at this)
            have HO1 : Sec (∀ w A n cap, FRow w A n gs0 → n ≤ cap → (A = none → n = 0 ∧ cap = 0) → Calls Tryd.prog 74 #[diskV A n cap u0, .string (bs dst), .string (bs s)] w (StepPost (gs1, u1, er1) A n cap gs0 w)) := sec (fun w A n cap h hc hA => by
              rw [R1.out]; exact write_any dst s gs0 A n cap u0 w (by have := h.len; have := Z1.out.1; omega) h hA Z1.out.2 U1.out HLD.out HL2.out)
            unfold StepPost diskV at HO1
            clear hr1
            by_cases he1 : er1 = 0
            · subst he1
              obtain ⟨⟨gs2, u2, er2⟩, hr2⟩ : ∃ x, x = stepR (syF dst) gs1 u1 := ⟨_, rfl⟩
              have R2 := sec hr2
              have HQ2 : Sec (save2 fs f name s = (gs2, u2, er2)) := sec (by unfold save2; rw [HQ1.out, if_pos rfl, ← HDST.out, R2.out])
              have Z3 : Sec (Sz gs2) := sec (by have := stepR_sz (F := syF dst) (syF_sz dst) u1 Z2.out; rwa [← hr2] at this)
              have U3 : Sec (-9223372036854775808 ≤ u2 ∧ u2 ≤ 9223372036854775807) := sec (by have := stepR_fuse (F := syF dst) (fs := gs1) U2.out; rwa [← hr2] at this)
              have HO2 : Sec (∀ w A n cap, FRow w A n gs1 → n ≤ cap → (A = none → n = 0 ∧ cap = 0) → Calls Tryd.prog 75 #[diskV A n cap u1, .string (bs dst)] w (StepPost (gs2, u2, er2) A n cap gs1 w)) := sec (fun w A n cap h hc hA => by
                rw [R2.out]; exact sync_any dst gs1 A n cap u1 w (by have := h.len; have := Z2.out.1; omega) h hA Z2.out.2 U2.out)
              unfold StepPost diskV at HO2
              clear hr2
              by_cases he2 : er2 = 0
              · subst he2
                obtain ⟨⟨gs3, u3, er3⟩, hr3⟩ : ∃ x, x = stepR (rnF dst name) gs2 u2 := ⟨_, rfl⟩
                have R3 := sec hr3
                have HQ3 : Sec (save3 fs f name s = (gs3, u3, er3)) := sec (by unfold save3; rw [HQ2.out, if_pos rfl, ← HDST.out, R3.out])
                have Z4 : Sec (Sz gs3) := sec (by have := stepR_sz (F := rnF dst name) (rnF_sz dst name HL1.out) u2 Z3.out; rwa [← hr3] at this)
                have U4 : Sec (-9223372036854775808 ≤ u3 ∧ u3 ≤ 9223372036854775807) := sec (by have := stepR_fuse (F := rnF dst name) (fs := gs2) U3.out; rwa [← hr3] at this)
                have HO3 : Sec (∀ w A n cap, FRow w A n gs2 → n ≤ cap → (A = none → n = 0 ∧ cap = 0) → Calls Tryd.prog 76 #[diskV A n cap u2, .string (bs dst), .string (bs name)] w (StepPost (gs3, u3, er3) A n cap gs2 w)) := sec (fun w A n cap h hc hA => by
                  rw [R3.out]; exact rename_any dst name gs2 A n cap u2 w (by have := h.len; have := Z3.out.1; omega) h hA Z3.out.2 U3.out HL1.out)
                unfold StepPost diskV at HO3
                clear hr3
                have HR : Sec (saveR fs f name s = (gs3, u3, er3)) := sec (by rw [HV.out]; rw [HQ3.out])
                go_enter Tryd.func50, Tryd.ntmps50
                go_wp2_with (first | (rw [← hwa, ← hp]; clear hwa hp; go_wp2_with fail) | (go_at_call 54; refine Calls.mono HG.out ?_; rintro e w1 ⟨rfl, g1⟩; have S1 := sec (S0.out.gr g1); obtain ⟨x1, x2, x3, x4, x5, x6, x7, x8⟩ := S1.out.facts) | (go_at_call 71; (with_reducible refine Calls.mono (HN1.out _) ?_); rintro e w2 ⟨rfl, g2⟩; have S2 := sec (S1.out.gr g2); obtain ⟨x1, x2, x3, x4, x5, x6, x7, x8⟩ := S2.out.facts) | (go_at_call 71; (with_reducible refine Calls.mono (HN2.out _) ?_); rintro e w3 ⟨rfl, g3⟩; have S3 := sec (S2.out.gr g3); obtain ⟨x1, x2, x3, x4, x5, x6, x7, x8⟩ := S3.out.facts) | (go_at_call 72; refine Calls.mono (find_any fs dst A n cap f w3 (by have := FRow.len HX.out; have := HZ.out.1; omega) (S3.out.row HX.out) HSO.out) ?_; rw [HHF.out]; rintro e w4 ⟨rfl, g4⟩; have S4 := sec (S3.out.gr g4); obtain ⟨x1, x2, x3, x4, x5, x6, x7, x8⟩ := S4.out.facts) | (go_at_call 73; (with_reducible refine Calls.mono (HO0.out _ _ _ _ (S4.out.row HX.out) S4.out.le S4.out.nil) ?_); rintro e w5 ⟨A5, n5, cap5, rfl, g5, hA0, hal0⟩; obtain ⟨x1, x2, x3, x4, x5, x6, x7, x8⟩ := (S4.out.gr g5).facts; have T0 := sec (S4.out.next (gs := gs0) (u := u0) HP.out g5 hA0 hal0)) | (go_at_call 74; (with_reducible refine Calls.mono (HO1.out _ _ _ _ (T0.out.row HX.out) T0.out.le T0.out.nil) ?_); rintro e w6 ⟨A6, n6, cap6, rfl, g6, hA1, hal1⟩; obtain ⟨x1, x2, x3, x4, x5, x6, x7, x8⟩ := (T0.out.gr g6).facts; have T1 := sec (T0.out.next (gs := gs1) (u := u1) HP.out g6 hA1 hal1)) | (go_at_call 75; (with_reducible refine Calls.mono (HO2.out _ _ _ _ (T1.out.row HX.out) T1.out.le T1.out.nil) ?_); rintro e w7 ⟨A7, n7, cap7, rfl, g7, hA2, hal2⟩; obtain ⟨x1, x2, x3, x4, x5, x6, x7, x8⟩ := (T1.out.gr g7).facts; have T2 := sec (T1.out.next (gs := gs2) (u := u2) HP.out g7 hA2 hal2)) | (go_at_call 76; (with_reducible refine Calls.mono (HO3.out _ _ _ _ (T2.out.row HX.out) T2.out.le T2.out.nil) ?_); rintro e w8 ⟨A8, n8, cap8, rfl, g8, hA3, hal3⟩; obtain ⟨x1, x2, x3, x4, x5, x6, x7, x8⟩ := (T2.out.gr g8).facts; have T3 := sec (T2.out.last (gs := gs3) (u := u3) HP.out g8 hA3 hal3)))
                obtain ⟨hb9, hg9, hn9, ha9⟩ := T3.out
                refine bodyPost_ret (results_blk_tmp rfl _ rfl hb9 aggDisk) rfl ?_
                rw [HR.out]
                exact ⟨A8, n8, cap8, rfl, hg9, hn9, ha9⟩
              · have HR : Sec (saveR fs f name s = (gs2, u2, er2)) := sec (by rw [HV.out]; unfold save3; rw [HQ2.out]; simp only [he2, if_false])
                go_enter Tryd.func50, Tryd.ntmps50
                go_wp2_with (first | (rw [← hwa, ← hp]; clear hwa hp; go_wp2_with fail) | (go_at_call 54; refine Calls.mono HG.out ?_; rintro e w1 ⟨rfl, g1⟩; have S1 := sec (S0.out.gr g1); obtain ⟨x1, x2, x3, x4, x5, x6, x7, x8⟩ := S1.out.facts) | (go_at_call 71; (with_reducible refine Calls.mono (HN1.out _) ?_); rintro e w2 ⟨rfl, g2⟩; have S2 := sec (S1.out.gr g2); obtain ⟨x1, x2, x3, x4, x5, x6, x7, x8⟩ := S2.out.facts) | (go_at_call 71; (with_reducible refine Calls.mono (HN2.out _) ?_); rintro e w3 ⟨rfl, g3⟩; have S3 := sec (S2.out.gr g3); obtain ⟨x1, x2, x3, x4, x5, x6, x7, x8⟩ := S3.out.facts) | (go_at_call 72; refine Calls.mono (find_any fs dst A n cap f w3 (by have := FRow.len HX.out; have := HZ.out.1; omega) (S3.out.row HX.out) HSO.out) ?_; rw [HHF.out]; rintro e w4 ⟨rfl, g4⟩; have S4 := sec (S3.out.gr g4); obtain ⟨x1, x2, x3, x4, x5, x6, x7, x8⟩ := S4.out.facts) | (go_at_call 73; (with_reducible refine Calls.mono (HO0.out _ _ _ _ (S4.out.row HX.out) S4.out.le S4.out.nil) ?_); rintro e w5 ⟨A5, n5, cap5, rfl, g5, hA0, hal0⟩; obtain ⟨x1, x2, x3, x4, x5, x6, x7, x8⟩ := (S4.out.gr g5).facts; have T0 := sec (S4.out.next (gs := gs0) (u := u0) HP.out g5 hA0 hal0)) | (go_at_call 74; (with_reducible refine Calls.mono (HO1.out _ _ _ _ (T0.out.row HX.out) T0.out.le T0.out.nil) ?_); rintro e w6 ⟨A6, n6, cap6, rfl, g6, hA1, hal1⟩; obtain ⟨x1, x2, x3, x4, x5, x6, x7, x8⟩ := (T0.out.gr g6).facts; have T1 := sec (T0.out.next (gs := gs1) (u := u1) HP.out g6 hA1 hal1)) | (go_at_call 75; (with_reducible refine Calls.mono (HO2.out _ _ _ _ (T1.out.row HX.out) T1.out.le T1.out.nil) ?_); rintro e w7 ⟨A7, n7, cap7, rfl, g7, hA2, hal2⟩; obtain ⟨x1, x2, x3, x4, x5, x6, x7, x8⟩ := (T1.out.gr g7).facts; have T2 := sec (T1.out.next (gs := gs2) (u := u2) HP.out g7 hA2 hal2)))
                obtain ⟨hb9, hg9, hn9, ha9⟩ := T2.out.done HP.out
                refine bodyPost_ret (results_blk_tmp rfl _ rfl hb9 aggDisk) rfl ?_
                rw [HR.out]
                exact ⟨A7, n7, cap7, rfl, hg9, hn9, ha9⟩
            · have HR : Sec (saveR fs f name s = (gs1, u1, er1)) := sec (by rw [HV.out]; unfold save3; unfold save2; rw [HQ1.out]; simp only [he1, if_false])
              go_enter Tryd.func50, Tryd.ntmps50
              go_wp2_with (first | (rw [← hwa, ← hp]; clear hwa hp; go_wp2_with fail) | (go_at_call 54; refine Calls.mono HG.out ?_; rintro e w1 ⟨rfl, g1⟩; have S1 := sec (S0.out.gr g1); obtain ⟨x1, x2, x3, x4, x5, x6, x7, x8⟩ := S1.out.facts) | (go_at_call 71; (with_reducible refine Calls.mono (HN1.out _) ?_); rintro e w2 ⟨rfl, g2⟩; have S2 := sec (S1.out.gr g2); obtain ⟨x1, x2, x3, x4, x5, x6, x7, x8⟩ := S2.out.facts) | (go_at_call 71; (with_reducible refine Calls.mono (HN2.out _) ?_); rintro e w3 ⟨rfl, g3⟩; have S3 := sec (S2.out.gr g3); obtain ⟨x1, x2, x3, x4, x5, x6, x7, x8⟩ := S3.out.facts) | (go_at_call 72; refine Calls.mono (find_any fs dst A n cap f w3 (by have := FRow.len HX.out; have := HZ.out.1; omega) (S3.out.row HX.out) HSO.out) ?_; rw [HHF.out]; rintro e w4 ⟨rfl, g4⟩; have S4 := sec (S3.out.gr g4); obtain ⟨x1, x2, x3, x4, x5, x6, x7, x8⟩ := S4.out.facts) | (go_at_call 73; (with_reducible refine Calls.mono (HO0.out _ _ _ _ (S4.out.row HX.out) S4.out.le S4.out.nil) ?_); rintro e w5 ⟨A5, n5, cap5, rfl, g5, hA0, hal0⟩; obtain ⟨x1, x2, x3, x4, x5, x6, x7, x8⟩ := (S4.out.gr g5).facts; have T0 := sec (S4.out.next (gs := gs0) (u := u0) HP.out g5 hA0 hal0)) | (go_at_call 74; (with_reducible refine Calls.mono (HO1.out _ _ _ _ (T0.out.row HX.out) T0.out.le T0.out.nil) ?_); rintro e w6 ⟨A6, n6, cap6, rfl, g6, hA1, hal1⟩; obtain ⟨x1, x2, x3, x4, x5, x6, x7, x8⟩ := (T0.out.gr g6).facts; have T1 := sec (T0.out.next (gs := gs1) (u := u1) HP.out g6 hA1 hal1)))
              obtain ⟨hb9, hg9, hn9, ha9⟩ := T1.out.done HP.out
              refine bodyPost_ret (results_blk_tmp rfl _ rfl hb9 aggDisk) rfl ?_
              rw [HR.out]
              exact ⟨A6, n6, cap6, rfl, hg9, hn9, ha9⟩
          · have HR : Sec (saveR fs f name s = (gs0, u0, er0)) := sec (by rw [HV.out]; unfold save3; unfold save2; unfold save1; rw [HQ0.out]; simp only [he0, if_false])
            go_enter Tryd.func50, Tryd.ntmps50
            go_wp2_with (first | (rw [← hwa, ← hp]; clear hwa hp; go_wp2_with fail) | (go_at_call 54; refine Calls.mono HG.out ?_; rintro e w1 ⟨rfl, g1⟩; have S1 := sec (S0.out.gr g1); obtain ⟨x1, x2, x3, x4, x5, x6, x7, x8⟩ := S1.out.facts) | (go_at_call 71; (with_reducible refine Calls.mono (HN1.out _) ?_); rintro e w2 ⟨rfl, g2⟩; have S2 := sec (S1.out.gr g2); obtain ⟨x1, x2, x3, x4, x5, x6, x7, x8⟩ := S2.out.facts) | (go_at_call 71; (with_reducible refine Calls.mono (HN2.out _) ?_); rintro e w3 ⟨rfl, g3⟩; have S3 := sec (S2.out.gr g3); obtain ⟨x1, x2, x3, x4, x5, x6, x7, x8⟩ := S3.out.facts) | (go_at_call 72; refine Calls.mono (find_any fs dst A n cap f w3 (by have := FRow.len HX.out; have := HZ.out.1; omega) (S3.out.row HX.out) HSO.out) ?_; rw [HHF.out]; rintro e w4 ⟨rfl, g4⟩; have S4 := sec (S3.out.gr g4); obtain ⟨x1, x2, x3, x4, x5, x6, x7, x8⟩ := S4.out.facts) | (go_at_call 73; (with_reducible refine Calls.mono (HO0.out _ _ _ _ (S4.out.row HX.out) S4.out.le S4.out.nil) ?_); rintro e w5 ⟨A5, n5, cap5, rfl, g5, hA0, hal0⟩; obtain ⟨x1, x2, x3, x4, x5, x6, x7, x8⟩ := (S4.out.gr g5).facts; have T0 := sec (S4.out.next (gs := gs0) (u := u0) HP.out g5 hA0 hal0)))
            obtain ⟨hb9, hg9, hn9, ha9⟩ := T0.out.done HP.out
            refine bodyPost_ret (results_blk_tmp rfl _ rfl hb9 aggDisk) rfl ?_
            rw [HR.out]
            exact ⟨A5, n5, cap5, rfl, hg9, hn9, ha9⟩
end Go.Proofs.YtbhpglhmnpcnkaaDoor

namespace Go.Proofs.YtbhpglhmnpcnkaaDoor
set_option maxRecDepth 100000
open Go.RowKit
set_option linter.unusedVariables false

set_option maxHeartbeats 8000000 in
theorem nmark_any (fs : List Fl) (who : Int) (key : List UInt8) (A : Option Addr) (m cap : Nat) (f so : Int) (ro : List UInt8) (n : Int) (r : List UInt8) (ps : List (List UInt8)) (k : Nat) (P : Option Addr) (cp : Nat) (w : World)
    (hx : FRow w A m fs) (hmc : m ≤ cap) (hA : A = none → m = 0 ∧ cap = 0) (hz : Sz fs) (hf : -9223372036854775808 ≤ f ∧ f ≤ 9223372036854775807) (hkey : key.length ≤ 1099511627776) (hro : ro.length ≤ 1099511627776) (hr : r.length ≤ 1099511627776)
    (hk : k ≤ 1099511627776) (hcp : k ≤ cp) (hP : P = none → k = 0 ∧ cp = 0) (hrow : StrRow w P k ps) (hs : Short ps) (hT : TabK w) :
    Calls Tryd.prog 23 #[.agg (witA who key A m cap f so ro), .agg (headC n r), .slice P k cp] w (NPost (nmkR fs f who key so ro n r ps) who key w) := by
  have hxl := hdTxt_len n r
  obtain ⟨wa, hwa⟩ : ∃ x, x = (((w.alloc (.cells (witA who key A m cap f so ro) 28)).alloc (.cells (headC n r) 26)).alloc (.cells (witA 0 [] none 0 0 0 0 []) 28)).alloc (.cells (markC 0 []) 37) := ⟨_, rfl⟩
  have hb : Blk wa w.heap.size 28 (witA who key A m cap f so ro) := by rw [hwa]; exact (((Blk.new w _ _).alloc _).alloc _).alloc _
  have hh : Blk wa (w.heap.size + 1) 26 (headC n r) := by rw [hwa]; exact ((Blk.new1 w _ _ _).alloc _).alloc _
  have hzz : Blk wa (w.heap.size + 1 + 1) 28 (witA 0 [] none 0 0 0 0 []) := by rw [hwa]; exact (Blk.new2 w _ _ _ _).alloc _
  have hy : Blk wa (w.heap.size + 1 + 1 + 1) 37 (markC 0 []) := by rw [hwa]; exact Blk.new3 w _ _ _ _ _
  have hg0 : Gr w wa := by rw [hwa]; exact ((((Gr.refl w).alloc _).alloc _).alloc _).alloc _
  have HTx := sec (fun w => htext_any n r w hr)
  have HFo : Sec (∀ w', Gr wa w' → Calls Tryd.prog 49 #[.agg (headC so ro), .agg (headC n r), .slice P k cp] w' fun e w'' => e = .returned (.int .i64 (folE so ro n r ps)) ∧ Gr w' w'') := sec (fun w' g => follows_any so ro n r ps k P cp w' hro hk hcp hP (hrow.gr (hg0.trans g)) hs (hT.gr (hg0.trans g)))
  have HMk : Sec (∀ w', Gr wa w' → Calls Tryd.prog 12 #[.int .i64 who, .string (bs key), .agg (headC n r)] w' fun e w'' => e = .returned (.tuple #[.agg (markC (hdMk who key n r).1 (hdMk who key n r).2.1), .int .i64 (hdMk who key n r).2.2]) ∧ Gr w' w'') := sec (fun w' g => hmark_any who key n r w' (hT.gr (hg0.trans g)) hkey hr)
  have HSu : Sec (∀ w', Gr wa w' → Calls Tryd.prog 51 #[.string (bs (hdTxt n r).1)] w' fun e w'' => e = .returned (.string (bs (sha (hdTxt n r).1))) ∧ Gr w' w'') := sec (fun w' g => sum_any _ w' (hT.gr (hg0.trans g)) (by omega))
  have HSv : Sec (∀ w', Gr wa w' → Calls Tryd.prog 50 #[diskV A m cap f, .string (bs seenB), .string (bs ((hdTxt n r).1 ++ sha (hdTxt n r).1))] w' (StepPost (saveR fs f seenB ((hdTxt n r).1 ++ sha (hdTxt n r).1)) A m cap fs w')) := sec (fun w' g =>
    save_any seenB _ fs A m cap f w' (hx.gr (hg0.trans g)) hmc hA hz hf (by decide) (by rw [List.length_append, sha_len]; omega))
  obtain ⟨p, hp⟩ : ∃ p, p = w.heap.size := ⟨_, rfl⟩
  have hwp : w.heap.size ≤ p := by omega
  rw [← hp] at hb hh hzz hy
  unfold nmkR
  obtain ⟨tx, htx⟩ : ∃ t, t = (hdTxt n r).1 := ⟨_, rfl⟩
  obtain ⟨te, hte⟩ : ∃ t, t = (hdTxt n r).2 := ⟨_, rfl⟩
  obtain ⟨sx, hsx⟩ : ∃ t, t = sha tx := ⟨_, rfl⟩
  have hsl : sx.length = 32 := by rw [hsx]; exact sha_len tx
  rw [← htx, ← hte] at HTx
  rw [← htx, ← hsx] at HSu HSv
  rw [← htx] at hxl
  rw [← htx, ← hte, ← hsx]
  obtain ⟨fe, hfe⟩ : ∃ t, t = folE so ro n r ps := ⟨_, rfl⟩
  rw [← hfe] at HFo
  rw [← hfe]
  obtain ⟨M, hM⟩ : ∃ t, t = hdMk who key n r := ⟨_, rfl⟩
  rw [← hM] at HMk
  rw [← hM]
  obtain ⟨S, hS⟩ : ∃ t, t = saveR fs f seenB (tx ++ sx) := ⟨_, rfl⟩
  rw [← hS] at HSv
  rw [← hS]
  obtain ⟨mw, ms, me⟩ := M
  obtain ⟨gs, u, ee⟩ := S
  have hseen : bs seenB = bs [115, 101, 101, 110] := rfl
  rw [hseen] at HSv
  have hcat : ¬ 9223372036854775807 < tx.length + sx.length := by omega
  have HX := sec hx
  have HB := sec hb
  have HH := sec hh
  have HZ := sec hzz
  have HY := sec hy
  have HC : Sec (∀ w', Gr wa w' → w'.cell? ⟨p, 4, none⟩ = some (.int .i64 so) ∧ w'.cell? ⟨p, 5, none⟩ = some (.string (bs ro)) ∧ w'.cell? ⟨p + 1, 0, none⟩ = some (.int .i64 n) ∧ w'.cell? ⟨p + 1, 1, none⟩ = some (.string (bs r))) := sec (fun w' g => ⟨(HB.out.gr g).cell 4, (HB.out.gr g).cell 5, (HH.out.gr g).cell 0, (HH.out.gr g).cell 1⟩)
  have HC2 : Sec (∀ w', Gr wa w' → w'.cell? ⟨p, 0, none⟩ = some (.int .i64 who) ∧ w'.cell? ⟨p, 1, none⟩ = some (.string (bs key)) ∧ w'.cell? ⟨p + 1, 0, none⟩ = some (.int .i64 n) ∧ w'.cell? ⟨p + 1, 1, none⟩ = some (.string (bs r))) := sec (fun w' g => ⟨(HB.out.gr g).cell 0, (HB.out.gr g).cell 1, (HH.out.gr g).cell 0, (HH.out.gr g).cell 1⟩)
  have c0 : wa.cell? ⟨p + 1, 0, none⟩ = some (.int .i64 n) := hh.cell 0
  have c1 : wa.cell? ⟨p + 1, 1, none⟩ = some (.string (bs r)) := hh.cell 1
  clear hb hh hzz hy hxl htx hte hsx hfe hM hS hT hrow hs hk hcp hP hx hmc hA hz hf hkey hro hr
  simp only at HMk
  unfold headC at HTx HFo HMk
  unfold markC at HMk
  unfold headC witA markC at hwa
  unfold headC witA
  have HSv2 : Sec (∀ w', Gr wa w' → Calls Tryd.prog 50 #[.agg #[.slice A m cap, .int .i64 f], .string (bs [115, 101, 101, 110]), .string (bs (tx ++ sx))] w' fun e w'' => ∃ A' n' cap', e = .returned (.tuple #[.agg #[.slice A' n' cap', .int .i64 u], .int .i64 ee]) ∧ Gr w' w'' ∧ ((A' = A ∧ n' = m ∧ cap' = cap ∧ gs = fs) ∨ w''.ownsRow w'.heap.size 87 3 (.slice A' n' cap') n' (gs.flatMap fileC))) := sec (fun w' g => by
    refine (HSv.out w' g).mono ?_
    rintro e w'' ⟨A', n', cap', rfl, g', _, ha⟩
    exact ⟨A', n', cap', rfl, g', ha⟩)
  clear HSv hseen
  by_cases h1 : te = 0
  · rw [if_pos h1]
    subst h1
    by_cases h2 : fe = 0
    · rw [if_pos h2]
      subst h2
      by_cases h3 : me = 0
      · rw [if_pos h3]
        subst h3
        obtain ⟨R, hR⟩ : ∃ R : NMk, R = (if ee = 0 then ⟨gs, u, n, r, mw, ms, 0⟩ else ⟨gs, u, so, ro, 0, [], ee⟩) := ⟨_, rfl⟩
        rw [← hR]
        have HR := sec hR
        clear hR
        go_enter Tryd.func23, Tryd.ntmps23
        go_upto_region 10 with (first
          | (rw [← hwa, ← hp]; clear hwa hp; go_upto_region 10 with fail)
          | (go_at_call 15; refine Calls.mono (HTx.out _) ?_; rintro e w1 ⟨rfl, g1⟩; have B1 := HB.out.gr g1; have Z1 := HZ.out.gr g1; have Y1 := HY.out.gr g1; have gg1 := hg0.trans g1; obtain ⟨e4, e5, d0, d1⟩ := HC.out w1 g1)
          | (go_at_call 49; refine Calls.mono (HFo.out _ g1) ?_; rintro e w2 ⟨rfl, g2'⟩; have g2 := g1.trans g2'; have B2 := HB.out.gr g2; have Z2 := HZ.out.gr g2; have Y2 := HY.out.gr g2; have gg2 := hg0.trans g2; obtain ⟨a0, a1, b0, b1⟩ := HC2.out w2 g2)
          | (go_at_call 12; refine Calls.mono (HMk.out _ g2) ?_; rintro e w3 ⟨rfl, g3'⟩; have g3 := (g2.trans g3').alloc (.cells #[.int .i64 mw, .string (bs ms)] 37); have B3 := HB.out.gr g3; have Z3 := HZ.out.gr g3; have Y3 := HY.out.gr g3; have gg3 := hg0.trans g3))
        have HB3 := sec B3
        have HZ3 := sec Z3
        have HY3 := sec Y3
        have HH3 := sec (HH.out.gr g3)
        have HM3 : Sec (Blk (w3.alloc (.cells #[.int .i64 mw, .string (bs ms)] 37)) w3.heap.size 37 (markC mw ms)) := sec (Blk.new w3 _ _)
        have hpq : p + 1 + 1 + 1 < w3.heap.size := (HY.out.gr (g2.trans g3')).lt
        obtain ⟨q, hq⟩ : ∃ x, x = w3.heap.size := ⟨_, rfl⟩
        obtain ⟨w4, hw4⟩ : ∃ x, x = w3.alloc (.cells #[.int .i64 mw, .string (bs ms)] 37) := ⟨_, rfl⟩
        rw [← hq] at hpq HM3
        rw [← hw4] at HB3 HZ3 HY3 HH3 HM3 g3 gg3
        rw [← hw4, ← hq]
        have c2 : w4.cell? ⟨p, 2, none⟩ = some (.slice A m cap) := HB3.out.cell 2
        have c3 : w4.cell? ⟨p, 3, none⟩ = some (.int .i64 f) := HB3.out.cell 3
        have g4d : Gr w4 w4.drew := (Gr.refl _).drew
        have HSK : Sec (∀ w', Gr w4 w' → w'.cell? ⟨p, 2, none⟩ = some (.slice A m cap) ∧ w'.cell? ⟨p, 3, none⟩ = some (.int .i64 f) ∧ w'.frozen? ⟨p, 2, none⟩ = false ∧ w'.frozen? ⟨p, 3, none⟩ = false) := sec (fun w' g => ⟨(HB3.out.gr g).cell 2, (HB3.out.gr g).cell 3, (HB3.out.gr g).frozen 2, (HB3.out.gr g).frozen 3⟩)
        have HMID : Sec (∀ w5 w6 A' n' cap', Gr w4 w5 → Gr w5 w6 → ((A' = A ∧ n' = m ∧ cap' = cap ∧ gs = fs) ∨ w6.ownsRow w5.heap.size 87 3 (.slice A' n' cap') n' (gs.flatMap fileC)) → NMid w p q A m cap fs who key A' n' cap' u so ro n r mw ms gs ((w6.setCell ⟨p, 2, none⟩ (.slice A' n' cap')).setCell ⟨p, 3, none⟩ (.int .i64 u))) := sec (fun w5 w6 A' n' cap' k5 k6 h =>
          nmid (gg3.trans k5) k6 hwp hpq (HB3.out.gr k5) (HH3.out.gr k5) (HZ3.out.gr k5) (HY3.out.gr k5) (HM3.out.gr k5) h)
        clear hw4 hq B1 Z1 Y1 gg1 e4 e5 d0 d1 B2 Z2 Y2 gg2 a0 a1 b0 b1 B3 Z3 Y3 g1 g2' g2 g3' c0 c1
        go_cut [10] from 13 to 67 (fun v10 wx => ∃ (A' : Option Addr) (n' cap' : Nat), v10 = .int .i64 ee ∧ Sec (NMid w p q A m cap fs who key A' n' cap' u so ro n r mw ms gs wx))
        case first =>
          go_region_with (first
            | (go_at_call 51; (with_reducible refine Calls.mono (HSu.out w4.drew (g3.trans g4d)) ?_); rintro e w5 ⟨rfl, g5'⟩; have g5 : Gr w4 w5 := Gr.trans g4d g5'; obtain ⟨x2, x3, _, _⟩ := HSK.out w5 g5)
            | (go_at_call 50; (with_reducible refine Calls.mono (HSv2.out w5 (g3.trans g5)) ?_); rintro e w6 ⟨A', n', cap', rfl, g6', ha⟩; obtain ⟨y2, y3, y2f, y3f⟩ := HSK.out w6 (g5.trans g6')))
          all_goals (go_wp2_with fail; go_meet; exact ⟨A', n', cap', rfl, sec (HMID.out w5 w6 A' n' cap' g5 g6' ha)⟩)
        case rest =>
          obtain ⟨A', n', cap', rfl, HN⟩ := hcut
          by_cases h4 : ee = 0
          · rw [if_pos h4] at HR
            subst h4
            have k4 : wc.cell? ⟨p, 4, none⟩ = some (.int .i64 so) := HN.out.wit.cell 4
            have k5 : wc.cell? ⟨p, 5, none⟩ = some (.string (bs ro)) := HN.out.wit.cell 5
            have k4f : wc.frozen? ⟨p, 4, none⟩ = false := HN.out.wit.frozen 4
            have k5f : wc.frozen? ⟨p, 5, none⟩ = false := HN.out.wit.frozen 5
            have j0 : wc.cell? ⟨p + 1, 0, none⟩ = some (.int .i64 n) := HN.out.hd.cell 0
            have j1 : wc.cell? ⟨p + 1, 1, none⟩ = some (.string (bs r)) := HN.out.hd.cell 1
            go_wp2_with fail
            have XB : Blk ((wc.setCell ⟨p, 4, none⟩ (.int .i64 n)).setCell ⟨p, 5, none⟩ (.string (bs r))) p 28 (witA who key A' n' cap' u n r) := (HN.out.wit.set_ 4 (.int .i64 n)).set_ 5 (.string (bs r))
            have XZ := far2 HN.out.zw (show p + 1 + 1 ≠ p by omega) 4 5 (.int .i64 n) (.string (bs r))
            have XY := far2 HN.out.zm (show p + 1 + 1 + 1 ≠ p by omega) 4 5 (.int .i64 n) (.string (bs r))
            have XM := far2 HN.out.mb (show q ≠ p by omega) 4 5 (.int .i64 n) (.string (bs r))
            have XG := gr2 HN.out.gr hwp 4 5 (.int .i64 n) (.string (bs r))
            have XR : Sec (∀ i0 i1 i2 i3 i4 i5 i6 i7, Gr w ((((((((((wc.setCell ⟨p, 4, none⟩ (.int .i64 n)).setCell ⟨p, 5, none⟩ (.string (bs r))).setCell ⟨p + 1 + 1, 0, none⟩ i0).setCell ⟨p + 1 + 1, 1, none⟩ i1).setCell ⟨p + 1 + 1, 2, none⟩ i2).setCell ⟨p + 1 + 1, 3, none⟩ i3).setCell ⟨p + 1 + 1, 4, none⟩ i4).setCell ⟨p + 1 + 1, 5, none⟩ i5).setCell ⟨p + 1 + 1 + 1, 0, none⟩ i6).setCell ⟨p + 1 + 1 + 1, 1, none⟩ i7).drew → FRow ((((((((((wc.setCell ⟨p, 4, none⟩ (.int .i64 n)).setCell ⟨p, 5, none⟩ (.string (bs r))).setCell ⟨p + 1 + 1, 0, none⟩ i0).setCell ⟨p + 1 + 1, 1, none⟩ i1).setCell ⟨p + 1 + 1, 2, none⟩ i2).setCell ⟨p + 1 + 1, 3, none⟩ i3).setCell ⟨p + 1 + 1, 4, none⟩ i4).setCell ⟨p + 1 + 1, 5, none⟩ i5).setCell ⟨p + 1 + 1 + 1, 0, none⟩ i6).setCell ⟨p + 1 + 1 + 1, 1, none⟩ i7).drew A' n' gs) := sec (fun _ _ _ _ _ _ _ _ g => nalt_set HN.out.alt HX.out (by omega) (by omega) (by omega) g)
            obtain ⟨wy, hwy⟩ : ∃ x, x = (wc.setCell ⟨p, 4, none⟩ (.int .i64 n)).setCell ⟨p, 5, none⟩ (.string (bs r)) := ⟨_, rfl⟩
            rw [← hwy] at XB XZ XY XM XG XR
            rw [← hwy]
            have p0 : wy.cell? ⟨p, 0, none⟩ = some (.int .i64 who) := XB.cell 0
            have p1 : wy.cell? ⟨p, 1, none⟩ = some (.string (bs key)) := XB.cell 1
            have p2 : wy.cell? ⟨p, 2, none⟩ = some (.slice A' n' cap') := XB.cell 2
            have p3 : wy.cell? ⟨p, 3, none⟩ = some (.int .i64 u) := XB.cell 3
            have p4 : wy.cell? ⟨p, 4, none⟩ = some (.int .i64 n) := XB.cell 4
            have p5 : wy.cell? ⟨p, 5, none⟩ = some (.string (bs r)) := XB.cell 5
            have q0 : wy.cell? ⟨q, 0, none⟩ = some (.int .i64 mw) := XM.cell 0
            have q1 : wy.cell? ⟨q, 1, none⟩ = some (.string (bs ms)) := XM.cell 1
            have z0 : wy.frozen? ⟨p + 1 + 1, 0, none⟩ = false := XZ.frozen 0
            have z1 : wy.frozen? ⟨p + 1 + 1, 1, none⟩ = false := XZ.frozen 1
            have z2 : wy.frozen? ⟨p + 1 + 1, 2, none⟩ = false := XZ.frozen 2
            have z3 : wy.frozen? ⟨p + 1 + 1, 3, none⟩ = false := XZ.frozen 3
            have z4 : wy.frozen? ⟨p + 1 + 1, 4, none⟩ = false := XZ.frozen 4
            have z5 : wy.frozen? ⟨p + 1 + 1, 5, none⟩ = false := XZ.frozen 5
            have y0 : wy.frozen? ⟨p + 1 + 1 + 1, 0, none⟩ = false := XY.frozen 0
            have y1 : wy.frozen? ⟨p + 1 + 1 + 1, 1, none⟩ = false := XY.frozen 1
            have zc0 : wy.cell? ⟨p + 1 + 1, 0, none⟩ = some (.int .i64 0) := XZ.cell 0
            have zc1 : wy.cell? ⟨p + 1 + 1, 1, none⟩ = some (.string (bs [])) := XZ.cell 1
            have zc2 : wy.cell? ⟨p + 1 + 1, 2, none⟩ = some (.slice none 0 0) := XZ.cell 2
            have zc3 : wy.cell? ⟨p + 1 + 1, 3, none⟩ = some (.int .i64 0) := XZ.cell 3
            have zc4 : wy.cell? ⟨p + 1 + 1, 4, none⟩ = some (.int .i64 0) := XZ.cell 4
            have zc5 : wy.cell? ⟨p + 1 + 1, 5, none⟩ = some (.string (bs [])) := XZ.cell 5
            have yc0 : wy.cell? ⟨p + 1 + 1 + 1, 0, none⟩ = some (.int .i64 0) := XY.cell 0
            have yc1 : wy.cell? ⟨p + 1 + 1 + 1, 1, none⟩ = some (.string (bs [])) := XY.cell 1
            clear hwy k4 k5 k4f k5f j0 j1
            go_region
            go_wp2_with fail
            obtain ⟨E1, E2, E3⟩ := nmk_set (who := who) (key := key) (n := n') (cap := cap') (A := A') (f := u) (sz := n) (r := r) (mw := mw) (ms := ms) rfl rfl (show p + 1 + 1 ≠ p + 1 + 1 + 1 by omega) XZ XY
            refine bodyPost_ret (results_blk_blk_tmp rfl _ rfl rfl E1 aggWit E2 aggMark) rfl ?_
            have E4 := E3 w XG (by omega) (by omega)
            rw [HR.out]
            exact ⟨A', n', cap', rfl, XR.out _ _ _ _ _ _ _ _ E4, E4⟩
          · rw [if_neg h4] at HR
            have m0 : (ee != 0) = true := by simpa using h4
            go_wp2_with (first
              | (refine wpList_load_blk rfl 28 (.tmp 3) rfl (g := p) rfl HN.out.wit aggWit ?_)
              | (refine wpList_store_blk rfl 28 (.tmp 6) _ rfl (g := p + 1 + 1) rfl rfl HN.out.zw aggWit rfl (witA_one _ _ _ _ _ _ _ _) ?_; intro x2 hx2 hxg2)
              | (refine wpList_store_blk rfl 37 (.tmp 7) _ rfl (g := p + 1 + 1 + 1) (cs' := markC 0 []) rfl rfl (HN.out.zm.only hxg2 (by omega)) aggMark rfl (markC_one _ _) ?_; intro x3 hx3 hxg3))
            refine bodyPost_ret (results_blk_blk_tmp rfl _ rfl rfl (hx2.only hxg3 (by omega)) aggWit hx3 aggMark) rfl ?_
            have G3 : Gr w x3 := Gr.only (Gr.only HN.out.gr hxg2 (by omega)) hxg3 (by omega)
            rw [HR.out]
            exact ⟨A', n', cap', rfl, nalt_only HN.out.alt HX.out G3 hxg2 hxg3 (by omega) (by omega), G3⟩
      · rw [if_neg h3]
        have m0 : (me != 0) = true := by simpa using h3
        clear HSu HSv2 hcat
        go_enter Tryd.func23, Tryd.ntmps23
        go_wp2_with (first
          | (rw [← hwa, ← hp]; clear hwa hp; go_wp2_with fail)
          | (go_at_call 15; refine Calls.mono (HTx.out _) ?_; rintro e w1 ⟨rfl, g1⟩; have B1 := HB.out.gr g1; have Z1 := HZ.out.gr g1; have Y1 := HY.out.gr g1; have gg1 := hg0.trans g1; obtain ⟨e4, e5, d0, d1⟩ := HC.out w1 g1)
          | (go_at_call 49; refine Calls.mono (HFo.out _ g1) ?_; rintro e w2 ⟨rfl, g2'⟩; have g2 := g1.trans g2'; have B2 := HB.out.gr g2; have Z2 := HZ.out.gr g2; have Y2 := HY.out.gr g2; have gg2 := hg0.trans g2; obtain ⟨a0, a1, b0, b1⟩ := HC2.out w2 g2)
          | (go_at_call 12; refine Calls.mono (HMk.out _ g2) ?_; rintro e w3 ⟨rfl, g3'⟩; have g3 := (g2.trans g3').alloc (.cells #[.int .i64 mw, .string (bs ms)] 37); have B3 := HB.out.gr g3; have Z3 := HZ.out.gr g3; have Y3 := HY.out.gr g3; have gg3 := hg0.trans g3)
          | (refine wpList_load_blk rfl 28 (.tmp 3) rfl (g := p) rfl B3 aggWit ?_)
          | (refine wpList_store_blk rfl 28 (.tmp 6) _ rfl (g := p + 1 + 1) rfl rfl Z3 aggWit rfl (witA_one _ _ _ _ _ _ _ _) ?_; intro x2 hx2 hxg2)
          | (refine wpList_store_blk rfl 37 (.tmp 7) _ rfl (g := p + 1 + 1 + 1) (cs' := markC 0 []) rfl rfl (Y3.only hxg2 (by omega)) aggMark rfl (markC_one _ _) ?_; intro x3 hx3 hxg3))
        refine bodyPost_ret (results_blk_blk_tmp rfl _ rfl rfl (hx2.only hxg3 (by omega)) aggWit hx3 aggMark) rfl ?_
        have G3 : Gr w x3 := Gr.only (Gr.only gg3 hxg2 (by omega)) hxg3 (by omega)
        exact ⟨A, m, cap, rfl, HX.out.gr G3, G3⟩
    · rw [if_neg h2]
      have m0 : (fe != 0) = true := by simpa using h2
      clear HSu HSv2 hcat HMk
      go_enter Tryd.func23, Tryd.ntmps23
      go_wp2_with (first
        | (rw [← hwa, ← hp]; clear hwa hp; go_wp2_with fail)
        | (go_at_call 15; refine Calls.mono (HTx.out _) ?_; rintro e w1 ⟨rfl, g1⟩; have B1 := HB.out.gr g1; have Z1 := HZ.out.gr g1; have Y1 := HY.out.gr g1; have gg1 := hg0.trans g1; obtain ⟨e4, e5, d0, d1⟩ := HC.out w1 g1)
        | (go_at_call 49; refine Calls.mono (HFo.out _ g1) ?_; rintro e w2 ⟨rfl, g2'⟩; have g2 := g1.trans g2'; have B2 := HB.out.gr g2; have Z2 := HZ.out.gr g2; have Y2 := HY.out.gr g2; have gg2 := hg0.trans g2; obtain ⟨a0, a1, b0, b1⟩ := HC2.out w2 g2)
        | (refine wpList_load_blk rfl 28 (.tmp 3) rfl (g := p) rfl B2 aggWit ?_)
        | (refine wpList_store_blk rfl 28 (.tmp 6) _ rfl (g := p + 1 + 1) rfl rfl Z2 aggWit rfl (witA_one _ _ _ _ _ _ _ _) ?_; intro x2 hx2 hxg2)
        | (refine wpList_store_blk rfl 37 (.tmp 7) _ rfl (g := p + 1 + 1 + 1) (cs' := markC 0 []) rfl rfl (Y2.only hxg2 (by omega)) aggMark rfl (markC_one _ _) ?_; intro x3 hx3 hxg3))
      refine bodyPost_ret (results_blk_blk_tmp rfl _ rfl rfl (hx2.only hxg3 (by omega)) aggWit hx3 aggMark) rfl ?_
      have G3 : Gr w x3 := Gr.only (Gr.only gg2 hxg2 (by omega)) hxg3 (by omega)
      exact ⟨A, m, cap, rfl, HX.out.gr G3, G3⟩
  · rw [if_neg h1]
    have m0 : (te != 0) = true := by simpa using h1
    clear HSu HSv2 hcat HFo HMk
    go_enter Tryd.func23, Tryd.ntmps23
    go_wp2_with (first
      | (rw [← hwa, ← hp]; clear hwa hp; go_wp2_with fail)
      | (go_at_call 15; refine Calls.mono (HTx.out _) ?_; rintro e w1 ⟨rfl, g1⟩; have B1 := HB.out.gr g1; have Z1 := HZ.out.gr g1; have Y1 := HY.out.gr g1; have gg1 := hg0.trans g1; obtain ⟨e4, e5, d0, d1⟩ := HC.out w1 g1)
      | (refine wpList_load_blk rfl 28 (.tmp 3) rfl (g := p) rfl B1 aggWit ?_)
      | (refine wpList_store_blk rfl 28 (.tmp 6) _ rfl (g := p + 1 + 1) rfl rfl Z1 aggWit rfl (witA_one _ _ _ _ _ _ _ _) ?_; intro x2 hx2 hxg2)
      | (refine wpList_store_blk rfl 37 (.tmp 7) _ rfl (g := p + 1 + 1 + 1) (cs' := markC 0 []) rfl rfl (Y1.only hxg2 (by omega)) aggMark rfl (markC_one _ _) ?_; intro x3 hx3 hxg3))
    refine bodyPost_ret (results_blk_blk_tmp rfl _ rfl rfl (hx2.only hxg3 (by omega)) aggWit hx3 aggMark) rfl ?_
    have G3 : Gr w x3 := Gr.only (Gr.only gg1 hxg2 (by omega)) hxg3 (by omega)
    exact ⟨A, m, cap, rfl, HX.out.gr G3, G3⟩
end Go.Proofs.YtbhpglhmnpcnkaaDoor

namespace Go.Proofs.YtbhpglhmnpcnkaaDoor
open Go.RowKit
set_option linter.unusedVariables false

set_option maxRecDepth 100000 in
set_option maxHeartbeats 4000000 in
theorem rsave_any (name s : List UInt8) (fs : List Fl) (A : Option Addr) (n cap : Nat) (f : Int) (w : World) (hx : FRow w A n fs) (hnc : n ≤ cap) (hA : A = none → n = 0 ∧ cap = 0) (hz : Sz fs)
    (hf : -9223372036854775808 ≤ f ∧ f ≤ 9223372036854775807) (hl1 : name.length ≤ 1048576) (hl2 : s.length ≤ 1099511627776) :
    Calls Tryd.prog 53 #[diskV A n cap f, .string (bs name), .string (bs s)] w (StepPost (saveR fs f name s) A n cap fs w) := by
  have hln := hx.len
  have hz1 := hz.1
  have hS0 : SaveSt w w.heap.size A n cap fs ((w.alloc (.cells #[.slice A n cap, .int .i64 f] 24)).alloc (.cells #[.slice none 0 0, .int .i64 0] 24)) A n cap f fs :=
    ⟨((Gr.refl w).alloc _).alloc _, (Blk.new w _ _).alloc _, Blk.new1 w _ _ _, hA, hnc, .inl ⟨rfl, rfl, rfl, rfl⟩⟩
  obtain ⟨wa, hwa⟩ : ∃ x, x = (w.alloc (.cells #[.slice A n cap, .int .i64 f] 24)).alloc (.cells #[.slice none 0 0, .int .i64 0] 24) := ⟨_, rfl⟩
  obtain ⟨p, hp⟩ : ∃ p, p = w.heap.size := ⟨_, rfl⟩
  rw [← hwa, ← hp] at hS0
  have HG := sec (drgood_any fs A n cap f wa (by omega) (hS0.row hx) hz.2)
  obtain ⟨dst, hdst⟩ : ∃ d, d = name ++ dotNew := ⟨_, rfl⟩
  have hdl : dst.length ≤ 1099511627776 := by rw [hdst, List.length_append]; simp only [dotNew, List.length_cons, List.length_nil]; omega
  have hbd : bs (name ++ [46, 110, 101, 119]) = bs dst := by rw [hdst]; rfl
  have HN1 := sec (fun w => fileName_any name w (by omega))
  have HN2 := sec (fun w => fileName_any dst w (by omega))
  have HP := sec hp
  have HX := sec hx
  have HZ := sec hz
  have HFU := sec hf
  have HL1 := sec (show name.length ≤ 1099511627776 by omega)
  have HL2 := sec hl2
  have HLD := sec hdl
  have HDST := sec hdst
  have S0 := sec hS0
  have hpp : p + 1 ≠ p := by omega
  have hl4 : ¬ 9223372036854775807 < name.length + 4 := by omega
  obtain ⟨x1, x2, x3, x4, x5, x6, x7, x8⟩ := hS0.facts
  unfold diskV at HG
  unfold diskV
  clear hx hA hz hz1 hf hl1 hl2 hdl hdst hnc hS0 hln
  cases hgf : goodFs fs with
  | false =>
    have HR : Sec (saveR fs f name s = (fs, f, 3)) := sec (by unfold saveR; rw [hgf]; rfl)
    rw [hgf] at HG
    clear hgf
    go_enter Tryd.func53, Tryd.ntmps53
    go_wp2_with (first | (rw [← hwa, ← hp]; clear hwa hp; go_wp2_with fail) | (go_at_call 57; refine Calls.mono HG.out ?_; rintro e w1 ⟨rfl, g1⟩; have S1 := sec (S0.out.gr g1); obtain ⟨x1, x2, x3, x4, x5, x6, x7, x8⟩ := S1.out.facts))
    obtain ⟨hb9, hg9, hn9, ha9⟩ := S1.out.done HP.out
    refine bodyPost_ret (results_blk_tmp rfl _ rfl hb9 aggDisk) rfl ?_
    rw [HR.out]
    exact ⟨A, n, cap, rfl, hg9, hn9, ha9⟩
  | true =>
    rw [hgf] at HG
    cases hnb1 : namedB name with
    | false =>
      have HR : Sec (saveR fs f name s = (fs, f, 2)) := sec (by unfold saveR; rw [hgf, hnb1]; rfl)
      rw [hnb1] at HN1
      clear hgf hnb1
      go_enter Tryd.func53, Tryd.ntmps53
      go_wp2_with (first | (rw [← hwa, ← hp]; clear hwa hp; go_wp2_with fail) | (go_at_call 57; refine Calls.mono HG.out ?_; rintro e w1 ⟨rfl, g1⟩; have S1 := sec (S0.out.gr g1); obtain ⟨x1, x2, x3, x4, x5, x6, x7, x8⟩ := S1.out.facts) | (go_at_call 81; (with_reducible refine Calls.mono (HN1.out _) ?_); rintro e w2 ⟨rfl, g2⟩; have S2 := sec (S1.out.gr g2); obtain ⟨x1, x2, x3, x4, x5, x6, x7, x8⟩ := S2.out.facts))
      obtain ⟨hb9, hg9, hn9, ha9⟩ := S2.out.done HP.out
      refine bodyPost_ret (results_blk_tmp rfl _ rfl hb9 aggDisk) rfl ?_
      rw [HR.out]
      exact ⟨A, n, cap, rfl, hg9, hn9, ha9⟩
    | true =>
      rw [hnb1] at HN1
      cases hnb2 : namedB dst with
      | false =>
        have HR : Sec (saveR fs f name s = (fs, f, 2)) := sec (by unfold saveR; rw [hgf, hnb1, ← HDST.out, hnb2]; rfl)
        rw [hnb2] at HN2
        clear hgf hnb1 hnb2
        go_enter Tryd.func53, Tryd.ntmps53
        go_wp2_with (first | (rw [← hwa, ← hp]; clear hwa hp; go_wp2_with fail) | (go_at_call 57; refine Calls.mono HG.out ?_; rintro e w1 ⟨rfl, g1⟩; have S1 := sec (S0.out.gr g1); obtain ⟨x1, x2, x3, x4, x5, x6, x7, x8⟩ := S1.out.facts) | (go_at_call 81; (with_reducible refine Calls.mono (HN1.out _) ?_); rintro e w2 ⟨rfl, g2⟩; have S2 := sec (S1.out.gr g2); obtain ⟨x1, x2, x3, x4, x5, x6, x7, x8⟩ := S2.out.facts) | (go_at_call 81; (with_reducible refine Calls.mono (HN2.out _) ?_); rintro e w3 ⟨rfl, g3⟩; have S3 := sec (S2.out.gr g3); obtain ⟨x1, x2, x3, x4, x5, x6, x7, x8⟩ := S3.out.facts))
        obtain ⟨hb9, hg9, hn9, ha9⟩ := S3.out.done HP.out
        refine bodyPost_ret (results_blk_tmp rfl _ rfl hb9 aggDisk) rfl ?_
        rw [HR.out]
        exact ⟨A, n, cap, rfl, hg9, hn9, ha9⟩
      | true =>
        rw [hnb2] at HN2
        have HV : Sec (saveR fs f name s = save3 fs f name s) := sec (by unfold saveR; rw [hgf, hnb1, ← HDST.out, hnb2]; rfl)
        have HSO := sec (goodFs_sorted hgf)
        clear hgf hnb1 hnb2
        cases hhf : hasF dst fs with
        | false =>
          have HHB := sec hhf
          have HAI : Sec (atI dst fs = -1) := sec (by unfold atI; rw [hhf]; rfl)
          have HHF : Sec (hasF dst fs = false) := sec hhf
          clear hhf
          have Z1 := HZ
          have U1 := HFU
          have HQ0 : Sec (save0 fs f name = (fs, f, 0)) := sec (by unfold save0; rw [← HDST.out, HHB.out]; rfl)
          obtain ⟨⟨gs1, u1, er1⟩, hr1⟩ : ∃ x, x = stepR (wrF dst s) fs f := ⟨_, rfl⟩
          have R1 := sec hr1
          have HQ1 : Sec (save1 fs f name s = (gs1, u1, er1)) := sec (by unfold save1; rw [HQ0.out, if_pos rfl, ← HDST.out, R1.out])
          have Z2 : Sec (Sz gs1) := sec (by have := stepR_sz (F := wrF dst s) (wrF_sz dst s HLD.out) f Z1.out; rwa [← hr1] at this)
          have U2 : Sec (-9223372036854775808 ≤ u1 ∧ u1 ≤ 9223372036854775807) := sec (by have := stepR_fuse (F := wrF dst s) (fs := fs) U1.out; rwa [← hr1] at this)
          have HO1 : Sec (∀ w A n cap, FRow w A n fs → n ≤ cap → (A = none → n = 0 ∧ cap = 0) → Calls Tryd.prog 83 #[.int .i64 0, diskV A n cap f, .string (bs dst), .string (bs s)] w (StepPost (gs1, u1, er1) A n cap fs w)) := sec (fun w A n cap h hc hA => by
            rw [R1.out]; exact do0_any dst s fs A n cap f w (by have := h.len; have := Z1.out.1; omega) hc h hA Z1.out.2 U1.out HLD.out HL2.out)
          unfold StepPost diskV at HO1
          clear hr1
          by_cases he1 : er1 = 0
          · subst he1
            obtain ⟨⟨gs2, u2, er2⟩, hr2⟩ : ∃ x, x = stepR (syF dst) gs1 u1 := ⟨_, rfl⟩
            have R2 := sec hr2
            have HQ2 : Sec (save2 fs f name s = (gs2, u2, er2)) := sec (by unfold save2; rw [HQ1.out, if_pos rfl, ← HDST.out, R2.out])
            have Z3 : Sec (Sz gs2) := sec (by have := stepR_sz (F := syF dst) (syF_sz dst) u1 Z2.out; rwa [← hr2] at this)
            have U3 : Sec (-9223372036854775808 ≤ u2 ∧ u2 ≤ 9223372036854775807) := sec (by have := stepR_fuse (F := syF dst) (fs := gs1) U2.out; rwa [← hr2] at this)
            have HO2 : Sec (∀ w A n cap, FRow w A n gs1 → n ≤ cap → (A = none → n = 0 ∧ cap = 0) → Calls Tryd.prog 83 #[.int .i64 1, diskV A n cap u1, .string (bs dst), .string (bs [])] w (StepPost (gs2, u2, er2) A n cap gs1 w)) := sec (fun w A n cap h hc hA => by
              rw [R2.out]; exact do1_any dst [] gs1 A n cap u1 w (by have := h.len; have := Z2.out.1; omega) hc h hA Z2.out.2 U2.out HLD.out (by simp))
            unfold StepPost diskV at HO2
            clear hr2
            by_cases he2 : er2 = 0
            · subst he2
              obtain ⟨⟨gs3, u3, er3⟩, hr3⟩ : ∃ x, x = stepR (rnF dst name) gs2 u2 := ⟨_, rfl⟩
              have R3 := sec hr3
              have HQ3 : Sec (save3 fs f name s = (gs3, u3, er3)) := sec (by unfold save3; rw [HQ2.out, if_pos rfl, ← HDST.out, R3.out])
              have Z4 : Sec (Sz gs3) := sec (by have := stepR_sz (F := rnF dst name) (rnF_sz dst name HL1.out) u2 Z3.out; rwa [← hr3] at this)
              have U4 : Sec (-9223372036854775808 ≤ u3 ∧ u3 ≤ 9223372036854775807) := sec (by have := stepR_fuse (F := rnF dst name) (fs := gs2) U3.out; rwa [← hr3] at this)
              have HO3 : Sec (∀ w A n cap, FRow w A n gs2 → n ≤ cap → (A = none → n = 0 ∧ cap = 0) → Calls Tryd.prog 83 #[.int .i64 2, diskV A n cap u2, .string (bs dst), .string (bs name)] w (StepPost (gs3, u3, er3) A n cap gs2 w)) := sec (fun w A n cap h hc hA => by
                rw [R3.out]; exact do2_any dst name gs2 A n cap u2 w (by have := h.len; have := Z3.out.1; omega) hc h hA Z3.out.2 U3.out HLD.out HL1.out)
              unfold StepPost diskV at HO3
              clear hr3
              have HR : Sec (saveR fs f name s = (gs3, u3, er3)) := sec (by rw [HV.out]; rw [HQ3.out])
              go_enter Tryd.func53, Tryd.ntmps53
              go_wp2_with (first | (rw [← hwa, ← hp]; clear hwa hp; go_wp2_with fail) | (go_at_call 57; refine Calls.mono HG.out ?_; rintro e w1 ⟨rfl, g1⟩; have S1 := sec (S0.out.gr g1); obtain ⟨x1, x2, x3, x4, x5, x6, x7, x8⟩ := S1.out.facts) | (go_at_call 81; (with_reducible refine Calls.mono (HN1.out _) ?_); rintro e w2 ⟨rfl, g2⟩; have S2 := sec (S1.out.gr g2); obtain ⟨x1, x2, x3, x4, x5, x6, x7, x8⟩ := S2.out.facts) | (go_at_call 81; (with_reducible refine Calls.mono (HN2.out _) ?_); rintro e w3 ⟨rfl, g3⟩; have S3 := sec (S2.out.gr g3); obtain ⟨x1, x2, x3, x4, x5, x6, x7, x8⟩ := S3.out.facts) | (go_at_call 82; refine Calls.mono (at_any fs dst A n cap f w3 (by have := FRow.len HX.out; have := HZ.out.1; omega) (S3.out.row HX.out) HSO.out) ?_; rw [HAI.out]; rintro e w4 ⟨rfl, g4⟩; have S4 := sec (S3.out.gr g4); obtain ⟨x1, x2, x3, x4, x5, x6, x7, x8⟩ := S4.out.facts) | (go_at_call 83; (with_reducible refine Calls.mono (HO1.out _ _ _ _ (S4.out.row HX.out) S4.out.le S4.out.nil) ?_); rintro e w6 ⟨A6, n6, cap6, rfl, g6, hA1, hal1⟩; obtain ⟨x1, x2, x3, x4, x5, x6, x7, x8⟩ := (S4.out.gr g6).facts; have T1 := sec (S4.out.next (gs := gs1) (u := u1) HP.out g6 hA1 hal1)) | (go_at_call 83; (with_reducible refine Calls.mono (HO2.out _ _ _ _ (T1.out.row HX.out) T1.out.le T1.out.nil) ?_); rintro e w7 ⟨A7, n7, cap7, rfl, g7, hA2, hal2⟩; obtain ⟨x1, x2, x3, x4, x5, x6, x7, x8⟩ := (T1.out.gr g7).facts; have T2 := sec (T1.out.next (gs := gs2) (u := u2) HP.out g7 hA2 hal2)) | (go_at_call 83; (with_reducible refine Calls.mono (HO3.out _ _ _ _ (T2.out.row HX.out) T2.out.le T2.out.nil) ?_); rintro e w8 ⟨A8, n8, cap8, rfl, g8, hA3, hal3⟩; obtain ⟨x1, x2, x3, x4, x5, x6, x7, x8⟩ := (T2.out.gr g8).facts; have T3 := sec (T2.out.next (gs := gs3) (u := u3) HP.out g8 hA3 hal3)))
              obtain ⟨hb9, hg9, hn9, ha9⟩ := T3.out.done HP.out
              refine bodyPost_ret (results_blk_tmp rfl _ rfl hb9 aggDisk) rfl ?_
              rw [HR.out]
              exact ⟨A8, n8, cap8, rfl, hg9, hn9, ha9⟩
            · have HR : Sec (saveR fs f name s = (gs2, u2, er2)) := sec (by rw [HV.out]; unfold save3; rw [HQ2.out]; simp only [he2, if_false])
              go_enter Tryd.func53, Tryd.ntmps53
              go_wp2_with (first | (rw [← hwa, ← hp]; clear hwa hp; go_wp2_with fail) | (go_at_call 57; refine Calls.mono HG.out ?_; rintro e w1 ⟨rfl, g1⟩; have S1 := sec (S0.out.gr g1); obtain ⟨x1, x2, x3, x4, x5, x6, x7, x8⟩ := S1.out.facts) | (go_at_call 81; (with_reducible refine Calls.mono (HN1.out _) ?_); rintro e w2 ⟨rfl, g2⟩; have S2 := sec (S1.out.gr g2); obtain ⟨x1, x2, x3, x4, x5, x6, x7, x8⟩ := S2.out.facts) | (go_at_call 81; (with_reducible refine Calls.mono (HN2.out _) ?_); rintro e w3 ⟨rfl, g3⟩; have S3 := sec (S2.out.gr g3); obtain ⟨x1, x2, x3, x4, x5, x6, x7, x8⟩ := S3.out.facts) | (go_at_call 82; refine Calls.mono (at_any fs dst A n cap f w3 (by have := FRow.len HX.out; have := HZ.out.1; omega) (S3.out.row HX.out) HSO.out) ?_; rw [HAI.out]; rintro e w4 ⟨rfl, g4⟩; have S4 := sec (S3.out.gr g4); obtain ⟨x1, x2, x3, x4, x5, x6, x7, x8⟩ := S4.out.facts) | (go_at_call 83; (with_reducible refine Calls.mono (HO1.out _ _ _ _ (S4.out.row HX.out) S4.out.le S4.out.nil) ?_); rintro e w6 ⟨A6, n6, cap6, rfl, g6, hA1, hal1⟩; obtain ⟨x1, x2, x3, x4, x5, x6, x7, x8⟩ := (S4.out.gr g6).facts; have T1 := sec (S4.out.next (gs := gs1) (u := u1) HP.out g6 hA1 hal1)) | (go_at_call 83; (with_reducible refine Calls.mono (HO2.out _ _ _ _ (T1.out.row HX.out) T1.out.le T1.out.nil) ?_); rintro e w7 ⟨A7, n7, cap7, rfl, g7, hA2, hal2⟩; obtain ⟨x1, x2, x3, x4, x5, x6, x7, x8⟩ := (T1.out.gr g7).facts; have T2 := sec (T1.out.next (gs := gs2) (u := u2) HP.out g7 hA2 hal2)))
              obtain ⟨hb9, hg9, hn9, ha9⟩ := T2.out.done HP.out
              refine bodyPost_ret (results_blk_tmp rfl _ rfl hb9 aggDisk) rfl ?_
              rw [HR.out]
              exact ⟨A7, n7, cap7, rfl, hg9, hn9, ha9⟩
          · have HR : Sec (saveR fs f name s = (gs1, u1, er1)) := sec (by rw [HV.out]; unfold save3; unfold save2; rw [HQ1.out]; simp only [he1, if_false])
            go_enter Tryd.func53, Tryd.ntmps53
            go_wp2_with (first | (rw [← hwa, ← hp]; clear hwa hp; go_wp2_with fail) | (go_at_call 57; refine Calls.mono HG.out ?_; rintro e w1 ⟨rfl, g1⟩; have S1 := sec (S0.out.gr g1); obtain ⟨x1, x2, x3, x4, x5, x6, x7, x8⟩ := S1.out.facts) | (go_at_call 81; (with_reducible refine Calls.mono (HN1.out _) ?_); rintro e w2 ⟨rfl, g2⟩; have S2 := sec (S1.out.gr g2); obtain ⟨x1, x2, x3, x4, x5, x6, x7, x8⟩ := S2.out.facts) | (go_at_call 81; (with_reducible refine Calls.mono (HN2.out _) ?_); rintro e w3 ⟨rfl, g3⟩; have S3 := sec (S2.out.gr g3); obtain ⟨x1, x2, x3, x4, x5, x6, x7, x8⟩ := S3.out.facts) | (go_at_call 82; refine Calls.mono (at_any fs dst A n cap f w3 (by have := FRow.len HX.out; have := HZ.out.1; omega) (S3.out.row HX.out) HSO.out) ?_; rw [HAI.out]; rintro e w4 ⟨rfl, g4⟩; have S4 := sec (S3.out.gr g4); obtain ⟨x1, x2, x3, x4, x5, x6, x7, x8⟩ := S4.out.facts) | (go_at_call 83; (with_reducible refine Calls.mono (HO1.out _ _ _ _ (S4.out.row HX.out) S4.out.le S4.out.nil) ?_); rintro e w6 ⟨A6, n6, cap6, rfl, g6, hA1, hal1⟩; obtain ⟨x1, x2, x3, x4, x5, x6, x7, x8⟩ := (S4.out.gr g6).facts; have T1 := sec (S4.out.next (gs := gs1) (u := u1) HP.out g6 hA1 hal1)))
            obtain ⟨hb9, hg9, hn9, ha9⟩ := T1.out.done HP.out
            refine bodyPost_ret (results_blk_tmp rfl _ rfl hb9 aggDisk) rfl ?_
            rw [HR.out]
            exact ⟨A6, n6, cap6, rfl, hg9, hn9, ha9⟩
        | true =>
          have HHB := sec hhf
          have HHF : Sec (hasF dst fs = true) := sec hhf
          obtain ⟨k, hk⟩ : ∃ k, k = lbF dst fs := ⟨_, rfl⟩
          have HAI : Sec (atI dst fs = (k : Int)) := sec (by unfold atI; rw [hhf, hk]; rfl)
          clear hhf hk
          have Z0 := HZ
          have U0 := HFU
          obtain ⟨⟨gs0, u0, er0⟩, hr0⟩ : ∃ x, x = stepR (rmF dst) fs f := ⟨_, rfl⟩
          have R0 := sec hr0
          have HQ0 : Sec (save0 fs f name = (gs0, u0, er0)) := sec (by unfold save0; rw [← HDST.out, HHB.out, if_pos rfl, R0.out])
          have Z1 : Sec (Sz gs0) := sec (by have := stepR_sz (F := rmF dst) (rmF_sz dst) f Z0.out; rwa [← hr0] at this)
          have U1 : Sec (-9223372036854775808 ≤ u0 ∧ u0 ≤ 9223372036854775807) := sec (by have := stepR_fuse (F := rmF dst) (fs := fs) U0.out; rwa [← hr0] at this)
          have HO0 : Sec (∀ w A n cap, FRow w A n fs → n ≤ cap → (A = none → n = 0 ∧ cap = 0) → Calls Tryd.prog 83 #[.int .i64 3, diskV A n cap f, .string (bs dst), .string (bs [])] w (StepPost (gs0, u0, er0) A n cap fs w)) := sec (fun w A n cap h hc hA => by
            rw [R0.out]; exact do3_any dst [] fs A n cap f w (by have := h.len; have := Z0.out.1; omega) hc h hA Z0.out.2 U0.out HLD.out (by simp))
          unfold StepPost diskV at HO0
          clear hr0
          by_cases he0 : er0 = 0
          · subst he0
            obtain ⟨⟨gs1, u1, er1⟩, hr1⟩ : ∃ x, x = stepR (wrF dst s) gs0 u0 := ⟨_, rfl⟩
            have R1 := sec hr1
            have HQ1 : Sec (save1 fs f name s = (gs1, u1, er1)) := sec (by unfold save1; rw [HQ0.out, if_pos rfl, ← HDST.out, R1.out])
            have Z2 : Sec (Sz gs1) := sec (by have := stepR_sz (F := wrF dst s) (wrF_sz dst s HLD.out) u0 Z1.out; rwa [← hr1] at this)
            have U2 : Sec (-9223372036854775808 ≤ u1 ∧ u1 ≤ 9223372036854775807) := sec (by have := stepR_fuse (F := wrF dst s) (fs := gs0) U1.out; rwa [← hr1] at this)
            have HO1 : Sec (∀ w A n cap, FRow w A n gs0 → n ≤ cap → (A = none → n = 0 ∧ cap = 0) → Calls Tryd.prog 83 #[.int .i64 0, diskV A n cap u0, .string (bs dst), .string (bs s)] w (StepPost (gs1, u1, er1) A n cap gs0 w)) := sec (fun w A n cap h hc hA => by
              rw [R1.out]; exact do0_any dst s gs0 A n cap u0 w (by have := h.len; have := Z1.out.1; omega) hc h hA Z1.out.2 U1.out HLD.out HL2.out)
            unfold StepPost diskV at HO1
            clear hr1
            by_cases he1 : er1 = 0
            · subst he1
              obtain ⟨⟨gs2, u2, er2⟩, hr2⟩ : ∃ x, x = stepR (syF dst) gs1 u1 := ⟨_, rfl⟩
              have R2 := sec hr2
              have HQ2 : Sec (save2 fs f name s = (gs2, u2, er2)) := sec (by unfold save2; rw [HQ1.out, if_pos rfl, ← HDST.out, R2.out])
              have Z3 : Sec (Sz gs2) := sec (by have := stepR_sz (F := syF dst) (syF_sz dst) u1 Z2.out; rwa [← hr2] at this)
              have U3 : Sec (-9223372036854775808 ≤ u2 ∧ u2 ≤ 9223372036854775807) := sec (by have := stepR_fuse (F := syF dst) (fs := gs1) U2.out; rwa [← hr2] at this)
              have HO2 : Sec (∀ w A n cap, FRow w A n gs1 → n ≤ cap → (A = none → n = 0 ∧ cap = 0) → Calls Tryd.prog 83 #[.int .i64 1, diskV A n cap u1, .string (bs dst), .string (bs [])] w (StepPost (gs2, u2, er2) A n cap gs1 w)) := sec (fun w A n cap h hc hA => by
                rw [R2.out]; exact do1_any dst [] gs1 A n cap u1 w (by have := h.len; have := Z2.out.1; omega) hc h hA Z2.out.2 U2.out HLD.out (by simp))
              unfold StepPost diskV at HO2
              clear hr2
              by_cases he2 : er2 = 0
              · subst he2
                obtain ⟨⟨gs3, u3, er3⟩, hr3⟩ : ∃ x, x = stepR (rnF dst name) gs2 u2 := ⟨_, rfl⟩
                have R3 := sec hr3
                have HQ3 : Sec (save3 fs f name s = (gs3, u3, er3)) := sec (by unfold save3; rw [HQ2.out, if_pos rfl, ← HDST.out, R3.out])
                have Z4 : Sec (Sz gs3) := sec (by have := stepR_sz (F := rnF dst name) (rnF_sz dst name HL1.out) u2 Z3.out; rwa [← hr3] at this)
                have U4 : Sec (-9223372036854775808 ≤ u3 ∧ u3 ≤ 9223372036854775807) := sec (by have := stepR_fuse (F := rnF dst name) (fs := gs2) U3.out; rwa [← hr3] at this)
                have HO3 : Sec (∀ w A n cap, FRow w A n gs2 → n ≤ cap → (A = none → n = 0 ∧ cap = 0) → Calls Tryd.prog 83 #[.int .i64 2, diskV A n cap u2, .string (bs dst), .string (bs name)] w (StepPost (gs3, u3, er3) A n cap gs2 w)) := sec (fun w A n cap h hc hA => by
                  rw [R3.out]; exact do2_any dst name gs2 A n cap u2 w (by have := h.len; have := Z3.out.1; omega) hc h hA Z3.out.2 U3.out HLD.out HL1.out)
                unfold StepPost diskV at HO3
                clear hr3
                have HR : Sec (saveR fs f name s = (gs3, u3, er3)) := sec (by rw [HV.out]; rw [HQ3.out])
                go_enter Tryd.func53, Tryd.ntmps53
                go_wp2_with (first | (rw [← hwa, ← hp]; clear hwa hp; go_wp2_with fail) | (go_at_call 57; refine Calls.mono HG.out ?_; rintro e w1 ⟨rfl, g1⟩; have S1 := sec (S0.out.gr g1); obtain ⟨x1, x2, x3, x4, x5, x6, x7, x8⟩ := S1.out.facts) | (go_at_call 81; (with_reducible refine Calls.mono (HN1.out _) ?_); rintro e w2 ⟨rfl, g2⟩; have S2 := sec (S1.out.gr g2); obtain ⟨x1, x2, x3, x4, x5, x6, x7, x8⟩ := S2.out.facts) | (go_at_call 81; (with_reducible refine Calls.mono (HN2.out _) ?_); rintro e w3 ⟨rfl, g3⟩; have S3 := sec (S2.out.gr g3); obtain ⟨x1, x2, x3, x4, x5, x6, x7, x8⟩ := S3.out.facts) | (go_at_call 82; refine Calls.mono (at_any fs dst A n cap f w3 (by have := FRow.len HX.out; have := HZ.out.1; omega) (S3.out.row HX.out) HSO.out) ?_; rw [HAI.out]; rintro e w4 ⟨rfl, g4⟩; have S4 := sec (S3.out.gr g4); obtain ⟨x1, x2, x3, x4, x5, x6, x7, x8⟩ := S4.out.facts) | (go_at_call 83; (with_reducible refine Calls.mono (HO0.out _ _ _ _ (S4.out.row HX.out) S4.out.le S4.out.nil) ?_); rintro e w5 ⟨A5, n5, cap5, rfl, g5, hA0, hal0⟩; obtain ⟨x1, x2, x3, x4, x5, x6, x7, x8⟩ := (S4.out.gr g5).facts; have T0 := sec (S4.out.next (gs := gs0) (u := u0) HP.out g5 hA0 hal0)) | (go_at_call 83; (with_reducible refine Calls.mono (HO1.out _ _ _ _ (T0.out.row HX.out) T0.out.le T0.out.nil) ?_); rintro e w6 ⟨A6, n6, cap6, rfl, g6, hA1, hal1⟩; obtain ⟨x1, x2, x3, x4, x5, x6, x7, x8⟩ := (T0.out.gr g6).facts; have T1 := sec (T0.out.next (gs := gs1) (u := u1) HP.out g6 hA1 hal1)) | (go_at_call 83; (with_reducible refine Calls.mono (HO2.out _ _ _ _ (T1.out.row HX.out) T1.out.le T1.out.nil) ?_); rintro e w7 ⟨A7, n7, cap7, rfl, g7, hA2, hal2⟩; obtain ⟨x1, x2, x3, x4, x5, x6, x7, x8⟩ := (T1.out.gr g7).facts; have T2 := sec (T1.out.next (gs := gs2) (u := u2) HP.out g7 hA2 hal2)) | (go_at_call 83; (with_reducible refine Calls.mono (HO3.out _ _ _ _ (T2.out.row HX.out) T2.out.le T2.out.nil) ?_); rintro e w8 ⟨A8, n8, cap8, rfl, g8, hA3, hal3⟩; obtain ⟨x1, x2, x3, x4, x5, x6, x7, x8⟩ := (T2.out.gr g8).facts; have T3 := sec (T2.out.next (gs := gs3) (u := u3) HP.out g8 hA3 hal3)))
                obtain ⟨hb9, hg9, hn9, ha9⟩ := T3.out.done HP.out
                refine bodyPost_ret (results_blk_tmp rfl _ rfl hb9 aggDisk) rfl ?_
                rw [HR.out]
                exact ⟨A8, n8, cap8, rfl, hg9, hn9, ha9⟩
              · have HR : Sec (saveR fs f name s = (gs2, u2, er2)) := sec (by rw [HV.out]; unfold save3; rw [HQ2.out]; simp only [he2, if_false])
                go_enter Tryd.func53, Tryd.ntmps53
                go_wp2_with (first | (rw [← hwa, ← hp]; clear hwa hp; go_wp2_with fail) | (go_at_call 57; refine Calls.mono HG.out ?_; rintro e w1 ⟨rfl, g1⟩; have S1 := sec (S0.out.gr g1); obtain ⟨x1, x2, x3, x4, x5, x6, x7, x8⟩ := S1.out.facts) | (go_at_call 81; (with_reducible refine Calls.mono (HN1.out _) ?_); rintro e w2 ⟨rfl, g2⟩; have S2 := sec (S1.out.gr g2); obtain ⟨x1, x2, x3, x4, x5, x6, x7, x8⟩ := S2.out.facts) | (go_at_call 81; (with_reducible refine Calls.mono (HN2.out _) ?_); rintro e w3 ⟨rfl, g3⟩; have S3 := sec (S2.out.gr g3); obtain ⟨x1, x2, x3, x4, x5, x6, x7, x8⟩ := S3.out.facts) | (go_at_call 82; refine Calls.mono (at_any fs dst A n cap f w3 (by have := FRow.len HX.out; have := HZ.out.1; omega) (S3.out.row HX.out) HSO.out) ?_; rw [HAI.out]; rintro e w4 ⟨rfl, g4⟩; have S4 := sec (S3.out.gr g4); obtain ⟨x1, x2, x3, x4, x5, x6, x7, x8⟩ := S4.out.facts) | (go_at_call 83; (with_reducible refine Calls.mono (HO0.out _ _ _ _ (S4.out.row HX.out) S4.out.le S4.out.nil) ?_); rintro e w5 ⟨A5, n5, cap5, rfl, g5, hA0, hal0⟩; obtain ⟨x1, x2, x3, x4, x5, x6, x7, x8⟩ := (S4.out.gr g5).facts; have T0 := sec (S4.out.next (gs := gs0) (u := u0) HP.out g5 hA0 hal0)) | (go_at_call 83; (with_reducible refine Calls.mono (HO1.out _ _ _ _ (T0.out.row HX.out) T0.out.le T0.out.nil) ?_); rintro e w6 ⟨A6, n6, cap6, rfl, g6, hA1, hal1⟩; obtain ⟨x1, x2, x3, x4, x5, x6, x7, x8⟩ := (T0.out.gr g6).facts; have T1 := sec (T0.out.next (gs := gs1) (u := u1) HP.out g6 hA1 hal1)) | (go_at_call 83; (with_reducible refine Calls.mono (HO2.out _ _ _ _ (T1.out.row HX.out) T1.out.le T1.out.nil) ?_); rintro e w7 ⟨A7, n7, cap7, rfl, g7, hA2, hal2⟩; obtain ⟨x1, x2, x3, x4, x5, x6, x7, x8⟩ := (T1.out.gr g7).facts; have T2 := sec (T1.out.next (gs := gs2) (u := u2) HP.out g7 hA2 hal2)))
                obtain ⟨hb9, hg9, hn9, ha9⟩ := T2.out.done HP.out
                refine bodyPost_ret (results_blk_tmp rfl _ rfl hb9 aggDisk) rfl ?_
                rw [HR.out]
                exact ⟨A7, n7, cap7, rfl, hg9, hn9, ha9⟩
            · have HR : Sec (saveR fs f name s = (gs1, u1, er1)) := sec (by rw [HV.out]; unfold save3; unfold save2; rw [HQ1.out]; simp only [he1, if_false])
              go_enter Tryd.func53, Tryd.ntmps53
              go_wp2_with (first | (rw [← hwa, ← hp]; clear hwa hp; go_wp2_with fail) | (go_at_call 57; refine Calls.mono HG.out ?_; rintro e w1 ⟨rfl, g1⟩; have S1 := sec (S0.out.gr g1); obtain ⟨x1, x2, x3, x4, x5, x6, x7, x8⟩ := S1.out.facts) | (go_at_call 81; (with_reducible refine Calls.mono (HN1.out _) ?_); rintro e w2 ⟨rfl, g2⟩; have S2 := sec (S1.out.gr g2); obtain ⟨x1, x2, x3, x4, x5, x6, x7, x8⟩ := S2.out.facts) | (go_at_call 81; (with_reducible refine Calls.mono (HN2.out _) ?_); rintro e w3 ⟨rfl, g3⟩; have S3 := sec (S2.out.gr g3); obtain ⟨x1, x2, x3, x4, x5, x6, x7, x8⟩ := S3.out.facts) | (go_at_call 82; refine Calls.mono (at_any fs dst A n cap f w3 (by have := FRow.len HX.out; have := HZ.out.1; omega) (S3.out.row HX.out) HSO.out) ?_; rw [HAI.out]; rintro e w4 ⟨rfl, g4⟩; have S4 := sec (S3.out.gr g4); obtain ⟨x1, x2, x3, x4, x5, x6, x7, x8⟩ := S4.out.facts) | (go_at_call 83; (with_reducible refine Calls.mono (HO0.out _ _ _ _ (S4.out.row HX.out) S4.out.le S4.out.nil) ?_); rintro e w5 ⟨A5, n5, cap5, rfl, g5, hA0, hal0⟩; obtain ⟨x1, x2, x3, x4, x5, x6, x7, x8⟩ := (S4.out.gr g5).facts; have T0 := sec (S4.out.next (gs := gs0) (u := u0) HP.out g5 hA0 hal0)) | (go_at_call 83; (with_reducible refine Calls.mono (HO1.out _ _ _ _ (T0.out.row HX.out) T0.out.le T0.out.nil) ?_); rintro e w6 ⟨A6, n6, cap6, rfl, g6, hA1, hal1⟩; obtain ⟨x1, x2, x3, x4, x5, x6, x7, x8⟩ := (T0.out.gr g6).facts; have T1 := sec (T0.out.next (gs := gs1) (u := u1) HP.out g6 hA1 hal1)))
              obtain ⟨hb9, hg9, hn9, ha9⟩ := T1.out.done HP.out
              refine bodyPost_ret (results_blk_tmp rfl _ rfl hb9 aggDisk) rfl ?_
              rw [HR.out]
              exact ⟨A6, n6, cap6, rfl, hg9, hn9, ha9⟩
          · have HR : Sec (saveR fs f name s = (gs0, u0, er0)) := sec (by rw [HV.out]; unfold save3; unfold save2; unfold save1; rw [HQ0.out]; simp only [he0, if_false])
            go_enter Tryd.func53, Tryd.ntmps53
            go_wp2_with (first | (rw [← hwa, ← hp]; clear hwa hp; go_wp2_with fail) | (go_at_call 57; refine Calls.mono HG.out ?_; rintro e w1 ⟨rfl, g1⟩; have S1 := sec (S0.out.gr g1); obtain ⟨x1, x2, x3, x4, x5, x6, x7, x8⟩ := S1.out.facts) | (go_at_call 81; (with_reducible refine Calls.mono (HN1.out _) ?_); rintro e w2 ⟨rfl, g2⟩; have S2 := sec (S1.out.gr g2); obtain ⟨x1, x2, x3, x4, x5, x6, x7, x8⟩ := S2.out.facts) | (go_at_call 81; (with_reducible refine Calls.mono (HN2.out _) ?_); rintro e w3 ⟨rfl, g3⟩; have S3 := sec (S2.out.gr g3); obtain ⟨x1, x2, x3, x4, x5, x6, x7, x8⟩ := S3.out.facts) | (go_at_call 82; refine Calls.mono (at_any fs dst A n cap f w3 (by have := FRow.len HX.out; have := HZ.out.1; omega) (S3.out.row HX.out) HSO.out) ?_; rw [HAI.out]; rintro e w4 ⟨rfl, g4⟩; have S4 := sec (S3.out.gr g4); obtain ⟨x1, x2, x3, x4, x5, x6, x7, x8⟩ := S4.out.facts) | (go_at_call 83; (with_reducible refine Calls.mono (HO0.out _ _ _ _ (S4.out.row HX.out) S4.out.le S4.out.nil) ?_); rintro e w5 ⟨A5, n5, cap5, rfl, g5, hA0, hal0⟩; obtain ⟨x1, x2, x3, x4, x5, x6, x7, x8⟩ := (S4.out.gr g5).facts; have T0 := sec (S4.out.next (gs := gs0) (u := u0) HP.out g5 hA0 hal0)))
            obtain ⟨hb9, hg9, hn9, ha9⟩ := T0.out.done HP.out
            refine bodyPost_ret (results_blk_tmp rfl _ rfl hb9 aggDisk) rfl ?_
            rw [HR.out]
            exact ⟨A5, n5, cap5, rfl, hg9, hn9, ha9⟩
end Go.Proofs.YtbhpglhmnpcnkaaDoor

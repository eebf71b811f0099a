/-
  Marks in a slice, keys and a sealed head as arguments by value; what a check of a sealed head answers. No program is walked.
-/
import Derived.Test.YtkgmimmneeppgaaDoorHMark
import Derived.Test.YtkgmimmneeppgaaDoorOpenSs
import Derived.Test.YtkgmimmneeppgaaDoorOpenDk
import Derived.Test.YtkgmimmneeppgaaDoorHeads
import Derived.Test.YtkgmimmneeppgaaDoorStrings
namespace Go.Proofs.YtkgmimmneeppgaaDoor
set_option maxRecDepth 100000
open Go.RowKit Go.ChangeShapes Go.WideShapes
set_option linter.unusedVariables false
/-! ### marks in a row -/
def markL (x : Int × List UInt8) : List Value := [.int .i64 x.1, .string (bs x.2)]
theorem E.mark : ElemOk 27 63 (.agg #[.int .i64 0, .string (bs [])]) 2 24 := ⟨Tryd.underlying27, by kernel_rfl, rfl, by omega⟩
theorem markL_one {fs : List (Int × List UInt8)} : ∀ u ∈ fs.flatMap markL, u.oneCell' = true := by
  intro u hu
  obtain ⟨f, _, h⟩ := List.mem_flatMap.1 hu
  simp only [markL, List.mem_cons, List.not_mem_nil, or_false] at h
  rcases h with rfl | rfl <;> rfl
def MRow (w : World) (A : Option Addr) (n : Nat) (ms : List (Int × List UInt8)) : Prop := Row w 2 A n (ms.flatMap markL)
theorem MRow.gr {w w' : World} {A : Option Addr} {n : Nat} {ms : List (Int × List UInt8)} (h : MRow w A n ms) (g : Gr w w') : MRow w' A n ms := Row.gr h g
theorem MRow.len {w : World} {A : Option Addr} {n : Nat} {ms : List (Int × List UInt8)} (h : MRow w A n ms) : ms.length = n := Row.flen markL (fun _ => rfl) (by omega) h
theorem MRow.cell {w : World} {A : Option Addr} {n : Nat} {ms : List (Int × List UInt8)} (h : MRow w A n ms) {i : Nat} (hi : i < ms.length) :
    ∃ b off, A = some ⟨b, off, none⟩ ∧ w.cell? ⟨b, off + i * 2, none⟩ = some (.int .i64 ms[i].1) ∧ w.cell? ⟨b, off + i * 2 + 1, none⟩ = some (.string (bs ms[i].2)) := by
  obtain ⟨b, off, e, _, hc⟩ := Row.fcell markL (fun _ => rfl) (by omega) h hi
  exact ⟨b, off, e, hc 0 _ rfl, hc 1 _ rfl⟩

/-! ### keys and a sealed head as arguments -/
def szMark (x : Int × List UInt8) : Nat := x.2.length + 1
theorem opens_mark (w : World) : Opens w 63 2 (fun cs (x : Int × List UInt8) => cs = markL x) szMark :=
  (opens_struct Tryd.underlying63 (by kernel_rfl) (opensF_cons rfl (opens_int Tryd.underlying3 (by kernel_rfl) w) (opensF_cons rfl (opens_string Tryd.underlying9 (by kernel_rfl) w) (opensF_nil w 2)))).map
    (fun a => (a.1, a.2.1)) (by
      rintro cs ⟨n, r, _⟩ ⟨c1, c2, rfl, _, h1, d1, d2, rfl, _, h2, h3⟩
      obtain ⟨h1, h1'⟩ := h1
      simp only [strR] at h1 h2
      simp only [nilR] at h3
      subst h1
      subst h2
      subst h3
      rfl) (by intro a; simp only [szMark]; omega)
structure StrsIn (w : World) (A : Option Addr) (c : Nat) (l : List (List UInt8)) : Prop where
  row : StrRow w A l.length l
  len : l.length ≤ 1048576
  size : ∀ x ∈ l, x.length ≤ 1048576
  cap : l.length ≤ c
  nil : A = none → l.length = 0 ∧ c = 0
def szStr (l : List UInt8) : Nat := l.length + 1
theorem strs_in {w : World} {A : Option Addr} {c : Nat} {l : List (List UInt8)} (hR : sliceR w 1 strR [.slice A l.length c] l) (hb : szs szStr l ≤ 1048576) : StrsIn w A c l := by
  obtain ⟨A', c', e', h1, h2, hrow⟩ := sliceR_row (k := 1) (fun l => [strV l]) (fun _ => rfl) (by omega) (fun ci x h => h) hR
  simp only [List.cons.injEq, and_true, Value.slice.injEq, true_and] at e'
  obtain ⟨rfl, rfl⟩ := e'
  obtain ⟨A2, c2, e2, _, h3, _⟩ := hR
  simp only [List.cons.injEq, and_true, Value.slice.injEq, true_and] at e2
  obtain ⟨rfl, rfl⟩ := e2
  have hl := szs_len szStr (fun x => Nat.succ_le_succ (Nat.zero_le _)) l
  rw [flat_single] at hrow
  refine ⟨hrow, by omega, fun x hx => ?_, h1, fun h => ?_⟩
  · have h5 := szs_mem szStr hx
    unfold szStr at h5 hb
    omega
  · have := h3.2 h
    omega
structure MarksIn (w : World) (A : Option Addr) (c : Nat) (l : List (Int × List UInt8)) : Prop where
  row : MRow w A l.length l
  len : l.length ≤ 1048576
  size : ∀ x ∈ l, x.2.length ≤ 1048576
  cap : l.length ≤ c
  nil : A = none → l.length = 0 ∧ c = 0
theorem marks_in {w : World} {A : Option Addr} {c : Nat} {l : List (Int × List UInt8)} (hR : sliceR w 2 (fun cs (x : Int × List UInt8) => cs = markL x) [.slice A l.length c] l) (hb : szs szMark l ≤ 1048576) : MarksIn w A c l := by
  obtain ⟨A', c', e', h1, h2, hrow⟩ := sliceR_row markL (fun _ => rfl) (by omega) (fun ci x h => h) hR
  simp only [List.cons.injEq, and_true, Value.slice.injEq, true_and] at e'
  obtain ⟨rfl, rfl⟩ := e'
  obtain ⟨A2, c2, e2, _, h3, _⟩ := hR
  simp only [List.cons.injEq, and_true, Value.slice.injEq, true_and] at e2
  obtain ⟨rfl, rfl⟩ := e2
  have hl := szs_len szMark (fun x => Nat.succ_le_succ (Nat.zero_le _)) l
  refine ⟨hrow, by omega, fun x hx => ?_, h1, fun h => ?_⟩
  · have h5 := szs_mem szMark hx
    unfold szMark at h5 hb
    omega
  · have := h3.2 h
    omega
def keysA (A : Option Addr) (n c : Nat) (B : Option Addr) (m d : Nat) (need : Int) : Array Value := #[.slice A n c, .slice B m d, .int .i64 need]
def sealA (n : Int) (r : List UInt8) (A : Option Addr) (k c : Nat) : Array Value := #[.int .i64 n, .string (bs r), .slice A k c]
theorem opens_keys (w : World) : Opens w 24 3 (fun cs (x : List (List UInt8) × List (List UInt8) × Int) => ∃ A c B d, cs = [.slice A x.1.length c, .slice B x.2.1.length d, .int .i64 x.2.2] ∧ sliceR w 1 strR [.slice A x.1.length c] x.1 ∧ sliceR w 1 strR [.slice B x.2.1.length d] x.2.1) (fun x => szs szStr x.1 + szs szStr x.2.1) :=
  (opens_struct Tryd.underlying24 (by kernel_rfl) (opensF_cons rfl (opens_slice Tryd.underlying22 (by kernel_rfl) (opens_string Tryd.underlying9 (by kernel_rfl) w) (by omega)) (opensF_cons rfl (opens_slice Tryd.underlying22 (by kernel_rfl) (opens_string Tryd.underlying9 (by kernel_rfl) w) (by omega)) (opensF_cons rfl (opens_int Tryd.underlying3 (by kernel_rfl) w) (opensF_nil w 3))))).map
    (fun a => (a.1, a.2.1, a.2.2.1)) (by
      rintro cs ⟨ss, ws, n, _⟩ ⟨c1, c2, rfl, _, h1, d1, d2, rfl, _, h2, e1, e2, rfl, _, h3, h4⟩
      have h1' := h1
      have h2' := h2
      obtain ⟨A, c, hc, _⟩ := h1
      obtain ⟨B, d, hd, _⟩ := h2
      simp only at hc hd
      subst hc
      subst hd
      obtain ⟨h5, _⟩ := h3
      simp only at h5
      subst h5
      simp only [nilR] at h4
      subst h4
      exact ⟨A, c, B, d, rfl, h1', h2'⟩) (by intro a; simp only; unfold szStr; omega)
theorem opens_sealed (w : World) : Opens w 29 3 (fun cs (x : (Int × List UInt8) × List (Int × List UInt8)) => ∃ A c, cs = [.int .i64 x.1.1, .string (bs x.1.2), .slice A x.2.length c] ∧ sliceR w 2 (fun cs (x : Int × List UInt8) => cs = markL x) [.slice A x.2.length c] x.2) (fun x => x.1.2.length + szs szMark x.2) :=
  (opens_struct Tryd.underlying29 (by kernel_rfl) (opensF_cons rfl (opens_headD w) (opensF_cons rfl (opens_slice Tryd.underlying27 (by kernel_rfl) (opens_mark w) (by omega)) (opensF_nil w 3)))).map
    (fun a => (a.1, a.2.1)) (by
      rintro cs ⟨⟨n, r⟩, ms, _⟩ ⟨c1, c2, rfl, _, h1, d1, d2, rfl, _, h2, h3⟩
      obtain ⟨h1, h1'⟩ := h1
      simp only at h1
      subst h1
      have h2' := h2
      obtain ⟨A, c, hc, _⟩ := h2
      simp only at hc
      subst hc
      simp only [nilR] at h3
      subst h3
      exact ⟨A, c, rfl, h2'⟩) (by intro a; simp only; omega)
theorem open_keys {w : World} {r : Reach} {base : Nat} {H : Type} {enc : TypeId × Value → H} {v : Value} {d : DataW H} {p : List MemPlace}
    (hv : Value.okWide Tryd.prog w r base 24 v) (hd : DataW.Trod enc Tryd.prog w 0 (fun _ => true) true 24 v d p) (hb : Rows.uptoBulk d ≤ 1048576) :
    ∃ A c B e need ss ws, v = .agg (keysA A (List.length ss) c B (List.length ws) e need) ∧ StrsIn w A c ss ∧ StrsIn w B e ws := by
  obtain ⟨cs, ⟨ss, ws, need⟩, rfl, ⟨A, c, B, e, hc, h1, h2⟩, hs⟩ := open_structD_arg Tryd.underlying24 (opens_keys w) hv hd
  simp only at hc h1 h2 hs
  refine ⟨A, c, B, e, need, ss, ws, ?_, strs_in h1 (by omega), strs_in h2 (by omega)⟩
  unfold keysA
  congr 1
  exact Array.toList_inj.1 hc
theorem open_sealed {w : World} {r : Reach} {base : Nat} {H : Type} {enc : TypeId × Value → H} {v : Value} {d : DataW H} {p : List MemPlace}
    (hv : Value.okWide Tryd.prog w r base 29 v) (hd : DataW.Trod enc Tryd.prog w 0 (fun _ => true) true 29 v d p) (hb : Rows.uptoBulk d ≤ 1048576) :
    ∃ n rt A c ms, v = .agg (sealA n rt A (List.length ms) c) ∧ MarksIn w A c ms ∧ rt.length ≤ 1048576 := by
  obtain ⟨cs, ⟨⟨n, rt⟩, ms⟩, rfl, ⟨A, c, hc, h1⟩, hs⟩ := open_structD_arg Tryd.underlying29 (opens_sealed w) hv hd
  simp only at hc h1 hs
  refine ⟨n, rt, A, c, ms, ?_, marks_in h1 (by omega), by omega⟩
  unfold sealA
  congr 1
  exact Array.toList_inj.1 hc

/-! ### P11.5 -/
/-- the marks behind a last one: the error -/
def ckM (ws : List (List UInt8)) (b : List UInt8) : Int → List (Int × List UInt8) → Int
  | _, [] => 0
  | last, (w, s) :: r => if w ≤ last ∨ 3 < w ∨ (ws.length : Int) ≤ w then 3 else if seal' (ws.getD w.toNat []) b = s then ckM ws b w r else 13
/-- P11.5: the error -/
def ckH (ws : List (List UInt8)) (n : Int) (r : List UInt8) (ms : List (Int × List UInt8)) : Int :=
  if (hdTxt n r).2 = 0 then (if ckM ws (hd4 ++ (hdTxt n r).1) (-1) ms = 0 then (if ms.length < 3 then 13 else 0) else ckM ws (hd4 ++ (hdTxt n r).1) (-1) ms) else (hdTxt n r).2
/-- where the loop stands: i marks seen, all of them right; the last one's number -/
def ckSeen (ws : List (List UInt8)) (b : List UInt8) (ms : List (Int × List UInt8)) (i : Nat) (last : Int) : Prop :=
  ckM ws b (-1) ms = ckM ws b last (ms.drop i) ∧ (i = 0 → last = -1) ∧ (∀ h : 0 < i ∧ i ≤ ms.length, last = (ms[i - 1]'(by omega)).1 ∧ 0 ≤ last)
theorem ckSeen0 (ws : List (List UInt8)) (b : List UInt8) (ms : List (Int × List UInt8)) : ckSeen ws b ms 0 (-1) := ⟨rfl, fun _ => rfl, fun h => absurd h.1 (by omega)⟩
theorem ckM_cons (ws : List (List UInt8)) (b : List UInt8) (last w : Int) (s : List UInt8) (r : List (Int × List UInt8)) :
    ckM ws b last ((w, s) :: r) = if w ≤ last ∨ 3 < w ∨ (ws.length : Int) ≤ w then 3 else if seal' (ws.getD w.toNat []) b = s then ckM ws b w r else 13 := rfl
theorem ckSeen.here {ws : List (List UInt8)} {b : List UInt8} {ms : List (Int × List UInt8)} {i : Nat} {last : Int} (h : ckSeen ws b ms i last) (hi : i < ms.length) :
    ckM ws b (-1) ms = if ms[i].1 ≤ last ∨ 3 < ms[i].1 ∨ (ws.length : Int) ≤ ms[i].1 then 3 else if seal' (ws.getD ms[i].1.toNat []) b = ms[i].2 then ckM ws b ms[i].1 (ms.drop (i + 1)) else 13 := by
  rw [h.1, List.drop_eq_getElem_cons hi]
  exact ckM_cons ..
theorem ckSeen.next {ws : List (List UInt8)} {b : List UInt8} {ms : List (Int × List UInt8)} {i : Nat} {last : Int} (h : ckSeen ws b ms i last) (hi : i < ms.length)
    (h1 : ¬ (ms[i].1 ≤ last ∨ 3 < ms[i].1 ∨ (ws.length : Int) ≤ ms[i].1)) (h2 : seal' (ws.getD ms[i].1.toNat []) b = ms[i].2) : ckSeen ws b ms (i + 1) ms[i].1 := by
  refine ⟨?_, fun e => absurd e (by omega), fun _ => ⟨rfl, ?_⟩⟩
  · rw [h.here hi, if_neg h1, if_pos h2]
  · have hl : -1 ≤ last := by
      by_cases e : i = 0
      · have := h.2.1 e; omega
      · have := (h.2.2 ⟨by omega, by omega⟩).2; omega
    omega
theorem ckSeen.done {ws : List (List UInt8)} {b : List UInt8} {ms : List (Int × List UInt8)} {i : Nat} {last : Int} (h : ckSeen ws b ms i last) (hi : ms.length ≤ i) : ckM ws b (-1) ms = 0 := by
  rw [h.1, List.drop_eq_nil_of_le hi]
  rfl
theorem ckSeen.low {ws : List (List UInt8)} {b : List UInt8} {ms : List (Int × List UInt8)} {i : Nat} {last : Int} (h : ckSeen ws b ms i last) (hi : i ≤ ms.length) : -1 ≤ last := by
  by_cases e : i = 0
  · have := h.2.1 e; omega
  · have := (h.2.2 ⟨by omega, by omega⟩).2; omega
end Go.Proofs.YtkgmimmneeppgaaDoor

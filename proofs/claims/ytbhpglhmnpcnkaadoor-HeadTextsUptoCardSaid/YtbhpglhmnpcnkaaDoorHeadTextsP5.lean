/-
  What the walk of cartularylaw.HeadTexts leans on, part 5 of 7: contracts and plain laws. No conditions.
-/
import Derived.Test.YtbhpglhmnpcnkaaDoorHeadTextsP1
import Derived.ProofKit
import Derived.OpenShut
import Derived.ChangeOld
import Derived.Test.YtbhpglhmnpcnkaaDoorHeadTextsP2
import Derived.Test.YtbhpglhmnpcnkaaDoorHeadTextsP4
namespace Go.Proofs.YtbhpglhmnpcnkaaDoor
set_option maxRecDepth 100000
open Go.RowKit Go.ChangeShapes Go.WideShapes

/-- a value of type t, k cells, reads as some a (R), of size sz a at most its bulk -/
structure Opens (w : World) (t : TypeId) (k : Nat) {α : Type} (R : List Value → α → Prop) (sz : α → Nat) : Prop where
  cells : Tryd.prog.cellsOf t = k
  open_ : ∀ {H : Type} (enc : TypeId × Value → H) (fuel : Nat) (cs : List Value) (x : DataW H × List MemPlace),
    DataW.trod enc Tryd.prog w 0 (fun _ => true) true fuel t cs = some x → cs.length = k ∧ ∃ a, R cs a ∧ sz a ≤ Rows.uptoBulk x.1

def intR (cs : List Value) (n : Int) : Prop := cs = [.int .i64 n] ∧ -9223372036854775808 ≤ n ∧ n ≤ 9223372036854775807
def strR (cs : List Value) (l : List UInt8) : Prop := cs = [.string (bs l)]
def boolR (cs : List Value) (b : Bool) : Prop := cs = [.bool b]
theorem opens_int {t : TypeId} (ht : Tryd.prog.underlying t = some (.int .i64)) (hc : Tryd.prog.cellsOf t = 1) (w : World) : Opens w t 1 intR (fun _ => 1) :=
  ⟨hc, fun enc fuel cs x h => by
    obtain ⟨n, rfl, rfl, hw⟩ := DataW.trod_int ht h
    exact ⟨rfl, n, ⟨rfl, by simpa [Lit.wf, IntKind.min, IntKind.max, IntKind.signed, IntKind.bits] using hw⟩, by simp [Rows.uptoBulk]⟩⟩
theorem opens_string {t : TypeId} (ht : Tryd.prog.underlying t = some .string) (hc : Tryd.prog.cellsOf t = 1) (w : World) : Opens w t 1 strR (fun l => l.length + 1) :=
  ⟨hc, fun enc fuel cs x h => by
    obtain ⟨s, rfl, rfl, _⟩ := DataW.trod_string ht h
    obtain ⟨l, rfl⟩ := bs_of s
    exact ⟨rfl, l, rfl, by simp [Rows.uptoBulk, bs_data]⟩⟩
theorem opens_bool {t : TypeId} (ht : Tryd.prog.underlying t = some .bool) (hc : Tryd.prog.cellsOf t = 1) (w : World) : Opens w t 1 boolR (fun _ => 1) :=
  ⟨hc, fun enc fuel cs x h => by
    obtain ⟨b, rfl, rfl⟩ := DataW.trod_bool ht h
    exact ⟨rfl, b, rfl, by simp [Rows.uptoBulk]⟩⟩

/-- the reading by other words -/
theorem Opens.map {w : World} {t : TypeId} {k : Nat} {α β : Type} {R : List Value → α → Prop} {sz : α → Nat} (h : Opens w t k R sz) {R' : List Value → β → Prop} {sz' : β → Nat} (f : α → β) (hR : ∀ cs a, R cs a → R' cs (f a)) (hs : ∀ a, sz' (f a) ≤ sz a) : Opens w t k R' sz' :=
  ⟨h.cells, fun enc fuel cs x hx => by
    obtain ⟨hl, a, ha, hb⟩ := h.open_ enc fuel cs x hx
    exact ⟨hl, f a, hR _ _ ha, Nat.le_trans (hs a) hb⟩⟩

/-! ### structs -/
structure OpensF (w : World) (fl : List Field) (off k : Nat) {β : Type} (R : List Value → β → Prop) (sz : β → Nat) : Prop where
  open_ : ∀ {H : Type} (enc : TypeId × Value → H) (n : Nat) (cs : List Value) (ys : List (DataW H × List MemPlace)), ys.length = fl.length →
    (∀ (i : Nat) (f : Field), fl[i]? = some f → DataW.trod enc Tryd.prog w 0 (fun _ => true) true n f.type ((cs.drop f.offset).take (Tryd.prog.cellsOf f.type)) = ys[i]?) →
    cs.length = off + k → ∃ b, R (cs.drop off) b ∧ sz b ≤ Rows.uptoBulkAll (ys.map (·.1))
def nilR (cs : List Value) (_ : Unit) : Prop := cs = []
def consR {α β : Type} (k : Nat) (R : List Value → α → Prop) (R' : List Value → β → Prop) (cs : List Value) (a : α × β) : Prop := ∃ c1 c2, cs = c1 ++ c2 ∧ c1.length = k ∧ R c1 a.1 ∧ R' c2 a.2
theorem opensF_nil (w : World) (off : Nat) : OpensF w [] off 0 nilR (fun _ => 0) :=
  ⟨fun enc n cs ys _ _ hl => ⟨(), List.drop_eq_nil_of_le (by omega), by simp⟩⟩
theorem opensF_cons {w : World} {f : Field} {fl : List Field} {off k k' : Nat} {α β : Type} {R : List Value → α → Prop} {sz : α → Nat} {R' : List Value → β → Prop} {sz' : β → Nat}
    (hf : f.offset = off) (h : Opens w f.type k R sz) (h' : OpensF w fl (off + k) k' R' sz') : OpensF w (f :: fl) off (k + k') (consR k R R') (fun a => sz a.1 + sz' a.2) :=
  ⟨fun enc n cs ys hy hat hl => by
    cases ys with
    | nil => simp at hy
    | cons y ys =>
      have h0 := hat 0 f rfl
      rw [hf, h.cells] at h0
      obtain ⟨hk, a, ha, hb⟩ := h.open_ enc n _ y h0
      obtain ⟨b, hb1, hb2⟩ := h'.open_ enc n cs ys (by simpa using hy) (fun i g hg => hat (i + 1) g (by simpa using hg)) (by omega)
      refine ⟨(a, b), ⟨(cs.drop off).take k, cs.drop (off + k), ?_, hk, ha, hb1⟩, ?_⟩
      · rw [← List.drop_drop]; exact (List.take_append_drop k _).symm
      · simp only [List.map_cons, Rows.uptoBulkAll]; omega⟩
theorem opens_struct {w : World} {t : TypeId} {fs : Array Field} {k : Nat} {β : Type} {R : List Value → β → Prop} {sz : β → Nat} (ht : Tryd.prog.underlying t = some (.struct fs)) (hc : Tryd.prog.cellsOf t = k) (h : OpensF w fs.toList 0 k R sz) : Opens w t k R (fun b => sz b + 1) :=
  ⟨hc, fun enc fuel cs x hx => by
    obtain ⟨xs, n, _, rfl, hl, hxl, hf⟩ := DataW.trod_struct ht hx
    obtain ⟨b, hb, hs⟩ := h.open_ enc n cs xs (by simpa using hxl) (fun i f hi => hf i f (by simpa using hi)) (by rw [hl, hc]; omega)
    exact ⟨hl.trans hc, b, by simpa using hb, by simp only [Rows.uptoBulk]; omega⟩⟩

/-! ### slices -/
def sliceR {α : Type} (w : World) (k : Nat) (R : List Value → α → Prop) (cs : List Value) (xs : List α) : Prop :=
  ∃ A c, cs = [.slice A xs.length c] ∧ xs.length ≤ c ∧ (c ≤ maxLen ∧ (A = none → c = 0)) ∧ (0 < xs.length → ∃ b off, A = some ⟨b, off, none⟩ ∧ ∀ i (h : i < xs.length), ∃ ci, R ci xs[i] ∧ ci.length = k ∧ ∀ j v, ci[j]? = some v → w.cell? ⟨b, off + i * k + j, none⟩ = some v)
def szs {α : Type} (sz : α → Nat) : List α → Nat
  | [] => 0
  | x :: r => sz x + szs sz r

theorem build_list {α : Type} (p : Nat → α → Prop) : ∀ n, (∀ i, i < n → ∃ a, p i a) → ∃ xs : List α, xs.length = n ∧ ∀ i (h : i < xs.length), p i xs[i]
  | 0, _ => ⟨[], rfl, fun i h => absurd h (by simp)⟩
  | n + 1, h => by
    obtain ⟨xs, hl, hx⟩ := build_list p n (fun i hi => h i (by omega))
    obtain ⟨a, ha⟩ := h n (by omega)
    refine ⟨xs ++ [a], by simp [hl], fun i hi => ?_⟩
    by_cases e : i < xs.length
    · rw [List.getElem_append_left e]; exact hx i e
    · have : i = n := by simp at hi; omega
      subst this
      rw [List.getElem_append_right (by omega)]
      simpa [hl] using ha
theorem szs_le {H α : Type} (sz : α → Nat) : ∀ (xs : List α) (ds : List (DataW H)), xs.length = ds.length → (∀ i (h : i < xs.length) (h' : i < ds.length), sz xs[i] ≤ Rows.uptoBulk ds[i]) → szs sz xs ≤ Rows.uptoBulkAll ds
  | [], [], _, _ => by simp [szs]
  | x :: xs, d :: ds, hl, h => by
    have h0 := h 0 (by simp) (by simp)
    have := szs_le sz xs ds (by simpa using hl) (fun i hi hi' => h (i + 1) (by simp; omega) (by simp; omega))
    simp only [szs, Rows.uptoBulkAll]
    simp at h0
    omega
  | [], _ :: _, hl, _ => by simp at hl
  | _ :: _, [], hl, _ => by simp at hl

theorem add_of_add (a : Addr) (i j : Nat) : (a.add i).add j = a.add (i + j) := by
  unfold Addr.add
  by_cases hi : i = 0 <;> by_cases hj : j = 0 <;> simp [hi, hj, Nat.add_assoc]
theorem add_spot {b off i : Nat} : (⟨b, off, none⟩ : Addr).add i = ⟨b, off + i, none⟩ := by unfold Addr.add; split <;> simp_all

theorem opens_slice {w : World} {t e : TypeId} {k : Nat} {α : Type} {R : List Value → α → Prop} {sz : α → Nat} (ht : Tryd.prog.underlying t = some (.slice e)) (hc : Tryd.prog.cellsOf t = 1) (h : Opens w e k R sz) (hk : 0 < k) :
    Opens w t 1 (sliceR w k R) (fun xs => szs sz xs + 1) :=
  ⟨hc, fun {H} enc fuel cs x hx => by
    rcases DataW.trod_slice ht hx with ⟨rfl, rfl⟩ | ⟨a, len, cap, elems, rest, n, _, rfl, rfl, _, hlc, hcm, hlen, hel, _, _⟩
    · exact ⟨rfl, [], ⟨none, 0, rfl, by simp, ⟨by simp [maxLen], fun _ => rfl⟩, fun h0 => absurd h0 (by simp)⟩, by simp [szs, Rows.uptoBulk]⟩
    · have hi : ∀ i, i < len → ∃ y : α × List Value, (∀ (h' : i < elems.length), sz y.1 ≤ Rows.uptoBulk (elems[i].1)) ∧ R y.2 y.1 ∧ y.2.length = k ∧ ∀ j v, y.2[j]? = some v → w.cell? (a.add (i * k + j)) = some v := by
        intro i hi
        have h1 := hel i hi
        have hil : i < elems.length := by omega
        rw [List.getElem?_eq_getElem hil, Option.bind_eq_some_iff] at h1
        obtain ⟨ci, hci, hti⟩ := h1
        obtain ⟨hl, y, hy, hs⟩ := h.open_ enc n ci _ hti
        rw [h.cells] at hci
        obtain ⟨_, _, hcell⟩ := World.cells?_some hci
        refine ⟨(y, ci), fun _ => hs, hy, hl, fun j v hv => ?_⟩
        have hj : j < k := by rw [← hl]; exact (List.getElem?_eq_some_iff.1 hv).1
        rw [← add_of_add, hcell j hj]; exact hv
      obtain ⟨ys, hyl, hys⟩ := build_list (fun i (y : α × List Value) => (∀ (h' : i < elems.length), sz y.1 ≤ Rows.uptoBulk (elems[i].1)) ∧ R y.2 y.1 ∧ y.2.length = k ∧ ∀ j v, y.2[j]? = some v → w.cell? (a.add (i * k + j)) = some v) len hi
      refine ⟨rfl, ys.map (·.1), ⟨some a, cap, by simp [hyl], by simp; omega, ⟨hcm, fun h => by cases h⟩, fun h0 => ?_⟩, ?_⟩
      · obtain ⟨b, off, spot⟩ := a
        have h00 := hys 0 (by simpa using h0)
        obtain ⟨_, _, hl0, hc0⟩ := h00
        have hv := hc0 0 _ (List.getElem?_eq_getElem (by rw [hl0]; exact hk))
        have hsp : spot = none := by simpa [Addr.add] using World.cell?_spot hv
        subst hsp
        refine ⟨b, off, rfl, fun i hi => ?_⟩
        have hi' : i < ys.length := by simpa using hi
        obtain ⟨_, hR, hl, hcell⟩ := hys i hi'
        refine ⟨ys[i].2, by simpa using hR, hl, fun j v hv => ?_⟩
        have := hcell j v hv
        rw [add_spot, ← Nat.add_assoc] at this
        exact this
      · simp only [Rows.uptoBulk]
        have := szs_le (H := H) sz (ys.map (·.1)) (elems.map (·.1)) (by simp; omega) (fun i hi hi' => by
          have hi2 : i < ys.length := by simpa using hi
          have := (hys i hi2).1 (by simpa using hi')
          simpa using this)
        omega⟩

/-- where an element's cells are told by it alone: a row -/
theorem sliceR_row {α : Type} {w : World} {k : Nat} {R : List Value → α → Prop} (f : α → List Value) (hf : ∀ x, (f x).length = k) (hk : 0 < k) (hR : ∀ ci x, R ci x → ci = f x) {cs : List Value} {xs : List α} (h : sliceR w k R cs xs) :
    ∃ A c, cs = [.slice A xs.length c] ∧ xs.length ≤ c ∧ c ≤ maxLen ∧ Row w k A xs.length (xs.flatMap f) := by
  obtain ⟨A, c, hcs, h1, h2, hat⟩ := h
  refine ⟨A, c, hcs, h1, h2.1, flat_len f k hf xs, fun hn => ?_⟩
  obtain ⟨b, off, e, hel⟩ := hat hn
  refine ⟨b, off, e, fun j v hv => ?_⟩
  have hjl : j < xs.length * k := by rw [← flat_len f k hf xs]; exact (List.getElem?_eq_some_iff.1 hv).1
  have hi : j / k < xs.length := (Nat.div_lt_iff_lt_mul hk).2 hjl
  have hr : j % k < k := Nat.mod_lt _ hk
  have ej : j / k * k + j % k = j := by rw [Nat.mul_comm]; exact Nat.div_add_mod j k
  obtain ⟨ci, hci, _, hcell⟩ := hel (j / k) hi
  rw [hR ci _ hci] at hcell
  rw [← ej, flat_at f k hf xs (j / k) hi (j % k) hr] at hv
  have := hcell (j % k) v hv
  rw [Nat.add_assoc, ej] at this
  exact this
theorem szs_len {α : Type} (sz : α → Nat) (h1 : ∀ x, 1 ≤ sz x) : ∀ xs : List α, xs.length ≤ szs sz xs
  | [] => by simp
  | x :: r => by have := szs_len sz h1 r; have := h1 x; simp only [szs, List.length_cons]; omega
theorem szs_mem {α : Type} (sz : α → Nat) {xs : List α} {x : α} (h : x ∈ xs) : sz x ≤ szs sz xs := by
  induction xs with
  | nil => cases h
  | cons y r ih =>
    simp only [szs]
    rcases List.mem_cons.1 h with rfl | h
    · omega
    · have := ih h; omega

/-! ### arguments -/
theorem open_arg {w : World} {t : TypeId} {k : Nat} {α : Type} {R : List Value → α → Prop} {sz : α → Nat} (h : Opens w t k R sz) {H : Type} {enc : TypeId × Value → H} {v : Value} {d : DataW H} {p : List MemPlace}
    (hd : DataW.Trod enc Tryd.prog w 0 (fun _ => true) true t v d p) : ∃ a, R v.cells.toList a ∧ sz a ≤ Rows.uptoBulk d ∧ v.cells.toList.length = k := by
  obtain ⟨fuel, hf⟩ := hd
  obtain ⟨hl, a, ha, hs⟩ := h.open_ enc fuel _ _ hf
  exact ⟨a, ha, hs, hl⟩
theorem open_slice_arg {w : World} {r : Reach} {base : Nat} {t e : TypeId} (ht : Tryd.prog.underlying t = some (.slice e)) {k : Nat} {α : Type} {R : List Value → α → Prop} {sz : List α → Nat} (h : Opens w t 1 (sliceR w k R) sz) {H : Type} {enc : TypeId × Value → H} {v : Value} {d : DataW H} {p : List MemPlace}
    (hv : Value.okWide Tryd.prog w r base t v) (hd : DataW.Trod enc Tryd.prog w 0 (fun _ => true) true t v d p) : ∃ A c xs, v = .slice A xs.length c ∧ sliceR w k R [.slice A xs.length c] xs ∧ sz xs ≤ Rows.uptoBulk d := by
  obtain ⟨a0, n0, c0, rfl⟩ := okWide_slice ht hv
  obtain ⟨xs, hR, hs, _⟩ := open_arg h hd
  have hR' := hR
  obtain ⟨A, c, hcs, _⟩ := hR
  have e : [Value.slice a0 n0 c0] = [.slice A xs.length c] := by simpa [Value.cells] using hcs
  simp only [List.cons.injEq, and_true] at e
  refine ⟨A, c, xs, e, ?_, hs⟩
  rw [← e]
  simpa [Value.cells] using hR'
end Go.Proofs.YtbhpglhmnpcnkaaDoor

namespace Go.Proofs.YtbhpglhmnpcnkaaDoor
set_option maxRecDepth 100000
open Go.RowKit Go.ChangeShapes Go.WideShapes

theorem open_structD_arg {w : World} {r : Reach} {base : Nat} {t : TypeId} {fs : Array Field} (ht : Tryd.prog.underlying t = some (.struct fs)) {k : Nat} {α : Type} {R : List Value → α → Prop} {sz : α → Nat} (h : Opens w t k R sz) {H : Type} {enc : TypeId × Value → H} {v : Value} {d : DataW H} {p : List MemPlace}
    (hv : Value.okWide Tryd.prog w r base t v) (hd : DataW.Trod enc Tryd.prog w 0 (fun _ => true) true t v d p) : ∃ cs a, v = .agg cs ∧ R cs.toList a ∧ sz a ≤ Rows.uptoBulk d := by
  obtain ⟨cs, rfl, _⟩ := okWide_struct ht hv
  obtain ⟨a, ha, hs, _⟩ := open_arg h hd
  exact ⟨cs, a, rfl, by simpa [Value.cells] using ha, hs⟩
def szFile (f : Fl) : Nat := f.1.length + 1 + (f.2.1.length + 1 + (f.2.2.length + 1))
theorem opens_file (w : World) : Opens w 87 3 (fun cs (x : Fl) => cs = fileC x) szFile :=
  (opens_struct Tryd.underlying87 (by kernel_rfl) (opensF_cons rfl (opens_string Tryd.underlying9 (by kernel_rfl) w) (opensF_cons rfl (opens_string Tryd.underlying9 (by kernel_rfl) w) (opensF_cons rfl (opens_string Tryd.underlying9 (by kernel_rfl) w) (opensF_nil w 3))))).map
    (fun a => (a.1, a.2.1, a.2.2.1)) (by
      rintro cs ⟨a, b, c, _⟩ ⟨c1, c2, rfl, _, h1, d1, d2, rfl, _, h2, e1, e2, rfl, _, h3, h4⟩
      simp only [strR] at h1 h2 h3
      subst h1
      subst h2
      subst h3
      subst h4
      rfl) (by intro a; simp only [szFile]; omega)
theorem opens_disk (w : World) : Opens w 24 2 (fun cs (x : List Fl × Int) => ∃ A c, cs = [.slice A x.1.length c, .int .i64 x.2] ∧ sliceR w 3 (fun cs (x : Fl) => cs = fileC x) [.slice A x.1.length c] x.1 ∧ -9223372036854775808 ≤ x.2 ∧ x.2 ≤ 9223372036854775807) (fun x => szs szFile x.1) :=
  (opens_struct Tryd.underlying24 (by kernel_rfl) (opensF_cons rfl (opens_slice Tryd.underlying22 (by kernel_rfl) (opens_file w) (by omega)) (opensF_cons rfl (opens_int Tryd.underlying3 (by kernel_rfl) w) (opensF_nil w 2)))).map
    (fun a => (a.1, a.2.1)) (by
      rintro cs ⟨fs, f, _⟩ ⟨c1, c2, rfl, _, h1, d1, d2, rfl, _, h2, h3⟩
      have h1' := h1
      obtain ⟨A, c, hc, _⟩ := h1
      simp only at hc
      subst hc
      obtain ⟨h4, h5⟩ := h2
      simp only at h4
      subst h4
      simp only [nilR] at h3
      subst h3
      exact ⟨A, c, rfl, h1', h5⟩) (by intro a; simp only; omega)
/-- what is known of a disk that came in -/
structure DiskIn (w : World) (A : Option Addr) (c : Nat) (fs : List Fl) (f : Int) : Prop where
  row : FRow w A fs.length fs
  len : fs.length ≤ 1048576
  size : ∀ x ∈ fs, x.1.length ≤ 1048576 ∧ x.2.1.length ≤ 1048576 ∧ x.2.2.length ≤ 1048576
  nil : A = none → fs.length = 0 ∧ c = 0
  fuse : -9223372036854775808 ≤ f ∧ f ≤ 9223372036854775807
  cap : fs.length ≤ c
theorem open_disk {w : World} {r : Reach} {base : Nat} {H : Type} {enc : TypeId × Value → H} {v : Value} {d : DataW H} {p : List MemPlace}
    (hv : Value.okWide Tryd.prog w r base 24 v) (hd : DataW.Trod enc Tryd.prog w 0 (fun _ => true) true 24 v d p) (hb : Rows.uptoBulk d ≤ 1048576) :
    ∃ A c fs f, v = diskV A fs.length c f ∧ DiskIn w A c fs f := by
  obtain ⟨cs, ⟨fs, f⟩, rfl, ⟨A, c, hc, hR, hf⟩, hs⟩ := open_structD_arg Tryd.underlying24 (opens_disk w) hv hd
  simp only at hc hR hf hs
  obtain ⟨A', c', e', h1, h2, hrow⟩ := sliceR_row fileC (fun _ => rfl) (by omega) (fun ci x h => h) hR
  simp only [List.cons.injEq, and_true, Value.slice.injEq, true_and] at e'
  obtain ⟨rfl, rfl⟩ := e'
  obtain ⟨A2, c2, e2, _, h3, _⟩ := hR
  simp only [List.cons.injEq, and_true, Value.slice.injEq, true_and] at e2
  obtain ⟨rfl, rfl⟩ := e2
  have hl := szs_len szFile (fun x => by unfold szFile; omega) fs
  refine ⟨A, c, fs, f, ?_, ⟨hrow, by omega, fun x hx => ?_, fun h => ?_, hf, h1⟩⟩
  · unfold diskV
    congr 1
    exact Array.toList_inj.1 hc
  · have := szs_mem szFile hx
    unfold szFile at this hs
    refine ⟨?_, ?_, ?_⟩ <;> omega
  · have := h3.2 h
    omega
end Go.Proofs.YtbhpglhmnpcnkaaDoor

namespace Go.Proofs.YtbhpglhmnpcnkaaDoor
open Go.RowKit
set_option linter.unusedVariables false

def disk0 (f : Int) : Array Value := #[.slice none 0 0, .int .i64 f]
set_option maxRecDepth 100000 in
set_option maxHeartbeats 1000000 in
theorem sameDisk0_any (f : Int) (w : World) : Calls Tryd.prog 31 #[.agg (disk0 f), .agg (disk0 f)] w fun e w' => e = .returned (.bool true) ∧ Gr w w' := by
  unfold disk0
  go_enter Tryd.func31, Tryd.ntmps31
  go_wp2_with fail
  obtain ⟨wa, hwa⟩ : ∃ x, x = (w.alloc (.cells #[.slice none 0 0, .int .i64 f] 24)).alloc (.cells #[.slice none 0 0, .int .i64 f] 24) := ⟨_, rfl⟩
  have hga : Gr w wa := by rw [hwa]; exact ((Gr.refl w).alloc _).alloc _
  rw [← hwa]
  clear hwa
  go_loopw [23, 5] (fun iv _ wr => iv = .int .i64 0 ∧ wr = wa) (fun _ _ _ => 0)
  case atStart => exact ⟨rfl, rfl⟩
  case round =>
    obtain ⟨rfl, rfl⟩ := hrel
    go_wp2_with fail
    go_ret
    exact ⟨rfl, hga⟩
def witC (who : Int) (key : List UInt8) (f n : Int) (r : List UInt8) : Array Value := #[.int .i64 who, .string (bs key), .slice none 0 0, .int .i64 f, .int .i64 n, .string (bs r)]
set_option maxRecDepth 100000 in
set_option maxHeartbeats 1000000 in
theorem sameWit_any (who : Int) (key : List UInt8) (f n : Int) (r : List UInt8) (w : World) :
    Calls Tryd.prog 10 #[.agg (witC who key f n r), .agg (witC who key f n r)] w fun e w' => e = .returned (.bool true) ∧ Gr w w' := by
  have HD := sec (sameDisk0_any f)
  unfold disk0 at HD
  unfold witC
  go_enter Tryd.func10, Tryd.ntmps10
  go_wp2_with (go_at_call 31; refine Calls.mono (HD.out _) ?_; rintro e w1 ⟨rfl, g1⟩)
  go_ret
  exact ⟨rfl, Gr.trans (((Gr.refl w).alloc _).alloc _) g1⟩
def cliC (f n : Int) (r : List UInt8) : Array Value := #[.slice none 0 0, .int .i64 f, .int .i64 n, .string (bs r), .slice none 0 0, .slice none 0 0]
end Go.Proofs.YtbhpglhmnpcnkaaDoor

namespace Go.Proofs.YtbhpglhmnpcnkaaDoor
open Go.RowKit
set_option linter.unusedVariables false

theorem witC_one (who : Int) (key : List UInt8) (f n : Int) (r : List UInt8) : (witC who key f n r).all (·.oneCell') = true := by simp [witC, Value.oneCell']
theorem cliC_one (f n : Int) (r : List UInt8) : (cliC f n r).all (·.oneCell') = true := by simp [cliC, Value.oneCell']
/-- P12.1 -/
def newW (who : Int) (key : List UInt8) : Value := if 0 ≤ who ∧ who < 4 then .tuple #[.agg (witC who key (-1) 0 (sha [])), .int .i64 0] else .tuple #[.agg (witC 0 [] 0 0 []), .int .i64 3]

set_option maxRecDepth 100000 in
set_option maxHeartbeats 1000000 in
theorem newWit_any (who : Int) (key : List UInt8) (w : World) (hT : TabK w) :
    Calls Tryd.prog 32 #[.int .i64 who, .string (bs key)] w fun e w' => e = .returned (newW who key) ∧ Gr w w' := by
  by_cases h0 : 0 ≤ who
  · by_cases h1 : who < 4
    · have HN : Sec (newW who key = .tuple #[.agg (witC who key (-1) 0 (sha [])), .int .i64 0]) := sec (by unfold newW; rw [if_pos ⟨h0, h1⟩])
      rw [HN.out]
      have h3 : who ≤ 3 := by omega
      go_enter Tryd.func32, Tryd.ntmps32
      go_wp2_with (first
        | (refine wpList_store_blk rfl 28 (.tmp 4) (.tmp 17) rfl (g := w.heap.size) (cs' := witC who key (-1) 0 (sha [])) rfl rfl hB A.wit rfl (witC_one _ _ _ _ _) ?_; intro w2 h2 hg2)
        | (go_at_call 21; refine (empty_any _ (hT.gr ((Gr.refl w).alloc _))).mono ?_; rintro e w1 ⟨rfl, g1⟩; have hB := (Blk.new w 28 (witC 0 [] 0 0 [])).gr g1; have gg1 : Gr w w1 := Gr.trans ((Gr.refl w).alloc _) g1))
      refine bodyPost_ret (results_blk_tmp rfl _ rfl h2 A.wit) rfl ?_
      exact ⟨rfl, Gr.only gg1 hg2 (Nat.le_refl _)⟩
    · have HN : Sec (newW who key = .tuple #[.agg (witC 0 [] 0 0 []), .int .i64 3]) := sec (by unfold newW; rw [if_neg (fun h => h1 h.2)])
      rw [HN.out]
      have h3 : ¬ who ≤ 3 := by omega
      go_enter Tryd.func32, Tryd.ntmps32
      go_wp2_with (refine wpList_store_blk rfl 28 (.tmp 4) (.tmp 12) rfl (g := w.heap.size) (cs' := witC 0 [] 0 0 []) rfl rfl (Blk.new w 28 (witC 0 [] 0 0 [])) A.wit rfl (witC_one _ _ _ _ _) ?_; intro w2 h2 hg2)
      refine bodyPost_ret (results_blk_tmp rfl _ rfl h2 A.wit) rfl ?_
      exact ⟨rfl, Gr.only ((Gr.refl w).alloc _) hg2 (Nat.le_refl _)⟩
  · have HN : Sec (newW who key = .tuple #[.agg (witC 0 [] 0 0 []), .int .i64 3]) := sec (by unfold newW; rw [if_neg (fun h => h0 h.1)])
    rw [HN.out]
    go_enter Tryd.func32, Tryd.ntmps32
    go_wp2_with (refine wpList_store_blk rfl 28 (.tmp 4) (.tmp 12) rfl (g := w.heap.size) (cs' := witC 0 [] 0 0 []) rfl rfl (Blk.new w 28 (witC 0 [] 0 0 [])) A.wit rfl (witC_one _ _ _ _ _) ?_; intro w2 h2 hg2)
    refine bodyPost_ret (results_blk_tmp rfl _ rfl h2 A.wit) rfl ?_
    exact ⟨rfl, Gr.only ((Gr.refl w).alloc _) hg2 (Nat.le_refl _)⟩
set_option maxRecDepth 100000 in
set_option maxHeartbeats 1000000 in
theorem newCli_any (w : World) (hT : TabK w) :
    Calls Tryd.prog 33 #[] w fun e w' => e = .returned (.agg (cliC (-1) 0 (sha []))) ∧ Gr w w' := by
  go_enter Tryd.func33, Tryd.ntmps33
  go_wp2_with (first
    | (refine wpList_store_blk rfl 62 (.tmp 0) (.tmp 3) rfl (g := w.heap.size) (cs' := cliC (-1) 0 (sha [])) rfl rfl hB A.cli rfl (cliC_one _ _ _) ?_; intro w2 h2 hg2)
    | (go_at_call 21; refine (empty_any _ (hT.gr ((Gr.refl w).alloc _))).mono ?_; rintro e w1 ⟨rfl, g1⟩; have hB := (Blk.new w 62 (cliC 0 0 [])).gr g1; have gg1 : Gr w w1 := Gr.trans ((Gr.refl w).alloc _) g1))
  refine bodyPost_ret (results_blk rfl _ rfl h2 A.cli) rfl ?_
  exact ⟨rfl, Gr.only gg1 hg2 (Nat.le_refl _)⟩

end Go.Proofs.YtbhpglhmnpcnkaaDoor

namespace Go.Proofs.YtbhpglhmnpcnkaaDoor
open Go.RowKit
set_option linter.unusedVariables false

set_option maxRecDepth 100000 in
set_option maxHeartbeats 1000000 in
theorem nodes_any (w : World) (hT : TabK w) : Calls Tryd.prog 11 #[] w fun e w' => e = .returned (.bool true) ∧ Gr w w' := by
  have HN : Sec (newW 1 [107] = .tuple #[.agg (witC 1 [107] (-1) 0 (sha [])), .int .i64 0]) := sec (by unfold newW; rw [if_pos ⟨by omega, by omega⟩])
  have HC : Sec (cliC (-1) 0 (sha []) = #[.slice none 0 0, .int .i64 (-1), .int .i64 0, .string (bs (sha [])), .slice none 0 0, .slice none 0 0]) := sec rfl
  have f1 : ∀ (r : ByteArray) (w : World), (Instr.field 62 (.agg #[.slice none 0 0, .int .i64 (-1), .int .i64 0, .string r, .slice none 0 0, .slice none 0 0]) 0).run Tryd.prog w = .ok (.agg #[.slice none 0 0, .int .i64 (-1)]) w := fun r w => by kernel_rfl
  have f2 : ∀ (w : World), (Instr.field 24 (.agg #[.slice none 0 0, .int .i64 (-1)]) 1).run Tryd.prog w = .ok (.int .i64 (-1)) w := fun w => by kernel_rfl
  go_enter Tryd.func11, Tryd.ntmps11
  go_wp2_with (first
    | (refine wpList_store_blk rfl 28 (.tmp 1) (.tmp 5) rfl (g := w1.heap.size) rfl rfl (Blk.new w1 _ (witC 0 [] 0 0 [])) A.wit rfl (witC_one _ _ _ _ _) ?_; intro w2 h2 hg2; have c2 : w2.cell? ⟨w1.heap.size, 0, none⟩ = some (.int .i64 1) := h2.cell 0; have gg2 : Gr w w2 := Gr.only (g1.alloc _) hg2 g1.size)
    | (go_at_call 32; refine (newWit_any 1 [107] _ hT).mono ?_; rw [HN.out]; rintro e w1 ⟨rfl, g1⟩)
    | (go_at_call 33; refine (newCli_any _ (hT.gr gg2)).mono ?_; rw [HC.out]; rintro e w3 ⟨rfl, g3⟩))
  go_ret
  exact ⟨rfl, gg2.trans g3⟩

end Go.Proofs.YtbhpglhmnpcnkaaDoor

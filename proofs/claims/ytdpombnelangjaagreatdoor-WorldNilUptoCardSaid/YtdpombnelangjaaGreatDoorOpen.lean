/-
  How arguments are opened: what a reading of ints, strings, bools, structs and slices of them says of the cells, with its size. No conditions: a library text.
-/
import Derived.Test.YtdpombnelangjaaGreatDoorRowsG
import Derived.ProofKit
import Derived.OpenShut
import Derived.ChangeOld
namespace Go.Proofs.YtdpombnelangjaaGreatDoor
set_option maxRecDepth 100000
open Go.RowKit Go.ChangeShapes Go.WideShapes
/-- a value of type t, k cells, reads as some a (R), of size sz a at most its bulk -/
structure Opens (w : World) (t : TypeId) (k : Nat) {α : Type} (R : List Value → α → Prop) (sz : α → Nat) : Prop where
  cells : Tryz.prog.cellsOf t = k
  open_ : ∀ {H : Type} (enc : TypeId × Value → H) (fuel : Nat) (cs : List Value) (x : DataW H × List MemPlace),
    DataW.trod enc Tryz.prog w 0 (fun _ => true) true fuel t cs = some x → cs.length = k ∧ ∃ a, R cs a ∧ sz a ≤ Rows.uptoBulk x.1

def intR (cs : List Value) (n : Int) : Prop := cs = [.int .i64 n] ∧ -9223372036854775808 ≤ n ∧ n ≤ 9223372036854775807
def strR (cs : List Value) (l : List UInt8) : Prop := cs = [.string (bs l)]
def boolR (cs : List Value) (b : Bool) : Prop := cs = [.bool b]
theorem opens_int {t : TypeId} (ht : Tryz.prog.underlying t = some (.int .i64)) (hc : Tryz.prog.cellsOf t = 1) (w : World) : Opens w t 1 intR (fun _ => 1) :=
  ⟨hc, fun enc fuel cs x h => by
    obtain ⟨n, rfl, rfl, hw⟩ := DataW.trod_int ht h
    exact ⟨rfl, n, ⟨rfl, by simpa [Lit.wf, IntKind.min, IntKind.max, IntKind.signed, IntKind.bits] using hw⟩, by simp [Rows.uptoBulk]⟩⟩
theorem opens_string {t : TypeId} (ht : Tryz.prog.underlying t = some .string) (hc : Tryz.prog.cellsOf t = 1) (w : World) : Opens w t 1 strR (fun l => l.length + 1) :=
  ⟨hc, fun enc fuel cs x h => by
    obtain ⟨s, rfl, rfl, _⟩ := DataW.trod_string ht h
    obtain ⟨l, rfl⟩ := bs_of s
    exact ⟨rfl, l, rfl, by simp [Rows.uptoBulk, bs_data]⟩⟩
theorem opens_bool {t : TypeId} (ht : Tryz.prog.underlying t = some .bool) (hc : Tryz.prog.cellsOf t = 1) (w : World) : Opens w t 1 boolR (fun _ => 1) :=
  ⟨hc, fun enc fuel cs x h => by
    obtain ⟨b, rfl, rfl⟩ := DataW.trod_bool ht h
    exact ⟨rfl, b, rfl, by simp [Rows.uptoBulk]⟩⟩

/-- the reading by other words -/
theorem Opens.map {w : World} {t : TypeId} {k : Nat} {α β : Type} {R : List Value → α → Prop} {sz : α → Nat} (h : Opens w t k R sz) {R' : List Value → β → Prop} {sz' : β → Nat} (f : α → β) (hR : ∀ cs a, R cs a → R' cs (f a)) (hs : ∀ a, sz' (f a) ≤ sz a) : Opens w t k R' sz' :=
  ⟨h.cells, fun enc fuel cs x hx => by
    obtain ⟨hl, a, ha, hb⟩ := h.open_ enc fuel cs x hx
    exact ⟨hl, f a, hR _ _ ha, Nat.le_trans (hs a) hb⟩⟩

/-! ### structs -/
structure OpensF (w : World) (fl : List Field) (off k : Nat) {β : Type} (R : List Value → β → Prop) (sz : β → Nat) : Prop where
  open_ : ∀ {H : Type} (enc : TypeId × Value → H) (n : Nat) (cs : List Value) (ys : List (DataW H × List MemPlace)), ys.length = fl.length →
    (∀ (i : Nat) (f : Field), fl[i]? = some f → DataW.trod enc Tryz.prog w 0 (fun _ => true) true n f.type ((cs.drop f.offset).take (Tryz.prog.cellsOf f.type)) = ys[i]?) →
    cs.length = off + k → ∃ b, R (cs.drop off) b ∧ sz b ≤ Rows.uptoBulkAll (ys.map (·.1))
def nilR (cs : List Value) (_ : Unit) : Prop := cs = []
def consR {α β : Type} (k : Nat) (R : List Value → α → Prop) (R' : List Value → β → Prop) (cs : List Value) (a : α × β) : Prop := ∃ c1 c2, cs = c1 ++ c2 ∧ c1.length = k ∧ R c1 a.1 ∧ R' c2 a.2
theorem opensF_nil (w : World) (off : Nat) : OpensF w [] off 0 nilR (fun _ => 0) :=
  ⟨fun enc n cs ys _ _ hl => ⟨(), List.drop_eq_nil_of_le (by omega), by simp⟩⟩
theorem opensF_cons {w : World} {f : Field} {fl : List Field} {off k k' : Nat} {α β : Type} {R : List Value → α → Prop} {sz : α → Nat} {R' : List Value → β → Prop} {sz' : β → Nat}
    (hf : f.offset = off) (h : Opens w f.type k R sz) (h' : OpensF w fl (off + k) k' R' sz') : OpensF w (f :: fl) off (k + k') (consR k R R') (fun a => sz a.1 + sz' a.2) :=
  ⟨fun enc n cs ys hy hat hl => by
    cases ys with
    | nil => simp at hy
    | cons y ys =>
      have h0 := hat 0 f rfl
      rw [hf, h.cells] at h0
      obtain ⟨hk, a, ha, hb⟩ := h.open_ enc n _ y h0
      obtain ⟨b, hb1, hb2⟩ := h'.open_ enc n cs ys (by simpa using hy) (fun i g hg => hat (i + 1) g (by simpa using hg)) (by omega)
      refine ⟨(a, b), ⟨(cs.drop off).take k, cs.drop (off + k), ?_, hk, ha, hb1⟩, ?_⟩
      · rw [← List.drop_drop]; exact (List.take_append_drop k _).symm
      · simp only [List.map_cons, Rows.uptoBulkAll]; omega⟩
theorem opens_struct {w : World} {t : TypeId} {fs : Array Field} {k : Nat} {β : Type} {R : List Value → β → Prop} {sz : β → Nat} (ht : Tryz.prog.underlying t = some (.struct fs)) (hc : Tryz.prog.cellsOf t = k) (h : OpensF w fs.toList 0 k R sz) : Opens w t k R (fun b => sz b + 1) :=
  ⟨hc, fun enc fuel cs x hx => by
    obtain ⟨xs, n, _, rfl, hl, hxl, hf⟩ := DataW.trod_struct ht hx
    obtain ⟨b, hb, hs⟩ := h.open_ enc n cs xs (by simpa using hxl) (fun i f hi => hf i f (by simpa using hi)) (by rw [hl, hc]; omega)
    exact ⟨hl.trans hc, b, by simpa using hb, by simp only [Rows.uptoBulk]; omega⟩⟩

/-! ### slices -/
def sliceR {α : Type} (w : World) (k : Nat) (R : List Value → α → Prop) (cs : List Value) (xs : List α) : Prop :=
  ∃ A c, cs = [.slice A xs.length c] ∧ xs.length ≤ c ∧ (c ≤ maxLen ∧ (A = none → c = 0)) ∧ (0 < xs.length → ∃ b off, A = some ⟨b, off, none⟩ ∧ ∀ i (h : i < xs.length), ∃ ci, R ci xs[i] ∧ ci.length = k ∧ ∀ j v, ci[j]? = some v → w.cell? ⟨b, off + i * k + j, none⟩ = some v)
def szs {α : Type} (sz : α → Nat) : List α → Nat
  | [] => 0
  | x :: r => sz x + szs sz r

theorem build_list {α : Type} (p : Nat → α → Prop) : ∀ n, (∀ i, i < n → ∃ a, p i a) → ∃ xs : List α, xs.length = n ∧ ∀ i (h : i < xs.length), p i xs[i]
  | 0, _ => ⟨[], rfl, fun i h => absurd h (by simp)⟩
  | n + 1, h => by
    obtain ⟨xs, hl, hx⟩ := build_list p n (fun i hi => h i (by omega))
    obtain ⟨a, ha⟩ := h n (by omega)
    refine ⟨xs ++ [a], by simp [hl], fun i hi => ?_⟩
    by_cases e : i < xs.length
    · rw [List.getElem_append_left e]; exact hx i e
    · have : i = n := by simp at hi; omega
      subst this
      rw [List.getElem_append_right (by omega)]
      simpa [hl] using ha
theorem szs_le {H α : Type} (sz : α → Nat) : ∀ (xs : List α) (ds : List (DataW H)), xs.length = ds.length → (∀ i (h : i < xs.length) (h' : i < ds.length), sz xs[i] ≤ Rows.uptoBulk ds[i]) → szs sz xs ≤ Rows.uptoBulkAll ds
  | [], [], _, _ => by simp [szs]
  | x :: xs, d :: ds, hl, h => by
    have h0 := h 0 (by simp) (by simp)
    have := szs_le sz xs ds (by simpa using hl) (fun i hi hi' => h (i + 1) (by simp; omega) (by simp; omega))
    simp only [szs, Rows.uptoBulkAll]
    simp at h0
    omega
  | [], _ :: _, hl, _ => by simp at hl
  | _ :: _, [], hl, _ => by simp at hl

theorem add_of_add (a : Addr) (i j : Nat) : (a.add i).add j = a.add (i + j) := by
  unfold Addr.add
  by_cases hi : i = 0 <;> by_cases hj : j = 0 <;> simp [hi, hj, Nat.add_assoc]
theorem add_spot {b off i : Nat} : (⟨b, off, none⟩ : Addr).add i = ⟨b, off + i, none⟩ := by unfold Addr.add; split <;> simp_all

theorem opens_slice {w : World} {t e : TypeId} {k : Nat} {α : Type} {R : List Value → α → Prop} {sz : α → Nat} (ht : Tryz.prog.underlying t = some (.slice e)) (hc : Tryz.prog.cellsOf t = 1) (h : Opens w e k R sz) (hk : 0 < k) :
    Opens w t 1 (sliceR w k R) (fun xs => szs sz xs + 1) :=
  ⟨hc, fun {H} enc fuel cs x hx => by
    rcases DataW.trod_slice ht hx with ⟨rfl, rfl⟩ | ⟨a, len, cap, elems, rest, n, _, rfl, rfl, _, hlc, hcm, hlen, hel, _, _⟩
    · exact ⟨rfl, [], ⟨none, 0, rfl, by simp, ⟨by simp [maxLen], fun _ => rfl⟩, fun h0 => absurd h0 (by simp)⟩, by simp [szs, Rows.uptoBulk]⟩
    · have hi : ∀ i, i < len → ∃ y : α × List Value, (∀ (h' : i < elems.length), sz y.1 ≤ Rows.uptoBulk (elems[i].1)) ∧ R y.2 y.1 ∧ y.2.length = k ∧ ∀ j v, y.2[j]? = some v → w.cell? (a.add (i * k + j)) = some v := by
        intro i hi
        have h1 := hel i hi
        have hil : i < elems.length := by omega
        rw [List.getElem?_eq_getElem hil, Option.bind_eq_some_iff] at h1
        obtain ⟨ci, hci, hti⟩ := h1
        obtain ⟨hl, y, hy, hs⟩ := h.open_ enc n ci _ hti
        rw [h.cells] at hci
        obtain ⟨_, _, hcell⟩ := World.cells?_some hci
        refine ⟨(y, ci), fun _ => hs, hy, hl, fun j v hv => ?_⟩
        have hj : j < k := by rw [← hl]; exact (List.getElem?_eq_some_iff.1 hv).1
        rw [← add_of_add, hcell j hj]; exact hv
      obtain ⟨ys, hyl, hys⟩ := build_list (fun i (y : α × List Value) => (∀ (h' : i < elems.length), sz y.1 ≤ Rows.uptoBulk (elems[i].1)) ∧ R y.2 y.1 ∧ y.2.length = k ∧ ∀ j v, y.2[j]? = some v → w.cell? (a.add (i * k + j)) = some v) len hi
      refine ⟨rfl, ys.map (·.1), ⟨some a, cap, by simp [hyl], by simp; omega, ⟨hcm, fun h => by cases h⟩, fun h0 => ?_⟩, ?_⟩
      · obtain ⟨b, off, spot⟩ := a
        have h00 := hys 0 (by simpa using h0)
        obtain ⟨_, _, hl0, hc0⟩ := h00
        have hv := hc0 0 _ (List.getElem?_eq_getElem (by rw [hl0]; exact hk))
        have hsp : spot = none := by simpa [Addr.add] using World.cell?_spot hv
        subst hsp
        refine ⟨b, off, rfl, fun i hi => ?_⟩
        have hi' : i < ys.length := by simpa using hi
        obtain ⟨_, hR, hl, hcell⟩ := hys i hi'
        refine ⟨ys[i].2, by simpa using hR, hl, fun j v hv => ?_⟩
        have := hcell j v hv
        rw [add_spot, ← Nat.add_assoc] at this
        exact this
      · simp only [Rows.uptoBulk]
        have := szs_le (H := H) sz (ys.map (·.1)) (elems.map (·.1)) (by simp; omega) (fun i hi hi' => by
          have hi2 : i < ys.length := by simpa using hi
          have := (hys i hi2).1 (by simpa using hi')
          simpa using this)
        omega⟩

/-- where an element's cells are told by it alone: a row -/
theorem sliceR_row {α : Type} {w : World} {k : Nat} {R : List Value → α → Prop} (f : α → List Value) (hf : ∀ x, (f x).length = k) (hk : 0 < k) (hR : ∀ ci x, R ci x → ci = f x) {cs : List Value} {xs : List α} (h : sliceR w k R cs xs) :
    ∃ A c, cs = [.slice A xs.length c] ∧ xs.length ≤ c ∧ c ≤ maxLen ∧ Row w k A xs.length (xs.flatMap f) := by
  obtain ⟨A, c, hcs, h1, h2, hat⟩ := h
  refine ⟨A, c, hcs, h1, h2.1, flat_len f k hf xs, fun hn => ?_⟩
  obtain ⟨b, off, e, hel⟩ := hat hn
  refine ⟨b, off, e, fun j v hv => ?_⟩
  have hjl : j < xs.length * k := by rw [← flat_len f k hf xs]; exact (List.getElem?_eq_some_iff.1 hv).1
  have hi : j / k < xs.length := (Nat.div_lt_iff_lt_mul hk).2 hjl
  have hr : j % k < k := Nat.mod_lt _ hk
  have ej : j / k * k + j % k = j := by rw [Nat.mul_comm]; exact Nat.div_add_mod j k
  obtain ⟨ci, hci, _, hcell⟩ := hel (j / k) hi
  rw [hR ci _ hci] at hcell
  rw [← ej, flat_at f k hf xs (j / k) hi (j % k) hr] at hv
  have := hcell (j % k) v hv
  rw [Nat.add_assoc, ej] at this
  exact this
theorem szs_len {α : Type} (sz : α → Nat) (h1 : ∀ x, 1 ≤ sz x) : ∀ xs : List α, xs.length ≤ szs sz xs
  | [] => by simp
  | x :: r => by have := szs_len sz h1 r; have := h1 x; simp only [szs, List.length_cons]; omega
theorem szs_mem {α : Type} (sz : α → Nat) {xs : List α} {x : α} (h : x ∈ xs) : sz x ≤ szs sz xs := by
  induction xs with
  | nil => cases h
  | cons y r ih =>
    simp only [szs]
    rcases List.mem_cons.1 h with rfl | h
    · omega
    · have := ih h; omega

/-! ### arguments -/
theorem open_arg {w : World} {t : TypeId} {k : Nat} {α : Type} {R : List Value → α → Prop} {sz : α → Nat} (h : Opens w t k R sz) {H : Type} {enc : TypeId × Value → H} {v : Value} {d : DataW H} {p : List MemPlace}
    (hd : DataW.Trod enc Tryz.prog w 0 (fun _ => true) true t v d p) : ∃ a, R v.cells.toList a ∧ sz a ≤ Rows.uptoBulk d ∧ v.cells.toList.length = k := by
  obtain ⟨fuel, hf⟩ := hd
  obtain ⟨hl, a, ha, hs⟩ := h.open_ enc fuel _ _ hf
  exact ⟨a, ha, hs, hl⟩
theorem open_slice_arg {w : World} {r : Reach} {base : Nat} {t e : TypeId} (ht : Tryz.prog.underlying t = some (.slice e)) {k : Nat} {α : Type} {R : List Value → α → Prop} {sz : List α → Nat} (h : Opens w t 1 (sliceR w k R) sz) {H : Type} {enc : TypeId × Value → H} {v : Value} {d : DataW H} {p : List MemPlace}
    (hv : Value.okWide Tryz.prog w r base t v) (hd : DataW.Trod enc Tryz.prog w 0 (fun _ => true) true t v d p) : ∃ A c xs, v = .slice A xs.length c ∧ sliceR w k R [.slice A xs.length c] xs ∧ sz xs ≤ Rows.uptoBulk d := by
  obtain ⟨a0, n0, c0, rfl⟩ := okWide_slice ht hv
  obtain ⟨xs, hR, hs, _⟩ := open_arg h hd
  have hR' := hR
  obtain ⟨A, c, hcs, _⟩ := hR
  have e : [Value.slice a0 n0 c0] = [.slice A xs.length c] := by simpa [Value.cells] using hcs
  simp only [List.cons.injEq, and_true] at e
  refine ⟨A, c, xs, e, ?_, hs⟩
  rw [← e]
  simpa [Value.cells] using hR'
end Go.Proofs.YtdpombnelangjaaGreatDoor

/-
  How WireWrites' argument, a slice of puts, is opened. No conditions: a library text.
-/
import Derived.Test.YtkabioogfcbkmaaWireWrites
namespace Go.Proofs.Ytkabioogfcbkmaa
open Go.RowKit Go.ChangeShapes Go.WideShapes

def ptR (cs : List Value) (x : Pt) : Prop := cs = ptV x ∧ (-9223372036854775808 ≤ x.2.1 ∧ x.2.1 ≤ 9223372036854775807)
theorem opens_pt (w : World) : Opens w 36 3 ptR (fun x => x.2.2.length + 3) :=
  (opens_struct Try.underlying36 (by kernel_rfl) (opensF_cons rfl (opens_int Try.underlying3 (by kernel_rfl) w) (opensF_cons rfl (opens_int Try.underlying3 (by kernel_rfl) w) (opensF_cons rfl (opens_string Try.underlying9 (by kernel_rfl) w) (opensF_nil w 3))))).map
    (fun a => (a.1, a.2.1, a.2.2.1)) (by
      rintro cs ⟨a, b, s, _⟩ ⟨c1, c2, rfl, _, h1, d1, d2, rfl, _, h2, f1, f2, rfl, _, h3, h4⟩
      obtain ⟨rfl, e1⟩ := h1
      obtain ⟨rfl, e2⟩ := h2
      subst h3
      subst h4
      exact ⟨rfl, e2⟩) (by intro a; simp only; omega)
theorem cost_le (l : List Pt) : cost l ≤ 3 * szs (fun x : Pt => x.2.2.length + 3) l := by
  induction l with
  | nil => simp [cost]
  | cons x r ih => simp only [cost, szs]; omega
theorem open_putl {w : World} {r : Reach} {base : Nat} {H : Type} {enc : TypeId × Value → H} {v : Value} {d : DataW H} {p : List MemPlace}
    (hv : Value.okWide Try.prog w r base 30 v) (hd : DataW.Trod enc Try.prog w 0 (fun _ => true) true 30 v d p) (hb : Rows.uptoBulk d ≤ 1048576) :
    ∃ A c l, v = .slice A l.length c ∧ PutRow w A l.length l ∧ l.length ≤ 1048576 ∧ cost l ≤ 10485760 ∧ ∀ x ∈ l, -9223372036854775808 ≤ x.2.1 ∧ x.2.1 ≤ 9223372036854775807 := by
  obtain ⟨A, c, xs, e, hR, hs⟩ := open_slice_arg Try.underlying30 (opens_slice Try.underlying30 (by kernel_rfl) (opens_pt w) (by omega)) hv hd
  obtain ⟨A', c', e', _, _, hrow⟩ := sliceR_row ptV (fun _ => rfl) (by omega) (fun ci x h => h.1) hR
  simp only [List.cons.injEq, and_true, Value.slice.injEq, true_and] at e'
  obtain ⟨rfl, rfl⟩ := e'
  have hl := szs_len (fun x : Pt => x.2.2.length + 3) (fun _ => by omega) xs
  have hc := cost_le xs
  refine ⟨A, c, xs, e, hrow, by omega, by omega, fun x hx => ?_⟩
  obtain ⟨A2, c2, _, _, _, hat⟩ := hR
  obtain ⟨i, hi, rfl⟩ := List.mem_iff_getElem.1 hx
  obtain ⟨b, off, _, hel⟩ := hat (by omega)
  obtain ⟨ci, hci, _⟩ := hel i hi
  exact hci.2
end Go.Proofs.Ytkabioogfcbkmaa

/-
  How WireReads' argument, a slice of takes, is opened. No conditions: a library text.
-/
import Derived.Test.YtkabioogfcbkmaaOpen
import Derived.Test.YtkabioogfcbkmaaTaken
namespace Go.Proofs.Ytkabioogfcbkmaa
open Go.RowKit Go.ChangeShapes Go.WideShapes

def pairR (cs : List Value) (x : Int × Int) : Prop := cs = pairV x ∧ (-9223372036854775808 ≤ x.1 ∧ x.1 ≤ 9223372036854775807) ∧ (-9223372036854775808 ≤ x.2 ∧ x.2 ≤ 9223372036854775807)
theorem opens_take (w : World) : Opens w 55 2 pairR (fun _ => 1) :=
  (opens_struct Try.underlying55 (by kernel_rfl) (opensF_cons rfl (opens_int Try.underlying3 (by kernel_rfl) w) (opensF_cons rfl (opens_int Try.underlying3 (by kernel_rfl) w) (opensF_nil w 2)))).map
    (fun a => (a.1, a.2.1)) (by rintro cs ⟨a, b, _⟩ ⟨c1, c2, rfl, _, h1, d1, d2, rfl, _, h2, h3⟩; obtain ⟨rfl, e1⟩ := h1; obtain ⟨rfl, e2⟩ := h2; subst h3; exact ⟨rfl, e1, e2⟩) (by intro a; omega)
theorem open_takes {w : World} {r : Reach} {base : Nat} {H : Type} {enc : TypeId × Value → H} {v : Value} {d : DataW H} {p : List MemPlace}
    (hv : Value.okWide Try.prog w r base 47 v) (hd : DataW.Trod enc Try.prog w 0 (fun _ => true) true 47 v d p) (hb : Rows.uptoBulk d ≤ 1048576) :
    ∃ A c l, v = .slice A l.length c ∧ PairRow w A l.length l ∧ l.length ≤ 1048576 ∧ ∀ x ∈ l, -9223372036854775808 ≤ x.2 ∧ x.2 ≤ 9223372036854775807 := by
  obtain ⟨A, c, xs, e, hR, hs⟩ := open_slice_arg Try.underlying47 (opens_slice Try.underlying47 (by kernel_rfl) (opens_take w) (by omega)) hv hd
  obtain ⟨A', c', e', _, _, hrow⟩ := sliceR_row pairV (fun _ => rfl) (by omega) (fun ci x h => h.1) hR
  simp only [List.cons.injEq, and_true, Value.slice.injEq, true_and] at e'
  obtain ⟨rfl, rfl⟩ := e'
  have hl := szs_len (fun _ : Int × Int => 1) (fun _ => Nat.le_refl _) xs
  refine ⟨A, c, xs, e, hrow, by omega, fun x hx => ?_⟩
  obtain ⟨A2, c2, _, _, _, hat⟩ := hR
  obtain ⟨i, hi, rfl⟩ := List.mem_iff_getElem.1 hx
  obtain ⟨b, off, _, hel⟩ := hat (by omega)
  obtain ⟨ci, hci, _⟩ := hel i hi
  exact hci.2.2
end Go.Proofs.Ytkabioogfcbkmaa

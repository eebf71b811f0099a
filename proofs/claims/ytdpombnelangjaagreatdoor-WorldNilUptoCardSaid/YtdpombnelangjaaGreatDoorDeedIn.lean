/-
  A deed as an argument by value.
-/
import Derived.Test.YtdpombnelangjaaGreatDoorKeyL
import Derived.Test.YtdpombnelangjaaGreatDoorOpen
import Derived.Test.YtdpombnelangjaaGreatDoorNil
namespace Go.Proofs.YtdpombnelangjaaGreatDoor
set_option maxRecDepth 100000
open Go.RowKit Go.ChangeShapes Go.WideShapes
set_option linter.unusedVariables false

theorem open_structW_arg {w : World} {r : Reach} {base : Nat} {t : TypeId} {fs : Array Field} (ht : Tryz.prog.underlying t = some (.struct fs)) {k : Nat} {α : Type} {R : List Value → α → Prop} {sz : α → Nat} (h : Opens w t k R sz) {H : Type} {enc : TypeId × Value → H} {v : Value} {d : DataW H} {p : List MemPlace}
    (hv : Value.okWide Tryz.prog w r base t v) (hd : DataW.Trod enc Tryz.prog w 0 (fun _ => true) true t v d p) : ∃ cs a, v = .agg cs ∧ R cs.toList a ∧ sz a ≤ Rows.uptoBulk d := by
  obtain ⟨cs, rfl, _⟩ := okWide_struct ht hv
  obtain ⟨a, ha, hs, _⟩ := open_arg h hd
  exact ⟨cs, a, rfl, by simpa [Value.cells] using ha, hs⟩
def inD (n : Int) : Prop := -9223372036854775808 ≤ n ∧ n ≤ 9223372036854775807
def deedA (d : Dd) : Array Value := ddA d.k d.b d.w d.ref d.data d.sg d.old d.size
structure DeedOk (d : Dd) : Prop where
  k : inD d.k
  b : inD d.b
  w : inD d.w
  sg : inD d.sg
  size : inD d.size
  ref : d.ref.length ≤ 1048576
  data : d.data.length ≤ 1048576
def szDd (d : Dd) : Nat := d.ref.length + d.data.length + 1
def ddR (cs : List Value) (d : Dd) : Prop := cs = (deedA d).toList ∧ inD d.k ∧ inD d.b ∧ inD d.w ∧ inD d.sg ∧ inD d.size
theorem opens_deed (w : World) : Opens w 30 8 ddR szDd :=
  (opens_struct Tryz.underlying30 (by kernel_rfl)
    (opensF_cons rfl (opens_int Tryz.underlying3 (by kernel_rfl) w)
    (opensF_cons rfl (opens_int Tryz.underlying3 (by kernel_rfl) w)
    (opensF_cons rfl (opens_int Tryz.underlying3 (by kernel_rfl) w)
    (opensF_cons rfl (opens_string Tryz.underlying9 (by kernel_rfl) w)
    (opensF_cons rfl (opens_string Tryz.underlying9 (by kernel_rfl) w)
    (opensF_cons rfl (opens_int Tryz.underlying3 (by kernel_rfl) w)
    (opensF_cons rfl (opens_bool Tryz.underlying4 (by kernel_rfl) w)
    (opensF_cons rfl (opens_int Tryz.underlying3 (by kernel_rfl) w) (opensF_nil w 8)))))))))).map
    (fun a => ⟨a.1, a.2.1, a.2.2.1, a.2.2.2.1, a.2.2.2.2.1, a.2.2.2.2.2.1, a.2.2.2.2.2.2.1, a.2.2.2.2.2.2.2.1⟩) (by
      rintro cs ⟨k, b, x, r, d, sg, o, z, _⟩ ⟨c1, c2, rfl, _, h1, d1, d2, rfl, _, h2, e1, e2, rfl, _, h3, f1, f2, rfl, _, h4, g1, g2, rfl, _, h5, i1, i2, rfl, _, h6, j1, j2, rfl, _, h7, k1, k2, rfl, _, h8, h10⟩
      obtain ⟨h1, q1⟩ := h1
      obtain ⟨h2, q2⟩ := h2
      obtain ⟨h3, q3⟩ := h3
      obtain ⟨h6, q6⟩ := h6
      obtain ⟨h8, q8⟩ := h8
      simp only [strR, boolR] at h4 h5 h7
      simp only at h1 h2 h3 h6 h8
      simp only [nilR] at h10
      subst h1
      subst h2
      subst h3
      subst h4
      subst h5
      subst h6
      subst h7
      subst h8
      subst h10
      exact ⟨rfl, q1, q2, q3, q6, q8⟩) (by intro a; simp only [szDd]; omega)
theorem open_deed {w : World} {r : Reach} {base : Nat} {H : Type} {enc : TypeId × Value → H} {v : Value} {d : DataW H} {p : List MemPlace}
    (hv : Value.okWide Tryz.prog w r base 30 v) (hd : DataW.Trod enc Tryz.prog w 0 (fun _ => true) true 30 v d p) (hb : Rows.uptoBulk d ≤ 1048576) :
    ∃ x : Dd, v = .agg (deedA x) ∧ DeedOk x := by
  obtain ⟨cs, x, rfl, ⟨hc, h1, h2, h3, h4, h5⟩, hs⟩ := open_structW_arg Tryz.underlying30 (opens_deed w) hv hd
  unfold szDd at hs
  refine ⟨x, ?_, ⟨h1, h2, h3, h4, h5, by omega, by omega⟩⟩
  congr 1
  exact Array.toList_inj.1 hc
end Go.Proofs.YtdpombnelangjaaGreatDoor

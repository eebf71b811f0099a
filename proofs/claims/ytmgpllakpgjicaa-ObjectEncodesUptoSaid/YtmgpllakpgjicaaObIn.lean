/-
  An object as an argument by value.
-/
import Derived.Test.YtmgpllakpgjicaaObL
import Derived.Test.YtmgpllakpgjicaaOpen
import Derived.Test.YtmgpllakpgjicaaStrsIn
namespace Go.Proofs.Ytmgpllakpgjicaa
set_option maxRecDepth 100000
open Go.RowKit Go.ChangeShapes Go.WideShapes
set_option linter.unusedVariables false
theorem open_structO_arg {w : World} {r : Reach} {base : Nat} {t : TypeId} {fs : Array Field} (ht : Try.prog.underlying t = some (.struct fs)) {k : Nat} {α : Type} {R : List Value → α → Prop} {sz : α → Nat} (h : Opens w t k R sz) {H : Type} {enc : TypeId × Value → H} {v : Value} {d : DataW H} {p : List MemPlace}
    (hv : Value.okWide Try.prog w r base t v) (hd : DataW.Trod enc Try.prog w 0 (fun _ => true) true t v d p) : ∃ cs a, v = .agg cs ∧ R cs.toList a ∧ sz a ≤ Rows.uptoBulk d := by
  obtain ⟨cs, rfl, _⟩ := okWide_struct ht hv
  obtain ⟨a, ha, hs, _⟩ := open_arg h hd
  exact ⟨cs, a, rfl, by simpa [Value.cells] using ha, hs⟩
def szEnt (x : Ent) : Nat := x.nm.length + x.id.length + 1
theorem opens_ent (w : World) : Opens w 42 3 (fun cs (x : Ent) => cs = entV x) szEnt :=
  (opens_struct Try.underlying42 (by kernel_rfl) (opensF_cons rfl (opens_string Try.underlying9 (by kernel_rfl) w) (opensF_cons rfl (opens_bool Try.underlying4 (by kernel_rfl) w) (opensF_cons rfl (opens_string Try.underlying9 (by kernel_rfl) w) (opensF_nil w 3))))).map
    (fun a => ⟨a.1, a.2.1, a.2.2.1⟩) (by
      rintro cs ⟨a, b, c, _⟩ ⟨c1, c2, rfl, _, h1, d1, d2, rfl, _, h2, e1, e2, rfl, _, h3, h4⟩
      simp only [strR, boolR] at h1 h2 h3
      simp only [nilR] at h4
      subst h1
      subst h2
      subst h3
      subst h4
      rfl) (by intro a; simp only [szEnt]; omega)
structure ObIn (w : World) (o : Ob) (A : Option Addr) (c : Nat) (B : Option Addr) (d : Nat) : Prop where
  row : ObR w o A c B d
  size : ObSz 1048576 o
  kind : -9223372036854775808 ≤ o.kind ∧ o.kind ≤ 9223372036854775807
  time : -9223372036854775808 ≤ o.time ∧ o.time ≤ 9223372036854775807
theorem ObSz.up {k k' : Nat} {o : Ob} (h : ObSz k o) (hk : k ≤ k') : ObSz k' o :=
  ⟨Nat.le_trans h.data hk, Nat.le_trans h.ents hk, fun x hx => ⟨Nat.le_trans (h.each x hx).1 hk, Nat.le_trans (h.each x hx).2 hk⟩, Nat.le_trans h.tree hk, Nat.le_trans h.pars hk, fun x hx => Nat.le_trans (h.peach x hx) hk, Nat.le_trans h.who hk, Nat.le_trans h.note hk, Nat.le_trans h.target hk⟩
def szOb (o : Ob) : Nat := o.data.length + szs szEnt o.ents + o.tree.length + szs szStr o.pars + o.who.length + o.note.length + o.target.length
def inI (n : Int) : Prop := -9223372036854775808 ≤ n ∧ n ≤ 9223372036854775807
theorem opens_object (w : World) : Opens w 25 9 (fun cs (o : Ob) => ∃ A c B d, cs = (obA o A c B d).toList ∧ sliceR w 3 (fun cs (x : Ent) => cs = entV x) [.slice A o.ents.length c] o.ents ∧ sliceR w 1 strR [.slice B o.pars.length d] o.pars ∧ inI o.kind ∧ inI o.time) szOb :=
  (opens_struct Try.underlying25 (by kernel_rfl)
    (opensF_cons rfl (opens_int Try.underlying3 (by kernel_rfl) w)
    (opensF_cons rfl (opens_string Try.underlying9 (by kernel_rfl) w)
    (opensF_cons rfl (opens_slice Try.underlying22 (by kernel_rfl) (opens_ent w) (by omega))
    (opensF_cons rfl (opens_string Try.underlying9 (by kernel_rfl) w)
    (opensF_cons rfl (opens_slice Try.underlying23 (by kernel_rfl) (opens_string Try.underlying9 (by kernel_rfl) w) (by omega))
    (opensF_cons rfl (opens_string Try.underlying9 (by kernel_rfl) w)
    (opensF_cons rfl (opens_string Try.underlying9 (by kernel_rfl) w)
    (opensF_cons rfl (opens_int Try.underlying3 (by kernel_rfl) w)
    (opensF_cons rfl (opens_string Try.underlying9 (by kernel_rfl) w) (opensF_nil w 9))))))))))).map
    (fun a => ⟨a.1, a.2.1, a.2.2.1, a.2.2.2.1, a.2.2.2.2.1, a.2.2.2.2.2.1, a.2.2.2.2.2.2.1, a.2.2.2.2.2.2.2.1, a.2.2.2.2.2.2.2.2.1⟩) (by
      rintro cs ⟨k, dt, en, tr, pa, wh, no, ti, ta, _⟩ ⟨c1, c2, rfl, _, h1, d1, d2, rfl, _, h2, e1, e2, rfl, _, h3, f1, f2, rfl, _, h4, g1, g2, rfl, _, h5, i1, i2, rfl, _, h6, j1, j2, rfl, _, h7, k1, k2, rfl, _, h8, l1, l2, rfl, _, h9, h10⟩
      have h3' := h3
      have h5' := h5
      obtain ⟨A, c, hc, _⟩ := h3
      obtain ⟨B, d, hd, _⟩ := h5
      obtain ⟨h1, q1, q2⟩ := h1
      obtain ⟨h8, q3, q4⟩ := h8
      simp only [strR] at h2 h4 h6 h7 h9
      simp only at hc hd h1 h8
      simp only [nilR] at h10
      subst hc
      subst hd
      subst h1
      subst h2
      subst h4
      subst h6
      subst h7
      subst h8
      subst h9
      subst h10
      exact ⟨A, c, B, d, rfl, h3', h5', ⟨q1, q2⟩, ⟨q3, q4⟩⟩) (by intro a; simp only [szOb]; unfold szStr szEnt; omega)
theorem ob_in {w : World} {o : Ob} {A : Option Addr} {c : Nat} {B : Option Addr} {d : Nat} (h1 : sliceR w 3 (fun cs (x : Ent) => cs = entV x) [.slice A o.ents.length c] o.ents) (h2 : sliceR w 1 strR [.slice B o.pars.length d] o.pars) (hk : inI o.kind) (ht : inI o.time) (hs : szOb o ≤ 1048576) : ObIn w o A c B d := by
  unfold szOb at hs
  have b := strs_in h2 (by omega)
  obtain ⟨A', c', e', k1, k2, hrow⟩ := sliceR_row entV (fun _ => rfl) (by omega) (fun ci x h => h) h1
  simp only [List.cons.injEq, and_true, Value.slice.injEq, true_and] at e'
  obtain ⟨rfl, rfl⟩ := e'
  obtain ⟨A2, c2, e2, _, k3, _⟩ := h1
  simp only [List.cons.injEq, and_true, Value.slice.injEq, true_and] at e2
  obtain ⟨rfl, rfl⟩ := e2
  have hl := szs_len szEnt (fun x => by unfold szEnt; omega) o.ents
  refine ⟨⟨hrow, b.row, fun h => ?_, b.nil, k1, b.cap⟩, ⟨by omega, by omega, fun x hx => ?_, by omega, b.len, b.size, by omega, by omega, by omega⟩, hk, ht⟩
  · have := k3.2 h
    omega
  · have := szs_mem szEnt hx
    unfold szEnt at this hs
    omega
theorem open_object {w : World} {r : Reach} {base : Nat} {H : Type} {enc : TypeId × Value → H} {v : Value} {d : DataW H} {p : List MemPlace}
    (hv : Value.okWide Try.prog w r base 25 v) (hd : DataW.Trod enc Try.prog w 0 (fun _ => true) true 25 v d p) (hb : Rows.uptoBulk d ≤ 1048576) :
    ∃ o A c B e, v = .agg (obA o A c B e) ∧ ObIn w o A c B e := by
  obtain ⟨cs, o, rfl, ⟨A, c, B, e, hc, h1, h2, h3, h4⟩, hs⟩ := open_structO_arg Try.underlying25 (opens_object w) hv hd
  refine ⟨o, A, c, B, e, ?_, ob_in h1 h2 h3 h4 (by omega)⟩
  congr 1
  exact Array.toList_inj.1 hc
end Go.Proofs.Ytmgpllakpgjicaa

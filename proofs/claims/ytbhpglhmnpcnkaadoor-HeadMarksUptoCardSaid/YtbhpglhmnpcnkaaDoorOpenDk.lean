/-
  How a disk, an argument by value, is opened. No conditions: a library text.
-/
import Derived.Test.YtbhpglhmnpcnkaaDoorOpen
import Derived.Test.YtbhpglhmnpcnkaaDoorDiskA
namespace Go.Proofs.YtbhpglhmnpcnkaaDoor
set_option maxRecDepth 100000
open Go.RowKit Go.ChangeShapes Go.WideShapes

theorem open_structD_arg {w : World} {r : Reach} {base : Nat} {t : TypeId} {fs : Array Field} (ht : Tryd.prog.underlying t = some (.struct fs)) {k : Nat} {α : Type} {R : List Value → α → Prop} {sz : α → Nat} (h : Opens w t k R sz) {H : Type} {enc : TypeId × Value → H} {v : Value} {d : DataW H} {p : List MemPlace}
    (hv : Value.okWide Tryd.prog w r base t v) (hd : DataW.Trod enc Tryd.prog w 0 (fun _ => true) true t v d p) : ∃ cs a, v = .agg cs ∧ R cs.toList a ∧ sz a ≤ Rows.uptoBulk d := by
  obtain ⟨cs, rfl, _⟩ := okWide_struct ht hv
  obtain ⟨a, ha, hs, _⟩ := open_arg h hd
  exact ⟨cs, a, rfl, by simpa [Value.cells] using ha, hs⟩
def szFile (f : Fl) : Nat := f.1.length + 1 + (f.2.1.length + 1 + (f.2.2.length + 1))
theorem opens_file (w : World) : Opens w 87 3 (fun cs (x : Fl) => cs = fileC x) szFile :=
  (opens_struct Tryd.underlying87 (by kernel_rfl) (opensF_cons rfl (opens_string Tryd.underlying9 (by kernel_rfl) w) (opensF_cons rfl (opens_string Tryd.underlying9 (by kernel_rfl) w) (opensF_cons rfl (opens_string Tryd.underlying9 (by kernel_rfl) w) (opensF_nil w 3))))).map
    (fun a => (a.1, a.2.1, a.2.2.1)) (by
      rintro cs ⟨a, b, c, _⟩ ⟨c1, c2, rfl, _, h1, d1, d2, rfl, _, h2, e1, e2, rfl, _, h3, h4⟩
      simp only [strR] at h1 h2 h3
      subst h1
      subst h2
      subst h3
      subst h4
      rfl) (by intro a; simp only [szFile]; omega)
theorem opens_disk (w : World) : Opens w 24 2 (fun cs (x : List Fl × Int) => ∃ A c, cs = [.slice A x.1.length c, .int .i64 x.2] ∧ sliceR w 3 (fun cs (x : Fl) => cs = fileC x) [.slice A x.1.length c] x.1 ∧ -9223372036854775808 ≤ x.2 ∧ x.2 ≤ 9223372036854775807) (fun x => szs szFile x.1) :=
  (opens_struct Tryd.underlying24 (by kernel_rfl) (opensF_cons rfl (opens_slice Tryd.underlying22 (by kernel_rfl) (opens_file w) (by omega)) (opensF_cons rfl (opens_int Tryd.underlying3 (by kernel_rfl) w) (opensF_nil w 2)))).map
    (fun a => (a.1, a.2.1)) (by
      rintro cs ⟨fs, f, _⟩ ⟨c1, c2, rfl, _, h1, d1, d2, rfl, _, h2, h3⟩
      have h1' := h1
      obtain ⟨A, c, hc, _⟩ := h1
      simp only at hc
      subst hc
      obtain ⟨h4, h5⟩ := h2
      simp only at h4
      subst h4
      simp only [nilR] at h3
      subst h3
      exact ⟨A, c, rfl, h1', h5⟩) (by intro a; simp only; omega)
/-- what is known of a disk that came in -/
structure DiskIn (w : World) (A : Option Addr) (c : Nat) (fs : List Fl) (f : Int) : Prop where
  row : FRow w A fs.length fs
  len : fs.length ≤ 1048576
  size : ∀ x ∈ fs, x.1.length ≤ 1048576 ∧ x.2.1.length ≤ 1048576 ∧ x.2.2.length ≤ 1048576
  nil : A = none → fs.length = 0 ∧ c = 0
  fuse : -9223372036854775808 ≤ f ∧ f ≤ 9223372036854775807
  cap : fs.length ≤ c
theorem open_disk {w : World} {r : Reach} {base : Nat} {H : Type} {enc : TypeId × Value → H} {v : Value} {d : DataW H} {p : List MemPlace}
    (hv : Value.okWide Tryd.prog w r base 24 v) (hd : DataW.Trod enc Tryd.prog w 0 (fun _ => true) true 24 v d p) (hb : Rows.uptoBulk d ≤ 1048576) :
    ∃ A c fs f, v = diskV A fs.length c f ∧ DiskIn w A c fs f := by
  obtain ⟨cs, ⟨fs, f⟩, rfl, ⟨A, c, hc, hR, hf⟩, hs⟩ := open_structD_arg Tryd.underlying24 (opens_disk w) hv hd
  simp only at hc hR hf hs
  obtain ⟨A', c', e', h1, h2, hrow⟩ := sliceR_row fileC (fun _ => rfl) (by omega) (fun ci x h => h) hR
  simp only [List.cons.injEq, and_true, Value.slice.injEq, true_and] at e'
  obtain ⟨rfl, rfl⟩ := e'
  obtain ⟨A2, c2, e2, _, h3, _⟩ := hR
  simp only [List.cons.injEq, and_true, Value.slice.injEq, true_and] at e2
  obtain ⟨rfl, rfl⟩ := e2
  have hl := szs_len szFile (fun x => by unfold szFile; omega) fs
  refine ⟨A, c, fs, f, ?_, ⟨hrow, by omega, fun x hx => ?_, fun h => ?_, hf, h1⟩⟩
  · unfold diskV
    congr 1
    exact Array.toList_inj.1 hc
  · have := szs_mem szFile hx
    unfold szFile at this hs
    refine ⟨?_, ?_, ?_⟩ <;> omega
  · have := h3.2 h
    omega
end Go.Proofs.YtbhpglhmnpcnkaaDoor

/-
  How a sum's state, an argument by value, is opened. No conditions: a library text.
-/
import Derived.Test.YtojiheelacmniaaDoorOpen
import Derived.Test.YtojiheelacmniaaDoorSum
namespace Go.Proofs.YtojiheelacmniaaDoor
open Go.RowKit Go.ChangeShapes Go.WideShapes

theorem open_struct_arg {w : World} {r : Reach} {base : Nat} {t : TypeId} {fs : Array Field} (ht : Tryd.prog.underlying t = some (.struct fs)) {k : Nat} {α : Type} {R : List Value → α → Prop} {sz : α → Nat} (h : Opens w t k R sz) {H : Type} {enc : TypeId × Value → H} {v : Value} {d : DataW H} {p : List MemPlace}
    (hv : Value.okWide Tryd.prog w r base t v) (hd : DataW.Trod enc Tryd.prog w 0 (fun _ => true) true t v d p) : ∃ cs a, v = .agg cs ∧ R cs.toList a ∧ sz a ≤ Rows.uptoBulk d := by
  obtain ⟨cs, rfl, _⟩ := okWide_struct ht hv
  obtain ⟨a, ha, hs, _⟩ := open_arg h hd
  exact ⟨cs, a, rfl, by simpa [Value.cells] using ha, hs⟩
def u32R (cs : List Value) (x : UInt32) : Prop := cs = [u32V x]
theorem opens_u32 {t : TypeId} (ht : Tryd.prog.underlying t = some (.int .u32)) (hc : Tryd.prog.cellsOf t = 1) (w : World) : Opens w t 1 u32R (fun _ => 1) :=
  ⟨hc, fun enc fuel cs x h => by
    obtain ⟨n, rfl, rfl, hw⟩ := DataW.trod_int ht h
    have hn : 0 ≤ n ∧ n ≤ 4294967295 := by simpa [Lit.wf, IntKind.min, IntKind.max, IntKind.signed, IntKind.bits] using hw
    refine ⟨rfl, UInt32.ofNat n.toNat, ?_, by simp [Rows.uptoBulk]⟩
    unfold u32R u32V
    have : ((UInt32.ofNat n.toNat).toNat : Int) = n := by
      simp
      omega
    rw [this]⟩
/-- an array of one-cell elements -/
theorem opens_array {w : World} {t e : TypeId} {n : Nat} {α : Type} {R : List Value → α → Prop} {sz : α → Nat} (ht : Tryd.prog.underlying t = some (.array n e)) (hc : Tryd.prog.cellsOf t = n) (h : Opens w e 1 R sz) :
    Opens w t n (fun cs (xs : List α) => xs.length = n ∧ ∀ (i : Nat) (h : i < xs.length), R ((cs.drop i).take 1) xs[i]) (fun _ => 1) :=
  ⟨hc, fun enc fuel cs x hx => by
    obtain ⟨xs, m, _, rfl, hl, hxl, hf⟩ := DataW.trod_array ht hx
    have hi : ∀ i, i < n → ∃ a : α, R ((cs.drop i).take 1) a := by
      intro i hi
      have h1 := hf i hi
      rw [h.cells, Nat.mul_one, List.getElem?_eq_getElem (by omega)] at h1
      obtain ⟨_, a, ha, _⟩ := h.open_ enc m _ _ h1
      exact ⟨a, ha⟩
    obtain ⟨ys, hyl, hys⟩ := build_list (fun i (a : α) => R ((cs.drop i).take 1) a) n hi
    exact ⟨by omega, ys, ⟨hyl, hys⟩, by simp [Rows.uptoBulk]⟩⟩
theorem opens_heads (w : World) : Opens w 26 8 (fun cs (s : S8) => cs = (s8V s).toList) (fun _ => 1) := by
  refine ⟨by kernel_rfl, fun enc fuel cs x hx => ?_⟩
  obtain ⟨hl, ys, ⟨hyl, hys⟩, hb⟩ := (opens_array Tryd.underlying26 (by kernel_rfl) (opens_u32 Tryd.underlying25 (by kernel_rfl) w)).open_ enc fuel cs x hx
  match ys, hyl with
  | [a, b, c, d, e, f, g, h], _ =>
    refine ⟨hl, ⟨a, b, c, d, e, f, g, h⟩, ?_, hb⟩
    match cs, hl with
    | [v0, v1, v2, v3, v4, v5, v6, v7], _ =>
      have h0 := hys 0 (by simp)
      have h1 := hys 1 (by simp)
      have h2 := hys 2 (by simp)
      have h3 := hys 3 (by simp)
      have h4 := hys 4 (by simp)
      have h5 := hys 5 (by simp)
      have h6 := hys 6 (by simp)
      have h7 := hys 7 (by simp)
      simp [u32R] at h0 h1 h2 h3 h4 h5 h6 h7
      simp [s8V, h0, h1, h2, h3, h4, h5, h6, h7]
theorem opens_state (w : World) : Opens w 28 10 (fun cs (x : S8 × List UInt8 × Int) => cs = (stCells x.1 x.2.1 x.2.2).toList ∧ (-9223372036854775808 ≤ x.2.2 ∧ x.2.2 ≤ 9223372036854775807)) (fun x => x.2.1.length) :=
  (opens_struct Tryd.underlying28 (by kernel_rfl) (opensF_cons rfl (opens_heads w) (opensF_cons rfl (opens_string Tryd.underlying9 (by kernel_rfl) w) (opensF_cons rfl (opens_int Tryd.underlying3 (by kernel_rfl) w) (opensF_nil w 10))))).map
    (fun a => (a.1, a.2.1, a.2.2.1)) (by
      rintro cs ⟨s, r, m, _⟩ ⟨c1, c2, rfl, _, h1, d1, d2, rfl, _, h2, e1, e2, rfl, _, h3, h4⟩
      obtain ⟨rfl, hm⟩ := h3
      simp only at h1 h2 h4
      subst h1
      subst h2
      subst h4
      exact ⟨rfl, hm⟩) (by intro a; simp only; omega)
theorem open_state {w : World} {r : Reach} {base : Nat} {H : Type} {enc : TypeId × Value → H} {v : Value} {d : DataW H} {p : List MemPlace}
    (hv : Value.okWide Tryd.prog w r base 28 v) (hd : DataW.Trod enc Tryd.prog w 0 (fun _ => true) true 28 v d p) (hb : Rows.uptoBulk d ≤ 1048576) :
    ∃ s r m, v = stV s r m ∧ r.length ≤ 1048576 ∧ -9223372036854775808 ≤ m ∧ m ≤ 9223372036854775807 := by
  obtain ⟨cs, ⟨s, r, m⟩, rfl, ⟨hc, hm⟩, hs⟩ := open_struct_arg Tryd.underlying28 (opens_state w) hv hd
  refine ⟨s, r, m, ?_, by simp only at hs; omega, hm⟩
  unfold stV
  congr 1
  exact Array.toList_inj.1 hc
end Go.Proofs.YtojiheelacmniaaDoor

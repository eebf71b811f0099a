/-
  How a slice of strings is opened. No conditions: a library text.
-/
import Derived.Test.YtjgkefjocakggaaDoorOpen
namespace Go.Proofs.YtjgkefjocakggaaDoor
open Go.RowKit Go.ChangeShapes Go.WideShapes

theorem flat_single {α β : Type} (f : α → β) : ∀ xs : List α, xs.flatMap (fun l => [f l]) = xs.map f
  | [] => rfl
  | x :: r => by rw [List.flatMap_cons, flat_single f r]; rfl
theorem open_strs {w : World} {r : Reach} {base : Nat} {H : Type} {enc : TypeId × Value → H} {v : Value} {d : DataW H} {p : List MemPlace}
    (hv : Value.okWide Tryd.prog w r base 41 v) (hd : DataW.Trod enc Tryd.prog w 0 (fun _ => true) true 41 v d p) (hb : Rows.uptoBulk d ≤ 1048576) :
    ∃ A c l, v = .slice A l.length c ∧ StrRow w A l.length l ∧ l.length ≤ 1048576 ∧ (∀ x ∈ l, x.length ≤ 1048576) ∧ l.length ≤ c ∧ c ≤ maxLen ∧ (A = none → c = 0) := by
  obtain ⟨A, c, xs, e, hR, hs⟩ := open_slice_arg Tryd.underlying41 (opens_slice Tryd.underlying41 (by kernel_rfl) (opens_string Tryd.underlying9 (by kernel_rfl) w) (by omega)) hv hd
  obtain ⟨A', c', e', h1, h2, hrow⟩ := sliceR_row (k := 1) (fun l => [strV l]) (fun _ => rfl) (by omega) (fun ci x h => h) hR
  simp only [List.cons.injEq, and_true, Value.slice.injEq, true_and] at e'
  obtain ⟨rfl, rfl⟩ := e'
  obtain ⟨A2, c2, e2, _, h3, _⟩ := hR
  simp only [List.cons.injEq, and_true, Value.slice.injEq, true_and] at e2
  obtain ⟨rfl, rfl⟩ := e2
  have hl := szs_len (fun l : List UInt8 => l.length + 1) (fun x => Nat.succ_le_succ (Nat.zero_le _)) xs
  rw [flat_single] at hrow
  refine ⟨A, c, xs, e, hrow, by omega, fun x hx => ?_, h1, h2, h3.2⟩
  have h5 : x.length + 1 ≤ _ := szs_mem (fun l : List UInt8 => l.length + 1) hx
  omega
end Go.Proofs.YtjgkefjocakggaaDoor

/-
  cartularyref.SameDisk, CopyDisk, slices.Clone of files, strings.Compare by their contracts.
-/
import Derived.Test.YtmgpllakpgjicaaDoorDiskL
import Derived.Test.YtmgpllakpgjicaaDoorLies
import Derived.Laws.AppendOwnNone
import Derived.Lib.SliceRun
namespace Go.Proofs.YtmgpllakpgjicaaDoor
set_option maxRecDepth 100000
open Go.RowKit
set_option linter.unusedVariables false
/-- a slice of files -/
def FRow (w : World) (A : Option Addr) (n : Nat) (fs : List Fl) : Prop := Row w 3 A n (fs.flatMap fileC)
theorem FRow.gr {w w' : World} {A : Option Addr} {n : Nat} {fs : List Fl} (h : FRow w A n fs) (g : Gr w w') : FRow w' A n fs := Row.gr h g
theorem FRow.len {w : World} {A : Option Addr} {n : Nat} {fs : List Fl} (h : FRow w A n fs) : fs.length = n := Row.flen fileC (fun _ => rfl) (by omega) h
theorem FRow.cell {w : World} {A : Option Addr} {n : Nat} {fs : List Fl} (h : FRow w A n fs) {i : Nat} (hi : i < fs.length) :
    ∃ b off, A = some ⟨b, off, none⟩ ∧ w.cell? ⟨b, off + i * 3, none⟩ = some (.string (bs fs[i].1)) ∧ w.cell? ⟨b, off + i * 3 + 1, none⟩ = some (.string (bs fs[i].2.1)) ∧ w.cell? ⟨b, off + i * 3 + 2, none⟩ = some (.string (bs fs[i].2.2)) := by
  obtain ⟨b, off, e, _, hc⟩ := Row.fcell fileC (fun _ => rfl) (by omega) h hi
  exact ⟨b, off, e, hc 0 _ rfl, hc 1 _ rfl, hc 2 _ rfl⟩
/-! ### append of a row that may be nil -/
theorem run_append_row {t e ty : TypeId} {z : Value} {size bytes : Nat} (E : ElemOk t e z size bytes) {B : Nat} {w : World}
    {A0 : Option Addr} {n0 cap0 : Nat} {xs : List Value} (hown : w.ownsRow B e size (.slice A0 n0 cap0) n0 xs)
    {A : Option Addr} {n c : Nat} {vs : List Value} (hrow : Row w size A n vs) (hA : A = none → n = 0 ∧ c = 0) (h1 : ∀ u ∈ vs, u.oneCell' = true)
    (hbytes : (n0 + n) * bytes ≤ 140737488355328) (h63 : n0 + n ≤ maxLen) (hB : B ≤ w.heap.size) :
    ∃ A' cap' w', (Builtin.append_ #[t, t] ty #[.slice A0 n0 cap0, .slice A n c]).run Tryd.prog w = .ok (.slice A' (n0 + n) cap') w' ∧ w'.ownsRow B e size (.slice A' (n0 + n) cap') (n0 + n) (xs ++ vs) ∧ w.grownBy w' (Value.ownBlock (.slice A0 n0 cap0)) := by
  obtain ⟨i0, hi0, hz0, hz1, hz2⟩ := info_parts E.info
  cases A with
  | none =>
    obtain ⟨rfl, rfl⟩ := hA rfl
    have hv : vs = [] := List.eq_nil_of_length_eq_zero (by have := hrow.len; omega)
    subst hv
    refine ⟨A0, cap0, w, ?_, by rw [List.append_nil]; exact hown, ⟨rfl, rfl, rfl, Nat.le_refl _, fun _ _ _ => rfl⟩⟩
    exact run_append_owned_none w B t ty e i0 size E.under hi0 _ n0 xs hown
  | some ad =>
    have hnews : ∀ j u, vs[j]? = some u → w.cell? (ad.add j) = some u := by
      intro j u hu
      have hj : 0 < n := by
        rcases Nat.eq_zero_or_pos n with h | h
        · have := hrow.len
          rw [h, Nat.zero_mul] at this
          rw [List.eq_nil_of_length_eq_zero this] at hu
          cases hu
        · exact h
      obtain ⟨b, off, e, hc⟩ := Row.at_ hrow hj
      injection e with e
      subst e
      have : (⟨b, off, none⟩ : Addr).add j = ⟨b, off + j, none⟩ := by unfold Addr.add; split <;> simp_all
      rw [this]
      exact hc j u hu
    obtain ⟨v', w', hr, ho, hg, _⟩ := run_append_own (P := Tryd.prog) w B t ty e i0 z size bytes E.under hi0 hz0 hz1 hz2 E.zcells E.pos _ n0 xs hown ad n c vs hrow.len hnews h1 h63 hbytes hB
    rcases ho.2 with ⟨rfl, h0⟩ | ⟨g, cap', cur, rfl, _⟩
    · exact ⟨none, 0, w', by rw [hr, h0], by rw [h0] at ho ⊢; exact ho, hg⟩
    · exact ⟨_, _, w', hr, ho, hg⟩
theorem wp_append_row {o : Oper} {a : Act} {K : Act → World → Prop} {Q : Exit → Act → World → Prop} {t e : TypeId} {z : Value} {size bytes : Nat} (E : ElemOk t e z size bytes) (s x : Operand)
    (ho : o.op = .call { callee := .builtin .append, args := #[s, x], argTypes := #[t, t] }) {B : Nat} {w : World}
    {A0 : Option Addr} {n0 cap0 : Nat} {xs : List Value} (hs : a.eval s = .slice A0 n0 cap0) (hown : w.ownsRow B e size (.slice A0 n0 cap0) n0 xs)
    {A : Option Addr} {n c : Nat} {vs : List Value} (hx : a.eval x = .slice A n c) (hrow : Row w size A n vs) (hA : A = none → n = 0 ∧ c = 0) (h1 : ∀ u ∈ vs, u.oneCell' = true)
    (hbytes : (n0 + n) * bytes ≤ 140737488355328) (h63 : n0 + n ≤ maxLen) (hB : B ≤ w.heap.size)
    (h : ∀ A' cap' w', w'.ownsRow B e size (.slice A' (n0 + n) cap') (n0 + n) (xs ++ vs) → w.grownBy w' (Value.ownBlock (.slice A0 n0 cap0)) → K (a.put o.dst (.slice A' (n0 + n) cap')) w') : o.wp Tryd.prog a w K Q := by
  obtain ⟨A', cap', w', hr, h2, h3⟩ := run_append_row (ty := o.type) E hown hrow hA h1 hbytes h63 hB
  unfold Oper.wp execOp
  simp only [ho, resolve, invoke, builtin, Sem.run_bind, Sem.run_pure, Result.andThen_ok, List.map_toArray, List.map_cons, List.map_nil, hs, hx, hr]
  exact h A' cap' w' h2 h3
theorem wpList_append_row {ops : Array Oper} {rest : List Oper} {o : Oper} {a : Act} {Q : Exit → Act → World → Prop} {t e : TypeId} {z : Value} {size bytes : Nat} (E : ElemOk t e z size bytes) (hgd : o.guard = none) (s x : Operand)
    (ho : o.op = .call { callee := .builtin .append, args := #[s, x], argTypes := #[t, t] }) {B : Nat} {w : World}
    {A0 : Option Addr} {n0 cap0 : Nat} {xs : List Value} (hs : a.eval s = .slice A0 n0 cap0) (hown : w.ownsRow B e size (.slice A0 n0 cap0) n0 xs)
    {A : Option Addr} {n c : Nat} {vs : List Value} (hx : a.eval x = .slice A n c) (hrow : Row w size A n vs) (hA : A = none → n = 0 ∧ c = 0) (h1 : ∀ u ∈ vs, u.oneCell' = true)
    (hbytes : (n0 + n) * bytes ≤ 140737488355328) (h63 : n0 + n ≤ maxLen) (hB : B ≤ w.heap.size)
    (h : ∀ A' cap' w', w'.ownsRow B e size (.slice A' (n0 + n) cap') (n0 + n) (xs ++ vs) → w.grownBy w' (Value.ownBlock (.slice A0 n0 cap0)) → wpList Tryd.prog ops Q rest (a.put o.dst (.slice A' (n0 + n) cap')) w') : wpList Tryd.prog ops Q (o :: rest) a w :=
  wpList_plain hgd fun _ hK => wp_append_row E s x ho hs hown hx hrow hA h1 hbytes h63 hB fun A' cap' w' h2 h3 => hK _ _ (h A' cap' w' h2 h3)
theorem step_append_row {ops : Array Oper} {o : Oper} {a : Act} {K : Act → World → Prop} {Q : Exit → Act → World → Prop} {X : Prop} {t e : TypeId} {z : Value} {size bytes : Nat} (E : ElemOk t e z size bytes) (hgd : o.guard = none) (s x : Operand)
    (ho : o.op = .call { callee := .builtin .append, args := #[s, x], argTypes := #[t, t] }) {B : Nat} {w : World}
    {A0 : Option Addr} {n0 cap0 : Nat} {xs : List Value} (hs : a.eval s = .slice A0 n0 cap0) (hown : w.ownsRow B e size (.slice A0 n0 cap0) n0 xs)
    {A : Option Addr} {n c : Nat} {vs : List Value} (hx : a.eval x = .slice A n c) (hrow : Row w size A n vs) (hA : A = none → n = 0 ∧ c = 0) (h1 : ∀ u ∈ vs, u.oneCell' = true)
    (hbytes : (n0 + n) * bytes ≤ 140737488355328) (h63 : n0 + n ≤ maxLen) (hB : B ≤ w.heap.size)
    (h : ∀ A' cap' w', w'.ownsRow B e size (.slice A' (n0 + n) cap') (n0 + n) (xs ++ vs) → w.grownBy w' (Value.ownBlock (.slice A0 n0 cap0)) → K (a.put o.dst (.slice A' (n0 + n) cap')) w') :
    if Region.wanted o (yielded ops a.tmps) = true then Oper.wp Tryd.prog o a w K Q else X := by
  have hw : Region.wanted o (yielded ops a.tmps) = true := by simp [Region.wanted, hgd]
  rw [if_pos hw]
  exact wp_append_row E s x ho hs hown hx hrow hA h1 hbytes h63 hB h
end Go.Proofs.YtmgpllakpgjicaaDoor

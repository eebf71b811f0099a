/-
  cartularyref.SameDisk, CopyDisk, slices.Clone of files, strings.Compare by their contracts.
-/
import Derived.Test.YtdpombnelangjaaGreatDoorDiskL
import Derived.Test.YtdpombnelangjaaGreatDoorLies
import Derived.Laws.AppendOwnNone
import Derived.Lib.SliceRun
namespace Go.Proofs.YtdpombnelangjaaGreatDoor
set_option maxRecDepth 100000
open Go.RowKit
set_option linter.unusedVariables false
theorem aggDisk : AggOk 36 2 := ⟨⟨_, Tryz.underlying36, rfl⟩, by kernel_rfl⟩
theorem A.file : AggOk 70 3 := ⟨⟨_, Tryz.underlying70, rfl⟩, by kernel_rfl⟩
theorem E.file : ElemOk 34 70 (.agg #[.string (bs []), .string (bs []), .string (bs [])]) 3 48 := ⟨Tryz.underlying34, by kernel_rfl, rfl, by omega⟩
/-- a slice of files -/
def FRow (w : World) (A : Option Addr) (n : Nat) (fs : List Fl) : Prop := Row w 3 A n (fs.flatMap fileC)
theorem FRow.gr {w w' : World} {A : Option Addr} {n : Nat} {fs : List Fl} (h : FRow w A n fs) (g : Gr w w') : FRow w' A n fs := Row.gr h g
theorem FRow.len {w : World} {A : Option Addr} {n : Nat} {fs : List Fl} (h : FRow w A n fs) : fs.length = n := Row.flen fileC (fun _ => rfl) (by omega) h
theorem FRow.cell {w : World} {A : Option Addr} {n : Nat} {fs : List Fl} (h : FRow w A n fs) {i : Nat} (hi : i < fs.length) :
    ∃ b off, A = some ⟨b, off, none⟩ ∧ w.cell? ⟨b, off + i * 3, none⟩ = some (.string (bs fs[i].1)) ∧ w.cell? ⟨b, off + i * 3 + 1, none⟩ = some (.string (bs fs[i].2.1)) ∧ w.cell? ⟨b, off + i * 3 + 2, none⟩ = some (.string (bs fs[i].2.2)) := by
  obtain ⟨b, off, e, _, hc⟩ := Row.fcell fileC (fun _ => rfl) (by omega) h hi
  exact ⟨b, off, e, hc 0 _ rfl, hc 1 _ rfl, hc 2 _ rfl⟩
def diskV (A : Option Addr) (n cap : Nat) (fuse : Int) : Value := .agg #[.slice A n cap, .int .i64 fuse]

set_option maxRecDepth 100000 in
set_option maxHeartbeats 1000000 in
theorem compare_any (a b : List UInt8) (w : World) :
    Calls Tryz.prog 159 #[.string (bs a), .string (bs b)] w fun e w' => e = .returned (.int .i64 (Lib.compareBytes a b)) ∧ w' = w := by
  have HC : Sec (Calls Tryz.prog 194 #[.string (bs a), .string (bs b)] w fun e w' => e = .returned (.int .i64 (Lib.compareBytes a b)) ∧ w' = w) := sec (by
    have hr : ∀ w, (Extern.BytealgCompare.compare #[.string (bs a), .string (bs b)]).run Tryz.prog w = .ok (.int .i64 (Lib.compareBytes a b)) w := by
      intro w
      have := Lib.run_compareString (P := Tryz.prog) (bs a) (bs b) w
      rw [bs_data, bs_data] at this
      exact this
    go_enter Tryz.func194, Tryz.ntmps194
    go_wp2
    rw [run_callFunc_extern Tryz.func218 (by kernel_rfl) (by kernel_rfl) (by kernel_rfl) (e := Extern.BytealgCompare.compare) (by kernel_rfl), hr]
    simp only [Result.andThen]
    rw [Oper.upon_value]
    go_wp2
    go_ret
    exact ⟨rfl, rfl⟩)
  go_enter Tryz.func159, Tryz.ntmps159
  go_wp2_with (go_at_call 194; refine Calls.mono HC.out ?_; rintro e w1 ⟨rfl, rfl⟩)
  go_ret
  exact ⟨rfl, rfl⟩

/-! ### append of a row that may be nil -/
theorem run_append_row {t e ty : TypeId} {z : Value} {size bytes : Nat} (E : ElemOk t e z size bytes) {B : Nat} {w : World}
    {A0 : Option Addr} {n0 cap0 : Nat} {xs : List Value} (hown : w.ownsRow B e size (.slice A0 n0 cap0) n0 xs)
    {A : Option Addr} {n c : Nat} {vs : List Value} (hrow : Row w size A n vs) (hA : A = none → n = 0 ∧ c = 0) (h1 : ∀ u ∈ vs, u.oneCell' = true)
    (hbytes : (n0 + n) * bytes ≤ 140737488355328) (h63 : n0 + n ≤ maxLen) (hB : B ≤ w.heap.size) :
    ∃ A' cap' w', (Builtin.append_ #[t, t] ty #[.slice A0 n0 cap0, .slice A n c]).run Tryz.prog w = .ok (.slice A' (n0 + n) cap') w' ∧ w'.ownsRow B e size (.slice A' (n0 + n) cap') (n0 + n) (xs ++ vs) ∧ w.grownBy w' (Value.ownBlock (.slice A0 n0 cap0)) := by
  obtain ⟨i0, hi0, hz0, hz1, hz2⟩ := info_parts E.info
  cases A with
  | none =>
    obtain ⟨rfl, rfl⟩ := hA rfl
    have hv : vs = [] := List.eq_nil_of_length_eq_zero (by have := hrow.len; omega)
    subst hv
    refine ⟨A0, cap0, w, ?_, by rw [List.append_nil]; exact hown, ⟨rfl, rfl, rfl, Nat.le_refl _, fun _ _ _ => rfl⟩⟩
    exact run_append_owned_none w B t ty e i0 size E.under hi0 _ n0 xs hown
  | some ad =>
    have hnews : ∀ j u, vs[j]? = some u → w.cell? (ad.add j) = some u := by
      intro j u hu
      have hj : 0 < n := by
        rcases Nat.eq_zero_or_pos n with h | h
        · have := hrow.len
          rw [h, Nat.zero_mul] at this
          rw [List.eq_nil_of_length_eq_zero this] at hu
          cases hu
        · exact h
      obtain ⟨b, off, e, hc⟩ := Row.at_ hrow hj
      injection e with e
      subst e
      have : (⟨b, off, none⟩ : Addr).add j = ⟨b, off + j, none⟩ := by unfold Addr.add; split <;> simp_all
      rw [this]
      exact hc j u hu
    obtain ⟨v', w', hr, ho, hg, _⟩ := run_append_own (P := Tryz.prog) w B t ty e i0 z size bytes E.under hi0 hz0 hz1 hz2 E.zcells E.pos _ n0 xs hown ad n c vs hrow.len hnews h1 h63 hbytes hB
    rcases ho.2 with ⟨rfl, h0⟩ | ⟨g, cap', cur, rfl, _⟩
    · exact ⟨none, 0, w', by rw [hr, h0], by rw [h0] at ho ⊢; exact ho, hg⟩
    · exact ⟨_, _, w', hr, ho, hg⟩
theorem wp_append_row {o : Oper} {a : Act} {K : Act → World → Prop} {Q : Exit → Act → World → Prop} {t e : TypeId} {z : Value} {size bytes : Nat} (E : ElemOk t e z size bytes) (s x : Operand)
    (ho : o.op = .call { callee := .builtin .append, args := #[s, x], argTypes := #[t, t] }) {B : Nat} {w : World}
    {A0 : Option Addr} {n0 cap0 : Nat} {xs : List Value} (hs : a.eval s = .slice A0 n0 cap0) (hown : w.ownsRow B e size (.slice A0 n0 cap0) n0 xs)
    {A : Option Addr} {n c : Nat} {vs : List Value} (hx : a.eval x = .slice A n c) (hrow : Row w size A n vs) (hA : A = none → n = 0 ∧ c = 0) (h1 : ∀ u ∈ vs, u.oneCell' = true)
    (hbytes : (n0 + n) * bytes ≤ 140737488355328) (h63 : n0 + n ≤ maxLen) (hB : B ≤ w.heap.size)
    (h : ∀ A' cap' w', w'.ownsRow B e size (.slice A' (n0 + n) cap') (n0 + n) (xs ++ vs) → w.grownBy w' (Value.ownBlock (.slice A0 n0 cap0)) → K (a.put o.dst (.slice A' (n0 + n) cap')) w') : o.wp Tryz.prog a w K Q := by
  obtain ⟨A', cap', w', hr, h2, h3⟩ := run_append_row (ty := o.type) E hown hrow hA h1 hbytes h63 hB
  unfold Oper.wp execOp
  simp only [ho, resolve, invoke, builtin, Sem.run_bind, Sem.run_pure, Result.andThen_ok, List.map_toArray, List.map_cons, List.map_nil, hs, hx, hr]
  exact h A' cap' w' h2 h3
theorem wpList_append_row {ops : Array Oper} {rest : List Oper} {o : Oper} {a : Act} {Q : Exit → Act → World → Prop} {t e : TypeId} {z : Value} {size bytes : Nat} (E : ElemOk t e z size bytes) (hgd : o.guard = none) (s x : Operand)
    (ho : o.op = .call { callee := .builtin .append, args := #[s, x], argTypes := #[t, t] }) {B : Nat} {w : World}
    {A0 : Option Addr} {n0 cap0 : Nat} {xs : List Value} (hs : a.eval s = .slice A0 n0 cap0) (hown : w.ownsRow B e size (.slice A0 n0 cap0) n0 xs)
    {A : Option Addr} {n c : Nat} {vs : List Value} (hx : a.eval x = .slice A n c) (hrow : Row w size A n vs) (hA : A = none → n = 0 ∧ c = 0) (h1 : ∀ u ∈ vs, u.oneCell' = true)
    (hbytes : (n0 + n) * bytes ≤ 140737488355328) (h63 : n0 + n ≤ maxLen) (hB : B ≤ w.heap.size)
    (h : ∀ A' cap' w', w'.ownsRow B e size (.slice A' (n0 + n) cap') (n0 + n) (xs ++ vs) → w.grownBy w' (Value.ownBlock (.slice A0 n0 cap0)) → wpList Tryz.prog ops Q rest (a.put o.dst (.slice A' (n0 + n) cap')) w') : wpList Tryz.prog ops Q (o :: rest) a w :=
  wpList_plain hgd fun _ hK => wp_append_row E s x ho hs hown hx hrow hA h1 hbytes h63 hB fun A' cap' w' h2 h3 => hK _ _ (h A' cap' w' h2 h3)
theorem step_append_row {ops : Array Oper} {o : Oper} {a : Act} {K : Act → World → Prop} {Q : Exit → Act → World → Prop} {X : Prop} {t e : TypeId} {z : Value} {size bytes : Nat} (E : ElemOk t e z size bytes) (hgd : o.guard = none) (s x : Operand)
    (ho : o.op = .call { callee := .builtin .append, args := #[s, x], argTypes := #[t, t] }) {B : Nat} {w : World}
    {A0 : Option Addr} {n0 cap0 : Nat} {xs : List Value} (hs : a.eval s = .slice A0 n0 cap0) (hown : w.ownsRow B e size (.slice A0 n0 cap0) n0 xs)
    {A : Option Addr} {n c : Nat} {vs : List Value} (hx : a.eval x = .slice A n c) (hrow : Row w size A n vs) (hA : A = none → n = 0 ∧ c = 0) (h1 : ∀ u ∈ vs, u.oneCell' = true)
    (hbytes : (n0 + n) * bytes ≤ 140737488355328) (h63 : n0 + n ≤ maxLen) (hB : B ≤ w.heap.size)
    (h : ∀ A' cap' w', w'.ownsRow B e size (.slice A' (n0 + n) cap') (n0 + n) (xs ++ vs) → w.grownBy w' (Value.ownBlock (.slice A0 n0 cap0)) → K (a.put o.dst (.slice A' (n0 + n) cap')) w') :
    if Region.wanted o (yielded ops a.tmps) = true then Oper.wp Tryz.prog o a w K Q else X := by
  have hw : Region.wanted o (yielded ops a.tmps) = true := by simp [Region.wanted, hgd]
  rw [if_pos hw]
  exact wp_append_row E s x ho hs hown hx hrow hA h1 hbytes h63 hB h
theorem fileC_one {fs : List Fl} : ∀ u ∈ fs.flatMap fileC, u.oneCell' = true := by
  intro u hu
  obtain ⟨f, _, h⟩ := List.mem_flatMap.1 hu
  simp [fileC] at h
  rcases h with rfl | rfl | rfl <;> rfl

set_option maxRecDepth 100000 in
set_option maxHeartbeats 2000000 in
theorem sameDisk_any (fs : List Fl) (A A' : Option Addr) (n cap cap' : Nat) (f : Int) (w : World) (hn : n ≤ 140737488355328) (hx : FRow w A n fs) (hy : FRow w A' n fs) :
    Calls Tryz.prog 51 #[diskV A n cap f, diskV A' n cap' f] w fun e w' => e = .returned (.bool true) ∧ Gr w w' := by
  unfold diskV
  have hl := hx.len
  go_enter Tryz.func51, Tryz.ntmps51
  go_wp2_with fail
  have hg0 : Gr w ((w.alloc (.cells #[.slice A n cap, .int .i64 f] 36)).alloc (.cells #[.slice A' n cap', .int .i64 f] 36)) := ((Gr.refl w).alloc _).alloc _
  have hb1 : Blk ((w.alloc (.cells #[.slice A n cap, .int .i64 f] 36)).alloc (.cells #[.slice A' n cap', .int .i64 f] 36)) w.heap.size 36 #[.slice A n cap, .int .i64 f] := (Blk.new w _ _).alloc _
  have hb2 := Blk.new1 w (.cells #[.slice A n cap, .int .i64 f] 36) 36 #[.slice A' n cap', .int .i64 f]
  obtain ⟨wa, hwa⟩ : ∃ x, x = (w.alloc (.cells #[.slice A n cap, .int .i64 f] 36)).alloc (.cells #[.slice A' n cap', .int .i64 f] 36) := ⟨_, rfl⟩
  rw [← hwa] at hg0 hb1 hb2
  rw [← hwa]
  have HX := sec (hx.gr hg0)
  have HY := sec (hy.gr hg0)
  have HB1 := sec hb1
  have HB2 := sec hb2
  clear hwa hx hy hb1 hb2
  go_loopw [23, 5] (fun iv _ wr => ∃ i : Nat, iv = .int .i64 (i : Int) ∧ i ≤ n ∧ Gr wa wr) (fun iv _ _ => n - (intOf iv).toNat)
  case atStart => exact ⟨0, rfl, by omega, Gr.refl _⟩
  case round =>
    obtain ⟨i, rfl, hi, hg⟩ := hrel
    have d1 : wr.cell? ⟨w.heap.size, 0, none⟩ = some (.slice A n cap) := (HB1.out.gr hg).cell 0
    have d2 : wr.cell? ⟨w.heap.size + 1, 0, none⟩ = some (.slice A' n cap') := (HB2.out.gr hg).cell 0
    by_cases hlt : i < n
    · have hif : i < fs.length := by omega
      have hii : (i : Int) < (n : Int) := by omega
      obtain ⟨b, off, rfl, e0, e1, e2⟩ := (HX.out.gr hg).cell hif
      obtain ⟨b', off', rfl, g0, g1, g2⟩ := (HY.out.gr hg).cell hif
      obtain ⟨x, hx⟩ : ∃ x, x = fs[i] := ⟨_, rfl⟩
      rw [← hx] at e0 e1 e2 g0 g1 g2
      clear hx hif
      go_wp2_with fail
      go_quiet (fail)
      go_wp2_with fail
      go_roundw
      case rel => exact ⟨i + 1, by go_num, by omega, hg.drewN _⟩
      case measure => simp [intOf]; omega
    · obtain rfl : i = n := by omega
      clear hlt hi
      go_wp2_with fail
      go_ret
      exact ⟨rfl, hg0.trans hg⟩

set_option maxRecDepth 100000 in
set_option maxHeartbeats 2000000 in
theorem clone_any (fs : List Fl) (A : Option Addr) (n cap : Nat) (w : World) (hn : n ≤ 1099511627776) (hx : FRow w A n fs) (hA : A = none → n = 0 ∧ cap = 0) :
    Calls Tryz.prog 181 #[.slice A n cap] w fun e w' => ∃ A' cap', e = .returned (.slice A' n cap') ∧ w'.ownsRow w.heap.size 70 3 (.slice A' n cap') n (fs.flatMap fileC) ∧ Gr w w' := by
  cases A with
  | none =>
    obtain ⟨rfl, rfl⟩ := hA rfl
    have hl := hx.len
    obtain rfl : fs = [] := List.eq_nil_of_length_eq_zero hl
    have hq : ∀ w, (eqGuard .eql 34 (.tmp 3) (.const (.slice none 0 0)) (.slice none 0 0) (.slice none 0 0)).run Tryz.prog w = .ok () w := by
      intro w; rfl
    have hz : ∀ w, (binOp .eql 34 (.slice none 0 0) (.slice none 0 0)).run Tryz.prog w = .ok (.bool true) w := fun w => Lib.run_eql_slice_nil w _ _ none 0 0 0 0 Tryz.underlying34
    go_enter Tryz.func181, Tryz.ntmps181
    go_wp2_with fail
    go_ret
    exact ⟨none, 0, rfl, World.ownsRow_nil _ _ _ _, Gr.refl _⟩
  | some ad =>
    have hq : ∀ w, (eqGuard .eql 34 (.tmp 3) (.const (.slice none 0 0)) (.slice (some ad) n cap) (.slice none 0 0)).run Tryz.prog w = .ok () w := by
      intro w; rfl
    have hz : ∀ w, (binOp .eql 34 (.slice (some ad) n cap) (.slice none 0 0)).run Tryz.prog w = .ok (.bool false) w := fun w => Lib.run_eql_slice_nil w _ _ (some ad) n cap 0 0 Tryz.underlying34
    have hb1 : (0 + n) * 48 ≤ 140737488355328 := by omega
    have hb2 : 0 + n ≤ maxLen := by unfold maxLen; omega
    have HX := sec hx
    clear hx
    go_enter Tryz.func181, Tryz.ntmps181
    go_wp2_with (refine wpList_append_row E.file rfl (.tmp 5) (.tmp 6) rfl (B := w.heap.size) (A0 := some ⟨w.heap.size, 0, none⟩) (n0 := 0) (cap0 := 0) (xs := []) rfl (World.ownsRow_lit w #[] 0 (Nat.le_refl _) (by simp) rfl) rfl (FRow.gr HX.out ((Gr.refl w).alloc _)) hA fileC_one hb1 hb2 (by simp) ?_; intro A' c' w' hown hgn)
    go_ret
    rw [Nat.zero_add, List.nil_append] at hown
    exact ⟨A', c', rfl, hown, Gr.grown ((Gr.refl w).alloc _) hgn (fun k hk => by simp [Value.ownBlock] at hk; omega)⟩

end Go.Proofs.YtdpombnelangjaaGreatDoor

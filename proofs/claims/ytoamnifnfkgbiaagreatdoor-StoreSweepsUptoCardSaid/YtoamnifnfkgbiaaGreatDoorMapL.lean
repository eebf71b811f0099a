/-
  Maps from strings that a call makes: what stands at which key, told by a function. No conditions: a library text.
-/
import Derived.Test.YtoamnifnfkgbiaaGreatDoorBase
import Derived.Maps.RangeWalk
import Derived.Maps.StringElems
namespace Go.Proofs.YtoamnifnfkgbiaaGreatDoor
set_option maxRecDepth 100000
open Go.RowKit
set_option linter.unusedVariables false
/-- a map type from strings: t, its keys' and its elements' types; an element's value and how it reads -/
structure MapE (t k e : TypeId) {α : Type} (mk : α → Lit) (vl : α → Value) (ok : α → Prop) (z : α) : Prop where
  under : Tryz.prog.underlying t = some (.map k e)
  key : Tryz.prog.underlying k = some .string
  zero : ∀ w, (zeroValue e).run Tryz.prog w = .ok (vl z) w
  rd : ∀ x, ok x → plainElem (H := Unit) Tryz.prog e (vl x) = some (.lit (mk x), [])
  inv : ∀ v y, plainElem (H := Unit) Tryz.prog e v = some y → ∃ x, ok x ∧ v = vl x ∧ y = (.lit (mk x), [])
  inj : ∀ x y, mk x = mk y → x = y
  okz : ok z
/-- elements that are strings -/
theorem mapE_str {t k e : TypeId} (h : Tryz.prog.underlying t = some (.map k e)) (hk : Tryz.prog.underlying k = some .string) (he : Tryz.prog.underlying e = some .string)
    (hz : ∀ w, (zeroValue e).run Tryz.prog w = .ok (.string (bs [])) w) : MapE t k e (α := List UInt8) Lit.string (fun x => .string (bs x)) (fun x => x.length ≤ maxLen) [] where
  under := h
  key := hk
  zero := hz
  rd := fun x hx => by have := plainElem_string (H := Unit) he (s := bs x) (by rw [bs_size]; exact hx); rwa [bs_data] at this
  inv := fun v y hv => by
    obtain ⟨s, rfl, rfl, hs⟩ := plainElem_string_inv he hv
    obtain ⟨l, rfl⟩ := bs_of s
    exact ⟨l, by rwa [bs_size] at hs, rfl, by rw [bs_data]⟩
  inj := fun x y h => by injection h
  okz := by simp
theorem plainElem_bool_inv' {H : Type} {P : Program} {e : TypeId} (he : P.underlying e = some .bool) {v : Value} {z : DataW H × List MemPlace} (h : plainElem P e v = some z) : ∃ b, v = .bool b ∧ z = (.lit (.bool b), []) := by
  unfold plainElem at h
  rw [he] at h
  cases v <;> simp at h
  exact ⟨_, rfl, h.symm⟩
theorem mapE_bool {t k e : TypeId} (h : Tryz.prog.underlying t = some (.map k e)) (hk : Tryz.prog.underlying k = some .string) (he : Tryz.prog.underlying e = some .bool)
    (hz : ∀ w, (zeroValue e).run Tryz.prog w = .ok (.bool false) w) : MapE t k e (α := Bool) Lit.bool Value.bool (fun _ => True) false where
  under := h
  key := hk
  zero := hz
  rd := fun x _ => plainElem_bool he x
  inv := fun v y hv => by obtain ⟨b, rfl, rfl⟩ := plainElem_bool_inv' he hv; exact ⟨b, trivial, rfl, rfl⟩
  inj := fun x y h => by injection h
  okz := trivial

def mapD {α : Type} (mk : α → Lit) (D : DataW Unit) (f : List UInt8 → Option α) : Prop :=
  ∀ l z, l.length ≤ maxLen → D.atKey (.string l) z = (match f l with | some x => .lit (mk x) | none => z)
/-- block b is a map of c entries in which f says what stands where -/
def MapAt (k e : TypeId) {α : Type} (mk : α → Lit) (w : World) (b c : Nat) (f : List UInt8 → Option α) : Prop :=
  ∃ D : DataW Unit, w.ownsMap Tryz.prog k (plainElem Tryz.prog e) b c D ∧ Maps.size D = c ∧ mapD mk D f
theorem mapD_has {α : Type} {mk : α → Lit} {D : DataW Unit} {f : List UInt8 → Option α} (h : mapD mk D f) (l : List UInt8) (hl : l.length ≤ maxLen) : Maps.has D (.string l) = (f l).isSome := by
  cases hf : f l with
  | none => exact Maps.has_false_of_atKey fun z => by rw [h l z hl, hf]
  | some x => exact Maps.has_true_of_atKey (y := .lit (mk x)) fun z => by rw [h l z hl, hf]
section
variable {α : Type} {t k e : TypeId} {mk : α → Lit} {vl : α → Value} {ok : α → Prop} {z : α} {w w' : World} {b c : Nat} {f : List UInt8 → Option α}
theorem MapAt.lt (h : MapAt k e mk w b c f) : b < w.heap.size := by obtain ⟨D, h, _⟩ := h; exact h.lt
theorem MapAt.made (w : World) (k e : TypeId) (mk : α → Lit) : MapAt k e mk (w.alloc (.map #[] 0)) w.heap.size 0 (fun _ => none) :=
  ⟨_, World.ownsMap_made w _ _ _, rfl, fun l z _ => rfl⟩
theorem MapAt.kept {row : Option Nat} (h : MapAt k e mk w b c f) (hg : w.grownBy w' row) (hne : some b ≠ row) : MapAt k e mk w' b c f := by
  obtain ⟨D, h1, h2⟩ := h
  exact ⟨D, h1.kept hg hne, h2⟩
theorem MapAt.gr (h : MapAt k e mk w b c f) (g : Gr w w') : MapAt k e mk w' b c f :=
  h.kept (row := none) ⟨g.below.os, g.below.tape, g.below.output, g.below.size, fun k hk _ => g.below.block k hk⟩ (by simp)
theorem MapAt.alloc (h : MapAt k e mk w b c f) (o : Obj) : MapAt k e mk (w.alloc o) b c f := h.gr ((Gr.refl w).alloc o)
theorem MapAt.drew (h : MapAt k e mk w b c f) : MapAt k e mk w.drew b c f := h
theorem MapAt.congr {f' : List UInt8 → Option α} (h : MapAt k e mk w b c f) (hf : ∀ l, l.length ≤ maxLen → f l = f' l) : MapAt k e mk w b c f' := by
  obtain ⟨D, h1, h2, h3⟩ := h
  exact ⟨D, h1, h2, fun l z hl => by rw [h3 l z hl, hf l hl]⟩
/-- the key l now bears x -/
def mset {α : Type} (f : List UInt8 → Option α) (l : List UInt8) (x : α) : List UInt8 → Option α := fun y => if y = l then some x else f y
def mcnt {α : Type} (f : List UInt8 → Option α) (l : List UInt8) (c : Nat) : Nat := if (f l).isSome then c else c + 1
theorem keyOf_bs {k : TypeId} (hk : Tryz.prog.underlying k = some .string) {l : List UInt8} (hl : l.length ≤ maxLen) : keyOf Tryz.prog k (.string (bs l)) = some (.string l) := by
  have := WideMaps.keyOf_string_mk hk (s := bs l) (by rw [bs_size]; exact hl)
  rwa [bs_data] at this

/-- 'v, ok := m[k]' -/
theorem wpList_look2 {ops : Array Oper} {rest : List Oper} {o : Oper} {a : Act} {Q : Exit → Act → World → Prop} (M : MapE t k e mk vl ok z) (hg : o.guard = none) (m x : Operand) (hop : o.op = Op.lookup t m x true)
    (hm : a.eval m = .map (some b)) (h : MapAt k e mk w b c f) {l : List UInt8} (hx : a.eval x = .string (bs l)) (hl : l.length ≤ maxLen) {r : α} {q : Bool} (hr : (f l).getD z = r) (hq : (f l).isSome = q)
    (hK : wpList Tryz.prog ops Q rest (a.put o.dst (.tuple #[vl r, .bool q])) w) : wpList Tryz.prog ops Q (o :: rest) a w := by
  obtain ⟨D, h1, h2, h3⟩ := h
  refine wpList_lookup_own_ok w hg m x t hop k e (Maps.string_keyed M.key) M.under _ (M.zero w) _ _ (M.rd z M.okz) b c D hm h1 _ _ hx (keyOf_bs M.key hl) fun v ps hv => ?_
  obtain ⟨y, _, rfl, hy⟩ := M.inv v _ hv
  rw [mapD_has h3 l hl]
  have : y = (f l).getD z := by
    injection hy with hy _
    rw [h3 l _ hl] at hy
    cases hf : f l with
    | none => rw [hf] at hy; injection hy with hy; exact (M.inj _ _ hy).symm
    | some u => rw [hf] at hy; injection hy with hy; exact (M.inj _ _ hy).symm
  rw [this, hr, hq]
  exact hK
/-- 'm[k]' -/
theorem wpList_look1 {ops : Array Oper} {rest : List Oper} {o : Oper} {a : Act} {Q : Exit → Act → World → Prop} (M : MapE t k e mk vl ok z) (hg : o.guard = none) (m x : Operand) (hop : o.op = Op.lookup t m x false)
    (hm : a.eval m = .map (some b)) (h : MapAt k e mk w b c f) {l : List UInt8} (hx : a.eval x = .string (bs l)) (hl : l.length ≤ maxLen) {r : α} (hr : (f l).getD z = r)
    (hK : wpList Tryz.prog ops Q rest (a.put o.dst (vl r)) w) : wpList Tryz.prog ops Q (o :: rest) a w := by
  obtain ⟨D, h1, h2, h3⟩ := h
  refine wpList_plain hg fun K' hK' => ?_
  obtain ⟨v, ps, hrun, hv⟩ := h1.lookup (Maps.string_keyed M.key) M.under (M.zero w) (M.rd z M.okz) (keyOf_bs M.key hl)
  obtain ⟨y, _, rfl, hy⟩ := M.inv v _ hv
  have : y = (f l).getD z := by
    injection hy with hy _
    rw [h3 l _ hl] at hy
    cases hf : f l with
    | none => rw [hf] at hy; injection hy with hy; exact (M.inj _ _ hy).symm
    | some u => rw [hf] at hy; injection hy with hy; exact (M.inj _ _ hy).symm
  rw [this, hr] at hrun
  unfold Oper.wp
  simp [execOp, hop, hm, hx, hrun, Result.andThen]
  exact hK' _ _ hK
theorem MapAt.put (M : MapE t k e mk vl ok z) (h : MapAt k e mk w b c f) (hc : c < maxLen) {l : List UInt8} (hl : l.length ≤ maxLen) {y : α} (hy : ok y) :
    ∃ w', (Instr.mapUpdate t (.map (some b)) (.string (bs l)) (vl y)).run Tryz.prog w = .ok () w' ∧ MapAt k e mk w' b (mcnt f l c) (mset f l y) ∧ w.grownBy w' (some b) := by
  obtain ⟨D, h1, h2, h3⟩ := h
  have K := Maps.string_keyed M.key
  obtain ⟨w', hrun, h4, h5⟩ := h1.update K M.under hc (keyOf_bs M.key hl) (M.rd y hy)
  have hkl := K.key (keyOf_bs M.key hl)
  have hsz : Maps.size (D.put (.string l) (.lit (mk y))) = mcnt f l c := by
    rw [Maps.size_put (h1.tidy K), mapD_has h3 l hl, h2]
    rfl
  refine ⟨w', hrun, ⟨_, ?_, hsz, fun u d hu => ?_⟩, h5⟩
  · obtain ⟨es, clock, e1, e2, e3, e4⟩ := h4
    refine ⟨es, clock, e1, e2, ?_, e4⟩
    have : Maps.size (D.put (.string l) (.lit (mk y))) = es.size := by rw [e4]; simp [Maps.size, length_sorted]
    omega
  · by_cases hul : u = l
    · subst hul
      rw [Maps.atKey_put_same (h1.isMap) hkl]
      simp [mset]
    · have hne : Lit.string u ≠ Lit.string l := fun e => hul (by injection e)
      rw [Maps.atKey_put_other hne, h3 u d hu]
      simp [mset, hul]
/-- 'm[k] = v' -/
theorem wpList_mput {ops : Array Oper} {rest : List Oper} {o : Oper} {a : Act} {Q : Exit → Act → World → Prop} (M : MapE t k e mk vl ok z) (hg : o.guard = none) (m x v : Operand) (hop : o.op = Op.mapUpdate t m x v)
    (hm : a.eval m = .map (some b)) (h : MapAt k e mk w b c f) (hc : c < maxLen) {l : List UInt8} (hx : a.eval x = .string (bs l)) (hl : l.length ≤ maxLen) {y : α} (hv : a.eval v = vl y) (hy : ok y)
    (hK : ∀ w', MapAt k e mk w' b (mcnt f l c) (mset f l y) → w.grownBy w' (some b) → wpList Tryz.prog ops Q rest (a.put o.dst undef) w') : wpList Tryz.prog ops Q (o :: rest) a w := by
  refine wpList_plain hg fun K' hK' => ?_
  obtain ⟨w', hrun, h1, h2⟩ := h.put M hc hl hy
  unfold Oper.wp
  simp [execOp, hop, hm, hx, hv, hrun, Result.andThen]
  exact hK' _ _ (hK w' h1 h2)
/-- an element of a map literal -/
theorem wpList_minsert {ops : Array Oper} {rest : List Oper} {o : Oper} {a : Act} {Q : Exit → Act → World → Prop} (M : MapE t k e mk vl ok z) (hg : o.guard = none) (m x v : Operand) (hop : o.op = Op.insert t m x v)
    (hm : a.eval m = .map (some b)) (h : MapAt k e mk w b c f) (hc : c < maxLen) {l : List UInt8} (hx : a.eval x = .string (bs l)) (hl : l.length ≤ maxLen) {y : α} (hv : a.eval v = vl y) (hy : ok y)
    (hK : ∀ w', MapAt k e mk w' b (mcnt f l c) (mset f l y) → w.grownBy w' (some b) → wpList Tryz.prog ops Q rest (a.put o.dst undef) w') : wpList Tryz.prog ops Q (o :: rest) a w := by
  refine wpList_plain hg fun K' hK' => ?_
  obtain ⟨w', hrun, h1, h2⟩ := h.put M hc hl hy
  unfold Oper.wp
  simp [execOp, hop, hm, hx, hv, hrun, Result.andThen]
  exact hK' _ _ (hK w' h1 h2)
/-- 'len(m)' -/
theorem wpList_mlen {ops : Array Oper} {rest : List Oper} {o : Oper} {a : Act} {Q : Exit → Act → World → Prop} (M : MapE t k e mk vl ok z) (hg : o.guard = none) (m : Operand) (hop : o.op = Op.call { callee := Callee.builtin Builtin.len, args := #[m], argTypes := #[t] })
    (hm : a.eval m = .map (some b)) (h : MapAt k e mk w b c f)
    (hK : wpList Tryz.prog ops Q rest (a.put o.dst (.int .i64 (c : Int))) w) : wpList Tryz.prog ops Q (o :: rest) a w := by
  obtain ⟨D, h1, h2, h3⟩ := h
  refine wpList_len_own w hg m t hop k e M.under _ b c D hm h1 ?_
  rw [h2]
  exact hK

/-- a range over the map is under way: block r is its iterator; left: what is still to come -/
def RanAt (k e : TypeId) {α : Type} (mk : α → Lit) (w : World) (b r c : Nat) (f : List UInt8 → Option α) (left : List UInt8 → Bool) (cnt : Nat) : Prop :=
  ∃ (D : DataW Unit) (lft : Lit → Bool), w.ranges Tryz.prog k (plainElem Tryz.prog e) b r c D lft cnt ∧ Maps.size D = c ∧ mapD mk D f ∧ ∀ l, l.length ≤ maxLen → lft (.string l) = left l
theorem RanAt.gr {r cnt : Nat} {left : List UInt8 → Bool} (h : RanAt k e mk w b r c f left cnt) (g : Gr w w') : RanAt k e mk w' b r c f left cnt := by
  obtain ⟨D, lft, h1, h2⟩ := h
  exact ⟨D, lft, h1.kept (row := none) ⟨g.below.os, g.below.tape, g.below.output, g.below.size, fun k hk _ => g.below.block k hk⟩ (by simp) (by simp), h2⟩
theorem RanAt.kept {r cnt : Nat} {left : List UInt8 → Bool} {row : Option Nat} (h : RanAt k e mk w b r c f left cnt) (hg : w.grownBy w' row) (h1 : some b ≠ row) (h2 : some r ≠ row) : RanAt k e mk w' b r c f left cnt := by
  obtain ⟨D, lft, h3, h4⟩ := h
  exact ⟨D, lft, h3.kept hg h1 h2, h4⟩
theorem RanAt.owns {r cnt : Nat} {left : List UInt8 → Bool} (h : RanAt k e mk w b r c f left cnt) : MapAt k e mk w b c f := by
  obtain ⟨D, lft, h1, h2, h3, _⟩ := h
  exact ⟨D, h1.owns, h2, h3⟩
theorem RanAt.left_eq {r cnt : Nat} {left : List UInt8 → Bool} (h : RanAt k e mk w b r c f left cnt) : w.rangeLeft b r = cnt := by
  obtain ⟨D, lft, h1, _⟩ := h
  exact h1.left_eq
theorem wpList_mrange {ops : Array Oper} {rest : List Oper} {o : Oper} {a : Act} {Q : Exit → Act → World → Prop} (M : MapE t k e mk vl ok z) (hg : o.guard = none) (m : Operand) (hop : o.op = Op.range t m)
    (hm : a.eval m = .map (some b)) (h : MapAt k e mk w b c f)
    (hK : ∀ w', RanAt k e mk w' b w.heap.size c f (fun l => (f l).isSome) c → Gr w w' → w'.heap.size = w.heap.size + 1 → wpList Tryz.prog ops Q rest (a.put o.dst (.pointer (some ⟨w.heap.size, 0, none⟩))) w') : wpList Tryz.prog ops Q (o :: rest) a w := by
  obtain ⟨D, h1, h2, h3⟩ := h
  refine wpList_range_own w hg m t hop k e (Maps.string_keyed M.key) M.under _ b c D hm h1 fun w' h4 h5 h6 => hK w' ?_ ((Gr.refl w).grown h5 (by rintro k hk; cases hk)) h6
  rw [h2] at h4
  exact ⟨D, _, h4, h2, h3, fun l hl => mapD_has h3 l hl⟩
theorem wpList_mnext {ops : Array Oper} {rest : List Oper} {o : Oper} {a : Act} {Q : Exit → Act → World → Prop} {r cnt : Nat} {left : List UInt8 → Bool} (M : MapE t k e mk vl ok z) (hg : o.guard = none) (it : Operand) (hop : o.op = Op.next it false)
    (hit : a.eval it = .pointer (some ⟨r, 0, none⟩)) (h : RanAt k e mk w b r c f left cnt)
    (hDone : (∀ l, l.length ≤ maxLen → left l = false) → wpList Tryz.prog ops Q rest (a.put o.dst (.tuple #[.bool false])) w)
    (hMore : ∀ (l : List UInt8) (x : α) (w' : World) (cnt' : Nat), l.length ≤ maxLen → left l = true → f l = some x → RanAt k e mk w' b r c f (fun y => left y && !(decide (y = l))) cnt' → cnt' < cnt →
      w.grownBy w' (some r) → w'.heap.size = w.heap.size → (Instr.entry (.pointer (some ⟨r, 0, none⟩))).run Tryz.prog w' = .ok (.tuple #[.string (bs l), vl x]) w' → wpList Tryz.prog ops Q rest (a.put o.dst (.tuple #[.bool true, .string (bs l), vl x])) w') :
    wpList Tryz.prog ops Q (o :: rest) a w := by
  obtain ⟨D, lft, h1, h2, h3, h4⟩ := h
  have K := Maps.string_keyed M.key
  have hinvK : ∀ key kl, keyOf Tryz.prog k key = some kl → ∃ x : List UInt8, key = .string (bs x) := by
    intro key kl hk
    rw [keyOf_string M.key] at hk
    unfold mapKey at hk
    rw [M.key] at hk
    cases key <;> simp at hk
    rename_i s
    obtain ⟨l, rfl⟩ := bs_of s
    exact ⟨l, rfl⟩
  have hinvE : ∀ v y, plainElem (H := Unit) Tryz.prog e v = some y → ∃ x : α, v = vl x := fun v y hv => by obtain ⟨x, _, hx, _⟩ := M.inv v y hv; exact ⟨x, hx⟩
  refine wpList_next_ranges w hg it hop k K (plainElem Tryz.prog e) (fun x : List UInt8 => .string (bs x)) vl hinvK hinvE b r c D lft cnt hit h1 (fun _ hl => hDone fun l hll => by rw [← h4 l hll]; exact hl _) ?_
  intro l x kl y w' cnt' hkey hlk hv hat hrg hlt hgr hsz hen
  have hll : l.length ≤ maxLen := by
    rw [keyOf_string M.key] at hkey
    unfold mapKey at hkey
    rw [M.key] at hkey
    simp at hkey
    have := hkey.1
    rwa [bs_size] at this
  have hkl : kl = .string l := by
    have := keyOf_bs M.key hll
    rw [hkey] at this
    injection this
  subst hkl
  obtain ⟨x', hx', hvx, rfl⟩ := M.inv _ _ hv
  have hfx : f l = some x' := by
    have ha := hat
    cases hf : f l with
    | none =>
      have h5 := ha (.agg [])
      rw [h3 l _ hll, hf] at h5
      cases h5
    | some u =>
      have h5 := ha (.agg [])
      rw [h3 l _ hll, hf] at h5
      injection h5 with h5
      rw [M.inj _ _ h5]
  rw [hvx] at hen
  rw [hvx]
  refine hMore l x' w' cnt' hll (by rw [← h4 l hll]; exact hlk) hfx ⟨D, _, hrg, h2, h3, fun y hy => ?_⟩ hlt hgr hsz hen
  have e1 : (Lit.string y).sameKey (.string l) = decide (y = l) := by
    by_cases hyl : y = l
    · subst hyl
      rw [decide_eq_true rfl]
      exact WideAt.sameKey_self (K.key hkey)
    · rw [decide_eq_false hyl]
      exact Maps.sameKey_ne (fun e => hyl (by injection e))
  rw [e1, h4 y hy]
end
end Go.Proofs.YtoamnifnfkgbiaaGreatDoor

/-
  PkP2: contracts and plain laws joined (15 texts). No conditions but those that each states.
-/
import Derived.Test.YtmgpllakpgjicaaDoorDiskCrash
import Derived.Lib.Overlaps
import Derived.Lib.AppendZerosOnto
import Derived.Laws.CopyOwn
import Derived.Deep.RegionWith
import Derived.Deep.CutRange
import Derived.Deep.RegionLaw
namespace Go.Proofs.YtmgpllakpgjicaaDoor
open Go.RowKit
set_option linter.unusedVariables false
theorem Row.lit {w : World} {g : Nat} {t : TypeId} {cs : Array Value} (h : Blk w g t cs) : Row w cs.size (some ⟨g, 0, none⟩) 1 cs.toList :=
  ⟨by simp, fun _ => ⟨g, 0, rfl, fun i v hv => by rw [Nat.zero_add, h.cell]; simpa using hv⟩⟩
theorem map_succ (K i : Nat) (fs : List Fl) (h : i < fs.length) : ((fs.take (i + 1)).map (crashF K)).flatMap fileC = ((fs.take i).map (crashF K)).flatMap fileC ++ fileC (crashF K fs[i]) := by
  rw [List.take_succ_eq_append_getElem h, List.map_append, List.flatMap_append]
  simp

end Go.Proofs.YtmgpllakpgjicaaDoor

namespace Go.Proofs.YtmgpllakpgjicaaDoor
open Go.RowKit
set_option linter.unusedVariables false
/-! ### plain lists -/
theorem splice_eq {α : Type} (L : List α) (off : Nat) (cs : List α) : Go.splice L off cs = L.take off ++ (cs ++ L.drop (off + cs.length)) := rfl
theorem ins_room {α : Type} (L xs x : List α) (o m k : Nat) (hL : L.take m = xs) (hm : xs.length = m) (ho : o ≤ m) (hk : x.length = k) (hl : m + k ≤ L.length) :
    (Go.splice (Go.splice L (o + k) (xs.drop o)) o x).take (m + k) = xs.take o ++ (x ++ xs.drop o) := by
  have h0 : (xs.drop o).length = m - o := by rw [List.length_drop]; omega
  have h1 : Go.splice L (o + k) (xs.drop o) = L.take (o + k) ++ (xs.drop o ++ L.drop (m + k)) := by
    rw [splice_eq, h0, show o + k + (m - o) = m + k by omega]
  rw [h1, splice_eq, hk]
  have h2 : (L.take (o + k) ++ (xs.drop o ++ L.drop (m + k))).take o = xs.take o := by
    rw [List.take_append_of_le_length (by rw [List.length_take]; omega), List.take_take, ← hL, List.take_take]
    congr 1; omega
  have h3 : (L.take (o + k) ++ (xs.drop o ++ L.drop (m + k))).drop (o + k) = xs.drop o ++ L.drop (m + k) := by
    rw [List.drop_append_of_le_length (by rw [List.length_take]; omega), List.drop_eq_nil_of_le (by rw [List.length_take]; omega)]; rfl
  rw [h2, h3, ← List.append_assoc, ← List.append_assoc]
  rw [List.take_append_of_le_length (by simp; omega), List.take_of_length_le (by simp; omega), List.append_assoc]
theorem ins_grow {α : Type} (R xs x : List α) (o m k : Nat) (hR : R.take o = xs.take o) (hm : xs.length = m) (ho : o ≤ m) (hk : x.length = k) (hl : m + k ≤ R.length) :
    (Go.splice (Go.splice R o x) (o + k) (xs.drop o)).take (m + k) = xs.take o ++ (x ++ xs.drop o) := by
  have h0 : (xs.drop o).length = m - o := by rw [List.length_drop]; omega
  have h1 : Go.splice R o x = xs.take o ++ (x ++ R.drop (o + k)) := by rw [splice_eq, hk, hR]
  have h2 : (Go.splice R o x).take (o + k) = xs.take o ++ x := by
    rw [h1, ← List.append_assoc, List.take_append_of_le_length (by simp; omega), List.take_of_length_le (by simp; omega)]
  have h3 : (Go.splice (Go.splice R o x) (o + k) (xs.drop o)) = xs.take o ++ x ++ (xs.drop o ++ (Go.splice R o x).drop (o + k + (m - o))) := by
    rw [splice_eq (Go.splice R o x), h2, h0]
  rw [h3, ← List.append_assoc, List.take_append_of_le_length (by simp; omega), List.take_of_length_le (by simp; omega), List.append_assoc]
theorem del_room {α : Type} (L xs : List α) (o m k : Nat) (hL : L.take m = xs) (hm : xs.length = m) (ho : o + k ≤ m) (hl : m ≤ L.length) (z : List α) (hz : z.length = k) :
    (Go.splice (Go.splice L o (xs.drop (o + k))) (m - k) z).take (m - k) = xs.take o ++ xs.drop (o + k) := by
  have h0 : (xs.drop (o + k)).length = m - k - o := by rw [List.length_drop]; omega
  have h1 : Go.splice L o (xs.drop (o + k)) = L.take o ++ (xs.drop (o + k) ++ L.drop (m - k)) := by
    rw [splice_eq, h0, show o + (m - k - o) = m - k by omega]
  have h4 : L.take o = xs.take o := by rw [← hL, List.take_take]; congr 1; omega
  rw [splice_eq, List.take_append_of_le_length (by rw [List.length_take, h1]; simp; omega), List.take_take, Nat.min_self, h1, h4, ← List.append_assoc,
    List.take_append_of_le_length (by simp; omega), List.take_of_length_le (by simp; omega)]

/-! ### copy, clear of elements of more than one cell -/
theorem run_copy_rowN {P : Program} (w : World) (dT sT ty elem : TypeId) (g o dLen dCap : Nat) (a : Addr) (sLen sCap size : Nat) (cur : Array Value) (t : TypeId) (cs : List Value)
    (hu : P.underlying dT = some (.slice elem)) (hs : (P.info? elem).map (·.size) = some size)
    (hg : w.heap[g]? = some (.cells cur t (0, 0))) (hn : cs.length = Nat.min sLen dLen * size)
    (hsrc : ∀ j v, cs[j]? = some v → w.cell? (a.add j) = some v) (hfit : o + cs.length ≤ cur.size) (h1 : ∀ v ∈ cs, v.oneCell' = true) :
    (Builtin.copy_ #[dT, sT] ty #[.slice (some ⟨g, o, none⟩) dLen dCap, .slice (some a) sLen sCap]).run P w =
      .ok (goInt (Nat.min sLen dLen)) (w.setRow g (Go.splice cur.toList o cs).toArray) := by
  have hl := run_loadCells_list (P := P) w a cs hsrc
  have hst := run_storeCells_at P g o t cs 0 cur w hg (by simpa using hfit) h1
  cases hq : P.info? elem with
  | none => simp [hq] at hs
  | some i =>
    have hi : i.size = size := by simpa [hq] using hs
    have hf := run_firstCells_some (P := P) w size (Nat.min sLen dLen) a sLen sCap cs hn hsrc
    rw [splice_eq]
    simp [Builtin.copy_, run_underlying hu, Builtin.lenOf, sizeOf, typeInfo, hq, hi, hf, hst, List.append_assoc]

theorem wp_copy_run (w : World) {P : Program} {o : Oper} {a : Act} {K : Act → World → Prop} {Q : Exit → Act → World → Prop} (d s : Operand) (t t' : TypeId)
    (ho : o.op = .call { callee := .builtin .copy, args := #[d, s], argTypes := #[t, t'] }) (v u : Value) (hd : a.eval d = v) (hs : a.eval s = u) {v' : Value} {w' : World}
    (hr : (Builtin.copy_ #[t, t'] o.type #[v, u]).run P w = .ok v' w') (h : K (a.put o.dst v') w') : o.wp P a w K Q := by
  unfold Oper.wp execOp
  simp only [ho, resolve, invoke, builtin, Sem.run_bind, Sem.run_pure, Result.andThen_ok, List.map_toArray, List.map_cons, List.map_nil, hd, hs, hr]
  exact h
theorem wpList_copy_run (w : World) {P : Program} {ops : Array Oper} {rest : List Oper} {o : Oper} {a : Act} {Q : Exit → Act → World → Prop} (hgd : o.guard = none) (d s : Operand) (t t' : TypeId)
    (ho : o.op = .call { callee := .builtin .copy, args := #[d, s], argTypes := #[t, t'] }) (v u : Value) (hd : a.eval d = v) (hs : a.eval s = u) {v' : Value} {w' : World}
    (hr : (Builtin.copy_ #[t, t'] o.type #[v, u]).run P w = .ok v' w') (h : wpList P ops Q rest (a.put o.dst v') w') : wpList P ops Q (o :: rest) a w :=
  wpList_plain hgd fun _ hK => wp_copy_run w d s t t' ho v u hd hs hr (hK _ _ h)
theorem step_copy_run {P : Program} {ops : Array Oper} {o : Oper} {a : Act} {w : World} {K : Act → World → Prop} {Q : Exit → Act → World → Prop} {E : Prop}
    (hg : o.guard = none) (d x : Operand) (dT sT : TypeId) (hop : o.op = Op.call { callee := Callee.builtin Builtin.copy, args := #[d, x], argTypes := #[dT, sT] })
    (v u : Value) (hd : a.eval d = v) (hx : a.eval x = u) {v' : Value} {w' : World} (hr : (Builtin.copy_ #[dT, sT] o.type #[v, u]).run P w = .ok v' w') (hK : K (a.put o.dst v') w') :
    if Region.wanted o (yielded ops a.tmps) = true then Oper.wp P o a w K Q else E := by
  have hw : Region.wanted o (yielded ops a.tmps) = true := by simp [Region.wanted, hg]
  rw [if_pos hw]
  exact wp_copy_run w d x dT sT hop v u hd hx hr hK
theorem fileSize : (Tryd.prog.info? 89).map (·.size) = some 3 := by
  obtain ⟨i0, hi0, _, h1, _⟩ := info_parts E.file.info
  rw [hi0]; simp [h1]
theorem sizeOfFile : ∀ w, (Go.sizeOf 89).run Tryd.prog w = .ok 3 w := by
  intro w
  obtain ⟨i0, hi0, _, h1, _⟩ := info_parts E.file.info
  simp [sizeOf, typeInfo, hi0, h1]

set_option maxHeartbeats 4000000 in
set_option maxRecDepth 100000 in
/-- there is room, i < n: in place -/
theorem ins_shift (g cap n i gv vc : Nat) (cur x : List Value) (w : World) (hi : i < n) (hroom : n + 1 ≤ cap) (hcap : cap ≤ maxLen) (hgv : gv ≠ g) (hg : Blk w g 89 cur.toArray) (hs : cur.length = cap * 3)
    (hv : Blk w gv 89 x.toArray) (hx : x.length = 3) (h1 : ∀ v ∈ cur.take (n * 3), v.oneCell' = true) (h1v : ∀ v ∈ x, v.oneCell' = true) :
    Calls Tryd.prog 117 #[.slice (some ⟨g, 0, none⟩) n cap, .int .i64 (i : Int), .slice (some ⟨gv, 0, none⟩) 1 vc] w fun e w' =>
      e = .returned (.slice (some ⟨g, 0, none⟩) (n + 1) cap) ∧ Blk w' g 89 (Go.splice (Go.splice cur (i * 3 + 3) ((cur.take (n * 3)).drop (i * 3))) (i * 3) x).toArray ∧ w.grownBy w' (some g) := by
  have hcs : (cur.take (n * 3)).length = n * 3 := by rw [List.length_take]; omega
  obtain ⟨xs, hxs⟩ : ∃ xs, xs = cur.take (n * 3) := ⟨_, rfl⟩
  have hov : ∀ lb cb, (callFunc 126 #[.slice (some ⟨gv, 0, none⟩) 1 vc, .slice (some ⟨g, (i + 1) * 3, none⟩) lb cb]).run Tryd.prog w = .ok (.value (.bool false)) w := fun lb cb => by
    rw [run_callFunc_extern Tryd.func126 (by kernel_rfl) (by kernel_rfl) (by kernel_rfl) (e := Extern.SlicesOverlaps.overlaps #[41, 41] #[4]) (by kernel_rfl),
      Lib.run_overlaps_apart w 41 4 89 E.file.under 3 sizeOfFile ⟨gv, 0, none⟩ ⟨g, (i + 1) * 3, none⟩ 1 vc lb cb hgv 89 89 3 (cap * 3)
        (by unfold World.shape?; rw [hv]; simp [hx]) (by unfold World.shape?; rw [hg]; simp [hs]) (by omega) (hv.frozen 0) (hv.frozen 3)]
    rfl
  have hdl : ((cur.take (n * 3)).drop (i * 3)).length = n * 3 - i * 3 := by rw [List.length_drop, hcs]
  have hcp1 : ∀ ty dc sc, (Builtin.copy_ #[41, 41] ty #[.slice (some ⟨g, (i + 1) * 3, none⟩) (n - i) dc, .slice (some ⟨g, i * 3, none⟩) (n + 1 - i) sc]).run Tryd.prog w.drew = .ok (goInt ((n - i : Nat) : Int)) (w.drew.setRow g (Go.splice cur ((i + 1) * 3) ((cur.take (n * 3)).drop (i * 3))).toArray) := fun ty dc sc => by
    have := run_copy_rowN (P := Tryd.prog) w.drew 41 41 ty 89 g ((i + 1) * 3) (n - i) dc ⟨g, i * 3, none⟩ (n + 1 - i) sc 3 cur.toArray 89 ((cur.take (n * 3)).drop (i * 3)) E.file.under fileSize hg.drew
      (by rw [hdl, show Nat.min (n + 1 - i) (n - i) = n - i by simp only [Nat.min_def]; split <;> omega, Nat.sub_mul])
      (fun j v hj => by
        rw [Addr.add_lit]
        rw [List.getElem?_drop, List.getElem?_take] at hj
        split at hj
        · exact (hg.drew.cell _).trans (by simpa using hj)
        · cases hj)
      (by rw [hdl, List.size_toArray, hs]; omega) (fun v hv => h1 v (List.mem_of_mem_drop hv))
    rw [show Nat.min (n + 1 - i) (n - i) = n - i by simp only [Nat.min_def]; split <;> omega] at this
    exact this
  obtain ⟨c1, hc1⟩ : ∃ c1, c1 = Go.splice cur ((i + 1) * 3) ((cur.take (n * 3)).drop (i * 3)) := ⟨_, rfl⟩
  rw [← hc1] at hcp1
  have hc1l : c1.length = cap * 3 := by rw [hc1, Go.length_splice _ _ _ (by rw [hdl, hs]; omega), hs]
  have hg1 : Blk (w.drew.setRow g c1.toArray) g 89 c1.toArray := hg.drew.of_setRow _
  have hv1 : Blk (w.drew.setRow g c1.toArray) gv 89 x.toArray := hv.drew.only (grown_setRow w.drew g _) hgv
  have hcp2 : ∀ ty dc, (Builtin.copy_ #[41, 41] ty #[.slice (some ⟨g, i * 3, none⟩) (n + 1 - i) dc, .slice (some ⟨gv, 0, none⟩) 1 vc]).run Tryd.prog (w.drew.setRow g c1.toArray) = .ok (goInt 1) ((w.drew.setRow g c1.toArray).setRow g (Go.splice c1 (i * 3) x).toArray) := fun ty dc => by
    have := run_copy_rowN (P := Tryd.prog) (w.drew.setRow g c1.toArray) 41 41 ty 89 g (i * 3) (n + 1 - i) dc ⟨gv, 0, none⟩ 1 vc 3 c1.toArray 89 x E.file.under fileSize hg1
      (by rw [hx, show Nat.min 1 (n + 1 - i) = 1 by simp only [Nat.min_def]; split <;> omega])
      (fun j v hj => by rw [Addr.add_lit, Nat.zero_add]; exact (hv1.cell _).trans (by simpa using hj))
      (by rw [hx, List.size_toArray, hc1l]; omega) h1v
    rw [show Nat.min 1 (n + 1 - i) = 1 by simp only [Nat.min_def]; split <;> omega] at this
    exact this
  have HE : Sec (Go.splice (Go.splice cur (i * 3 + 3) ((cur.take (n * 3)).drop (i * 3))) (i * 3) x = Go.splice c1 (i * 3) x) := sec (by rw [hc1, show (i + 1) * 3 = i * 3 + 3 by omega])
  have HB : Sec (Blk ((w.drew.setRow g c1.toArray).setRow g (Go.splice c1 (i * 3) x).toArray) g 89 (Go.splice c1 (i * 3) x).toArray) := sec (hg1.of_setRow _)
  have HGW : Sec (w.grownBy ((w.drew.setRow g c1.toArray).setRow g (Go.splice c1 (i * 3) x).toArray) (some g)) := sec ⟨rfl, rfl, rfl, by simp [World.setRow], fun k hk hne => by
    rw [setRow_other _ g k _ (fun e => hne (by rw [e])), setRow_other _ g k _ (fun e => hne (by rw [e]))]; rfl⟩
  have hz2 : ¬ ((i : Int) = (n : Int)) := by omega
  have hw1 : IntKind.i64.wrap ((i : Int) + 1) = (i : Int) + 1 := by rw [IntKind.wrap_i64]; unfold maxLen at hcap; omega
  have htn : ((i : Int) + 1).toNat = i + 1 := by omega
  have hb1 : (0 : Int) ≤ (i : Int) + 1 := by omega
  have hb3 : (i : Int) ≤ (n : Int) := by omega
  have hb6 : (i : Int) ≤ (n : Int) + 1 := by omega
  have hb2 : ¬ (cap = i + 1) := by omega
  have hb4 : ¬ (cap = i) := by omega
  have hb5 : ¬ (cap < n + 1) := by omega
  have hm : cap ≤ 9223372036854775807 := by have := hcap; unfold maxLen at this; omega
  clear hc1 hc1l hg1 hv1 hdl hxs h1 h1v hg hv hs hcs
  go_enter Tryd.func117, Tryd.ntmps117
  go_wp2_with (simp only [hov])
  go_region_law (refine step_copy_run rfl _ _ 41 41 rfl _ _ (by simp [Act.eval, Act.put]) (by simp [Act.eval, Act.put]) (hcp1 _ _ _) ?_)
  go_wp2_with (at_builtin; refine wpList_copy_run _ rfl _ _ 41 41 rfl _ _ rfl rfl (hcp2 _ _) ?_)
  go_ret
  exact ⟨rfl, by rw [HE.out]; exact HB.out, HGW.out⟩

theorem wpList_append_runA (w : World) {P : Program} {ops : Array Oper} {rest : List Oper} {o : Oper} {a : Act} {Q : Exit → Act → World → Prop} (hgd : o.guard = none) (d s : Operand) (t t' : TypeId)
    (ho : o.op = .call { callee := .builtin .append, args := #[d, s], argTypes := #[t, t'] }) (v u : Value) (hd : a.eval d = v) (hs : a.eval s = u) {v' : Value} {w' : World}
    (hr : (Builtin.append_ #[t, t'] o.type #[v, u]).run P w = .ok v' w') (h : wpList P ops Q rest (a.put o.dst v') w') : wpList P ops Q (o :: rest) a w :=
  wpList_plain hgd fun _ hK => by
    unfold Oper.wp execOp
    simp only [ho, resolve, invoke, builtin, Sem.run_bind, Sem.run_pure, Result.andThen_ok, List.map_toArray, List.map_cons, List.map_nil, hd, hs, hr]
    exact hK _ _ h

set_option maxHeartbeats 4000000 in
set_option maxRecDepth 100000 in
/-- at the end -/
theorem ins_end (A : Option Addr) (n cap gv vc B : Nat) (xs x : List Value) (w : World) (hown : w.ownsRow B 89 3 (.slice A n cap) n xs) (hv : Blk w gv 89 x.toArray) (hx : x.length = 3) (h1v : ∀ v ∈ x, v.oneCell' = true) (hn : n ≤ 1099511627776) (hB : B ≤ w.heap.size) :
    Calls Tryd.prog 117 #[.slice A n cap, .int .i64 (n : Int), .slice (some ⟨gv, 0, none⟩) 1 vc] w fun e w' =>
      ∃ A' cap', e = .returned (.slice A' (n + 1) cap') ∧ w'.ownsRow B 89 3 (.slice A' (n + 1) cap') (n + 1) (xs ++ x) ∧ w.grownBy w' (Value.ownBlock (.slice A n cap)) := by
  have hb1 : (n + 1) * 48 ≤ 140737488355328 := by omega
  have hb2 : n + 1 ≤ maxLen := by unfold maxLen; omega
  have hrow : Row w 3 (some ⟨gv, 0, none⟩) 1 x := by have := Row.lit hv; simp [hx] at this; exact this
  have hnc : n ≤ cap := by
    rcases hown.2 with ⟨h, h0⟩ | ⟨_, _, _, h, _, _, h1, _⟩
    · omega
    · injection h with _ _ h; omega
  have HO := sec hown
  have HR := sec hrow
  have H1 := sec h1v
  clear hown hrow hv h1v
  cases A with
  | none =>
    have : n = 0 ∧ cap = 0 := by
      rcases HO.out.2 with ⟨h, h0⟩ | ⟨_, _, _, h, _⟩
      · injection h with _ _ h; exact ⟨h0, h⟩
      · injection h with h; cases h
    obtain ⟨rfl, rfl⟩ := this
    go_enter Tryd.func117, Tryd.ntmps117
    go_wp2_with (refine wpList_append_row E.file rfl (.tmp 23) (.tmp 24) rfl (B := B) (A0 := none) (n0 := 0) (cap0 := 0) (xs := xs) rfl HO.out rfl HR.out (by intro h; cases h) H1.out hb1 hb2 hB ?_; intro A' c' w' hown' hgn)
    go_ret
    exact ⟨A', c', rfl, hown', hgn⟩
  | some ad =>
    obtain ⟨g, hg⟩ : ∃ g, ad = ⟨g, 0, none⟩ := by
      rcases HO.out.2 with ⟨h, h0⟩ | ⟨g, _, _, h, _⟩
      · injection h with h; cases h
      · injection h with h; injection h with h; exact ⟨g, h⟩
    subst hg
    go_enter Tryd.func117, Tryd.ntmps117
    go_wp2_with (refine wpList_append_row E.file rfl (.tmp 23) (.tmp 24) rfl (B := B) (A0 := some ⟨g, 0, none⟩) (n0 := n) (cap0 := cap) (xs := xs) rfl HO.out rfl HR.out (by intro h; cases h) H1.out hb1 hb2 hB ?_; intro A' c' w' hown' hgn)
    all_goals
      go_ret
      exact ⟨A', c', rfl, hown', hgn⟩

set_option maxHeartbeats 4000000 in
set_option maxRecDepth 100000 in
/-- there is no room, i < n: a new row -/
theorem ins_grown (g cap n i gv vc : Nat) (cur x : List Value) (w : World) (hi : i < n) (hroom : cap < n + 1) (hnc : n ≤ cap) (hn : n ≤ 1099511627776) (hg : Blk w g 89 cur.toArray) (hs : cur.length = cap * 3)
    (hv : Blk w gv 89 x.toArray) (hx : x.length = 3) (h1 : ∀ v ∈ cur.take (n * 3), v.oneCell' = true) (h1v : ∀ v ∈ x, v.oneCell' = true) :
    Calls Tryd.prog 117 #[.slice (some ⟨g, 0, none⟩) n cap, .int .i64 (i : Int), .slice (some ⟨gv, 0, none⟩) 1 vc] w fun e w' =>
      ∃ (G : Nat) (R : List Value), e = .returned (.slice (some ⟨w.heap.size, 0, none⟩) (n + 1) G) ∧ n + 1 ≤ G ∧ G ≤ maxLen ∧ R.length = G * 3 ∧ R.take (i * 3) = (cur.take (n * 3)).take (i * 3) ∧
        Blk w' w.heap.size 89 (Go.splice (Go.splice R (i * 3) x) (i * 3 + 3) ((cur.take (n * 3)).drop (i * 3))).toArray ∧ w.grownBy w' none := by
  have hcs : (cur.take (n * 3)).length = n * 3 := by rw [List.length_take]; omega
  obtain ⟨xs, hxs⟩ : ∃ xs, xs = cur.take (n * 3) := ⟨_, rfl⟩
  rw [← hxs] at hcs h1
  rw [← hxs]
  obtain ⟨i0, hi0, hz0, hz1, hz2⟩ := info_parts E.file.info
  obtain ⟨k, hk⟩ : ∃ k, k = n + 1 - i := ⟨_, rfl⟩
  have hik : i + k = n + 1 := by omega
  obtain ⟨G, hG⟩ : ∃ G, G = grownCap w (n + 1) cap 89 := ⟨_, rfl⟩
  have hG1 : n + 1 ≤ G := by rw [hG]; exact grownCap_ge _ _ _ _
  have hG2 : G ≤ maxLen := by rw [hG]; exact grownCap_le_maxLen _ _ _ _ (by unfold maxLen; omega)
  have hcell : ∀ j v, xs[j]? = some v → w.cell? ⟨g, j, none⟩ = some v := fun j v hj => by
    rw [hxs, List.getElem?_take] at hj
    split at hj
    · exact (hg.cell _).trans (by simpa using hj)
    · cases hj
  have hold : (Builtin.firstCells i0.size i (.slice (some ⟨g, 0, none⟩) i cap)).run Tryd.prog w.drew = .ok (xs.take (i * 3)).toArray w.drew := by
    rw [hz1]
    exact run_firstCells_some w.drew 3 i ⟨g, 0, none⟩ i cap (xs.take (i * 3)) (by rw [List.length_take]; omega) (fun j v hj => by
      rw [Addr.add_lit, Nat.zero_add]
      rw [List.getElem?_take] at hj
      split at hj
      · exact hcell j v hj
      · cases hj)
  obtain ⟨R, hR⟩ : ∃ R : List Value, R = ((xs.take (i * 3)).toArray ++ Builtin.zeroCells (Value.agg #[.string (bs []), .string (bs []), .string (bs [])]).cells k ++ Builtin.zeroCells (Value.agg #[.string (bs []), .string (bs []), .string (bs [])]).cells (G - (i + k))).toList := ⟨_, rfl⟩
  have hrun : ∀ ty, (Builtin.append_ #[41, 3] ty #[.slice (some ⟨g, 0, none⟩) i cap, .int .i64 (k : Int)]).run Tryd.prog w = .ok (.slice (some ⟨w.heap.size, 0, none⟩) (n + 1) G) (w.drew.alloc (.cells R.toArray 89)) := fun ty => by
    have := Lib.run_append_grow_zeros (P := Tryd.prog) w 41 3 ty 89 i0 _ .i64 .i64 E.file.under Tryd.underlying3 hi0 hz0 (some ⟨g, 0, none⟩) i cap (xs.take (i * 3)) hold k (by omega) (by omega) (by omega) (by omega) (by rw [hz2]; omega)
      (by rw [hz2]; exact growslice_fits (by omega) (by omega))
    rw [this, hik, ← hG, hR, hik, Array.toArray_toList]
  have hRl : R.length = G * 3 := by
    rw [hR]
    have hz3 : (Value.agg #[.string (bs []), .string (bs []), .string (bs [])]).cells.size = 3 := E.file.zcells
    rw [Array.length_toList, Array.size_append, Array.size_append, size_zeroCells, size_zeroCells, hz3, List.size_toArray, List.length_take, hcs, Nat.min_eq_left (by omega)]
    omega
  have hRt : R.take (i * 3) = xs.take (i * 3) := by
    rw [hR]
    simp only [Array.toList_append, List.append_assoc]
    rw [List.take_append_of_le_length (by rw [List.length_take, hcs]; omega), List.take_take, Nat.min_self]
  have hgl := hg.lt
  have hvl := hv.lt
  obtain ⟨W0, hW0⟩ : ∃ W0, W0 = w.drew.alloc (.cells R.toArray 89) := ⟨_, rfl⟩
  have hRB : Blk W0 w.heap.size 89 R.toArray := by rw [hW0]; exact Blk.new w.drew _ _
  have hg0 : Blk W0 g 89 cur.toArray := by rw [hW0]; exact hg.drew.alloc _
  have hv0 : Blk W0 gv 89 x.toArray := by rw [hW0]; exact hv.drew.alloc _
  have hgr0 : w.grownBy W0 none := by rw [hW0]; exact ⟨rfl, rfl, rfl, by simp, fun k hk _ => Below.heap_alloc w.drew _ k hk⟩
  rw [← hW0] at hrun
  obtain ⟨g2, hg2⟩ : ∃ g2, g2 = w.heap.size := ⟨_, rfl⟩
  rw [← hg2] at hrun hRB hgl hvl
  rw [← hg2]
  have hcp1 : ∀ ty dc, (Builtin.copy_ #[41, 41] ty #[.slice (some ⟨g2, i * 3, none⟩) (n + 1 - i) dc, .slice (some ⟨gv, 0, none⟩) 1 vc]).run Tryd.prog W0 = .ok (goInt 1) (W0.setRow g2 (Go.splice R (i * 3) x).toArray) := fun ty dc => by
    have := run_copy_rowN (P := Tryd.prog) W0 41 41 ty 89 g2 (i * 3) (n + 1 - i) dc ⟨gv, 0, none⟩ 1 vc 3 R.toArray 89 x E.file.under fileSize hRB
      (by rw [hx, show Nat.min 1 (n + 1 - i) = 1 by simp only [Nat.min_def]; split <;> omega])
      (fun j v hj => by rw [Addr.add_lit, Nat.zero_add]; exact (hv0.cell _).trans (by simpa using hj))
      (by rw [hx, List.size_toArray, hRl]; omega) h1v
    rw [show Nat.min 1 (n + 1 - i) = 1 by simp only [Nat.min_def]; split <;> omega] at this
    exact this
  obtain ⟨c1, hc1⟩ : ∃ c1, c1 = Go.splice R (i * 3) x := ⟨_, rfl⟩
  rw [← hc1] at hcp1
  have hc1l : c1.length = G * 3 := by rw [hc1, Go.length_splice _ _ _ (by rw [hx, hRl]; omega), hRl]
  obtain ⟨W1, hW1⟩ : ∃ W1, W1 = W0.setRow g2 c1.toArray := ⟨_, rfl⟩
  have hRB1 : Blk W1 g2 89 c1.toArray := by rw [hW1]; exact hRB.of_setRow _
  have hgg1 : Blk W1 g 89 cur.toArray := by rw [hW1]; exact hg0.only (grown_setRow W0 g2 _) (by omega)
  have hgr1 : w.grownBy W1 none := by
    rw [hW1]
    exact ⟨hgr0.os, hgr0.tape, hgr0.output, by simpa [World.setRow] using hgr0.size, fun k hk hne => by rw [setRow_other _ g2 k _ (by omega)]; exact hgr0.block k hk hne⟩
  rw [← hW1] at hcp1
  have hdl : (xs.drop (i * 3)).length = n * 3 - i * 3 := by rw [List.length_drop, hcs]
  have hcp2 : ∀ ty dc sc, (Builtin.copy_ #[41, 41] ty #[.slice (some ⟨g2, (i + 1) * 3, none⟩) (n - i) dc, .slice (some ⟨g, i * 3, none⟩) (n - i) sc]).run Tryd.prog W1.drew = .ok (goInt ((n - i : Nat) : Int)) (W1.drew.setRow g2 (Go.splice c1 ((i + 1) * 3) (xs.drop (i * 3))).toArray) := fun ty dc sc => by
    have := run_copy_rowN (P := Tryd.prog) W1.drew 41 41 ty 89 g2 ((i + 1) * 3) (n - i) dc ⟨g, i * 3, none⟩ (n - i) sc 3 c1.toArray 89 (xs.drop (i * 3)) E.file.under fileSize hRB1.drew
      (by rw [hdl, show Nat.min (n - i) (n - i) = n - i by simp only [Nat.min_def]; split <;> omega, Nat.sub_mul])
      (fun j v hj => by
        rw [Addr.add_lit]
        rw [List.getElem?_drop, hxs, List.getElem?_take] at hj
        split at hj
        · exact (hgg1.drew.cell _).trans (by simpa using hj)
        · cases hj)
      (by rw [hdl, List.size_toArray, hc1l]; omega) (fun v hv => h1 v (List.mem_of_mem_drop hv))
    rw [show Nat.min (n - i) (n - i) = n - i by simp only [Nat.min_def]; split <;> omega] at this
    exact this
  have HB : Sec (Blk (W1.drew.setRow g2 (Go.splice c1 ((i + 1) * 3) (xs.drop (i * 3))).toArray) g2 89 (Go.splice (Go.splice R (i * 3) x) (i * 3 + 3) (xs.drop (i * 3))).toArray) := sec (by
    rw [← hc1, show i * 3 + 3 = (i + 1) * 3 by omega]; exact hRB1.drew.of_setRow _)
  have HGW : Sec (w.grownBy (W1.drew.setRow g2 (Go.splice c1 ((i + 1) * 3) (xs.drop (i * 3))).toArray) none) := sec
    ⟨hgr1.os, hgr1.tape, hgr1.output, by simpa [World.setRow] using hgr1.size, fun k hk hne => by rw [setRow_other _ g2 k _ (by omega)]; exact hgr1.block k hk hne⟩
  have HRL := sec hRl
  have HRT := sec hRt
  have hkk : (n : Int) + 1 - (i : Int) = (k : Int) := by omega
  have hz2' : ¬ ((i : Int) = (n : Int)) := by omega
  have hw1 : IntKind.i64.wrap ((i : Int) + 1) = (i : Int) + 1 := by rw [IntKind.wrap_i64]; omega
  have htn : ((i : Int) + 1).toNat = i + 1 := by omega
  have hb1 : (0 : Int) ≤ (i : Int) + 1 := by omega
  have hb3 : (i : Int) ≤ (n : Int) := by omega
  have hb6 : (i : Int) ≤ (n : Int) + 1 := by omega
  have hb2 : ¬ (G = i + 1) := by omega
  have hb4 : ¬ (G = i) := by omega
  have hb5 : ¬ (cap = i) := by omega
  clear hc1 hc1l hRB1 hgg1 hgr1 hdl hxs h1 h1v hg hv hs hcs hRB hg0 hv0 hgr0 hRt hRl hW1 hW0 hR hold hcell hG hz0 hz1 hz2 hi0 hgl hvl hg2 hk hik
  go_enter Tryd.func117, Tryd.ntmps117
  go_wp2_with (first | (at_builtin; refine wpList_append_runA _ rfl (.tmp 34) (.tmp 39) 41 3 rfl _ _ rfl rfl (hrun _) ?_) | (at_builtin; refine wpList_copy_run _ rfl (.tmp 43) (.tmp 44) 41 41 rfl _ _ rfl rfl (hcp1 _ _) ?_))
  go_region_law (refine step_copy_run rfl _ _ 41 41 rfl _ _ (by simp [Act.eval, Act.put]) (by simp [Act.eval, Act.put]) (hcp2 _ _ _) ?_)
  go_wp2_with fail
  go_ret
  exact ⟨G, R, rfl, hG1, hG2, HRL.out, HRT.out, HB.out, HGW.out⟩
end Go.Proofs.YtmgpllakpgjicaaDoor

namespace Go.Proofs.YtmgpllakpgjicaaDoor
open Go.RowKit
set_option linter.unusedVariables false
def insF (i : Nat) (f : Fl) (fs : List Fl) : List Fl := fs.take i ++ f :: fs.drop i
theorem flat_take (fs : List Fl) : ∀ i, (fs.flatMap fileC).take (i * 3) = (fs.take i).flatMap fileC := by
  induction fs with
  | nil => intro i; simp
  | cons f r ih =>
    intro i
    cases i with
    | zero => simp
    | succ i =>
      have e : (i + 1) * 3 = (fileC f).length + i * 3 := by simp [fileC]; omega
      rw [List.take_succ_cons, List.flatMap_cons, List.flatMap_cons, e, List.take_length_add_append, ih]
theorem flat_drop (fs : List Fl) : ∀ i, (fs.flatMap fileC).drop (i * 3) = (fs.drop i).flatMap fileC := by
  induction fs with
  | nil => intro i; simp
  | cons f r ih =>
    intro i
    cases i with
    | zero => simp
    | succ i =>
      have e : (i + 1) * 3 = (fileC f).length + i * 3 := by simp [fileC]; omega
      rw [List.drop_succ_cons, List.flatMap_cons, e, List.drop_length_add_append, ih]
theorem flat_ins (fs : List Fl) (i : Nat) (f : Fl) : (fs.flatMap fileC).take (i * 3) ++ (fileC f ++ (fs.flatMap fileC).drop (i * 3)) = (insF i f fs).flatMap fileC := by
  rw [flat_take, flat_drop, insF, List.flatMap_append, List.flatMap_cons]
theorem flat_del (fs : List Fl) (i : Nat) : (fs.flatMap fileC).take (i * 3) ++ (fs.flatMap fileC).drop (i * 3 + 3) = (fs.eraseIdx i).flatMap fileC := by
  rw [flat_take, show i * 3 + 3 = (i + 1) * 3 by omega, flat_drop, List.eraseIdx_eq_take_drop_succ, List.flatMap_append]

theorem insert_any (A : Option Addr) (n cap i gv vc B : Nat) (fs : List Fl) (f : Fl) (w : World) (hown : w.ownsRow B 89 3 (.slice A n cap) n (fs.flatMap fileC)) (hi : i ≤ n) (hn : n ≤ 1099511627776)
    (hv : Blk w gv 89 (fileC f).toArray) (hne : (Value.slice A n cap).ownBlock ≠ some gv) (hB : B ≤ w.heap.size) :
    Calls Tryd.prog 117 #[.slice A n cap, .int .i64 (i : Int), .slice (some ⟨gv, 0, none⟩) 1 vc] w fun e w' =>
      ∃ A' cap', e = .returned (.slice A' (n + 1) cap') ∧ w'.ownsRow B 89 3 (.slice A' (n + 1) cap') (n + 1) ((insF i f fs).flatMap fileC) ∧ w.grownBy w' (Value.ownBlock (.slice A n cap)) := by
  have h1v : ∀ v ∈ fileC f, v.oneCell' = true := by intro v hv; simp [fileC] at hv; rcases hv with rfl | rfl | rfl <;> rfl
  have hl : (fs.flatMap fileC).length = n * 3 := hown.1
  have hfl : fs.length = n := by have := flat_len fileC 3 (fun _ => rfl) fs; omega
  rcases Nat.lt_or_eq_of_le hi with hlt | rfl
  · rcases hown.2 with ⟨_, h0⟩ | ⟨g, cap', cur, hvv, hBg, hg, hnc, hcm, hcs, ht⟩
    · omega
    · injection hvv with hA _ hc
      subst hA hc
      have hgv : gv ≠ g := fun e => hne (by rw [e]; rfl)
      have hg' : Blk w g 89 cur.toList.toArray := by rw [Array.toArray_toList]; exact hg
      have hcl : cur.toList.length = cap * 3 := by simpa using hcs
      have h1 : ∀ v ∈ cur.toList.take (n * 3), v.oneCell' = true := by rw [ht]; exact fileC_one
      by_cases hroom : n + 1 ≤ cap
      · refine (ins_shift g cap n i gv vc cur.toList (fileC f) w hlt hroom hcm hgv hg' hcl hv rfl h1 h1v).mono ?_
        rintro e w' ⟨rfl, hb, hgr⟩
        refine ⟨_, _, rfl, ⟨?_, .inr ⟨g, cap, _, rfl, hBg, hb, hroom, hcm, ?_, ?_⟩⟩, hgr⟩
        · rw [flat_len fileC 3 (fun _ => rfl)]; simp [insF]; omega
        · rw [ht, List.size_toArray]
          have hd : ((fs.flatMap fileC).drop (i * 3)).length = n * 3 - i * 3 := by rw [List.length_drop, hl]
          have h3 : (fileC f).length = 3 := rfl
          have h4 := Go.length_splice cur.toList (i * 3 + 3) ((fs.flatMap fileC).drop (i * 3)) (by rw [hd, hcl]; omega)
          rw [Go.length_splice _ _ _ (by rw [h4, h3, hcl]; omega), h4, hcl]
        · rw [ht, List.toList_toArray, show (n + 1) * 3 = n * 3 + 3 by omega, ins_room cur.toList _ (fileC f) (i * 3) (n * 3) 3 ht hl (by omega) rfl (by rw [hcl]; omega), flat_ins]
      · refine (ins_grown g cap n i gv vc cur.toList (fileC f) w hlt (by omega) hnc hn hg' hcl hv rfl h1 h1v).mono ?_
        rintro e w' ⟨G, R, rfl, hG1, hG2, hRl, hRt, hb, hgr⟩
        refine ⟨_, _, rfl, ⟨?_, .inr ⟨w.heap.size, G, _, rfl, hB, hb, hG1, hG2, ?_, ?_⟩⟩, ⟨hgr.os, hgr.tape, hgr.output, hgr.size, fun k hk _ => hgr.block k hk (by simp)⟩⟩
        · rw [flat_len fileC 3 (fun _ => rfl)]; simp [insF]; omega
        · rw [ht, List.size_toArray]
          have hd : ((fs.flatMap fileC).drop (i * 3)).length = n * 3 - i * 3 := by rw [List.length_drop, hl]
          have h3 : (fileC f).length = 3 := rfl
          have h4 := Go.length_splice R (i * 3) (fileC f) (by rw [h3, hRl]; omega)
          rw [Go.length_splice _ _ _ (by rw [h4, hd, hRl]; omega), h4, hRl]
        · rw [ht] at hRt
          rw [ht, List.toList_toArray, show (n + 1) * 3 = n * 3 + 3 by omega, ins_grow R _ (fileC f) (i * 3) (n * 3) 3 hRt hl (by omega) rfl (by rw [hRl]; omega), flat_ins]
  · refine (ins_end A i cap gv vc B _ (fileC f) w hown hv rfl h1v hn hB).mono ?_
    rintro e w' ⟨A', cap', rfl, ho, hgr⟩
    refine ⟨A', cap', rfl, ?_, hgr⟩
    rw [← flat_ins, List.take_of_length_le (by omega), List.drop_eq_nil_of_le (by omega), List.append_nil]
    exact ho

/-! ### Delete -/
theorem run_clear_rowN {P : Program} (w : World) (t e ty : TypeId) (z : Value) (ht : P.underlying t = some (.slice e)) (hv : ∀ w, (zeroValue e).run P w = .ok z w) (g o c : Nat) (cur : Array Value) (tt : TypeId) (hg : w.heap[g]? = some (.cells cur tt (0, 0)))
    (hfit : o + z.cells.size ≤ cur.size) (h1 : ∀ v ∈ z.cells.toList, v.oneCell' = true) :
    (Builtin.clear_ #[t] ty #[.slice (some ⟨g, o, none⟩) 1 c]).run P w = .ok (.tuple #[]) (w.setRow g (Go.splice cur.toList o z.cells.toList).toArray) := by
  have hzc : (Builtin.zeroCells z.cells 1).toList = z.cells.toList := by
    simp [Builtin.zeroCells]
    apply List.ext_getElem
    · simp
    · intro i h1 h2
      have h2' : i < z.cells.size := by simpa using h2
      simp [Nat.mod_eq_of_lt h2', getElem!_pos z.cells i h2']
  have hst := run_storeCells_at P g o tt z.cells.toList 0 cur w hg (by simpa using hfit) h1
  simp only [Nat.add_zero] at hst
  rw [splice_eq]
  simp [Builtin.clear_, run_underlying ht, hv, hzc, hst, List.append_assoc]
theorem step_append_run {P : Program} {ops : Array Oper} {o : Oper} {a : Act} {w : World} {K : Act → World → Prop} {Q : Exit → Act → World → Prop} {E : Prop}
    (hg : o.guard = none) (d x : Operand) (dT sT : TypeId) (hop : o.op = Op.call { callee := Callee.builtin Builtin.append, args := #[d, x], argTypes := #[dT, sT] })
    (v u : Value) (hd : a.eval d = v) (hx : a.eval x = u) {v' : Value} {w' : World} (hr : (Builtin.append_ #[dT, sT] o.type #[v, u]).run P w = .ok v' w') (hK : K (a.put o.dst v') w') :
    if Region.wanted o (yielded ops a.tmps) = true then Oper.wp P o a w K Q else E := by
  have hw : Region.wanted o (yielded ops a.tmps) = true := by simp [Region.wanted, hg]
  rw [if_pos hw]
  unfold Oper.wp execOp
  simp only [hop, resolve, invoke, builtin, Sem.run_bind, Sem.run_pure, Result.andThen_ok, List.map_toArray, List.map_cons, List.map_nil, hd, hx, hr]
  exact hK
theorem wpList_clear_run (w : World) {P : Program} {ops : Array Oper} {rest : List Oper} {o : Oper} {a : Act} {Q : Exit → Act → World → Prop} (hgd : o.guard = none) (s : Operand) (t : TypeId)
    (ho : o.op = .call { callee := .builtin .clear, args := #[s], argTypes := #[t] }) (v : Value) (hs : a.eval s = v) {v' : Value} {w' : World}
    (hr : (Builtin.clear_ #[t] o.type #[v]).run P w = .ok v' w') (h : wpList P ops Q rest (a.put o.dst v') w') : wpList P ops Q (o :: rest) a w :=
  wpList_plain hgd fun _ hK => by
    unfold Oper.wp execOp
    simp only [ho, resolve, invoke, builtin, Sem.run_bind, Sem.run_pure, Result.andThen_ok, List.map_toArray, List.map_cons, List.map_nil, hs, hr]
    exact hK _ _ h
theorem zeroFile : ∀ w, (zeroValue 89).run Tryd.prog w = .ok (.agg #[.string (bs []), .string (bs []), .string (bs [])]) w := by
  intro w
  obtain ⟨i0, hi0, h0, h1, _⟩ := info_parts E.file.info
  simp [zeroValue, typeInfo, hi0, h0]

set_option maxHeartbeats 4000000 in
set_option maxRecDepth 100000 in
theorem del_walk (g cap n i : Nat) (cur : List Value) (w : World) (hi : i < n) (hnc : n ≤ cap) (hcap : cap ≤ maxLen) (hn : n ≤ 1099511627776) (hg : Blk w g 89 cur.toArray) (hs : cur.length = cap * 3)
    (h1 : ∀ v ∈ cur.take (n * 3), v.oneCell' = true) :
    Calls Tryd.prog 115 #[.slice (some ⟨g, 0, none⟩) n cap, .int .i64 (i : Int), .int .i64 ((i : Int) + 1)] w fun e w' =>
      e = .returned (.slice (some ⟨g, 0, none⟩) (n - 1) cap) ∧ Blk w' g 89 (Go.splice (Go.splice cur (i * 3) ((cur.take (n * 3)).drop (i * 3 + 3))) (n * 3 - 3) [.string (bs []), .string (bs []), .string (bs [])]).toArray ∧ w.grownBy w' (some g) := by
  have hcs : (cur.take (n * 3)).length = n * 3 := by rw [List.length_take]; omega
  obtain ⟨i0, hi0, hz0, hz1, hz2⟩ := info_parts E.file.info
  obtain ⟨news, hnews⟩ : ∃ news, news = (cur.take (n * 3)).drop (i * 3 + 3) := ⟨_, rfl⟩
  have hnl : news.length = (n - (i + 1)) * 3 := by rw [hnews, List.length_drop, hcs]; omega
  have hnc1 : ∀ v ∈ news, v.oneCell' = true := fun v hv => h1 v (by rw [hnews] at hv; exact List.mem_of_mem_drop hv)
  have hncell : ∀ j v, news[j]? = some v → w.cell? ⟨g, i * 3 + 3 + j, none⟩ = some v := fun j v hj => by
    rw [hnews, List.getElem?_drop, List.getElem?_take] at hj
    split at hj
    · exact (hg.cell _).trans (by simpa using hj)
    · cases hj
  rw [← hnews]
  obtain ⟨c1, hc1⟩ : ∃ c1, c1 = Go.splice cur (i * 3) news := ⟨_, rfl⟩
  have hc1l : c1.length = cap * 3 := by rw [hc1, Go.length_splice _ _ _ (by rw [hnl, hs]; omega), hs]
  have happ : ∀ ad ty c, (0 < n - (i + 1) → ad = ⟨g, (i + 1) * 3, none⟩) → (Builtin.append_ #[41, 41] ty #[.slice (some ⟨g, 0, none⟩) i cap, .slice (some ad) (n - (i + 1)) c]).run Tryd.prog w.drew = .ok (.slice (some ⟨g, 0, none⟩) (n - 1) cap) (w.drew.setRow g c1.toArray) := fun ad ty c had => by
    have := run_append_room (P := Tryd.prog) w.drew 41 ty 89 i0 E.file.under hi0 g i cap cur.toArray hg.drew ad (n - (i + 1)) c news (by rw [hz1]; exact hnl)
      (fun j u hu => by
        have h0 : 0 < n - (i + 1) := by
          have := (List.getElem?_eq_some_iff.1 hu).1
          rw [hnl] at this; omega
        rw [had h0, Addr.add_lit]
        exact (by simpa using hncell j u hu : w.drew.cell? ⟨g, i * 3 + 3 + j, none⟩ = some u) |> fun h => by rw [show (i + 1) * 3 + j = i * 3 + 3 + j by omega]; exact h)
      hnc1 (by omega) (by rw [hz1, hnl, List.size_toArray, hs]; omega)
    rw [this, hz1, hc1, splice_eq, show i + (n - (i + 1)) = n - 1 by omega]
    simp only [List.append_assoc]
  have hg1 : Blk (w.drew.setRow g c1.toArray) g 89 c1.toArray := hg.drew.of_setRow _
  obtain ⟨W1, hW1⟩ : ∃ W1, W1 = w.drew.setRow g c1.toArray := ⟨_, rfl⟩
  have hgr1 : w.grownBy W1 (some g) := by
    rw [hW1]
    exact ⟨rfl, rfl, rfl, by simp [World.setRow], fun k hk hne => by rw [setRow_other _ g k _ (fun e => hne (by rw [e]))]; rfl⟩
  rw [← hW1] at happ hg1
  have hcl : ∀ ty c, (Builtin.clear_ #[41] ty #[.slice (some ⟨g, (n - 1) * 3, none⟩) 1 c]).run Tryd.prog W1 = .ok (.tuple #[]) (W1.setRow g (Go.splice c1 (n * 3 - 3) [.string (bs []), .string (bs []), .string (bs [])]).toArray) := fun ty c => by
    have := run_clear_rowN (P := Tryd.prog) W1 41 89 ty _ E.file.under zeroFile g ((n - 1) * 3) c c1.toArray 89 hg1 (by
      have : (Value.agg #[.string (bs []), .string (bs []), .string (bs [])]).cells.size = 3 := E.file.zcells
      rw [this, List.size_toArray, hc1l]; omega) (by intro v hv; simp [Value.cells] at hv; subst hv; rfl)
    rw [this, show (n - 1) * 3 = n * 3 - 3 by omega]
    rfl
  have HB : Sec (Blk (W1.setRow g (Go.splice c1 (n * 3 - 3) [.string (bs []), .string (bs []), .string (bs [])]).toArray) g 89 (Go.splice (Go.splice cur (i * 3) news) (n * 3 - 3) [.string (bs []), .string (bs []), .string (bs [])]).toArray) := sec (by
    rw [← hc1]; exact hg1.of_setRow _)
  have HGW : Sec (w.grownBy (W1.setRow g (Go.splice c1 (n * 3 - 3) [.string (bs []), .string (bs []), .string (bs [])]).toArray) (some g)) := sec
    ⟨hgr1.os, hgr1.tape, hgr1.output, by simpa [World.setRow] using hgr1.size, fun k hk hne => by rw [setRow_other _ g k _ (fun e => hne (by rw [e]))]; exact hgr1.block k hk hne⟩
  have hz2' : ¬ ((i : Int) = (i : Int) + 1) := by omega
  have htn : ((i : Int) + 1).toNat = i + 1 := by omega
  have hb1 : (0 : Int) ≤ (i : Int) + 1 := by omega
  have hb3 : (i : Int) + 1 ≤ (n : Int) := by omega
  have hb4 : ¬ (cap = i) := by omega
  have hb5 : ¬ (cap = n - 1) := by omega
  have hb6 : (i : Int) ≤ (n : Int) := by omega
  have hb7 : (i : Int) ≤ (cap : Int) := by omega
  have hb8 : (n : Int) ≤ (cap : Int) := by omega
  have hb9 : n - (n - 1) = 1 := by omega
  have hb10 : (i : Int) ≤ (i : Int) + 1 := by omega
  clear hc1 hc1l hg1 h1 hg hs hcs hW1 hz0 hz1 hz2 hi0 hgr1 hnews hnl hnc1 hncell
  by_cases hce : cap = i + 1
  · subst hce
    go_enter Tryd.func115, Tryd.ntmps115
    go_wp2_with fail
    go_region_law (refine step_append_run (v := .slice (some ⟨g, 0, none⟩) i (i + 1)) (u := .slice (some ⟨g, 0, none⟩) (n - (i + 1)) 0) rfl (.tmp 22) (.tmp 25) 41 41 rfl ?hd ?hx (happ ⟨g, 0, none⟩ _ _ ?had) ?_; (case hd => simp [Act.eval, Act.put]); (case hx => simp [Act.eval, Act.put]; try omega); (case had => intro h; omega))
    go_wp2_with (at_builtin; refine wpList_clear_run _ rfl (.tmp 31) 41 rfl _ rfl (hcl _ _) ?_)
    go_ret
    exact ⟨rfl, HB.out, HGW.out⟩
  · go_enter Tryd.func115, Tryd.ntmps115
    go_wp2_with fail
    go_region_law (refine step_append_run (v := .slice (some ⟨g, 0, none⟩) i cap) (u := .slice (some ⟨g, (i + 1) * 3, none⟩) (n - (i + 1)) (cap - (i + 1))) rfl (.tmp 22) (.tmp 25) 41 41 rfl ?hd ?hx (happ ⟨g, (i + 1) * 3, none⟩ _ _ ?had) ?_; (case hd => simp [Act.eval, Act.put]); (case hx => simp [Act.eval, Act.put]; try omega); (case had => intro h; rfl))
    go_wp2_with (at_builtin; refine wpList_clear_run _ rfl (.tmp 31) 41 rfl _ rfl (hcl _ _) ?_)
    go_ret
    exact ⟨rfl, HB.out, HGW.out⟩

theorem delete_any (A : Option Addr) (n cap i B : Nat) (fs : List Fl) (w : World) (hown : w.ownsRow B 89 3 (.slice A n cap) n (fs.flatMap fileC)) (hi : i < n) (hn : n ≤ 1099511627776) :
    Calls Tryd.prog 115 #[.slice A n cap, .int .i64 (i : Int), .int .i64 ((i : Int) + 1)] w fun e w' =>
      e = .returned (.slice A (n - 1) cap) ∧ w'.ownsRow B 89 3 (.slice A (n - 1) cap) (n - 1) ((fs.eraseIdx i).flatMap fileC) ∧ w.grownBy w' (Value.ownBlock (.slice A n cap)) := by
  have hl : (fs.flatMap fileC).length = n * 3 := hown.1
  have hfl : fs.length = n := by have := flat_len fileC 3 (fun _ => rfl) fs; omega
  rcases hown.2 with ⟨_, h0⟩ | ⟨g, cap', cur, hvv, hBg, hg, hnc, hcm, hcs, ht⟩
  · omega
  · injection hvv with hA _ hc
    subst hA hc
    have hg' : Blk w g 89 cur.toList.toArray := by rw [Array.toArray_toList]; exact hg
    have hcl : cur.toList.length = cap * 3 := by simpa using hcs
    have h1 : ∀ v ∈ cur.toList.take (n * 3), v.oneCell' = true := by rw [ht]; exact fileC_one
    refine (del_walk g cap n i cur.toList w hi hnc hcm hn hg' hcl h1).mono ?_
    rintro e w' ⟨rfl, hb, hgr⟩
    have hd : ((fs.flatMap fileC).drop (i * 3 + 3)).length = n * 3 - (i * 3 + 3) := by rw [List.length_drop, hl]
    refine ⟨rfl, ⟨?_, .inr ⟨g, cap, _, rfl, hBg, hb, by omega, hcm, ?_, ?_⟩⟩, hgr⟩
    · rw [flat_len fileC 3 (fun _ => rfl), List.length_eraseIdx_of_lt (by omega)]; omega
    · rw [ht, List.size_toArray]
      have h4 := Go.length_splice cur.toList (i * 3) ((fs.flatMap fileC).drop (i * 3 + 3)) (by rw [hd, hcl]; omega)
      rw [Go.length_splice _ _ _ (by rw [h4, hcl]; simp; omega), h4, hcl]
    · rw [ht, List.toList_toArray, show (n - 1) * 3 = n * 3 - 3 by omega, del_room cur.toList _ (i * 3) (n * 3) 3 ht hl (by omega) (by rw [hcl]; omega) _ rfl, flat_del]
end Go.Proofs.YtmgpllakpgjicaaDoor

namespace Go.Proofs.YtmgpllakpgjicaaDoor
open Go.RowKit
set_option linter.unusedVariables false
structure DOwn (w : World) (B q : Nat) (A : Option Addr) (n cap : Nat) (u : Int) (fs : List Fl) : Prop where
  blk : Blk w q 43 #[.slice A n cap, .int .i64 u]
  own : w.ownsRow B 89 3 (.slice A n cap) n (fs.flatMap fileC)
  base : B ≤ q
theorem DOwn.gr {w w' : World} {B q n cap : Nat} {A : Option Addr} {u : Int} {fs : List Fl} (h : DOwn w B q A n cap u fs) (g : Gr w w') : DOwn w' B q A n cap u fs :=
  ⟨h.blk.gr g, own_gr h.own g, h.base⟩
theorem DOwn.ne {w : World} {B q n cap : Nat} {A : Option Addr} {u : Int} {fs : List Fl} (h : DOwn w B q A n cap u fs) : (Value.slice A n cap).ownBlock ≠ some q := own_blk_ne h.own h.blk (by decide)
/-- a closure that turns the disk at its pointer -/
def Steps (g : Nat) (caps : Array Value) (F : List Fl → List Fl × Int) (w0 : World) : Prop :=
  ∀ (wc w : World) (q : Nat) (A : Option Addr) (n cap : Nat) (u : Int) (fs : List Fl), Gr w0 wc → Gr wc w → DOwn w wc.heap.size q A n cap u fs → goodFs fs = true →
    Calls Tryd.prog g (#[.pointer (some ⟨q, 0, none⟩)] ++ caps) w fun e w' => e = .returned (.int .i64 (F fs).2) ∧ Gr wc w' ∧ ((F fs).2 = 0 → ∃ A' n' cap', DOwn w' wc.heap.size q A' n' cap' u (F fs).1)
/-- a step: the disk, its fuse, the error -/
def stepR (F : List Fl → List Fl × Int) (fs : List Fl) (f : Int) : List Fl × Int × Int :=
  if goodFs fs then (if f = 0 then (fs, f, 12) else if (F fs).2 = 0 then ((F fs).1, (if 0 < f then f - 1 else f), 0) else (fs, f, (F fs).2)) else (fs, f, 3)

/-- what a step hands back -/
def StepPost (r : List Fl × Int × Int) (A : Option Addr) (n cap : Nat) (fs : List Fl) (w : World) (e : Ending) (w' : World) : Prop :=
  ∃ A' n' cap', e = .returned (.tuple #[diskV A' n' cap' r.2.1, .int .i64 r.2.2]) ∧ Gr w w' ∧ (A' = none → n' = 0 ∧ cap' = 0) ∧
    ((A' = A ∧ n' = n ∧ cap' = cap ∧ r.1 = fs) ∨ w'.ownsRow w.heap.size 89 3 (.slice A' n' cap') n' (r.1.flatMap fileC))
theorem StepPost.row {r : List Fl × Int × Int} {A A' : Option Addr} {n n' cap cap' : Nat} {fs : List Fl} {w w' : World} (hx : FRow w A n fs) (hg : Gr w w')
    (h : (A' = A ∧ n' = n ∧ cap' = cap ∧ r.1 = fs) ∨ w'.ownsRow w.heap.size 89 3 (.slice A' n' cap') n' (r.1.flatMap fileC)) : FRow w' A' n' r.1 := by
  rcases h with ⟨rfl, rfl, _, h⟩ | h
  · rw [h]; exact hx.gr hg
  · exact Row.own h
theorem own_ncap {w : World} {B e size n cap m : Nat} {A : Option Addr} {xs : List Value} (h : w.ownsRow B e size (.slice A n cap) m xs) : n ≤ cap := by
  rcases h.2 with ⟨e, h0⟩ | ⟨g, c, cur, e, _, _, h, _⟩
  · injection e with _ e1 e2; omega
  · injection e with _ e1 e2; omega
theorem StepPost.cap {r : List Fl × Int × Int} {A A' : Option Addr} {n n' cap cap' : Nat} {fs : List Fl} {w w' : World} (hc : n ≤ cap)
    (h : (A' = A ∧ n' = n ∧ cap' = cap ∧ r.1 = fs) ∨ w'.ownsRow w.heap.size 89 3 (.slice A' n' cap') n' (r.1.flatMap fileC)) : n' ≤ cap' := by
  rcases h with ⟨_, rfl, rfl, _⟩ | h
  · exact hc
  · exact own_ncap h
/-- a result's cell, stored -/
theorem StepPost.set2 {r : List Fl × Int × Int} {A A' : Option Addr} {n n' cap cap' p : Nat} {fs : List Fl} {w w0 w' : World} (hw : Gr w w0) (hp : p < w0.heap.size) (hwp : w.heap.size ≤ p) (hg : Gr w0 w') (u v : Value)
    (h : (A' = A ∧ n' = n ∧ cap' = cap ∧ r.1 = fs) ∨ w'.ownsRow w0.heap.size 89 3 (.slice A' n' cap') n' (r.1.flatMap fileC)) :
    Gr w ((w'.setCell ⟨p, 0, none⟩ u).setCell ⟨p, 1, none⟩ v) ∧ ((A' = A ∧ n' = n ∧ cap' = cap ∧ r.1 = fs) ∨ ((w'.setCell ⟨p, 0, none⟩ u).setCell ⟨p, 1, none⟩ v).ownsRow w.heap.size 89 3 (.slice A' n' cap') n' (r.1.flatMap fileC)) := by
  refine ⟨((hw.trans hg).setCell (p := ⟨p, 0, none⟩) hwp _).setCell (p := ⟨p, 1, none⟩) hwp _, ?_⟩
  rcases h with h | h
  · exact .inl h
  · have hne : (Value.slice A' n' cap').ownBlock ≠ some p := fun e => by have := (h.lt _ e).1; omega
    exact .inr (own_low (ownsRow_setCell_other (ownsRow_setCell_other h (a := ⟨p, 0, none⟩) hne _) (a := ⟨p, 1, none⟩) hne _) hw.size)
theorem own_none {w : World} {B e size n cap m : Nat} {A : Option Addr} {xs : List Value} (h : w.ownsRow B e size (.slice A n cap) m xs) (hA : A = none) : n = 0 ∧ cap = 0 := by
  rcases h.2 with ⟨e, h0⟩ | ⟨g, c, cur, e, _⟩
  · injection e with _ e1 e2; exact ⟨e1, e2⟩
  · injection e with e0; rw [hA] at e0; cases e0
theorem down_a {w1 w2 : World} {A' : Option Addr} {n cap' : Nat} {f : Int} {fs : List Fl} (hown : w2.ownsRow w1.drew.heap.size 89 3 (.slice A' n cap') n (fs.flatMap fileC)) (g2 : Gr w1.drew w2) :
    ∃ (q : Nat) (A1 : Option Addr) (cap1 : Nat), Value.pointer (some ⟨w2.heap.size, 0, none⟩) = .pointer (some ⟨q, 0, none⟩) ∧ Sec (DOwn (w2.alloc (.cells #[.slice A' n cap', .int .i64 f] 43)) w1.heap.size q A1 n cap1 f fs) ∧ Gr w1 (w2.alloc (.cells #[.slice A' n cap', .int .i64 f] 43)) :=
  ⟨w2.heap.size, A', cap', rfl, sec ⟨Blk.new w2 _ _, own_gr hown ((Gr.refl w2).alloc _), g2.size⟩, (Gr.trans (Gr.refl w1).drew g2).alloc _⟩
theorem down_b {w1 w2 : World} {A' : Option Addr} {n cap' : Nat} {f : Int} {fs : List Fl} {o : Obj} (hown : w2.ownsRow (w1.alloc o).drew.heap.size 89 3 (.slice A' n cap') n (fs.flatMap fileC)) (g2 : Gr (w1.alloc o).drew w2)
    (hq2 : Blk w2 w1.heap.size 43 #[.slice none 0 0, .int .i64 0]) :
    ∃ (q : Nat) (A1 : Option Addr) (cap1 : Nat), Value.pointer (some ⟨w1.heap.size, 0, none⟩) = .pointer (some ⟨q, 0, none⟩) ∧ Sec (DOwn ((w2.setCell ⟨w1.heap.size, 0, none⟩ (.slice A' n cap')).setCell ⟨w1.heap.size, 1, none⟩ (.int .i64 f)) w1.heap.size q A1 n cap1 f fs) ∧ Gr w1 ((w2.setCell ⟨w1.heap.size, 0, none⟩ (.slice A' n cap')).setCell ⟨w1.heap.size, 1, none⟩ (.int .i64 f)) := by
  have hne := own_blk_ne hown hq2 (by decide)
  have hg : Gr w1 w2 := Gr.trans ((Gr.refl w1).alloc o).drew g2
  refine ⟨w1.heap.size, A', cap', rfl, sec ⟨(hq2.set_ 0 _).set_ 1 _, own_low (ownsRow_setCell_other (ownsRow_setCell_other hown (a := ⟨w1.heap.size, 0, none⟩) hne _) (a := ⟨w1.heap.size, 1, none⟩) hne _) (by simp [World.drew]), Nat.le_refl _⟩, (hg.setCell (p := ⟨w1.heap.size, 0, none⟩) (Nat.le_refl _) _).setCell (p := ⟨w1.heap.size, 1, none⟩) (Nat.le_refl _) _⟩

set_option maxRecDepth 100000 in
set_option maxHeartbeats 4000000 in
theorem step_any (g : Nat) (caps : Array Value) (F : List Fl → List Fl × Int) (eg : ∀ args w, (callFunc g args).run Tryd.prog w = .ok (.enter g args) w) (fs : List Fl) (A : Option Addr) (n cap : Nat) (f : Int) (w : World) (hn : n ≤ 1099511627776) (hx : FRow w A n fs) (hA : A = none → n = 0 ∧ cap = 0) (hs : ∀ f ∈ fs, f.1.length ≤ 1099511627776 ∧ f.2.1.length ≤ 1099511627776 ∧ f.2.2.length ≤ 1099511627776)
    (hf : -9223372036854775808 ≤ f ∧ f ≤ 9223372036854775807) (hF : Steps g caps F w) :
    Calls Tryd.prog 113 #[diskV A n cap f, .func (.func g) #[] caps] w (StepPost (stepR F fs f) A n cap fs w) := by
  have hg0 := ((Gr.refl w).alloc (.cells #[.slice A n cap, .int .i64 f] 43)).alloc (.cells #[.slice none 0 0, .int .i64 0] 43)
  have hb1 := (Blk.new w 43 #[.slice A n cap, .int .i64 f]).alloc (.cells #[.slice none 0 0, .int .i64 0] 43)
  have hb2 := Blk.new1 w (.cells #[.slice A n cap, .int .i64 f] 43) 43 #[.slice none 0 0, .int .i64 0]
  have HG := sec (dgood_any fs A n cap f _ hn (hx.gr hg0) hs)
  have hl := hx.len
  have HX := sec (hx.gr hg0)
  obtain ⟨wa, hwa⟩ : ∃ x, x = (w.alloc (.cells #[.slice A n cap, .int .i64 f] 43)).alloc (.cells #[.slice none 0 0, .int .i64 0] 43) := ⟨_, rfl⟩
  rw [← hwa] at hg0 hb1 hb2 HG HX
  obtain ⟨p, hp⟩ : ∃ p, p = w.heap.size := ⟨_, rfl⟩
  have hwp : w.heap.size ≤ p := by omega
  rw [← hp] at hb1 hb2
  have c0 : wa.cell? ⟨p, 0, none⟩ = some (.slice A n cap) := hb1.cell 0
  have c1 : wa.cell? ⟨p, 1, none⟩ = some (.int .i64 f) := hb1.cell 1
  have HB := sec hb1
  have HR2 := sec hb2
  have HX0 := sec hx
  have HFF := sec hF
  have HA := sec hA
  clear hb1 hb2 hs hx hF
  unfold diskV at HG
  unfold diskV
  have HW : Sec (∀ w1, Gr wa w1 → Blk ((w1.setCell ⟨p + 1, 0, none⟩ (.slice A n cap)).setCell ⟨p + 1, 1, none⟩ (.int .i64 f)) (p + 1) 43 #[.slice A n cap, .int .i64 f]) := sec fun w1 g1 => ((HR2.out.gr g1).set_ 0 (.slice A n cap)).set_ 1 (.int .i64 f)
  have HV : Sec (∀ w1, Gr wa w1 → Gr w ((w1.setCell ⟨p + 1, 0, none⟩ (.slice A n cap)).setCell ⟨p + 1, 1, none⟩ (.int .i64 f))) := sec fun w1 g1 => ((hg0.trans g1).setCell (p := ⟨p + 1, 0, none⟩) (by show w.heap.size ≤ p + 1; omega) _).setCell (p := ⟨p + 1, 1, none⟩) (by show w.heap.size ≤ p + 1; omega) _
  cases hgf : goodFs fs with
  | false =>
    have HR : Sec (stepR F fs f = (fs, f, 3)) := sec (by unfold stepR; rw [hgf]; rfl)
    rw [HR.out]
    rw [hgf] at HG
    clear hgf
    go_enter Tryd.func113, Tryd.ntmps113
    go_wp2_with (first | (rw [← hwa, ← hp]; clear hwa hp; go_wp2_with fail) | (go_at_call 84; refine Calls.mono HG.out ?_; rintro e w1 ⟨rfl, g1⟩; have c0y : w1.cell? ⟨p, 0, none⟩ = some (.slice A n cap) := (HB.out.gr g1).cell 0; have c1y : w1.cell? ⟨p, 1, none⟩ = some (.int .i64 f) := (HB.out.gr g1).cell 1; have d20 : w1.cell? ⟨p + 1, 0, none⟩ = some (.slice none 0 0) := (HR2.out.gr g1).cell 0; have d21 : w1.cell? ⟨p + 1, 1, none⟩ = some (.int .i64 0) := (HR2.out.gr g1).cell 1; have f20 : w1.frozen? ⟨p + 1, 0, none⟩ = false := (HR2.out.gr g1).frozen 0; have f21 : w1.frozen? ⟨p + 1, 1, none⟩ = false := (HR2.out.gr g1).frozen 1))
    refine bodyPost_ret (results_blk_tmp rfl _ rfl (HW.out w1 g1) aggDisk) rfl ?_
    exact ⟨A, n, cap, rfl, HV.out w1 g1, HA.out, .inl ⟨rfl, rfl, rfl, rfl⟩⟩
  | true =>
    rw [hgf] at HG
    by_cases hf0 : f = 0
    · have HR : Sec (stepR F fs f = (fs, f, 12)) := sec (by unfold stepR; rw [hgf, hf0]; rfl)
      rw [HR.out]
      clear hgf
      subst hf0
      go_enter Tryd.func113, Tryd.ntmps113
      go_wp2_with (first | (rw [← hwa, ← hp]; clear hwa hp; go_wp2_with fail) | (go_at_call 84; refine Calls.mono HG.out ?_; rintro e w1 ⟨rfl, g1⟩; have c0y : w1.cell? ⟨p, 0, none⟩ = some (.slice A n cap) := (HB.out.gr g1).cell 0; have c1y : w1.cell? ⟨p, 1, none⟩ = some (.int .i64 0) := (HB.out.gr g1).cell 1; have d20 : w1.cell? ⟨p + 1, 0, none⟩ = some (.slice none 0 0) := (HR2.out.gr g1).cell 0; have d21 : w1.cell? ⟨p + 1, 1, none⟩ = some (.int .i64 0) := (HR2.out.gr g1).cell 1; have f20 : w1.frozen? ⟨p + 1, 0, none⟩ = false := (HR2.out.gr g1).frozen 0; have f21 : w1.frozen? ⟨p + 1, 1, none⟩ = false := (HR2.out.gr g1).frozen 1))
      refine bodyPost_ret (results_blk_tmp rfl _ rfl (HW.out w1 g1) aggDisk) rfl ?_
      exact ⟨A, n, cap, rfl, HV.out w1 g1, HA.out, .inl ⟨rfl, rfl, rfl, rfl⟩⟩
    · have HGF := sec hgf
      clear hgf
      go_enter Tryd.func113, Tryd.ntmps113
      go_wp2_with (first | (rw [← hwa, ← hp]; clear hwa hp; go_upto_region 5 with fail) | (go_at_call 84; refine Calls.mono HG.out ?_; rintro e w1 ⟨rfl, g1⟩; have c0y : w1.cell? ⟨p, 0, none⟩ = some (.slice A n cap) := (HB.out.gr g1).cell 0; have c1y : w1.cell? ⟨p, 1, none⟩ = some (.int .i64 f) := (HB.out.gr g1).cell 1))
      have HC1 : Sec (∀ W, Gr wa W → W.cell? ⟨p, 1, none⟩ = some (.int .i64 f)) := sec (fun W g => (HB.out.gr g).cell 1)
      have HG1 := sec g1
      have c0y2 : (w1.alloc (.cells #[.slice none 0 0, .int .i64 0] 43)).cell? ⟨p, 0, none⟩ = some (.slice A n cap) := (HB.out.gr (g1.alloc _)).cell 0
      have c1y2 : (w1.alloc (.cells #[.slice none 0 0, .int .i64 0] 43)).cell? ⟨p, 1, none⟩ = some (.int .i64 f) := (HB.out.gr (g1.alloc _)).cell 1
      go_cut [6] from 8 to 35 (fun v6 wx => ∃ (q : Nat) (A' : Option Addr) (cap' : Nat), v6 = .pointer (some ⟨q, 0, none⟩) ∧ Sec (DOwn wx w1.heap.size q A' n cap' f fs) ∧ Gr w1 wx)
      case first =>
        go_region_with (first
          | (go_at_call 125; refine Calls.mono (clone_any fs A n cap w1.drew hn (HX.out.gr HG1.out.drew) HA.out) ?_; rintro e w2 ⟨A', cap', rfl, hown, g2⟩; have c1z : w2.cell? ⟨p, 1, none⟩ = some (.int .i64 f) := HC1.out w2 (HG1.out.drew.trans g2); have c1z2 : (w2.alloc (.cells #[.slice none 0 0, .int .i64 0] 43)).cell? ⟨p, 1, none⟩ = some (.int .i64 f) := HC1.out _ ((HG1.out.drew.trans g2).alloc _))
          | (go_at_call 125; refine Calls.mono (clone_any fs A n cap (w1.alloc (.cells #[.slice none 0 0, .int .i64 0] 43)).drew hn (HX.out.gr (HG1.out.alloc _).drew) HA.out) ?_; rintro e w2 ⟨A', cap', rfl, hown, g2⟩; have c1z : w2.cell? ⟨p, 1, none⟩ = some (.int .i64 f) := HC1.out w2 ((HG1.out.alloc _).drew.trans g2); have hq2 : Blk w2 w1.heap.size 43 #[.slice none 0 0, .int .i64 0] := (Blk.new w1 _ _).gr (Gr.trans (Gr.refl _).drew g2); have dq0 : w2.cell? ⟨w1.heap.size, 0, none⟩ = some (.slice none 0 0) := hq2.cell 0; have dq1 : w2.cell? ⟨w1.heap.size, 1, none⟩ = some (.int .i64 0) := hq2.cell 1; have fq0 : w2.frozen? ⟨w1.heap.size, 0, none⟩ = false := hq2.frozen 0; have fq1 : w2.frozen? ⟨w1.heap.size, 1, none⟩ = false := hq2.frozen 1))
        all_goals (go_wp2_with fail; go_meet; first | exact down_a hown g2 | exact down_b hown g2 hq2)
      case rest =>
        obtain ⟨q, A1, cap1, rfl, HD, gc⟩ := hcut
        have hpq : p + 1 < q := by have := (HR2.out.gr HG1.out).lt; have := HD.out.base; omega
        have dq0 : wc.cell? ⟨q, 0, none⟩ = some (.slice A1 n cap1) := HD.out.blk.cell 0
        have dq1 : wc.cell? ⟨q, 1, none⟩ = some (.int .i64 f) := HD.out.blk.cell 1
        have fq1 : wc.frozen? ⟨q, 1, none⟩ = false := HD.out.blk.frozen 1
        obtain ⟨⟨R, E⟩, hR⟩ : ∃ x, x = F fs := ⟨_, rfl⟩
        have HC : Sec (∀ W u, Gr w1 W ∧ DOwn W w1.heap.size q A1 n cap1 u fs → Calls Tryd.prog g (#[.pointer (some ⟨q, 0, none⟩)] ++ caps) W fun e w' => e = .returned (.int .i64 E) ∧ Gr w1 w' ∧ (E = 0 → ∃ A' n' cap', DOwn w' w1.heap.size q A' n' cap' u R)) := sec (fun W u d => by
          have := HFF.out w1 W q A1 n cap1 u fs (hg0.trans HG1.out) d.1 d.2 HGF.out
          rwa [← hR] at this)
        have HRR := sec hR
        clear hR
        by_cases hpos : 0 < f
        · have hwr : IntKind.i64.wrap (f - 1) = f - 1 := IntWalk.i64_in _ (by omega)
          have HPOS := sec hpos
          have HD2 : Sec (Gr w1 (wc.setCell ⟨q, 1, none⟩ (.int .i64 (f - 1))) ∧ DOwn (wc.setCell ⟨q, 1, none⟩ (.int .i64 (f - 1))) w1.heap.size q A1 n cap1 (f - 1) fs) := sec ⟨gc.setCell (p := ⟨q, 1, none⟩) HD.out.base _, HD.out.blk.set_ 1 _, ownsRow_setCell_other HD.out.own (a := ⟨q, 1, none⟩) HD.out.ne _, HD.out.base⟩
          by_cases hE : E = 0
          · subst hE
            have HS : Sec (stepR F fs f = (R, (f - 1), 0)) := sec (by unfold stepR; rw [HGF.out, if_pos rfl, if_neg hf0, ← HRR.out, if_pos rfl]; simp [HPOS.out])
            go_wp2_with (refine Calls.mono (HC.out _ (f - 1) HD2.out) ?_; rintro e w3 ⟨rfl, g3, h3⟩; obtain ⟨A3, n3, cap3, hd3⟩ := h3 rfl; have hb30 : w3.cell? ⟨q, 0, none⟩ = some (.slice A3 n3 cap3) := hd3.blk.cell 0; have hb31 : w3.cell? ⟨q, 1, none⟩ = some (.int .i64 ((f - 1))) := hd3.blk.cell 1; have c0y3 : w3.cell? ⟨p, 0, none⟩ = some (.slice A n cap) := (HB.out.gr (HG1.out.trans g3)).cell 0; have c1y3 : w3.cell? ⟨p, 1, none⟩ = some (.int .i64 f) := (HB.out.gr (HG1.out.trans g3)).cell 1; have d20 : w3.cell? ⟨p + 1, 0, none⟩ = some (.slice none 0 0) := (HR2.out.gr (HG1.out.trans g3)).cell 0; have d21 : w3.cell? ⟨p + 1, 1, none⟩ = some (.int .i64 0) := (HR2.out.gr (HG1.out.trans g3)).cell 1; have f20 : w3.frozen? ⟨p + 1, 0, none⟩ = false := (HR2.out.gr (HG1.out.trans g3)).frozen 0; have f21 : w3.frozen? ⟨p + 1, 1, none⟩ = false := (HR2.out.gr (HG1.out.trans g3)).frozen 1)
            have hbb := (HR2.out.gr (HG1.out.trans g3))
            have hne := own_blk_ne hd3.own hbb (by decide)
            refine bodyPost_ret (results_blk_tmp rfl _ rfl ((hbb.set_ 0 (.slice A3 n3 cap3)).set_ 1 (.int .i64 ((f - 1)))) aggDisk) rfl ?_
            rw [HS.out]
            exact ⟨A3, n3, cap3, rfl, ((hg0.trans (HG1.out.trans g3)).setCell (p := ⟨p + 1, 0, none⟩) (by show w.heap.size ≤ p + 1; omega) _).setCell (p := ⟨p + 1, 1, none⟩) (by show w.heap.size ≤ p + 1; omega) _, own_none hd3.own, .inr (own_low (ownsRow_setCell_other (ownsRow_setCell_other hd3.own (a := ⟨p + 1, 0, none⟩) hne _) (a := ⟨p + 1, 1, none⟩) hne _) (hg0.trans HG1.out).size)⟩
          · have HS : Sec (stepR F fs f = (fs, f, E)) := sec (by unfold stepR; rw [HGF.out, if_pos rfl, if_neg hf0, ← HRR.out, if_neg hE])
            go_wp2_with (refine Calls.mono (HC.out _ (f - 1) HD2.out) ?_; rintro e w3 ⟨rfl, g3, _⟩; have c0y3 : w3.cell? ⟨p, 0, none⟩ = some (.slice A n cap) := (HB.out.gr (HG1.out.trans g3)).cell 0; have c1y3 : w3.cell? ⟨p, 1, none⟩ = some (.int .i64 f) := (HB.out.gr (HG1.out.trans g3)).cell 1; have d20 : w3.cell? ⟨p + 1, 0, none⟩ = some (.slice none 0 0) := (HR2.out.gr (HG1.out.trans g3)).cell 0; have d21 : w3.cell? ⟨p + 1, 1, none⟩ = some (.int .i64 0) := (HR2.out.gr (HG1.out.trans g3)).cell 1; have f20 : w3.frozen? ⟨p + 1, 0, none⟩ = false := (HR2.out.gr (HG1.out.trans g3)).frozen 0; have f21 : w3.frozen? ⟨p + 1, 1, none⟩ = false := (HR2.out.gr (HG1.out.trans g3)).frozen 1)
            refine bodyPost_ret (results_blk_tmp rfl _ rfl (HW.out w3 (HG1.out.trans g3)) aggDisk) rfl ?_
            rw [HS.out]
            exact ⟨A, n, cap, rfl, HV.out w3 (HG1.out.trans g3), HA.out, .inl ⟨rfl, rfl, rfl, rfl⟩⟩
        · have HPOS := sec hpos
          have HD2 : Sec (Gr w1 wc ∧ DOwn wc w1.heap.size q A1 n cap1 f fs) := sec ⟨gc, HD.out⟩
          by_cases hE : E = 0
          · subst hE
            have HS : Sec (stepR F fs f = (R, f, 0)) := sec (by unfold stepR; rw [HGF.out, if_pos rfl, if_neg hf0, ← HRR.out, if_pos rfl]; simp [HPOS.out])
            go_wp2_with (refine Calls.mono (HC.out _ f HD2.out) ?_; rintro e w3 ⟨rfl, g3, h3⟩; obtain ⟨A3, n3, cap3, hd3⟩ := h3 rfl; have hb30 : w3.cell? ⟨q, 0, none⟩ = some (.slice A3 n3 cap3) := hd3.blk.cell 0; have hb31 : w3.cell? ⟨q, 1, none⟩ = some (.int .i64 (f)) := hd3.blk.cell 1; have c0y3 : w3.cell? ⟨p, 0, none⟩ = some (.slice A n cap) := (HB.out.gr (HG1.out.trans g3)).cell 0; have c1y3 : w3.cell? ⟨p, 1, none⟩ = some (.int .i64 f) := (HB.out.gr (HG1.out.trans g3)).cell 1; have d20 : w3.cell? ⟨p + 1, 0, none⟩ = some (.slice none 0 0) := (HR2.out.gr (HG1.out.trans g3)).cell 0; have d21 : w3.cell? ⟨p + 1, 1, none⟩ = some (.int .i64 0) := (HR2.out.gr (HG1.out.trans g3)).cell 1; have f20 : w3.frozen? ⟨p + 1, 0, none⟩ = false := (HR2.out.gr (HG1.out.trans g3)).frozen 0; have f21 : w3.frozen? ⟨p + 1, 1, none⟩ = false := (HR2.out.gr (HG1.out.trans g3)).frozen 1)
            have hbb := (HR2.out.gr (HG1.out.trans g3))
            have hne := own_blk_ne hd3.own hbb (by decide)
            refine bodyPost_ret (results_blk_tmp rfl _ rfl ((hbb.set_ 0 (.slice A3 n3 cap3)).set_ 1 (.int .i64 (f))) aggDisk) rfl ?_
            rw [HS.out]
            exact ⟨A3, n3, cap3, rfl, ((hg0.trans (HG1.out.trans g3)).setCell (p := ⟨p + 1, 0, none⟩) (by show w.heap.size ≤ p + 1; omega) _).setCell (p := ⟨p + 1, 1, none⟩) (by show w.heap.size ≤ p + 1; omega) _, own_none hd3.own, .inr (own_low (ownsRow_setCell_other (ownsRow_setCell_other hd3.own (a := ⟨p + 1, 0, none⟩) hne _) (a := ⟨p + 1, 1, none⟩) hne _) (hg0.trans HG1.out).size)⟩
          · have HS : Sec (stepR F fs f = (fs, f, E)) := sec (by unfold stepR; rw [HGF.out, if_pos rfl, if_neg hf0, ← HRR.out, if_neg hE])
            go_wp2_with (refine Calls.mono (HC.out _ f HD2.out) ?_; rintro e w3 ⟨rfl, g3, _⟩; have c0y3 : w3.cell? ⟨p, 0, none⟩ = some (.slice A n cap) := (HB.out.gr (HG1.out.trans g3)).cell 0; have c1y3 : w3.cell? ⟨p, 1, none⟩ = some (.int .i64 f) := (HB.out.gr (HG1.out.trans g3)).cell 1; have d20 : w3.cell? ⟨p + 1, 0, none⟩ = some (.slice none 0 0) := (HR2.out.gr (HG1.out.trans g3)).cell 0; have d21 : w3.cell? ⟨p + 1, 1, none⟩ = some (.int .i64 0) := (HR2.out.gr (HG1.out.trans g3)).cell 1; have f20 : w3.frozen? ⟨p + 1, 0, none⟩ = false := (HR2.out.gr (HG1.out.trans g3)).frozen 0; have f21 : w3.frozen? ⟨p + 1, 1, none⟩ = false := (HR2.out.gr (HG1.out.trans g3)).frozen 1)
            refine bodyPost_ret (results_blk_tmp rfl _ rfl (HW.out w3 (HG1.out.trans g3)) aggDisk) rfl ?_
            rw [HS.out]
            exact ⟨A, n, cap, rfl, HV.out w3 (HG1.out.trans g3), HA.out, .inl ⟨rfl, rfl, rfl, rfl⟩⟩
end Go.Proofs.YtmgpllakpgjicaaDoor

namespace Go.Proofs.YtmgpllakpgjicaaDoor
open Go.RowKit
set_option linter.unusedVariables false
theorem DOwn.len {w : World} {B q n cap : Nat} {A : Option Addr} {u : Int} {fs : List Fl} (h : DOwn w B q A n cap u fs) : fs.length = n := FRow.len (Row.own h.own)
theorem DOwn.at {w : World} {B q n cap : Nat} {A : Option Addr} {u : Int} {fs : List Fl} (h : DOwn w B q A n cap u fs) {k : Nat} (hk : k < fs.length) :
    ∃ b, A = some ⟨b, 0, none⟩ ∧ B ≤ b ∧ b ≠ q ∧ w.cell? ⟨b, k * 3, none⟩ = some (.string (bs fs[k].1)) ∧ w.cell? ⟨b, k * 3 + 1, none⟩ = some (.string (bs fs[k].2.1)) ∧ w.cell? ⟨b, k * 3 + 2, none⟩ = some (.string (bs fs[k].2.2)) ∧
      (∀ j, j < 3 → w.frozen? ⟨b, k * 3 + j, none⟩ = false) := by
  have hl := h.len
  have hne := h.ne
  obtain ⟨b, off, e, h0, h1, h2⟩ := FRow.cell (Row.own h.own) hk
  rcases h.own.2 with ⟨_, h0⟩ | ⟨g, c, cur, ev, hB, hh, hle, hm, hs, ht⟩
  · omega
  · injection ev with e1 e2 e3
    rw [e1] at e
    injection e with e
    injection e with e4 e5
    subst e4 e5
    simp only [Nat.zero_add] at h0 h1 h2
    have hb : Blk w g 89 cur := hh
    exact ⟨g, e1, hB, fun e => hne (by rw [e1]; simp [Value.ownBlock, e]), h0, h1, h2, fun j hj => hb.frozen _⟩
theorem own_one {w : World} {B e n cap g : Nat} {fs : List Fl} (h : w.ownsRow B e 3 (.slice (some ⟨g, 0, none⟩) n cap) n (fs.flatMap fileC)) (i : Nat) (nm sf tl t : List UInt8) (hi : fs[i]? = some (nm, sf, tl)) :
    (w.setCell ⟨g, i * 3 + 2, none⟩ (.string (bs t))).ownsRow B e 3 (.slice (some ⟨g, 0, none⟩) n cap) n ((fs.set i (nm, sf, t)).flatMap fileC) := by
  obtain ⟨hl, hg⟩ := List.getElem?_eq_some_iff.1 hi
  have hfl : (fs.flatMap fileC).length = fs.length * 3 := flat_len fileC 3 (fun _ => rfl) fs
  have o1 := own_set h (i * 3 + 2) (by rw [hfl]; omega) (.string (bs t))
  rw [flat_set fs i hl 2 (.string (bs t)) (nm, sf, t) (by omega) (by rw [hg]; rfl)] at o1
  exact o1
theorem DOwn.tail {w : World} {B q n cap b : Nat} {u : Int} {fs : List Fl} (h : DOwn w B q (some ⟨b, 0, none⟩) n cap u fs) (i : Nat) (nm sf tl t : List UInt8) (hi : fs[i]? = some (nm, sf, tl)) (hb : b ≠ q) :
    DOwn (w.setCell ⟨b, i * 3 + 2, none⟩ (.string (bs t))) B q (some ⟨b, 0, none⟩) n cap u (fs.set i (nm, sf, t)) :=
  ⟨h.blk.far (p := ⟨b, i * 3 + 2, none⟩) (Ne.symm hb) _, own_one h.own i nm sf tl t hi, h.base⟩
/-- Insert of a file behind a literal slice, and the slice stored -/
theorem DOwn.ins {w w3 : World} {B q n cap cap' i : Nat} {A A' : Option Addr} {u : Int} {fs : List Fl} {f : Fl} {o : Obj} (h : DOwn w B q A n cap u fs) (ho : w3.ownsRow B 89 3 (.slice A' (n + 1) cap') (n + 1) ((insF i f fs).flatMap fileC))
    (hgr : (w.alloc o).drew.grownBy w3 (Value.ownBlock (.slice A n cap))) :
    Blk w3 q 43 #[.slice A n cap, .int .i64 u] ∧ DOwn (w3.setCell ⟨q, 0, none⟩ (.slice A' (n + 1) cap')) B q A' (n + 1) cap' u (insF i f fs) ∧ (∀ wc, wc.heap.size = B → Gr wc w → Gr wc (w3.setCell ⟨q, 0, none⟩ (.slice A' (n + 1) cap'))) := by
  have hb : Blk w3 q 43 #[.slice A n cap, .int .i64 u] := ((h.blk.alloc o).gr (Gr.refl _).drew).grown hgr (Ne.symm h.ne)
  refine ⟨hb, ⟨hb.set_ 0 _, ownsRow_setCell_other ho (a := ⟨q, 0, none⟩) (own_blk_ne ho hb (by decide)) _, h.base⟩, fun wc hB hg => ?_⟩
  subst hB
  exact (Gr.grown (hg.alloc o).drew hgr (fun k hk => (h.own.lt k hk).1)).setCell (p := ⟨q, 0, none⟩) h.base _

def wrPre (name : List UInt8) (fs : List Fl) : List Fl := if hasF name fs then fs else insF (lbF name fs) (name, [], []) fs
/-- P6.2 within the power -/
def wrF (name s : List UInt8) (fs : List Fl) : List Fl × Int :=
  if namedB name then
    if hasF name fs = false ∧ 400 ≤ fs.length then (fs, 6)
    else
      if ((wrPre name fs).getD (lbF name fs) ([], [], [])).2.1.length + ((wrPre name fs).getD (lbF name fs) ([], [], [])).2.2.length + s.length ≤ 1048576 then
        ((wrPre name fs).set (lbF name fs) (((wrPre name fs).getD (lbF name fs) ([], [], [])).1, ((wrPre name fs).getD (lbF name fs) ([], [], [])).2.1, ((wrPre name fs).getD (lbF name fs) ([], [], [])).2.2 ++ s), 0)
      else (fs, 1)
  else (fs, 2)
theorem insF_len (i : Nat) (f : Fl) (fs : List Fl) (h : i ≤ fs.length) : (insF i f fs).length = fs.length + 1 := by unfold insF; simp; omega
theorem insF_get (i : Nat) (f : Fl) (fs : List Fl) (h : i ≤ fs.length) : (insF i f fs)[i]? = some f := by
  unfold insF
  rw [List.getElem?_append_right (by simp; omega)]
  simp [Nat.min_eq_left h]
theorem wrPre_at (name : List UInt8) (fs : List Fl) (hg : goodFs fs = true) : ∃ (h : lbF name fs < (wrPre name fs).length), (wrPre name fs)[lbF name fs].1 = name ∧ (wrPre name fs)[lbF name fs].2.1.length + (wrPre name fs)[lbF name fs].2.2.length ≤ 1048576 := by
  unfold wrPre
  cases hh : hasF name fs with
  | true =>
    obtain ⟨h1, h2⟩ := hasF_lt (goodFs_sorted hg) hh
    exact ⟨h1, h2, (goodFs_ok hg _ (List.getElem_mem h1)).2.2⟩
  | false =>
    have h1 := insF_get (lbF name fs) (name, [], []) fs (lbF_le name fs)
    obtain ⟨h2, h3⟩ := List.getElem?_eq_some_iff.1 h1
    refine ⟨h2, ?_⟩
    simp only [Bool.false_eq_true, if_false]
    rw [h3]
    exact ⟨rfl, by simp⟩
end Go.Proofs.YtmgpllakpgjicaaDoor

namespace Go.Proofs.YtmgpllakpgjicaaDoor
open Go.RowKit
set_option linter.unusedVariables false
set_option maxRecDepth 100000 in
set_option maxHeartbeats 4000000 in
theorem write1_any (name s : List UInt8) (c1 c2 : Nat) (w0 : World) (h1 : w0.cell? ⟨c1, 0, none⟩ = some (.string (bs name))) (h2 : w0.cell? ⟨c2, 0, none⟩ = some (.string (bs s))) (hl1 : name.length ≤ 1099511627776) (hl2 : s.length ≤ 1099511627776) :
    Steps 116 #[.pointer (some ⟨c1, 0, none⟩), .pointer (some ⟨c2, 0, none⟩)] (wrF name s) w0 := by
  intro wb w q A n cap u fs g0 gc hd hgf
  show Calls Tryd.prog 116 #[.pointer (some ⟨q, 0, none⟩), .pointer (some ⟨c1, 0, none⟩), .pointer (some ⟨c2, 0, none⟩)] w _
  have hl := hd.len
  have hl400 : fs.length ≤ 400 := goodFs_len hgf
  have HE1 : Sec (∀ W, Gr w W → W.cell? ⟨c1, 0, none⟩ = some (.string (bs name))) := sec (fun W g => (((g0.trans gc).trans g).cells.1 c1 _ (World.block_lt_of_cell? w0 _ h1)).trans h1)
  have HE2 : Sec (∀ W, Gr wb W → W.cell? ⟨c2, 0, none⟩ = some (.string (bs s))) := sec (fun W g => ((g0.trans g).cells.1 c2 _ (World.block_lt_of_cell? w0 _ h2)).trans h2)
  have HN := sec (fun w => named_any name w (by omega))
  have HD := sec hd
  have HS := sec (goodFs_sorted hgf)
  have HGC := sec gc
  have HGF := sec hgf
  have e1 := HE1.out w (Gr.refl w)
  have e2 := HE2.out w gc
  clear h1 h2 g0 gc hd hgf
  cases hnb : namedB name with
  | false =>
    have HR : Sec (wrF name s fs = (fs, 2)) := sec (by unfold wrF; rw [hnb]; rfl)
    rw [HR.out]
    rw [hnb] at HN
    go_enter Tryd.func116, Tryd.ntmps116
    go_wp2_with (go_at_call 85; refine (HN.out _).mono ?_; rintro e w1 ⟨rfl, g1⟩)
    go_ret
    exact ⟨rfl, HGC.out.trans g1, fun h => by cases h⟩
  | true =>
    rw [hnb] at HN
    have HNB := sec hnb
    clear hnb
    obtain ⟨k, hk⟩ : ∃ k, k = lbF name fs := ⟨_, rfl⟩
    have HK := sec hk
    have hkn : k ≤ n := by rw [hk, ← hl]; exact lbF_le name fs
    clear hk
    obtain ⟨B, hB⟩ : ∃ B, B = hasF name fs := ⟨_, rfl⟩
    have HB := sec hB
    clear hB
    go_enter Tryd.func116, Tryd.ntmps116
    go_upto_region 3 with (go_at_call 85; refine (HN.out _).mono ?_; rintro e w1 ⟨rfl, g1⟩)
    have HD1 := sec (HD.out.gr g1)
    have d0 : w1.cell? ⟨q, 0, none⟩ = some (.slice A n cap) := HD1.out.blk.cell 0
    have d1 : w1.cell? ⟨q, 1, none⟩ = some (.int .i64 u) := HD1.out.blk.cell 1
    have e1y : w1.cell? ⟨c1, 0, none⟩ = some (.string (bs name)) := HE1.out _ g1
    go_cut [5, 6] from 8 to 67 (fun v5 v6 wx => v5 = .int .i64 (k : Int) ∧ v6 = .bool B ∧ Gr w1 wx)
    case first =>
      go_region_with (go_at_call 86; refine (find_any fs name A n cap u w1.drew (by omega) (FRow.gr (Row.own HD1.out.own) (Gr.refl _).drew) HS.out).mono ?_; rw [← HK.out, ← HB.out]; rintro e w2 ⟨rfl, g2⟩)
      all_goals (go_wp2_with fail; go_meet; exact ⟨rfl, rfl, Gr.trans (Gr.refl _).drew g2⟩)
    case rest =>
      obtain ⟨rfl, rfl, gx⟩ := hcut
      have HDx := sec (HD1.out.gr gx)
      have gcx : Gr wb wc := HGC.out.trans (g1.trans gx)
      have e1x : wc.cell? ⟨c1, 0, none⟩ = some (.string (bs name)) := HE1.out _ (g1.trans gx)
      have e2x : wc.cell? ⟨c2, 0, none⟩ = some (.string (bs s)) := HE2.out _ gcx
      have d0x : wc.cell? ⟨q, 0, none⟩ = some (.slice A n cap) := HDx.out.blk.cell 0
      have d1x : wc.cell? ⟨q, 1, none⟩ = some (.int .i64 u) := HDx.out.blk.cell 1
      have f0x : wc.frozen? ⟨q, 0, none⟩ = false := HDx.out.blk.frozen 0
      clear d0 d1 e1y
      by_cases hfull : B = false ∧ 400 ≤ n
      · have HR : Sec (wrF name s fs = (fs, 6)) := sec (by unfold wrF; rw [HNB.out, if_pos rfl, if_pos ⟨by rw [← HB.out]; exact hfull.1, by omega⟩])
        obtain ⟨hBf, h400⟩ := hfull
        subst hBf
        have h4 : (400 : Int) ≤ (n : Int) := by omega
        go_wp2_with fail
        go_ret
        rw [HR.out]
        exact ⟨rfl, gcx, fun h => by cases h⟩
      · have HNF := sec hfull
        clear hfull
        go_upto_if 20 with fail
        go_cut [] from 21 to 67 (fun wx => ∃ (A' : Option Addr) (n' cap' : Nat), Sec (DOwn wx wb.heap.size q A' n' cap' u (wrPre name fs)) ∧ Gr wb wx)
        case first =>
          cases B with
          | true =>
            go_wp2_with fail
            go_meet
            exact ⟨A, n, cap, by unfold wrPre; rw [← HB.out]; exact HDx, gcx⟩
          | false =>
            have h4 : ¬ (400 : Int) ≤ (n : Int) := by have := HNF.out; simp at this; omega
            have HI : Sec (∀ (A' : Option Addr) (cap' : Nat) (w3 : World) (o : Obj), w3.ownsRow wb.heap.size 89 3 (.slice A' (n + 1) cap') (n + 1) ((insF k (name, [], []) fs).flatMap fileC) → (wc.alloc o).drew.grownBy w3 (Value.ownBlock (.slice A n cap)) →
              w3.cell? ⟨q, 0, none⟩ = some (.slice A n cap) ∧ w3.frozen? ⟨q, 0, none⟩ = false ∧ (∃ (A1 : Option Addr) (n1 cap1 : Nat), Sec (DOwn (w3.setCell ⟨q, 0, none⟩ (.slice A' (n + 1) cap')) wb.heap.size q A1 n1 cap1 u (wrPre name fs)) ∧ Gr wb (w3.setCell ⟨q, 0, none⟩ (.slice A' (n + 1) cap')))) := sec (fun A' cap' w3 o ho hgr => by
                obtain ⟨x1, x2, x3⟩ := HDx.out.ins ho hgr
                refine ⟨x1.cell 0, x1.frozen 0, A', n + 1, cap', ?_, x3 wb rfl gcx⟩
                unfold wrPre; rw [← HB.out, ← HK.out]; exact sec x2)
            have HINS : Sec (Calls Tryd.prog 117 #[.slice A n cap, .int .i64 (k : Int), .slice (some ⟨wc.heap.size, 0, none⟩) 1 1] (wc.alloc (.cells #[.string (bs name), .string (bs []), .string (bs [])] 89)).drew fun e w' =>
              ∃ A' cap', e = .returned (.slice A' (n + 1) cap') ∧ w'.ownsRow wb.heap.size 89 3 (.slice A' (n + 1) cap') (n + 1) ((insF k (name, [], []) fs).flatMap fileC) ∧ (wc.alloc (.cells #[.string (bs name), .string (bs []), .string (bs [])] 89)).drew.grownBy w' (Value.ownBlock (.slice A n cap))) := sec (by
              refine insert_any A n cap k wc.heap.size 1 wb.heap.size fs (name, [], []) _ (own_gr HDx.out.own ((Gr.refl wc).alloc _).drew) hkn (by omega) ((Blk.new wc _ _).gr (Gr.refl _).drew) (fun h => ?_) ?_
              · have := (HDx.out.own.lt _ h).2; omega
              · have := gcx.size; have := (((Gr.refl wc).alloc (.cells #[.string (bs name), .string (bs []), .string (bs [])] 89)).drew).size; omega)
            have d0w : (wc.alloc (.cells #[.string (bs name), .string (bs []), .string (bs [])] 89)).cell? ⟨q, 0, none⟩ = some (.slice A n cap) := (HDx.out.blk.alloc _).cell 0
            go_upto_region 7 with fail
            go_region_with (go_at_call 117; refine HINS.out.mono ?_; rintro e w3 ⟨A', cap', rfl, ho, hgr⟩; obtain ⟨d0z, f0z, hend⟩ := HI.out A' cap' w3 _ ho hgr)
            all_goals (go_wp2_with fail; go_meet; exact hend)
        case rest =>
          obtain ⟨A2, n2, cap2, HDz, gz⟩ := hcut
          have HNF2 : Sec (¬ (hasF name fs = false ∧ 400 ≤ fs.length)) := sec (fun h => HNF.out ⟨by rw [HB.out]; exact h.1, by omega⟩)
          clear e1x e2x d0x d1x f0x gcx HDx gx g1 HD1 HNF hkn HD HN HE1
          have hX := wrPre_at name fs HGF.out
          rw [← HK.out] at hX
          obtain ⟨hkl, hnm, hsz⟩ := hX
          have hn2 := HDz.out.len
          have hk2 : (k : Int) < (n2 : Int) := by omega
          obtain ⟨b, rfl, hBb, hbq, z0, z1, z2, zf⟩ := HDz.out.at hkl
          have zf2 : wc.frozen? ⟨b, k * 3 + 2, none⟩ = false := zf 2 (by omega)
          have hget : (wrPre name fs)[k]? = some (wrPre name fs)[k] := List.getElem?_eq_getElem hkl
          have hgd : (wrPre name fs).getD (lbF name fs) ([], [], []) = (wrPre name fs)[k] := by
            rw [← HK.out, List.getD_eq_getElem?_getD, hget]; rfl
          obtain ⟨x, hxx⟩ : ∃ x, x = (wrPre name fs)[k] := ⟨_, rfl⟩
          rw [← hxx] at z0 z1 z2 hget hgd hsz
          clear hxx hnm hkl zf
          obtain ⟨nm, sf, tl⟩ := x
          simp only at z0 z1 z2 hsz
          have e2z : wc.cell? ⟨c2, 0, none⟩ = some (.string (bs s)) := HE2.out _ gz
          have d0z : wc.cell? ⟨q, 0, none⟩ = some (.slice (some ⟨b, 0, none⟩) n2 cap2) := HDz.out.blk.cell 0
          by_cases hlong : sf.length + tl.length + s.length ≤ 1048576
          · have HR : Sec (wrF name s fs = ((wrPre name fs).set k (nm, sf, tl ++ s), 0)) := sec (by
              unfold wrF; rw [HNB.out, if_pos rfl, if_neg HNF2.out, hgd, if_pos hlong, ← HK.out])
            have HDF : Sec (∀ m, DOwn ((wc.drewN m).setCell ⟨b, k * 3 + 2, none⟩ (.string (bs (tl ++ s)))) wb.heap.size q (some ⟨b, 0, none⟩) n2 cap2 u ((wrPre name fs).set k (nm, sf, tl ++ s))) := sec (fun m => (HDz.out.gr ((Gr.refl wc).drewN m)).tail k nm sf tl (tl ++ s) hget hbq)
            have HGF := sec (fun m => (gz.drewN m).setCell (p := ⟨b, k * 3 + 2, none⟩) hBb (.string (bs (tl ++ s))))
            clear hget hgd
            go_wp2_with fail
            go_quiet (fail)
            go_wp2_with fail
            go_region
            go_wp2_with fail
            go_ret
            rw [HR.out]
            exact ⟨rfl, HGF.out _, fun _ => ⟨_, _, _, HDF.out _⟩⟩
          · have HR : Sec (wrF name s fs = (fs, 1)) := sec (by
              unfold wrF; rw [HNB.out, if_pos rfl, if_neg HNF2.out, hgd, if_neg hlong])
            clear hget hgd
            go_wp2_with fail
            go_quiet (fail)
            go_wp2_with fail
            go_ret
            rw [HR.out]
            exact ⟨rfl, gz.drewN _, fun h => by cases h⟩
end Go.Proofs.YtmgpllakpgjicaaDoor

namespace Go.Proofs.YtmgpllakpgjicaaDoor
open Go.RowKit
set_option linter.unusedVariables false
set_option maxRecDepth 100000 in
set_option maxHeartbeats 4000000 in
theorem write_any (name s : List UInt8) (fs : List Fl) (A : Option Addr) (n cap : Nat) (f : Int) (w : World) (hn : n ≤ 1099511627776) (hx : FRow w A n fs) (hA : A = none → n = 0 ∧ cap = 0) (hs : ∀ f ∈ fs, f.1.length ≤ 1099511627776 ∧ f.2.1.length ≤ 1099511627776 ∧ f.2.2.length ≤ 1099511627776)
    (hf : -9223372036854775808 ≤ f ∧ f ≤ 9223372036854775807) (hl1 : name.length ≤ 1099511627776) (hl2 : s.length ≤ 1099511627776) :
    Calls Tryd.prog 88 #[diskV A n cap f, .string (bs name), .string (bs s)] w (StepPost (stepR (wrF name s) fs f) A n cap fs w) := by
  have g1 := (Gr.refl w).alloc (.cells #[.slice A n cap, .int .i64 f] 43)
  have g2 := g1.alloc (.cells #[.string (bs name)] 9)
  have g3 := g2.alloc (.cells #[.string (bs s)] 9)
  have g4 := g3.alloc (.cells #[.slice none 0 0, .int .i64 0] 43)
  have b1 := (((Blk.new w 43 #[.slice A n cap, .int .i64 f]).alloc (.cells #[.string (bs name)] 9)).alloc (.cells #[.string (bs s)] 9)).alloc (.cells #[.slice none 0 0, .int .i64 0] 43)
  have b2 := ((Blk.new1 w (.cells #[.slice A n cap, .int .i64 f] 43) 9 #[.string (bs name)]).alloc (.cells #[.string (bs s)] 9)).alloc (.cells #[.slice none 0 0, .int .i64 0] 43)
  have b3 := (Blk.new2 w (.cells #[.slice A n cap, .int .i64 f] 43) (.cells #[.string (bs name)] 9) 9 #[.string (bs s)]).alloc (.cells #[.slice none 0 0, .int .i64 0] 43)
  have b4 := Blk.newAt (w := ((w.alloc (.cells #[.slice A n cap, .int .i64 f] 43)).alloc (.cells #[.string (bs name)] 9)).alloc (.cells #[.string (bs s)] 9)) (g := w.heap.size + 1 + 1 + 1) (by simp) 43 #[.slice none 0 0, .int .i64 0]
  obtain ⟨wa, hwa⟩ : ∃ x, x = (((w.alloc (.cells #[.slice A n cap, .int .i64 f] 43)).alloc (.cells #[.string (bs name)] 9)).alloc (.cells #[.string (bs s)] 9)).alloc (.cells #[.slice none 0 0, .int .i64 0] 43) := ⟨_, rfl⟩
  rw [← hwa] at b1 b2 b3 b4 g4
  obtain ⟨p, hp⟩ : ∃ p, p = w.heap.size := ⟨_, rfl⟩
  have hwp : w.heap.size ≤ p := by omega
  rw [← hp] at b1 b2 b3 b4
  have c0 : wa.cell? ⟨p, 0, none⟩ = some (.slice A n cap) := b1.cell 0
  have c1 : wa.cell? ⟨p, 1, none⟩ = some (.int .i64 f) := b1.cell 1
  have HS := sec (step_any 116 #[.pointer (some ⟨p + 1, 0, none⟩), .pointer (some ⟨p + 1 + 1, 0, none⟩)] (wrF name s) (enters_own Tryd.func116 (by kernel_rfl) rfl) fs A n cap f wa hn (hx.gr g4) hA hs hf (write1_any name s (p + 1) (p + 1 + 1) wa (b2.cell 0) (b3.cell 0) hl1 hl2))
  have HB4 := sec b4
  have HG4 := sec g4
  clear hx hA hs g1 g2 g3 g4 b1 b2 b3 b4
  unfold diskV at HS
  unfold diskV
  have hmf : ∀ (fn : Fn) (first cap : Array Value) (w : World), (Instr.makeFunc fn first cap).run Tryd.prog w = .ok (.func fn first cap) w := fun _ _ _ _ => rfl
  obtain ⟨R, hR⟩ : ∃ R, R = stepR (wrF name s) fs f := ⟨_, rfl⟩
  rw [← hR] at HS
  rw [← hR]
  clear hR
  obtain ⟨fs', f', er⟩ := R
  go_enter Tryd.func88, Tryd.ntmps88
  go_wp2_with (first | (rw [← hwa, ← hp]; clear hwa hp; go_wp2_with fail) | (go_at_call 113; refine Calls.mono HS.out ?_; rintro e w5 ⟨A', n', cap', rfl, g5, hA', hrow⟩;  unfold diskV; have d0 : w5.cell? ⟨p + 1 + 1 + 1, 0, none⟩ = some (.slice none 0 0) := (HB4.out.gr g5).cell 0; have d1 : w5.cell? ⟨p + 1 + 1 + 1, 1, none⟩ = some (.int .i64 0) := (HB4.out.gr g5).cell 1; have f0 : w5.frozen? ⟨p + 1 + 1 + 1, 0, none⟩ = false := (HB4.out.gr g5).frozen 0; have f1 : w5.frozen? ⟨p + 1 + 1 + 1, 1, none⟩ = false := (HB4.out.gr g5).frozen 1))
  refine bodyPost_ret (results_blk_tmp rfl _ rfl (((HB4.out.gr g5).set_ 0 (.slice A' n' cap')).set_ 1 (.int .i64 f')) aggDisk) rfl ?_
  have hfin := StepPost.set2 (r := (fs', f', er)) (p := p + 1 + 1 + 1) HG4.out HB4.out.lt (by omega) g5 (.slice A' n' cap') (.int .i64 f') hrow
  exact ⟨A', n', cap', rfl, hfin.1, hA', hfin.2⟩
end Go.Proofs.YtmgpllakpgjicaaDoor

namespace Go.Proofs.YtmgpllakpgjicaaDoor
open Go.RowKit
set_option linter.unusedVariables false
/-- Delete, and the slice stored -/
theorem DOwn.del {w w3 : World} {B q n cap cap' i : Nat} {A A' : Option Addr} {u : Int} {fs : List Fl} (h : DOwn w B q A n cap u fs) (ho : w3.ownsRow B 89 3 (.slice A' (n - 1) cap') (n - 1) ((fs.eraseIdx i).flatMap fileC))
    (hgr : w.grownBy w3 (Value.ownBlock (.slice A n cap))) :
    Blk w3 q 43 #[.slice A n cap, .int .i64 u] ∧ DOwn (w3.setCell ⟨q, 0, none⟩ (.slice A' (n - 1) cap')) B q A' (n - 1) cap' u (fs.eraseIdx i) ∧ (∀ wc, wc.heap.size = B → Gr wc w → Gr wc (w3.setCell ⟨q, 0, none⟩ (.slice A' (n - 1) cap'))) := by
  have hb : Blk w3 q 43 #[.slice A n cap, .int .i64 u] := h.blk.grown hgr (Ne.symm h.ne)
  refine ⟨hb, ⟨hb.set_ 0 _, ownsRow_setCell_other ho (a := ⟨q, 0, none⟩) (own_blk_ne ho hb (by decide)) _, h.base⟩, fun wc hB hg => ?_⟩
  subst hB
  exact (Gr.grown hg hgr (fun k hk => (h.own.lt k hk).1)).setCell (p := ⟨q, 0, none⟩) h.base _
/-- P6.5 within the power -/
def rmF (name : List UInt8) (fs : List Fl) : List Fl × Int := if hasF name fs then (fs.eraseIdx (lbF name fs), 0) else (fs, 7)

set_option maxRecDepth 100000 in
set_option maxHeartbeats 4000000 in
theorem remove1_any (name : List UInt8) (c1 : Nat) (w0 : World) (h1 : w0.cell? ⟨c1, 0, none⟩ = some (.string (bs name))) :
    Steps 114 #[.pointer (some ⟨c1, 0, none⟩)] (rmF name) w0 := by
  intro wb w q A n cap u fs g0 gc hd hgf
  show Calls Tryd.prog 114 #[.pointer (some ⟨q, 0, none⟩), .pointer (some ⟨c1, 0, none⟩)] w _
  have hl := hd.len
  have hl400 : fs.length ≤ 400 := goodFs_len hgf
  have e1 : w.cell? ⟨c1, 0, none⟩ = some (.string (bs name)) := ((g0.trans gc).cells.1 c1 _ (World.block_lt_of_cell? w0 _ h1)).trans h1
  have HD := sec hd
  have HS := sec (goodFs_sorted hgf)
  have HGC := sec gc
  have HGF := sec hgf
  have d0 : w.cell? ⟨q, 0, none⟩ = some (.slice A n cap) := hd.blk.cell 0
  have d1 : w.cell? ⟨q, 1, none⟩ = some (.int .i64 u) := hd.blk.cell 1
  clear h1 g0 gc hd hgf
  obtain ⟨k, hk⟩ : ∃ k, k = lbF name fs := ⟨_, rfl⟩
  have HK := sec hk
  clear hk
  cases hB : hasF name fs with
  | false =>
    have HR : Sec (rmF name fs = (fs, 7)) := sec (by unfold rmF; rw [hB]; rfl)
    have HB := sec hB
    clear hB
    go_enter Tryd.func114, Tryd.ntmps114
    go_upto_region 1 with fail
    go_cut [4, 5] from 6 to 26 (fun v5 v6 wx => v5 = .int .i64 (k : Int) ∧ v6 = .bool false ∧ Gr w wx)
    case first =>
      go_region_with (go_at_call 86; refine (find_any fs name A n cap u w.drew (by omega) (FRow.gr (Row.own HD.out.own) (Gr.refl _).drew) HS.out).mono ?_; rw [← HK.out, HB.out]; rintro e w2 ⟨rfl, g2⟩)
      all_goals (go_wp2_with fail; go_meet; exact ⟨rfl, rfl, Gr.trans (Gr.refl _).drew g2⟩)
    case rest =>
      obtain ⟨rfl, rfl, gx⟩ := hcut
      go_wp2_with fail
      go_ret
      rw [HR.out]
      exact ⟨rfl, HGC.out.trans gx, fun h => by cases h⟩
  | true =>
    have hX := hasF_lt HS.out hB
    rw [← HK.out] at hX
    obtain ⟨hkl, hnm⟩ := hX
    have HB := sec hB
    clear hB
    go_enter Tryd.func114, Tryd.ntmps114
    go_upto_region 1 with fail
    go_cut [4, 5] from 6 to 26 (fun v5 v6 wx => v5 = .int .i64 (k : Int) ∧ v6 = .bool true ∧ Gr w wx)
    case first =>
      go_region_with (go_at_call 86; refine (find_any fs name A n cap u w.drew (by omega) (FRow.gr (Row.own HD.out.own) (Gr.refl _).drew) HS.out).mono ?_; rw [← HK.out, HB.out]; rintro e w2 ⟨rfl, g2⟩)
      all_goals (go_wp2_with fail; go_meet; exact ⟨rfl, rfl, Gr.trans (Gr.refl _).drew g2⟩)
    case rest =>
      obtain ⟨rfl, rfl, gx⟩ := hcut
      have HDz := sec (HD.out.gr gx)
      have gz : Gr wb wc := HGC.out.trans gx
      clear d0 d1 e1 HD gx
      have hk2 : (k : Int) < (n : Int) := by omega
      have d0z : wc.cell? ⟨q, 0, none⟩ = some (.slice A n cap) := HDz.out.blk.cell 0
      have HR : Sec (rmF name fs = (fs.eraseIdx k, 0)) := sec (by unfold rmF; rw [HB.out, if_pos rfl, ← HK.out])
      have HDE : Sec (Calls Tryd.prog 115 #[.slice A n cap, .int .i64 (k : Int), .int .i64 ((k : Int) + 1)] wc fun e w' =>
        e = .returned (.slice A (n - 1) cap) ∧ w'.ownsRow wb.heap.size 89 3 (.slice A (n - 1) cap) (n - 1) ((fs.eraseIdx k).flatMap fileC) ∧ wc.grownBy w' (Value.ownBlock (.slice A n cap))) := sec
        (delete_any A n cap k wb.heap.size fs wc HDz.out.own (by omega) (by omega))
      have hwr : IntKind.i64.wrap ((k : Int) + 1) = (k : Int) + 1 := IntWalk.i64_in _ (by omega)
      go_wp2_with (go_at_call 115; refine HDE.out.mono ?_; rintro e w3 ⟨rfl, ho, hgr⟩; obtain ⟨hb3, hd3, hg3⟩ := HDz.out.del ho hgr; have d0y : w3.cell? ⟨q, 0, none⟩ = some (.slice A n cap) := hb3.cell 0; have f0y : w3.frozen? ⟨q, 0, none⟩ = false := hb3.frozen 0)
      go_ret
      rw [HR.out]
      exact ⟨rfl, hg3 wb rfl gz, fun _ => ⟨_, _, _, hd3⟩⟩

set_option maxRecDepth 100000 in
set_option maxHeartbeats 4000000 in
theorem remove_any (name : List UInt8) (fs : List Fl) (A : Option Addr) (n cap : Nat) (f : Int) (w : World) (hn : n ≤ 1099511627776) (hx : FRow w A n fs) (hA : A = none → n = 0 ∧ cap = 0) (hs : ∀ f ∈ fs, f.1.length ≤ 1099511627776 ∧ f.2.1.length ≤ 1099511627776 ∧ f.2.2.length ≤ 1099511627776)
    (hf : -9223372036854775808 ≤ f ∧ f ≤ 9223372036854775807) :
    Calls Tryd.prog 87 #[diskV A n cap f, .string (bs name)] w (StepPost (stepR (rmF name) fs f) A n cap fs w) := by
  have g1 := (Gr.refl w).alloc (.cells #[.slice A n cap, .int .i64 f] 43)
  have g2 := g1.alloc (.cells #[.string (bs name)] 9)
  have g4 := g2.alloc (.cells #[.slice none 0 0, .int .i64 0] 43)
  have b1 := ((Blk.new w 43 #[.slice A n cap, .int .i64 f]).alloc (.cells #[.string (bs name)] 9)).alloc (.cells #[.slice none 0 0, .int .i64 0] 43)
  have b2 := (Blk.new1 w (.cells #[.slice A n cap, .int .i64 f] 43) 9 #[.string (bs name)]).alloc (.cells #[.slice none 0 0, .int .i64 0] 43)
  have b4 := Blk.newAt (w := ((w.alloc (.cells #[.slice A n cap, .int .i64 f] 43)).alloc (.cells #[.string (bs name)] 9))) (g := w.heap.size + 1 + 1) (by simp) 43 #[.slice none 0 0, .int .i64 0]
  obtain ⟨wa, hwa⟩ : ∃ x, x = (((w.alloc (.cells #[.slice A n cap, .int .i64 f] 43)).alloc (.cells #[.string (bs name)] 9))).alloc (.cells #[.slice none 0 0, .int .i64 0] 43) := ⟨_, rfl⟩
  rw [← hwa] at b1 b2 b4 g4
  obtain ⟨p, hp⟩ : ∃ p, p = w.heap.size := ⟨_, rfl⟩
  have hwp : w.heap.size ≤ p := by omega
  rw [← hp] at b1 b2 b4
  have c0 : wa.cell? ⟨p, 0, none⟩ = some (.slice A n cap) := b1.cell 0
  have c1 : wa.cell? ⟨p, 1, none⟩ = some (.int .i64 f) := b1.cell 1
  have HS := sec (step_any 114 #[.pointer (some ⟨p + 1, 0, none⟩)] (rmF name) (enters_own Tryd.func114 (by kernel_rfl) rfl) fs A n cap f wa hn (hx.gr g4) hA hs hf (remove1_any name (p + 1) wa (b2.cell 0)))
  have HB4 := sec b4
  have HG4 := sec g4
  clear hx hA hs g1 g2 g4 b1 b2 b4
  unfold diskV at HS
  unfold diskV
  have hmf : ∀ (fn : Fn) (first cap : Array Value) (w : World), (Instr.makeFunc fn first cap).run Tryd.prog w = .ok (.func fn first cap) w := fun _ _ _ _ => rfl
  obtain ⟨R, hR⟩ : ∃ R, R = stepR (rmF name) fs f := ⟨_, rfl⟩
  rw [← hR] at HS
  rw [← hR]
  clear hR
  obtain ⟨fs', f', er⟩ := R
  go_enter Tryd.func87, Tryd.ntmps87
  go_wp2_with (first | (rw [← hwa, ← hp]; clear hwa hp; go_wp2_with fail) | (go_at_call 113; refine Calls.mono HS.out ?_; rintro e w5 ⟨A', n', cap', rfl, g5, hA', hrow⟩;  unfold diskV; have d0 : w5.cell? ⟨p + 1 + 1, 0, none⟩ = some (.slice none 0 0) := (HB4.out.gr g5).cell 0; have d1 : w5.cell? ⟨p + 1 + 1, 1, none⟩ = some (.int .i64 0) := (HB4.out.gr g5).cell 1; have f0 : w5.frozen? ⟨p + 1 + 1, 0, none⟩ = false := (HB4.out.gr g5).frozen 0; have f1 : w5.frozen? ⟨p + 1 + 1, 1, none⟩ = false := (HB4.out.gr g5).frozen 1))
  refine bodyPost_ret (results_blk_tmp rfl _ rfl (((HB4.out.gr g5).set_ 0 (.slice A' n' cap')).set_ 1 (.int .i64 f')) aggDisk) rfl ?_
  have hfin := StepPost.set2 (r := (fs', f', er)) (p := p + 1 + 1) HG4.out HB4.out.lt (by omega) g5 (.slice A' n' cap') (.int .i64 f') hrow
  exact ⟨A', n', cap', rfl, hfin.1, hA', hfin.2⟩
end Go.Proofs.YtmgpllakpgjicaaDoor

namespace Go.Proofs.YtmgpllakpgjicaaDoor
open Go.RowKit
set_option linter.unusedVariables false
theorem SortedF.erase {fs : List Fl} (h : SortedF fs) (k : Nat) : SortedF (fs.eraseIdx k) := h.sublist (List.eraseIdx_sublist fs k)
def rnTo (dst : List UInt8) (f : Fl) (g : List Fl) : List Fl := if hasF dst g then g.set (lbF dst g) (dst, f.2) else insF (lbF dst g) (dst, f.2) g
/-- P6.4 within the power -/
def rnF (frm dst : List UInt8) (fs : List Fl) : List Fl × Int :=
  if namedB dst then
    (if hasF frm fs then (rnTo dst (fs.getD (lbF frm fs) ([], [], [])) (fs.eraseIdx (lbF frm fs)), 0) else (fs, 7))
  else (fs, 2)
theorem own_file3 {w : World} {B e n cap g : Nat} {fs : List Fl} (h : w.ownsRow B e 3 (.slice (some ⟨g, 0, none⟩) n cap) n (fs.flatMap fileC)) (i : Nat) (x : Fl) (nm sf tl : List UInt8) (hi : fs[i]? = some x) :
    (((w.setCell ⟨g, i * 3, none⟩ (.string (bs nm))).setCell ⟨g, i * 3 + 1, none⟩ (.string (bs sf))).setCell ⟨g, i * 3 + 2, none⟩ (.string (bs tl))).ownsRow B e 3 (.slice (some ⟨g, 0, none⟩) n cap) n ((fs.set i (nm, sf, tl)).flatMap fileC) := by
  obtain ⟨a, b, c⟩ := x
  obtain ⟨hl, hg⟩ := List.getElem?_eq_some_iff.1 hi
  have hfl : (fs.flatMap fileC).length = fs.length * 3 := flat_len fileC 3 (fun _ => rfl) fs
  have o1 := own_set h (i * 3 + 0) (by rw [hfl]; omega) (.string (bs nm))
  rw [flat_set fs i hl 0 (.string (bs nm)) (nm, b, c) (by omega) (by rw [hg]; rfl)] at o1
  have := own_file2 o1 i nm b c sf tl (by rw [List.getElem?_set_self hl])
  rw [List.set_set] at this
  exact this

set_option maxRecDepth 100000 in
set_option maxHeartbeats 4000000 in
theorem rename1_any (frm dst : List UInt8) (c1 c2 : Nat) (w0 : World) (h1 : w0.cell? ⟨c1, 0, none⟩ = some (.string (bs dst))) (h2 : w0.cell? ⟨c2, 0, none⟩ = some (.string (bs frm))) (hl1 : dst.length ≤ 1099511627776) :
    Steps 119 #[.pointer (some ⟨c1, 0, none⟩), .pointer (some ⟨c2, 0, none⟩)] (rnF frm dst) w0 := by
  intro wb w q A n cap u fs g0 gc hd hgf
  show Calls Tryd.prog 119 #[.pointer (some ⟨q, 0, none⟩), .pointer (some ⟨c1, 0, none⟩), .pointer (some ⟨c2, 0, none⟩)] w _
  have hl := hd.len
  have hl400 : fs.length ≤ 400 := goodFs_len hgf
  have HE1 : Sec (∀ W, Gr wb W → W.cell? ⟨c1, 0, none⟩ = some (.string (bs dst))) := sec (fun W g => ((g0.trans g).cells.1 c1 _ (World.block_lt_of_cell? w0 _ h1)).trans h1)
  have HE2 : Sec (∀ W, Gr wb W → W.cell? ⟨c2, 0, none⟩ = some (.string (bs frm))) := sec (fun W g => ((g0.trans g).cells.1 c2 _ (World.block_lt_of_cell? w0 _ h2)).trans h2)
  have HN := sec (fun w => named_any dst w (by omega))
  have HD := sec hd
  have HS := sec (goodFs_sorted hgf)
  have HGC := sec gc
  have HGF := sec hgf
  have e1 := HE1.out w gc
  clear h1 h2 g0 gc hd hgf
  cases hnb : namedB dst with
  | false =>
    have HR : Sec (rnF frm dst fs = (fs, 2)) := sec (by unfold rnF; rw [hnb]; rfl)
    rw [HR.out]
    rw [hnb] at HN
    go_enter Tryd.func119, Tryd.ntmps119
    go_wp2_with (go_at_call 85; refine (HN.out _).mono ?_; rintro e w1 ⟨rfl, g1⟩)
    go_ret
    exact ⟨rfl, HGC.out.trans g1, fun h => by cases h⟩
  | true =>
    rw [hnb] at HN
    have HNB := sec hnb
    clear hnb
    obtain ⟨k, hk⟩ : ∃ k, k = lbF frm fs := ⟨_, rfl⟩
    have HK := sec hk
    clear hk
    obtain ⟨B, hB⟩ : ∃ B, B = hasF frm fs := ⟨_, rfl⟩
    have HB := sec hB
    clear hB
    go_enter Tryd.func119, Tryd.ntmps119
    go_upto_region 3 with (go_at_call 85; refine (HN.out _).mono ?_; rintro e w1 ⟨rfl, g1⟩)
    have HD1 := sec (HD.out.gr g1)
    have d0 : w1.cell? ⟨q, 0, none⟩ = some (.slice A n cap) := HD1.out.blk.cell 0
    have d1 : w1.cell? ⟨q, 1, none⟩ = some (.int .i64 u) := HD1.out.blk.cell 1
    have e2y : w1.cell? ⟨c2, 0, none⟩ = some (.string (bs frm)) := HE2.out _ (HGC.out.trans g1)
    go_cut [5, 6] from 8 to 67 (fun v5 v6 wx => v5 = .int .i64 (k : Int) ∧ v6 = .bool B ∧ Gr w1 wx)
    case first =>
      go_region_with (go_at_call 86; refine (find_any fs frm A n cap u w1.drew (by omega) (FRow.gr (Row.own HD1.out.own) (Gr.refl _).drew) HS.out).mono ?_; rw [← HK.out, ← HB.out]; rintro e w2 ⟨rfl, g2⟩)
      all_goals (go_wp2_with fail; go_meet; exact ⟨rfl, rfl, Gr.trans (Gr.refl _).drew g2⟩)
    case rest =>
      obtain ⟨rfl, rfl, gx⟩ := hcut
      have HDx := sec (HD1.out.gr gx)
      have gcx : Gr wb wc := HGC.out.trans (g1.trans gx)
      clear d0 d1 e2y
      cases B with
      | false =>
        have HR : Sec (rnF frm dst fs = (fs, 7)) := sec (by unfold rnF; rw [HNB.out, if_pos rfl, ← HB.out]; rfl)
        go_wp2_with fail
        go_ret
        rw [HR.out]
        exact ⟨rfl, gcx, fun h => by cases h⟩
      | true =>
        have hX := hasF_lt HS.out HB.out.symm
        rw [← HK.out] at hX
        obtain ⟨hkl, hnm⟩ := hX
        have hk2 : (k : Int) < (n : Int) := by omega
        obtain ⟨b, rfl, hBb, hbq, z0, z1, z2, zf⟩ := HDx.out.at hkl
        have hget : fs[k]? = some fs[k] := List.getElem?_eq_getElem hkl
        have hgd : fs.getD (lbF frm fs) ([], [], []) = fs[k] := by
          rw [← HK.out, List.getD_eq_getElem?_getD, hget]; rfl
        obtain ⟨x, hxx⟩ : ∃ x, x = fs[k] := ⟨_, rfl⟩
        rw [← hxx] at z0 z1 z2 hget hgd
        obtain ⟨nm, sf, tl⟩ := x
        simp only at z0 z1 z2
        have HR : Sec (rnF frm dst fs = (rnTo dst (nm, sf, tl) (fs.eraseIdx k), 0)) := sec (by unfold rnF; rw [HNB.out, if_pos rfl, ← HB.out, if_pos rfl, hgd, ← HK.out])
        have hkn : k < n := by omega
        clear hxx hnm hkl zf hget hgd
        have d0z : wc.cell? ⟨q, 0, none⟩ = some (.slice (some ⟨b, 0, none⟩) n cap) := HDx.out.blk.cell 0
        have HDE : Sec (∀ W, Gr wc W → Calls Tryd.prog 115 #[.slice (some ⟨b, 0, none⟩) n cap, .int .i64 (k : Int), .int .i64 ((k : Int) + 1)] W fun e w' =>
          e = .returned (.slice (some ⟨b, 0, none⟩) (n - 1) cap) ∧ w'.ownsRow wb.heap.size 89 3 (.slice (some ⟨b, 0, none⟩) (n - 1) cap) (n - 1) ((fs.eraseIdx k).flatMap fileC) ∧ W.grownBy w' (Value.ownBlock (.slice (some ⟨b, 0, none⟩) n cap))) := sec
          (fun W g => delete_any (some ⟨b, 0, none⟩) n cap k wb.heap.size fs W (HDx.out.gr g).own hkn (by omega))
        have hwr : IntKind.i64.wrap ((k : Int) + 1) = (k : Int) + 1 := IntWalk.i64_in _ (by omega)
        clear hkn
        have e1x : wc.cell? ⟨c1, 0, none⟩ = some (.string (bs dst)) := HE1.out _ gcx
        have e1w : (wc.alloc (.cells #[.string (bs nm), .string (bs sf), .string (bs tl)] 89)).cell? ⟨c1, 0, none⟩ = some (.string (bs dst)) := HE1.out _ (gcx.alloc _)
        have d0w : (wc.alloc (.cells #[.string (bs dst), .string (bs sf), .string (bs tl)] 89)).cell? ⟨q, 0, none⟩ = some (.slice (some ⟨b, 0, none⟩) n cap) := (HDx.out.blk.alloc _).cell 0
        have HFB : Sec (∀ w3, (wc.alloc (.cells #[.string (bs dst), .string (bs sf), .string (bs tl)] 89)).grownBy w3 (Value.ownBlock (.slice (some ⟨b, 0, none⟩) n cap)) → Blk w3 wc.heap.size 89 #[.string (bs dst), .string (bs sf), .string (bs tl)]) := sec (fun w3 hgr =>
          (Blk.new wc _ _).grown hgr (fun e => by have := (HDx.out.own.lt _ e.symm).2; omega))
        have HDA := sec (HDx.out.gr ((Gr.refl wc).alloc (.cells #[.string (bs dst), .string (bs sf), .string (bs tl)] 89)))
        have hqr : q < wc.heap.size := HDx.out.blk.lt
        go_upto_region 9 with (go_at_call 115; refine (HDE.out _ ((Gr.refl wc).alloc _)).mono ?_; rintro e w3 ⟨rfl, ho, hgr⟩; obtain ⟨hb3, hd3, hg3⟩ := HDA.out.del ho hgr; have d0y : w3.cell? ⟨q, 0, none⟩ = some (.slice (some ⟨b, 0, none⟩) n cap) := hb3.cell 0; have f0y : w3.frozen? ⟨q, 0, none⟩ = false := hb3.frozen 0)
        have hf6 := (HFB.out w3 hgr).far (p := ⟨q, 0, none⟩) (by show wc.heap.size ≠ q; omega) (.slice (some ⟨b, 0, none⟩) (n - 1) cap)
        have g6 := hg3 wb rfl (gcx.alloc _)
        obtain ⟨w6, hw6⟩ : ∃ x, x = w3.setCell ⟨q, 0, none⟩ (.slice (some ⟨b, 0, none⟩) (n - 1) cap) := ⟨_, rfl⟩
        obtain ⟨r, hr⟩ : ∃ r, r = wc.heap.size := ⟨_, rfl⟩
        rw [← hw6, ← hr] at hf6
        rw [← hw6] at hd3 g6
        rw [← hw6, ← hr]
        have HD6 := sec hd3
        have HF6 := sec hf6
        have HG6 := sec g6
        have hrb : wb.heap.size ≤ r := by have := gcx.size; omega
        clear hw6 hr hf6 hd3 g6 hg3 hb3 d0y f0y ho hgr HDE HFB HDA d0w e1w e1x d0z z0 z1 z2 hqr
        obtain ⟨m, hm⟩ : ∃ m, m = n - 1 := ⟨_, rfl⟩
        rw [← hm] at HD6
        rw [← hm]
        have hm400 : m ≤ 400 := by omega
        clear hm
        obtain ⟨g, hg⟩ : ∃ g, g = fs.eraseIdx k := ⟨_, rfl⟩
        have HSE : Sec (SortedF g) := sec (by rw [hg]; exact HS.out.erase k)
        rw [← hg] at HD6 HR
        clear hg
        obtain ⟨k2, hk2⟩ : ∃ k2, k2 = lbF dst g := ⟨_, rfl⟩
        obtain ⟨B2, hB2⟩ : ∃ B2, B2 = hasF dst g := ⟨_, rfl⟩
        have HK2 := sec hk2
        have HB2 := sec hB2
        have hgl := HD6.out.len
        clear hk2 hB2
        have d06 : w6.cell? ⟨q, 0, none⟩ = some (.slice (some ⟨b, 0, none⟩) m cap) := HD6.out.blk.cell 0
        have d16 : w6.cell? ⟨q, 1, none⟩ = some (.int .i64 u) := HD6.out.blk.cell 1
        have e16 : w6.cell? ⟨c1, 0, none⟩ = some (.string (bs dst)) := HE1.out _ HG6.out
        go_cut [5, 6] from 8 to 67 (fun v5 v6 wx => v5 = .int .i64 (k2 : Int) ∧ v6 = .bool B2 ∧ Gr w6 wx)
        case first =>
          go_region_with (go_at_call 86; refine (find_any g dst (some ⟨b, 0, none⟩) m cap u w6.drew (by omega) (FRow.gr (Row.own HD6.out.own) (Gr.refl _).drew) HSE.out).mono ?_; rw [← HK2.out, ← HB2.out]; rintro e w2 ⟨rfl, g2⟩)
          all_goals (go_wp2_with fail; go_meet; exact ⟨rfl, rfl, Gr.trans (Gr.refl _).drew g2⟩)
        case rest =>
          obtain ⟨rfl, rfl, gy⟩ := hcut
          clear d06 d16 e16
          have HDz := sec (HD6.out.gr gy)
          have HFz := sec (HF6.out.gr gy)
          have gz : Gr wb wc := HG6.out.trans gy
          have f0 : wc.cell? ⟨r, 0, none⟩ = some (.string (bs dst)) := HFz.out.cell 0
          have f1 : wc.cell? ⟨r, 1, none⟩ = some (.string (bs sf)) := HFz.out.cell 1
          have f2 : wc.cell? ⟨r, 2, none⟩ = some (.string (bs tl)) := HFz.out.cell 2
          have d0v : wc.cell? ⟨q, 0, none⟩ = some (.slice (some ⟨b, 0, none⟩) m cap) := HDz.out.blk.cell 0
          have dfv : wc.frozen? ⟨q, 0, none⟩ = false := HDz.out.blk.frozen 0
          cases B2 with
          | true =>
            have hX := hasF_lt HSE.out HB2.out.symm
            rw [← HK2.out] at hX
            obtain ⟨hkl2, hnm2⟩ := hX
            have hk4 : (k2 : Int) < (m : Int) := by omega
            obtain ⟨b2, hbe, _, _, z0, z1, z2, zf⟩ := HDz.out.at hkl2
            injection hbe with hbe
            injection hbe with hbe
            subst hbe
            have zf0 : wc.frozen? ⟨b, k2 * 3, none⟩ = false := zf 0 (by omega)
            have zf1 : wc.frozen? ⟨b, k2 * 3 + 1, none⟩ = false := zf 1 (by omega)
            have zf2 : wc.frozen? ⟨b, k2 * 3 + 2, none⟩ = false := zf 2 (by omega)
            have HR2 : Sec (rnTo dst (nm, sf, tl) g = g.set k2 (dst, sf, tl)) := sec (by unfold rnTo; rw [← HB2.out, if_pos rfl, ← HK2.out])
            go_wp2_with fail
            go_region
            go_wp2_with fail
            go_ret
            rw [HR.out, HR2.out]
            have hget2 : g[k2]? = some g[k2] := List.getElem?_eq_getElem hkl2
            have hd9 : DOwn (((wc.setCell ⟨b, k2 * 3, none⟩ (.string (bs dst))).setCell ⟨b, k2 * 3 + 1, none⟩ (.string (bs sf))).setCell ⟨b, k2 * 3 + 2, none⟩ (.string (bs tl))) wb.heap.size q (some ⟨b, 0, none⟩) m cap u (g.set k2 (dst, sf, tl)) :=
              ⟨((HDz.out.blk.far (p := ⟨b, k2 * 3, none⟩) (Ne.symm hbq) _).far (p := ⟨b, k2 * 3 + 1, none⟩) (Ne.symm hbq) _).far (p := ⟨b, k2 * 3 + 2, none⟩) (Ne.symm hbq) _, own_file3 HDz.out.own k2 _ dst sf tl hget2, HDz.out.base⟩
            exact ⟨rfl, (((gz.setCell (p := ⟨b, k2 * 3, none⟩) hBb _).setCell (p := ⟨b, k2 * 3 + 1, none⟩) hBb _).setCell (p := ⟨b, k2 * 3 + 2, none⟩) hBb _).drew, fun _ => ⟨_, _, _, hd9.gr (Gr.refl _).drew⟩⟩
          | false =>
            have hkn2 : k2 ≤ m := by rw [HK2.out, ← hgl]; exact lbF_le dst g
            have HINS : Sec (Calls Tryd.prog 117 #[.slice (some ⟨b, 0, none⟩) m cap, .int .i64 (k2 : Int), .slice (some ⟨wc.heap.size, 0, none⟩) 1 1] (wc.alloc (.cells #[.string (bs dst), .string (bs sf), .string (bs tl)] 89)).drew fun e w' =>
              ∃ A' cap', e = .returned (.slice A' (m + 1) cap') ∧ w'.ownsRow wb.heap.size 89 3 (.slice A' (m + 1) cap') (m + 1) ((insF k2 (dst, sf, tl) g).flatMap fileC) ∧ (wc.alloc (.cells #[.string (bs dst), .string (bs sf), .string (bs tl)] 89)).drew.grownBy w' (Value.ownBlock (.slice (some ⟨b, 0, none⟩) m cap))) := sec (by
              refine insert_any (some ⟨b, 0, none⟩) m cap k2 wc.heap.size 1 wb.heap.size g (dst, sf, tl) _ (own_gr HDz.out.own ((Gr.refl wc).alloc _).drew) hkn2 (by omega) ((Blk.new wc _ _).gr (Gr.refl _).drew) (fun h => ?_) ?_
              · have := (HDz.out.own.lt _ h).2; omega
              · have := gz.size; have := (((Gr.refl wc).alloc (.cells #[.string (bs dst), .string (bs sf), .string (bs tl)] 89)).drew).size; omega)
            have HI : Sec (∀ (A' : Option Addr) (cap' : Nat) (w3 : World) (o : Obj), w3.ownsRow wb.heap.size 89 3 (.slice A' (m + 1) cap') (m + 1) ((insF k2 (dst, sf, tl) g).flatMap fileC) → (wc.alloc o).drew.grownBy w3 (Value.ownBlock (.slice (some ⟨b, 0, none⟩) m cap)) →
              w3.cell? ⟨q, 0, none⟩ = some (.slice (some ⟨b, 0, none⟩) m cap) ∧ w3.frozen? ⟨q, 0, none⟩ = false ∧ Sec (DOwn (w3.setCell ⟨q, 0, none⟩ (.slice A' (m + 1) cap')) wb.heap.size q A' (m + 1) cap' u (insF k2 (dst, sf, tl) g) ∧ Gr wb (w3.setCell ⟨q, 0, none⟩ (.slice A' (m + 1) cap')))) := sec (fun A' cap' w3 o ho hgr => by
                obtain ⟨x1, x2, x3⟩ := HDz.out.ins ho hgr
                exact ⟨x1.cell 0, x1.frozen 0, sec ⟨x2, x3 wb rfl gz⟩⟩)
            have HR2 : Sec (rnTo dst (nm, sf, tl) g = insF k2 (dst, sf, tl) g) := sec (by unfold rnTo; rw [← HB2.out, ← HK2.out]; rfl)
            have d0w : (wc.alloc (.cells #[.string (bs dst), .string (bs sf), .string (bs tl)] 89)).cell? ⟨q, 0, none⟩ = some (.slice (some ⟨b, 0, none⟩) m cap) := (HDz.out.blk.alloc _).cell 0
            clear hkn2
            go_wp2_with fail
            go_region_with (go_at_call 117; refine HINS.out.mono ?_; rintro e w3 ⟨A', cap', rfl, ho, hgr⟩; obtain ⟨d0z, f0z, hend⟩ := HI.out A' cap' w3 _ ho hgr)
            all_goals (go_wp2_with fail; go_ret; rw [HR.out, HR2.out]; exact ⟨rfl, hend.out.2, fun _ => ⟨_, _, _, hend.out.1⟩⟩)

set_option maxRecDepth 100000 in
set_option maxHeartbeats 4000000 in
theorem rename_any (frm dst : List UInt8) (fs : List Fl) (A : Option Addr) (n cap : Nat) (f : Int) (w : World) (hn : n ≤ 1099511627776) (hx : FRow w A n fs) (hA : A = none → n = 0 ∧ cap = 0) (hs : ∀ f ∈ fs, f.1.length ≤ 1099511627776 ∧ f.2.1.length ≤ 1099511627776 ∧ f.2.2.length ≤ 1099511627776)
    (hf : -9223372036854775808 ≤ f ∧ f ≤ 9223372036854775807) (hl2 : dst.length ≤ 1099511627776) :
    Calls Tryd.prog 90 #[diskV A n cap f, .string (bs frm), .string (bs dst)] w (StepPost (stepR (rnF frm dst) fs f) A n cap fs w) := by
  have g1 := (Gr.refl w).alloc (.cells #[.slice A n cap, .int .i64 f] 43)
  have g2 := g1.alloc (.cells #[.string (bs frm)] 9)
  have g3 := g2.alloc (.cells #[.string (bs dst)] 9)
  have g4 := g3.alloc (.cells #[.slice none 0 0, .int .i64 0] 43)
  have b1 := (((Blk.new w 43 #[.slice A n cap, .int .i64 f]).alloc (.cells #[.string (bs frm)] 9)).alloc (.cells #[.string (bs dst)] 9)).alloc (.cells #[.slice none 0 0, .int .i64 0] 43)
  have b2 := ((Blk.new1 w (.cells #[.slice A n cap, .int .i64 f] 43) 9 #[.string (bs frm)]).alloc (.cells #[.string (bs dst)] 9)).alloc (.cells #[.slice none 0 0, .int .i64 0] 43)
  have b3 := (Blk.new2 w (.cells #[.slice A n cap, .int .i64 f] 43) (.cells #[.string (bs frm)] 9) 9 #[.string (bs dst)]).alloc (.cells #[.slice none 0 0, .int .i64 0] 43)
  have b4 := Blk.newAt (w := ((w.alloc (.cells #[.slice A n cap, .int .i64 f] 43)).alloc (.cells #[.string (bs frm)] 9)).alloc (.cells #[.string (bs dst)] 9)) (g := w.heap.size + 1 + 1 + 1) (by simp) 43 #[.slice none 0 0, .int .i64 0]
  obtain ⟨wa, hwa⟩ : ∃ x, x = (((w.alloc (.cells #[.slice A n cap, .int .i64 f] 43)).alloc (.cells #[.string (bs frm)] 9)).alloc (.cells #[.string (bs dst)] 9)).alloc (.cells #[.slice none 0 0, .int .i64 0] 43) := ⟨_, rfl⟩
  rw [← hwa] at b1 b2 b3 b4 g4
  obtain ⟨p, hp⟩ : ∃ p, p = w.heap.size := ⟨_, rfl⟩
  have hwp : w.heap.size ≤ p := by omega
  rw [← hp] at b1 b2 b3 b4
  have c0 : wa.cell? ⟨p, 0, none⟩ = some (.slice A n cap) := b1.cell 0
  have c1 : wa.cell? ⟨p, 1, none⟩ = some (.int .i64 f) := b1.cell 1
  have HS := sec (step_any 119 #[.pointer (some ⟨p + 1 + 1, 0, none⟩), .pointer (some ⟨p + 1, 0, none⟩)] (rnF frm dst) (enters_own Tryd.func119 (by kernel_rfl) rfl) fs A n cap f wa hn (hx.gr g4) hA hs hf (rename1_any frm dst (p + 1 + 1) (p + 1) wa (b3.cell 0) (b2.cell 0) hl2))
  have HB4 := sec b4
  have HG4 := sec g4
  clear hx hA hs g1 g2 g3 g4 b1 b2 b3 b4
  unfold diskV at HS
  unfold diskV
  have hmf : ∀ (fn : Fn) (first cap : Array Value) (w : World), (Instr.makeFunc fn first cap).run Tryd.prog w = .ok (.func fn first cap) w := fun _ _ _ _ => rfl
  obtain ⟨R, hR⟩ : ∃ R, R = stepR (rnF frm dst) fs f := ⟨_, rfl⟩
  rw [← hR] at HS
  rw [← hR]
  clear hR
  obtain ⟨fs', f', er⟩ := R
  go_enter Tryd.func90, Tryd.ntmps90
  go_wp2_with (first | (rw [← hwa, ← hp]; clear hwa hp; go_wp2_with fail) | (go_at_call 113; refine Calls.mono HS.out ?_; rintro e w5 ⟨A', n', cap', rfl, g5, hA', hrow⟩;  unfold diskV; have d0 : w5.cell? ⟨p + 1 + 1 + 1, 0, none⟩ = some (.slice none 0 0) := (HB4.out.gr g5).cell 0; have d1 : w5.cell? ⟨p + 1 + 1 + 1, 1, none⟩ = some (.int .i64 0) := (HB4.out.gr g5).cell 1; have f0 : w5.frozen? ⟨p + 1 + 1 + 1, 0, none⟩ = false := (HB4.out.gr g5).frozen 0; have f1 : w5.frozen? ⟨p + 1 + 1 + 1, 1, none⟩ = false := (HB4.out.gr g5).frozen 1))
  refine bodyPost_ret (results_blk_tmp rfl _ rfl (((HB4.out.gr g5).set_ 0 (.slice A' n' cap')).set_ 1 (.int .i64 f')) aggDisk) rfl ?_
  have hfin := StepPost.set2 (r := (fs', f', er)) (p := p + 1 + 1 + 1) HG4.out HB4.out.lt (by omega) g5 (.slice A' n' cap') (.int .i64 f') hrow
  exact ⟨A', n', cap', rfl, hfin.1, hA', hfin.2⟩
end Go.Proofs.YtmgpllakpgjicaaDoor

namespace Go.Proofs.YtmgpllakpgjicaaDoor
open Go.RowKit
set_option linter.unusedVariables false
def putStep (f : Fl) (st : List Fl × Bool) (x : Fl) : List Fl × Bool :=
  if x.1 == f.1 then st else if (!st.2 && ltB f.1 x.1) then (st.1 ++ [f] ++ [x], true) else (st.1 ++ [x], st.2)
def putGo (f : Fl) (l : List Fl) : List Fl × Bool := l.foldl (putStep f) ([], false)
def putF (f : Fl) (l : List Fl) : List Fl := if (putGo f l).2 then (putGo f l).1 else (putGo f l).1 ++ [f]
theorem putGo_succ (f : Fl) (l : List Fl) (i : Nat) (h : i < l.length) : putGo f (l.take (i + 1)) = putStep f (putGo f (l.take i)) l[i] := by
  unfold putGo
  rw [List.take_succ_eq_append_getElem h, List.foldl_append]
  rfl
theorem putStep_len (f : Fl) (st : List Fl × Bool) (x : Fl) : (putStep f st x).1.length ≤ st.1.length + 2 := by
  unfold putStep
  split
  · omega
  · split <;> simp

set_option maxRecDepth 100000 in
set_option maxHeartbeats 4000000 in
theorem put_any (l : List Fl) (fn sf tl : List UInt8) (A : Option Addr) (n cap : Nat) (w : World) (hn : n ≤ 1099511627776) (hx : FRow w A n l) :
    Calls Tryd.prog 120 #[.slice A n cap, .agg #[.string (bs fn), .string (bs sf), .string (bs tl)]] w fun e w' =>
      ∃ A' n' cap', e = .returned (.slice A' n' cap') ∧ w'.ownsRow w.heap.size 89 3 (.slice A' n' cap') n' ((putF (fn, sf, tl) l).flatMap fileC) ∧ Gr w w' := by
  have hl := hx.len
  have hg0 := (Gr.refl w).alloc (.cells #[.string (bs fn), .string (bs sf), .string (bs tl)] 89)
  have hb1 := Blk.new w 89 #[.string (bs fn), .string (bs sf), .string (bs tl)]
  have hx1 := hx.gr hg0
  go_enter Tryd.func120, Tryd.ntmps120
  go_wp2_with fail
  obtain ⟨wa, hwa⟩ : ∃ x, x = w.alloc (.cells #[.string (bs fn), .string (bs sf), .string (bs tl)] 89) := ⟨_, rfl⟩
  obtain ⟨p, hp⟩ : ∃ p, p = w.heap.size := ⟨_, rfl⟩
  rw [← hwa] at hg0 hb1 hx1
  rw [← hp] at hb1
  rw [← hwa, ← hp]
  have HX := sec hx1
  have HB := sec hb1
  have hwp : w.heap.size ≤ p := by omega
  have HO : Sec (wa.ownsRow wa.heap.size 89 3 (.slice none 0 0) 0 ((putGo (fn, sf, tl) (l.take 0)).1.flatMap fileC)) := sec (World.ownsRow_nil _ _ _ _)
  clear hwa hp hx hx1 hb1
  go_loopw [11, 5, 6, 8] (fun iv v5 v6 _ wr => ∃ (i n1 k1 : Nat) (A1 : Option Addr) (dn : Bool), iv = .int .i64 (i : Int) ∧ v5 = .slice A1 n1 k1 ∧ v6 = .bool dn ∧ i ≤ n ∧ n1 ≤ 2 * i ∧ Sec (dn = (putGo (fn, sf, tl) (l.take i)).2) ∧ Sec (wr.ownsRow wa.heap.size 89 3 (.slice A1 n1 k1) n1 ((putGo (fn, sf, tl) (l.take i)).1.flatMap fileC)) ∧ Gr wa wr) (fun iv _ _ _ _ => n - (intOf iv).toNat)
  case atStart => exact ⟨0, 0, 0, none, false, rfl, rfl, rfl, by omega, by omega, sec rfl, HO, Gr.refl _⟩
  case round =>
    clear HO
    obtain ⟨i, n1, k1, A1, dn, rfl, rfl, rfl, hi, hn1, HDN, HOw, hg⟩ := hrel
    by_cases hlt : i < n
    · have hif : i < l.length := by omega
      have hii : (i : Int) < (n : Int) := by omega
      obtain ⟨b, off, rfl, e0, e1, e2⟩ := (HX.out.gr hg).cell hif
      have HSU := sec (putGo_succ (fn, sf, tl) l i hif)
      obtain ⟨x, hxx⟩ : ∃ x, x = l[i] := ⟨_, rfl⟩
      rw [← hxx] at e0 e1 e2 HSU
      clear hxx hif
      obtain ⟨nm, s1, t1⟩ := x
      simp only at e0 e1 e2 HSU
      have f0 : (wr.alloc (.cells #[.string (bs nm), .string (bs s1), .string (bs t1)] 89)).cell? ⟨p, 0, none⟩ = some (.string (bs fn)) := (HB.out.gr (hg.alloc _)).cell 0
      have f1 : (wr.alloc (.cells #[.string (bs nm), .string (bs s1), .string (bs t1)] 89)).cell? ⟨p, 1, none⟩ = some (.string (bs sf)) := (HB.out.gr (hg.alloc _)).cell 1
      have f2 : (wr.alloc (.cells #[.string (bs nm), .string (bs s1), .string (bs t1)] 89)).cell? ⟨p, 2, none⟩ = some (.string (bs tl)) := (HB.out.gr (hg.alloc _)).cell 2
      have hnb : n1 ≤ 2199023255552 := by omega
      have hb1 : (n1 + 1) * 48 ≤ 140737488355328 := Nat.le_trans (Nat.mul_le_mul_right 48 (Nat.succ_le_succ hnb)) (by decide)
      have HM2 : Sec (n1 + 1 ≤ maxLen) := sec (Nat.le_trans (Nat.succ_le_succ hnb) (by decide))
      have hb3 : (n1 + 1 + 1) * 48 ≤ 140737488355328 := Nat.le_trans (Nat.mul_le_mul_right 48 (Nat.succ_le_succ (Nat.succ_le_succ hnb))) (by decide)
      have HM4 : Sec (n1 + 1 + 1 ≤ maxLen) := sec (Nat.le_trans (Nat.succ_le_succ (Nat.succ_le_succ hnb)) (by decide))
      have hws := hg.size
      cases hb : nm == fn with
      | true =>
        have HS2 : Sec (putGo (fn, sf, tl) (l.take (i + 1)) = putGo (fn, sf, tl) (l.take i)) := sec (by rw [HSU.out]; unfold putStep; rw [if_pos hb])
        go_wp2_with fail
        go_roundw
        case rel => exact ⟨i + 1, n1, k1, A1, dn, by go_num, rfl, rfl, by omega, by omega, by rw [HS2.out]; exact HDN, by rw [HS2.out]; exact sec (own_gr HOw.out ((Gr.refl _).alloc _)), hg.alloc _⟩
        case measure => simp [intOf]; omega
      | false =>
        by_cases hdl : (!dn && ltB fn nm) = true
        · have HS2 : Sec (putGo (fn, sf, tl) (l.take (i + 1)) = ((putGo (fn, sf, tl) (l.take i)).1 ++ [(fn, sf, tl)] ++ [(nm, s1, t1)], true)) := sec (by rw [HSU.out]; unfold putStep; rw [if_neg (by rw [hb]; decide), ← HDN.out, if_pos hdl])
          rw [Bool.and_eq_true] at hdl
          obtain ⟨hd0, hlt1⟩ := hdl
          obtain rfl : dn = false := by cases dn <;> simp_all
          have q1 : Op.bytesLess nm fn = false := ltB_asym hlt1
          have HXB : Sec (∀ w2, ((wr.alloc (.cells #[.string (bs nm), .string (bs s1), .string (bs t1)] 89)).alloc (.cells #[.string (bs fn), .string (bs sf), .string (bs tl)] 89)).grownBy w2 (Value.ownBlock (.slice A1 n1 k1)) → Blk w2 wr.heap.size 89 #[.string (bs nm), .string (bs s1), .string (bs t1)]) := sec (fun w2 hgn =>
            ((Blk.new wr 89 #[.string (bs nm), .string (bs s1), .string (bs t1)]).alloc _).grown hgn (fun e => by have := (HOw.out.lt _ e.symm).2; omega))
          have HO2 := HOw
          clear hd0 hlt1 hlt
          go_wp2_with (first
            | (refine wpList_append_row E.file rfl (.tmp 29) (.tmp 31) rfl (B := wa.heap.size) (A0 := A1) (n0 := n1) (cap0 := k1) rfl (own_gr HOw.out (((Gr.refl wr).alloc _).alloc _)) rfl (Row.lit (Blk.new1 wr _ 89 #[.string (bs fn), .string (bs sf), .string (bs tl)])) (by intro h; cases h) (by intro u hu; simp at hu; rcases hu with rfl | rfl | rfl <;> rfl) hb1 HM2.out (by simp; omega) ?_; intro A2 k2 w2 hown hgn; have hx2 := HXB.out w2 hgn; have y0 : w2.cell? ⟨wr.heap.size, 0, none⟩ = some (.string (bs nm)) := hx2.cell 0; have y1 : w2.cell? ⟨wr.heap.size, 1, none⟩ = some (.string (bs s1)) := hx2.cell 1; have y2 : w2.cell? ⟨wr.heap.size, 2, none⟩ = some (.string (bs t1)) := hx2.cell 2; have hw2 := hgn.size; simp at hw2)
            | (refine wpList_append_row E.file rfl (.tmp 33) (.tmp 35) rfl (B := wa.heap.size) (A0 := A2) (n0 := n1 + 1) (cap0 := k2) rfl (own_gr hown ((Gr.refl w2).alloc _)) rfl (Row.lit (Blk.new w2 89 #[.string (bs nm), .string (bs s1), .string (bs t1)])) (by intro h; cases h) (by intro u hu; simp at hu; rcases hu with rfl | rfl | rfl <;> rfl) hb3 HM4.out (by simp; omega) ?_; intro A3 k3 w3 hown3 hgn3))
          go_roundw
          case rel =>
            refine ⟨i + 1, n1 + 1 + 1, k3, A3, true, by go_num, rfl, rfl, by omega, by omega, by rw [HS2.out]; exact sec rfl, ?_, ?_⟩
            · rw [HS2.out]
              simp only [List.flatMap_append, List.flatMap_cons, List.flatMap_nil, List.append_nil]
              exact sec hown3
            · exact Gr.grown ((Gr.grown ((hg.alloc _).alloc _) hgn (fun k hk => (HOw.out.lt k hk).1)).alloc _) hgn3 (fun k hk => (hown.lt k hk).1)
          case measure => simp [intOf]; omega
        · have HS2 : Sec (putGo (fn, sf, tl) (l.take (i + 1)) = ((putGo (fn, sf, tl) (l.take i)).1 ++ [(nm, s1, t1)], dn)) := sec (by rw [HSU.out]; unfold putStep; rw [if_neg (by rw [hb]; decide), ← HDN.out, if_neg hdl])
          have q1 : dn = false → Op.bytesLess nm fn = true := fun hd => by
            cases h : Op.bytesLess nm fn with
            | true => rfl
            | false =>
              exfalso
              have h2 : ltB fn nm = false := by cases h3 : ltB fn nm with
                | false => rfl
                | true => exact absurd (by rw [hd, h3]; rfl) hdl
              have := ltB_tri nm fn h h2
              rw [this] at hb
              simp at hb
          have QQ := sec q1
          clear hdl q1 hlt
          cases dn with
          | true =>
            go_wp2_with (refine wpList_append_row E.file rfl (.tmp 33) (.tmp 35) rfl (B := wa.heap.size) (A0 := A1) (n0 := n1) (cap0 := k1) rfl (own_gr HOw.out (((Gr.refl wr).alloc _).alloc _)) rfl (Row.lit (Blk.new1 wr _ 89 #[.string (bs nm), .string (bs s1), .string (bs t1)])) (by intro h; cases h) (by intro u hu; simp at hu; rcases hu with rfl | rfl | rfl <;> rfl) hb1 HM2.out (by simp; omega) ?_; intro A2 k2 w2 hown hgn)
            go_roundw
            case rel =>
              refine ⟨i + 1, n1 + 1, k2, A2, true, by go_num, rfl, rfl, by omega, by omega, by rw [HS2.out]; exact sec rfl, ?_, ?_⟩
              · rw [HS2.out]
                simp only [List.flatMap_append, List.flatMap_cons, List.flatMap_nil, List.append_nil]
                exact sec hown
              · exact Gr.grown ((hg.alloc _).alloc _) hgn (fun k hk => (HOw.out.lt k hk).1)
            case measure => simp [intOf]; omega
          | false =>
            have q1 : Op.bytesLess nm fn = true := QQ.out rfl
            go_wp2_with (refine wpList_append_row E.file rfl (.tmp 33) (.tmp 35) rfl (B := wa.heap.size) (A0 := A1) (n0 := n1) (cap0 := k1) rfl (own_gr HOw.out (((Gr.refl wr).alloc _).alloc _)) rfl (Row.lit (Blk.new1 wr _ 89 #[.string (bs nm), .string (bs s1), .string (bs t1)])) (by intro h; cases h) (by intro u hu; simp at hu; rcases hu with rfl | rfl | rfl <;> rfl) hb1 HM2.out (by simp; omega) ?_; intro A2 k2 w2 hown hgn)
            go_roundw
            case rel =>
              refine ⟨i + 1, n1 + 1, k2, A2, false, by go_num, rfl, rfl, by omega, by omega, by rw [HS2.out]; exact sec rfl, ?_, ?_⟩
              · rw [HS2.out]
                simp only [List.flatMap_append, List.flatMap_cons, List.flatMap_nil, List.append_nil]
                exact sec hown
              · exact Gr.grown ((hg.alloc _).alloc _) hgn (fun k hk => (HOw.out.lt k hk).1)
            case measure => simp [intOf]; omega
    · obtain rfl : i = n := by omega
      have HT : Sec (putGo (fn, sf, tl) (l.take i) = putGo (fn, sf, tl) l) := sec (by rw [show l.take i = l from List.take_of_length_le (by omega)])
      rw [HT.out] at HDN HOw
      have f0 : wr.cell? ⟨p, 0, none⟩ = some (.string (bs fn)) := (HB.out.gr hg).cell 0
      have f1 : wr.cell? ⟨p, 1, none⟩ = some (.string (bs sf)) := (HB.out.gr hg).cell 1
      have f2 : wr.cell? ⟨p, 2, none⟩ = some (.string (bs tl)) := (HB.out.gr hg).cell 2
      have hnb : n1 ≤ 2199023255552 := by omega
      have hb1 : (n1 + 1) * 48 ≤ 140737488355328 := Nat.le_trans (Nat.mul_le_mul_right 48 (Nat.succ_le_succ hnb)) (by decide)
      have HM2 : Sec (n1 + 1 ≤ maxLen) := sec (Nat.le_trans (Nat.succ_le_succ hnb) (by decide))
      have hws := hg.size
      clear hlt hi
      cases dn with
      | true =>
        have HPF : Sec (putF (fn, sf, tl) l = (putGo (fn, sf, tl) l).1) := sec (by unfold putF; rw [← HDN.out]; rfl)
        go_wp2_with fail
        go_ret
        rw [HPF.out]
        exact ⟨A1, n1, k1, rfl, own_low HOw.out hg0.size, hg0.trans hg⟩
      | false =>
        have HPF : Sec (putF (fn, sf, tl) l = (putGo (fn, sf, tl) l).1 ++ [(fn, sf, tl)]) := sec (by unfold putF; rw [← HDN.out]; rfl)
        go_wp2_with (refine wpList_append_row E.file rfl (.tmp 40) (.tmp 42) rfl (B := wa.heap.size) (A0 := A1) (n0 := n1) (cap0 := k1) rfl (own_gr HOw.out ((Gr.refl wr).alloc _)) rfl (Row.lit (Blk.new wr 89 #[.string (bs fn), .string (bs sf), .string (bs tl)])) (by intro h; cases h) (by intro u hu; simp at hu; rcases hu with rfl | rfl | rfl <;> rfl) hb1 HM2.out (by simp; omega) ?_; intro A2 k2 w2 hown hgn)
        go_ret
        rw [HPF.out]
        simp only [List.flatMap_append, List.flatMap_cons, List.flatMap_nil, List.append_nil]
        exact ⟨A2, n1 + 1, k2, rfl, own_low hown hg0.size, hg0.trans (Gr.grown (hg.alloc _) hgn (fun k hk => (HOw.out.lt k hk).1))⟩
end Go.Proofs.YtmgpllakpgjicaaDoor

namespace Go.Proofs.YtmgpllakpgjicaaDoor
open Go.RowKit
set_option linter.unusedVariables false
theorem ltB_ne {a b : List UInt8} (h : ltB a b = true) : (a == b) = false := by
  cases hb : a == b with
  | false => rfl
  | true =>
    have : a = b := by simpa using hb
    rw [this, ltB_irr] at h; cases h
theorem ltB_ne' {a b : List UInt8} (h : ltB a b = true) : (b == a) = false := by
  cases hb : b == a with
  | false => rfl
  | true =>
    have : b = a := by simpa using hb
    rw [this, ltB_irr] at h; cases h
theorem put_done (f : Fl) : ∀ (l acc : List Fl), (∀ x ∈ l, ltB f.1 x.1 = true) → l.foldl (putStep f) (acc, true) = (acc ++ l, true)
  | [], acc, _ => by simp
  | x :: r, acc, h => by
    have h1 := h x (by simp)
    rw [List.foldl_cons]
    have : putStep f (acc, true) x = (acc ++ [x], true) := by unfold putStep; rw [ltB_ne' h1]; rfl
    rw [this, put_done f r _ (fun y hy => h y (by simp [hy]))]
    simp
theorem put_low (f : Fl) : ∀ (l acc : List Fl), (∀ x ∈ l, ltB x.1 f.1 = true) → l.foldl (putStep f) (acc, false) = (acc ++ l, false)
  | [], acc, _ => by simp
  | x :: r, acc, h => by
    have h1 := h x (by simp)
    rw [List.foldl_cons]
    have : putStep f (acc, false) x = (acc ++ [x], false) := by unfold putStep; rw [ltB_ne h1, ltB_asym h1]; rfl
    rw [this, put_low f r _ (fun y hy => h y (by simp [hy]))]
    simp
def putEnd (f : Fl) (st : List Fl × Bool) : List Fl := if st.2 then st.1 else st.1 ++ [f]
theorem put_high (f : Fl) (l acc : List Fl) (h : ∀ x ∈ l, ltB f.1 x.1 = true) : putEnd f (l.foldl (putStep f) (acc, false)) = acc ++ f :: l := by
  cases l with
  | nil => simp [putEnd]
  | cons x r =>
    have h1 := h x (by simp)
    rw [List.foldl_cons]
    have : putStep f (acc, false) x = (acc ++ [f] ++ [x], true) := by unfold putStep; rw [ltB_ne' h1, h1]; rfl
    rw [this, put_done f r _ (fun y hy => h y (by simp [hy]))]
    simp [putEnd]
theorem lb_split (name : List UInt8) : ∀ fs : List Fl, (∀ x ∈ fs.take (lbF name fs), ltB x.1 name = true) ∧ (∀ h : lbF name fs < fs.length, ltB fs[lbF name fs].1 name = false)
  | [] => ⟨fun x hx => by simp at hx, fun h => by simp at h⟩
  | y :: r => by
    obtain ⟨h1, h2⟩ := lb_split name r
    cases hy : ltB y.1 name with
    | true =>
      have e : lbF name (y :: r) = lbF name r + 1 := by unfold lbF; rw [List.takeWhile_cons_of_pos (by simpa using hy)]; rfl
      refine ⟨fun x hx => ?_, fun h => ?_⟩
      · rw [e, List.take_succ_cons] at hx
        rcases List.mem_cons.1 hx with rfl | hx
        · exact hy
        · exact h1 x hx
      · simp only [e, List.getElem_cons_succ]
        exact h2 (by rw [e] at h; simpa using h)
    | false =>
      have e : lbF name (y :: r) = 0 := by unfold lbF; rw [List.takeWhile_cons_of_neg (by simp [hy])]; rfl
      refine ⟨fun x hx => by rw [e] at hx; simp at hx, fun h => ?_⟩
      simp only [e, List.getElem_cons_zero]
      exact hy
theorem put_sorted (f : Fl) (fs : List Fl) (hs : SortedF fs) : putF f fs = if hasF f.1 fs then fs.set (lbF f.1 fs) f else insF (lbF f.1 fs) f fs := by
  have hle := lbF_le f.1 fs
  have hlow := (lb_split f.1 fs).1
  have e : putF f fs = putEnd f ((fs.drop (lbF f.1 fs)).foldl (putStep f) (fs.take (lbF f.1 fs), false)) := by
    show putEnd f (putGo f fs) = _
    unfold putGo
    conv => lhs; rw [← List.take_append_drop (lbF f.1 fs) fs, List.foldl_append]
    rw [put_low f _ [] hlow, List.nil_append]
  rw [e]
  cases hh : hasF f.1 fs with
  | true =>
    obtain ⟨h1, h2⟩ := hasF_lt hs hh
    rw [List.drop_eq_getElem_cons h1, List.foldl_cons]
    have : putStep f (fs.take (lbF f.1 fs), false) fs[lbF f.1 fs] = (fs.take (lbF f.1 fs), false) := by unfold putStep; rw [h2]; simp
    rw [this, put_high f _ _ (fun x hx => ?_), if_pos rfl, List.set_eq_take_append_cons_drop, if_pos h1]
    obtain ⟨m, hm, rfl⟩ := List.getElem_of_mem hx
    rw [List.getElem_drop]
    have := hs.get (i := lbF f.1 fs) (j := lbF f.1 fs + 1 + m) (by simp at hm; omega) (by omega)
    rwa [h2] at this
  | false =>
    rw [put_high f _ _ (fun x hx => ?_), if_neg (by decide)]
    · rfl
    · obtain ⟨m, hm, rfl⟩ := List.getElem_of_mem hx
      rw [List.getElem_drop]
      have hm' : lbF f.1 fs + m < fs.length := by simp at hm; omega
      have h0 : lbF f.1 fs < fs.length := by omega
      have hge : ltB fs[lbF f.1 fs].1 f.1 = false := by
        exact (lb_split f.1 fs).2 h0
      have h3 := hs.above hm' (Nat.le_add_right _ _) hge
      have h4 : (fs[lbF f.1 fs + m].1 == f.1) = false := by
        have := List.any_eq_false.1 hh fs[lbF f.1 fs + m] (List.getElem_mem hm')
        simpa using this
      cases h5 : ltB f.1 fs[lbF f.1 fs + m].1 with
      | true => rfl
      | false =>
        have := ltB_tri _ _ h3 h5
        rw [this] at h4
        simp at h4
end Go.Proofs.YtmgpllakpgjicaaDoor

namespace Go.Proofs.YtmgpllakpgjicaaDoor
open Go.RowKit
set_option linter.unusedVariables false
theorem FRow.take {w : World} {A : Option Addr} {n : Nat} {fs : List Fl} (h : FRow w A n fs) (k : Nat) (hk : k ≤ n) : FRow w A k (fs.take k) := by
  have hl := h.len
  refine ⟨by rw [flat_len fileC 3 (fun _ => rfl), List.length_take]; omega, fun h0 => ?_⟩
  obtain ⟨b, off, e, hc⟩ := Row.at_ h (by omega)
  refine ⟨b, off, e, fun i v hv => hc i v ?_⟩
  rw [← flat_take, List.getElem?_take] at hv
  split at hv
  · exact hv
  · cases hv
theorem FRow.drop {w : World} {b off n : Nat} {fs : List Fl} (h : FRow w (some ⟨b, off, none⟩) n fs) (k : Nat) (hk : k ≤ n) : FRow w (some ⟨b, off + k * 3, none⟩) (n - k) (fs.drop k) := by
  have hl := h.len
  refine ⟨by rw [flat_len fileC 3 (fun _ => rfl), List.length_drop]; omega, fun h0 => ?_⟩
  obtain ⟨b', off', e, hc⟩ := Row.at_ h (by omega)
  injection e with e
  injection e with e1 e2
  subst e1 e2
  refine ⟨b, off + k * 3, rfl, fun i v hv => ?_⟩
  rw [← flat_drop, List.getElem?_drop] at hv
  rw [Nat.add_assoc]
  exact hc _ v hv
theorem FRow.none {w : World} {A : Option Addr} {fs : List Fl} (n : Nat) (h : fs.length ≤ n) : FRow w A 0 (fs.drop n) := by
  rw [List.drop_eq_nil_of_le h]
  exact Row.nil w 3 A
theorem insF_set (i : Nat) (f g : Fl) (fs : List Fl) (h : i ≤ fs.length) : (insF i f fs).set i g = insF i g fs := by
  unfold insF
  rw [List.set_append_right _ _ (by simp; omega)]
  simp [Nat.min_eq_left h]
theorem erase_flat (fs : List Fl) (k : Nat) : (fs.take k).flatMap fileC ++ (fs.drop (k + 1)).flatMap fileC = (fs.eraseIdx k).flatMap fileC := by
  rw [List.eraseIdx_eq_take_drop_succ, List.flatMap_append]
theorem do_end {w w6 : World} {B q p n' c' : Nat} {A' : Option Addr} {R : List Fl} {cs : Array Value} (hg : Gr w w6) (hwp : w.heap.size ≤ p + 1) (hwq : w.heap.size ≤ q) (hb : Blk w6 (p + 1) 43 #[.slice none 0 0, .int .i64 0]) (hq : Blk w6 q 43 cs) (hpq : p + 1 ≠ q)
    (ho : w6.ownsRow B 89 3 (.slice A' n' c') n' (R.flatMap fileC)) (hB : w.heap.size ≤ B) (u : Int) (v : Value) :
    Blk (((w6.setCell ⟨q, 0, none⟩ v).setCell ⟨p + 1, 0, none⟩ (.slice A' n' c')).setCell ⟨p + 1, 1, none⟩ (.int .i64 u)) (p + 1) 43 #[.slice A' n' c', .int .i64 u] ∧
    Gr w (((w6.setCell ⟨q, 0, none⟩ v).setCell ⟨p + 1, 0, none⟩ (.slice A' n' c')).setCell ⟨p + 1, 1, none⟩ (.int .i64 u)) ∧
    (((w6.setCell ⟨q, 0, none⟩ v).setCell ⟨p + 1, 0, none⟩ (.slice A' n' c')).setCell ⟨p + 1, 1, none⟩ (.int .i64 u)).ownsRow w.heap.size 89 3 (.slice A' n' c') n' (R.flatMap fileC) ∧ (A' = none → n' = 0 ∧ c' = 0) := by
  have h1 := own_blk_ne ho hb (by decide)
  have h2 := own_blk_ne ho hq (by decide)
  exact ⟨((hb.far (p := ⟨q, 0, none⟩) hpq v).set_ 0 _).set_ 1 _, ((hg.setCell (p := ⟨q, 0, none⟩) hwq v).setCell (p := ⟨p + 1, 0, none⟩) hwp _).setCell (p := ⟨p + 1, 1, none⟩) hwp _,
    own_low (ownsRow_setCell_other (ownsRow_setCell_other (ownsRow_setCell_other ho (a := ⟨q, 0, none⟩) h2 _) (a := ⟨p + 1, 0, none⟩) h1 _) (a := ⟨p + 1, 1, none⟩) h1 _) hB, own_none ho⟩
end Go.Proofs.YtmgpllakpgjicaaDoor

namespace Go.Proofs.YtmgpllakpgjicaaDoor
open Go.RowKit
set_option linter.unusedVariables false
/-- P6.3 within the power -/
def syF (name : List UInt8) (fs : List Fl) : List Fl × Int :=
  if hasF name fs then
    (fs.set (lbF name fs) ((fs.getD (lbF name fs) ([], [], [])).1, (fs.getD (lbF name fs) ([], [], [])).2.1 ++ (fs.getD (lbF name fs) ([], [], [])).2.2, []), 0)
  else (fs, 7)

set_option maxRecDepth 100000 in
set_option maxHeartbeats 4000000 in
theorem sync1_any (name : List UInt8) (c1 : Nat) (w0 : World) (h1 : w0.cell? ⟨c1, 0, none⟩ = some (.string (bs name))) :
    Steps 118 #[.pointer (some ⟨c1, 0, none⟩)] (syF name) w0 := by
  intro wb w q A n cap u fs g0 gc hd hgf
  show Calls Tryd.prog 118 #[.pointer (some ⟨q, 0, none⟩), .pointer (some ⟨c1, 0, none⟩)] w _
  have hl := hd.len
  have hl400 : fs.length ≤ 400 := goodFs_len hgf
  have e1 : w.cell? ⟨c1, 0, none⟩ = some (.string (bs name)) := ((g0.trans gc).cells.1 c1 _ (World.block_lt_of_cell? w0 _ h1)).trans h1
  have HD := sec hd
  have HS := sec (goodFs_sorted hgf)
  have HGC := sec gc
  have HGF := sec hgf
  have d0 : w.cell? ⟨q, 0, none⟩ = some (.slice A n cap) := hd.blk.cell 0
  have d1 : w.cell? ⟨q, 1, none⟩ = some (.int .i64 u) := hd.blk.cell 1
  clear h1 g0 gc hd hgf
  obtain ⟨k, hk⟩ : ∃ k, k = lbF name fs := ⟨_, rfl⟩
  have HK := sec hk
  clear hk
  cases hB : hasF name fs with
  | false =>
    have HR : Sec (syF name fs = (fs, 7)) := sec (by unfold syF; rw [hB]; rfl)
    have HB := sec hB
    clear hB
    go_enter Tryd.func118, Tryd.ntmps118
    go_upto_region 1 with fail
    go_cut [4, 5] from 7 to 37 (fun v5 v6 wx => v5 = .int .i64 (k : Int) ∧ v6 = .bool false ∧ Gr w wx)
    case first =>
      go_region_with (go_at_call 86; refine (find_any fs name A n cap u w.drew (by omega) (FRow.gr (Row.own HD.out.own) (Gr.refl _).drew) HS.out).mono ?_; rw [← HK.out, HB.out]; rintro e w2 ⟨rfl, g2⟩)
      all_goals (go_wp2_with fail; go_meet; exact ⟨rfl, rfl, Gr.trans (Gr.refl _).drew g2⟩)
    case rest =>
      obtain ⟨rfl, rfl, gx⟩ := hcut
      go_wp2_with fail
      go_ret
      rw [HR.out]
      exact ⟨rfl, HGC.out.trans gx, fun h => by cases h⟩
  | true =>
    have hX := hasF_lt HS.out hB
    rw [← HK.out] at hX
    obtain ⟨hkl, hnm⟩ := hX
    have HB := sec hB
    clear hB
    go_enter Tryd.func118, Tryd.ntmps118
    go_upto_region 1 with fail
    go_cut [4, 5] from 7 to 37 (fun v5 v6 wx => v5 = .int .i64 (k : Int) ∧ v6 = .bool true ∧ Gr w wx)
    case first =>
      go_region_with (go_at_call 86; refine (find_any fs name A n cap u w.drew (by omega) (FRow.gr (Row.own HD.out.own) (Gr.refl _).drew) HS.out).mono ?_; rw [← HK.out, HB.out]; rintro e w2 ⟨rfl, g2⟩)
      all_goals (go_wp2_with fail; go_meet; exact ⟨rfl, rfl, Gr.trans (Gr.refl _).drew g2⟩)
    case rest =>
      obtain ⟨rfl, rfl, gx⟩ := hcut
      have HDz := sec (HD.out.gr gx)
      have gz : Gr wb wc := HGC.out.trans gx
      clear d0 d1 e1 HD gx
      have hk2 : (k : Int) < (n : Int) := by omega
      obtain ⟨b, rfl, hBb, hbq, z0, z1, z2, zf⟩ := HDz.out.at hkl
      have zf1 : wc.frozen? ⟨b, k * 3 + 1, none⟩ = false := zf 1 (by omega)
      have zf2 : wc.frozen? ⟨b, k * 3 + 2, none⟩ = false := zf 2 (by omega)
      have hget : fs[k]? = some fs[k] := List.getElem?_eq_getElem hkl
      have hgd : fs.getD (lbF name fs) ([], [], []) = fs[k] := by
        rw [← HK.out, List.getD_eq_getElem?_getD, hget]; rfl
      have hsz := goodFs_ok HGF.out fs[k] (List.getElem_mem hkl)
      obtain ⟨x, hxx⟩ : ∃ x, x = fs[k] := ⟨_, rfl⟩
      rw [← hxx] at z0 z1 z2 hget hgd hsz
      clear hxx hnm hkl zf
      obtain ⟨nm, sf, tl⟩ := x
      simp only at z0 z1 z2 hsz
      obtain ⟨_, hz1, hz2⟩ := hsz
      have d0z : wc.cell? ⟨q, 0, none⟩ = some (.slice (some ⟨b, 0, none⟩) n cap) := HDz.out.blk.cell 0
      have HR : Sec (syF name fs = (fs.set k (nm, sf ++ tl, []), 0)) := sec (by
        unfold syF; rw [HB.out, if_pos rfl, hgd, ← HK.out])
      have HDF : Sec (∀ W, Gr wc W → DOwn ((W.setCell ⟨b, k * 3 + 1, none⟩ (.string (bs (sf ++ tl)))).setCell ⟨b, k * 3 + 2, none⟩ (.string (bs []))) wb.heap.size q (some ⟨b, 0, none⟩) n cap u (fs.set k (nm, sf ++ tl, []))) := sec (fun W g =>
        ⟨((HDz.out.gr g).blk.far (p := ⟨b, k * 3 + 1, none⟩) (Ne.symm hbq) _).far (p := ⟨b, k * 3 + 2, none⟩) (Ne.symm hbq) _, own_file2 (HDz.out.gr g).own k nm sf tl (sf ++ tl) [] hget, HDz.out.base⟩)
      have HGS : Sec (∀ W, Gr wc W → Gr wb ((W.setCell ⟨b, k * 3 + 1, none⟩ (.string (bs (sf ++ tl)))).setCell ⟨b, k * 3 + 2, none⟩ (.string (bs [])))) := sec (fun W g => ((gz.trans g).setCell (p := ⟨b, k * 3 + 1, none⟩) hBb _).setCell (p := ⟨b, k * 3 + 2, none⟩) hBb _)
      clear hget hgd
      go_wp2_with fail
      go_region
      go_wp2_with fail
      go_ret
      rw [HR.out]
      exact ⟨rfl, (HGS.out _ (Gr.refl _)).drew, fun _ => ⟨_, _, _, (HDF.out _ (Gr.refl _)).gr (Gr.refl _).drew⟩⟩

set_option maxRecDepth 100000 in
set_option maxHeartbeats 4000000 in
theorem sync_any (name : List UInt8) (fs : List Fl) (A : Option Addr) (n cap : Nat) (f : Int) (w : World) (hn : n ≤ 1099511627776) (hx : FRow w A n fs) (hA : A = none → n = 0 ∧ cap = 0) (hs : ∀ f ∈ fs, f.1.length ≤ 1099511627776 ∧ f.2.1.length ≤ 1099511627776 ∧ f.2.2.length ≤ 1099511627776)
    (hf : -9223372036854775808 ≤ f ∧ f ≤ 9223372036854775807) :
    Calls Tryd.prog 89 #[diskV A n cap f, .string (bs name)] w (StepPost (stepR (syF name) fs f) A n cap fs w) := by
  have g1 := (Gr.refl w).alloc (.cells #[.slice A n cap, .int .i64 f] 43)
  have g2 := g1.alloc (.cells #[.string (bs name)] 9)
  have g4 := g2.alloc (.cells #[.slice none 0 0, .int .i64 0] 43)
  have b1 := ((Blk.new w 43 #[.slice A n cap, .int .i64 f]).alloc (.cells #[.string (bs name)] 9)).alloc (.cells #[.slice none 0 0, .int .i64 0] 43)
  have b2 := (Blk.new1 w (.cells #[.slice A n cap, .int .i64 f] 43) 9 #[.string (bs name)]).alloc (.cells #[.slice none 0 0, .int .i64 0] 43)
  have b4 := Blk.newAt (w := ((w.alloc (.cells #[.slice A n cap, .int .i64 f] 43)).alloc (.cells #[.string (bs name)] 9))) (g := w.heap.size + 1 + 1) (by simp) 43 #[.slice none 0 0, .int .i64 0]
  obtain ⟨wa, hwa⟩ : ∃ x, x = (((w.alloc (.cells #[.slice A n cap, .int .i64 f] 43)).alloc (.cells #[.string (bs name)] 9))).alloc (.cells #[.slice none 0 0, .int .i64 0] 43) := ⟨_, rfl⟩
  rw [← hwa] at b1 b2 b4 g4
  obtain ⟨p, hp⟩ : ∃ p, p = w.heap.size := ⟨_, rfl⟩
  have hwp : w.heap.size ≤ p := by omega
  rw [← hp] at b1 b2 b4
  have c0 : wa.cell? ⟨p, 0, none⟩ = some (.slice A n cap) := b1.cell 0
  have c1 : wa.cell? ⟨p, 1, none⟩ = some (.int .i64 f) := b1.cell 1
  have HS := sec (step_any 118 #[.pointer (some ⟨p + 1, 0, none⟩)] (syF name) (enters_own Tryd.func118 (by kernel_rfl) rfl) fs A n cap f wa hn (hx.gr g4) hA hs hf (sync1_any name (p + 1) wa (b2.cell 0)))
  have HB4 := sec b4
  have HG4 := sec g4
  clear hx hA hs g1 g2 g4 b1 b2 b4
  unfold diskV at HS
  unfold diskV
  have hmf : ∀ (fn : Fn) (first cap : Array Value) (w : World), (Instr.makeFunc fn first cap).run Tryd.prog w = .ok (.func fn first cap) w := fun _ _ _ _ => rfl
  obtain ⟨R, hR⟩ : ∃ R, R = stepR (syF name) fs f := ⟨_, rfl⟩
  rw [← hR] at HS
  rw [← hR]
  clear hR
  obtain ⟨fs', f', er⟩ := R
  go_enter Tryd.func89, Tryd.ntmps89
  go_wp2_with (first | (rw [← hwa, ← hp]; clear hwa hp; go_wp2_with fail) | (go_at_call 113; refine Calls.mono HS.out ?_; rintro e w5 ⟨A', n', cap', rfl, g5, hA', hrow⟩;  unfold diskV; have d0 : w5.cell? ⟨p + 1 + 1, 0, none⟩ = some (.slice none 0 0) := (HB4.out.gr g5).cell 0; have d1 : w5.cell? ⟨p + 1 + 1, 1, none⟩ = some (.int .i64 0) := (HB4.out.gr g5).cell 1; have f0 : w5.frozen? ⟨p + 1 + 1, 0, none⟩ = false := (HB4.out.gr g5).frozen 0; have f1 : w5.frozen? ⟨p + 1 + 1, 1, none⟩ = false := (HB4.out.gr g5).frozen 1))
  refine bodyPost_ret (results_blk_tmp rfl _ rfl (((HB4.out.gr g5).set_ 0 (.slice A' n' cap')).set_ 1 (.int .i64 f')) aggDisk) rfl ?_
  have hfin := StepPost.set2 (r := (fs', f', er)) (p := p + 1 + 1) HG4.out HB4.out.lt (by omega) g5 (.slice A' n' cap') (.int .i64 f') hrow
  exact ⟨A', n', cap', rfl, hfin.1, hA', hfin.2⟩
end Go.Proofs.YtmgpllakpgjicaaDoor

namespace Go.Proofs.YtmgpllakpgjicaaDoor
open Go.RowKit
set_option linter.unusedVariables false
set_option maxRecDepth 100000 in
set_option maxHeartbeats 4000000 in
theorem do2_any (name s : List UInt8) (fs : List Fl) (A : Option Addr) (n cap : Nat) (f : Int) (w : World) (hn : n ≤ 1099511627776) (hnc : n ≤ cap) (hx : FRow w A n fs) (hA : A = none → n = 0 ∧ cap = 0) (hs : ∀ f ∈ fs, f.1.length ≤ 1099511627776 ∧ f.2.1.length ≤ 1099511627776 ∧ f.2.2.length ≤ 1099511627776)
    (hf : -9223372036854775808 ≤ f ∧ f ≤ 9223372036854775807) (hl1 : name.length ≤ 1099511627776) (hl2 : s.length ≤ 1099511627776) :
    Calls Tryd.prog 95 #[.int .i64 2, diskV A n cap f, .string (bs name), .string (bs s)] w (StepPost (stepR (rnF name s) fs f) A n cap fs w) := by
  have hg0 := ((Gr.refl w).alloc (.cells #[.slice A n cap, .int .i64 f] 43)).alloc (.cells #[.slice none 0 0, .int .i64 0] 43)
  have hb1 := (Blk.new w 43 #[.slice A n cap, .int .i64 f]).alloc (.cells #[.slice none 0 0, .int .i64 0] 43)
  have hb2 := Blk.new1 w (.cells #[.slice A n cap, .int .i64 f] 43) 43 #[.slice none 0 0, .int .i64 0]
  have HG := sec (drgood_any fs A n cap f _ hn (hx.gr hg0) hs)
  have hl := hx.len
  have HX := sec (hx.gr hg0)
  obtain ⟨wa, hwa⟩ : ∃ x, x = (w.alloc (.cells #[.slice A n cap, .int .i64 f] 43)).alloc (.cells #[.slice none 0 0, .int .i64 0] 43) := ⟨_, rfl⟩
  rw [← hwa] at hg0 hb1 hb2 HG HX
  obtain ⟨p, hp⟩ : ∃ p, p = w.heap.size := ⟨_, rfl⟩
  have hwp : w.heap.size ≤ p := by omega
  rw [← hp] at hb1 hb2
  have c0 : wa.cell? ⟨p, 0, none⟩ = some (.slice A n cap) := hb1.cell 0
  have c1 : wa.cell? ⟨p, 1, none⟩ = some (.int .i64 f) := hb1.cell 1
  have HB := sec hb1
  have HR2 := sec hb2
  have HX0 := sec hx
  have HA := sec hA
  clear hb1 hb2 hs hx
  unfold diskV at HG
  unfold diskV
  have HW : Sec (∀ w1, Gr wa w1 → Blk ((w1.setCell ⟨p + 1, 0, none⟩ (.slice A n cap)).setCell ⟨p + 1, 1, none⟩ (.int .i64 f)) (p + 1) 43 #[.slice A n cap, .int .i64 f]) := sec fun w1 g1 => ((HR2.out.gr g1).set_ 0 (.slice A n cap)).set_ 1 (.int .i64 f)
  have HV : Sec (∀ w1, Gr wa w1 → Gr w ((w1.setCell ⟨p + 1, 0, none⟩ (.slice A n cap)).setCell ⟨p + 1, 1, none⟩ (.int .i64 f))) := sec fun w1 g1 => ((hg0.trans g1).setCell (p := ⟨p + 1, 0, none⟩) (by show w.heap.size ≤ p + 1; omega) _).setCell (p := ⟨p + 1, 1, none⟩) (by show w.heap.size ≤ p + 1; omega) _
  cases hgf : goodFs fs with
  | false =>
    have HR : Sec (stepR (rnF name s) fs f = (fs, f, 3)) := sec (by unfold stepR; rw [hgf]; rfl)
    rw [HR.out]
    rw [hgf] at HG
    clear hgf
    go_enter Tryd.func95, Tryd.ntmps95
    go_wp2_with (first | (rw [← hwa, ← hp]; clear hwa hp; go_wp2_with fail) | (go_at_call 92; refine Calls.mono HG.out ?_; rintro e w1 ⟨rfl, g1⟩; have c0y : w1.cell? ⟨p, 0, none⟩ = some (.slice A n cap) := (HB.out.gr g1).cell 0; have c1y : w1.cell? ⟨p, 1, none⟩ = some (.int .i64 f) := (HB.out.gr g1).cell 1; have d20 : w1.cell? ⟨p + 1, 0, none⟩ = some (.slice none 0 0) := (HR2.out.gr g1).cell 0; have d21 : w1.cell? ⟨p + 1, 1, none⟩ = some (.int .i64 0) := (HR2.out.gr g1).cell 1; have f20 : w1.frozen? ⟨p + 1, 0, none⟩ = false := (HR2.out.gr g1).frozen 0; have f21 : w1.frozen? ⟨p + 1, 1, none⟩ = false := (HR2.out.gr g1).frozen 1))
    refine bodyPost_ret (results_blk_tmp rfl _ rfl (HW.out w1 g1) aggDisk) rfl ?_
    exact ⟨A, n, cap, rfl, HV.out w1 g1, HA.out, .inl ⟨rfl, rfl, rfl, rfl⟩⟩
  | true =>
    rw [hgf] at HG
    by_cases hf0 : f = 0
    · have HR : Sec (stepR (rnF name s) fs f = (fs, f, 12)) := sec (by unfold stepR; rw [hgf, hf0]; rfl)
      rw [HR.out]
      clear hgf
      subst hf0
      go_enter Tryd.func95, Tryd.ntmps95
      go_wp2_with (first | (rw [← hwa, ← hp]; clear hwa hp; go_wp2_with fail) | (go_at_call 92; refine Calls.mono HG.out ?_; rintro e w1 ⟨rfl, g1⟩; have c0y : w1.cell? ⟨p, 0, none⟩ = some (.slice A n cap) := (HB.out.gr g1).cell 0; have c1y : w1.cell? ⟨p, 1, none⟩ = some (.int .i64 0) := (HB.out.gr g1).cell 1; have d20 : w1.cell? ⟨p + 1, 0, none⟩ = some (.slice none 0 0) := (HR2.out.gr g1).cell 0; have d21 : w1.cell? ⟨p + 1, 1, none⟩ = some (.int .i64 0) := (HR2.out.gr g1).cell 1; have f20 : w1.frozen? ⟨p + 1, 0, none⟩ = false := (HR2.out.gr g1).frozen 0; have f21 : w1.frozen? ⟨p + 1, 1, none⟩ = false := (HR2.out.gr g1).frozen 1))
      refine bodyPost_ret (results_blk_tmp rfl _ rfl (HW.out w1 g1) aggDisk) rfl ?_
      exact ⟨A, n, cap, rfl, HV.out w1 g1, HA.out, .inl ⟨rfl, rfl, rfl, rfl⟩⟩
    · have HGF := sec hgf
      have HF0 := sec hf0
      have HSO := sec (goodFs_sorted hgf)
      have hl400 : n ≤ 400 := by have := goodFs_len hgf; omega
      clear hgf
      obtain ⟨u, hu⟩ : ∃ u, u = (if 0 < f then f - 1 else f) := ⟨_, rfl⟩
      have HU := sec hu
      clear hu
      have HERR : Sec (∀ E, (rnF name s fs).2 = E → E ≠ 0 → stepR (rnF name s) fs f = (fs, f, E)) := sec (fun E h h0 => by unfold stepR; rw [HGF.out, if_pos rfl, if_neg HF0.out, if_neg (by rw [h]; exact h0), h])
      have HOK : Sec (∀ R, (rnF name s fs) = (R, 0) → stepR (rnF name s) fs f = (R, u, 0)) := sec (fun R h => by unfold stepR; rw [HGF.out, if_pos rfl, if_neg HF0.out, if_pos (by rw [h]), h, HU.out])
      go_enter Tryd.func95, Tryd.ntmps95
      go_upto_if 27 with (first | (rw [← hwa, ← hp]; clear hwa hp; go_wp2_with fail) | (go_at_call 92; refine Calls.mono HG.out ?_; rintro e w1 ⟨rfl, g1⟩; have c0y : w1.cell? ⟨p, 0, none⟩ = some (.slice A n cap) := (HB.out.gr g1).cell 0; have c1y : w1.cell? ⟨p, 1, none⟩ = some (.int .i64 f) := (HB.out.gr g1).cell 1) | (go_at_call 22; refine Calls.mono (copyDisk_any fs A n cap f w1 hn (HX.out.gr g1) HA.out) ?_; unfold diskV; rintro e w2 ⟨A1, cap1, rfl, ho, hA1, g2⟩))
      have hqb := Blk.new w2 43 #[.slice A1 n cap1, .int .i64 f]
      have hoq := own_gr ho ((Gr.refl w2).alloc (.cells #[.slice A1 n cap1, .int .i64 f] 43))
      have gq := g2.alloc (.cells #[.slice A1 n cap1, .int .i64 f] 43)
      obtain ⟨wq, hwq⟩ : ∃ x, x = w2.alloc (.cells #[.slice A1 n cap1, .int .i64 f] 43) := ⟨_, rfl⟩
      obtain ⟨q, hq⟩ : ∃ q, q = w2.heap.size := ⟨_, rfl⟩
      have hq1 : w1.heap.size ≤ q := by have := g2.size; omega
      rw [← hwq] at hqb hoq gq
      rw [← hq] at hqb
      rw [← hwq, ← hq]
      have HDQ : Sec (DOwn wq w1.heap.size q A1 n cap1 f fs) := sec ⟨hqb, hoq, hq1⟩
      have HG1 := sec g1
      have hpq : p + 1 < w1.heap.size := (HR2.out.gr g1).lt
      clear hwq hq hqb hoq ho g2 hA1
      have dq0 : wq.cell? ⟨q, 0, none⟩ = some (.slice A1 n cap1) := HDQ.out.blk.cell 0
      have dq1 : wq.cell? ⟨q, 1, none⟩ = some (.int .i64 f) := HDQ.out.blk.cell 1
      have fq1 : wq.frozen? ⟨q, 1, none⟩ = false := HDQ.out.blk.frozen 1
      go_cut [] from 28 to 144 (fun wx => Sec (DOwn wx w1.heap.size q A1 n cap1 u fs) ∧ Gr w1 wx)
      case first =>
        by_cases hpos : 0 < f
        · have hwr : IntKind.i64.wrap (f - 1) = f - 1 := IntWalk.i64_in _ (by omega)
          have hu : u = f - 1 := by rw [HU.out, if_pos hpos]
          go_wp2_with fail
          go_meet
          rw [hu]
          exact ⟨sec ⟨HDQ.out.blk.set_ 1 _, ownsRow_setCell_other HDQ.out.own (a := ⟨q, 1, none⟩) HDQ.out.ne _, HDQ.out.base⟩, gq.setCell (p := ⟨q, 1, none⟩) hq1 _⟩
        · have hu : u = f := by rw [HU.out, if_neg hpos]
          go_wp2_with fail
          go_meet
          rw [hu]
          exact ⟨HDQ, gq⟩
      case rest =>
        obtain ⟨HDC, gc⟩ := hcut
        clear dq0 dq1 fq1 c0y c1y HDQ gq g1
        have c0y : wc.cell? ⟨p, 0, none⟩ = some (.slice A n cap) := (HB.out.gr (HG1.out.trans gc)).cell 0
        have c1y : wc.cell? ⟨p, 1, none⟩ = some (.int .i64 f) := (HB.out.gr (HG1.out.trans gc)).cell 1
        go_upto_region 9 with (go_at_call 94; refine Calls.mono (at_any fs name A n cap f wc hn (HX.out.gr (HG1.out.trans gc)) HSO.out) ?_; rintro e w4 ⟨rfl, g4⟩)
        have gg4 : Gr w1 w4 := gc.trans g4
        have HD4 := sec (HDC.out.gr g4)
        have HG4 := sec (HG1.out.trans gg4)
        have HGG4 := sec gg4
        clear c0y c1y gc g4 HDC HG1
        have c04 : w4.cell? ⟨p, 0, none⟩ = some (.slice A n cap) := (HB.out.gr HG4.out).cell 0
        have c14 : w4.cell? ⟨p, 1, none⟩ = some (.int .i64 f) := (HB.out.gr HG4.out).cell 1
        have d20 : w4.cell? ⟨p + 1, 0, none⟩ = some (.slice none 0 0) := (HR2.out.gr HG4.out).cell 0
        have d21 : w4.cell? ⟨p + 1, 1, none⟩ = some (.int .i64 0) := (HR2.out.gr HG4.out).cell 1
        have f20 : w4.frozen? ⟨p + 1, 0, none⟩ = false := (HR2.out.gr HG4.out).frozen 0
        have f21 : w4.frozen? ⟨p + 1, 1, none⟩ = false := (HR2.out.gr HG4.out).frozen 1
        have q04 : w4.cell? ⟨q, 0, none⟩ = some (.slice A1 n cap1) := HD4.out.blk.cell 0
        have q14 : w4.cell? ⟨q, 1, none⟩ = some (.int .i64 u) := HD4.out.blk.cell 1
        have fq4 : w4.frozen? ⟨q, 0, none⟩ = false := HD4.out.blk.frozen 0
        have HN := sec (fun w => fileName_any s w (by omega))
        have hpq1 : p + 1 ≠ q := by omega
        cases hnb : namedB s with
        | false =>
          have HR := sec (HERR.out 2 (by unfold rnF; rw [hnb]; rfl) (by decide))
          rw [hnb] at HN
          clear hnb
          go_wp2_with (go_at_call 93; refine (HN.out _).mono ?_; rintro e w5 ⟨rfl, g5⟩; have c05 : w5.cell? ⟨p, 0, none⟩ = some (.slice A n cap) := (HB.out.gr (HG4.out.trans g5)).cell 0; have c15 : w5.cell? ⟨p, 1, none⟩ = some (.int .i64 f) := (HB.out.gr (HG4.out.trans g5)).cell 1; have d205 : w5.cell? ⟨p + 1, 0, none⟩ = some (.slice none 0 0) := (HR2.out.gr (HG4.out.trans g5)).cell 0; have d215 : w5.cell? ⟨p + 1, 1, none⟩ = some (.int .i64 0) := (HR2.out.gr (HG4.out.trans g5)).cell 1; have f205 : w5.frozen? ⟨p + 1, 0, none⟩ = false := (HR2.out.gr (HG4.out.trans g5)).frozen 0; have f215 : w5.frozen? ⟨p + 1, 1, none⟩ = false := (HR2.out.gr (HG4.out.trans g5)).frozen 1)
          refine bodyPost_ret (results_blk_tmp rfl _ rfl (HW.out w5 (HG4.out.trans g5)) aggDisk) rfl ?_
          rw [HR.out]
          exact ⟨A, n, cap, rfl, HV.out w5 (HG4.out.trans g5), HA.out, .inl ⟨rfl, rfl, rfl, rfl⟩⟩
        | true =>
          rw [hnb] at HN
          have HNB := sec hnb
          clear hnb
          cases hhf : hasF name fs with
          | false =>
            have hai : atI name fs = -1 := by unfold atI; rw [hhf]; rfl
            have HR := sec (HERR.out 7 (by unfold rnF; rw [HNB.out, if_pos rfl, hhf]; rfl) (by decide))
            rw [hai]
            clear hhf hai
            go_wp2_with (go_at_call 93; refine (HN.out _).mono ?_; rintro e w5 ⟨rfl, g5⟩; have c05 : w5.cell? ⟨p, 0, none⟩ = some (.slice A n cap) := (HB.out.gr (HG4.out.trans g5)).cell 0; have c15 : w5.cell? ⟨p, 1, none⟩ = some (.int .i64 f) := (HB.out.gr (HG4.out.trans g5)).cell 1; have d205 : w5.cell? ⟨p + 1, 0, none⟩ = some (.slice none 0 0) := (HR2.out.gr (HG4.out.trans g5)).cell 0; have d215 : w5.cell? ⟨p + 1, 1, none⟩ = some (.int .i64 0) := (HR2.out.gr (HG4.out.trans g5)).cell 1; have f205 : w5.frozen? ⟨p + 1, 0, none⟩ = false := (HR2.out.gr (HG4.out.trans g5)).frozen 0; have f215 : w5.frozen? ⟨p + 1, 1, none⟩ = false := (HR2.out.gr (HG4.out.trans g5)).frozen 1)
            refine bodyPost_ret (results_blk_tmp rfl _ rfl (HW.out w5 (HG4.out.trans g5)) aggDisk) rfl ?_
            rw [HR.out]
            exact ⟨A, n, cap, rfl, HV.out w5 (HG4.out.trans g5), HA.out, .inl ⟨rfl, rfl, rfl, rfl⟩⟩
          | true =>
            have hlt := hasF_lt HSO.out hhf
            obtain ⟨k, hk⟩ : ∃ k, k = lbF name fs := ⟨_, rfl⟩
            have hai : atI name fs = k := by unfold atI; rw [hhf, hk]; rfl
            rw [← hk] at hlt
            obtain ⟨hkf, hnm⟩ := hlt
            rw [hai]
            have hgd : fs.getD (lbF name fs) ([], [], []) = fs[k] := by
              rw [← hk, List.getD_eq_getElem?_getD, List.getElem?_eq_getElem hkf]; rfl
            obtain ⟨b, off, rfl, e0, e1, e2⟩ := (HX.out.gr HG4.out).cell hkf
            have E0 : Sec (∀ W, Gr w4 W → W.cell? ⟨b, off + k * 3, none⟩ = some (.string (bs fs[k].1)) ∧ W.cell? ⟨b, off + k * 3 + 1, none⟩ = some (.string (bs fs[k].2.1)) ∧ W.cell? ⟨b, off + k * 3 + 2, none⟩ = some (.string (bs fs[k].2.2))) := sec (fun W g => ⟨(g.cells.1 b _ (World.block_lt_of_cell? w4 _ e0)).trans e0, (g.cells.1 b _ (World.block_lt_of_cell? w4 _ e0)).trans e1, (g.cells.1 b _ (World.block_lt_of_cell? w4 _ e0)).trans e2⟩)
            obtain ⟨x, hxx⟩ : ∃ x, x = fs[k] := ⟨_, rfl⟩
            rw [← hxx] at E0 hgd hnm
            obtain ⟨nm, sf, tl⟩ := x
            simp only at E0
            have HR := sec (HOK.out (putF (s, sf, tl) (fs.eraseIdx k)) (by
              unfold rnF; rw [HNB.out, if_pos rfl, hhf, if_pos rfl, hgd, ← hk, put_sorted _ _ (HSO.out.erase k)]; rfl))
            have hkn : k < n := by omega
            have hkn1 : (k : Int) < (n : Int) := by omega
            have hwk : IntKind.i64.wrap ((k : Int) + 1) = (k : Int) + 1 := IntWalk.i64_in _ (by omega)
            have hc1 : (k : Int) ≤ (cap : Int) := by omega
            clear hai hk hhf hxx hkf hgd hnm e0 e1 e2
            have HR1 : Sec (∀ W, Gr w4 W → Row W 3 (some ⟨b, off, none⟩) k ((fs.take k).flatMap fileC)) := sec (fun W g => (HX.out.gr (HG4.out.trans g)).take k (by omega))
            have HM1 : Sec (0 + k ≤ maxLen) := sec (Nat.le_trans (show 0 + k ≤ 4096 by omega) (by decide))
            have HM2 : Sec (0 + k + (n - (k + 1)) ≤ maxLen) := sec (Nat.le_trans (show 0 + k + (n - (k + 1)) ≤ 4096 by omega) (by decide))
            have hb10 : (k : Int) ≤ (k : Int) + 1 := by omega
            have hk0 : (0 : Int) ≤ (k : Int) + 1 := by omega
            have hk3 : (k : Int) + 1 ≤ (n : Int) := by omega
            have hk4 : (n : Int) ≤ (cap : Int) := by omega
            have hkt : ((k : Int) + 1).toNat = k + 1 := by omega
            go_upto_region 36 with (go_at_call 93; refine (HN.out _).mono ?_; rintro e w5 ⟨rfl, g5⟩; have c05 : w5.cell? ⟨p, 0, none⟩ = some (.slice (some ⟨b, off, none⟩) n cap) := (HB.out.gr (HG4.out.trans g5)).cell 0; have c15 : w5.cell? ⟨p, 1, none⟩ = some (.int .i64 f) := (HB.out.gr (HG4.out.trans g5)).cell 1; have d205 : w5.cell? ⟨p + 1, 0, none⟩ = some (.slice none 0 0) := (HR2.out.gr (HG4.out.trans g5)).cell 0; have d215 : w5.cell? ⟨p + 1, 1, none⟩ = some (.int .i64 0) := (HR2.out.gr (HG4.out.trans g5)).cell 1; have f205 : w5.frozen? ⟨p + 1, 0, none⟩ = false := (HR2.out.gr (HG4.out.trans g5)).frozen 0; have f215 : w5.frozen? ⟨p + 1, 1, none⟩ = false := (HR2.out.gr (HG4.out.trans g5)).frozen 1; have e0w := (E0.out _ g5).1; have e1w := (E0.out _ g5).2.1; have e2w := (E0.out _ g5).2.2)
            have gv : Gr w4 (w5.alloc (.cells #[.string (bs nm), .string (bs sf), .string (bs tl)] 89)) := g5.alloc _
            have hfb := Blk.new w5 89 #[.string (bs nm), .string (bs sf), .string (bs tl)]
            obtain ⟨wv, hwv⟩ : ∃ x, x = w5.alloc (.cells #[.string (bs nm), .string (bs sf), .string (bs tl)] 89) := ⟨_, rfl⟩
            obtain ⟨r, hr⟩ : ∃ r, r = w5.heap.size := ⟨_, rfl⟩
            rw [← hwv] at gv hfb
            rw [← hr] at hfb
            rw [← hwv, ← hr]
            have HFB := sec hfb
            have HDV := sec (HD4.out.gr gv)
            have HGV := sec (HG4.out.trans gv)
            have hqr : q ≠ r := by have := (HD4.out.gr g5).blk.lt; omega
            have hrq : r ≠ q := Ne.symm hqr
            have hpr : p + 1 ≠ r := by have := (HR2.out.gr (HG4.out.trans g5)).lt; omega
            have hrv : r < wv.heap.size := hfb.lt
            have hwr4 : w.heap.size ≤ r := by have := (hg0.trans (HG4.out.trans g5)).size; omega
            have HR1v : Sec (∀ W, Gr wv W → Row W 3 (some ⟨b, off, none⟩) k ((fs.take k).flatMap fileC)) := sec (fun W g => HR1.out W (gv.trans g))
            have c0v : wv.cell? ⟨p, 0, none⟩ = some (.slice (some ⟨b, off, none⟩) n cap) := (HB.out.gr HGV.out).cell 0
            have q0v : wv.cell? ⟨q, 0, none⟩ = some (.slice A1 n cap1) := HDV.out.blk.cell 0
            have HER : Sec ((fs.eraseIdx k).length ≤ 1099511627776) := sec (by have := (List.eraseIdx_sublist fs k).length_le; omega)
            have HPU0 : Sec (∀ (A6 : Option Addr) (N k6 : Nat) (w6 : World), Gr wv w6 → w6.ownsRow wv.heap.size 89 3 (.slice A6 N k6) N ((fs.eraseIdx k).flatMap fileC) →
              Calls Tryd.prog 120 #[.slice A6 N k6, .agg #[.string (bs s), .string (bs sf), .string (bs tl)]] ((w6.setCell ⟨q, 0, none⟩ (.slice A6 N k6)).setCell ⟨r, 0, none⟩ (.string (bs s))) fun e w' =>
                ∃ A' n' cap', e = .returned (.slice A' n' cap') ∧ w'.ownsRow ((w6.setCell ⟨q, 0, none⟩ (.slice A6 N k6)).setCell ⟨r, 0, none⟩ (.string (bs s))).heap.size 89 3 (.slice A' n' cap') n' ((putF (s, sf, tl) (fs.eraseIdx k)).flatMap fileC) ∧ Gr ((w6.setCell ⟨q, 0, none⟩ (.slice A6 N k6)).setCell ⟨r, 0, none⟩ (.string (bs s))) w' ∧ Gr w w' ∧ w.heap.size ≤ ((w6.setCell ⟨q, 0, none⟩ (.slice A6 N k6)).setCell ⟨r, 0, none⟩ (.string (bs s))).heap.size ∧ Blk w' q 43 #[.slice A6 N k6, .int .i64 u] ∧ Blk w' (p + 1) 43 #[.slice none 0 0, .int .i64 0]) := sec (fun A6 N k6 w6 g6 ho => by
                  have hN := FRow.len (Row.own ho)
                  have hbq : Blk w6 q 43 #[.slice A1 n cap1, .int .i64 u] := HDV.out.blk.gr g6
                  have hbp := HR2.out.gr (HGV.out.trans g6)
                  have ho7 := ownsRow_setCell_other (ownsRow_setCell_other ho (a := ⟨q, 0, none⟩) (own_blk_ne ho hbq (by decide)) (.slice A6 N k6)) (a := ⟨r, 0, none⟩) (fun e => by have : wv.heap.size ≤ r := (ho.lt _ e).1; omega) (.string (bs s))
                  have g7 : Gr w ((w6.setCell ⟨q, 0, none⟩ (.slice A6 N k6)).setCell ⟨r, 0, none⟩ (.string (bs s))) := ((hg0.trans (HGV.out.trans g6)).setCell (p := ⟨q, 0, none⟩) (by show w.heap.size ≤ q; omega) _).setCell (p := ⟨r, 0, none⟩) hwr4 _
                  have hbq7 := (hbq.set_ 0 (.slice A6 N k6)).far (p := ⟨r, 0, none⟩) hqr (.string (bs s))
                  have hbp7 := (hbp.far (p := ⟨q, 0, none⟩) hpq1 (.slice A6 N k6)).far (p := ⟨r, 0, none⟩) hpr (.string (bs s))
                  have hx7 : FRow ((w6.setCell ⟨q, 0, none⟩ (.slice A6 N k6)).setCell ⟨r, 0, none⟩ (.string (bs s))) A6 N (fs.eraseIdx k) := Row.own ho7
                  refine (put_any (fs.eraseIdx k) s sf tl A6 N k6 _ (by have := HER.out; omega) hx7).mono ?_
                  rintro e w' ⟨A', n', cap', rfl, h1, h2⟩
                  exact ⟨A', n', cap', rfl, h1, h2, g7.trans h2, g7.size, hbq7.gr h2, hbp7.gr h2⟩)
            clear e0w e1w e2w c05 c15 d205 d215 f205 f215 hwv hr gv hfb E0 HD4 HR1 c04 c14 d20 d21 f20 f21 q04 q14 fq4 HN hrv hwr4
            by_cases hcap : cap = k + 1
            · subst hcap
              obtain rfl : n = k + 1 := by omega
              have HM2 : Sec (0 + k + 0 ≤ maxLen) := HM1
              have HRR2 : Sec (∀ W, Gr wv W → Row W 3 (some ⟨b, off, none⟩) 0 ((fs.drop (k + 1)).flatMap fileC)) := sec (fun W g => FRow.none (k + 1) (by omega))
              go_region_law (first
                | (refine step_append_row (w := wv.drew) (B := wv.heap.size) (A0 := none) (n0 := 0) (cap0 := 0) (xs := []) (A := some ⟨b, off, none⟩) (n := k) (c := (k + 1)) (vs := (fs.take k).flatMap fileC) E.file rfl (.const (.slice none 0 0)) (.tmp 128) rfl ?hd (World.ownsRow_nil _ _ _ _) ?hx (HR1v.out _ (Gr.refl _).drew) ?ha fileC_one ?hb ?hm ?hB ?_; (case hd => rfl); (case hx => simp [Act.eval, Act.put]); (case ha => intro h; cases h); (case hb => omega); (case hm => exact HM1.out); (case hB => exact Nat.le_refl _); intro A5 k5 w9 hown5 hg5; have g9 : Gr wv w9 := Gr.grown (Gr.refl wv).drew hg5 (fun k hk => by simp [Value.ownBlock] at hk); have c09 : w9.cell? ⟨p, 0, none⟩ = some (.slice (some ⟨b, off, none⟩) (k + 1) (k + 1)) := (HB.out.gr (HGV.out.trans g9)).cell 0)
                | (refine step_append_row (w := w9) (B := wv.heap.size) (A0 := A5) (n0 := 0 + k) (cap0 := k5) (A := some ⟨b, off, none⟩) (n := 0) (c := 0) (vs := (fs.drop (k + 1)).flatMap fileC) E.file rfl (.tmp 129) (.tmp 134) rfl ?hd hown5 ?hx (HRR2.out _ g9) ?ha fileC_one ?hb ?hm ?hB ?_; (case hd => simp [Act.eval, Act.put]); (case hx => simp [Act.eval, Act.put]; try omega); (case ha => intro h; cases h); (case hb => omega); (case hm => exact HM2.out); (case hB => exact g9.size); intro A6 k6 w6 hown6 hg6; have g6 : Gr wv w6 := Gr.grown g9 hg6 (fun k hk => (hown5.lt k hk).1); have hbq := HDV.out.blk.gr g6; have hbr := HFB.out.gr g6; have q06 : w6.cell? ⟨q, 0, none⟩ = some (.slice A1 (k + 1) cap1) := hbq.cell 0; have fq6 : w6.frozen? ⟨q, 0, none⟩ = false := hbq.frozen 0; have r06 : w6.cell? ⟨r, 0, none⟩ = some (.string (bs nm)) := hbr.cell 0; have r16 : w6.cell? ⟨r, 1, none⟩ = some (.string (bs sf)) := hbr.cell 1; have r26 : w6.cell? ⟨r, 2, none⟩ = some (.string (bs tl)) := hbr.cell 2; have fr6 : w6.frozen? ⟨r, 0, none⟩ = false := hbr.frozen 0))
              all_goals
                have hown7 : w6.ownsRow wv.heap.size 89 3 (.slice A6 (k) k6) (k) ((fs.eraseIdx k).flatMap fileC) := by simpa [erase_flat] using hown6
                have HPU := sec (HPU0.out A6 (k) k6 w6 g6 hown7)
                go_wp2_with (go_at_call 120; refine HPU.out.mono ?_; rintro e w8 ⟨A8, n8, k8, rfl, hown8, _, g8, hb8, hbq8, hbp8⟩; have q08 : w8.cell? ⟨q, 0, none⟩ = some (.slice A6 (k) k6) := hbq8.cell 0; have q18 : w8.cell? ⟨q, 1, none⟩ = some (.int .i64 u) := hbq8.cell 1; have fq8 : w8.frozen? ⟨q, 0, none⟩ = false := hbq8.frozen 0; have d208 : w8.cell? ⟨p + 1, 0, none⟩ = some (.slice none 0 0) := hbp8.cell 0; have d218 : w8.cell? ⟨p + 1, 1, none⟩ = some (.int .i64 0) := hbp8.cell 1; have f208 : w8.frozen? ⟨p + 1, 0, none⟩ = false := hbp8.frozen 0; have f218 : w8.frozen? ⟨p + 1, 1, none⟩ = false := hbp8.frozen 1)
                have hE := do_end g8 (by omega) (by omega) hbp8 hbq8 hpq1 hown8 hb8 u (.slice A8 n8 k8)
                refine bodyPost_ret (results_blk_tmp rfl _ rfl hE.1 aggDisk) rfl ?_
                rw [HR.out]
                exact ⟨A8, _, k8, rfl, hE.2.1, hE.2.2.2, .inr hE.2.2.1⟩
            · have HRR2 : Sec (∀ W, Gr wv W → Row W 3 (some ⟨b, off + (k + 1) * 3, none⟩) (n - (k + 1)) ((fs.drop (k + 1)).flatMap fileC)) := sec (fun W g => (HX.out.gr (HGV.out.trans g)).drop (k + 1) (by omega))
              go_region_law (first
                | (refine step_append_row (w := wv.drew) (B := wv.heap.size) (A0 := none) (n0 := 0) (cap0 := 0) (xs := []) (A := some ⟨b, off, none⟩) (n := k) (c := cap) (vs := (fs.take k).flatMap fileC) E.file rfl (.const (.slice none 0 0)) (.tmp 128) rfl ?hd (World.ownsRow_nil _ _ _ _) ?hx (HR1v.out _ (Gr.refl _).drew) ?ha fileC_one ?hb ?hm ?hB ?_; (case hd => rfl); (case hx => simp [Act.eval, Act.put]); (case ha => intro h; cases h); (case hb => omega); (case hm => exact HM1.out); (case hB => exact Nat.le_refl _); intro A5 k5 w9 hown5 hg5; have g9 : Gr wv w9 := Gr.grown (Gr.refl wv).drew hg5 (fun k hk => by simp [Value.ownBlock] at hk); have c09 : w9.cell? ⟨p, 0, none⟩ = some (.slice (some ⟨b, off, none⟩) n cap) := (HB.out.gr (HGV.out.trans g9)).cell 0)
                | (refine step_append_row (w := w9) (B := wv.heap.size) (A0 := A5) (n0 := 0 + k) (cap0 := k5) (A := some ⟨b, off + (k + 1) * 3, none⟩) (n := n - (k + 1)) (c := cap - (k + 1)) (vs := (fs.drop (k + 1)).flatMap fileC) E.file rfl (.tmp 129) (.tmp 134) rfl ?hd hown5 ?hx (HRR2.out _ g9) ?ha fileC_one ?hb ?hm ?hB ?_; (case hd => simp [Act.eval, Act.put]); (case hx => simp [Act.eval, Act.put]; try omega); (case ha => intro h; cases h); (case hb => omega); (case hm => exact HM2.out); (case hB => exact g9.size); intro A6 k6 w6 hown6 hg6; have g6 : Gr wv w6 := Gr.grown g9 hg6 (fun k hk => (hown5.lt k hk).1); have hbq := HDV.out.blk.gr g6; have hbr := HFB.out.gr g6; have q06 : w6.cell? ⟨q, 0, none⟩ = some (.slice A1 n cap1) := hbq.cell 0; have fq6 : w6.frozen? ⟨q, 0, none⟩ = false := hbq.frozen 0; have r06 : w6.cell? ⟨r, 0, none⟩ = some (.string (bs nm)) := hbr.cell 0; have r16 : w6.cell? ⟨r, 1, none⟩ = some (.string (bs sf)) := hbr.cell 1; have r26 : w6.cell? ⟨r, 2, none⟩ = some (.string (bs tl)) := hbr.cell 2; have fr6 : w6.frozen? ⟨r, 0, none⟩ = false := hbr.frozen 0))
              all_goals
                have hown7 : w6.ownsRow wv.heap.size 89 3 (.slice A6 (k + (n - (k + 1))) k6) (k + (n - (k + 1))) ((fs.eraseIdx k).flatMap fileC) := by simpa [erase_flat] using hown6
                have HPU := sec (HPU0.out A6 (k + (n - (k + 1))) k6 w6 g6 hown7)
                go_wp2_with (go_at_call 120; refine HPU.out.mono ?_; rintro e w8 ⟨A8, n8, k8, rfl, hown8, _, g8, hb8, hbq8, hbp8⟩; have q08 : w8.cell? ⟨q, 0, none⟩ = some (.slice A6 (k + (n - (k + 1))) k6) := hbq8.cell 0; have q18 : w8.cell? ⟨q, 1, none⟩ = some (.int .i64 u) := hbq8.cell 1; have fq8 : w8.frozen? ⟨q, 0, none⟩ = false := hbq8.frozen 0; have d208 : w8.cell? ⟨p + 1, 0, none⟩ = some (.slice none 0 0) := hbp8.cell 0; have d218 : w8.cell? ⟨p + 1, 1, none⟩ = some (.int .i64 0) := hbp8.cell 1; have f208 : w8.frozen? ⟨p + 1, 0, none⟩ = false := hbp8.frozen 0; have f218 : w8.frozen? ⟨p + 1, 1, none⟩ = false := hbp8.frozen 1)
                have hE := do_end g8 (by omega) (by omega) hbp8 hbq8 hpq1 hown8 hb8 u (.slice A8 n8 k8)
                refine bodyPost_ret (results_blk_tmp rfl _ rfl hE.1 aggDisk) rfl ?_
                rw [HR.out]
                exact ⟨A8, _, k8, rfl, hE.2.1, hE.2.2.2, .inr hE.2.2.1⟩
end Go.Proofs.YtmgpllakpgjicaaDoor

namespace Go.Proofs.YtmgpllakpgjicaaDoor
open Go.RowKit
set_option linter.unusedVariables false
set_option maxRecDepth 100000 in
set_option maxHeartbeats 4000000 in
theorem do3_any (name s : List UInt8) (fs : List Fl) (A : Option Addr) (n cap : Nat) (f : Int) (w : World) (hn : n ≤ 1099511627776) (hnc : n ≤ cap) (hx : FRow w A n fs) (hA : A = none → n = 0 ∧ cap = 0) (hs : ∀ f ∈ fs, f.1.length ≤ 1099511627776 ∧ f.2.1.length ≤ 1099511627776 ∧ f.2.2.length ≤ 1099511627776)
    (hf : -9223372036854775808 ≤ f ∧ f ≤ 9223372036854775807) (hl1 : name.length ≤ 1099511627776) (hl2 : s.length ≤ 1099511627776) :
    Calls Tryd.prog 95 #[.int .i64 3, diskV A n cap f, .string (bs name), .string (bs s)] w (StepPost (stepR (rmF name) fs f) A n cap fs w) := by
  have hg0 := ((Gr.refl w).alloc (.cells #[.slice A n cap, .int .i64 f] 43)).alloc (.cells #[.slice none 0 0, .int .i64 0] 43)
  have hb1 := (Blk.new w 43 #[.slice A n cap, .int .i64 f]).alloc (.cells #[.slice none 0 0, .int .i64 0] 43)
  have hb2 := Blk.new1 w (.cells #[.slice A n cap, .int .i64 f] 43) 43 #[.slice none 0 0, .int .i64 0]
  have HG := sec (drgood_any fs A n cap f _ hn (hx.gr hg0) hs)
  have hl := hx.len
  have HX := sec (hx.gr hg0)
  obtain ⟨wa, hwa⟩ : ∃ x, x = (w.alloc (.cells #[.slice A n cap, .int .i64 f] 43)).alloc (.cells #[.slice none 0 0, .int .i64 0] 43) := ⟨_, rfl⟩
  rw [← hwa] at hg0 hb1 hb2 HG HX
  obtain ⟨p, hp⟩ : ∃ p, p = w.heap.size := ⟨_, rfl⟩
  have hwp : w.heap.size ≤ p := by omega
  rw [← hp] at hb1 hb2
  have c0 : wa.cell? ⟨p, 0, none⟩ = some (.slice A n cap) := hb1.cell 0
  have c1 : wa.cell? ⟨p, 1, none⟩ = some (.int .i64 f) := hb1.cell 1
  have HB := sec hb1
  have HR2 := sec hb2
  have HX0 := sec hx
  have HA := sec hA
  clear hb1 hb2 hs hx
  unfold diskV at HG
  unfold diskV
  have HW : Sec (∀ w1, Gr wa w1 → Blk ((w1.setCell ⟨p + 1, 0, none⟩ (.slice A n cap)).setCell ⟨p + 1, 1, none⟩ (.int .i64 f)) (p + 1) 43 #[.slice A n cap, .int .i64 f]) := sec fun w1 g1 => ((HR2.out.gr g1).set_ 0 (.slice A n cap)).set_ 1 (.int .i64 f)
  have HV : Sec (∀ w1, Gr wa w1 → Gr w ((w1.setCell ⟨p + 1, 0, none⟩ (.slice A n cap)).setCell ⟨p + 1, 1, none⟩ (.int .i64 f))) := sec fun w1 g1 => ((hg0.trans g1).setCell (p := ⟨p + 1, 0, none⟩) (by show w.heap.size ≤ p + 1; omega) _).setCell (p := ⟨p + 1, 1, none⟩) (by show w.heap.size ≤ p + 1; omega) _
  cases hgf : goodFs fs with
  | false =>
    have HR : Sec (stepR (rmF name) fs f = (fs, f, 3)) := sec (by unfold stepR; rw [hgf]; rfl)
    rw [HR.out]
    rw [hgf] at HG
    clear hgf
    go_enter Tryd.func95, Tryd.ntmps95
    go_wp2_with (first | (rw [← hwa, ← hp]; clear hwa hp; go_wp2_with fail) | (go_at_call 92; refine Calls.mono HG.out ?_; rintro e w1 ⟨rfl, g1⟩; have c0y : w1.cell? ⟨p, 0, none⟩ = some (.slice A n cap) := (HB.out.gr g1).cell 0; have c1y : w1.cell? ⟨p, 1, none⟩ = some (.int .i64 f) := (HB.out.gr g1).cell 1; have d20 : w1.cell? ⟨p + 1, 0, none⟩ = some (.slice none 0 0) := (HR2.out.gr g1).cell 0; have d21 : w1.cell? ⟨p + 1, 1, none⟩ = some (.int .i64 0) := (HR2.out.gr g1).cell 1; have f20 : w1.frozen? ⟨p + 1, 0, none⟩ = false := (HR2.out.gr g1).frozen 0; have f21 : w1.frozen? ⟨p + 1, 1, none⟩ = false := (HR2.out.gr g1).frozen 1))
    refine bodyPost_ret (results_blk_tmp rfl _ rfl (HW.out w1 g1) aggDisk) rfl ?_
    exact ⟨A, n, cap, rfl, HV.out w1 g1, HA.out, .inl ⟨rfl, rfl, rfl, rfl⟩⟩
  | true =>
    rw [hgf] at HG
    by_cases hf0 : f = 0
    · have HR : Sec (stepR (rmF name) fs f = (fs, f, 12)) := sec (by unfold stepR; rw [hgf, hf0]; rfl)
      rw [HR.out]
      clear hgf
      subst hf0
      go_enter Tryd.func95, Tryd.ntmps95
      go_wp2_with (first | (rw [← hwa, ← hp]; clear hwa hp; go_wp2_with fail) | (go_at_call 92; refine Calls.mono HG.out ?_; rintro e w1 ⟨rfl, g1⟩; have c0y : w1.cell? ⟨p, 0, none⟩ = some (.slice A n cap) := (HB.out.gr g1).cell 0; have c1y : w1.cell? ⟨p, 1, none⟩ = some (.int .i64 0) := (HB.out.gr g1).cell 1; have d20 : w1.cell? ⟨p + 1, 0, none⟩ = some (.slice none 0 0) := (HR2.out.gr g1).cell 0; have d21 : w1.cell? ⟨p + 1, 1, none⟩ = some (.int .i64 0) := (HR2.out.gr g1).cell 1; have f20 : w1.frozen? ⟨p + 1, 0, none⟩ = false := (HR2.out.gr g1).frozen 0; have f21 : w1.frozen? ⟨p + 1, 1, none⟩ = false := (HR2.out.gr g1).frozen 1))
      refine bodyPost_ret (results_blk_tmp rfl _ rfl (HW.out w1 g1) aggDisk) rfl ?_
      exact ⟨A, n, cap, rfl, HV.out w1 g1, HA.out, .inl ⟨rfl, rfl, rfl, rfl⟩⟩
    · have HGF := sec hgf
      have HF0 := sec hf0
      have HSO := sec (goodFs_sorted hgf)
      have hl400 : n ≤ 400 := by have := goodFs_len hgf; omega
      clear hgf
      obtain ⟨u, hu⟩ : ∃ u, u = (if 0 < f then f - 1 else f) := ⟨_, rfl⟩
      have HU := sec hu
      clear hu
      have HERR : Sec (∀ E, (rmF name fs).2 = E → E ≠ 0 → stepR (rmF name) fs f = (fs, f, E)) := sec (fun E h h0 => by unfold stepR; rw [HGF.out, if_pos rfl, if_neg HF0.out, if_neg (by rw [h]; exact h0), h])
      have HOK : Sec (∀ R, (rmF name fs) = (R, 0) → stepR (rmF name) fs f = (R, u, 0)) := sec (fun R h => by unfold stepR; rw [HGF.out, if_pos rfl, if_neg HF0.out, if_pos (by rw [h]), h, HU.out])
      go_enter Tryd.func95, Tryd.ntmps95
      go_upto_if 27 with (first | (rw [← hwa, ← hp]; clear hwa hp; go_wp2_with fail) | (go_at_call 92; refine Calls.mono HG.out ?_; rintro e w1 ⟨rfl, g1⟩; have c0y : w1.cell? ⟨p, 0, none⟩ = some (.slice A n cap) := (HB.out.gr g1).cell 0; have c1y : w1.cell? ⟨p, 1, none⟩ = some (.int .i64 f) := (HB.out.gr g1).cell 1) | (go_at_call 22; refine Calls.mono (copyDisk_any fs A n cap f w1 hn (HX.out.gr g1) HA.out) ?_; unfold diskV; rintro e w2 ⟨A1, cap1, rfl, ho, hA1, g2⟩))
      have hqb := Blk.new w2 43 #[.slice A1 n cap1, .int .i64 f]
      have hoq := own_gr ho ((Gr.refl w2).alloc (.cells #[.slice A1 n cap1, .int .i64 f] 43))
      have gq := g2.alloc (.cells #[.slice A1 n cap1, .int .i64 f] 43)
      obtain ⟨wq, hwq⟩ : ∃ x, x = w2.alloc (.cells #[.slice A1 n cap1, .int .i64 f] 43) := ⟨_, rfl⟩
      obtain ⟨q, hq⟩ : ∃ q, q = w2.heap.size := ⟨_, rfl⟩
      have hq1 : w1.heap.size ≤ q := by have := g2.size; omega
      rw [← hwq] at hqb hoq gq
      rw [← hq] at hqb
      rw [← hwq, ← hq]
      have HDQ : Sec (DOwn wq w1.heap.size q A1 n cap1 f fs) := sec ⟨hqb, hoq, hq1⟩
      have HG1 := sec g1
      have hpq : p + 1 < w1.heap.size := (HR2.out.gr g1).lt
      clear hwq hq hqb hoq ho g2 hA1
      have dq0 : wq.cell? ⟨q, 0, none⟩ = some (.slice A1 n cap1) := HDQ.out.blk.cell 0
      have dq1 : wq.cell? ⟨q, 1, none⟩ = some (.int .i64 f) := HDQ.out.blk.cell 1
      have fq1 : wq.frozen? ⟨q, 1, none⟩ = false := HDQ.out.blk.frozen 1
      go_cut [] from 28 to 144 (fun wx => Sec (DOwn wx w1.heap.size q A1 n cap1 u fs) ∧ Gr w1 wx)
      case first =>
        by_cases hpos : 0 < f
        · have hwr : IntKind.i64.wrap (f - 1) = f - 1 := IntWalk.i64_in _ (by omega)
          have hu : u = f - 1 := by rw [HU.out, if_pos hpos]
          go_wp2_with fail
          go_meet
          rw [hu]
          exact ⟨sec ⟨HDQ.out.blk.set_ 1 _, ownsRow_setCell_other HDQ.out.own (a := ⟨q, 1, none⟩) HDQ.out.ne _, HDQ.out.base⟩, gq.setCell (p := ⟨q, 1, none⟩) hq1 _⟩
        · have hu : u = f := by rw [HU.out, if_neg hpos]
          go_wp2_with fail
          go_meet
          rw [hu]
          exact ⟨HDQ, gq⟩
      case rest =>
        obtain ⟨HDC, gc⟩ := hcut
        clear dq0 dq1 fq1 c0y c1y HDQ gq g1
        have c0y : wc.cell? ⟨p, 0, none⟩ = some (.slice A n cap) := (HB.out.gr (HG1.out.trans gc)).cell 0
        have c1y : wc.cell? ⟨p, 1, none⟩ = some (.int .i64 f) := (HB.out.gr (HG1.out.trans gc)).cell 1
        go_upto_region 9 with (go_at_call 94; refine Calls.mono (at_any fs name A n cap f wc hn (HX.out.gr (HG1.out.trans gc)) HSO.out) ?_; rintro e w4 ⟨rfl, g4⟩)
        have gg4 : Gr w1 w4 := gc.trans g4
        have HD4 := sec (HDC.out.gr g4)
        have HG4 := sec (HG1.out.trans gg4)
        have HGG4 := sec gg4
        clear c0y c1y gc g4 HDC HG1
        have c04 : w4.cell? ⟨p, 0, none⟩ = some (.slice A n cap) := (HB.out.gr HG4.out).cell 0
        have c14 : w4.cell? ⟨p, 1, none⟩ = some (.int .i64 f) := (HB.out.gr HG4.out).cell 1
        have d20 : w4.cell? ⟨p + 1, 0, none⟩ = some (.slice none 0 0) := (HR2.out.gr HG4.out).cell 0
        have d21 : w4.cell? ⟨p + 1, 1, none⟩ = some (.int .i64 0) := (HR2.out.gr HG4.out).cell 1
        have f20 : w4.frozen? ⟨p + 1, 0, none⟩ = false := (HR2.out.gr HG4.out).frozen 0
        have f21 : w4.frozen? ⟨p + 1, 1, none⟩ = false := (HR2.out.gr HG4.out).frozen 1
        have q04 : w4.cell? ⟨q, 0, none⟩ = some (.slice A1 n cap1) := HD4.out.blk.cell 0
        have q14 : w4.cell? ⟨q, 1, none⟩ = some (.int .i64 u) := HD4.out.blk.cell 1
        have fq4 : w4.frozen? ⟨q, 0, none⟩ = false := HD4.out.blk.frozen 0
        cases hhf : hasF name fs with
        | false =>
          have hai : atI name fs = -1 := by unfold atI; rw [hhf]; rfl
          have HR := sec (HERR.out 7 (by unfold rmF; rw [hhf]; rfl) (by decide))
          rw [hai]
          clear hhf
          go_wp2_with fail
          refine bodyPost_ret (results_blk_tmp rfl _ rfl (HW.out w4 HG4.out) aggDisk) rfl ?_
          rw [HR.out]
          exact ⟨A, n, cap, rfl, HV.out w4 HG4.out, HA.out, .inl ⟨rfl, rfl, rfl, rfl⟩⟩
        | true =>
          have hlt := hasF_lt HSO.out hhf
          obtain ⟨k, hk⟩ : ∃ k, k = lbF name fs := ⟨_, rfl⟩
          have hai : atI name fs = k := by unfold atI; rw [hhf, hk]; rfl
          have HR := sec (HOK.out (fs.eraseIdx k) (by unfold rmF; rw [hhf, if_pos rfl, hk]))
          rw [← hk] at hlt
          obtain ⟨hkf, hnm⟩ := hlt
          rw [hai]
          clear hai hk hhf hnm
          have hkn : k < n := by omega
          obtain ⟨b, off, rfl, e0, e1, e2⟩ := (HX.out.gr HG4.out).cell hkf
          clear e0 e1 e2
          have hkn1 : (k : Int) < (n : Int) := by omega
          have hwk : IntKind.i64.wrap ((k : Int) + 1) = (k : Int) + 1 := IntWalk.i64_in _ (by omega)
          have hc1 : (k : Int) ≤ (cap : Int) := by omega
          have HR1 : Sec (∀ W, Gr w4 W → Row W 3 (some ⟨b, off, none⟩) k ((fs.take k).flatMap fileC)) := sec (fun W g => (HX.out.gr (HG4.out.trans g)).take k (by omega))
          have hpq1 : p + 1 ≠ q := by omega
          have HM1 : Sec (0 + k ≤ maxLen) := sec (Nat.le_trans (show 0 + k ≤ 4096 by omega) (by decide))
          have HM2 : Sec (0 + k + (n - (k + 1)) ≤ maxLen) := sec (Nat.le_trans (show 0 + k + (n - (k + 1)) ≤ 4096 by omega) (by decide))
          have hb10 : (k : Int) ≤ (k : Int) + 1 := by omega
          have hk0 : (0 : Int) ≤ (k : Int) + 1 := by omega
          have hk3 : (k : Int) + 1 ≤ (n : Int) := by omega
          have hk4 : (n : Int) ≤ (cap : Int) := by omega
          have hkt : ((k : Int) + 1).toNat = k + 1 := by omega
          by_cases hcap : cap = k + 1
          · subst hcap
            obtain rfl : n = k + 1 := by omega
            have HM2 : Sec (0 + k + 0 ≤ maxLen) := HM1
            have HRR2 : Sec (∀ W, Gr w4 W → Row W 3 (some ⟨b, off, none⟩) 0 ((fs.drop (k + 1)).flatMap fileC)) := sec (fun W g => FRow.none (k + 1) (by omega))
            go_wp2_with fail
            go_region_law (first
              | (refine step_append_row (w := w4.drew) (B := w4.heap.size) (A0 := none) (n0 := 0) (cap0 := 0) (xs := []) (A := some ⟨b, off, none⟩) (n := k) (c := k + 1) (vs := (fs.take k).flatMap fileC) E.file rfl (.const (.slice none 0 0)) (.tmp 42) rfl ?hd (World.ownsRow_nil _ _ _ _) ?hx (HR1.out _ (Gr.refl _).drew) ?ha fileC_one ?hb ?hm ?hB ?_; (case hd => rfl); (case hx => simp [Act.eval, Act.put]); (case ha => intro h; cases h); (case hb => omega); (case hm => exact HM1.out); (case hB => exact Nat.le_refl _); intro A5 k5 w5 hown5 hg5; have g5 : Gr w4 w5 := Gr.grown (Gr.refl w4).drew hg5 (fun k hk => by simp [Value.ownBlock] at hk); have c05 : w5.cell? ⟨p, 0, none⟩ = some (.slice (some ⟨b, off, none⟩) (k + 1) (k + 1)) := (HB.out.gr (HG4.out.trans g5)).cell 0)
              | (refine step_append_row (w := w5) (B := w4.heap.size) (A0 := A5) (n0 := 0 + k) (cap0 := k5) (A := some ⟨b, off, none⟩) (n := 0) (c := 0) (vs := (fs.drop (k + 1)).flatMap fileC) E.file rfl (.tmp 43) (.tmp 48) rfl ?hd hown5 ?hx (HRR2.out _ g5) ?ha fileC_one ?hb ?hm ?hB ?_; (case hd => simp [Act.eval, Act.put]); (case hx => simp [Act.eval, Act.put]; try omega); (case ha => intro h; cases h); (case hb => omega); (case hm => exact HM2.out); (case hB => exact g5.size); intro A6 k6 w6 hown6 hg6; have g6 : Gr w4 w6 := Gr.grown g5 hg6 (fun k hk => (hown5.lt k hk).1); have hbq := HD4.out.blk.gr g6; have hbp := HR2.out.gr (HG4.out.trans g6); have q06 : w6.cell? ⟨q, 0, none⟩ = some (.slice A1 (k + 1) cap1) := hbq.cell 0; have q16 : w6.cell? ⟨q, 1, none⟩ = some (.int .i64 u) := hbq.cell 1; have fq6 : w6.frozen? ⟨q, 0, none⟩ = false := hbq.frozen 0; have d206 : w6.cell? ⟨p + 1, 0, none⟩ = some (.slice none 0 0) := hbp.cell 0; have d216 : w6.cell? ⟨p + 1, 1, none⟩ = some (.int .i64 0) := hbp.cell 1; have f206 : w6.frozen? ⟨p + 1, 0, none⟩ = false := hbp.frozen 0; have f216 : w6.frozen? ⟨p + 1, 1, none⟩ = false := hbp.frozen 1))
            all_goals
              go_wp2_with fail
              have hown7 : w6.ownsRow w4.heap.size 89 3 (.slice A6 (k) k6) (k) ((fs.eraseIdx k).flatMap fileC) := by simpa [erase_flat] using hown6
              have hE := do_end (hg0.trans (HG4.out.trans g6)) (by omega) (by omega) hbp hbq hpq1 hown7 (hg0.trans HG4.out).size u (.slice A6 (k) k6)
              refine bodyPost_ret (results_blk_tmp rfl _ rfl hE.1 aggDisk) rfl ?_
              rw [HR.out]
              exact ⟨A6, _, k6, rfl, hE.2.1, hE.2.2.2, .inr hE.2.2.1⟩
          · have HRR2 : Sec (∀ W, Gr w4 W → Row W 3 (some ⟨b, off + (k + 1) * 3, none⟩) (n - (k + 1)) ((fs.drop (k + 1)).flatMap fileC)) := sec (fun W g => (HX.out.gr (HG4.out.trans g)).drop (k + 1) (by omega))
            go_wp2_with fail
            go_region_law (first
              | (refine step_append_row (w := w4.drew) (B := w4.heap.size) (A0 := none) (n0 := 0) (cap0 := 0) (xs := []) (A := some ⟨b, off, none⟩) (n := k) (c := cap) (vs := (fs.take k).flatMap fileC) E.file rfl (.const (.slice none 0 0)) (.tmp 42) rfl ?hd (World.ownsRow_nil _ _ _ _) ?hx (HR1.out _ (Gr.refl _).drew) ?ha fileC_one ?hb ?hm ?hB ?_; (case hd => rfl); (case hx => simp [Act.eval, Act.put]); (case ha => intro h; cases h); (case hb => omega); (case hm => exact HM1.out); (case hB => exact Nat.le_refl _); intro A5 k5 w5 hown5 hg5; have g5 : Gr w4 w5 := Gr.grown (Gr.refl w4).drew hg5 (fun k hk => by simp [Value.ownBlock] at hk); have c05 : w5.cell? ⟨p, 0, none⟩ = some (.slice (some ⟨b, off, none⟩) n cap) := (HB.out.gr (HG4.out.trans g5)).cell 0)
              | (refine step_append_row (w := w5) (B := w4.heap.size) (A0 := A5) (n0 := 0 + k) (cap0 := k5) (A := some ⟨b, off + (k + 1) * 3, none⟩) (n := n - (k + 1)) (c := cap - (k + 1)) (vs := (fs.drop (k + 1)).flatMap fileC) E.file rfl (.tmp 43) (.tmp 48) rfl ?hd hown5 ?hx (HRR2.out _ g5) ?ha fileC_one ?hb ?hm ?hB ?_; (case hd => simp [Act.eval, Act.put]); (case hx => simp [Act.eval, Act.put]; try omega); (case ha => intro h; cases h); (case hb => omega); (case hm => exact HM2.out); (case hB => exact g5.size); intro A6 k6 w6 hown6 hg6; have g6 : Gr w4 w6 := Gr.grown g5 hg6 (fun k hk => (hown5.lt k hk).1); have hbq := HD4.out.blk.gr g6; have hbp := HR2.out.gr (HG4.out.trans g6); have q06 : w6.cell? ⟨q, 0, none⟩ = some (.slice A1 n cap1) := hbq.cell 0; have q16 : w6.cell? ⟨q, 1, none⟩ = some (.int .i64 u) := hbq.cell 1; have fq6 : w6.frozen? ⟨q, 0, none⟩ = false := hbq.frozen 0; have d206 : w6.cell? ⟨p + 1, 0, none⟩ = some (.slice none 0 0) := hbp.cell 0; have d216 : w6.cell? ⟨p + 1, 1, none⟩ = some (.int .i64 0) := hbp.cell 1; have f206 : w6.frozen? ⟨p + 1, 0, none⟩ = false := hbp.frozen 0; have f216 : w6.frozen? ⟨p + 1, 1, none⟩ = false := hbp.frozen 1))
            all_goals
              go_wp2_with fail
              have hown7 : w6.ownsRow w4.heap.size 89 3 (.slice A6 (k + (n - (k + 1))) k6) (k + (n - (k + 1))) ((fs.eraseIdx k).flatMap fileC) := by simpa [erase_flat] using hown6
              have hE := do_end (hg0.trans (HG4.out.trans g6)) (by omega) (by omega) hbp hbq hpq1 hown7 (hg0.trans HG4.out).size u (.slice A6 (k + (n - (k + 1))) k6)
              refine bodyPost_ret (results_blk_tmp rfl _ rfl hE.1 aggDisk) rfl ?_
              rw [HR.out]
              exact ⟨A6, _, k6, rfl, hE.2.1, hE.2.2.2, .inr hE.2.2.1⟩
end Go.Proofs.YtmgpllakpgjicaaDoor

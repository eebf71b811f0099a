/-
  slices.Insert, slices.Delete of files in a row of the call's own, in one form.
-/
import Derived.Test.YtoamnifnfkgbiaaGreatDoorDiskIns
namespace Go.Proofs.YtoamnifnfkgbiaaGreatDoor
open Go.RowKit
set_option linter.unusedVariables false
def insF (i : Nat) (f : Fl) (fs : List Fl) : List Fl := fs.take i ++ f :: fs.drop i
theorem flat_take (fs : List Fl) : ∀ i, (fs.flatMap fileC).take (i * 3) = (fs.take i).flatMap fileC := by
  induction fs with
  | nil => intro i; simp
  | cons f r ih =>
    intro i
    cases i with
    | zero => simp
    | succ i =>
      have e : (i + 1) * 3 = (fileC f).length + i * 3 := by simp [fileC]; omega
      rw [List.take_succ_cons, List.flatMap_cons, List.flatMap_cons, e, List.take_length_add_append, ih]
theorem flat_drop (fs : List Fl) : ∀ i, (fs.flatMap fileC).drop (i * 3) = (fs.drop i).flatMap fileC := by
  induction fs with
  | nil => intro i; simp
  | cons f r ih =>
    intro i
    cases i with
    | zero => simp
    | succ i =>
      have e : (i + 1) * 3 = (fileC f).length + i * 3 := by simp [fileC]; omega
      rw [List.drop_succ_cons, List.flatMap_cons, e, List.drop_length_add_append, ih]
theorem flat_ins (fs : List Fl) (i : Nat) (f : Fl) : (fs.flatMap fileC).take (i * 3) ++ (fileC f ++ (fs.flatMap fileC).drop (i * 3)) = (insF i f fs).flatMap fileC := by
  rw [flat_take, flat_drop, insF, List.flatMap_append, List.flatMap_cons]
theorem flat_del (fs : List Fl) (i : Nat) : (fs.flatMap fileC).take (i * 3) ++ (fs.flatMap fileC).drop (i * 3 + 3) = (fs.eraseIdx i).flatMap fileC := by
  rw [flat_take, show i * 3 + 3 = (i + 1) * 3 by omega, flat_drop, List.eraseIdx_eq_take_drop_succ, List.flatMap_append]

theorem insert_any (A : Option Addr) (n cap i gv vc B : Nat) (fs : List Fl) (f : Fl) (w : World) (hown : w.ownsRow B 105 3 (.slice A n cap) n (fs.flatMap fileC)) (hi : i ≤ n) (hn : n ≤ 1099511627776)
    (hv : Blk w gv 105 (fileC f).toArray) (hne : (Value.slice A n cap).ownBlock ≠ some gv) (hB : B ≤ w.heap.size) :
    Calls Tryz.prog 196 #[.slice A n cap, .int .i64 (i : Int), .slice (some ⟨gv, 0, none⟩) 1 vc] w fun e w' =>
      ∃ A' cap', e = .returned (.slice A' (n + 1) cap') ∧ w'.ownsRow B 105 3 (.slice A' (n + 1) cap') (n + 1) ((insF i f fs).flatMap fileC) ∧ w.grownBy w' (Value.ownBlock (.slice A n cap)) := by
  have h1v : ∀ v ∈ fileC f, v.oneCell' = true := by intro v hv; simp [fileC] at hv; rcases hv with rfl | rfl | rfl <;> rfl
  have hl : (fs.flatMap fileC).length = n * 3 := hown.1
  have hfl : fs.length = n := by have := flat_len fileC 3 (fun _ => rfl) fs; omega
  rcases Nat.lt_or_eq_of_le hi with hlt | rfl
  · rcases hown.2 with ⟨_, h0⟩ | ⟨g, cap', cur, hvv, hBg, hg, hnc, hcm, hcs, ht⟩
    · omega
    · injection hvv with hA _ hc
      subst hA hc
      have hgv : gv ≠ g := fun e => hne (by rw [e]; rfl)
      have hg' : Blk w g 105 cur.toList.toArray := by rw [Array.toArray_toList]; exact hg
      have hcl : cur.toList.length = cap * 3 := by simpa using hcs
      have h1 : ∀ v ∈ cur.toList.take (n * 3), v.oneCell' = true := by rw [ht]; exact fileC_one
      by_cases hroom : n + 1 ≤ cap
      · refine (ins_shift g cap n i gv vc cur.toList (fileC f) w hlt hroom hcm hgv hg' hcl hv rfl h1 h1v).mono ?_
        rintro e w' ⟨rfl, hb, hgr⟩
        refine ⟨_, _, rfl, ⟨?_, .inr ⟨g, cap, _, rfl, hBg, hb, hroom, hcm, ?_, ?_⟩⟩, hgr⟩
        · rw [flat_len fileC 3 (fun _ => rfl)]; simp [insF]; omega
        · rw [ht, List.size_toArray]
          have hd : ((fs.flatMap fileC).drop (i * 3)).length = n * 3 - i * 3 := by rw [List.length_drop, hl]
          have h3 : (fileC f).length = 3 := rfl
          have h4 := Go.length_splice cur.toList (i * 3 + 3) ((fs.flatMap fileC).drop (i * 3)) (by rw [hd, hcl]; omega)
          rw [Go.length_splice _ _ _ (by rw [h4, h3, hcl]; omega), h4, hcl]
        · rw [ht, List.toList_toArray, show (n + 1) * 3 = n * 3 + 3 by omega, ins_room cur.toList _ (fileC f) (i * 3) (n * 3) 3 ht hl (by omega) rfl (by rw [hcl]; omega), flat_ins]
      · refine (ins_grown g cap n i gv vc cur.toList (fileC f) w hlt (by omega) hnc hn hg' hcl hv rfl h1 h1v).mono ?_
        rintro e w' ⟨G, R, rfl, hG1, hG2, hRl, hRt, hb, hgr⟩
        refine ⟨_, _, rfl, ⟨?_, .inr ⟨w.heap.size, G, _, rfl, hB, hb, hG1, hG2, ?_, ?_⟩⟩, ⟨hgr.os, hgr.tape, hgr.output, hgr.size, fun k hk _ => hgr.block k hk (by simp)⟩⟩
        · rw [flat_len fileC 3 (fun _ => rfl)]; simp [insF]; omega
        · rw [ht, List.size_toArray]
          have hd : ((fs.flatMap fileC).drop (i * 3)).length = n * 3 - i * 3 := by rw [List.length_drop, hl]
          have h3 : (fileC f).length = 3 := rfl
          have h4 := Go.length_splice R (i * 3) (fileC f) (by rw [h3, hRl]; omega)
          rw [Go.length_splice _ _ _ (by rw [h4, hd, hRl]; omega), h4, hRl]
        · rw [ht] at hRt
          rw [ht, List.toList_toArray, show (n + 1) * 3 = n * 3 + 3 by omega, ins_grow R _ (fileC f) (i * 3) (n * 3) 3 hRt hl (by omega) rfl (by rw [hRl]; omega), flat_ins]
  · refine (ins_end A i cap gv vc B _ (fileC f) w hown hv rfl h1v hn hB).mono ?_
    rintro e w' ⟨A', cap', rfl, ho, hgr⟩
    refine ⟨A', cap', rfl, ?_, hgr⟩
    rw [← flat_ins, List.take_of_length_le (by omega), List.drop_eq_nil_of_le (by omega), List.append_nil]
    exact ho

/-! ### Delete -/
theorem run_clear_rowN {P : Program} (w : World) (t e ty : TypeId) (z : Value) (ht : P.underlying t = some (.slice e)) (hv : ∀ w, (zeroValue e).run P w = .ok z w) (g o c : Nat) (cur : Array Value) (tt : TypeId) (hg : w.heap[g]? = some (.cells cur tt (0, 0)))
    (hfit : o + z.cells.size ≤ cur.size) (h1 : ∀ v ∈ z.cells.toList, v.oneCell' = true) :
    (Builtin.clear_ #[t] ty #[.slice (some ⟨g, o, none⟩) 1 c]).run P w = .ok (.tuple #[]) (w.setRow g (Go.splice cur.toList o z.cells.toList).toArray) := by
  have hzc : (Builtin.zeroCells z.cells 1).toList = z.cells.toList := by
    simp [Builtin.zeroCells]
    apply List.ext_getElem
    · simp
    · intro i h1 h2
      have h2' : i < z.cells.size := by simpa using h2
      simp [Nat.mod_eq_of_lt h2', getElem!_pos z.cells i h2']
  have hst := run_storeCells_at P g o tt z.cells.toList 0 cur w hg (by simpa using hfit) h1
  simp only [Nat.add_zero] at hst
  rw [splice_eq]
  simp [Builtin.clear_, run_underlying ht, hv, hzc, hst, List.append_assoc]
theorem step_append_run {P : Program} {ops : Array Oper} {o : Oper} {a : Act} {w : World} {K : Act → World → Prop} {Q : Exit → Act → World → Prop} {E : Prop}
    (hg : o.guard = none) (d x : Operand) (dT sT : TypeId) (hop : o.op = Op.call { callee := Callee.builtin Builtin.append, args := #[d, x], argTypes := #[dT, sT] })
    (v u : Value) (hd : a.eval d = v) (hx : a.eval x = u) {v' : Value} {w' : World} (hr : (Builtin.append_ #[dT, sT] o.type #[v, u]).run P w = .ok v' w') (hK : K (a.put o.dst v') w') :
    if Region.wanted o (yielded ops a.tmps) = true then Oper.wp P o a w K Q else E := by
  have hw : Region.wanted o (yielded ops a.tmps) = true := by simp [Region.wanted, hg]
  rw [if_pos hw]
  unfold Oper.wp execOp
  simp only [hop, resolve, invoke, builtin, Sem.run_bind, Sem.run_pure, Result.andThen_ok, List.map_toArray, List.map_cons, List.map_nil, hd, hx, hr]
  exact hK
theorem wpList_clear_run (w : World) {P : Program} {ops : Array Oper} {rest : List Oper} {o : Oper} {a : Act} {Q : Exit → Act → World → Prop} (hgd : o.guard = none) (s : Operand) (t : TypeId)
    (ho : o.op = .call { callee := .builtin .clear, args := #[s], argTypes := #[t] }) (v : Value) (hs : a.eval s = v) {v' : Value} {w' : World}
    (hr : (Builtin.clear_ #[t] o.type #[v]).run P w = .ok v' w') (h : wpList P ops Q rest (a.put o.dst v') w') : wpList P ops Q (o :: rest) a w :=
  wpList_plain hgd fun _ hK => by
    unfold Oper.wp execOp
    simp only [ho, resolve, invoke, builtin, Sem.run_bind, Sem.run_pure, Result.andThen_ok, List.map_toArray, List.map_cons, List.map_nil, hs, hr]
    exact hK _ _ h
theorem zeroFile : ∀ w, (zeroValue 105).run Tryz.prog w = .ok (.agg #[.string (bs []), .string (bs []), .string (bs [])]) w := by
  intro w
  obtain ⟨i0, hi0, h0, h1, _⟩ := info_parts E.file.info
  simp [zeroValue, typeInfo, hi0, h0]

set_option maxHeartbeats 4000000 in
set_option maxRecDepth 100000 in
theorem del_walk (g cap n i : Nat) (cur : List Value) (w : World) (hi : i < n) (hnc : n ≤ cap) (hcap : cap ≤ maxLen) (hn : n ≤ 1099511627776) (hg : Blk w g 105 cur.toArray) (hs : cur.length = cap * 3)
    (h1 : ∀ v ∈ cur.take (n * 3), v.oneCell' = true) :
    Calls Tryz.prog 112 #[.slice (some ⟨g, 0, none⟩) n cap, .int .i64 (i : Int), .int .i64 ((i : Int) + 1)] w fun e w' =>
      e = .returned (.slice (some ⟨g, 0, none⟩) (n - 1) cap) ∧ Blk w' g 105 (Go.splice (Go.splice cur (i * 3) ((cur.take (n * 3)).drop (i * 3 + 3))) (n * 3 - 3) [.string (bs []), .string (bs []), .string (bs [])]).toArray ∧ w.grownBy w' (some g) := by
  have hcs : (cur.take (n * 3)).length = n * 3 := by rw [List.length_take]; omega
  obtain ⟨i0, hi0, hz0, hz1, hz2⟩ := info_parts E.file.info
  obtain ⟨news, hnews⟩ : ∃ news, news = (cur.take (n * 3)).drop (i * 3 + 3) := ⟨_, rfl⟩
  have hnl : news.length = (n - (i + 1)) * 3 := by rw [hnews, List.length_drop, hcs]; omega
  have hnc1 : ∀ v ∈ news, v.oneCell' = true := fun v hv => h1 v (by rw [hnews] at hv; exact List.mem_of_mem_drop hv)
  have hncell : ∀ j v, news[j]? = some v → w.cell? ⟨g, i * 3 + 3 + j, none⟩ = some v := fun j v hj => by
    rw [hnews, List.getElem?_drop, List.getElem?_take] at hj
    split at hj
    · exact (hg.cell _).trans (by simpa using hj)
    · cases hj
  rw [← hnews]
  obtain ⟨c1, hc1⟩ : ∃ c1, c1 = Go.splice cur (i * 3) news := ⟨_, rfl⟩
  have hc1l : c1.length = cap * 3 := by rw [hc1, Go.length_splice _ _ _ (by rw [hnl, hs]; omega), hs]
  have happ : ∀ ad ty c, (0 < n - (i + 1) → ad = ⟨g, (i + 1) * 3, none⟩) → (Builtin.append_ #[22, 22] ty #[.slice (some ⟨g, 0, none⟩) i cap, .slice (some ad) (n - (i + 1)) c]).run Tryz.prog w.drew = .ok (.slice (some ⟨g, 0, none⟩) (n - 1) cap) (w.drew.setRow g c1.toArray) := fun ad ty c had => by
    have := run_append_room (P := Tryz.prog) w.drew 22 ty 105 i0 E.file.under hi0 g i cap cur.toArray hg.drew ad (n - (i + 1)) c news (by rw [hz1]; exact hnl)
      (fun j u hu => by
        have h0 : 0 < n - (i + 1) := by
          have := (List.getElem?_eq_some_iff.1 hu).1
          rw [hnl] at this; omega
        rw [had h0, Addr.add_lit]
        exact (by simpa using hncell j u hu : w.drew.cell? ⟨g, i * 3 + 3 + j, none⟩ = some u) |> fun h => by rw [show (i + 1) * 3 + j = i * 3 + 3 + j by omega]; exact h)
      hnc1 (by omega) (by rw [hz1, hnl, List.size_toArray, hs]; omega)
    rw [this, hz1, hc1, splice_eq, show i + (n - (i + 1)) = n - 1 by omega]
    simp only [List.append_assoc]
  have hg1 : Blk (w.drew.setRow g c1.toArray) g 105 c1.toArray := hg.drew.of_setRow _
  obtain ⟨W1, hW1⟩ : ∃ W1, W1 = w.drew.setRow g c1.toArray := ⟨_, rfl⟩
  have hgr1 : w.grownBy W1 (some g) := by
    rw [hW1]
    exact ⟨rfl, rfl, rfl, by simp [World.setRow], fun k hk hne => by rw [setRow_other _ g k _ (fun e => hne (by rw [e]))]; rfl⟩
  rw [← hW1] at happ hg1
  have hcl : ∀ ty c, (Builtin.clear_ #[22] ty #[.slice (some ⟨g, (n - 1) * 3, none⟩) 1 c]).run Tryz.prog W1 = .ok (.tuple #[]) (W1.setRow g (Go.splice c1 (n * 3 - 3) [.string (bs []), .string (bs []), .string (bs [])]).toArray) := fun ty c => by
    have := run_clear_rowN (P := Tryz.prog) W1 22 105 ty _ E.file.under zeroFile g ((n - 1) * 3) c c1.toArray 105 hg1 (by
      have : (Value.agg #[.string (bs []), .string (bs []), .string (bs [])]).cells.size = 3 := E.file.zcells
      rw [this, List.size_toArray, hc1l]; omega) (by intro v hv; simp [Value.cells] at hv; subst hv; rfl)
    rw [this, show (n - 1) * 3 = n * 3 - 3 by omega]
    rfl
  have HB : Sec (Blk (W1.setRow g (Go.splice c1 (n * 3 - 3) [.string (bs []), .string (bs []), .string (bs [])]).toArray) g 105 (Go.splice (Go.splice cur (i * 3) news) (n * 3 - 3) [.string (bs []), .string (bs []), .string (bs [])]).toArray) := sec (by
    rw [← hc1]; exact hg1.of_setRow _)
  have HGW : Sec (w.grownBy (W1.setRow g (Go.splice c1 (n * 3 - 3) [.string (bs []), .string (bs []), .string (bs [])]).toArray) (some g)) := sec
    ⟨hgr1.os, hgr1.tape, hgr1.output, by simpa [World.setRow] using hgr1.size, fun k hk hne => by rw [setRow_other _ g k _ (fun e => hne (by rw [e]))]; exact hgr1.block k hk hne⟩
  have hz2' : ¬ ((i : Int) = (i : Int) + 1) := by omega
  have htn : ((i : Int) + 1).toNat = i + 1 := by omega
  have hb1 : (0 : Int) ≤ (i : Int) + 1 := by omega
  have hb3 : (i : Int) + 1 ≤ (n : Int) := by omega
  have hb4 : ¬ (cap = i) := by omega
  have hb5 : ¬ (cap = n - 1) := by omega
  have hb6 : (i : Int) ≤ (n : Int) := by omega
  have hb7 : (i : Int) ≤ (cap : Int) := by omega
  have hb8 : (n : Int) ≤ (cap : Int) := by omega
  have hb9 : n - (n - 1) = 1 := by omega
  have hb10 : (i : Int) ≤ (i : Int) + 1 := by omega
  clear hc1 hc1l hg1 h1 hg hs hcs hW1 hz0 hz1 hz2 hi0 hgr1 hnews hnl hnc1 hncell
  by_cases hce : cap = i + 1
  · subst hce
    go_enter Tryz.func112, Tryz.ntmps112
    go_wp2_with fail
    go_region_law (refine step_append_run (v := .slice (some ⟨g, 0, none⟩) i (i + 1)) (u := .slice (some ⟨g, 0, none⟩) (n - (i + 1)) 0) rfl (.tmp 22) (.tmp 25) 22 22 rfl ?hd ?hx (happ ⟨g, 0, none⟩ _ _ ?had) ?_; (case hd => simp [Act.eval, Act.put]); (case hx => simp [Act.eval, Act.put]; try omega); (case had => intro h; omega))
    go_wp2_with (at_builtin; refine wpList_clear_run _ rfl (.tmp 31) 22 rfl _ rfl (hcl _ _) ?_)
    go_ret
    exact ⟨rfl, HB.out, HGW.out⟩
  · go_enter Tryz.func112, Tryz.ntmps112
    go_wp2_with fail
    go_region_law (refine step_append_run (v := .slice (some ⟨g, 0, none⟩) i cap) (u := .slice (some ⟨g, (i + 1) * 3, none⟩) (n - (i + 1)) (cap - (i + 1))) rfl (.tmp 22) (.tmp 25) 22 22 rfl ?hd ?hx (happ ⟨g, (i + 1) * 3, none⟩ _ _ ?had) ?_; (case hd => simp [Act.eval, Act.put]); (case hx => simp [Act.eval, Act.put]; try omega); (case had => intro h; rfl))
    go_wp2_with (at_builtin; refine wpList_clear_run _ rfl (.tmp 31) 22 rfl _ rfl (hcl _ _) ?_)
    go_ret
    exact ⟨rfl, HB.out, HGW.out⟩

theorem delete_any (A : Option Addr) (n cap i B : Nat) (fs : List Fl) (w : World) (hown : w.ownsRow B 105 3 (.slice A n cap) n (fs.flatMap fileC)) (hi : i < n) (hn : n ≤ 1099511627776) :
    Calls Tryz.prog 112 #[.slice A n cap, .int .i64 (i : Int), .int .i64 ((i : Int) + 1)] w fun e w' =>
      e = .returned (.slice A (n - 1) cap) ∧ w'.ownsRow B 105 3 (.slice A (n - 1) cap) (n - 1) ((fs.eraseIdx i).flatMap fileC) ∧ w.grownBy w' (Value.ownBlock (.slice A n cap)) := by
  have hl : (fs.flatMap fileC).length = n * 3 := hown.1
  have hfl : fs.length = n := by have := flat_len fileC 3 (fun _ => rfl) fs; omega
  rcases hown.2 with ⟨_, h0⟩ | ⟨g, cap', cur, hvv, hBg, hg, hnc, hcm, hcs, ht⟩
  · omega
  · injection hvv with hA _ hc
    subst hA hc
    have hg' : Blk w g 105 cur.toList.toArray := by rw [Array.toArray_toList]; exact hg
    have hcl : cur.toList.length = cap * 3 := by simpa using hcs
    have h1 : ∀ v ∈ cur.toList.take (n * 3), v.oneCell' = true := by rw [ht]; exact fileC_one
    refine (del_walk g cap n i cur.toList w hi hnc hcm hn hg' hcl h1).mono ?_
    rintro e w' ⟨rfl, hb, hgr⟩
    have hd : ((fs.flatMap fileC).drop (i * 3 + 3)).length = n * 3 - (i * 3 + 3) := by rw [List.length_drop, hl]
    refine ⟨rfl, ⟨?_, .inr ⟨g, cap, _, rfl, hBg, hb, by omega, hcm, ?_, ?_⟩⟩, hgr⟩
    · rw [flat_len fileC 3 (fun _ => rfl), List.length_eraseIdx_of_lt (by omega)]; omega
    · rw [ht, List.size_toArray]
      have h4 := Go.length_splice cur.toList (i * 3) ((fs.flatMap fileC).drop (i * 3 + 3)) (by rw [hd, hcl]; omega)
      rw [Go.length_splice _ _ _ (by rw [h4, hcl]; simp; omega), h4, hcl]
    · rw [ht, List.toList_toArray, show (n - 1) * 3 = n * 3 - 3 by omega, del_room cur.toList _ (i * 3) (n * 3) 3 ht hl (by omega) (by rw [hcl]; omega) _ rfl, flat_del]
end Go.Proofs.YtoamnifnfkgbiaaGreatDoor

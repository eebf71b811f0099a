/-
  The iterator of strings.SplitSeq(s, "/"): what it hands to a loop, piece by piece.
-/
import Derived.Test.YtoamnifnfkgbiaaGreatDoorSplitSeq
import Derived.Test.YtoamnifnfkgbiaaGreatDoorAgg
namespace Go.Proofs.YtoamnifnfkgbiaaGreatDoor
open Go.RowKit
attribute [local go_sem] Oper.semAt_some
set_option maxRecDepth 100000
set_option linter.unusedVariables false
/-- the length of the string in a cell -/
def strLen (w : World) (a : Addr) : Nat := match w.cell? a with | some (.string b) => b.size | _ => 0
theorem strLen_of {w : World} {a : Addr} {l : List UInt8} (h : w.cell? a = some (.string (bs l))) : strLen w a = l.length := by
  unfold strLen; rw [h]; exact bs_size l
set_option maxHeartbeats 4000000 in
theorem splitIt_any (n l Bs Bp Bv n₀ : Nat) (J : List UInt8 → World → Prop) (Jx : World → Prop) (hJ : ∀ z W W', J z W → W.grownBy W' (some Bs) → J z W')
    (hY : ∀ x t W1, J (x ++ 47 :: t) W1 → (∀ c ∈ x, c ≠ 47) → x.length ≤ 1099511627776 → YieldAt Fence.wide (n - 1) Tryz.prog l #[.string (bs x)] W1 fun e W' =>
      (e = .returned (.bool true) ∧ J t W' ∧ Below n₀ W1 W') ∨ (e = .returned (.bool false) ∧ Jx W'))
    (hs : Bs < n₀) (hp : Bp < n₀) (hv : Bv < n₀) (hne1 : Bp ≠ Bs) (hne2 : Bv ≠ Bs) (s : List UInt8) (W : World)
    (hBs : Blk W Bs 9 #[.string (bs s)]) (hBp : Blk W Bp 9 #[.string (bs [47])]) (hBv : Blk W Bv 3 #[.int .i64 0]) (h0 : J (s ++ [47]) W) (hlen : s.length ≤ 1099511627776) :
    CallsIn Fence.wide n Tryz.prog 211 #[.func (.yield l) #[] #[], .pointer (some ⟨Bp, 0, none⟩), .pointer (some ⟨Bs, 0, none⟩), .pointer (some ⟨Bv, 0, none⟩)] W fun e W' =>
      (∃ v, e = .returned v) ∧ (J [] W' ∨ Jx W') := by
  have HI := sec sIndex_any
  have HJ := sec hJ
  have HY := sec hY
  clear hJ hY
  refine callsIn_of_wp Tryz.func211 rfl trivial ?_ rfl
  simp only [Tryz.ntmps211, List.size_toArray, List.length_cons, List.length_nil, Nat.reduceAdd, Nat.reduceSub, Array.replicate_succ, Array.replicate_zero, List.push_toArray, List.append_toArray, List.nil_append, List.cons_append]
  have p0 : W.cell? ⟨Bp, 0, none⟩ = some (.string (bs [47])) := hBp.cell 0
  gi_wp2
  gi_loopw [7, 8] (fun _ _ wr => ∃ r : List UInt8, Blk wr Bs 9 #[.string (bs r)] ∧ Blk wr Bp 9 #[.string (bs [47])] ∧ Blk wr Bv 3 #[.int .i64 0] ∧ J (r ++ [47]) wr ∧ r.length ≤ 1099511627776)
    (fun _ _ wr => strLen wr ⟨Bs, 0, none⟩)
  case atStart => exact ⟨s, hBs, hBp, hBv, h0, hlen⟩
  case round =>
    clear p0 hBs hBp hBv h0 hlen
    obtain ⟨r, bS, bP, bV, hJr, hlen⟩ := hrel
    have c0 : wr.cell? ⟨Bs, 0, none⟩ = some (.string (bs r)) := bS.cell 0
    have c1 : wr.cell? ⟨Bp, 0, none⟩ = some (.string (bs [47])) := bP.cell 0
    have c2 : wr.cell? ⟨Bv, 0, none⟩ = some (.int .i64 0) := bV.cell 0
    rcases idx_split 47 r with ⟨hi, hx⟩ | ⟨x, t, rfl, hx, hi⟩
    · have HII : Sec (∀ w, Calls Tryz.prog 213 #[.string (bs r), .string (bs [47])] w fun e w' => e = .returned (.int .i64 (-1)) ∧ w = w') := sec (fun w => by have := HI.out r w; rwa [hi] at this)
      obtain ⟨fn, tmps, assign, body, hy, hR⟩ := HY.out r [] wr hJr hx hlen
      have HR := sec hR
      clear hi hx hJr hR
      gi_wp2_with (refine ⟨trivial, fun h => absurd h (by decide), ?_⟩; refine CallsIn.mono (callsIn_wide.2 (HII.out _)) ?_; rintro e w' ⟨rfl, rfl⟩)
      refine ⟨fun h => absurd h (by decide), RoundIn.mono HR.out ?_⟩
      rintro e W3 (⟨rfl, hJ3, hk3⟩ | ⟨rfl, hJx3⟩)
      · gi_wp2
        go_end0
        exact ⟨⟨_, rfl⟩, .inl hJ3⟩
      · gi_wp2
        go_end0
        exact ⟨⟨_, rfl⟩, .inr hJx3⟩
    · obtain ⟨k, hk⟩ : ∃ k, k = x.length := ⟨_, rfl⟩
      rw [← hk] at hi
      have HII : Sec (∀ w, Calls Tryz.prog 213 #[.string (bs (x ++ 47 :: t)), .string (bs [47])] w fun e w' => e = .returned (.int .i64 (k : Int)) ∧ w = w') := sec (fun w => by have := HI.out (x ++ 47 :: t) w; rwa [hi] at this)
      have hxl : x.length ≤ 1099511627776 := by rw [List.length_append, List.length_cons] at hlen; omega
      have htl : t.length < (x ++ 47 :: t).length := by rw [List.length_append, List.length_cons]; omega
      have hkl : k + 1 ≤ (x ++ 47 :: t).length := by rw [List.length_append, List.length_cons]; omega
      have e2 : x ++ 47 :: t ++ [47] = x ++ 47 :: (t ++ [47]) := by simp
      rw [e2] at hJr
      obtain ⟨fn, tmps, assign, body, hy, hR⟩ := HY.out x (t ++ [47]) wr hJr hx hxl
      have hT : (x ++ 47 :: t).take k = x := by rw [hk]; simp
      have hD : (x ++ 47 :: t).drop (k + 1) = t := by
        rw [hk, List.drop_append]
        have e3 : x.length + 1 - x.length = 1 := by omega
        rw [e3, List.drop_eq_nil_of_le (by omega)]; rfl
      obtain ⟨rr, hrr⟩ : ∃ rr, rr = x ++ 47 :: t := ⟨_, rfl⟩
      rw [← hrr] at HII bS c0 hlen htl hkl hT hD
      rw [← hT] at hy
      have hk0 : (k : Int) ≤ (rr.length : Int) := by omega
      have hk1 : (k : Int) + 1 ≤ (rr.length : Int) := by omega
      have HR := sec hR
      have HD := sec hD
      have HTL := sec htl
      have c0S := sec c0
      clear hi hx hJr hR hk hT hD hrr e2 hxl htl
      gi_wp2_with (refine ⟨trivial, fun h => absurd h (by decide), ?_⟩; refine CallsIn.mono (callsIn_wide.2 (HII.out _)) ?_; rintro e w' ⟨rfl, rfl⟩)
      refine ⟨fun h => absurd h (by decide), RoundIn.mono HR.out ?_⟩
      rintro e W3 (⟨rfl, hJ3, hk3⟩ | ⟨rfl, hJx3⟩)
      · have bS3 := bS.below hk3 hs
        have bP3 := bP.below hk3 hp
        have bV3 := bV.below hk3 hv
        have d0 : W3.cell? ⟨Bs, 0, none⟩ = some (.string (bs rr)) := bS3.cell 0
        have d1 : W3.cell? ⟨Bp, 0, none⟩ = some (.string (bs [47])) := bP3.cell 0
        have d2 : W3.frozen? ⟨Bs, 0, none⟩ = false := bS3.frozen 0
        have hJ4 := HJ.out _ _ _ hJ3 (grown_setCell W3 ⟨Bs, 0, none⟩ (.string (bs t)))
        have bS4 := bS3.set_ 0 (.string (bs t))
        have bP4 := bP3.far (p := ⟨Bs, 0, none⟩) hne1 (.string (bs t))
        have bV4 := bV3.far (p := ⟨Bs, 0, none⟩) hne2 (.string (bs t))
        have HQ := sec (And.intro hJ4 (And.intro bS4 (And.intro bP4 bV4)))
        clear hJ3 hk3 bS3 bP3 bV3 hJ4 bS4 bP4 bV4 bS bP bV c0 c1 c2 hy
        gi_wp2
        rw [HD.out]
        go_roundw
        case rel =>
          obtain ⟨h1, h2, h3, h4⟩ := HQ.out
          exact ⟨t, h2, h3, h4, h1, by have := HTL.out; omega⟩
        case measure =>
          have h5 := HQ.out.2.1.cell 0
          have h6 := strLen_of (a := ⟨Bs, 0, none⟩) h5
          have h7 := strLen_of (a := ⟨Bs, 0, none⟩) c0S.out
          have h8 := HTL.out
          rw [h6, h7]
          omega
      · gi_wp2
        refine bodyPost_ret (results_none rfl _ _ _) rfl ?_
        exact ⟨⟨_, rfl⟩, .inr hJx3⟩

theorem enters_fn {f : FuncId} {fn : Func} {c : Code} (hf : Tryz.prog.funcs[f]? = some fn) (hname : (fn.name == "runtime.NumGoroutine") = false) (hb : fn.body = some c) : ∀ args w, (callFunc f args).run Tryz.prog w = .ok (.enter f args) w := by
  intro args w
  have h1 : fn.name ≠ "runtime.NumGoroutine" := by simpa using hname
  simp [callFunc, hf, h1, hb, mark]
/-- how the body of a round may be left: it goes on, and nothing old has turned; or it returns, and one block of the caller's has turned -/
def splitPost (B : Nat) (I Ix : World → Prop) (W : World) : Exit → Act → World → Prop
  | .normal, _, W' => Gr W W' ∧ I W'
  | .ret, _, W' => ∃ r, r < B ∧ W.grownBy W' (some r) ∧ Ix W'
  | _, _, _ => False

/-- 'for piece := range strings.SplitSeq(s, "/") { .. }' -/
theorem wpIn_rangeSplit {g : Operand} {ps : Array Tmp} {assign body : Code} {Q : Exit → Act → World → Prop} {a : Act} {w : World} {n Bs Bp Bv : Nat}
    (hg : a.eval g = .func (.func 211) #[] #[.pointer (some ⟨Bp, 0, none⟩), .pointer (some ⟨Bs, 0, none⟩), .pointer (some ⟨Bv, 0, none⟩)]) (hps : ps.size = 1)
    (s : List UInt8) (hBs : Blk w Bs 9 #[.string (bs s)]) (hBp : Blk w Bp 9 #[.string (bs [47])]) (hBv : Blk w Bv 3 #[.int .i64 0]) (hne1 : Bp ≠ Bs) (hne2 : Bv ≠ Bs) (hlen : s.length ≤ 1099511627776)
    (I : List UInt8 → World → Prop) (Ix : World → Prop)
    (hI : ∀ z W W' r, I z W → W.grownBy W' r → (∀ k, r = some k → k = Bs ∨ w.heap.size ≤ k) → I z W')
    (hIx : ∀ W W' r, Ix W → W.grownBy W' r → (∀ k, r = some k → w.heap.size ≤ k) → Ix W')
    (h0 : I (s ++ [47]) w) (a₁ : List UInt8 → Act)
    (hassign : ∀ (l : Nat) (x : List UInt8) (W : World) (K : Act → World → Prop), K (a₁ x) W →
      assign.wpIn (Fence.wide.inRound l) (n - 1 - 1) Tryz.prog (Exit.then K (fun _ _ _ => False)) { tmps := (ps.zip #[.string (bs x)]).foldl (fun t (p, v) => t.setIfInBounds p v) a.tmps, defers := [] } W)
    (hbody : ∀ (l : Nat) (x t : List UInt8) (W : World), I (x ++ 47 :: t) W → (∀ c ∈ x, c ≠ 47) → x.length ≤ 1099511627776 → body.wpIn (Fence.wide.inRound l) (n - 1 - 1) Tryz.prog (splitPost w.heap.size (I t) Ix W) (a₁ x) W)
    (hdone : ∀ (D : Nat) (W : World), w.heap.size ≤ D → I [] W → W.heap[D]? = some (.deferred (some [])) → Q .normal { a with defers := { target := .collected D, args := #[] } :: a.defers } W)
    (hstop : ∀ (D : Nat) (W : World), w.heap.size ≤ D → Ix W → W.heap[D]? = some (.deferred (some [])) → Code.ret.wpIn Fence.wide n Tryz.prog Q { a with defers := { target := .collected D, args := #[] } :: a.defers } W) :
    (Code.rangeFunc g ps assign body).wpIn Fence.wide n Tryz.prog Q a w := by
  refine wpIn_rangeFunc ?_
  intro fn hfn
  have hro : Fence.wide.round = none := rfl
  rw [hro]
  obtain ⟨rec, hrec⟩ : ∃ rec : LoopState → Option Code → Loop, rec = fun st pe => { state := st, pending := pe, fn, tmps := a.tmps, params := ps, assign, body, defers := w.heap.size } := ⟨_, rfl⟩
  obtain ⟨W1, hW1⟩ : ∃ W1, (w.alloc (.deferred (some []))).alloc (.loop (rec .ready none)) = W1 := ⟨_, rfl⟩
  have hL1 : W1.heap[w.heap.size + 1]? = some (.loop (rec .ready none)) := by
    rw [← hW1]; have := World.alloc_heap_new (w.alloc (.deferred (some []))) (.loop (rec .ready none)); rwa [World.size_alloc] at this
  have hK1 : W1.heap[w.heap.size]? = some (.deferred (some [])) := by
    rw [← hW1]; exact (Below.heap_alloc _ _ _ (by simp)).trans (World.alloc_heap_new w _)
  have g1 : Gr w W1 := by rw [← hW1]; exact ((Gr.refl w).alloc _).alloc _
  have hI1 : I (s ++ [47]) W1 := hI _ _ _ none h0 ⟨g1.below.os, g1.below.tape, g1.below.output, g1.below.size, fun k hk _ => g1.below.block k hk⟩ (fun k e => by cases e)
  refine ⟨w.heap.size + 1, [{ target := .collected w.heap.size, args := #[] }], W1, { target := .fn (.func 211) #[.pointer (some ⟨Bp, 0, none⟩), .pointer (some ⟨Bs, 0, none⟩), .pointer (some ⟨Bv, 0, none⟩)], args := #[.func (.yield (w.heap.size + 1)) #[] #[]] }, W1, 211,
    #[.func (.yield (w.heap.size + 1)) #[] #[]] ++ #[.pointer (some ⟨Bp, 0, none⟩), .pointer (some ⟨Bs, 0, none⟩), .pointer (some ⟨Bv, 0, none⟩)], W1, ?_, ?_, ?_, ?_, fun h => absurd h (by decide), ?_⟩
  · rw [← hW1, hrec]; exact run_enterLoop_outer _ _ _ _ _
  · simp only [resolve, hg]
    simp [go_sem]
  · intro f' hf'; trivial
  · have eg : ∀ args w, (callFunc 211 args).run Tryz.prog w = .ok (.enter 211 args) w := enters_fn Tryz.func211 (by kernel_rfl) rfl
    simp [invoke, go_sem, eg]
  · refine (splitIt_any (n - 1) (w.heap.size + 1) Bs Bp Bv w.heap.size
      (fun z W => I z W ∧ W.heap[w.heap.size + 1]? = some (.loop (rec .ready none)) ∧ W.heap[w.heap.size]? = some (.deferred (some [])))
      (fun W => Ix W ∧ W.heap[w.heap.size + 1]? = some (.loop (rec .done (some .ret))) ∧ W.heap[w.heap.size]? = some (.deferred (some [])))
      (fun z W W' h hg' => ⟨hI _ _ _ _ h.1 hg' (fun k e => .inl (by cases e; rfl)), (hg'.block _ (Array.getElem?_eq_some_iff.1 h.2.1).1 (fun e => by have := hBs.lt; injection e with e; omega)).trans h.2.1, (hg'.block _ (Array.getElem?_eq_some_iff.1 h.2.2).1 (fun e => by have := hBs.lt; injection e with e; omega)).trans h.2.2⟩)
      ?_ hBs.lt hBp.lt hBv.lt hne1 hne2 s W1 (hBs.gr g1) (hBp.gr g1) (hBv.gr g1) ⟨hI1, hL1, hK1⟩ hlen).mono ?_
    · rintro x t W ⟨hi, hl, hk⟩ hx hxl
      have hlt : w.heap.size + 1 < W.heap.size := (Array.getElem?_eq_some_iff.1 hl).1
      have hy := run_yield (P := Tryz.prog) (args := #[.string (bs x)]) hl (by rw [hrec]; exact hps.symm)
      rw [hrec] at hy
      refine ⟨fn, _, assign, body, hy, roundIn_of_wpIn hfn (hassign _ x W _ ⟨_, run_beginRound hl (by rw [hrec]), ?_⟩)⟩
      have hl2 : (W.putObj (w.heap.size + 1) (.loop { rec .ready none with state := .busy })).heap[w.heap.size + 1]? = some (.loop { rec .ready none with state := .busy }) := World.putObj_heap_same hlt
      have hk2 : (W.putObj (w.heap.size + 1) (.loop { rec .ready none with state := .busy })).heap[w.heap.size]? = some (.deferred (some [])) := (World.putObj_heap_other (by omega)).trans hk
      have hg2 := grownBy_putObj' W (w.heap.size + 1) (.loop { rec .ready none with state := .busy })
      refine wpIn_mono (hbody _ x t _ (hI _ _ _ _ hi hg2 (fun k e => .inr (by cases e; omega))) hx hxl) ?_
      rintro e a3 W3 hp
      cases e with
      | normal =>
        obtain ⟨g3, hi3⟩ := hp
        have hl3 := (g3.below.block _ (Array.getElem?_eq_some_iff.1 hl2).1).trans hl2
        have hk3 := (g3.below.block _ (Array.getElem?_eq_some_iff.1 hk2).1).trans hk2
        have hr := run_endRound (P := Tryz.prog) none hl3
        have hg3 := grownBy_putObj' W3 (w.heap.size + 1) (.loop (rec .ready none))
        rw [hrec] at hr
        refine ⟨_, _, hr, .inl ⟨rfl, ⟨hI _ _ _ _ hi3 (grownBy_putObj' W3 (w.heap.size + 1) _) (fun k e => .inr (by cases e; omega)), ?_, ?_⟩, ?_⟩⟩
        · rw [hrec]; exact World.putObj_heap_same (Array.getElem?_eq_some_iff.1 hl3).1
        · exact (World.putObj_heap_other (by omega)).trans hk3
        · have b2 : Below w.heap.size W (W.putObj (w.heap.size + 1) (.loop { rec .ready none with state := .busy })) := (Below.refl _ W).grown hg2 (by omega) (fun k e => by cases e; omega)
          have b3 : Below w.heap.size (W.putObj (w.heap.size + 1) (.loop { rec .ready none with state := .busy })) W3 := Below.mono g3 (Nat.le_trans (Nat.le_of_lt (Nat.lt_of_succ_lt hlt)) hg2.size)
          have b4 := (Below.refl w.heap.size W3).grown (grownBy_putObj' W3 (w.heap.size + 1) (.loop (rec .ready none))) (by have := (Array.getElem?_eq_some_iff.1 hl3).1; omega) (fun k e => by cases e; omega)
          rw [hrec] at b4
          exact (b2.trans b3).trans b4
      | ret =>
        obtain ⟨r, hr0, g3, hi3⟩ := hp
        have hl3 := (g3.block _ (Array.getElem?_eq_some_iff.1 hl2).1 (fun e => by injection e with e; omega)).trans hl2
        have hk3 := (g3.block _ (Array.getElem?_eq_some_iff.1 hk2).1 (fun e => by injection e with e; omega)).trans hk2
        have hr := run_endRound (P := Tryz.prog) (some .ret) hl3
        rw [hrec] at hr
        refine ⟨_, _, hr, .inr ⟨rfl, hIx _ _ _ hi3 (grownBy_putObj' W3 (w.heap.size + 1) _) (fun k e => by cases e; omega), ?_, ?_⟩⟩
        · rw [hrec]; exact World.putObj_heap_same (Array.getElem?_eq_some_iff.1 hl3).1
        · exact (World.putObj_heap_other (by omega)).trans hk3
      | exit id => exact hp.elim
      | goto t => exact hp.elim
      | panic ch => exact hp.elim
      | outgrown => exact hp.elim
    · rintro e W2 ⟨⟨v, rfl⟩, (⟨hi, hl, hk⟩ | ⟨hi, hl, hk⟩)⟩
      · exact ⟨none, _, by have := run_endLoop (P := Tryz.prog) hl (by rw [hrec]; simp); rw [hrec] at this; exact this, hdone _ _ (Nat.le_refl _) (hI _ _ _ _ hi (grownBy_putObj' W2 (w.heap.size + 1) _) (fun k e => .inr (by cases e; omega))) ((World.putObj_heap_other (by omega)).trans hk)⟩
      · exact ⟨some .ret, _, by have := run_endLoop (P := Tryz.prog) hl (by rw [hrec]; simp); rw [hrec] at this; exact this, hstop _ _ (Nat.le_refl _) (hIx _ _ _ hi (grownBy_putObj' W2 (w.heap.size + 1) _) (fun k e => by cases e; omega)) ((World.putObj_heap_other (by omega)).trans hk)⟩
end Go.Proofs.YtoamnifnfkgbiaaGreatDoor

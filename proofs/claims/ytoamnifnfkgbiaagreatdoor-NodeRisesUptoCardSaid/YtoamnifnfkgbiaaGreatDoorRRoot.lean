/-
  cartularyref.Root by its contract.
-/
import Derived.Test.YtoamnifnfkgbiaaGreatDoorMerkR
import Derived.Test.YtoamnifnfkgbiaaGreatDoorMerkRL
import Derived.Test.YtoamnifnfkgbiaaGreatDoorMerk
import Derived.Test.YtoamnifnfkgbiaaGreatDoorLies
import Derived.StillTailTactics
import Derived.Deep.RegionHeld3
namespace Go.Proofs.YtoamnifnfkgbiaaGreatDoor
open Go.RowKit
set_option linter.unusedVariables false
theorem E.tree : ElemOk 168 170 (.agg #[.int .i64 0, .string (bs [])]) 2 24 := ⟨Tryz.underlying168, by kernel_rfl, rfl, by omega⟩
theorem A.tree : AggOk 170 2 := ⟨⟨_, Tryz.underlying170, rfl⟩, by kernel_rfl⟩
def treeC (t : Tree) : List Value := [.int .i64 (t.1 : Int), .string (bs t.2)]
/-- the newest last -/
def treesV (st : List Tree) : List Value := st.reverse.flatMap treeC
theorem treesV_len (st : List Tree) : (treesV st).length = st.length * 2 := by
  unfold treesV
  rw [flat_len treeC 2 (fun _ => rfl), List.length_reverse]
theorem treesV_cons (t : Tree) (st : List Tree) : treesV (t :: st) = treesV st ++ treeC t := by
  unfold treesV
  rw [List.reverse_cons, List.flatMap_append]
  simp
theorem treesV_append (a b : List Tree) : treesV (a ++ b) = treesV b ++ treesV a := by
  unfold treesV
  rw [List.reverse_append, List.flatMap_append]
def sliceLen2 : Value → Nat
  | .slice _ n _ => n
  | _ => 0

/-- where the pushing of a tree stands -/
def Pushing (l : List (List UInt8)) (st : List Tree) (n : Nat) (r : List UInt8) : Prop := ∃ l1 l2 h, l = l1 ++ l2 ∧ l2.length = 2 ^ h ∧ n = 2 ^ h ∧ r = rootL l2 ∧ Inv st l1 ∧ headGe (2 ^ h) st
theorem Pushing.start {l : List (List UInt8)} {st : List Tree} (h : Inv st l) (s : List UInt8) : Pushing (l ++ [s]) st 1 (leafH s) := ⟨l, [s], 0, rfl, rfl, rfl, (rootL_one s).symm, h, headGe_one h⟩
theorem Pushing.le {l : List (List UInt8)} {st : List Tree} {n : Nat} {r : List UInt8} (h : Pushing l st n r) : n ≤ l.length ∧ r.length = 32 := by
  obtain ⟨l1, l2, k, rfl, h1, rfl, rfl, _⟩ := h
  exact ⟨by rw [List.length_append]; omega, rootL_len _⟩
theorem inv_mem : ∀ {st : List Tree} {l : List (List UInt8)}, Inv st l → ∀ t ∈ st, t.1 ≤ l.length ∧ t.2.length = 32
  | _, _, .nil, t, h => by cases h
  | _, _, .cons (l1 := l1) (l2 := l2) hl hi hg, t, h => by
    rcases List.mem_cons.1 h with rfl | h
    · exact ⟨by rw [List.length_append]; omega, rootL_len _⟩
    · have := inv_mem hi t h
      exact ⟨by rw [List.length_append]; omega, this.2⟩
theorem Pushing.mem {l : List (List UInt8)} {st : List Tree} {n : Nat} {r : List UInt8} (h : Pushing l st n r) : ∀ t ∈ st, t.1 ≤ l.length ∧ t.2.length = 32 := by
  obtain ⟨l1, l2, k, rfl, h1, rfl, rfl, hi, _⟩ := h
  intro t ht
  have := inv_mem hi t ht
  exact ⟨by rw [List.length_append]; omega, this.2⟩
theorem Inv.uncons {t : Tree} {st : List Tree} {l : List (List UInt8)} (h : Inv (t :: st) l) : ∃ l1 l2 k, l = l1 ++ l2 ∧ l2.length = 2 ^ k ∧ t = (2 ^ k, rootL l2) ∧ Inv st l1 ∧ headGe (2 * 2 ^ k) st := by
  generalize hx : t :: st = st0 at h
  cases h with
  | nil => cases hx
  | @cons _ a b k hb ha hg =>
    injection hx with h1 h2
    subst h1 h2
    exact ⟨a, b, k, rfl, hb, rfl, ha, hg⟩
theorem Pushing.step {l : List (List UInt8)} {st : List Tree} {n : Nat} {r s : List UInt8} (h : Pushing l ((n, s) :: st) n r) : Pushing l st (2 * n) (nodeH s r) := by
  obtain ⟨l1, l2, k, rfl, h1, rfl, rfl, hi, _⟩ := h
  obtain ⟨a, b, k', rfl, hb, e, ha, hgb⟩ := hi.uncons
  injection e with e1 e2
  subst e2
  have hp := Nat.two_pow_pos k
  have e3 : 2 * 2 ^ k = 2 ^ (k + 1) := by rw [Nat.pow_succ]; omega
  refine ⟨a, b ++ l2, k + 1, by rw [List.append_assoc], by rw [List.length_append, hb, ← e1, h1]; omega, e3, (rootL_join (hb.trans e1.symm) (by omega) (by omega)).symm, ha, ?_⟩
  rw [← e3, e1]; exact hgb
theorem Pushing.done {l : List (List UInt8)} {st : List Tree} {n : Nat} {r : List UInt8} (h : Pushing l st n r) (hh : headGe (2 * n) st) : Inv ((n, r) :: st) l := by
  obtain ⟨l1, l2, k, rfl, h1, rfl, rfl, hi, _⟩ := h
  exact Inv.cons h1 hi hh
theorem Pushing.done2 {l : List (List UInt8)} {st : List Tree} {n m : Nat} {r s : List UInt8} (h : Pushing l ((m, s) :: st) n r) (hne : m ≠ n) : Inv ((n, r) :: (m, s) :: st) l := by
  have h0 := h
  obtain ⟨l1, l2, k, rfl, h1, rfl, rfl, hi, hg⟩ := h
  refine h0.done ?_
  obtain ⟨a, b, k', _, hb, e, _, _⟩ := hi.uncons
  injection e with e1 e2
  have hle : 2 ^ k ≤ m := hg
  have hlt : k < k' := (Nat.pow_lt_pow_iff_right (a := 2) (by omega)).1 (by omega)
  have : 2 ^ (k + 1) ≤ 2 ^ k' := Nat.pow_le_pow_right (by omega) hlt
  show 2 * 2 ^ k ≤ m
  rw [Nat.pow_succ] at this
  omega
theorem push_step {n : Nat} {r s : List UInt8} {st : List Tree} : pushT n r ((n, s) :: st) = pushT (2 * n) (nodeH s r) st := by rw [pushT, if_pos rfl]
theorem push_end {n m : Nat} {r s : List UInt8} {st : List Tree} (h : m ≠ n) : pushT n r ((m, s) :: st) = (n, r) :: (m, s) :: st := by rw [pushT, if_neg h]

/-- a shorter row of the same block -/
theorem own_take {w : World} {B e size n cap k : Nat} {A : Option Addr} {xs : List Value} (h : w.ownsRow B e size (.slice A n cap) n xs) (hk : k ≤ n) (hn : 0 < n) : w.ownsRow B e size (.slice A k cap) k (xs.take (k * size)) := by
  have hle : k * size ≤ n * size := Nat.mul_le_mul_right _ hk
  rcases h.2 with ⟨_, h0⟩ | ⟨g, cap', cur, hv, hB, hh, hc, hm, hs, ht⟩
  · omega
  · injection hv with e1 _ e3
    subst e1 e3
    refine ⟨by rw [List.length_take, h.1]; omega, .inr ⟨g, cap, cur, rfl, hB, hh, by omega, hm, hs, ?_⟩⟩
    rw [← ht, List.take_take, show min (k * size) (n * size) = k * size by omega]

set_option maxRecDepth 100000 in
set_option maxHeartbeats 4000000 in
theorem rroot_any (ss : List (List UInt8)) (m : Nat) (A0 : Option Addr) (cap0 : Nat) (w : World) (hm : m ≤ 1099511627776) (hrow : StrRow w A0 m ss) (hs : Short ss) :
    Calls Tryz.prog 91 #[.slice A0 m cap0] w fun e w' => e = .returned (.string (bs (rootL ss))) ∧ Gr w w' := by
  have hlen := hrow.len
  have HROW := sec hrow
  have HSH := sec hs
  clear hrow hs
  go_enter Tryz.func91, Tryz.ntmps91
  go_wp2_with fail
  rw [show ({ data := #[] } : ByteArray) = bs [] from rfl]
  go_loopw [3, 12, 5, 6, 7] (fun v jv _ _ _ wr => ∃ (j K : Nat) (st : List Tree) (A : Option Addr) (cap : Nat), jv = .int .i64 (j : Int) ∧ j ≤ m ∧ v = .slice A K cap ∧ K ≤ j ∧ Sec (st.length = K) ∧ Sec (st = stackL (ss.take j)) ∧ Sec (Inv st (ss.take j)) ∧ wr.ownsRow w.heap.size 170 2 (.slice A K cap) K (treesV st) ∧ Gr w wr)
    (fun _ jv _ _ _ _ => m - (intOf jv).toNat)
  case atStart => exact ⟨0, 0, [], none, 0, rfl, by omega, rfl, by omega, sec rfl, sec rfl, sec .nil, World.ownsRow_nil _ _ _ _, Gr.refl _⟩
  case round =>
    obtain ⟨j, K, st, A, cap, rfl, hj, rfl, hsl, HK, HST, HI, hown, hg⟩ := hrel
    by_cases hlt : j < m
    · have hji : (j : Int) < (m : Int) := by omega
      have hjp : j < ss.length := by omega
      obtain ⟨b, off, rfl, hc⟩ := (HROW.out.gr hg).cell hjp
      have hpl := HSH.out ss[j] (List.getElem_mem hjp)
      have hPu := HI.out
      have hpu : Pushing (ss.take (j + 1)) st 1 (leafH ss[j]) := by rw [List.take_succ_eq_append_getElem hjp]; exact Pushing.start HI.out _
      have hst' : stackL (ss.take (j + 1)) = pushT 1 (leafH ss[j]) st := by
        unfold stackL
        rw [List.take_succ_eq_append_getElem hjp, List.foldl_append, List.foldl_cons, List.foldl_nil]
        have := HST.out
        unfold stackL at this
        rw [← this]
      obtain ⟨p, hp⟩ : ∃ p, p = ss[j] := ⟨_, rfl⟩
      rw [← hp] at hc hpl hpu hst'
      have HPU := sec hpu
      have HS2 := sec hst'
      have HL := sec (rleaf_any p · hpl)
      clear hp hjp hpu hst' hPu HST HI hpl
      go_wp2_with (go_at_call 137; refine Calls.mono (HL.out _) ?_; rintro e w1 ⟨rfl, g1⟩)
      have h2 := Blk.new w1 170 #[.int .i64 1, .string (bs (leafH p))]
      have hown2 := (own_gr hown g1).alloc (.cells #[.int .i64 1, .string (bs (leafH p))] 170)
      have hg02 := (hg.trans g1).alloc (.cells #[.int .i64 1, .string (bs (leafH p))] 170)
      have hne : Value.ownBlock (.slice A K cap) ≠ some w1.heap.size := by intro e; have := ((own_gr hown g1).lt _ e).2; omega
      have hqb : w.heap.size ≤ w1.heap.size := (hg.trans g1).size
      obtain ⟨w2, hw2⟩ : ∃ w2, w2 = w1.alloc (.cells #[.int .i64 1, .string (bs (leafH p))] 170) := ⟨_, rfl⟩
      rw [← hw2] at h2 hown2 hg02
      rw [← hw2]
      obtain ⟨q, hq⟩ : ∃ q, q = w1.heap.size := ⟨_, rfl⟩
      rw [← hq] at h2 hne hqb
      rw [← hq]
      have HB := sec h2
      have HO := sec hown2
      have HG := sec hg02
      have HNE := sec hne
      clear hq h2 hown2 hg02 hne hw2 hown hg hc g1 HL
      obtain ⟨wo, hwo⟩ : ∃ wo : World, wo = wr := ⟨_, rfl⟩
      clear hwo
      go_loopw [3, 7] (fun v _ wr => ∃ (n K : Nat) (r : List UInt8) (st' : List Tree) (A : Option Addr) (cap : Nat), v = .slice A K cap ∧ K ≤ j ∧ Sec (st'.length = K) ∧ Sec (Pushing (ss.take (j + 1)) st' n r) ∧ Sec (pushT n r st' = pushT 1 (leafH p) st) ∧ wr.ownsRow w.heap.size 170 2 (.slice A K cap) K (treesV st') ∧ Value.ownBlock (.slice A K cap) ≠ some q ∧ Blk wr q 170 #[.int .i64 (n : Int), .string (bs r)] ∧ Gr w wr)
        (fun v _ _ => sliceLen2 v)
      case atStart => exact ⟨1, K, leafH p, st, A, cap, rfl, hsl, HK, HPU, sec rfl, HO.out, HNE.out, HB.out, HG.out⟩
      case round =>
        clear HB HO HG HNE
        obtain ⟨n, K, r, st', A, cap, rfl, hsl', HK', HP, HE, hown, hne, hB, hg⟩ := hrel
        have hle := HP.out.le
        have hjl : (ss.take (j + 1)).length = j + 1 := by rw [List.length_take]; omega
        rw [hjl] at hle
        have c0 : wr.cell? ⟨q, 0, none⟩ = some (.int .i64 (n : Int)) := hB.cell 0
        have c1 : wr.cell? ⟨q, 1, none⟩ = some (.string (bs r)) := hB.cell 1
        have HM := sec HP.out.mem
        rw [hjl] at HM
        cases st' with
        | nil =>
          obtain rfl : K = 0 := HK'.out.symm
          clear hle hjl HM
          go_wp2_with fail
          go_quiet (fail)
          obtain ⟨wq, hwq⟩ : ∃ wq, wq = wr.drewN nq := ⟨_, rfl⟩
          have hgq : Gr w wq := by rw [hwq]; exact hg.drewN nq
          have hownq : wq.ownsRow w.heap.size 170 2 (.slice A 0 cap) 0 (treesV []) := by rw [hwq]; exact hown
          have c0q : wq.cell? ⟨q, 0, none⟩ = some (.int .i64 (n : Int)) := by rw [hwq]; exact c0
          have c1q : wq.cell? ⟨q, 1, none⟩ = some (.string (bs r)) := by rw [hwq]; exact c1
          rw [← hwq]
          clear hwq hown hg c0 c1 hB hne
          have hb1 : (0 + 1) * 24 ≤ 140737488355328 := by omega
          have hb2 : 0 + 1 ≤ maxLen := by unfold maxLen; omega
          go_wp2_with (refine wpList_append_new E.tree rfl (.tmp 54) (.tmp 56) rfl rfl hownq rfl rfl (by simp [Value.oneCell']) (by omega) hb1 hb2 hgq ?_; intro g' cap2 w' hown' hg')
          go_roundw
          case rel =>
            refine ⟨j + 1, 0 + 1, (n, r) :: [], some ⟨g', 0, none⟩, cap2, by go_num, by omega, by go_num, by omega, sec (by rfl), sec ?_, sec ?_, ?_, hg'⟩
            · rw [HS2.out, ← HE.out, pushT]
            · have := HP.out.done trivial; exact this
            · rw [treesV_cons]; exact hown'
          case measure => simp [intOf]; omega
        | cons x st2 =>
          obtain ⟨m2, s2⟩ := x
          obtain ⟨k2, rfl⟩ : ∃ k2, K = k2 + 1 := ⟨st2.length, HK'.out.symm⟩
          have hx := HM.out (m2, s2) (by simp)
          obtain ⟨g, cap', e, hgb, hgl⟩ := hown.form (by omega)
          injection e with e1 _ e3
          subst e1 e3
          have hcs := hown.cells (g := g) rfl
          have d0 : wr.cell? ⟨g, k2 * 2, none⟩ = some (.int .i64 (m2 : Int)) := by
            have := hcs (k2 * 2) (.int .i64 (m2 : Int)) (by
              rw [treesV_cons, List.getElem?_append_right (by rw [treesV_len]; have := HK'.out; simp at this; omega), treesV_len]
              have : st2.length = k2 := by have := HK'.out; simpa using this
              rw [this, Nat.sub_self]; rfl)
            rwa [add_zero_block] at this
          have d1 : wr.cell? ⟨g, k2 * 2 + 1, none⟩ = some (.string (bs s2)) := by
            have := hcs (k2 * 2 + 1) (.string (bs s2)) (by
              rw [treesV_cons, List.getElem?_append_right (by rw [treesV_len]; have := HK'.out; simp at this; omega), treesV_len]
              have : st2.length = k2 := by have := HK'.out; simpa using this
              rw [this, Nat.add_sub_cancel_left]; rfl)
            rwa [add_zero_block] at this
          clear hcs hjl HM
          have hk0 : 0 < (k2 : Int) + 1 := by omega
          by_cases hmn : m2 = n
          · subst hmn
            go_wp2_with fail
            go_quiet (fail)
            obtain ⟨wq, hwq⟩ : ∃ wq, wq = wr.drewN nq := ⟨_, rfl⟩
            have hgq : Gr w wq := by rw [hwq]; exact hg.drewN nq
            have hownq : wq.ownsRow w.heap.size 170 2 (.slice (some ⟨g, 0, none⟩) (k2 + 1) cap) (k2 + 1) (treesV ((m2, s2) :: st2)) := by rw [hwq]; exact hown
            have hBq : Blk wq q 170 #[.int .i64 (m2 : Int), .string (bs r)] := by rw [hwq]; exact hB
            have d0q : wq.cell? ⟨g, k2 * 2, none⟩ = some (.int .i64 (m2 : Int)) := by rw [hwq]; exact d0
            have d1q : wq.cell? ⟨g, k2 * 2 + 1, none⟩ = some (.string (bs s2)) := by rw [hwq]; exact d1
            have hkc : (k2 : Int) ≤ (cap : Int) := by
              rcases hownq.2 with ⟨h, _⟩ | ⟨_, _, _, e, _, _, h, _⟩
              · cases h
              · injection e with _ _ e; omega
            have hownt : wq.ownsRow w.heap.size 170 2 (.slice (some ⟨g, 0, none⟩) k2 cap) k2 (treesV st2) := by
              have := own_take hownq (k := k2) (by omega) (by omega)
              rw [treesV_cons, List.take_left' (by rw [treesV_len]; have := HK'.out; simp at this; omega)] at this
              exact this
            have hneq : g ≠ q := by simpa [Value.ownBlock] using hne
            have hne9 : Value.ownBlock (.slice (some ⟨g, 0, none⟩) k2 cap) ≠ some q := by simpa [Value.ownBlock] using hneq
            rw [← hwq]
            clear hwq hown hg c0 c1 hB hne d0 d1 hownq
            go_wp2_with fail
            have hB7 := hBq.alloc (.cells #[.int .i64 (m2 : Int), .string (bs s2)] 170)
            have hown7 := hownt.alloc (.cells #[.int .i64 (m2 : Int), .string (bs s2)] 170)
            have hg7 := hgq.alloc (.cells #[.int .i64 (m2 : Int), .string (bs s2)] 170)
            have hU7 := Blk.new wq 170 #[.int .i64 (m2 : Int), .string (bs s2)]
            obtain ⟨w7, hw7⟩ : ∃ w7, w7 = wq.alloc (.cells #[.int .i64 (m2 : Int), .string (bs s2)] 170) := ⟨_, rfl⟩
            obtain ⟨q7, hq7⟩ : ∃ q7, q7 = wq.heap.size := ⟨_, rfl⟩
            rw [← hw7] at hB7 hown7 hg7 hU7
            rw [← hq7] at hU7
            rw [← hw7, ← hq7]
            have c70 : w7.cell? ⟨q, 0, none⟩ = some (.int .i64 (m2 : Int)) := hB7.cell 0
            have c71 : w7.cell? ⟨q, 1, none⟩ = some (.string (bs r)) := hB7.cell 1
            have u71 : w7.cell? ⟨q7, 1, none⟩ = some (.string (bs s2)) := hU7.cell 1
            have f70 := hB7.frozen 0
            have f71 := hB7.frozen 1
            have HT := sec (fun w => rtwo_any s2 r w (by omega) (by omega))
            have hwr : IntKind.i64.wrap (2 * (m2 : Int)) = 2 * (m2 : Int) := IntWalk.i64_in _ (by omega)
            clear hw7 hq7 hBq hownt hgq d0q d1q
            go_region_with (go_at_call 138; refine (HT.out _).mono ?_; rintro e w8 ⟨rfl, g8⟩; have gg8 : Gr w7 w8 := Gr.trans (Gr.refl _).drew g8; have c80 : w8.cell? ⟨q, 0, none⟩ = some (.int .i64 (m2 : Int)) := (hB7.gr gg8).cell 0; have c81 : w8.cell? ⟨q, 1, none⟩ = some (.string (bs r)) := (hB7.gr gg8).cell 1; have u81 : w8.cell? ⟨q7, 1, none⟩ = some (.string (bs s2)) := (hU7.gr gg8).cell 1; have f80 := (hB7.gr gg8).frozen 0; have f81 := (hB7.gr gg8).frozen 1)
            all_goals
              have hB9 := ((hB7.gr gg8).set_ 0 (.int .i64 (2 * (m2 : Int)))).set_ 1 (.string (bs (nodeH s2 r)))
              have hown9 : ((w8.setCell ⟨q, 0, none⟩ (.int .i64 (2 * (m2 : Int)))).setCell ⟨q, 1, none⟩ (.string (bs (nodeH s2 r)))).ownsRow w.heap.size 170 2 (.slice (some ⟨g, 0, none⟩) k2 cap) k2 (treesV st2) :=
                ((own_gr hown7 gg8).kept (grown_setCell _ _ _) (.inr (by simpa [Value.ownBlock] using hneq))).kept (grown_setCell _ _ _) (.inr (by simpa [Value.ownBlock] using hneq))
              have hg9 := ((hg7.trans gg8).setCell (p := ⟨q, 0, none⟩) hqb (.int .i64 (2 * (m2 : Int)))).setCell (p := ⟨q, 1, none⟩) hqb (.string (bs (nodeH s2 r)))
              clear hwr
              go_wp2_with fail
              go_roundw
              case rel =>
                refine ⟨2 * m2, k2, nodeH s2 r, st2, _, cap, rfl, by omega, sec (by have := HK'.out; simpa using this), sec HP.out.step, sec (by rw [← HE.out, push_step]), hown9, hne9, ?_, hg9⟩
                exact hB9
              case measure => simp [sliceLen2]
          · have t1 : ((m2 : Int) == (n : Int)) = false := by rw [beq_eq_false_iff_ne]; omega
            go_wp2_with fail
            go_quiet (fail)
            obtain ⟨wq, hwq⟩ : ∃ wq, wq = wr.drewN nq := ⟨_, rfl⟩
            have hgq : Gr w wq := by rw [hwq]; exact hg.drewN nq
            have hownq : wq.ownsRow w.heap.size 170 2 (.slice (some ⟨g, 0, none⟩) (k2 + 1) cap) (k2 + 1) (treesV ((m2, s2) :: st2)) := by rw [hwq]; exact hown
            have c0q : wq.cell? ⟨q, 0, none⟩ = some (.int .i64 (n : Int)) := by rw [hwq]; exact c0
            have c1q : wq.cell? ⟨q, 1, none⟩ = some (.string (bs r)) := by rw [hwq]; exact c1
            rw [← hwq]
            clear hwq hown hg c0 c1 hB hne
            have hb1 : ((k2 + 1) + 1) * 24 ≤ 140737488355328 := by omega
            have hb2 : (k2 + 1) + 1 ≤ maxLen := by unfold maxLen; omega
            go_wp2_with (refine wpList_append_new E.tree rfl (.tmp 54) (.tmp 56) rfl rfl hownq rfl rfl (by simp [Value.oneCell']) (by omega) hb1 hb2 hgq ?_; intro g' cap2 w' hown' hg')
            go_roundw
            case rel =>
              refine ⟨j + 1, (k2 + 1) + 1, (n, r) :: ((m2, s2) :: st2), some ⟨g', 0, none⟩, cap2, by go_num, by omega, by go_num, by omega, sec (by have := HK'.out; simp at this ⊢; omega), sec ?_, sec ?_, ?_, hg'⟩
              · rw [HS2.out, ← HE.out, push_end hmn]
              · exact HP.out.done2 hmn
              · rw [treesV_cons]; exact hown'
            case measure => simp [intOf]; omega
    · obtain rfl : j = m := by omega
      have hst : st = stackL ss := by have := HST.out; rwa [List.take_of_length_le (by omega)] at this
      have hfold := fold_stack ss
      rw [← hst] at hfold
      have HMEM := sec (inv_mem HI.out)
      clear hst HST HI hlt hj
      cases st with
      | nil =>
        obtain rfl : K = 0 := HK.out.symm
        have HF : Sec (rootL ss = sha []) := sec hfold.symm
        clear hfold HMEM
        go_wp2_with (go_at_call 57; refine (rsum_any [] _ (by simp)).mono ?_; rintro e w1 ⟨rfl, g1⟩)
        go_ret
        exact ⟨by rw [HF.out]; rfl, hg.trans g1⟩
      | cons x st0 =>
        obtain ⟨m0, r0⟩ := x
        have HFO : Sec (st0.foldl (fun acc x => nodeH x.2 acc) r0 = rootL ss) := sec hfold
        obtain ⟨k, rfl⟩ : ∃ k, K = k + 1 := ⟨st0.length, HK.out.symm⟩
        have hr0 : r0.length = 32 := (HMEM.out (m0, r0) (by simp)).2
        have hk : st0.length = k := by have := HK.out; simpa using this
        obtain ⟨g, cap', e, hgb, hgl⟩ := hown.form (by omega)
        injection e with e1 _ e3
        subst e1 e3
        have hcs := hown.cells (g := g) rfl
        have d1 : wr.cell? ⟨g, k * 2 + 1, none⟩ = some (.string (bs r0)) := by
          have := hcs (k * 2 + 1) (.string (bs r0)) (by
            rw [treesV_cons, List.getElem?_append_right (by rw [treesV_len, hk]; omega), treesV_len, hk, Nat.add_sub_cancel_left]; rfl)
          rwa [add_zero_block] at this
        have t0 : ((k : Int) + 1 == 0) = false := by rw [beq_eq_false_iff_ne]; omega
        have HC := sec hcs
        have HKL := sec hk
        clear hcs hfold hk
        go_wp2_with fail
        obtain ⟨wz, hwz⟩ : ∃ wz : World, wz = wr := ⟨_, rfl⟩
        rw [← hwz] at hg hgl HC
        rw [← hwz]
        clear hwz hown d1 t0
        have hk1 : ((k : Int) + 1 - 2) = (k : Int) - 1 := by omega
        rw [hk1]
        clear hk1
        go_loopw [8, 9] (fun v iv w9 => ∃ (k' : Nat) (I : Int) (acc : List UInt8) (st' pre : List Tree), v = .string (bs acc) ∧ iv = .int .i64 I ∧ I = (k' : Int) - 1 ∧ k' ≤ k ∧ Sec (st'.length = k') ∧ Sec (st0 = pre ++ st') ∧ Sec (st'.foldl (fun acc x => nodeH x.2 acc) acc = rootL ss) ∧ acc.length = 32 ∧ Gr wz w9)
          (fun _ iv _ => (intOf iv + 1).toNat)
        case atStart => exact ⟨k, (k : Int) - 1, r0, st0, [], rfl, rfl, rfl, by omega, HKL, sec rfl, HFO, hr0, Gr.refl _⟩
        case round =>
          obtain ⟨k', I, acc, st', pre, rfl, rfl, hI, hk', HL', HPRE, HF', hacc, hgz⟩ := hrel
          cases st' with
          | nil =>
            obtain rfl : k' = 0 := HL'.out.symm
            obtain rfl : I = -1 := by omega
            have HF : Sec (rootL ss = acc) := sec HF'.out.symm
            clear hI
            go_wp2_with fail
            go_ret
            exact ⟨by rw [HF.out]; rfl, hg.trans hgz⟩
          | cons x st1 =>
            obtain ⟨m1, r1⟩ := x
            obtain ⟨k1, rfl⟩ : ∃ k1, k' = k1 + 1 := ⟨st1.length, HL'.out.symm⟩
            have hk1 : st1.length = k1 := by have := HL'.out; simpa using this
            have hr1 : r1.length = 32 := (HMEM.out (m1, r1) (by rw [HPRE.out]; simp)).2
            obtain rfl : I = (k1 : Int) := by omega
            have d1 : wr.cell? ⟨g, k1 * 2 + 1, none⟩ = some (.string (bs r1)) := by
              rw [hgz.cells.1 g _ hgl]
              have := HC.out (k1 * 2 + 1) (.string (bs r1)) (by
                rw [HPRE.out, ← List.cons_append, treesV_append, treesV_cons, List.append_assoc, List.getElem?_append_right (by rw [treesV_len, hk1]; omega), treesV_len, hk1, Nat.add_sub_cancel_left]; rfl)
              rwa [add_zero_block] at this
            have h0i : 0 ≤ (k1 : Int) := by omega
            have hki : (k1 : Int) < (k : Int) + 1 := by omega
            have HT := sec (fun w => rtwo_any r1 acc w (by omega) (by omega))
            have HFN : Sec (st1.foldl (fun acc x => nodeH x.2 acc) (nodeH r1 acc) = rootL ss) := sec HF'.out
            have HKK := sec hk1
            have HKE := sec hk'
            clear hI hk1 hk'
            go_wp2_with (go_at_call 138; with_reducible refine Calls.mono (HT.out _) ?_; rintro e w8 ⟨rfl, g8⟩)
            go_roundw
            case rel => exact ⟨k1, (k1 : Int) - 1, nodeH r1 acc, st1, pre ++ [(m1, r1)], rfl, by go_num, by rfl, by have := HKE.out; omega, HKK, sec (by rw [HPRE.out, List.append_assoc]; rfl), HFN, nodeH_len _ _, hgz.trans g8⟩
            case measure => simp [intOf]
end Go.Proofs.YtoamnifnfkgbiaaGreatDoor

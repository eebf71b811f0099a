/-
  ref.put by its contract.
-/
import Derived.Test.YtcfghoohdlljkaaDiskRename
namespace Go.Proofs.Ytcfghoohdlljkaa
open Go.RowKit
set_option linter.unusedVariables false

def putStep (f : Fl) (st : List Fl × Bool) (x : Fl) : List Fl × Bool :=
  if x.1 == f.1 then st else if (!st.2 && ltB f.1 x.1) then (st.1 ++ [f] ++ [x], true) else (st.1 ++ [x], st.2)
def putGo (f : Fl) (l : List Fl) : List Fl × Bool := l.foldl (putStep f) ([], false)
def putF (f : Fl) (l : List Fl) : List Fl := if (putGo f l).2 then (putGo f l).1 else (putGo f l).1 ++ [f]
theorem putGo_succ (f : Fl) (l : List Fl) (i : Nat) (h : i < l.length) : putGo f (l.take (i + 1)) = putStep f (putGo f (l.take i)) l[i] := by
  unfold putGo
  rw [List.take_succ_eq_append_getElem h, List.foldl_append]
  rfl
theorem putStep_len (f : Fl) (st : List Fl × Bool) (x : Fl) : (putStep f st x).1.length ≤ st.1.length + 2 := by
  unfold putStep
  split
  · omega
  · split <;> simp

set_option maxRecDepth 100000 in
set_option maxHeartbeats 4000000 in
theorem put_any (l : List Fl) (fn sf tl : List UInt8) (A : Option Addr) (n cap : Nat) (w : World) (hn : n ≤ 1099511627776) (hx : FRow w A n l) :
    Calls Try.prog 57 #[.slice A n cap, .agg #[.string (bs fn), .string (bs sf), .string (bs tl)]] w fun e w' =>
      ∃ A' n' cap', e = .returned (.slice A' n' cap') ∧ w'.ownsRow w.heap.size 70 3 (.slice A' n' cap') n' ((putF (fn, sf, tl) l).flatMap fileC) ∧ Gr w w' := by
  have hl := hx.len
  have hg0 := (Gr.refl w).alloc (.cells #[.string (bs fn), .string (bs sf), .string (bs tl)] 70)
  have hb1 := Blk.new w 70 #[.string (bs fn), .string (bs sf), .string (bs tl)]
  have hx1 := hx.gr hg0
  go_enter Try.func57, Try.ntmps57
  go_wp2_with fail
  obtain ⟨wa, hwa⟩ : ∃ x, x = w.alloc (.cells #[.string (bs fn), .string (bs sf), .string (bs tl)] 70) := ⟨_, rfl⟩
  obtain ⟨p, hp⟩ : ∃ p, p = w.heap.size := ⟨_, rfl⟩
  rw [← hwa] at hg0 hb1 hx1
  rw [← hp] at hb1
  rw [← hwa, ← hp]
  have HX := sec hx1
  have HB := sec hb1
  have hwp : w.heap.size ≤ p := by omega
  have HO : Sec (wa.ownsRow wa.heap.size 70 3 (.slice none 0 0) 0 ((putGo (fn, sf, tl) (l.take 0)).1.flatMap fileC)) := sec (World.ownsRow_nil _ _ _ _)
  clear hwa hp hx hx1 hb1
  go_loopw [11, 5, 6, 8] (fun iv v5 v6 _ wr => ∃ (i n1 k1 : Nat) (A1 : Option Addr) (dn : Bool), iv = .int .i64 (i : Int) ∧ v5 = .slice A1 n1 k1 ∧ v6 = .bool dn ∧ i ≤ n ∧ n1 ≤ 2 * i ∧ Sec (dn = (putGo (fn, sf, tl) (l.take i)).2) ∧ Sec (wr.ownsRow wa.heap.size 70 3 (.slice A1 n1 k1) n1 ((putGo (fn, sf, tl) (l.take i)).1.flatMap fileC)) ∧ Gr wa wr) (fun iv _ _ _ _ => n - (intOf iv).toNat)
  case atStart => exact ⟨0, 0, 0, none, false, rfl, rfl, rfl, by omega, by omega, sec rfl, HO, Gr.refl _⟩
  case round =>
    clear HO
    obtain ⟨i, n1, k1, A1, dn, rfl, rfl, rfl, hi, hn1, HDN, HOw, hg⟩ := hrel
    by_cases hlt : i < n
    · have hif : i < l.length := by omega
      have hii : (i : Int) < (n : Int) := by omega
      obtain ⟨b, off, rfl, e0, e1, e2⟩ := (HX.out.gr hg).cell hif
      have HSU := sec (putGo_succ (fn, sf, tl) l i hif)
      obtain ⟨x, hxx⟩ : ∃ x, x = l[i] := ⟨_, rfl⟩
      rw [← hxx] at e0 e1 e2 HSU
      clear hxx hif
      obtain ⟨nm, s1, t1⟩ := x
      simp only at e0 e1 e2 HSU
      have f0 : (wr.alloc (.cells #[.string (bs nm), .string (bs s1), .string (bs t1)] 70)).cell? ⟨p, 0, none⟩ = some (.string (bs fn)) := (HB.out.gr (hg.alloc _)).cell 0
      have f1 : (wr.alloc (.cells #[.string (bs nm), .string (bs s1), .string (bs t1)] 70)).cell? ⟨p, 1, none⟩ = some (.string (bs sf)) := (HB.out.gr (hg.alloc _)).cell 1
      have f2 : (wr.alloc (.cells #[.string (bs nm), .string (bs s1), .string (bs t1)] 70)).cell? ⟨p, 2, none⟩ = some (.string (bs tl)) := (HB.out.gr (hg.alloc _)).cell 2
      have hnb : n1 ≤ 2199023255552 := by omega
      have hb1 : (n1 + 1) * 48 ≤ 140737488355328 := Nat.le_trans (Nat.mul_le_mul_right 48 (Nat.succ_le_succ hnb)) (by decide)
      have HM2 : Sec (n1 + 1 ≤ maxLen) := sec (Nat.le_trans (Nat.succ_le_succ hnb) (by decide))
      have hb3 : (n1 + 1 + 1) * 48 ≤ 140737488355328 := Nat.le_trans (Nat.mul_le_mul_right 48 (Nat.succ_le_succ (Nat.succ_le_succ hnb))) (by decide)
      have HM4 : Sec (n1 + 1 + 1 ≤ maxLen) := sec (Nat.le_trans (Nat.succ_le_succ (Nat.succ_le_succ hnb)) (by decide))
      have hws := hg.size
      cases hb : nm == fn with
      | true =>
        have HS2 : Sec (putGo (fn, sf, tl) (l.take (i + 1)) = putGo (fn, sf, tl) (l.take i)) := sec (by rw [HSU.out]; unfold putStep; rw [if_pos hb])
        go_wp2_with fail
        go_roundw
        case rel => exact ⟨i + 1, n1, k1, A1, dn, by go_num, rfl, rfl, by omega, by omega, by rw [HS2.out]; exact HDN, by rw [HS2.out]; exact sec (own_gr HOw.out ((Gr.refl _).alloc _)), hg.alloc _⟩
        case measure => simp [intOf]; omega
      | false =>
        by_cases hdl : (!dn && ltB fn nm) = true
        · have HS2 : Sec (putGo (fn, sf, tl) (l.take (i + 1)) = ((putGo (fn, sf, tl) (l.take i)).1 ++ [(fn, sf, tl)] ++ [(nm, s1, t1)], true)) := sec (by rw [HSU.out]; unfold putStep; rw [if_neg (by rw [hb]; decide), ← HDN.out, if_pos hdl])
          rw [Bool.and_eq_true] at hdl
          obtain ⟨hd0, hlt1⟩ := hdl
          obtain rfl : dn = false := by cases dn <;> simp_all
          have q1 : Op.bytesLess nm fn = false := ltB_asym hlt1
          have HXB : Sec (∀ w2, ((wr.alloc (.cells #[.string (bs nm), .string (bs s1), .string (bs t1)] 70)).alloc (.cells #[.string (bs fn), .string (bs sf), .string (bs tl)] 70)).grownBy w2 (Value.ownBlock (.slice A1 n1 k1)) → Blk w2 wr.heap.size 70 #[.string (bs nm), .string (bs s1), .string (bs t1)]) := sec (fun w2 hgn =>
            ((Blk.new wr 70 #[.string (bs nm), .string (bs s1), .string (bs t1)]).alloc _).grown hgn (fun e => by have := (HOw.out.lt _ e.symm).2; omega))
          have HO2 := HOw
          clear hd0 hlt1 hlt
          go_wp2_with (first
            | (refine wpList_append_row E.file rfl (.tmp 29) (.tmp 31) rfl (B := wa.heap.size) (A0 := A1) (n0 := n1) (cap0 := k1) rfl (own_gr HOw.out (((Gr.refl wr).alloc _).alloc _)) rfl (Row.lit (Blk.new1 wr _ 70 #[.string (bs fn), .string (bs sf), .string (bs tl)])) (by intro h; cases h) (by intro u hu; simp at hu; rcases hu with rfl | rfl | rfl <;> rfl) hb1 HM2.out (by simp; omega) ?_; intro A2 k2 w2 hown hgn; have hx2 := HXB.out w2 hgn; have y0 : w2.cell? ⟨wr.heap.size, 0, none⟩ = some (.string (bs nm)) := hx2.cell 0; have y1 : w2.cell? ⟨wr.heap.size, 1, none⟩ = some (.string (bs s1)) := hx2.cell 1; have y2 : w2.cell? ⟨wr.heap.size, 2, none⟩ = some (.string (bs t1)) := hx2.cell 2; have hw2 := hgn.size; simp at hw2)
            | (refine wpList_append_row E.file rfl (.tmp 33) (.tmp 35) rfl (B := wa.heap.size) (A0 := A2) (n0 := n1 + 1) (cap0 := k2) rfl (own_gr hown ((Gr.refl w2).alloc _)) rfl (Row.lit (Blk.new w2 70 #[.string (bs nm), .string (bs s1), .string (bs t1)])) (by intro h; cases h) (by intro u hu; simp at hu; rcases hu with rfl | rfl | rfl <;> rfl) hb3 HM4.out (by simp; omega) ?_; intro A3 k3 w3 hown3 hgn3))
          go_roundw
          case rel =>
            refine ⟨i + 1, n1 + 1 + 1, k3, A3, true, by go_num, rfl, rfl, by omega, by omega, by rw [HS2.out]; exact sec rfl, ?_, ?_⟩
            · rw [HS2.out]
              simp only [List.flatMap_append, List.flatMap_cons, List.flatMap_nil, List.append_nil]
              exact sec hown3
            · exact Gr.grown ((Gr.grown ((hg.alloc _).alloc _) hgn (fun k hk => (HOw.out.lt k hk).1)).alloc _) hgn3 (fun k hk => (hown.lt k hk).1)
          case measure => simp [intOf]; omega
        · have HS2 : Sec (putGo (fn, sf, tl) (l.take (i + 1)) = ((putGo (fn, sf, tl) (l.take i)).1 ++ [(nm, s1, t1)], dn)) := sec (by rw [HSU.out]; unfold putStep; rw [if_neg (by rw [hb]; decide), ← HDN.out, if_neg hdl])
          have q1 : dn = false → Op.bytesLess nm fn = true := fun hd => by
            cases h : Op.bytesLess nm fn with
            | true => rfl
            | false =>
              exfalso
              have h2 : ltB fn nm = false := by cases h3 : ltB fn nm with
                | false => rfl
                | true => exact absurd (by rw [hd, h3]; rfl) hdl
              have := ltB_tri nm fn h h2
              rw [this] at hb
              simp at hb
          have QQ := sec q1
          clear hdl q1 hlt
          cases dn with
          | true =>
            go_wp2_with (refine wpList_append_row E.file rfl (.tmp 33) (.tmp 35) rfl (B := wa.heap.size) (A0 := A1) (n0 := n1) (cap0 := k1) rfl (own_gr HOw.out (((Gr.refl wr).alloc _).alloc _)) rfl (Row.lit (Blk.new1 wr _ 70 #[.string (bs nm), .string (bs s1), .string (bs t1)])) (by intro h; cases h) (by intro u hu; simp at hu; rcases hu with rfl | rfl | rfl <;> rfl) hb1 HM2.out (by simp; omega) ?_; intro A2 k2 w2 hown hgn)
            go_roundw
            case rel =>
              refine ⟨i + 1, n1 + 1, k2, A2, true, by go_num, rfl, rfl, by omega, by omega, by rw [HS2.out]; exact sec rfl, ?_, ?_⟩
              · rw [HS2.out]
                simp only [List.flatMap_append, List.flatMap_cons, List.flatMap_nil, List.append_nil]
                exact sec hown
              · exact Gr.grown ((hg.alloc _).alloc _) hgn (fun k hk => (HOw.out.lt k hk).1)
            case measure => simp [intOf]; omega
          | false =>
            have q1 : Op.bytesLess nm fn = true := QQ.out rfl
            go_wp2_with (refine wpList_append_row E.file rfl (.tmp 33) (.tmp 35) rfl (B := wa.heap.size) (A0 := A1) (n0 := n1) (cap0 := k1) rfl (own_gr HOw.out (((Gr.refl wr).alloc _).alloc _)) rfl (Row.lit (Blk.new1 wr _ 70 #[.string (bs nm), .string (bs s1), .string (bs t1)])) (by intro h; cases h) (by intro u hu; simp at hu; rcases hu with rfl | rfl | rfl <;> rfl) hb1 HM2.out (by simp; omega) ?_; intro A2 k2 w2 hown hgn)
            go_roundw
            case rel =>
              refine ⟨i + 1, n1 + 1, k2, A2, false, by go_num, rfl, rfl, by omega, by omega, by rw [HS2.out]; exact sec rfl, ?_, ?_⟩
              · rw [HS2.out]
                simp only [List.flatMap_append, List.flatMap_cons, List.flatMap_nil, List.append_nil]
                exact sec hown
              · exact Gr.grown ((hg.alloc _).alloc _) hgn (fun k hk => (HOw.out.lt k hk).1)
            case measure => simp [intOf]; omega
    · obtain rfl : i = n := by omega
      have HT : Sec (putGo (fn, sf, tl) (l.take i) = putGo (fn, sf, tl) l) := sec (by rw [show l.take i = l from List.take_of_length_le (by omega)])
      rw [HT.out] at HDN HOw
      have f0 : wr.cell? ⟨p, 0, none⟩ = some (.string (bs fn)) := (HB.out.gr hg).cell 0
      have f1 : wr.cell? ⟨p, 1, none⟩ = some (.string (bs sf)) := (HB.out.gr hg).cell 1
      have f2 : wr.cell? ⟨p, 2, none⟩ = some (.string (bs tl)) := (HB.out.gr hg).cell 2
      have hnb : n1 ≤ 2199023255552 := by omega
      have hb1 : (n1 + 1) * 48 ≤ 140737488355328 := Nat.le_trans (Nat.mul_le_mul_right 48 (Nat.succ_le_succ hnb)) (by decide)
      have HM2 : Sec (n1 + 1 ≤ maxLen) := sec (Nat.le_trans (Nat.succ_le_succ hnb) (by decide))
      have hws := hg.size
      clear hlt hi
      cases dn with
      | true =>
        have HPF : Sec (putF (fn, sf, tl) l = (putGo (fn, sf, tl) l).1) := sec (by unfold putF; rw [← HDN.out]; rfl)
        go_wp2_with fail
        go_ret
        rw [HPF.out]
        exact ⟨A1, n1, k1, rfl, own_low HOw.out hg0.size, hg0.trans hg⟩
      | false =>
        have HPF : Sec (putF (fn, sf, tl) l = (putGo (fn, sf, tl) l).1 ++ [(fn, sf, tl)]) := sec (by unfold putF; rw [← HDN.out]; rfl)
        go_wp2_with (refine wpList_append_row E.file rfl (.tmp 40) (.tmp 42) rfl (B := wa.heap.size) (A0 := A1) (n0 := n1) (cap0 := k1) rfl (own_gr HOw.out ((Gr.refl wr).alloc _)) rfl (Row.lit (Blk.new wr 70 #[.string (bs fn), .string (bs sf), .string (bs tl)])) (by intro h; cases h) (by intro u hu; simp at hu; rcases hu with rfl | rfl | rfl <;> rfl) hb1 HM2.out (by simp; omega) ?_; intro A2 k2 w2 hown hgn)
        go_ret
        rw [HPF.out]
        simp only [List.flatMap_append, List.flatMap_cons, List.flatMap_nil, List.append_nil]
        exact ⟨A2, n1 + 1, k2, rfl, own_low hown hg0.size, hg0.trans (Gr.grown (hg.alloc _) hgn (fun k hk => (HOw.out.lt k hk).1))⟩
end Go.Proofs.Ytcfghoohdlljkaa

/-
  The walk of cartularylaw.WireWrites: it returns true.
-/
import Derived.Test.YtkabioogfcbkmaaWriter
import Derived.Test.YtkabioogfcbkmaaOpen
import Derived.Test.YtkabioogfcbkmaaWirePuts
namespace Go.Proofs.Ytkabioogfcbkmaa
open Go.RowKit Go.ChangeShapes Go.WideShapes

/-- a Put: kind, number, text -/
abbrev Pt := Int × Int × List UInt8
def ptV (x : Pt) : List Value := [.int .i64 x.1, .int .i64 x.2.1, .string (bs x.2.2)]
def PutRow (w : World) (A : Option Addr) (n : Nat) (l : List Pt) : Prop := Row w 3 A n (l.flatMap ptV)
theorem PutRow.gr {w w' : World} {A : Option Addr} {n : Nat} {l : List Pt} (h : PutRow w A n l) (g : Gr w w') : PutRow w' A n l := Row.gr h g
theorem PutRow.cell {w : World} {A : Option Addr} {n : Nat} {l : List Pt} (h : PutRow w A n l) {i : Nat} (hi : i < l.length) :
    ∃ b off, A = some ⟨b, off, none⟩ ∧ b < w.heap.size ∧ w.cell? ⟨b, off + i * 3, none⟩ = some (.int .i64 l[i].1) ∧ w.cell? ⟨b, off + i * 3 + 1, none⟩ = some (.int .i64 l[i].2.1) ∧ w.cell? ⟨b, off + i * 3 + 2, none⟩ = some (.string (bs l[i].2.2)) := by
  obtain ⟨b, off, e, hb, hc⟩ := Row.fcell ptV (fun _ => rfl) (by omega) h hi
  exact ⟨b, off, e, hb, hc 0 _ rfl, hc 1 _ rfl, hc 2 _ rfl⟩
def cost : List Pt → Nat
  | [] => 0
  | x :: r => 9 + x.2.2.length + cost r
theorem cost_snoc (l : List Pt) (x : Pt) : cost (l ++ [x]) = cost l + 9 + x.2.2.length := by
  induction l with
  | nil => simp [cost]
  | cons y r ih => simp only [List.cons_append, cost, ih]; omega
theorem cost_take (l : List Pt) (i : Nat) (h : i < l.length) : cost (l.take (i + 1)) = cost (l.take i) + 9 + l[i].2.2.length := by
  rw [List.take_succ_eq_append_getElem h, cost_snoc]
theorem cost_take_le (l : List Pt) (i : Nat) : cost (l.take i) ≤ cost l := by
  induction l generalizing i with
  | nil => simp [cost]
  | cons x r ih =>
    cases i with
    | zero => simp [cost]
    | succ i => simp only [List.take_succ_cons, cost]; have := ih i; omega

set_option maxRecDepth 100000 in
set_option maxHeartbeats 4000000 in
theorem wireWrites_walk (A : Option Addr) (c : Nat) (l : List Pt) (w : World) (h : PutRow w A l.length l ∧ l.length ≤ 1048576 ∧ cost l ≤ 10485760 ∧ ∀ x ∈ l, -9223372036854775808 ≤ x.2.1 ∧ x.2.1 ≤ 9223372036854775807) :
    Calls Try.prog 5 #[.slice A l.length c] w fun e w' => e = .returned (.bool true) ∧ Gr w w' := by
  obtain ⟨hrow, hn, hcost, hi64⟩ := h
  have HI := sec hi64
  clear hi64
  go_enter Try.func5, Try.ntmps5
  have hB0 : WrAt (w.alloc (.cells #[.slice none 0 0, .int .i64 0] 34)) w.heap.size w.heap.size ([], 0) :=
    ⟨⟨none, 0, Blk.new _ _ _, World.ownsRow_nil _ _ _ _⟩, Nat.le_refl _, by simp⟩
  go_wp2_with fail
  go_loopw [4, 5, 6] (fun sv ev iv wr => ∃ (i : Nat) (s : List UInt8) (q : St2), sv = .string (bs s) ∧ ev = .int .i64 (q.2 : Int) ∧ iv = .int .i64 i ∧ i ≤ l.length ∧ Sec (q.2 = 0 → s = q.1) ∧ s.length ≤ cost (l.take i) ∧ q.1.length ≤ cost (l.take i) ∧
      WrAt wr w.heap.size w.heap.size q ∧ Gr w wr)
    (fun _ _ iv _ => l.length - (intOf iv).toNat)
  case atStart => exact ⟨0, [], ([], 0), rfl, rfl, rfl, by omega, ⟨fun _ => rfl⟩, by simp, by simp, hB0, (Gr.refl _).alloc _⟩
  case round =>
    obtain ⟨i, s, q, rfl, rfl, rfl, hi, hq, hs1, hq1, hW, hg⟩ := hrel
    have hcl := cost_take_le l i
    by_cases hlt : i < l.length
    · obtain ⟨b, off, rfl, hb, hcA, hcB, hcC⟩ := (hrow.gr hg).cell hlt
      have hC := cost_take l i hlt
      have hC2 := cost_take_le l (i + 1)
      obtain ⟨⟨kd, N, S⟩, hx⟩ : ∃ x, x = l[i] := ⟨_, rfl⟩
      rw [← hx] at hcA hcB hcC hC
      have hN : -9223372036854775808 ≤ N ∧ N ≤ 9223372036854775807 := by have := HI.out l[i] (List.getElem_mem hlt); rw [← hx] at this; exact this
      clear hx
      simp only at hcA hcB hcC hC
      have hb1 : cost (l.take i) + 9 + S.length ≤ 10485760 := by omega
      have HC := sec hC
      clear hC hC2 hcl
      have hne : ¬ (wr.heap.size = w.heap.size) := by have := hW.ex; obtain ⟨_, _, hb', _⟩ := this; have := hb'.lt; omega
      have hne' : wr.heap.size ≠ w.heap.size := hne
      have hlt2 : w.heap.size < wr.heap.size := by have := hg.size; omega
      clear hne hne'
      have hxt : (txt S).length ≤ 9 + S.length := by have := num_len9 (n := S.length) (by omega); simp [txt]; omega
      by_cases h0 : kd = 0
      · subst h0
        by_cases hn : 0 ≤ N ∧ N < 4611686018427387904
        · have hNe := numS_in hn.1 hn.2
          have HN := sec hNe
          clear hNe
          have hnn := num_ne N.toNat
          have h9 := num_len9 (n := N.toNat) (by omega)
          by_cases he : q.2 = 0
          · obtain ⟨q1, q2⟩ := q
            simp only at he hq hs1 hq1
            subst he
            have hsq := hq.out rfl
            subst hsq
            go_wp2_with (first
              | (go_at_call 14; refine (wrNumber w.heap.size w.heap.size _ N _ (hW.gr (Gr.alloc (Gr.refl _) _)) (by dsimp only; omega)).mono ?_; rintro e w1 ⟨rfl, hW1, hB1, hK1⟩; have hbox := hK1 _ _ _ (by omega) (by decide) (Blk.new _ _ _); have x1 : w1.cell? ⟨wr.heap.size, 1, none⟩ = some (.int .i64 N) := hbox.cell 1; have x2 : w1.cell? ⟨wr.heap.size, 2, none⟩ = some (.string (bs S)) := hbox.cell 2; have hg1 : Gr w w1 := Below.trans (hg.alloc _) hB1)
              | (go_at_call 10; refine (number_any _ _).mono ?_; rintro e w2 ⟨rfl, hg2⟩; rw [HN.out]))
            go_roundw
            case rel =>
              refine ⟨i + 1, s ++ num N.toNat, wNum N (s, 0), by simp, by simp [wNum, hn, HN.out], by go_num, by omega, ?_, ?_, ?_, hW1.gr hg2, hg1.trans hg2⟩
              · exact ⟨by simp [wNum, hn, HN.out]⟩
              · rw [HC.out]; first | omega | (simp; omega)
              · rw [HC.out]; simp [wNum, hn, HN.out]; try omega
            case measure => simp [intOf]; omega
          · obtain ⟨q1, q2⟩ := q
            simp only at he hq hs1 hq1
            have he1 : ((q2 : Int) == 0) = false := by simpa using he
            have HE := sec he
            clear he
            go_wp2_with (first
              | (go_at_call 14; refine (wrNumber w.heap.size w.heap.size _ N _ (hW.gr (Gr.alloc (Gr.refl _) _)) (by dsimp only; omega)).mono ?_; rintro e w1 ⟨rfl, hW1, hB1, hK1⟩; have hbox := hK1 _ _ _ (by omega) (by decide) (Blk.new _ _ _); have x1 : w1.cell? ⟨wr.heap.size, 1, none⟩ = some (.int .i64 N) := hbox.cell 1; have x2 : w1.cell? ⟨wr.heap.size, 2, none⟩ = some (.string (bs S)) := hbox.cell 2; have hg1 : Gr w w1 := Below.trans (hg.alloc _) hB1)
              | (go_at_call 10; refine (number_any _ _).mono ?_; rintro e w2 ⟨rfl, hg2⟩; rw [HN.out]))
            go_roundw
            case rel =>
              refine ⟨i + 1, s ++ num N.toNat, wNum N (q1, q2), by simp, by simp [wNum, HE.out], by go_num, by omega, ?_, ?_, ?_, hW1.gr hg2, hg1.trans hg2⟩
              · exact ⟨by simp [wNum, HE.out]⟩
              · rw [HC.out]; first | omega | (simp; omega)
              · rw [HC.out]; simp [wNum, HE.out]; try omega
            case measure => simp [intOf]; omega
        · have hNe := numS_out (n := N) (by omega)
          have HN := sec hNe
          clear hNe
          by_cases he : q.2 = 0
          · obtain ⟨q1, q2⟩ := q
            simp only at he hq hs1 hq1
            subst he
            have hsq := hq.out rfl
            subst hsq
            go_wp2_with (first
              | (go_at_call 14; refine (wrNumber w.heap.size w.heap.size _ N _ (hW.gr (Gr.alloc (Gr.refl _) _)) (by dsimp only; omega)).mono ?_; rintro e w1 ⟨rfl, hW1, hB1, hK1⟩; have hbox := hK1 _ _ _ (by omega) (by decide) (Blk.new _ _ _); have x1 : w1.cell? ⟨wr.heap.size, 1, none⟩ = some (.int .i64 N) := hbox.cell 1; have x2 : w1.cell? ⟨wr.heap.size, 2, none⟩ = some (.string (bs S)) := hbox.cell 2; have hg1 : Gr w w1 := Below.trans (hg.alloc _) hB1)
              | (go_at_call 10; refine (number_any _ _).mono ?_; rintro e w2 ⟨rfl, hg2⟩; rw [HN.out]))
            go_roundw
            case rel =>
              refine ⟨i + 1, s, wNum N (s, 0), by simp, by simp [wNum, hn, HN.out], by go_num, by omega, ?_, ?_, ?_, hW1.gr hg2, hg1.trans hg2⟩
              · exact ⟨by simp [wNum, hn, HN.out]⟩
              · rw [HC.out]; first | omega | (simp; omega)
              · rw [HC.out]; simp [wNum, hn, HN.out]; try omega
            case measure => simp [intOf]; omega
          · obtain ⟨q1, q2⟩ := q
            simp only at he hq hs1 hq1
            have he1 : ((q2 : Int) == 0) = false := by simpa using he
            have HE := sec he
            clear he
            go_wp2_with (first
              | (go_at_call 14; refine (wrNumber w.heap.size w.heap.size _ N _ (hW.gr (Gr.alloc (Gr.refl _) _)) (by dsimp only; omega)).mono ?_; rintro e w1 ⟨rfl, hW1, hB1, hK1⟩; have hbox := hK1 _ _ _ (by omega) (by decide) (Blk.new _ _ _); have x1 : w1.cell? ⟨wr.heap.size, 1, none⟩ = some (.int .i64 N) := hbox.cell 1; have x2 : w1.cell? ⟨wr.heap.size, 2, none⟩ = some (.string (bs S)) := hbox.cell 2; have hg1 : Gr w w1 := Below.trans (hg.alloc _) hB1)
              | (go_at_call 10; refine (number_any _ _).mono ?_; rintro e w2 ⟨rfl, hg2⟩; rw [HN.out]))
            go_roundw
            case rel =>
              refine ⟨i + 1, s, wNum N (q1, q2), by simp, by simp [wNum, HE.out], by go_num, by omega, ?_, ?_, ?_, hW1.gr hg2, hg1.trans hg2⟩
              · exact ⟨by simp [wNum, HE.out]⟩
              · rw [HC.out]; first | omega | (simp; omega)
              · rw [HC.out]; simp [wNum, HE.out]; try omega
            case measure => simp [intOf]; omega
      · by_cases h1 : kd = 1
        · subst h1
          by_cases hn : S.length ≤ 4096
          · by_cases he : q.2 = 0
            · obtain ⟨q1, q2⟩ := q
              simp only at he hq hs1 hq1
              subst he
              have hsq := hq.out rfl
              subst hsq
              go_wp2_with (first
                | (go_at_call 15; refine (wrText w.heap.size w.heap.size _ S _ (hW.gr (Gr.alloc (Gr.refl _) _)) (by dsimp only; omega)).mono ?_; rintro e w1 ⟨rfl, hW1, hB1, hK1⟩; have hbox := hK1 _ _ _ (by omega) (by decide) (Blk.new _ _ _); have x1 : w1.cell? ⟨wr.heap.size, 1, none⟩ = some (.int .i64 N) := hbox.cell 1; have x2 : w1.cell? ⟨wr.heap.size, 2, none⟩ = some (.string (bs S)) := hbox.cell 2; have hg1 : Gr w w1 := Below.trans (hg.alloc _) hB1)
                | (go_at_call 13; refine (text_any _ _ (by omega)).mono ?_; rintro e w2 ⟨rfl, hg2⟩))
              go_roundw
              case rel =>
                refine ⟨i + 1, s ++ txt S, wTxt S (s, 0), by simp, by simp [wTxt, hn], by go_num, by omega, ?_, ?_, ?_, hW1.gr hg2, hg1.trans hg2⟩
                · exact ⟨by simp [wTxt, hn]⟩
                · rw [HC.out]; first | omega | (simp; omega)
                · rw [HC.out]; simp [wTxt, hn]; try omega
              case measure => simp [intOf]; omega
            · obtain ⟨q1, q2⟩ := q
              simp only at he hq hs1 hq1
              have he1 : ((q2 : Int) == 0) = false := by simpa using he
              have HE := sec he
              clear he
              go_wp2_with (first
                | (go_at_call 15; refine (wrText w.heap.size w.heap.size _ S _ (hW.gr (Gr.alloc (Gr.refl _) _)) (by dsimp only; omega)).mono ?_; rintro e w1 ⟨rfl, hW1, hB1, hK1⟩; have hbox := hK1 _ _ _ (by omega) (by decide) (Blk.new _ _ _); have x1 : w1.cell? ⟨wr.heap.size, 1, none⟩ = some (.int .i64 N) := hbox.cell 1; have x2 : w1.cell? ⟨wr.heap.size, 2, none⟩ = some (.string (bs S)) := hbox.cell 2; have hg1 : Gr w w1 := Below.trans (hg.alloc _) hB1)
                | (go_at_call 13; refine (text_any _ _ (by omega)).mono ?_; rintro e w2 ⟨rfl, hg2⟩))
              go_roundw
              case rel =>
                refine ⟨i + 1, s ++ txt S, wTxt S (q1, q2), by simp, by simp [wTxt, HE.out], by go_num, by omega, ?_, ?_, ?_, hW1.gr hg2, hg1.trans hg2⟩
                · exact ⟨by simp [wTxt, HE.out]⟩
                · rw [HC.out]; first | omega | (simp; omega)
                · rw [HC.out]; simp [wTxt, HE.out]; try omega
              case measure => simp [intOf]; omega
          · by_cases he : q.2 = 0
            · obtain ⟨q1, q2⟩ := q
              simp only at he hq hs1 hq1
              subst he
              have hsq := hq.out rfl
              subst hsq
              go_wp2_with (first
                | (go_at_call 15; refine (wrText w.heap.size w.heap.size _ S _ (hW.gr (Gr.alloc (Gr.refl _) _)) (by dsimp only; omega)).mono ?_; rintro e w1 ⟨rfl, hW1, hB1, hK1⟩; have hbox := hK1 _ _ _ (by omega) (by decide) (Blk.new _ _ _); have x1 : w1.cell? ⟨wr.heap.size, 1, none⟩ = some (.int .i64 N) := hbox.cell 1; have x2 : w1.cell? ⟨wr.heap.size, 2, none⟩ = some (.string (bs S)) := hbox.cell 2; have hg1 : Gr w w1 := Below.trans (hg.alloc _) hB1)
                | (go_at_call 13; refine (text_any _ _ (by omega)).mono ?_; rintro e w2 ⟨rfl, hg2⟩))
              go_roundw
              case rel =>
                refine ⟨i + 1, s ++ txt S, wTxt S (s, 0), by simp, by simp [wTxt, hn], by go_num, by omega, ?_, ?_, ?_, hW1.gr hg2, hg1.trans hg2⟩
                · exact ⟨by simp [wTxt, hn]⟩
                · rw [HC.out]; first | omega | (simp; omega)
                · rw [HC.out]; simp [wTxt, hn]; try omega
              case measure => simp [intOf]; omega
            · obtain ⟨q1, q2⟩ := q
              simp only at he hq hs1 hq1
              have he1 : ((q2 : Int) == 0) = false := by simpa using he
              have HE := sec he
              clear he
              go_wp2_with (first
                | (go_at_call 15; refine (wrText w.heap.size w.heap.size _ S _ (hW.gr (Gr.alloc (Gr.refl _) _)) (by dsimp only; omega)).mono ?_; rintro e w1 ⟨rfl, hW1, hB1, hK1⟩; have hbox := hK1 _ _ _ (by omega) (by decide) (Blk.new _ _ _); have x1 : w1.cell? ⟨wr.heap.size, 1, none⟩ = some (.int .i64 N) := hbox.cell 1; have x2 : w1.cell? ⟨wr.heap.size, 2, none⟩ = some (.string (bs S)) := hbox.cell 2; have hg1 : Gr w w1 := Below.trans (hg.alloc _) hB1)
                | (go_at_call 13; refine (text_any _ _ (by omega)).mono ?_; rintro e w2 ⟨rfl, hg2⟩))
              go_roundw
              case rel =>
                refine ⟨i + 1, s ++ txt S, wTxt S (q1, q2), by simp, by simp [wTxt, HE.out], by go_num, by omega, ?_, ?_, ?_, hW1.gr hg2, hg1.trans hg2⟩
                · exact ⟨by simp [wTxt, HE.out]⟩
                · rw [HC.out]; first | omega | (simp; omega)
                · rw [HC.out]; simp [wTxt, HE.out]; try omega
              case measure => simp [intOf]; omega
        · have hb0 : ((kd : Int) == 0) = false := by simpa using h0
          have hb1' : ((kd : Int) == 1) = false := by simpa using h1
          clear h0 h1
          by_cases he : q.2 = 0
          · obtain ⟨q1, q2⟩ := q
            simp only at he hq hs1 hq1
            subst he
            have hsq := hq.out rfl
            subst hsq
            go_wp2_with (first
              | (go_at_call 16; refine (wrBytes w.heap.size w.heap.size _ S _ (hW.gr (Gr.alloc (Gr.refl _) _)) (by dsimp only; omega)).mono ?_; rintro e w1 ⟨rfl, hW1, hB1, hK1⟩; have hbox := hK1 _ _ _ (by omega) (by decide) (Blk.new _ _ _); have x1 : w1.cell? ⟨wr.heap.size, 1, none⟩ = some (.int .i64 N) := hbox.cell 1; have x2 : w1.cell? ⟨wr.heap.size, 2, none⟩ = some (.string (bs S)) := hbox.cell 2; have hg1 : Gr w w1 := Below.trans (hg.alloc _) hB1))
            go_roundw
            case rel =>
              refine ⟨i + 1, s ++ S, wByt S (s, 0), by simp, by simp [wByt], by go_num, by omega, ?_, ?_, ?_, hW1, hg1⟩
              · exact ⟨by simp [wByt]⟩
              · rw [HC.out]; first | omega | (simp; omega)
              · rw [HC.out]; simp [wByt]; try omega
            case measure => simp [intOf]; omega
          · obtain ⟨q1, q2⟩ := q
            simp only at he hq hs1 hq1
            have he1 : ((q2 : Int) == 0) = false := by simpa using he
            have HE := sec he
            clear he
            go_wp2_with (first
              | (go_at_call 16; refine (wrBytes w.heap.size w.heap.size _ S _ (hW.gr (Gr.alloc (Gr.refl _) _)) (by dsimp only; omega)).mono ?_; rintro e w1 ⟨rfl, hW1, hB1, hK1⟩; have hbox := hK1 _ _ _ (by omega) (by decide) (Blk.new _ _ _); have x1 : w1.cell? ⟨wr.heap.size, 1, none⟩ = some (.int .i64 N) := hbox.cell 1; have x2 : w1.cell? ⟨wr.heap.size, 2, none⟩ = some (.string (bs S)) := hbox.cell 2; have hg1 : Gr w w1 := Below.trans (hg.alloc _) hB1))
            go_roundw
            case rel =>
              refine ⟨i + 1, s ++ S, wByt S (q1, q2), by simp, by simp [wByt, HE.out], by go_num, by omega, ?_, ?_, ?_, hW1, hg1⟩
              · exact ⟨by simp [wByt, HE.out]⟩
              · rw [HC.out]; first | omega | (simp; omega)
              · rw [HC.out]; simp [wByt, HE.out]; try omega
            case measure => simp [intOf]; omega
    · by_cases he : q.2 = 0
      · obtain ⟨q1, q2⟩ := q
        simp only at he hq
        subst he
        have hsq := hq.out rfl
        subst hsq
        go_wp2_with (first
          | (go_at_call 17; refine (wrDone w.heap.size w.heap.size _ _ hW).mono ?_; rintro e w1 ⟨rfl, hg1⟩; simp only [if_true])
          | (go_at_call 12; refine (puts_any _).mono ?_; rintro e w5 ⟨rfl, g5⟩))
        go_ret
        exact ⟨rfl, (hg.trans hg1).trans g5⟩
      · obtain ⟨q1, q2⟩ := q
        simp only at he hq
        have he1 : ((q2 : Int) != 0) = true := by simpa using he
        have HE := sec he
        clear he
        go_wp2_with (first
          | (go_at_call 17; refine (wrDone w.heap.size w.heap.size _ _ hW).mono ?_; rintro e w1 ⟨rfl, hg1⟩; simp only [if_neg HE.out])
          | (go_at_call 12; refine (puts_any _).mono ?_; rintro e w5 ⟨rfl, g5⟩))
        go_ret
        exact ⟨rfl, (hg.trans hg1).trans g5⟩
end Go.Proofs.Ytkabioogfcbkmaa

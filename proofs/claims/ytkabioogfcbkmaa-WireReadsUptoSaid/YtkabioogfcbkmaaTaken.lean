/-
  cartularyref.Taken by its contract.
-/
import Derived.Test.YtkabioogfcbkmaaReader
import Derived.Test.YtkabioogfcbkmaaRows2
namespace Go.Proofs.Ytkabioogfcbkmaa
open Go.RowKit

/-- P2.4, call by call: the state, the numbers, the texts -/
abbrev Tk := St × List Nat × List (List UInt8)
def take1 (a : Tk) (x : Int × Int) : Tk :=
  if x.1 = 0 then (aftN a.1, a.2.1 ++ [nxtN a.1], a.2.2)
  else if x.1 = 1 then (aftT a.1, a.2.1, a.2.2 ++ [nxtT a.1])
  else (aftB x.2 a.1, a.2.1, a.2.2 ++ [nxtB x.2 a.1])
def takes (s : List UInt8) (l : List (Int × Int)) : Tk := l.foldl take1 ((s, 0), [], [])
theorem takes_succ (s : List UInt8) (l : List (Int × Int)) (i : Nat) (h : i < l.length) : takes s (l.take (i + 1)) = take1 (takes s (l.take i)) l[i] := by
  unfold takes; rw [List.take_succ_eq_append_getElem h, List.foldl_append]; rfl
theorem take1_len (a : Tk) (x : Int × Int) : (take1 a x).2.1.length ≤ a.2.1.length + 1 ∧ (take1 a x).2.2.length ≤ a.2.2.length + 1 := by
  unfold take1; split
  · simp
  · split <;> simp
theorem takes_len (s : List UInt8) (l : List (Int × Int)) (i : Nat) (h : i ≤ l.length) : (takes s (l.take i)).2.1.length ≤ i ∧ (takes s (l.take i)).2.2.length ≤ i := by
  induction i with
  | zero => simp [takes]
  | succ i ih =>
    rw [takes_succ s l i (by omega)]
    have := take1_len (takes s (l.take i)) l[i]
    have := ih (by omega)
    omega

/-- cells of a slice of structs of two ints -/
def pairV (x : Int × Int) : List Value := [.int .i64 x.1, .int .i64 x.2]
def PairRow (w : World) (A : Option Addr) (n : Nat) (l : List (Int × Int)) : Prop := Row w 2 A n (l.flatMap pairV)
theorem PairRow.len {w : World} {A : Option Addr} {n : Nat} {l : List (Int × Int)} (h : PairRow w A n l) : l.length = n := Row.flen pairV (fun _ => rfl) (by omega) h
theorem PairRow.gr {w w' : World} {A : Option Addr} {n : Nat} {l : List (Int × Int)} (h : PairRow w A n l) (g : Gr w w') : PairRow w' A n l := Row.gr h g
theorem PairRow.cell {w : World} {A : Option Addr} {n : Nat} {l : List (Int × Int)} (h : PairRow w A n l) {i : Nat} (hi : i < l.length) :
    ∃ b off, A = some ⟨b, off, none⟩ ∧ b < w.heap.size ∧ w.cell? ⟨b, off + i * 2, none⟩ = some (.int .i64 l[i].1) ∧ w.cell? ⟨b, off + i * 2 + 1, none⟩ = some (.int .i64 l[i].2) := by
  obtain ⟨b, off, e, hb, hc⟩ := Row.fcell pairV (fun _ => rfl) (by omega) h hi
  exact ⟨b, off, e, hb, hc 0 _ rfl, hc 1 _ rfl⟩

/-- what a caller of Taken gets: rows of ints and of strings -/
def natV (n : Nat) : Value := .int .i64 (n : Int)

theorem natRow_cell {w : World} {A : Option Addr} {n : Nat} {l : List Nat} (h : Row w 1 A n (l.map natV)) {i : Nat} (hi : i < l.length) : ∃ b off, A = some ⟨b, off, none⟩ ∧ w.cell? ⟨b, off + i, none⟩ = some (.int .i64 (l[i] : Int)) := by
  obtain ⟨b, off, e, hl, hc⟩ := Row.cell1 h (i := i) (by have := h.len; simp at this; omega)
  exact ⟨b, off, e, by simpa [natV] using hc⟩

set_option maxRecDepth 100000 in
set_option maxHeartbeats 2000000 in
theorem taken_any (s : List UInt8) (A : Option Addr) (n c : Nat) (l : List (Int × Int)) (w : World) (hs : s.length ≤ 1152921504606846976) (hrow : PairRow w A n l) (hn : n ≤ 8796093022208) (hi64 : ∀ x ∈ l, -9223372036854775808 ≤ x.2 ∧ x.2 ≤ 9223372036854775807) :
    Calls Try.prog 25 #[.string (bs s), .slice A n c] w fun e w' => ∃ A1 c1 A2 c2,
      e = .returned (.tuple #[.slice A1 (takes s l).2.1.length c1, .slice A2 (takes s l).2.2.length c2, .int .i64 ((takes s l).1.1.length : Int), .int .i64 ((takes s l).1.2 : Int)]) ∧
      Row w' 1 A1 (takes s l).2.1.length ((takes s l).2.1.map natV) ∧ StrRow w' A2 (takes s l).2.2.length (takes s l).2.2 ∧ Gr w w' := by
  have hlen := hrow.len
  subst hlen
  have HI := sec hi64
  clear hi64
  go_enter Try.func25, Try.ntmps25
  go_wp2_with fail
  go_loopw [9, 10, 18] (fun nv tv iv wr => ∃ (i : Nat) (q : Tk) (A1 A2 : Option Addr) (c1 c2 : Nat), iv = .int .i64 i ∧ i ≤ l.length ∧ Sec (q = takes s (l.take i)) ∧ nv = .slice A1 q.2.1.length c1 ∧ tv = .slice A2 q.2.2.length c2 ∧
      RdAt 64 wr w.heap.size q.1 ∧ wr.ownsRow w.heap.size 3 1 (.slice A1 q.2.1.length c1) q.2.1.length (q.2.1.map natV) ∧ wr.ownsRow w.heap.size 9 1 (.slice A2 q.2.2.length c2) q.2.2.length (q.2.2.map strV) ∧ Gr w wr)
    (fun _ _ iv _ => l.length - (intOf iv).toNat)
  case atStart => exact ⟨0, ((s, 0), [], []), none, none, 0, 0, rfl, by omega, ⟨rfl⟩, rfl, rfl, ⟨Blk.new _ _ _, hs, by simp⟩, World.ownsRow_nil _ _ _ _, World.ownsRow_nil _ _ _ _, (Gr.refl _).alloc _⟩
  case round =>
    obtain ⟨i, ⟨q, ns, ts⟩, A1, A2, c1, c2, rfl, hi, hq, rfl, rfl, hrd, ho1, ho2, hg⟩ := hrel
    simp only at hrd ho1 ho2 hg
    by_cases hlt : i < l.length
    · obtain ⟨b, off, rfl, hb, hcA, hcB⟩ := (hrow.gr hg).cell hlt
      obtain ⟨⟨kd, N⟩, hx⟩ : ∃ x, x = l[i] := ⟨_, rfl⟩
      rw [← hx] at hcA hcB
      have hN : -9223372036854775808 ≤ N ∧ N ≤ 9223372036854775807 := by have := HI.out l[i] (List.getElem_mem hlt); rw [← hx] at this; exact this
      have HX := sec hx
      clear hx
      simp only at hcA hcB
      have hl1 := (takes_len s l i hi)
      rw [← hq.out] at hl1
      obtain ⟨hl1, hl2⟩ := hl1
      simp only at hl1 hl2
      by_cases h0 : kd = 0
      · subst h0
        go_wp2_with (first
          | (go_at_call 33; refine (cuNumber w.heap.size q _ (hrd.gr (Gr.alloc (Gr.refl _) _))).mono ?_; rintro e w1 ⟨rfl, hrd1, hg1⟩; have hw1 : Gr w w1 := gr_only (hg.alloc _) hg1 (Nat.le_refl _); have ho1' := own_only (own_gr ho1 (Gr.alloc (Gr.refl _) _)) (hrd.gr (Gr.alloc (Gr.refl _) _)).blk (by decide) hg1; have ho2' := own_only (own_gr ho2 (Gr.alloc (Gr.refl _) _)) (hrd.gr (Gr.alloc (Gr.refl _) _)).blk (by decide) hg1)
          | (at_builtin; refine wpList_append_one E.int rfl (.tmp 33) (.tmp 36) rfl rfl ho1' rfl rfl (by omega) (by unfold maxLen; omega) hw1 ?_; intro g2 cap2 w2 hown2 hg2 hw2))
        go_roundw
        case rel =>
          refine ⟨i + 1, (aftN q, ns ++ [nxtN q], ts), _, A2, _, c2, by go_num, by omega, ⟨?_⟩, by simp; exact ⟨rfl, rfl⟩, rfl, hrd1.other hg2 (fun e => own_blk_ne ho1' hrd1.blk (by decide) e.symm), by simpa [natV] using hown2, own_other ho2' ho1' (by decide) hg2, hw2⟩
          rw [takes_succ s l i hlt, ← hq.out, ← HX.out]
          simp [take1]
        case measure => simp [intOf]; omega
      · by_cases h1 : kd = 1
        · subst h1
          go_wp2_with (first
            | (go_at_call 35; refine (cuText w.heap.size q _ (hrd.gr (Gr.alloc (Gr.refl _) _))).mono ?_; rintro e w1 ⟨rfl, hrd1, hg1⟩; have hw1 : Gr w w1 := gr_only (hg.alloc _) hg1 (Nat.le_refl _); have ho1' := own_only (own_gr ho1 (Gr.alloc (Gr.refl _) _)) (hrd.gr (Gr.alloc (Gr.refl _) _)).blk (by decide) hg1; have ho2' := own_only (own_gr ho2 (Gr.alloc (Gr.refl _) _)) (hrd.gr (Gr.alloc (Gr.refl _) _)).blk (by decide) hg1)
            | (at_builtin; refine wpList_append_one E.str rfl (.tmp 40) (.tmp 43) rfl rfl ho2' rfl rfl (by omega) (by unfold maxLen; omega) hw1 ?_; intro g2 cap2 w2 hown2 hg2 hw2))
          go_roundw
          case rel =>
            refine ⟨i + 1, (aftT q, ns, ts ++ [nxtT q]), A1, _, c1, _, by go_num, by omega, ⟨?_⟩, rfl, by simp; exact ⟨rfl, rfl⟩, hrd1.other hg2 (fun e => own_blk_ne ho2' hrd1.blk (by decide) e.symm), own_other ho1' ho2' (by decide) hg2, by simpa [strV] using hown2, hw2⟩
            rw [takes_succ s l i hlt, ← hq.out, ← HX.out]
            simp [take1]
          case measure => simp [intOf]; omega
        · have hb0 : ((kd : Int) == 0) = false := by simpa using h0
          have hb1 : ((kd : Int) == 1) = false := by simpa using h1
          have H0 := sec h0
          have H1 := sec h1
          clear h0 h1
          go_wp2_with (first
            | (go_at_call 34; refine (cuTake w.heap.size q N _ (hrd.gr (Gr.alloc (Gr.refl _) _)) hN).mono ?_; rintro e w1 ⟨rfl, hrd1, hg1⟩; have hw1 : Gr w w1 := gr_only (hg.alloc _) hg1 (Nat.le_refl _); have ho1' := own_only (own_gr ho1 (Gr.alloc (Gr.refl _) _)) (hrd.gr (Gr.alloc (Gr.refl _) _)).blk (by decide) hg1; have ho2' := own_only (own_gr ho2 (Gr.alloc (Gr.refl _) _)) (hrd.gr (Gr.alloc (Gr.refl _) _)).blk (by decide) hg1)
            | (at_builtin; refine wpList_append_one E.str rfl (.tmp 24) (.tmp 29) rfl rfl ho2' rfl rfl (by omega) (by unfold maxLen; omega) hw1 ?_; intro g2 cap2 w2 hown2 hg2 hw2))
          go_roundw
          case rel =>
            refine ⟨i + 1, (aftB N q, ns, ts ++ [nxtB N q]), A1, _, c1, _, by go_num, by omega, ⟨?_⟩, rfl, by simp; exact ⟨rfl, rfl⟩, hrd1.other hg2 (fun e => own_blk_ne ho2' hrd1.blk (by decide) e.symm), own_other ho1' ho2' (by decide) hg2, by simpa [strV] using hown2, hw2⟩
            rw [takes_succ s l i hlt, ← hq.out, ← HX.out]
            simp [take1, H0.out, H1.out]
          case measure => simp [intOf]; omega
    · have hc0 : wr.cell? ⟨w.heap.size, 0, none⟩ = some (.string (bs q.1)) := hrd.blk.cell 0
      have hc1 : wr.cell? ⟨w.heap.size, 1, none⟩ = some (.int .i64 (q.2 : Int)) := hrd.blk.cell 1
      have hfin : (q, ns, ts) = takes s l := by rw [hq.out, List.take_of_length_le (by omega)]
      have HF := sec hfin
      clear hfin
      go_wp2
      go_quiet (fail)
      go_wp2
      refine bodyPost_ret (results_tmp4 rfl _ _ _) rfl ?_
      rw [← HF.out]
      exact ⟨A1, c1, A2, c2, rfl, Row.gr (Row.own ho1) ((Gr.refl _).drewN _), StrRow.gr (Row.own ho2) ((Gr.refl _).drewN _), hg.drewN _⟩
end Go.Proofs.Ytkabioogfcbkmaa

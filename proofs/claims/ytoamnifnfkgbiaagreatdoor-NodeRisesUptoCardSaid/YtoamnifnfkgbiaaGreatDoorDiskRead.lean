/-
  ref.at, disk.Read, ref.ReadFile by their contracts.
-/
import Derived.Test.YtoamnifnfkgbiaaGreatDoorDiskFind
namespace Go.Proofs.YtoamnifnfkgbiaaGreatDoor
open Go.RowKit
set_option linter.unusedVariables false
theorem goodFs_sorted {fs : List Fl} (h : goodFs fs = true) : SortedF fs := by
  unfold goodFs at h
  rw [Bool.and_eq_true] at h
  exact (goodFrom_sorted fs [] h.2).2
theorem goodFs_len {fs : List Fl} (h : goodFs fs = true) : fs.length ≤ 400 := by
  unfold goodFs at h
  rw [Bool.and_eq_true] at h
  exact of_decide_eq_true h.1
theorem goodFs_ok {fs : List Fl} (h : goodFs fs = true) : ∀ f ∈ fs, namedB f.1 = true ∧ f.2.1.length ≤ 1048576 ∧ f.2.1.length + f.2.2.length ≤ 1048576 := by
  unfold goodFs at h
  rw [Bool.and_eq_true] at h
  intro f hf
  have := ((goodFrom_sorted fs [] h.2).1 f hf).2
  unfold fileOk at this
  rw [Bool.and_eq_true] at this
  exact ⟨this.1, of_decide_eq_true this.2⟩
/-- ref.at on a good disk -/
def atI (name : List UInt8) (fs : List Fl) : Int := if hasF name fs then (lbF name fs : Int) else -1
/-- P6.6 -/
def readR (fs : List Fl) (name : List UInt8) : List UInt8 × Int :=
  if goodFs fs then (if hasF name fs then ((fs.getD (lbF name fs) ([], [], [])).2.1 ++ (fs.getD (lbF name fs) ([], [], [])).2.2, 0) else ([], 7)) else ([], 3)

set_option maxRecDepth 100000 in
set_option maxHeartbeats 2000000 in
theorem at_any (fs : List Fl) (name : List UInt8) (A : Option Addr) (n cap : Nat) (f : Int) (w : World) (hn : n ≤ 1099511627776) (hx : FRow w A n fs) (hso : SortedF fs) :
    Calls Tryz.prog 113 #[diskV A n cap f, .string (bs name)] w fun e w' => e = .returned (.int .i64 (atI name fs)) ∧ Gr w w' := by
  unfold diskV
  have hl := hx.len
  go_enter Tryz.func113, Tryz.ntmps113
  go_wp2_with fail
  have hg0 := (Gr.refl w).alloc (.cells #[.slice A n cap, .int .i64 f] 24)
  obtain ⟨wa, hwa⟩ : ∃ x, x = w.alloc (.cells #[.slice A n cap, .int .i64 f] 24) := ⟨_, rfl⟩
  rw [← hwa] at hg0
  rw [← hwa]
  have HX := sec (hx.gr hg0)
  have HS := sec hso
  clear hwa hx hso
  go_loopw [10, 5, 6] (fun iv _ _ wr => ∃ i : Nat, iv = .int .i64 (i : Int) ∧ i ≤ n ∧ Sec (∀ m (hm : m < fs.length), m < i → (fs[m].1 == name) = false) ∧ Gr wa wr) (fun iv _ _ _ => n - (intOf iv).toNat)
  case atStart => exact ⟨0, rfl, by omega, sec (fun m hm h => by omega), Gr.refl _⟩
  case round =>
    obtain ⟨i, rfl, hi, H1, hg⟩ := hrel
    by_cases hlt : i < n
    · have hif : i < fs.length := by omega
      have hii : (i : Int) < (n : Int) := by omega
      obtain ⟨b, off, rfl, e0, e1, e2⟩ := (HX.out.gr hg).cell hif
      have HY : Sec ((fs[i].1 == name) = true → atI name fs = i) := sec (fun h => by
        have h' : fs[i].1 = name := by simpa using h
        have : lbF name fs = i := lbF_of name fs i (by omega) (fun k hk hl => by rw [← h']; exact HS.out.get hif hl) (fun _ => by rw [h']; exact ltB_irr _)
        unfold atI
        rw [if_pos (by unfold hasF; exact List.any_eq_true.2 ⟨fs[i], List.getElem_mem hif, h⟩), this])
      have HN : Sec ((fs[i].1 == name) = false → ∀ m (hm : m < fs.length), m < i + 1 → (fs[m].1 == name) = false) := sec (fun h m hm hl => by
        rcases Nat.lt_or_eq_of_le (Nat.le_of_lt_succ hl) with h3 | rfl
        · exact H1.out m hm h3
        · exact h)
      obtain ⟨x, hxx⟩ : ∃ x, x = fs[i] := ⟨_, rfl⟩
      rw [← hxx] at e0 e1 e2 HY HN
      clear hxx hif
      obtain ⟨nm, sf, tl⟩ := x
      simp only at e0 e1 e2 HY HN
      cases hb : nm == name with
      | true =>
        have HA := sec (HY.out hb)
        clear HY HN
        go_wp2_with fail
        go_ret
        exact ⟨by rw [HA.out]; rfl, hg0.trans (hg.alloc _)⟩
      | false =>
        have HA := sec (HN.out hb)
        clear HY HN
        go_wp2_with fail
        go_roundw
        case rel => exact ⟨i + 1, by go_num, by omega, HA, hg.alloc _⟩
        case measure => simp [intOf]; omega
    · obtain rfl : i = n := by omega
      have HA : Sec (atI name fs = -1) := sec (by
        unfold atI
        rw [if_neg]
        intro h
        obtain ⟨f, hf, hn⟩ := List.any_eq_true.1 h
        obtain ⟨m, hm, rfl⟩ := List.getElem_of_mem hf
        rw [H1.out m hm (by omega)] at hn; cases hn)
      clear hlt hi
      go_wp2_with fail
      go_ret
      exact ⟨by rw [HA.out]; rfl, hg0.trans hg⟩

set_option maxRecDepth 100000 in
set_option maxHeartbeats 4000000 in
theorem read_any (fs : List Fl) (name : List UInt8) (A : Option Addr) (n cap : Nat) (f : Int) (w : World) (hn : n ≤ 1099511627776) (hx : FRow w A n fs) (hs : ∀ f ∈ fs, f.1.length ≤ 1099511627776 ∧ f.2.1.length ≤ 1099511627776 ∧ f.2.2.length ≤ 1099511627776) :
    Calls Tryz.prog 76 #[diskV A n cap f, .string (bs name)] w fun e w' => e = .returned (.tuple #[.string (bs (readR fs name).1), .int .i64 (readR fs name).2]) ∧ Gr w w' := by
  have hg0 := (Gr.refl w).alloc (.cells #[.slice A n cap, .int .i64 f] 24)
  have hb1 := Blk.new w 24 #[.slice A n cap, .int .i64 f]
  have HG := sec (dgood_any fs A n cap f _ hn (hx.gr hg0) hs)
  have hl := hx.len
  have HX := sec (hx.gr hg0)
  clear hx
  obtain ⟨wa, hwa⟩ : ∃ x, x = w.alloc (.cells #[.slice A n cap, .int .i64 f] 24) := ⟨_, rfl⟩
  rw [← hwa] at hg0 hb1 HG HX
  obtain ⟨p, hp⟩ : ∃ p, p = w.heap.size := ⟨_, rfl⟩
  rw [← hp] at hb1
  have c0 : wa.cell? ⟨p, 0, none⟩ = some (.slice A n cap) := hb1.cell 0
  have c1 : wa.cell? ⟨p, 1, none⟩ = some (.int .i64 f) := hb1.cell 1
  have HB := sec hb1
  have HSZ := sec hs
  clear hb1 hs
  unfold diskV at HG
  unfold diskV
  cases hgf : goodFs fs with
  | false =>
    have HR : Sec (readR fs name = ([], 3)) := sec (by unfold readR; rw [hgf]; rfl)
    rw [HR.out]
    rw [hgf] at HG
    clear hgf
    go_enter Tryz.func76, Tryz.ntmps76
    go_wp2_with (first | (rw [← hwa, ← hp]; clear hwa hp; go_wp2_with fail) | (go_at_call 75; refine Calls.mono HG.out ?_; rintro e w1 ⟨rfl, g1⟩))
    go_ret2
    exact ⟨rfl, hg0.trans g1⟩
  | true =>
    have HS := sec (goodFs_sorted hgf)
    rw [hgf] at HG
    cases hhf : hasF name fs with
    | false =>
      have HR : Sec (readR fs name = ([], 7)) := sec (by unfold readR; rw [hgf, hhf]; rfl)
      rw [HR.out]
      have hai : atI name fs = -1 := by unfold atI; rw [hhf]; rfl
      clear hgf
      go_enter Tryz.func76, Tryz.ntmps76
      go_wp2_with (first | (rw [← hwa, ← hp]; clear hwa hp; go_wp2_with fail) | (go_at_call 75; refine Calls.mono HG.out ?_; rintro e w1 ⟨rfl, g1⟩; have c0y : w1.cell? ⟨p, 0, none⟩ = some (.slice A n cap) := (HB.out.gr g1).cell 0; have c1y : w1.cell? ⟨p, 1, none⟩ = some (.int .i64 f) := (HB.out.gr g1).cell 1) | (go_at_call 111; refine Calls.mono (find_any fs name A n cap f _ hn (HX.out.gr g1) HS.out) ?_; rw [hhf]; rintro e w2 ⟨rfl, g2⟩))
      go_ret2
      exact ⟨rfl, hg0.trans (g1.trans g2)⟩
    | true =>
      have hlt := hasF_lt HS.out hhf
      obtain ⟨k, hk⟩ : ∃ k, k = lbF name fs := ⟨_, rfl⟩
      have hai : atI name fs = k := by unfold atI; rw [hhf, hk]; rfl
      rw [← hk] at hlt
      obtain ⟨hkf, hnm⟩ := hlt
      have hkn : (k : Int) < (n : Int) := by omega
      obtain ⟨b, off, rfl, e0, e1, e2⟩ := HX.out.cell hkf
      have HR : Sec (readR fs name = (fs[k].2.1 ++ fs[k].2.2, 0)) := sec (by
        unfold readR; rw [hgf, hhf, if_pos rfl, if_pos rfl, ← hk, List.getD_eq_getElem?_getD, List.getElem?_eq_getElem hkf]; rfl)
      have hsz := goodFs_ok hgf fs[k] (List.getElem_mem hkf)
      obtain ⟨x, hxx⟩ : ∃ x, x = fs[k] := ⟨_, rfl⟩
      rw [← hxx] at e0 e1 e2 HR hsz
      have HK := sec hk
      clear hxx hkf hnm hgf hk
      obtain ⟨nm, sf, tl⟩ := x
      simp only at e0 e1 e2 HR hsz
      obtain ⟨_, hz1, hz2⟩ := hsz
      have hbl : b < wa.heap.size := World.block_lt_of_cell? wa _ e1
      have E1 : Sec (∀ w2, Gr wa w2 → w2.cell? ⟨b, off + k * 3 + 1, none⟩ = some (.string (bs sf))) := sec (fun w2 g => (g.cells.1 b _ hbl).trans e1)
      have E2 : Sec (∀ w2, Gr wa w2 → w2.cell? ⟨b, off + k * 3 + 2, none⟩ = some (.string (bs tl))) := sec (fun w2 g => (g.cells.1 b _ hbl).trans e2)
      clear e0 e1 e2 hbl
      rw [HR.out]
      go_enter Tryz.func76, Tryz.ntmps76
      go_wp2_with (first | (rw [← hwa, ← hp]; clear hwa hp; go_wp2_with fail) | (go_at_call 75; refine Calls.mono HG.out ?_; rintro e w1 ⟨rfl, g1⟩; have c0y : w1.cell? ⟨p, 0, none⟩ = some (.slice (some ⟨b, off, none⟩) n cap) := (HB.out.gr g1).cell 0; have c1y : w1.cell? ⟨p, 1, none⟩ = some (.int .i64 f) := (HB.out.gr g1).cell 1) | (go_at_call 111; refine Calls.mono (find_any fs name (some ⟨b, off, none⟩) n cap f _ hn (HX.out.gr g1) HS.out) ?_; rw [hhf, ← HK.out]; rintro e w2 ⟨rfl, g2⟩; have gg : Gr wa w2 := g1.trans g2; have c0z : w2.cell? ⟨p, 0, none⟩ = some (.slice (some ⟨b, off, none⟩) n cap) := (HB.out.gr gg).cell 0; have e1z : w2.cell? ⟨b, off + k * 3 + 1, none⟩ = some (.string (bs sf)) := E1.out w2 gg; have e2z : w2.cell? ⟨b, off + k * 3 + 2, none⟩ = some (.string (bs tl)) := E2.out w2 gg))
      go_quiet (fail)
      go_wp2_with fail
      go_ret2
      exact ⟨rfl, hg0.trans (gg.drewN _)⟩

set_option maxRecDepth 100000 in
set_option maxHeartbeats 4000000 in
theorem rread_any (fs : List Fl) (name : List UInt8) (A : Option Addr) (n cap : Nat) (f : Int) (w : World) (hn : n ≤ 1099511627776) (hx : FRow w A n fs) (hs : ∀ f ∈ fs, f.1.length ≤ 1099511627776 ∧ f.2.1.length ≤ 1099511627776 ∧ f.2.2.length ≤ 1099511627776) :
    Calls Tryz.prog 73 #[diskV A n cap f, .string (bs name)] w fun e w' => e = .returned (.tuple #[.string (bs (readR fs name).1), .int .i64 (readR fs name).2]) ∧ Gr w w' := by
  have hg0 := (Gr.refl w).alloc (.cells #[.slice A n cap, .int .i64 f] 24)
  have hb1 := Blk.new w 24 #[.slice A n cap, .int .i64 f]
  have HG := sec (drgood_any fs A n cap f _ hn (hx.gr hg0) hs)
  have hl := hx.len
  have HX := sec (hx.gr hg0)
  clear hx
  obtain ⟨wa, hwa⟩ : ∃ x, x = w.alloc (.cells #[.slice A n cap, .int .i64 f] 24) := ⟨_, rfl⟩
  rw [← hwa] at hg0 hb1 HG HX
  obtain ⟨p, hp⟩ : ∃ p, p = w.heap.size := ⟨_, rfl⟩
  rw [← hp] at hb1
  have c0 : wa.cell? ⟨p, 0, none⟩ = some (.slice A n cap) := hb1.cell 0
  have c1 : wa.cell? ⟨p, 1, none⟩ = some (.int .i64 f) := hb1.cell 1
  have HB := sec hb1
  have HSZ := sec hs
  clear hb1 hs
  unfold diskV at HG
  unfold diskV
  cases hgf : goodFs fs with
  | false =>
    have HR : Sec (readR fs name = ([], 3)) := sec (by unfold readR; rw [hgf]; rfl)
    rw [HR.out]
    rw [hgf] at HG
    clear hgf
    go_enter Tryz.func73, Tryz.ntmps73
    go_wp2_with (first | (rw [← hwa, ← hp]; clear hwa hp; go_wp2_with fail) | (go_at_call 86; refine Calls.mono HG.out ?_; rintro e w1 ⟨rfl, g1⟩))
    go_ret2
    exact ⟨rfl, hg0.trans g1⟩
  | true =>
    have HS := sec (goodFs_sorted hgf)
    rw [hgf] at HG
    cases hhf : hasF name fs with
    | false =>
      have HR : Sec (readR fs name = ([], 7)) := sec (by unfold readR; rw [hgf, hhf]; rfl)
      rw [HR.out]
      have hai : atI name fs = -1 := by unfold atI; rw [hhf]; rfl
      clear hgf
      go_enter Tryz.func73, Tryz.ntmps73
      go_wp2_with (first | (rw [← hwa, ← hp]; clear hwa hp; go_wp2_with fail) | (go_at_call 86; refine Calls.mono HG.out ?_; rintro e w1 ⟨rfl, g1⟩; have c0y : w1.cell? ⟨p, 0, none⟩ = some (.slice A n cap) := (HB.out.gr g1).cell 0; have c1y : w1.cell? ⟨p, 1, none⟩ = some (.int .i64 f) := (HB.out.gr g1).cell 1) | (go_at_call 113; refine Calls.mono (at_any fs name A n cap f _ hn (HX.out.gr g1) HS.out) ?_; rw [hai]; rintro e w2 ⟨rfl, g2⟩))
      go_ret2
      exact ⟨rfl, hg0.trans (g1.trans g2)⟩
    | true =>
      have hlt := hasF_lt HS.out hhf
      obtain ⟨k, hk⟩ : ∃ k, k = lbF name fs := ⟨_, rfl⟩
      have hai : atI name fs = k := by unfold atI; rw [hhf, hk]; rfl
      rw [← hk] at hlt
      obtain ⟨hkf, hnm⟩ := hlt
      have hkn : (k : Int) < (n : Int) := by omega
      obtain ⟨b, off, rfl, e0, e1, e2⟩ := HX.out.cell hkf
      have HR : Sec (readR fs name = (fs[k].2.1 ++ fs[k].2.2, 0)) := sec (by
        unfold readR; rw [hgf, hhf, if_pos rfl, if_pos rfl, ← hk, List.getD_eq_getElem?_getD, List.getElem?_eq_getElem hkf]; rfl)
      have hsz := goodFs_ok hgf fs[k] (List.getElem_mem hkf)
      obtain ⟨x, hxx⟩ : ∃ x, x = fs[k] := ⟨_, rfl⟩
      rw [← hxx] at e0 e1 e2 HR hsz
      have HK := sec hk
      clear hxx hkf hnm hgf hk
      obtain ⟨nm, sf, tl⟩ := x
      simp only at e0 e1 e2 HR hsz
      obtain ⟨_, hz1, hz2⟩ := hsz
      have hbl : b < wa.heap.size := World.block_lt_of_cell? wa _ e1
      have E1 : Sec (∀ w2, Gr wa w2 → w2.cell? ⟨b, off + k * 3 + 1, none⟩ = some (.string (bs sf))) := sec (fun w2 g => (g.cells.1 b _ hbl).trans e1)
      have E2 : Sec (∀ w2, Gr wa w2 → w2.cell? ⟨b, off + k * 3 + 2, none⟩ = some (.string (bs tl))) := sec (fun w2 g => (g.cells.1 b _ hbl).trans e2)
      clear e0 e1 e2 hbl
      rw [HR.out]
      go_enter Tryz.func73, Tryz.ntmps73
      go_wp2_with (first | (rw [← hwa, ← hp]; clear hwa hp; go_wp2_with fail) | (go_at_call 86; refine Calls.mono HG.out ?_; rintro e w1 ⟨rfl, g1⟩; have c0y : w1.cell? ⟨p, 0, none⟩ = some (.slice (some ⟨b, off, none⟩) n cap) := (HB.out.gr g1).cell 0; have c1y : w1.cell? ⟨p, 1, none⟩ = some (.int .i64 f) := (HB.out.gr g1).cell 1) | (go_at_call 113; refine Calls.mono (at_any fs name (some ⟨b, off, none⟩) n cap f _ hn (HX.out.gr g1) HS.out) ?_; rw [hai]; rintro e w2 ⟨rfl, g2⟩; have gg : Gr wa w2 := g1.trans g2; have c0z : w2.cell? ⟨p, 0, none⟩ = some (.slice (some ⟨b, off, none⟩) n cap) := (HB.out.gr gg).cell 0; have e1z : w2.cell? ⟨b, off + k * 3 + 1, none⟩ = some (.string (bs sf)) := E1.out w2 gg; have e2z : w2.cell? ⟨b, off + k * 3 + 2, none⟩ = some (.string (bs tl)) := E2.out w2 gg))
      go_quiet (fail)
      go_wp2_with fail
      go_ret2
      exact ⟨rfl, hg0.trans (gg.drewN _)⟩
end Go.Proofs.YtoamnifnfkgbiaaGreatDoor

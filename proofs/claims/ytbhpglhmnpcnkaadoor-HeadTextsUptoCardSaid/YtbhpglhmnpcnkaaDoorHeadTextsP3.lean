/-
  What the walk of cartularylaw.HeadTexts leans on, part 3 of 7: contracts and plain laws. No conditions.
-/
import Derived.Test.YtbhpglhmnpcnkaaDoorHeadTextsP2
import Derived.Test.YtbhpglhmnpcnkaaDoorHeadTextsP1
import Derived.StillTailTactics
import Derived.Laws.CopyOwn
import Derived.Laws.Rows
import Derived.Laws.Tables
import Derived.Lib.ConvBytes
import Derived.Lib.AtoiErrMem
namespace Go.Proofs.YtbhpglhmnpcnkaaDoor
open Go.RowKit
set_option linter.unusedVariables false

theorem goodFs_sorted {fs : List Fl} (h : goodFs fs = true) : SortedF fs := by
  unfold goodFs at h
  rw [Bool.and_eq_true] at h
  exact (goodFrom_sorted fs [] h.2).2
theorem goodFs_len {fs : List Fl} (h : goodFs fs = true) : fs.length ≤ 400 := by
  unfold goodFs at h
  rw [Bool.and_eq_true] at h
  exact of_decide_eq_true h.1
theorem goodFs_ok {fs : List Fl} (h : goodFs fs = true) : ∀ f ∈ fs, namedB f.1 = true ∧ f.2.1.length ≤ 1048576 ∧ f.2.1.length + f.2.2.length ≤ 1048576 := by
  unfold goodFs at h
  rw [Bool.and_eq_true] at h
  intro f hf
  have := ((goodFrom_sorted fs [] h.2).1 f hf).2
  unfold fileOk at this
  rw [Bool.and_eq_true] at this
  exact ⟨this.1, of_decide_eq_true this.2⟩
/-- ref.at on a good disk -/
def atI (name : List UInt8) (fs : List Fl) : Int := if hasF name fs then (lbF name fs : Int) else -1
/-- P6.6 -/
def readR (fs : List Fl) (name : List UInt8) : List UInt8 × Int :=
  if goodFs fs then (if hasF name fs then ((fs.getD (lbF name fs) ([], [], [])).2.1 ++ (fs.getD (lbF name fs) ([], [], [])).2.2, 0) else ([], 7)) else ([], 3)

set_option maxRecDepth 100000 in
set_option maxHeartbeats 2000000 in
theorem at_any (fs : List Fl) (name : List UInt8) (A : Option Addr) (n cap : Nat) (f : Int) (w : World) (hn : n ≤ 1099511627776) (hx : FRow w A n fs) (hso : SortedF fs) :
    Calls Tryd.prog 82 #[diskV A n cap f, .string (bs name)] w fun e w' => e = .returned (.int .i64 (atI name fs)) ∧ Gr w w' := by
  unfold diskV
  have hl := hx.len
  go_enter Tryd.func82, Tryd.ntmps82
  go_wp2_with fail
  have hg0 := (Gr.refl w).alloc (.cells #[.slice A n cap, .int .i64 f] 24)
  obtain ⟨wa, hwa⟩ : ∃ x, x = w.alloc (.cells #[.slice A n cap, .int .i64 f] 24) := ⟨_, rfl⟩
  rw [← hwa] at hg0
  rw [← hwa]
  have HX := sec (hx.gr hg0)
  have HS := sec hso
  clear hwa hx hso
  go_loopw [10, 5, 6] (fun iv _ _ wr => ∃ i : Nat, iv = .int .i64 (i : Int) ∧ i ≤ n ∧ Sec (∀ m (hm : m < fs.length), m < i → (fs[m].1 == name) = false) ∧ Gr wa wr) (fun iv _ _ _ => n - (intOf iv).toNat)
  case atStart => exact ⟨0, rfl, by omega, sec (fun m hm h => by omega), Gr.refl _⟩
  case round =>
    obtain ⟨i, rfl, hi, H1, hg⟩ := hrel
    by_cases hlt : i < n
    · have hif : i < fs.length := by omega
      have hii : (i : Int) < (n : Int) := by omega
      obtain ⟨b, off, rfl, e0, e1, e2⟩ := (HX.out.gr hg).cell hif
      have HY : Sec ((fs[i].1 == name) = true → atI name fs = i) := sec (fun h => by
        have h' : fs[i].1 = name := by simpa using h
        have : lbF name fs = i := lbF_of name fs i (by omega) (fun k hk hl => by rw [← h']; exact HS.out.get hif hl) (fun _ => by rw [h']; exact ltB_irr _)
        unfold atI
        rw [if_pos (by unfold hasF; exact List.any_eq_true.2 ⟨fs[i], List.getElem_mem hif, h⟩), this])
      have HN : Sec ((fs[i].1 == name) = false → ∀ m (hm : m < fs.length), m < i + 1 → (fs[m].1 == name) = false) := sec (fun h m hm hl => by
        rcases Nat.lt_or_eq_of_le (Nat.le_of_lt_succ hl) with h3 | rfl
        · exact H1.out m hm h3
        · exact h)
      obtain ⟨x, hxx⟩ : ∃ x, x = fs[i] := ⟨_, rfl⟩
      rw [← hxx] at e0 e1 e2 HY HN
      clear hxx hif
      obtain ⟨nm, sf, tl⟩ := x
      simp only at e0 e1 e2 HY HN
      cases hb : nm == name with
      | true =>
        have HA := sec (HY.out hb)
        clear HY HN
        go_wp2_with fail
        go_ret
        exact ⟨by rw [HA.out]; rfl, hg0.trans (hg.alloc _)⟩
      | false =>
        have HA := sec (HN.out hb)
        clear HY HN
        go_wp2_with fail
        go_roundw
        case rel => exact ⟨i + 1, by go_num, by omega, HA, hg.alloc _⟩
        case measure => simp [intOf]; omega
    · obtain rfl : i = n := by omega
      have HA : Sec (atI name fs = -1) := sec (by
        unfold atI
        rw [if_neg]
        intro h
        obtain ⟨f, hf, hn⟩ := List.any_eq_true.1 h
        obtain ⟨m, hm, rfl⟩ := List.getElem_of_mem hf
        rw [H1.out m hm (by omega)] at hn; cases hn)
      clear hlt hi
      go_wp2_with fail
      go_ret
      exact ⟨by rw [HA.out]; rfl, hg0.trans hg⟩

set_option maxRecDepth 100000 in
set_option maxHeartbeats 4000000 in
theorem read_any (fs : List Fl) (name : List UInt8) (A : Option Addr) (n cap : Nat) (f : Int) (w : World) (hn : n ≤ 1099511627776) (hx : FRow w A n fs) (hs : ∀ f ∈ fs, f.1.length ≤ 1099511627776 ∧ f.2.1.length ≤ 1099511627776 ∧ f.2.2.length ≤ 1099511627776) :
    Calls Tryd.prog 56 #[diskV A n cap f, .string (bs name)] w fun e w' => e = .returned (.tuple #[.string (bs (readR fs name).1), .int .i64 (readR fs name).2]) ∧ Gr w w' := by
  have hg0 := (Gr.refl w).alloc (.cells #[.slice A n cap, .int .i64 f] 24)
  have hb1 := Blk.new w 24 #[.slice A n cap, .int .i64 f]
  have HG := sec (dgood_any fs A n cap f _ hn (hx.gr hg0) hs)
  have hl := hx.len
  have HX := sec (hx.gr hg0)
  clear hx
  obtain ⟨wa, hwa⟩ : ∃ x, x = w.alloc (.cells #[.slice A n cap, .int .i64 f] 24) := ⟨_, rfl⟩
  rw [← hwa] at hg0 hb1 HG HX
  obtain ⟨p, hp⟩ : ∃ p, p = w.heap.size := ⟨_, rfl⟩
  rw [← hp] at hb1
  have c0 : wa.cell? ⟨p, 0, none⟩ = some (.slice A n cap) := hb1.cell 0
  have c1 : wa.cell? ⟨p, 1, none⟩ = some (.int .i64 f) := hb1.cell 1
  have HB := sec hb1
  have HSZ := sec hs
  clear hb1 hs
  unfold diskV at HG
  unfold diskV
  cases hgf : goodFs fs with
  | false =>
    have HR : Sec (readR fs name = ([], 3)) := sec (by unfold readR; rw [hgf]; rfl)
    rw [HR.out]
    rw [hgf] at HG
    clear hgf
    go_enter Tryd.func56, Tryd.ntmps56
    go_wp2_with (first | (rw [← hwa, ← hp]; clear hwa hp; go_wp2_with fail) | (go_at_call 54; refine Calls.mono HG.out ?_; rintro e w1 ⟨rfl, g1⟩))
    go_ret2
    exact ⟨rfl, hg0.trans g1⟩
  | true =>
    have HS := sec (goodFs_sorted hgf)
    rw [hgf] at HG
    cases hhf : hasF name fs with
    | false =>
      have HR : Sec (readR fs name = ([], 7)) := sec (by unfold readR; rw [hgf, hhf]; rfl)
      rw [HR.out]
      have hai : atI name fs = -1 := by unfold atI; rw [hhf]; rfl
      clear hgf
      go_enter Tryd.func56, Tryd.ntmps56
      go_wp2_with (first | (rw [← hwa, ← hp]; clear hwa hp; go_wp2_with fail) | (go_at_call 54; refine Calls.mono HG.out ?_; rintro e w1 ⟨rfl, g1⟩; have c0y : w1.cell? ⟨p, 0, none⟩ = some (.slice A n cap) := (HB.out.gr g1).cell 0; have c1y : w1.cell? ⟨p, 1, none⟩ = some (.int .i64 f) := (HB.out.gr g1).cell 1) | (go_at_call 72; refine Calls.mono (find_any fs name A n cap f _ hn (HX.out.gr g1) HS.out) ?_; rw [hhf]; rintro e w2 ⟨rfl, g2⟩))
      go_ret2
      exact ⟨rfl, hg0.trans (g1.trans g2)⟩
    | true =>
      have hlt := hasF_lt HS.out hhf
      obtain ⟨k, hk⟩ : ∃ k, k = lbF name fs := ⟨_, rfl⟩
      have hai : atI name fs = k := by unfold atI; rw [hhf, hk]; rfl
      rw [← hk] at hlt
      obtain ⟨hkf, hnm⟩ := hlt
      have hkn : (k : Int) < (n : Int) := by omega
      obtain ⟨b, off, rfl, e0, e1, e2⟩ := HX.out.cell hkf
      have HR : Sec (readR fs name = (fs[k].2.1 ++ fs[k].2.2, 0)) := sec (by
        unfold readR; rw [hgf, hhf, if_pos rfl, if_pos rfl, ← hk, List.getD_eq_getElem?_getD, List.getElem?_eq_getElem hkf]; rfl)
      have hsz := goodFs_ok hgf fs[k] (List.getElem_mem hkf)
      obtain ⟨x, hxx⟩ : ∃ x, x = fs[k] := ⟨_, rfl⟩
      rw [← hxx] at e0 e1 e2 HR hsz
      have HK := sec hk
      clear hxx hkf hnm hgf hk
      obtain ⟨nm, sf, tl⟩ := x
      simp only at e0 e1 e2 HR hsz
      obtain ⟨_, hz1, hz2⟩ := hsz
      have hbl : b < wa.heap.size := World.block_lt_of_cell? wa _ e1
      have E1 : Sec (∀ w2, Gr wa w2 → w2.cell? ⟨b, off + k * 3 + 1, none⟩ = some (.string (bs sf))) := sec (fun w2 g => (g.cells.1 b _ hbl).trans e1)
      have E2 : Sec (∀ w2, Gr wa w2 → w2.cell? ⟨b, off + k * 3 + 2, none⟩ = some (.string (bs tl))) := sec (fun w2 g => (g.cells.1 b _ hbl).trans e2)
      clear e0 e1 e2 hbl
      rw [HR.out]
      go_enter Tryd.func56, Tryd.ntmps56
      go_wp2_with (first | (rw [← hwa, ← hp]; clear hwa hp; go_wp2_with fail) | (go_at_call 54; refine Calls.mono HG.out ?_; rintro e w1 ⟨rfl, g1⟩; have c0y : w1.cell? ⟨p, 0, none⟩ = some (.slice (some ⟨b, off, none⟩) n cap) := (HB.out.gr g1).cell 0; have c1y : w1.cell? ⟨p, 1, none⟩ = some (.int .i64 f) := (HB.out.gr g1).cell 1) | (go_at_call 72; refine Calls.mono (find_any fs name (some ⟨b, off, none⟩) n cap f _ hn (HX.out.gr g1) HS.out) ?_; rw [hhf, ← HK.out]; rintro e w2 ⟨rfl, g2⟩; have gg : Gr wa w2 := g1.trans g2; have c0z : w2.cell? ⟨p, 0, none⟩ = some (.slice (some ⟨b, off, none⟩) n cap) := (HB.out.gr gg).cell 0; have e1z : w2.cell? ⟨b, off + k * 3 + 1, none⟩ = some (.string (bs sf)) := E1.out w2 gg; have e2z : w2.cell? ⟨b, off + k * 3 + 2, none⟩ = some (.string (bs tl)) := E2.out w2 gg))
      go_quiet (fail)
      go_wp2_with fail
      go_ret2
      exact ⟨rfl, hg0.trans (gg.drewN _)⟩

set_option maxRecDepth 100000 in
set_option maxHeartbeats 4000000 in
theorem rread_any (fs : List Fl) (name : List UInt8) (A : Option Addr) (n cap : Nat) (f : Int) (w : World) (hn : n ≤ 1099511627776) (hx : FRow w A n fs) (hs : ∀ f ∈ fs, f.1.length ≤ 1099511627776 ∧ f.2.1.length ≤ 1099511627776 ∧ f.2.2.length ≤ 1099511627776) :
    Calls Tryd.prog 58 #[diskV A n cap f, .string (bs name)] w fun e w' => e = .returned (.tuple #[.string (bs (readR fs name).1), .int .i64 (readR fs name).2]) ∧ Gr w w' := by
  have hg0 := (Gr.refl w).alloc (.cells #[.slice A n cap, .int .i64 f] 24)
  have hb1 := Blk.new w 24 #[.slice A n cap, .int .i64 f]
  have HG := sec (drgood_any fs A n cap f _ hn (hx.gr hg0) hs)
  have hl := hx.len
  have HX := sec (hx.gr hg0)
  clear hx
  obtain ⟨wa, hwa⟩ : ∃ x, x = w.alloc (.cells #[.slice A n cap, .int .i64 f] 24) := ⟨_, rfl⟩
  rw [← hwa] at hg0 hb1 HG HX
  obtain ⟨p, hp⟩ : ∃ p, p = w.heap.size := ⟨_, rfl⟩
  rw [← hp] at hb1
  have c0 : wa.cell? ⟨p, 0, none⟩ = some (.slice A n cap) := hb1.cell 0
  have c1 : wa.cell? ⟨p, 1, none⟩ = some (.int .i64 f) := hb1.cell 1
  have HB := sec hb1
  have HSZ := sec hs
  clear hb1 hs
  unfold diskV at HG
  unfold diskV
  cases hgf : goodFs fs with
  | false =>
    have HR : Sec (readR fs name = ([], 3)) := sec (by unfold readR; rw [hgf]; rfl)
    rw [HR.out]
    rw [hgf] at HG
    clear hgf
    go_enter Tryd.func58, Tryd.ntmps58
    go_wp2_with (first | (rw [← hwa, ← hp]; clear hwa hp; go_wp2_with fail) | (go_at_call 57; refine Calls.mono HG.out ?_; rintro e w1 ⟨rfl, g1⟩))
    go_ret2
    exact ⟨rfl, hg0.trans g1⟩
  | true =>
    have HS := sec (goodFs_sorted hgf)
    rw [hgf] at HG
    cases hhf : hasF name fs with
    | false =>
      have HR : Sec (readR fs name = ([], 7)) := sec (by unfold readR; rw [hgf, hhf]; rfl)
      rw [HR.out]
      have hai : atI name fs = -1 := by unfold atI; rw [hhf]; rfl
      clear hgf
      go_enter Tryd.func58, Tryd.ntmps58
      go_wp2_with (first | (rw [← hwa, ← hp]; clear hwa hp; go_wp2_with fail) | (go_at_call 57; refine Calls.mono HG.out ?_; rintro e w1 ⟨rfl, g1⟩; have c0y : w1.cell? ⟨p, 0, none⟩ = some (.slice A n cap) := (HB.out.gr g1).cell 0; have c1y : w1.cell? ⟨p, 1, none⟩ = some (.int .i64 f) := (HB.out.gr g1).cell 1) | (go_at_call 82; refine Calls.mono (at_any fs name A n cap f _ hn (HX.out.gr g1) HS.out) ?_; rw [hai]; rintro e w2 ⟨rfl, g2⟩))
      go_ret2
      exact ⟨rfl, hg0.trans (g1.trans g2)⟩
    | true =>
      have hlt := hasF_lt HS.out hhf
      obtain ⟨k, hk⟩ : ∃ k, k = lbF name fs := ⟨_, rfl⟩
      have hai : atI name fs = k := by unfold atI; rw [hhf, hk]; rfl
      rw [← hk] at hlt
      obtain ⟨hkf, hnm⟩ := hlt
      have hkn : (k : Int) < (n : Int) := by omega
      obtain ⟨b, off, rfl, e0, e1, e2⟩ := HX.out.cell hkf
      have HR : Sec (readR fs name = (fs[k].2.1 ++ fs[k].2.2, 0)) := sec (by
        unfold readR; rw [hgf, hhf, if_pos rfl, if_pos rfl, ← hk, List.getD_eq_getElem?_getD, List.getElem?_eq_getElem hkf]; rfl)
      have hsz := goodFs_ok hgf fs[k] (List.getElem_mem hkf)
      obtain ⟨x, hxx⟩ : ∃ x, x = fs[k] := ⟨_, rfl⟩
      rw [← hxx] at e0 e1 e2 HR hsz
      have HK := sec hk
      clear hxx hkf hnm hgf hk
      obtain ⟨nm, sf, tl⟩ := x
      simp only at e0 e1 e2 HR hsz
      obtain ⟨_, hz1, hz2⟩ := hsz
      have hbl : b < wa.heap.size := World.block_lt_of_cell? wa _ e1
      have E1 : Sec (∀ w2, Gr wa w2 → w2.cell? ⟨b, off + k * 3 + 1, none⟩ = some (.string (bs sf))) := sec (fun w2 g => (g.cells.1 b _ hbl).trans e1)
      have E2 : Sec (∀ w2, Gr wa w2 → w2.cell? ⟨b, off + k * 3 + 2, none⟩ = some (.string (bs tl))) := sec (fun w2 g => (g.cells.1 b _ hbl).trans e2)
      clear e0 e1 e2 hbl
      rw [HR.out]
      go_enter Tryd.func58, Tryd.ntmps58
      go_wp2_with (first | (rw [← hwa, ← hp]; clear hwa hp; go_wp2_with fail) | (go_at_call 57; refine Calls.mono HG.out ?_; rintro e w1 ⟨rfl, g1⟩; have c0y : w1.cell? ⟨p, 0, none⟩ = some (.slice (some ⟨b, off, none⟩) n cap) := (HB.out.gr g1).cell 0; have c1y : w1.cell? ⟨p, 1, none⟩ = some (.int .i64 f) := (HB.out.gr g1).cell 1) | (go_at_call 82; refine Calls.mono (at_any fs name (some ⟨b, off, none⟩) n cap f _ hn (HX.out.gr g1) HS.out) ?_; rw [hai]; rintro e w2 ⟨rfl, g2⟩; have gg : Gr wa w2 := g1.trans g2; have c0z : w2.cell? ⟨p, 0, none⟩ = some (.slice (some ⟨b, off, none⟩) n cap) := (HB.out.gr gg).cell 0; have e1z : w2.cell? ⟨b, off + k * 3 + 1, none⟩ = some (.string (bs sf)) := E1.out w2 gg; have e2z : w2.cell? ⟨b, off + k * 3 + 2, none⟩ = some (.string (bs tl)) := E2.out w2 gg))
      go_quiet (fail)
      go_wp2_with fail
      go_ret2
      exact ⟨rfl, hg0.trans (gg.drewN _)⟩
end Go.Proofs.YtbhpglhmnpcnkaaDoor

namespace Go.Proofs.YtbhpglhmnpcnkaaDoor
open Go.RowKit

def u32V (x : UInt32) : Value := .int .u32 (x.toNat : Int)
def rotr (x : UInt32) (n : Nat) : UInt32 := UInt32.ofNat (x.toNat / 2 ^ n + x.toNat % 2 ^ n * 2 ^ (32 - n))
def shr (x : UInt32) (n : Nat) : UInt32 := UInt32.ofNat (x.toNat / 2 ^ n)

theorem rot_high (x n : Nat) (h1 : n < 32) : x * 2 ^ (32 - n) % 4294967296 = x % 2 ^ n * 2 ^ (32 - n) := by
  have e : (4294967296 : Nat) = 2 ^ n * 2 ^ (32 - n) := by rw [← Nat.pow_add, show n + (32 - n) = 32 by omega]
  rw [e, Nat.mul_mod_mul_right]
theorem rot_parts (x n : Nat) (hx : x < 4294967296) (h1 : n < 32) : x / 2 ^ n < 2 ^ (32 - n) ∧ x / 2 ^ n + x % 2 ^ n * 2 ^ (32 - n) < 4294967296 := by
  have e : (4294967296 : Nat) = 2 ^ n * 2 ^ (32 - n) := by rw [← Nat.pow_add, show n + (32 - n) = 32 by omega]
  have hp : 0 < 2 ^ n := Nat.pos_of_ne_zero (by simp)
  have h2 : x / 2 ^ n < 2 ^ (32 - n) := by rw [Nat.div_lt_iff_lt_mul hp, Nat.mul_comm, ← e]; exact hx
  refine ⟨h2, ?_⟩
  have h3 : x % 2 ^ n + 1 ≤ 2 ^ n := Nat.mod_lt _ hp
  have h4 := Nat.mul_le_mul_right (2 ^ (32 - n)) h3
  rw [Nat.add_mul, ← e] at h4
  omega
theorem rotr_toNat (x : UInt32) (n : Nat) (h1 : n < 32) : (rotr x n).toNat = x.toNat / 2 ^ n + x.toNat % 2 ^ n * 2 ^ (32 - n) := by
  have := rot_parts x.toNat n x.toNat_lt h1
  unfold rotr
  simp
  omega
theorem rotr_or (x : UInt32) (n : Nat) (h1 : n < 32) : x.toNat / 2 ^ n ||| x.toNat * 2 ^ (32 - n) % 4294967296 = (rotr x n).toNat := by
  have hp := rot_parts x.toNat n x.toNat_lt h1
  rw [rotr_toNat x n h1, rot_high _ _ h1, Nat.or_comm, Nat.mul_comm (x.toNat % 2 ^ n), ← Nat.two_pow_add_eq_or_of_lt hp.1]
  omega

/-- a region of quiet operations with a tail, its world by a name -/
theorem region_still_tail_w {P : Program} {id : Nat} {Q : Exit → Act → World → Prop} {a : Act} {w : World} {l : List Oper} (n : Nat) (hm : P.follows .mixedOrders = true) (hB : Region.lexTailB .any l.toArray n = true)
    (h : ∀ wd, wd = w.drew → wpStill P l.toArray wd (fun a' => wpList P l.toArray Q (l.drop n) a' wd) (l.take n) a) : (Code.region id l.toArray true).wp P Q a w :=
  wp_region_still_tail n hm hB (h _ rfl)

/-! ### the walk's spellings of operations on words: names that 'simp' does not open -/
def xorW (x y : UInt32) : UInt32 := x ^^^ y
def andW (x y : UInt32) : UInt32 := x &&& y
def orW (x y : UInt32) : UInt32 := x ||| y
def addW (x y : UInt32) : UInt32 := x + y
def notW (x : UInt32) : UInt32 := 4294967295 ^^^ x
theorem notW_eq (x : UInt32) : notW x = ~~~x := by
  unfold notW
  apply UInt32.eq_of_toBitVec_eq
  rw [UInt32.toBitVec_xor, UInt32.toBitVec_not]
  exact BitVec.allOnes_xor
theorem w_xor (x y : UInt32) : bits .xor .u32 (x.toNat : Int) (y.toNat : Int) = ((xorW x y).toNat : Int) := by
  rw [u32_xor_nat _ _ x.toNat_lt y.toNat_lt]; exact congrArg _ (UInt32.toNat_xor x y).symm
theorem w_and (x y : UInt32) : bits .and .u32 (x.toNat : Int) (y.toNat : Int) = ((andW x y).toNat : Int) := by
  rw [u32_and_nat _ _ x.toNat_lt y.toNat_lt]; exact congrArg _ (UInt32.toNat_and x y).symm
theorem w_or (x y : UInt32) : bits .or .u32 (x.toNat : Int) (y.toNat : Int) = ((orW x y).toNat : Int) := by
  rw [u32_or_nat _ _ x.toNat_lt y.toNat_lt]; exact congrArg _ (UInt32.toNat_or x y).symm
theorem w_not (x : UInt32) : bits .xor .u32 IntKind.u32.max (x.toNat : Int) = ((notW x).toNat : Int) := by
  have := u32_xor_nat 4294967295 x.toNat (by omega) x.toNat_lt
  refine this.trans ?_
  exact congrArg _ (UInt32.toNat_xor 4294967295 x).symm
theorem w_add (x y : UInt32) : ((x.toNat : Int) + (y.toNat : Int)) % 4294967296 = ((addW x y).toNat : Int) := by
  unfold addW; rw [UInt32.toNat_add]; omega
theorem w_add' (x y : UInt32) : IntKind.u32.wrap ((x.toNat : Int) + (y.toNat : Int)) = ((addW x y).toNat : Int) := by
  rw [IntKind.wrap_u32]; exact w_add x y
theorem shr_toNat (x : UInt32) (n : Nat) : (shr x n).toNat = x.toNat / 2 ^ n := by
  have h := x.toNat_lt
  have := Nat.div_le_self x.toNat (2 ^ n)
  unfold shr
  simp
  omega
theorem w_shr3 (x : UInt32) : (x.toNat : Int) / 8 = ((shr x 3).toNat : Int) := by rw [shr_toNat]; simp
theorem w_shr10 (x : UInt32) : (x.toNat : Int) / 1024 = ((shr x 10).toNat : Int) := by rw [shr_toNat]; simp
attribute [go_sem] w_xor w_and w_or w_not w_add w_add' w_shr3 w_shr10

/-- four bytes put together, as the walk spells it -/
theorem word_or (c0 c1 c2 c3 : UInt8) :
    bits .or .u32 (bits .or .u32 (bits .or .u32 (IntKind.u32.wrap (IntKind.u32.wrap (c0.toNat : Int) * 16777216)) (IntKind.u32.wrap (IntKind.u32.wrap (c1.toNat : Int) * 65536))) (IntKind.u32.wrap (IntKind.u32.wrap (c2.toNat : Int) * 256))) (IntKind.u32.wrap (c3.toNat : Int)) =
      ((c0.toNat * 16777216 + c1.toNat * 65536 + c2.toNat * 256 + c3.toNat : Nat) : Int) := by
  have h0 := c0.toNat_lt
  have h1 := c1.toNat_lt
  have h2 := c2.toNat_lt
  have h3 := c3.toNat_lt
  rw [IntWalk.u32_in (c0.toNat : Int) (by omega), IntWalk.u32_in (c1.toNat : Int) (by omega), IntWalk.u32_in (c2.toNat : Int) (by omega), IntWalk.u32_in (c3.toNat : Int) (by omega)]
  rw [IntWalk.u32_in ((c0.toNat : Int) * 16777216) (by omega), IntWalk.u32_in ((c1.toNat : Int) * 65536) (by omega), IntWalk.u32_in ((c2.toNat : Int) * 256) (by omega)]
  have e0 : (c0.toNat : Int) * 16777216 = ((c0.toNat * 16777216 : Nat) : Int) := by simp
  have e1 : (c1.toNat : Int) * 65536 = ((c1.toNat * 65536 : Nat) : Int) := by simp
  have e2 : (c2.toNat : Int) * 256 = ((c2.toNat * 256 : Nat) : Int) := by simp
  have o1 : c0.toNat * 16777216 ||| c1.toNat * 65536 = c0.toNat * 16777216 + c1.toNat * 65536 := by
    have := Nat.two_pow_add_eq_or_of_lt (i := 24) (b := c1.toNat * 65536) (by omega) c0.toNat
    rw [show (16777216 : Nat) = 2 ^ 24 from rfl, Nat.mul_comm c0.toNat, ← this]
  have o2 : c0.toNat * 16777216 + c1.toNat * 65536 ||| c2.toNat * 256 = c0.toNat * 16777216 + c1.toNat * 65536 + c2.toNat * 256 := by
    have := Nat.two_pow_add_eq_or_of_lt (i := 16) (b := c2.toNat * 256) (by omega) (c0.toNat * 256 + c1.toNat)
    have e : c0.toNat * 16777216 + c1.toNat * 65536 = 2 ^ 16 * (c0.toNat * 256 + c1.toNat) := by omega
    rw [e, ← this]
  have o3 : c0.toNat * 16777216 + c1.toNat * 65536 + c2.toNat * 256 ||| c3.toNat = c0.toNat * 16777216 + c1.toNat * 65536 + c2.toNat * 256 + c3.toNat := by
    have := Nat.two_pow_add_eq_or_of_lt (i := 8) (b := c3.toNat) (by omega) (c0.toNat * 65536 + c1.toNat * 256 + c2.toNat)
    have e : c0.toNat * 16777216 + c1.toNat * 65536 + c2.toNat * 256 = 2 ^ 8 * (c0.toNat * 65536 + c1.toNat * 256 + c2.toNat) := by omega
    rw [e, ← this]
  rw [e0, e1, e2, u32_or_nat _ _ (by omega) (by omega), o1, u32_or_nat _ _ (by omega) (by omega), o2, u32_or_nat _ _ (by omega) (by omega), o3]

/-- the same, with the outer turnings spelled out -/
theorem word_or' (c0 c1 c2 c3 : UInt8) :
    bits .or .u32 (bits .or .u32 (bits .or .u32 ((c0.toNat : Int) % 4294967296 * 16777216 % 4294967296) ((c1.toNat : Int) % 4294967296 * 65536 % 4294967296)) ((c2.toNat : Int) % 4294967296 * 256 % 4294967296)) ((c3.toNat : Int) % 4294967296) =
      ((c0.toNat * 16777216 + c1.toNat * 65536 + c2.toNat * 256 + c3.toNat : Nat) : Int) := by
  have h := word_or c0 c1 c2 c3
  simp only [IntKind.wrap_u32] at h
  exact h

set_option maxRecDepth 100000 in
theorem turn_any (x : UInt32) (n : Int) (w : World) (h0 : 0 < n) (h1 : n < 32) :
    Calls Tryd.prog 112 #[.int .u32 (x.toNat : Int), .int .u64 n] w fun e w' => e = .returned (.int .u32 ((rotr x n.toNat).toNat : Int)) ∧ w' = w := by
  have hr := rotr_or x n.toNat (by omega)
  have h32 : (32 - n).toNat = 32 - n.toNat := by omega
  have hp : x.toNat / 2 ^ n.toNat < 4294967296 := Nat.lt_of_le_of_lt (Nat.div_le_self _ _) x.toNat_lt
  have hfin : bits .or .u32 ((x.toNat : Int) / 2 ^ n.toNat) ((x.toNat : Int) * 2 ^ (32 - n).toNat % 4294967296) = ((rotr x n.toNat).toNat : Int) := by
    rw [h32, ← hr, ← u32_or_nat _ _ hp (Nat.mod_lt _ (by omega))]
    simp
  have HF := sec hfin
  have hx := x.toNat_lt
  clear hr h32 hp hfin
  go_enter Tryd.func112, Tryd.ntmps112
  go_wp2
  go_ret
  exact ⟨by rw [← HF.out]; rfl, rfl⟩

set_option maxRecDepth 100000 in
theorem rturn_any (x : UInt32) (n : Int) (w : World) (h0 : 0 < n) (h1 : n < 32) :
    Calls Tryd.prog 105 #[.int .u32 (x.toNat : Int), .int .u64 n] w fun e w' => e = .returned (.int .u32 ((rotr x n.toNat).toNat : Int)) ∧ w' = w := by
  have hp := rot_parts x.toNat n.toNat x.toNat_lt (by omega)
  have hr := rotr_toNat x n.toNat (by omega)
  have hh := rot_high x.toNat n.toNat (by omega)
  have h32 : (32 - n).toNat = 32 - n.toNat := by omega
  have hfin : ((x.toNat : Int) * 2 ^ (32 - n).toNat % 4294967296 + (x.toNat : Int) / 2 ^ n.toNat) % 4294967296 = ((rotr x n.toNat).toNat : Int) := by
    have e1 : (x.toNat : Int) * 2 ^ (32 - n).toNat % 4294967296 = ((x.toNat % 2 ^ n.toNat * 2 ^ (32 - n.toNat) : Nat) : Int) := by rw [h32, ← hh]; simp
    have e2 : (x.toNat : Int) / 2 ^ n.toNat = ((x.toNat / 2 ^ n.toNat : Nat) : Int) := by simp
    rw [e1, e2, hr]
    omega
  have HF := sec hfin
  have hx := x.toNat_lt
  clear hp hr hh h32 hfin
  go_enter Tryd.func105, Tryd.ntmps105
  go_wp2
  go_ret
  exact ⟨by rw [← HF.out]; rfl, rfl⟩
end Go.Proofs.YtbhpglhmnpcnkaaDoor

namespace Go.Proofs.YtbhpglhmnpcnkaaDoor

def kTab : List UInt32 := [1116352408, 1899447441, 3049323471, 3921009573, 961987163, 1508970993, 2453635748, 2870763221, 3624381080, 310598401, 607225278, 1426881987, 1925078388, 2162078206, 2614888103, 3248222580, 3835390401, 4022224774, 264347078, 604807628, 770255983, 1249150122, 1555081692, 1996064986, 2554220882, 2821834349, 2952996808, 3210313671, 3336571891, 3584528711, 113926993, 338241895, 666307205, 773529912, 1294757372, 1396182291, 1695183700, 1986661051, 2177026350, 2456956037, 2730485921, 2820302411, 3259730800, 3345764771, 3516065817, 3600352804, 4094571909, 275423344, 430227734, 506948616, 659060556, 883997877, 958139571, 1322822218, 1537002063, 1747873779, 1955562222, 2024104815, 2227730452, 2361852424, 2428436474, 2756734187, 3204031479, 3329325298]
theorem kTab_len : kTab.length = 64 := by decide
def kAt (i : Nat) : UInt32 := kTab.getD i 0
/-- four bytes of a text -/
def byteAt (b : List UInt8) (i : Nat) : Nat := (b.getD i 0).toNat
def wordAt (b : List UInt8) (i : Nat) : UInt32 := UInt32.ofNat (byteAt b i * 16777216 + byteAt b (i + 1) * 65536 + byteAt b (i + 2) * 256 + byteAt b (i + 3))
theorem byteAt_lt (b : List UInt8) (i : Nat) : byteAt b i < 256 := (b.getD i 0).toNat_lt
theorem wordAt_toNat (b : List UInt8) (i : Nat) : (wordAt b i).toNat = byteAt b i * 16777216 + byteAt b (i + 1) * 65536 + byteAt b (i + 2) * 256 + byteAt b (i + 3) := by
  have h0 := byteAt_lt b i
  have h1 := byteAt_lt b (i + 1)
  have h2 := byteAt_lt b (i + 2)
  have h3 := byteAt_lt b (i + 3)
  unfold wordAt
  simp
  omega
def sg0 (x : UInt32) : UInt32 := rotr x 7 ^^^ rotr x 18 ^^^ shr x 3
def sg1 (x : UInt32) : UInt32 := rotr x 17 ^^^ rotr x 19 ^^^ shr x 10
/-- the words of the rounds -/
def wSched (b : List UInt8) (t : Nat) : UInt32 :=
  if h : t < 16 then wordAt b (4 * t) else wSched b (t - 16) + sg0 (wSched b (t - 15)) + wSched b (t - 7) + sg1 (wSched b (t - 2))
termination_by t
decreasing_by all_goals omega
theorem wSched_lo {b : List UInt8} {t : Nat} (h : t < 16) : wSched b t = wordAt b (4 * t) := by rw [wSched, dif_pos h]
theorem wSched_hi {b : List UInt8} {t : Nat} (h : ¬ t < 16) : wSched b t = wSched b (t - 16) + sg0 (wSched b (t - 15)) + wSched b (t - 7) + sg1 (wSched b (t - 2)) := by rw [wSched, dif_neg h]

/-- eight words -/
structure S8 where
  a : UInt32
  b : UInt32
  c : UInt32
  d : UInt32
  e : UInt32
  f : UInt32
  g : UInt32
  h : UInt32
def ep1 (e : UInt32) : UInt32 := rotr e 6 ^^^ rotr e 11 ^^^ rotr e 25
def ep0 (a : UInt32) : UInt32 := rotr a 2 ^^^ rotr a 13 ^^^ rotr a 22
def chP (e f g : UInt32) : UInt32 := (e &&& f) ^^^ (~~~e &&& g)
def mjP (a b c : UInt32) : UInt32 := (a &&& b) ^^^ (a &&& c) ^^^ (b &&& c)
def tOf (k w : UInt32) (s : S8) : UInt32 := s.h + ep1 s.e + chP s.e s.f s.g + k + w
def uOf (s : S8) : UInt32 := ep0 s.a + mjP s.a s.b s.c
def round (k w : UInt32) (s : S8) : S8 := ⟨tOf k w s + uOf s, s.a, s.b, s.c, s.d + tOf k w s, s.e, s.f, s.g⟩
def rounds (b : List UInt8) (s : S8) : Nat → S8
  | 0 => s
  | t + 1 => round (kAt t) (wSched b t) (rounds b s t)
def addS (x y : S8) : S8 := ⟨x.a + y.a, x.b + y.b, x.c + y.c, x.d + y.d, x.e + y.e, x.f + y.f, x.g + y.g, x.h + y.h⟩
def blockS (s : S8) (b : List UInt8) : S8 := addS s (rounds b s 64)
def S8.list (s : S8) : List UInt32 := [s.a, s.b, s.c, s.d, s.e, s.f, s.g, s.h]
theorem S8.list_len (s : S8) : s.list.length = 8 := rfl

/-- the round's two words as the walk spells them -/
def tW (k w : UInt32) (s : S8) : UInt32 := addW (addW (addW (addW s.h (xorW (xorW (rotr s.e 6) (rotr s.e 11)) (rotr s.e 25))) (xorW (andW s.e s.f) (andW (notW s.e) s.g))) k) w
def uW (s : S8) : UInt32 := addW (xorW (xorW (rotr s.a 2) (rotr s.a 13)) (rotr s.a 22)) (xorW (xorW (andW s.a s.b) (andW s.a s.c)) (andW s.b s.c))
theorem tW_eq (k w : UInt32) (s : S8) : tW k w s = tOf k w s := by
  unfold tW
  rw [notW_eq]
  rfl
theorem uW_eq (s : S8) : uW s = uOf s := rfl
def addCells (x y : S8) (i : Nat) : Array Value := ((List.range 8).map fun m => u32V (if m < i then x.list.getD m 0 + y.list.getD m 0 else x.list.getD m 0)).toArray
theorem addCells_size (x y : S8) (i : Nat) : (addCells x y i).size = 8 := by unfold addCells; simp
theorem addCells_at (x y : S8) (i : Nat) (h : i < 8) : (addCells x y i)[i]? = some (.int .u32 ((x.list.getD i 0).toNat : Int)) := by
  unfold addCells
  simp [h, u32V]
theorem addCells_set (x y : S8) (n : Nat) : (addCells x y n).setIfInBounds n (u32V (addW (x.list.getD n 0) (y.list.getD n 0))) = addCells x y (n + 1) := by
  unfold addCells
  rw [List.setIfInBounds_toArray]
  congr 1
  apply List.ext_getElem
  · simp
  · intro i h1 h2
    rw [List.getElem_set]
    simp at h1 h2
    by_cases e : n = i
    · subst e; simp [addW]
    · have : (i < n) ↔ (i < n + 1) := by omega
      simp [e, this]

/-! ### the document's other spellings -/
theorem ch_eq (e f g : UInt32) : g ^^^ (e &&& (f ^^^ g)) = chP e f g := by
  unfold chP
  apply UInt32.eq_of_toBitVec_eq
  simp only [UInt32.toBitVec_xor, UInt32.toBitVec_and, UInt32.toBitVec_not]
  ext i hi
  simp only [BitVec.getElem_xor, BitVec.getElem_and, BitVec.getElem_not]
  cases e.toBitVec[i] <;> cases f.toBitVec[i] <;> cases g.toBitVec[i] <;> rfl
theorem mj_eq (a b c : UInt32) : (a &&& b) ||| (c &&& (a ||| b)) = mjP a b c := by
  unfold mjP
  apply UInt32.eq_of_toBitVec_eq
  simp only [UInt32.toBitVec_xor, UInt32.toBitVec_and, UInt32.toBitVec_or]
  ext i hi
  simp only [BitVec.getElem_xor, BitVec.getElem_and, BitVec.getElem_or]
  cases a.toBitVec[i] <;> cases b.toBitVec[i] <;> cases c.toBitVec[i] <;> rfl
end Go.Proofs.YtbhpglhmnpcnkaaDoor

namespace Go.Proofs.YtbhpglhmnpcnkaaDoor
open Go.RowKit

/-- the table of the rounds lies in block 0 -/
structure TabK (w : World) : Prop where
  at_ : ∀ i, i < 64 → w.cell? ⟨0, i, none⟩ = some (u32V (kAt i))
theorem TabK.gr {w w' : World} (h : TabK w) (g : Gr w w') : TabK w' :=
  ⟨fun i hi => (g.below.cell (p := ⟨0, i, none⟩) (World.block_lt_of_cell? w _ (h.at_ i hi))).trans (h.at_ i hi)⟩

def s8V (s : S8) : Array Value := #[u32V s.a, u32V s.b, u32V s.c, u32V s.d, u32V s.e, u32V s.f, u32V s.g, u32V s.h]
theorem s8V_at (s : S8) (i : Nat) (h : i < 8) : (s8V s)[i]? = some (.int .u32 ((s.list.getD i 0).toNat : Int)) := by
  match i, h with
  | 0, _ => rfl
  | 1, _ => rfl
  | 2, _ => rfl
  | 3, _ => rfl
  | 4, _ => rfl
  | 5, _ => rfl
  | 6, _ => rfl
  | 7, _ => rfl
def zero8 : Array Value := #[.int .u32 0, .int .u32 0, .int .u32 0, .int .u32 0, .int .u32 0, .int .u32 0, .int .u32 0, .int .u32 0]
def wCells (b : List UInt8) (n : Nat) : Array Value := ((List.range 64).map fun m => u32V (if m < n then wSched b m else 0)).toArray
theorem wCells_zero (b : List UInt8) : wCells b 0 = #[.int .u32 0, .int .u32 0, .int .u32 0, .int .u32 0, .int .u32 0, .int .u32 0, .int .u32 0, .int .u32 0, .int .u32 0, .int .u32 0, .int .u32 0, .int .u32 0, .int .u32 0, .int .u32 0, .int .u32 0, .int .u32 0, .int .u32 0, .int .u32 0, .int .u32 0, .int .u32 0, .int .u32 0, .int .u32 0, .int .u32 0, .int .u32 0, .int .u32 0, .int .u32 0, .int .u32 0, .int .u32 0, .int .u32 0, .int .u32 0, .int .u32 0, .int .u32 0, .int .u32 0, .int .u32 0, .int .u32 0, .int .u32 0, .int .u32 0, .int .u32 0, .int .u32 0, .int .u32 0, .int .u32 0, .int .u32 0, .int .u32 0, .int .u32 0, .int .u32 0, .int .u32 0, .int .u32 0, .int .u32 0, .int .u32 0, .int .u32 0, .int .u32 0, .int .u32 0, .int .u32 0, .int .u32 0, .int .u32 0, .int .u32 0, .int .u32 0, .int .u32 0, .int .u32 0, .int .u32 0, .int .u32 0, .int .u32 0, .int .u32 0, .int .u32 0] := by kernel_rfl
theorem wCells_set (b : List UInt8) (n : Nat) : (wCells b n).setIfInBounds n (u32V (wSched b n)) = wCells b (n + 1) := by
  unfold wCells
  rw [List.setIfInBounds_toArray]
  congr 1
  apply List.ext_getElem
  · simp
  · intro i h1 h2
    rw [List.getElem_set]
    simp at h1 h2
    by_cases e : n = i
    · subst e; simp
    · have : (i < n) ↔ (i < n + 1) := by omega
      simp [e, this]
theorem wCells_size (b : List UInt8) (n : Nat) : (wCells b n).size = 64 := by unfold wCells; simp
theorem wCells_at (b : List UInt8) (n i : Nat) (h : i < n) (h' : i < 64) : (wCells b n)[i]? = some (u32V (wSched b i)) := by
  unfold wCells
  simp [h, h']

set_option maxRecDepth 100000 in
set_option maxHeartbeats 4000000 in
theorem block_any (s0 : S8) (b : List UInt8) (w : World) (hb : b.length = 64) (hT : TabK w) :
    Calls Tryd.prog 100 #[.agg (s8V s0), .string (bs b)] w fun e w' => e = .returned (.agg (s8V (blockS s0 b))) ∧ Gr w w' := by
  have hb1 : (64 : Int) ≤ (b.length : Int) := by omega
  have HB := sec hb
  clear hb
  unfold s8V
  go_enter Tryd.func100, Tryd.ntmps100
  go_wp2_with fail
  go_loopw [17, 6] (fun iv _ wr => ∃ i : Nat, iv = .int .i64 i ∧ i ≤ 16 ∧ Blk wr w.heap.size 99 (s8V s0) ∧ Blk wr (w.heap.size + 1) 99 zero8 ∧ Blk wr (w.heap.size + 1 + 1) 139 (wCells b i) ∧ Gr w wr)
    (fun iv _ _ => 16 - (intOf iv).toNat)
  case atStart =>
    refine ⟨0, rfl, by omega, ((Blk.new _ _ _).alloc _).alloc _, (?_ : Blk _ _ _ _).alloc _, ?_, (((Gr.refl _).alloc _).alloc _).alloc _⟩
    · have := Blk.new (w.alloc (.cells (s8V s0) 99)) 99 zero8
      rw [World.size_alloc] at this
      exact this
    · have := Blk.new ((w.alloc (.cells (s8V s0) 99)).alloc (.cells zero8 99)) 139 (wCells b 0)
      rw [World.size_alloc, World.size_alloc, wCells_zero] at this
      rw [wCells_zero]
      exact this
  case round =>
    obtain ⟨i, rfl, hi, hB2, hB4, hB5, hg⟩ := hrel
    by_cases hlt : i < 16
    · have q0 : IntKind.i64.wrap (4 * (i : Int)) = 4 * (i : Int) := IntWalk.i64_in _ (by omega)
      have q1 : IntKind.i64.wrap (4 * (i : Int) + 1) = 4 * (i : Int) + 1 := IntWalk.i64_in _ (by omega)
      have q2 : IntKind.i64.wrap (4 * (i : Int) + 2) = 4 * (i : Int) + 2 := IntWalk.i64_in _ (by omega)
      have q3 : IntKind.i64.wrap (4 * (i : Int) + 3) = 4 * (i : Int) + 3 := IntWalk.i64_in _ (by omega)
      have r0 : (0 : Int) ≤ 4 * (i : Int) ∧ 4 * (i : Int) < (b.length : Int) := by omega
      have r1 : (0 : Int) ≤ 4 * (i : Int) + 1 ∧ 4 * (i : Int) + 1 < (b.length : Int) := by omega
      have r2 : (0 : Int) ≤ 4 * (i : Int) + 2 ∧ 4 * (i : Int) + 2 < (b.length : Int) := by omega
      have r3 : (0 : Int) ≤ 4 * (i : Int) + 3 ∧ 4 * (i : Int) + 3 < (b.length : Int) := by omega
      have t0 : (4 * (i : Int)).toNat = 4 * i := by omega
      have t1 : (4 * (i : Int) + 1).toNat = 4 * i + 1 := by omega
      have t2 : (4 * (i : Int) + 2).toNat = 4 * i + 2 := by omega
      have t3 : (4 * (i : Int) + 3).toNat = 4 * i + 3 := by omega
      have hi16 : (i : Int) < 16 := by omega
      have hi64 : (i : Int) < 64 := by omega
      have b0 : 4 * i < b.length := by omega
      have b1 : 4 * i + 1 < b.length := by omega
      have b2 : 4 * i + 2 < b.length := by omega
      have b3 : 4 * i + 3 < b.length := by omega
      have hw := word_or' b[4 * i] b[4 * i + 1] b[4 * i + 2] b[4 * i + 3]
      have hws : wSched b i = wordAt b (4 * i) := wSched_lo hlt
      have hwn : ((wordAt b (4 * i)).toNat : Int) = ((b[4 * i].toNat * 16777216 + b[4 * i + 1].toNat * 65536 + b[4 * i + 2].toNat * 256 + b[4 * i + 3].toNat : Nat) : Int) := by
        rw [wordAt_toNat]
        simp [byteAt, List.getD, List.getElem?_eq_getElem b0, List.getElem?_eq_getElem b1, List.getElem?_eq_getElem b2, List.getElem?_eq_getElem b3]
      have HW := sec (hw.trans hwn.symm)
      have HS := sec hws
      clear hw hws hwn
      have hc : ∃ v, wr.cell? ⟨w.heap.size + 1 + 1, i, none⟩ = some v := ⟨_, (hB5.cell i).trans (Array.getElem?_eq_getElem (by rw [wCells_size]; omega))⟩
      obtain ⟨v5, hc5⟩ := hc
      have hf5 := hB5.frozen i
      go_wp2
      go_still_tail 31, (by kernel_rfl)
      change wpList _ _ _ _ _ wr.drew
      go_wp2
      go_roundw
      case rel =>
        rw [HW.out]
        have h5 := hB5.drew.set_ i (u32V (wSched b i))
        rw [wCells_set, HS.out] at h5
        exact ⟨i + 1, by go_num, by omega, hB2.drew.far (by simp; omega) _, hB4.drew.far (by simp) _, h5, hg.drew.setCell (by simp; omega) _⟩
      case measure => simp [intOf]; omega
    · obtain rfl : i = 16 := by omega
      clear hlt hi
      rw [show ((16 : Nat) : Int) = 16 from rfl]
      go_wp2_with fail
      go_loopw [7, 8, 9] (fun iv _ _ wr => ∃ i : Nat, iv = .int .i64 i ∧ 16 ≤ i ∧ i ≤ 64 ∧ Blk wr w.heap.size 99 (s8V s0) ∧ Blk wr (w.heap.size + 1) 99 zero8 ∧ Blk wr (w.heap.size + 1 + 1) 139 (wCells b i) ∧ Gr w wr)
        (fun iv _ _ _ => 64 - (intOf iv).toNat)
      case atStart => exact ⟨16, rfl, by omega, by omega, hB2, hB4, hB5, hg⟩
      case round =>
        clear hB2 hB4 hB5 hg
        obtain ⟨i, rfl, hi0, hi, hB2, hB4, hB5, hg⟩ := hrel
        by_cases hlt : i < 64
        · have q15 : IntKind.i64.wrap ((i : Int) - 15) = (i : Int) - 15 := IntWalk.i64_in _ (by omega)
          have q2 : IntKind.i64.wrap ((i : Int) - 2) = (i : Int) - 2 := IntWalk.i64_in _ (by omega)
          have q16 : IntKind.i64.wrap ((i : Int) - 16) = (i : Int) - 16 := IntWalk.i64_in _ (by omega)
          have q7 : IntKind.i64.wrap ((i : Int) - 7) = (i : Int) - 7 := IntWalk.i64_in _ (by omega)
          have r15 : (0 : Int) ≤ (i : Int) - 15 ∧ (i : Int) - 15 < 64 := by omega
          have r2 : (0 : Int) ≤ (i : Int) - 2 ∧ (i : Int) - 2 < 64 := by omega
          have r16 : (0 : Int) ≤ (i : Int) - 16 ∧ (i : Int) - 16 < 64 := by omega
          have r7 : (0 : Int) ≤ (i : Int) - 7 ∧ (i : Int) - 7 < 64 := by omega
          have e16 : (16 : Int) ≤ (i : Int) := by omega
          have e7 : (7 : Int) ≤ (i : Int) := by omega
          have t15 : ((i : Int) - 15).toNat = i - 15 := by omega
          have t2 : ((i : Int) - 2).toNat = i - 2 := by omega
          have t16 : ((i : Int) - 16).toNat = i - 16 := by omega
          have t7 : ((i : Int) - 7).toNat = i - 7 := by omega
          have c15 : wr.cell? ⟨w.heap.size + 1 + 1, i - 15, none⟩ = some (.int .u32 ((wSched b (i - 15)).toNat : Int)) := (hB5.cell _).trans (wCells_at b i _ (by omega) (by omega))
          have c2 : wr.cell? ⟨w.heap.size + 1 + 1, i - 2, none⟩ = some (.int .u32 ((wSched b (i - 2)).toNat : Int)) := (hB5.cell _).trans (wCells_at b i _ (by omega) (by omega))
          have c16 : wr.cell? ⟨w.heap.size + 1 + 1, i - 16, none⟩ = some (.int .u32 ((wSched b (i - 16)).toNat : Int)) := (hB5.cell _).trans (wCells_at b i _ (by omega) (by omega))
          have c7 : wr.cell? ⟨w.heap.size + 1 + 1, i - 7, none⟩ = some (.int .u32 ((wSched b (i - 7)).toNat : Int)) := (hB5.cell _).trans (wCells_at b i _ (by omega) (by omega))
          have hws := wSched_hi (b := b) (t := i) (by omega)
          have HS := sec hws
          clear hws
          have hc : ∃ v, wr.cell? ⟨w.heap.size + 1 + 1, i, none⟩ = some v := ⟨_, (hB5.cell i).trans (Array.getElem?_eq_getElem (by rw [wCells_size]; omega))⟩
          obtain ⟨v5, hc5⟩ := hc
          have hf5 := hB5.frozen i
          have hi64 : (i : Int) < 64 := by omega
          go_wp2
          go_quiet (fail)
          go_wp2
          refine region_still_tail_w 29 (by kernel_rfl) (by kernel_rfl) ?_
          simp only [List.take_succ_cons, List.take_zero, List.drop_succ_cons, List.drop_zero]
          intro wd hwd
          have d16 : wd.cell? ⟨w.heap.size + 1 + 1, i - 16, none⟩ = some (.int .u32 ((wSched b (i - 16)).toNat : Int)) := by subst hwd; exact c16
          have d7 : wd.cell? ⟨w.heap.size + 1 + 1, i - 7, none⟩ = some (.int .u32 ((wSched b (i - 7)).toNat : Int)) := by subst hwd; exact c7
          have dc5 : wd.cell? ⟨w.heap.size + 1 + 1, i, none⟩ = some v5 := by subst hwd; exact hc5
          have df5 : wd.frozen? ⟨w.heap.size + 1 + 1, i, none⟩ = false := by subst hwd; exact hf5
          have D2 : Blk wd w.heap.size 99 (s8V s0) := by subst hwd; exact (hB2.drewN _).drew
          have D4 : Blk wd (w.heap.size + 1) 99 zero8 := by subst hwd; exact (hB4.drewN _).drew
          have D5 : Blk wd (w.heap.size + 1 + 1) 139 (wCells b i) := by subst hwd; exact (hB5.drewN _).drew
          have Dg : Gr w wd := by subst hwd; exact (hg.drewN _).drew
          clear hwd c16 c7 c15 c2 hc5 hf5 hB2 hB4 hB5 hg
          repeat (first | still_step | still_call (turn_any _ _ _ (by decide) (by decide)))
          refine wpStill_nil ?_
          go_wp2
          go_roundw
          case rel =>
            have h5 := D5.set_ i (u32V (wSched b i))
            rw [wCells_set, HS.out] at h5
            exact ⟨i + 1, by go_num, by omega, by omega, D2.far (by simp; omega) _, D4.far (by simp) _, h5, Dg.setCell (by simp; omega) _⟩
          case measure => simp [intOf]; omega
        · obtain rfl : i = 64 := by omega
          clear hlt hi hi0
          rw [show ((64 : Nat) : Int) = 64 from rfl]
          have k0 : wr.cell? ⟨w.heap.size, 0, none⟩ = some (.int .u32 (s0.a.toNat : Int)) := hB2.cell 0
          have k1 : wr.cell? ⟨w.heap.size, 1, none⟩ = some (.int .u32 (s0.b.toNat : Int)) := hB2.cell 1
          have k2 : wr.cell? ⟨w.heap.size, 2, none⟩ = some (.int .u32 (s0.c.toNat : Int)) := hB2.cell 2
          have k3 : wr.cell? ⟨w.heap.size, 3, none⟩ = some (.int .u32 (s0.d.toNat : Int)) := hB2.cell 3
          have k4 : wr.cell? ⟨w.heap.size, 4, none⟩ = some (.int .u32 (s0.e.toNat : Int)) := hB2.cell 4
          have k5 : wr.cell? ⟨w.heap.size, 5, none⟩ = some (.int .u32 (s0.f.toNat : Int)) := hB2.cell 5
          have k6 : wr.cell? ⟨w.heap.size, 6, none⟩ = some (.int .u32 (s0.g.toNat : Int)) := hB2.cell 6
          have k7 : wr.cell? ⟨w.heap.size, 7, none⟩ = some (.int .u32 (s0.h.toNat : Int)) := hB2.cell 7
          go_wp2_with fail
          obtain ⟨q, hq⟩ : ∃ q, q = wr.heap.size := ⟨_, rfl⟩
          have hql : w.heap.size + 1 + 1 < q := by have := hB5.lt; omega
          have E2 := hB2.alloc (.cells (s8V s0) 99)
          have E4 := hB4.alloc (.cells (s8V s0) 99)
          have E5 := hB5.alloc (.cells (s8V s0) 99)
          have Eg := hg.alloc (.cells (s8V s0) 99)
          have EN := Blk.new wr 99 (s8V s0)
          rw [← hq] at EN
          rw [← hq]
          clear hq k0 k1 k2 k3 k4 k5 k6 k7 hB2 hB4 hB5 hg
          go_loopw [94, 11, 12, 13, 14, 15] (fun iv _ _ _ _ _ wr => ∃ i : Nat, iv = .int .i64 i ∧ i ≤ 64 ∧ Blk wr w.heap.size 99 (s8V s0) ∧ Blk wr (w.heap.size + 1) 99 zero8 ∧ Blk wr (w.heap.size + 1 + 1) 139 (wCells b 64) ∧ Gr w wr ∧ Blk wr q 99 (s8V (rounds b s0 i)))
            (fun iv _ _ _ _ _ _ => 64 - (intOf iv).toNat)
          case atStart => exact ⟨0, rfl, by omega, E2, E4, E5, Eg, EN⟩
          case round =>
            clear E2 E4 E5 Eg EN
            obtain ⟨i, rfl, hi, hB2, hB4, hB5, hg, hBq⟩ := hrel
            by_cases hlt : i < 64
            · have hi64 : (i : Int) < 64 := by omega
              obtain ⟨S, hS⟩ : ∃ S, S = rounds b s0 i := ⟨_, rfl⟩
              have hSn : rounds b s0 (i + 1) = round (kAt i) (wSched b i) S := by rw [hS]; rfl
              rw [← hS] at hBq
              have HSn := sec hSn
              clear hS hSn
              have c0 : wr.cell? ⟨q, 0, none⟩ = some (.int .u32 (S.a.toNat : Int)) := hBq.cell 0
              have c4 : wr.cell? ⟨q, 4, none⟩ = some (.int .u32 (S.e.toNat : Int)) := hBq.cell 4
              go_wp2
              go_quiet (fail)
              go_wp2
              clear c0 c4
              refine region_still_tail_w 30 (by kernel_rfl) (by kernel_rfl) ?_
              simp only [List.take_succ_cons, List.take_zero, List.drop_succ_cons, List.drop_zero]
              intro wd hwd
              have D2 : Blk wd w.heap.size 99 (s8V s0) := by subst hwd; exact (hB2.drewN _).drew
              have D4 : Blk wd (w.heap.size + 1) 99 zero8 := by subst hwd; exact (hB4.drewN _).drew
              have D5 : Blk wd (w.heap.size + 1 + 1) 139 (wCells b 64) := by subst hwd; exact (hB5.drewN _).drew
              have Dq : Blk wd q 99 (s8V S) := by subst hwd; exact (hBq.drewN _).drew
              have Dg : Gr w wd := by subst hwd; exact (hg.drewN _).drew
              clear hwd hB2 hB4 hB5 hBq hg
              have c5 : wd.cell? ⟨q, 5, none⟩ = some (.int .u32 (S.f.toNat : Int)) := Dq.cell 5
              have c6 : wd.cell? ⟨q, 6, none⟩ = some (.int .u32 (S.g.toNat : Int)) := Dq.cell 6
              have c7 : wd.cell? ⟨q, 7, none⟩ = some (.int .u32 (S.h.toNat : Int)) := Dq.cell 7
              have ck : wd.cell? ⟨0, i, none⟩ = some (.int .u32 ((kAt i).toNat : Int)) := (hT.gr Dg).at_ i hlt
              have cw : wd.cell? ⟨w.heap.size + 1 + 1, i, none⟩ = some (.int .u32 ((wSched b i).toNat : Int)) := (D5.cell _).trans (wCells_at b 64 i hlt hlt)
              repeat (first | still_step | still_call (turn_any _ _ _ (by decide) (by decide)))
              refine wpStill_nil ?_
              go_wp2
              clear c5 c6 c7 ck cw
              refine region_still_tail_w 24 (by kernel_rfl) (by kernel_rfl) ?_
              simp only [List.take_succ_cons, List.take_zero, List.drop_succ_cons, List.drop_zero]
              intro we hwe
              have F2 : Blk we w.heap.size 99 (s8V s0) := by subst hwe; exact D2.drew
              have F4 : Blk we (w.heap.size + 1) 99 zero8 := by subst hwe; exact D4.drew
              have F5 : Blk we (w.heap.size + 1 + 1) 139 (wCells b 64) := by subst hwe; exact D5.drew
              have Fq : Blk we q 99 (s8V S) := by subst hwe; exact Dq.drew
              have Fg : Gr w we := by subst hwe; exact Dg.drew
              clear hwe D2 D4 D5 Dq Dg
              have c1 : we.cell? ⟨q, 1, none⟩ = some (.int .u32 (S.b.toNat : Int)) := Fq.cell 1
              have c2 : we.cell? ⟨q, 2, none⟩ = some (.int .u32 (S.c.toNat : Int)) := Fq.cell 2
              repeat (first | still_step | still_call (turn_any _ _ _ (by decide) (by decide)))
              refine wpStill_nil ?_
              go_wp2
              clear c1 c2
              refine region_still_tail_w 2 (by kernel_rfl) (by kernel_rfl) ?_
              simp only [List.take_succ_cons, List.take_zero, List.drop_succ_cons, List.drop_zero]
              intro wf hwf
              have G2 : Blk wf w.heap.size 99 (s8V s0) := by subst hwf; exact F2.drew
              have G4 : Blk wf (w.heap.size + 1) 99 zero8 := by subst hwf; exact F4.drew
              have G5 : Blk wf (w.heap.size + 1 + 1) 139 (wCells b 64) := by subst hwf; exact F5.drew
              have Gq : Blk wf q 99 (s8V S) := by subst hwf; exact Fq.drew
              have Gg : Gr w wf := by subst hwf; exact Fg.drew
              clear hwf F2 F4 F5 Fq Fg
              repeat still_step
              refine wpStill_nil ?_
              refine wpList_copy_splice rfl (.tmp 155) (.tmp 156) _ _ rfl 98 rfl rfl (some ⟨q, 1, none⟩) (some ⟨q, 0, none⟩) 7 7 7 8 rfl rfl q 1 [u32V S.a, u32V S.b, u32V S.c, u32V S.d, u32V S.e, u32V S.f, u32V S.g, u32V S.h] _ Gq [u32V S.a, u32V S.b, u32V S.c, u32V S.d, u32V S.e, u32V S.f, u32V S.g] rfl ?_ (by simp) ?_ q wf (RowKit.Below.refl _ _) (Nat.le_refl _) ?_
              · intro _
                refine ⟨rfl, _, rfl, ?_⟩
                intro j v h
                have hj : j < 7 := by obtain ⟨hl, _⟩ := List.getElem?_eq_some_iff.mp h; simpa using hl
                rw [show Addr.add ⟨q, 0, none⟩ j = ⟨q, j, none⟩ by simp [Addr.add]; omega, Gq.cell]
                match j, hj, h with
                | 0, _, h => exact h
                | 1, _, h => exact h
                | 2, _, h => exact h
                | 3, _, h => exact h
                | 4, _, h => exact h
                | 5, _, h => exact h
                | 6, _, h => exact h
              · intro v hv
                simp only [List.mem_cons, List.not_mem_nil, or_false] at hv
                rcases hv with rfl | rfl | rfl | rfl | rfl | rfl | rfl <;> rfl
              · intro wh hh hbl
                have Hq : Blk wh q 99 #[u32V S.a, u32V S.a, u32V S.b, u32V S.c, u32V S.d, u32V S.e, u32V S.f, u32V S.g] := hh
                have H2 := G2.below hbl (by omega)
                have H4 := G4.below hbl (by omega)
                have H5 := G5.below hbl (by omega)
                have Hg : Gr w wh := Gr.below (Below.trans Gg (Below.mono hbl (by omega)))
                clear hh hbl G2 G4 G5 Gq Gg
                have c4 : wh.cell? ⟨q, 4, none⟩ = some (.int .u32 (S.d.toNat : Int)) := Hq.cell 4
                have c0 : wh.cell? ⟨q, 0, none⟩ = some (.int .u32 (S.a.toNat : Int)) := Hq.cell 0
                have f4 := Hq.frozen 4
                have f0 := Hq.frozen 0
                go_wp2
                go_roundw
                case rel =>
                  have h5 := (Hq.set_ 4 (u32V (addW S.d (tW (kAt i) (wSched b i) S)))).set_ 0 (u32V (addW (tW (kAt i) (wSched b i) S) (uW S)))
                  have e : ((#[u32V S.a, u32V S.a, u32V S.b, u32V S.c, u32V S.d, u32V S.e, u32V S.f, u32V S.g] : Array Value).setIfInBounds 4 (u32V (addW S.d (tW (kAt i) (wSched b i) S)))).setIfInBounds 0 (u32V (addW (tW (kAt i) (wSched b i) S) (uW S))) = s8V (rounds b s0 (i + 1)) := by
                    rw [HSn.out, tW_eq, uW_eq]; rfl
                  rw [e] at h5
                  exact ⟨i + 1, by go_num, by omega, (H2.far (by simp; omega) _).far (by simp; omega) _, (H4.far (by simp; omega) _).far (by simp; omega) _, (H5.far (by simp; omega) _).far (by simp; omega) _, (Hg.setCell (by simp; omega) _).setCell (by simp; omega) _, h5⟩
                case measure => simp [intOf]; omega
            · obtain rfl : i = 64 := by omega
              clear hlt hi
              rw [show ((64 : Nat) : Int) = 64 from rfl]
              obtain ⟨S, hS⟩ : ∃ S, S = rounds b s0 64 := ⟨_, rfl⟩
              rw [← hS] at hBq
              have HSn := sec hS
              clear hS
              go_wp2_with fail
              go_loopw [168, 16] (fun iv _ wr => ∃ i : Nat, iv = .int .i64 i ∧ i ≤ 8 ∧ Blk wr w.heap.size 99 (addCells s0 S i) ∧ Blk wr (w.heap.size + 1) 99 zero8 ∧ Gr w wr ∧ Blk wr q 99 (s8V S))
                (fun iv _ _ => 8 - (intOf iv).toNat)
              case atStart => exact ⟨0, rfl, by omega, hB2, hB4, hg, hBq⟩
              case round =>
                clear hB2 hB4 hB5 hBq hg
                obtain ⟨i, rfl, hi, hB2, hB4, hg, hBq⟩ := hrel
                by_cases hlt : i < 8
                · have hi8 : (i : Int) < 8 := by omega
                  have c2 : wr.cell? ⟨w.heap.size, i, none⟩ = some (.int .u32 ((s0.list.getD i 0).toNat : Int)) := (hB2.cell i).trans (addCells_at s0 S i hlt)
                  have cq : wr.cell? ⟨q, i, none⟩ = some (.int .u32 ((S.list.getD i 0).toNat : Int)) := (hBq.cell i).trans (s8V_at S i hlt)
                  have f2 := hB2.frozen i
                  obtain ⟨x, hx⟩ : ∃ x, x = s0.list.getD i 0 := ⟨_, rfl⟩
                  obtain ⟨y, hy⟩ : ∃ y, y = S.list.getD i 0 := ⟨_, rfl⟩
                  rw [← hx] at c2
                  rw [← hy] at cq
                  have HX := sec hx
                  have HY := sec hy
                  clear hx hy
                  go_wp2
                  go_still_tail 8, (by kernel_rfl)
                  change wpList _ _ _ _ _ wr.drew
                  go_wp2
                  go_roundw
                  case rel =>
                    have h2 := hB2.drew.set_ i (u32V (addW (s0.list.getD i 0) (S.list.getD i 0)))
                    rw [addCells_set, ← HX.out, ← HY.out] at h2
                    exact ⟨i + 1, by go_num, by omega, h2, hB4.drew.far (by simp) _, hg.drew.setCell (by simp) _, hBq.drew.far (by simp; omega) _⟩
                  case measure => simp [intOf]; omega
                · obtain rfl : i = 8 := by omega
                  clear hlt hi
                  rw [show ((8 : Nat) : Int) = 8 from rfl]
                  have e8 : addCells s0 S 8 = s8V (blockS s0 b) := by rw [HSn.out]; rfl
                  rw [e8] at hB2
                  clear e8
                  obtain ⟨R, hR⟩ : ∃ R, R = blockS s0 b := ⟨_, rfl⟩
                  rw [← hR] at hB2
                  have HR := sec hR
                  clear hR HSn
                  have k0 : wr.cell? ⟨w.heap.size, 0, none⟩ = some (.int .u32 (R.a.toNat : Int)) := hB2.cell 0
                  have k1 : wr.cell? ⟨w.heap.size, 1, none⟩ = some (.int .u32 (R.b.toNat : Int)) := hB2.cell 1
                  have k2 : wr.cell? ⟨w.heap.size, 2, none⟩ = some (.int .u32 (R.c.toNat : Int)) := hB2.cell 2
                  have k3 : wr.cell? ⟨w.heap.size, 3, none⟩ = some (.int .u32 (R.d.toNat : Int)) := hB2.cell 3
                  have k4 : wr.cell? ⟨w.heap.size, 4, none⟩ = some (.int .u32 (R.e.toNat : Int)) := hB2.cell 4
                  have k5 : wr.cell? ⟨w.heap.size, 5, none⟩ = some (.int .u32 (R.f.toNat : Int)) := hB2.cell 5
                  have k6 : wr.cell? ⟨w.heap.size, 6, none⟩ = some (.int .u32 (R.g.toNat : Int)) := hB2.cell 6
                  have k7 : wr.cell? ⟨w.heap.size, 7, none⟩ = some (.int .u32 (R.h.toNat : Int)) := hB2.cell 7
                  have z0 : wr.cell? ⟨w.heap.size + 1, 0, none⟩ = some (.int .u32 0) := hB4.cell 0
                  have z1 : wr.cell? ⟨w.heap.size + 1, 1, none⟩ = some (.int .u32 0) := hB4.cell 1
                  have z2 : wr.cell? ⟨w.heap.size + 1, 2, none⟩ = some (.int .u32 0) := hB4.cell 2
                  have z3 : wr.cell? ⟨w.heap.size + 1, 3, none⟩ = some (.int .u32 0) := hB4.cell 3
                  have z4 : wr.cell? ⟨w.heap.size + 1, 4, none⟩ = some (.int .u32 0) := hB4.cell 4
                  have z5 : wr.cell? ⟨w.heap.size + 1, 5, none⟩ = some (.int .u32 0) := hB4.cell 5
                  have z6 : wr.cell? ⟨w.heap.size + 1, 6, none⟩ = some (.int .u32 0) := hB4.cell 6
                  have z7 : wr.cell? ⟨w.heap.size + 1, 7, none⟩ = some (.int .u32 0) := hB4.cell 7
                  have f0 := hB4.frozen 0
                  have f1 := hB4.frozen 1
                  have f2 := hB4.frozen 2
                  have f3 := hB4.frozen 3
                  have f4 := hB4.frozen 4
                  have f5 := hB4.frozen 5
                  have f6 := hB4.frozen 6
                  have f7 := hB4.frozen 7
                  go_wp2
                  have hz := (((((((hB4.set_ 0 (u32V R.a)).set_ 1 (u32V R.b)).set_ 2 (u32V R.c)).set_ 3 (u32V R.d)).set_ 4 (u32V R.e)).set_ 5 (u32V R.f)).set_ 6 (u32V R.g)).set_ 7 (u32V R.h)
                  have ez : (((((((zero8.setIfInBounds 0 (u32V R.a)).setIfInBounds 1 (u32V R.b)).setIfInBounds 2 (u32V R.c)).setIfInBounds 3 (u32V R.d)).setIfInBounds 4 (u32V R.e)).setIfInBounds 5 (u32V R.f)).setIfInBounds 6 (u32V R.g)).setIfInBounds 7 (u32V R.h) = s8V R := rfl
                  rw [ez] at hz
                  refine bodyPost_ret (results_cell_row rfl _ _ (w.heap.size + 1) _ (s8V R) (0, 0) _ rfl hz rfl rfl rfl) rfl ?_
                  rw [HR.out]
                  exact ⟨rfl, (((((((hg.setCell (by simp) _).setCell (by simp) _).setCell (by simp) _).setCell (by simp) _).setCell (by simp) _).setCell (by simp) _).setCell (by simp) _).setCell (by simp) _⟩
end Go.Proofs.YtbhpglhmnpcnkaaDoor

namespace Go.Proofs.YtbhpglhmnpcnkaaDoor

/-- heads behind all whole blocks of a text -/
def overS (s : S8) (b : List UInt8) : S8 := if _h : b.length < 64 then s else overS (blockS s (b.take 64)) (b.drop 64)
termination_by b.length
decreasing_by rw [List.length_drop]; omega
theorem overS_lo {s : S8} {b : List UInt8} (h : b.length < 64) : overS s b = s := by rw [overS, dif_pos h]
theorem overS_hi {s : S8} {b : List UInt8} (h : ¬ b.length < 64) : overS s b = overS (blockS s (b.take 64)) (b.drop 64) := by rw [overS, dif_neg h]
/-- what is left behind the whole blocks -/
def restOf (b : List UInt8) : List UInt8 := b.drop (b.length / 64 * 64)
theorem restOf_len (b : List UInt8) : (restOf b).length = b.length % 64 := by unfold restOf; rw [List.length_drop]; omega
theorem restOf_lo {b : List UInt8} (h : b.length < 64) : restOf b = b := by
  unfold restOf; rw [show b.length / 64 * 64 = 0 by omega, List.drop_zero]
theorem restOf_hi {b : List UInt8} (h : ¬ b.length < 64) : restOf b = restOf (b.drop 64) := by
  unfold restOf
  rw [List.drop_drop, List.length_drop]
  congr 1
  omega
/-- only the whole blocks count -/
theorem overS_take : ∀ (k : Nat) (s : S8) (b : List UInt8), b.length / 64 = k → overS s (b.take (b.length / 64 * 64)) = overS s b := by
  intro k
  induction k with
  | zero => intro s b h; rw [overS_lo (b := b) (by omega), overS_lo]; rw [List.length_take]; omega
  | succ k ih =>
    intro s b h
    rw [overS_hi (b := b) (by omega), overS_hi (b := b.take _) (by rw [List.length_take]; omega), List.take_take, show min 64 (b.length / 64 * 64) = 64 by omega]
    rw [← ih (blockS s (b.take 64)) (b.drop 64) (by rw [List.length_drop]; omega)]
    congr 1
    rw [List.length_drop, List.drop_take]
    congr 1
    omega

/-- four bytes of a word -/
def be4 (x : UInt32) : List UInt8 := [UInt8.ofNat (x.toNat / 16777216), UInt8.ofNat (x.toNat / 65536), UInt8.ofNat (x.toNat / 256), UInt8.ofNat x.toNat]
def text8 (s : S8) : List UInt8 := s.list.flatMap be4
theorem text8_len (s : S8) : (text8 s).length = 32 := rfl
/-- the count of bits, in eight bytes -/
def be8 (n : Nat) : List UInt8 := [UInt8.ofNat (n / 72057594037927936), UInt8.ofNat (n / 281474976710656), UInt8.ofNat (n / 1099511627776), UInt8.ofNat (n / 4294967296), UInt8.ofNat (n / 16777216), UInt8.ofNat (n / 65536), UInt8.ofNat (n / 256), UInt8.ofNat n]
theorem be8_len (n : Nat) : (be8 n).length = 8 := rfl
/-- how many zeros behind the mark -/
def zerosFor (n : Nat) : Nat := (119 - n % 64) % 64
/-- P1.3: what is put behind bytes of which there were so many -/
def padTo (rest : List UInt8) (many : Nat) : List UInt8 := rest ++ [128] ++ List.replicate (zerosFor rest.length) 0 ++ be8 (8 * many)
theorem padTo_len (rest : List UInt8) (many : Nat) : (padTo rest many).length = rest.length + 9 + zerosFor rest.length := by
  unfold padTo
  rw [List.length_append, List.length_append, List.length_append, List.length_replicate, be8_len]
  simp only [List.length_cons, List.length_nil]
  omega
theorem padTo_mod (rest : List UInt8) (many : Nat) : (padTo rest many).length % 64 = 0 := by rw [padTo_len]; unfold zerosFor; omega

def startS : S8 := ⟨0x6a09e667, 0xbb67ae85, 0x3c6ef372, 0xa54ff53a, 0x510e527f, 0x9b05688c, 0x1f83d9ab, 0x5be0cd19⟩
def endOf (s : S8) (rest : List UInt8) (many : Nat) : List UInt8 := text8 (overS s (padTo rest many))
/-- P1.3 -/
def sha (b : List UInt8) : List UInt8 := endOf (overS startS b) (restOf b) b.length
theorem sha_len (b : List UInt8) : (sha b).length = 32 := rfl

/-! ### seals -/
def keyOf (key : List UInt8) : List UInt8 := if 64 < key.length then sha key else key
theorem keyOf_len (key : List UInt8) : (keyOf key).length ≤ 64 := by
  unfold keyOf; split
  · rw [sha_len]; omega
  · omega
def xorPad (x : UInt8) (key : List UInt8) : List UInt8 := (List.range 64).map fun i => key.getD i 0 ^^^ x
theorem xorPad_len (x : UInt8) (key : List UInt8) : (xorPad x key).length = 64 := by unfold xorPad; simp
/-- P1.5 -/
def seal' (key b : List UInt8) : List UInt8 := sha (xorPad 0x5c (keyOf key) ++ sha (xorPad 0x36 (keyOf key) ++ b))
theorem seal_len (key b : List UInt8) : (seal' key b).length = 32 := rfl

/-! ### digits -/
def hexL : List UInt8 := [48, 49, 50, 51, 52, 53, 54, 55, 56, 57, 97, 98, 99, 100, 101, 102]
def hexD (n : Nat) : UInt8 := hexL.getD n 0
/-- P1.6 -/
def hexOf (b : List UInt8) : List UInt8 := b.flatMap fun c => [hexD (c.toNat / 16), hexD (c.toNat % 16)]
theorem hexOf_len (b : List UInt8) : (hexOf b).length = 2 * b.length := by
  unfold hexOf
  induction b with
  | nil => rfl
  | cons c r ih => rw [List.flatMap_cons, List.length_append, ih]; simp only [List.length_cons, List.length_nil]; omega
theorem hexOf_snoc (b : List UInt8) (c : UInt8) : hexOf (b ++ [c]) = hexOf b ++ [hexD (c.toNat / 16), hexD (c.toNat % 16)] := by
  unfold hexOf; rw [List.flatMap_append]; rfl
/-- what a digit counts; 16: it is none -/
def unD (c : UInt8) : Nat := if 48 ≤ c.toNat ∧ c.toNat ≤ 57 then c.toNat - 48 else if 97 ≤ c.toNat ∧ c.toNat ≤ 102 then c.toNat - 87 else 16
theorem unD_le (c : UInt8) : unD c ≤ 16 := by unfold unD; split; omega; split <;> omega
/-- P1.6 -/
def unhex : List UInt8 → Option (List UInt8)
  | [] => some []
  | [_] => none
  | a :: b :: r => if unD a < 16 ∧ unD b < 16 then (unhex r).map (UInt8.ofNat (unD a * 16 + unD b) :: ·) else none
end Go.Proofs.YtbhpglhmnpcnkaaDoor

namespace Go.Proofs.YtbhpglhmnpcnkaaDoor
open Go.RowKit
set_option linter.unusedVariables false

def stCells (s : S8) (r : List UInt8) (m : Int) : Array Value := #[u32V s.a, u32V s.b, u32V s.c, u32V s.d, u32V s.e, u32V s.f, u32V s.g, u32V s.h, .string (bs r), .int .i64 m]
/-- a state by value -/
def stV (s : S8) (r : List UInt8) (m : Int) : Value := .agg (stCells s r m)
theorem A.state : AggOk 109 10 := ⟨⟨_, Tryd.underlying109, rfl⟩, by kernel_rfl⟩
theorem stCells_one (s : S8) (r : List UInt8) (m : Int) : (stCells s r m).all (·.oneCell') = true := by simp [stCells, u32V, Value.oneCell']
theorem A.u8 : AggOk 99 8 := ⟨⟨_, Tryd.underlying99, rfl⟩, by kernel_rfl⟩
theorem s8V_one (s : S8) : (s8V s).all (·.oneCell') = true := by simp [s8V, u32V, Value.oneCell']
/-- P1.4 -/
def goodB (r : List UInt8) (m : Int) : Bool := decide (0 ≤ m ∧ m < 1152921504606846976 ∧ (r.length : Int) = m % 64)
theorem goodB_iff (r : List UInt8) (m : Int) : goodB r m = true ↔ (0 ≤ m ∧ m < 1152921504606846976 ∧ (r.length : Int) = m % 64) := decide_eq_true_iff
theorem goodB_not (r : List UInt8) (m : Int) : goodB r m = false ↔ ¬ (0 ≤ m ∧ m < 1152921504606846976 ∧ (r.length : Int) = m % 64) := decide_eq_false_iff_not

set_option maxRecDepth 100000 in
set_option maxHeartbeats 1000000 in
theorem begin_any (w : World) : Calls Tryd.prog 78 #[] w fun e w' => e = .returned (stV startS [] 0) ∧ Gr w w' := by
  go_enter Tryd.func78, Tryd.ntmps78
  go_wp2
  refine bodyPost_ret (v := stV startS [] 0) (by simp [results, Tryd.results78, go_sem]; rfl) rfl ?_
  exact ⟨rfl, (Gr.refl w).alloc _⟩

set_option maxRecDepth 100000 in
set_option maxHeartbeats 1000000 in
theorem good_any (s : S8) (r : List UInt8) (m : Int) (w : World) (hr : r.length < 4611686018427387904) :
    Calls Tryd.prog 99 #[stV s r m] w fun e w' => e = .returned (.bool (goodB r m)) ∧ Gr w w' := by
  unfold stV stCells
  have fin : ∀ x : Bool, goodB r m = x → Calls Tryd.prog 99 #[.agg #[u32V s.a, u32V s.b, u32V s.c, u32V s.d, u32V s.e, u32V s.f, u32V s.g, u32V s.h, .string (bs r), .int .i64 m]] w (fun e w' => e = .returned (.bool x) ∧ Gr w w') → Calls Tryd.prog 99 #[.agg #[u32V s.a, u32V s.b, u32V s.c, u32V s.d, u32V s.e, u32V s.f, u32V s.g, u32V s.h, .string (bs r), .int .i64 m]] w (fun e w' => e = .returned (.bool (goodB r m)) ∧ Gr w w') := by
    intro x hx h; rw [hx]; exact h
  by_cases h0 : 0 ≤ m
  · by_cases h1 : m < 1152921504606846976
    · by_cases h2 : (r.length : Int) = m % 64
      · refine fin true ((goodB_iff r m).2 ⟨h0, h1, h2⟩) ?_
        have h2' : ((r.length : Int) == m % 64) = true := by simpa using h2
        clear h2 fin
        go_enter Tryd.func99, Tryd.ntmps99
        go_wp2
        go_ret
        exact ⟨rfl, (Gr.refl w).alloc _⟩
      · refine fin false ((goodB_not r m).2 (fun h => h2 h.2.2)) ?_
        have h2' : ((r.length : Int) == m % 64) = false := by simpa using h2
        clear h2 fin
        go_enter Tryd.func99, Tryd.ntmps99
        go_wp2
        go_ret
        exact ⟨rfl, (Gr.refl w).alloc _⟩
    · refine fin false ((goodB_not r m).2 (fun h => h1 h.2.1)) ?_
      clear fin
      go_enter Tryd.func99, Tryd.ntmps99
      go_wp2
      go_ret
      exact ⟨rfl, (Gr.refl w).alloc _⟩
  · refine fin false ((goodB_not r m).2 (fun h => h0 h.1)) ?_
    clear fin
    go_enter Tryd.func99, Tryd.ntmps99
    go_wp2
    go_ret
    exact ⟨rfl, (Gr.refl w).alloc _⟩

def zeroS : S8 := ⟨0, 0, 0, 0, 0, 0, 0, 0⟩
def lenOf : Value → Nat
  | .string s => s.size
  | _ => 0
set_option maxRecDepth 100000 in
set_option maxHeartbeats 1000000 in
/-- Add, where the state is good and there is room -/
theorem add_ok (s : S8) (r : List UInt8) (m : Int) (b : List UInt8) (w : World) (hT : TabK w) (hg : goodB r m = true) (hb : b.length ≤ 576460752303423488) (hm : m + b.length < 1152921504606846976) :
    Calls Tryd.prog 77 #[stV s r m, .string (bs b)] w fun e w' => e = .returned (.tuple #[stV (overS s (r ++ b)) (restOf (r ++ b)) (m + b.length), .int .i64 0]) ∧ Gr w w' := by
  have hg' := (goodB_iff r m).1 hg
  obtain ⟨hm0, hm1, hm2⟩ := hg'
  have hr : r.length < 4611686018427387904 := by omega
  have hb' : (b.length : Int) ≤ 576460752303423488 := by omega
  have hmm : IntKind.i64.wrap (m + b.length) = m + b.length := IntWalk.i64_in _ (by omega)
  have hall : r.length + b.length < 4611686018427387904 := by omega
  have HG := sec hg
  clear hg hm2
  unfold stV stCells
  go_enter Tryd.func77, Tryd.ntmps77
  go_wp2_with ((go_at_call 99; refine (good_any s r m _ hr).mono ?_; rw [HG.out]; rintro e w1 ⟨rfl, g1⟩; have hB2 := ((Blk.new w 109 (stCells s r m)).alloc (.cells (stCells zeroS [] 0) 109)).gr g1; have hB4 : Blk w1 (w.heap.size + 1) 109 (stCells zeroS [] 0) := Blk.gr (by have := Blk.new (w.alloc (.cells (stCells s r m) 109)) 109 (stCells zeroS [] 0); rw [World.size_alloc] at this; exact this) g1; have hg1 : Gr w w1 := (((Gr.refl w).alloc _).alloc _).trans g1; clear g1; have cr : w1.cell? ⟨w.heap.size, 8, none⟩ = some (.string (bs r)) := hB2.cell 8; have cm : w1.cell? ⟨w.heap.size, 9, none⟩ = some (.int .i64 m) := hB2.cell 9; have fm := hB2.frozen 9))
  obtain ⟨M, hM⟩ : ∃ M, M = m + (b.length : Int) := ⟨_, rfl⟩
  obtain ⟨L, hL⟩ : ∃ L, L = r ++ b := ⟨_, rfl⟩
  have hLl : L.length < 4611686018427387904 := by rw [hL, List.length_append]; exact hall
  have HL := sec hL
  rw [← hM, ← hL]
  have HM := sec hM
  clear hL hall hM
  have hB2' := hB2.set_ 9 (.int .i64 M)
  rw [show (stCells s r m).setIfInBounds 9 (.int .i64 M) = stCells s r M from rfl] at hB2'
  have hB4' := hB4.far (p := ⟨w.heap.size, 9, none⟩) (by simp) (.int .i64 M)
  have hg2 := hg1.setCell (p := ⟨w.heap.size, 9, none⟩) (Nat.le_refl _) (.int .i64 M)
  clear hB2 hB4 hg1 cr cm fm
  go_loopw [1] (fun v wr => ∃ (S : S8) (l : List UInt8), v = .string (bs l) ∧ l.length < 4611686018427387904 ∧ overS S l = overS s L ∧ restOf l = restOf L ∧ Blk wr w.heap.size 109 (stCells S r M) ∧ Blk wr (w.heap.size + 1) 109 (stCells zeroS [] 0) ∧ Gr w wr)
    (fun v _ => lenOf v)
  case atStart => exact ⟨s, L, rfl, hLl, rfl, rfl, hB2', hB4', hg2⟩
  case round =>
    clear hB2' hB4' hg2
    obtain ⟨S, l, rfl, hl, hov, hre, hB2, hB4, hg⟩ := hrel
    by_cases hlt : l.length < 64
    · rw [overS_lo hlt] at hov
      rw [restOf_lo hlt] at hre
      have HO := sec hov
      have HR := sec hre
      clear hov hre
      have k8 := hB2.frozen 8
      have e8 : ∃ v, wr.cell? ⟨w.heap.size, 8, none⟩ = some v := ⟨_, hB2.cell 8⟩
      obtain ⟨v8, e8⟩ := e8
      have hl64 : (l.length : Int) < 64 := by omega
      have hB2' : Blk (wr.setCell ⟨w.heap.size, 8, none⟩ (.string (bs l))) w.heap.size 109 (stCells S l M) := hB2.set_ 8 (.string (bs l))
      go_wp2_with (first
        | (refine wpList_load_blk rfl 109 (.tmp 2) rfl (g := w.heap.size) rfl hB2' A.state ?_)
        | (refine wpList_store_blk rfl 109 (.tmp 4) (.tmp 46) rfl (g := w.heap.size + 1) rfl rfl (hB4.far (by simp) _) A.state rfl (stCells_one _ _ _) ?_; intro w3 h3 hg3))
      refine bodyPost_ret (results_blk_tmp rfl _ rfl h3 A.state) rfl ?_
      refine ⟨?_, (hg.setCell (Nat.le_refl _) _).only hg3 (by omega)⟩
      rw [HO.out, HR.out, HL.out, HM.out]
      rfl
    · have h64 : (64 : Int) ≤ (l.length : Int) := by omega
      rw [overS_hi hlt] at hov
      rw [restOf_hi hlt] at hre
      have HO := sec hov
      have HR := sec hre
      have hlt' : 64 ≤ l.length := by omega
      clear hov hre hlt
      have ht : (l.take 64).length = 64 := by rw [List.length_take]; omega
      have HT := sec ht
      clear ht
      go_wp2_with fail
      refine region_still_tail_w 4 (by kernel_rfl) (by kernel_rfl) ?_
      simp only [List.take_succ_cons, List.take_zero, List.drop_succ_cons, List.drop_zero]
      intro wd hwd
      have D2 : Blk wd w.heap.size 109 (stCells S r M) := by subst hwd; exact hB2.drew
      have D4 : Blk wd (w.heap.size + 1) 109 (stCells zeroS [] 0) := by subst hwd; exact hB4.drew
      have Dg : Gr w wd := by subst hwd; exact hg.drew
      clear hwd hB2 hB4 hg
      have c0 : wd.cell? ⟨w.heap.size, 0, none⟩ = some (.int .u32 (S.a.toNat : Int)) := D2.cell 0
      have c1 : wd.cell? ⟨w.heap.size, 1, none⟩ = some (.int .u32 (S.b.toNat : Int)) := D2.cell 1
      have c2 : wd.cell? ⟨w.heap.size, 2, none⟩ = some (.int .u32 (S.c.toNat : Int)) := D2.cell 2
      have c3 : wd.cell? ⟨w.heap.size, 3, none⟩ = some (.int .u32 (S.d.toNat : Int)) := D2.cell 3
      have c4 : wd.cell? ⟨w.heap.size, 4, none⟩ = some (.int .u32 (S.e.toNat : Int)) := D2.cell 4
      have c5 : wd.cell? ⟨w.heap.size, 5, none⟩ = some (.int .u32 (S.f.toNat : Int)) := D2.cell 5
      have c6 : wd.cell? ⟨w.heap.size, 6, none⟩ = some (.int .u32 (S.g.toNat : Int)) := D2.cell 6
      have c7 : wd.cell? ⟨w.heap.size, 7, none⟩ = some (.int .u32 (S.h.toNat : Int)) := D2.cell 7
      repeat still_step
      refine wpStill_nil ?_
      clear c0 c1 c2 c3 c4 c5 c6 c7
      obtain ⟨R, hR⟩ : ∃ R, R = blockS S (l.take 64) := ⟨_, rfl⟩
      go_wp2_with (first
        | (refine wpList_store_part rfl 99 (.tmp 41) (.tmp 40) rfl (g := w.heap.size) (off := 0) rfl rfl E2 A.u8 (Nat.le_of_ble_eq_true rfl) (s8V_one R) ?_; intro w4 h4 hg4)
        | (go_at_call 100; refine (block_any S (l.take 64) _ HT.out (hT.gr Dg)).mono ?_; rw [← hR]; rintro e w3 ⟨rfl, g3⟩; have HRR := sec hR; clear hR; have E2 := D2.gr g3; have E4 := D4.gr g3; have Eg := Dg.trans g3; clear g3))
      have hl3 : (l.drop 64).length < l.length := by rw [List.length_drop]; omega
      have HL3 := sec hl3
      clear hl3
      go_roundw
      case rel =>
        exact ⟨R, l.drop 64, rfl, by have := HL3.out; omega, by rw [HRR.out]; exact HO.out, HR.out, h4, E4.only hg4 (by omega), Eg.only hg4 (Nat.le_refl _)⟩
      case measure => have := HL3.out; simp [lenOf, bs_size]; omega

set_option maxRecDepth 100000 in
set_option maxHeartbeats 1000000 in
/-- Add, where the state is not good or there is no room -/
theorem add_no (s : S8) (r : List UInt8) (m : Int) (b : List UInt8) (w : World) (hr : r.length < 4611686018427387904) (hb : b.length ≤ 576460752303423488) (h : goodB r m = false ∨ ¬ m + b.length < 1152921504606846976) :
    Calls Tryd.prog 77 #[stV s r m, .string (bs b)] w fun e w' => e = .returned (.tuple #[stV zeroS [] 0, .int .i64 3]) ∧ Gr w w' := by
  have hb' : (b.length : Int) ≤ 576460752303423488 := by omega
  unfold stV stCells
  cases hg : goodB r m with
  | false =>
    have HG := sec hg
    clear hg h
    go_enter Tryd.func77, Tryd.ntmps77
    go_wp2_with (first
      | (refine wpList_store_blk rfl 109 (.tmp 4) (.tmp 22) rfl (g := w.heap.size + 1) rfl rfl hB4 A.state rfl (stCells_one zeroS [] 0) ?_; intro w3 h3 hg3)
      | (go_at_call 99; refine (good_any s r m _ hr).mono ?_; rw [HG.out]; rintro e w1 ⟨rfl, g1⟩;  have hB4 : Blk w1 (w.heap.size + 1) 109 (stCells zeroS [] 0) := Blk.gr (Blk.new1 w _ _ _) g1; have hg1 : Gr w w1 := (((Gr.refl w).alloc _).alloc _).trans g1; clear g1))
    exact bodyPost_ret (results_blk_tmp rfl _ rfl h3 A.state) rfl ⟨rfl, hg1.only hg3 (by omega)⟩
  | true =>
    have hg' := (goodB_iff r m).1 hg
    obtain ⟨hm0, hm1, hm2⟩ := hg'
    have hmm : IntKind.i64.wrap (m + b.length) = m + b.length := IntWalk.i64_in _ (by omega)
    have hm : ¬ m + b.length < 1152921504606846976 := by
      rcases h with h | h
      · rw [hg] at h; cases h
      · exact h
    have HG := sec hg
    clear hg h hm2
    go_enter Tryd.func77, Tryd.ntmps77
    go_wp2_with (first
      | (refine wpList_store_blk rfl 109 (.tmp 4) (.tmp 22) rfl (g := w.heap.size + 1) rfl rfl hB4 A.state rfl (stCells_one zeroS [] 0) ?_; intro w3 h3 hg3)
      | (go_at_call 99; refine (good_any s r m _ hr).mono ?_; rw [HG.out]; rintro e w1 ⟨rfl, g1⟩; have cm : w1.cell? ⟨w.heap.size, 9, none⟩ = some (.int .i64 m) := (((Blk.new w 109 (stCells s r m)).alloc (.cells (stCells zeroS [] 0) 109)).gr g1).cell 9; have hB4 : Blk w1 (w.heap.size + 1) 109 (stCells zeroS [] 0) := Blk.gr (Blk.new1 w _ _ _) g1; have hg1 : Gr w w1 := (((Gr.refl w).alloc _).alloc _).trans g1; clear g1))
    exact bodyPost_ret (results_blk_tmp rfl _ rfl h3 A.state) rfl ⟨rfl, hg1.only hg3 (by omega)⟩
end Go.Proofs.YtbhpglhmnpcnkaaDoor

namespace Go.Proofs.YtbhpglhmnpcnkaaDoor
open Go.RowKit
set_option linter.unusedVariables false

theorem be_byte {n : Nat} {k : Int} (h : k = ((n % 256 : Nat) : Int)) : (#[Value.int .u8 k] : Array Value).toList = [UInt8.ofNat n].map byteV := by subst h; simp [byteV]
theorem index_s8_0 (S : S8) (w : World) : (Instr.index 99 (.agg #[u32V S.a, u32V S.b, u32V S.c, u32V S.d, u32V S.e, u32V S.f, u32V S.g, u32V S.h]) (.int .i64 0)).run Tryd.prog w = .ok (.int .u32 (S.a.toNat : Int)) w := by kernel_rfl
theorem index_s8_1 (S : S8) (w : World) : (Instr.index 99 (.agg #[u32V S.a, u32V S.b, u32V S.c, u32V S.d, u32V S.e, u32V S.f, u32V S.g, u32V S.h]) (.int .i64 1)).run Tryd.prog w = .ok (.int .u32 (S.b.toNat : Int)) w := by kernel_rfl
theorem index_s8_2 (S : S8) (w : World) : (Instr.index 99 (.agg #[u32V S.a, u32V S.b, u32V S.c, u32V S.d, u32V S.e, u32V S.f, u32V S.g, u32V S.h]) (.int .i64 2)).run Tryd.prog w = .ok (.int .u32 (S.c.toNat : Int)) w := by kernel_rfl
theorem index_s8_3 (S : S8) (w : World) : (Instr.index 99 (.agg #[u32V S.a, u32V S.b, u32V S.c, u32V S.d, u32V S.e, u32V S.f, u32V S.g, u32V S.h]) (.int .i64 3)).run Tryd.prog w = .ok (.int .u32 (S.d.toNat : Int)) w := by kernel_rfl
theorem index_s8_4 (S : S8) (w : World) : (Instr.index 99 (.agg #[u32V S.a, u32V S.b, u32V S.c, u32V S.d, u32V S.e, u32V S.f, u32V S.g, u32V S.h]) (.int .i64 4)).run Tryd.prog w = .ok (.int .u32 (S.e.toNat : Int)) w := by kernel_rfl
theorem index_s8_5 (S : S8) (w : World) : (Instr.index 99 (.agg #[u32V S.a, u32V S.b, u32V S.c, u32V S.d, u32V S.e, u32V S.f, u32V S.g, u32V S.h]) (.int .i64 5)).run Tryd.prog w = .ok (.int .u32 (S.f.toNat : Int)) w := by kernel_rfl
theorem index_s8_6 (S : S8) (w : World) : (Instr.index 99 (.agg #[u32V S.a, u32V S.b, u32V S.c, u32V S.d, u32V S.e, u32V S.f, u32V S.g, u32V S.h]) (.int .i64 6)).run Tryd.prog w = .ok (.int .u32 (S.g.toNat : Int)) w := by kernel_rfl
theorem index_s8_7 (S : S8) (w : World) : (Instr.index 99 (.agg #[u32V S.a, u32V S.b, u32V S.c, u32V S.d, u32V S.e, u32V S.f, u32V S.g, u32V S.h]) (.int .i64 7)).run Tryd.prog w = .ok (.int .u32 (S.h.toNat : Int)) w := by kernel_rfl
theorem be4_cells (x : UInt32) : [Value.int .u8 ((x.toNat : Int) / 16777216), .int .u8 ((x.toNat : Int) / 65536 % 256), .int .u8 ((x.toNat : Int) / 256 % 256), .int .u8 ((x.toNat : Int) % 256)] = (be4 x).map byteV := by
  have := x.toNat_lt
  simp [be4, byteV]
  omega
theorem own_be4 {w : World} {B e n : Nat} {v : Value} {l : List UInt8} {x : UInt32} (h : w.ownsRow B e 1 v n (l.map byteV ++ [Value.int .u8 ((x.toNat : Int) / 16777216), .int .u8 ((x.toNat : Int) / 65536 % 256), .int .u8 ((x.toNat : Int) / 256 % 256), .int .u8 ((x.toNat : Int) % 256)])) :
    w.ownsRow B e 1 v n ((l ++ be4 x).map byteV) := by
  rw [List.map_append, ← be4_cells]; exact h
def sliceLen : Value → Nat
  | .slice _ n _ => n
  | _ => 0

set_option maxRecDepth 100000 in
set_option maxHeartbeats 1000000 in
theorem end_no (s : S8) (r : List UInt8) (m : Int) (w : World) (hr : r.length < 4611686018427387904) (hg : goodB r m = false) :
    Calls Tryd.prog 79 #[stV s r m] w fun e w' => e = .returned (.tuple #[.string (bs []), .int .i64 3]) ∧ Gr w w' := by
  unfold stV stCells
  have HG := sec hg
  clear hg
  go_enter Tryd.func79, Tryd.ntmps79
  go_wp2_with ((go_at_call 99; refine (good_any s r m _ hr).mono ?_; rw [HG.out]; rintro e w1 ⟨rfl, g1⟩))
  go_ret2
  exact ⟨rfl, ((Gr.refl w).alloc _).trans g1⟩

set_option maxRecDepth 100000 in
set_option maxHeartbeats 4000000 in
theorem end_ok (s : S8) (r : List UInt8) (m : Nat) (w : World) (hT : TabK w) (hg : goodB r m = true) :
    Calls Tryd.prog 79 #[stV s r m] w fun e w' => e = .returned (.tuple #[.string (bs (endOf s r m)), .int .i64 0]) ∧ Gr w w' := by
  have hg' := (goodB_iff r m).1 hg
  obtain ⟨hm0, hm1, hm2⟩ := hg'
  have hr64 : r.length < 64 := by omega
  have hr : r.length < 4611686018427387904 := by omega
  have HG := sec hg
  clear hg hm2 hm0
  unfold stV stCells
  go_enter Tryd.func79, Tryd.ntmps79
  go_wp2_with ((go_at_call 99; refine (good_any s r m _ hr).mono ?_; rw [HG.out]; rintro e w1 ⟨rfl, g1⟩; have hS : Blk w1 w.heap.size 109 (stCells s r m) := (Blk.new w _ _).gr g1; have hg1 : Gr w w1 := ((Gr.refl w).alloc _).trans g1; clear g1; have cr : w1.cell? ⟨w.heap.size, 8, none⟩ = some (.string (bs r)) := hS.cell 8; obtain ⟨w2, cap, hcv, hg2, hB⟩ := conv_brow Tryd.underlying9 Tryd.underlying67 Tryd.underlying5 w1 (r ++ [128]) (by unfold maxLen; simp; omega)))
  have hS2 : Blk w2 w.heap.size 109 (stCells s r m) := hS.gr hg2
  have hgt : Gr w w2 := hg1.trans hg2
  have hB2 : BRow w2 w.heap.size w1.heap.size cap (r ++ [128]) := ⟨hg1.size, hB.lt, hB.le, hB.max, hB.there, hB.at_⟩
  have hT2 := hT
  obtain ⟨g0, hg0⟩ : ∃ g0, g0 = w1.heap.size := ⟨_, rfl⟩
  rw [← hg0] at hB2
  rw [← hg0]
  have hgne : g0 ≠ w.heap.size := by have := hS.lt; omega
  clear hg0 hB hg1 hg2 hS cr hcv hT2
  go_loopw [4] (fun v wr => ∃ (g cap i : Nat) (l : List UInt8), v = .slice (some ⟨g, 0, none⟩) l.length cap ∧ g ≠ w.heap.size ∧ i ≤ zerosFor r.length ∧ Sec (l = r ++ [128] ++ List.replicate i 0) ∧ BRow wr w.heap.size g cap l ∧ Blk wr w.heap.size 109 (stCells s r m) ∧ Gr w wr)
    (fun v _ => 200 - sliceLen v)
  case atStart => exact ⟨g0, cap, 0, r ++ [128], by simp, hgne, Nat.zero_le _, sec (by simp), hB2, hS2, hgt⟩
  case round =>
    clear hS2 hgt hB2 hgne
    obtain ⟨g, cap, i, l, rfl, hne, hi, HL, hB, hS, hg⟩ := hrel
    have hz : zerosFor r.length = (119 - r.length % 64) % 64 := rfl
    have hll : l.length = r.length + 1 + i := by rw [HL.out]; simp; omega
    by_cases hlt : i < zerosFor r.length
    · have t1 : ((l.length : Int) % 64 == 56) = false := by rw [beq_eq_false_iff_ne]; omega
      have t2 : ((l.length : Int) % 64 != 56) = true := by rw [bne_iff_ne]; omega
      have hl200 : l.length < 190 := by omega
      have HI := sec hlt
      clear hz hll hlt hi
      go_wp2_with (refine wpList_append_brow E.u8 rfl (.tmp 20) (.tmp 21) rfl rfl hB [0] rfl rfl rfl (by omega) hg ?_; intro g' cap' w' hB' hgn hgc hg')
      go_roundw
      case rel =>
        exact ⟨g', cap', i + 1, l ++ [0], by simp, far_of hgc hne hS.lt, HI.out, sec (by rw [HL.out, List.append_assoc, ← List.replicate_succ']), hB', hS.only hgn hne.symm, hg'⟩
      case measure => simp [sliceLen]; omega
    · obtain rfl : i = zerosFor r.length := by omega
      have t1 : ((l.length : Int) % 64 == 56) = true := by rw [beq_iff_eq]; omega
      have t2 : ((l.length : Int) % 64 != 56) = false := by rw [bne_eq_false_iff_eq]; omega
      obtain ⟨P, hP⟩ : ∃ P, P = r ++ [128] ++ List.replicate (zerosFor r.length) 0 := ⟨_, rfl⟩
      have hPl : P.length ≤ 128 := by rw [hP, ← HL.out]; omega
      have HP := sec hP
      have HL2 : Sec (l = P ++ (be8 (8 * m)).take 0) := sec (by rw [HL.out, hP]; simp)
      clear hlt hi hz hll hP
      go_wp2_with fail
      clear t1 t2
      go_loopw [4, 5] (fun v k wr => ∃ (g cap j : Nat) (K : Int) (l : List UInt8), v = .slice (some ⟨g, 0, none⟩) l.length cap ∧ k = .int .i64 K ∧ Sec (K = 56 - 8 * (j : Int)) ∧ g ≠ w.heap.size ∧ j ≤ 8 ∧ Sec (l = P ++ (be8 (8 * m)).take j) ∧ BRow wr w.heap.size g cap l ∧ Blk wr w.heap.size 109 (stCells s r m) ∧ Gr w wr)
        (fun _ k _ => (intOf k + 8).toNat)
      case atStart => exact ⟨g, cap, 0, 56, l, rfl, rfl, sec (by omega), hne, by omega, HL2, hB, hS, hg⟩
      case round =>
        clear hB hS hg HL HL2 hne
        obtain ⟨g, cap, j, K, l, rfl, rfl, HK, hne, hj, HL, hB, hS, hg⟩ := hrel
        have hl200 : l.length < 190 := by rw [HL.out, List.length_append, List.length_take]; simp [be8_len]; omega
        have cm : wr.cell? ⟨w.heap.size, 9, none⟩ = some (.int .i64 m) := hS.cell 9
        have e8 : IntKind.i64.wrap (8 * (m : Int)) = 8 * (m : Int) := IntWalk.i64_in _ (by omega)
        have hm0 : (0 : Int) ≤ 8 * (m : Int) := by omega
        have hcase : j = 0 ∨ j = 1 ∨ j = 2 ∨ j = 3 ∨ j = 4 ∨ j = 5 ∨ j = 6 ∨ j = 7 ∨ j = 8 := by omega
        clear hj
        rcases hcase with rfl | rfl | rfl | rfl | rfl | rfl | rfl | rfl | rfl
        · obtain rfl : K = 56 := by have := HK.out; omega
          go_wp2_with (refine wpList_append_brow E.u8 rfl (.tmp 27) (.tmp 35) rfl rfl hB [UInt8.ofNat (8 * m / 72057594037927936)] rfl (be_byte (by omega)) rfl (by omega) hg ?_; intro g' cap' w' hB' hgn hgc hg')
          go_roundw
          case rel => exact ⟨g', cap', 1, 48, _, by simp, rfl, sec (by omega), far_of hgc hne hS.lt, by omega, sec (by rw [HL.out, List.append_assoc]; rfl), hB', hS.only hgn hne.symm, hg'⟩
          case measure => simp [intOf]
        · obtain rfl : K = 48 := by have := HK.out; omega
          go_wp2_with (refine wpList_append_brow E.u8 rfl (.tmp 27) (.tmp 35) rfl rfl hB [UInt8.ofNat (8 * m / 281474976710656)] rfl (be_byte (by omega)) rfl (by omega) hg ?_; intro g' cap' w' hB' hgn hgc hg')
          go_roundw
          case rel => exact ⟨g', cap', 2, 40, _, by simp, rfl, sec (by omega), far_of hgc hne hS.lt, by omega, sec (by rw [HL.out, List.append_assoc]; rfl), hB', hS.only hgn hne.symm, hg'⟩
          case measure => simp [intOf]
        · obtain rfl : K = 40 := by have := HK.out; omega
          go_wp2_with (refine wpList_append_brow E.u8 rfl (.tmp 27) (.tmp 35) rfl rfl hB [UInt8.ofNat (8 * m / 1099511627776)] rfl (be_byte (by omega)) rfl (by omega) hg ?_; intro g' cap' w' hB' hgn hgc hg')
          go_roundw
          case rel => exact ⟨g', cap', 3, 32, _, by simp, rfl, sec (by omega), far_of hgc hne hS.lt, by omega, sec (by rw [HL.out, List.append_assoc]; rfl), hB', hS.only hgn hne.symm, hg'⟩
          case measure => simp [intOf]
        · obtain rfl : K = 32 := by have := HK.out; omega
          go_wp2_with (refine wpList_append_brow E.u8 rfl (.tmp 27) (.tmp 35) rfl rfl hB [UInt8.ofNat (8 * m / 4294967296)] rfl (be_byte (by omega)) rfl (by omega) hg ?_; intro g' cap' w' hB' hgn hgc hg')
          go_roundw
          case rel => exact ⟨g', cap', 4, 24, _, by simp, rfl, sec (by omega), far_of hgc hne hS.lt, by omega, sec (by rw [HL.out, List.append_assoc]; rfl), hB', hS.only hgn hne.symm, hg'⟩
          case measure => simp [intOf]
        · obtain rfl : K = 24 := by have := HK.out; omega
          go_wp2_with (refine wpList_append_brow E.u8 rfl (.tmp 27) (.tmp 35) rfl rfl hB [UInt8.ofNat (8 * m / 16777216)] rfl (be_byte (by omega)) rfl (by omega) hg ?_; intro g' cap' w' hB' hgn hgc hg')
          go_roundw
          case rel => exact ⟨g', cap', 5, 16, _, by simp, rfl, sec (by omega), far_of hgc hne hS.lt, by omega, sec (by rw [HL.out, List.append_assoc]; rfl), hB', hS.only hgn hne.symm, hg'⟩
          case measure => simp [intOf]
        · obtain rfl : K = 16 := by have := HK.out; omega
          go_wp2_with (refine wpList_append_brow E.u8 rfl (.tmp 27) (.tmp 35) rfl rfl hB [UInt8.ofNat (8 * m / 65536)] rfl (be_byte (by omega)) rfl (by omega) hg ?_; intro g' cap' w' hB' hgn hgc hg')
          go_roundw
          case rel => exact ⟨g', cap', 6, 8, _, by simp, rfl, sec (by omega), far_of hgc hne hS.lt, by omega, sec (by rw [HL.out, List.append_assoc]; rfl), hB', hS.only hgn hne.symm, hg'⟩
          case measure => simp [intOf]
        · obtain rfl : K = 8 := by have := HK.out; omega
          go_wp2_with (refine wpList_append_brow E.u8 rfl (.tmp 27) (.tmp 35) rfl rfl hB [UInt8.ofNat (8 * m / 256)] rfl (be_byte (by omega)) rfl (by omega) hg ?_; intro g' cap' w' hB' hgn hgc hg')
          go_roundw
          case rel => exact ⟨g', cap', 7, 0, _, by simp, rfl, sec (by omega), far_of hgc hne hS.lt, by omega, sec (by rw [HL.out, List.append_assoc]; rfl), hB', hS.only hgn hne.symm, hg'⟩
          case measure => simp [intOf]
        · obtain rfl : K = 0 := by have := HK.out; omega
          go_wp2_with (refine wpList_append_brow E.u8 rfl (.tmp 27) (.tmp 35) rfl rfl hB [UInt8.ofNat (8 * m)] rfl (be_byte (by omega)) rfl (by omega) hg ?_; intro g' cap' w' hB' hgn hgc hg')
          go_roundw
          case rel => exact ⟨g', cap', 8, -8, _, by simp, rfl, sec (by omega), far_of hgc hne hS.lt, by omega, sec (by rw [HL.out, List.append_assoc]; rfl), hB', hS.only hgn hne.symm, hg'⟩
          case measure => simp [intOf]
        · obtain rfl : K = -8 := by have := HK.out; omega
          have HL2 : Sec (l = padTo r m) := sec (by rw [HL.out, HP.out]; rfl)
          have HM : Sec (l.length % 64 = 0) := sec (by rw [HL2.out]; exact padTo_mod r m)
          have HO : Sec (overS s l = overS s (padTo r m)) := sec (by rw [HL2.out])
          clear cm e8 hm0 HL HL2
          have hrow : Row wr 1 (some ⟨g, 0, none⟩) l.length (l.map byteV) := ⟨by simp, fun _ => ⟨g, 0, rfl, fun i v hv => by rw [Nat.zero_add]; exact hB.at_ i v hv⟩⟩
          have hcap := hB.le
          have hgl := hB.lt
          go_wp2_with fail
          clear hB
          go_loopw [4] (fun v wr => ∃ (S : S8) (ad : Option Addr) (cap : Nat) (l : List UInt8), v = .slice ad l.length cap ∧ l.length ≤ cap ∧ l.length ≤ 200 ∧ Sec (l.length % 64 = 0) ∧ Sec (overS S l = overS s (padTo r m)) ∧ Row wr 1 ad l.length (l.map byteV) ∧ (∀ b off, ad = some ⟨b, off, none⟩ → b ≠ w.heap.size) ∧ Blk wr w.heap.size 109 (stCells S r m) ∧ Gr w wr)
            (fun v _ => sliceLen v)
          case atStart => exact ⟨s, _, cap, l, rfl, hcap, by omega, HM, HO, hrow, fun b off h => by cases h; exact hne, hS, hg⟩
          case round =>
            clear hS hg hrow hcap hgl hne HM HO
            obtain ⟨S, ad, cap, l, rfl, hcap, hl200, HM, HO, hrow, hne, hS, hg⟩ := hrel
            by_cases hlt : 0 < l.length
            · have h64 : 64 ≤ l.length := by have := HM.out; omega
              obtain ⟨g, off, rfl, hc⟩ := hrow.at_ hlt
              have hne1 := hne g off rfl
              have hcl : 64 ≤ cap := by omega
              have hci : (64 : Int) ≤ (cap : Int) := by omega
              have hli : (64 : Int) ≤ (l.length : Int) := by omega
              have hl64 : (l.take 64).length = 64 := by rw [List.length_take]; omega
              have HO2 : Sec (overS (blockS S (l.take 64)) (l.drop 64) = overS s (padTo r m)) := sec ((overS_hi (s := S) (b := l) (by omega)).symm.trans HO.out)
              have HL64 := sec hl64
              have HM2 : Sec ((l.drop 64).length % 64 = 0) := sec (by have := HM.out; rw [List.length_drop]; omega)
              have HLd : Sec ((l.drop 64).length = l.length - 64) := sec (by rw [List.length_drop])
              have hcells : ∀ j u, ((l.take 64).map byteV)[j]? = some u → ∀ w', Gr wr w' → w'.cell? ⟨g, off + j, none⟩ = some u := by
                intro j u hu w' hgw
                have hj : j < 64 := by have := (List.getElem?_eq_some_iff.1 hu).1; simp at this; omega
                have hu' : (l.map byteV)[j]? = some u := by
                  rw [List.map_take, List.getElem?_take, if_pos hj] at hu
                  exact hu
                have := hc j u hu'
                rw [hgw.cells.1 g (off + j) (World.block_lt_of_cell? wr _ this)]
                exact this
              have HC := sec hcells
              have HRow : Sec (∀ w', Gr wr w' → Row w' 1 (some ⟨g, off + 64, none⟩) (l.drop 64).length ((l.drop 64).map byteV)) := sec (by
                intro w' hgw
                refine ⟨by simp, fun _ => ⟨g, off + 64, rfl, fun i v hv => ?_⟩⟩
                rw [List.map_drop, List.getElem?_drop] at hv
                have := hc _ v hv
                rw [Nat.add_assoc, hgw.cells.1 g _ (World.block_lt_of_cell? wr _ this)]
                exact this)
              clear hl64 hcells hrow hne HM HO hc
              go_wp2_with fail
              refine region_still_tail_w 5 (by kernel_rfl) (by kernel_rfl) ?_
              simp only [List.take_succ_cons, List.take_zero, List.drop_succ_cons, List.drop_zero]
              intro wd hwd
              have D2 : Blk wd w.heap.size 109 (stCells S r m) := by subst hwd; exact hS.drew
              have Dg0 : Gr wr wd := by subst hwd; exact (Gr.refl wr).drew
              have Dg : Gr w wd := by subst hwd; exact hg.drew
              clear hwd hS hg
              have hcv : (convert 67 9 (.slice (some ⟨g, off, none⟩) 64 cap)).run Tryd.prog wd = .ok (.string (bs (l.take 64))) wd := by
                have := run_conv_at Tryd.underlying67 Tryd.underlying5 Tryd.underlying9 wd g off cap (l.take 64) (fun j u hu => HC.out j u hu wd Dg0)
                rwa [HL64.out] at this
              have c0 : wd.cell? ⟨w.heap.size, 0, none⟩ = some (.int .u32 (S.a.toNat : Int)) := D2.cell 0
              have c1 : wd.cell? ⟨w.heap.size, 1, none⟩ = some (.int .u32 (S.b.toNat : Int)) := D2.cell 1
              have c2 : wd.cell? ⟨w.heap.size, 2, none⟩ = some (.int .u32 (S.c.toNat : Int)) := D2.cell 2
              have c3 : wd.cell? ⟨w.heap.size, 3, none⟩ = some (.int .u32 (S.d.toNat : Int)) := D2.cell 3
              have c4 : wd.cell? ⟨w.heap.size, 4, none⟩ = some (.int .u32 (S.e.toNat : Int)) := D2.cell 4
              have c5 : wd.cell? ⟨w.heap.size, 5, none⟩ = some (.int .u32 (S.f.toNat : Int)) := D2.cell 5
              have c6 : wd.cell? ⟨w.heap.size, 6, none⟩ = some (.int .u32 (S.g.toNat : Int)) := D2.cell 6
              have c7 : wd.cell? ⟨w.heap.size, 7, none⟩ = some (.int .u32 (S.h.toNat : Int)) := D2.cell 7
              repeat still_step
              refine wpStill_nil ?_
              clear c0 c1 c2 c3 c4 c5 c6 c7 hcv
              obtain ⟨R, hR⟩ : ∃ R, R = blockS S (l.take 64) := ⟨_, rfl⟩
              have HRR := sec hR
              by_cases hcap64 : cap = 64
              · subst hcap64
                go_wp2_with (first
                  | (refine wpList_store_part rfl 99 (.tmp 46) (.tmp 45) rfl (g := w.heap.size) (off := 0) rfl rfl E2 A.u8 (Nat.le_of_ble_eq_true rfl) (s8V_one R) ?_; intro w4 h4 hg4)
                  | (go_at_call 100; refine (block_any S (l.take 64) _ HL64.out (hT.gr Dg)).mono ?_; rw [← hR]; rintro e w3 ⟨rfl, g3⟩; clear hR; have E2 := D2.gr g3; have Eg := Dg.trans g3; have Eg0 := Dg0.trans g3; clear g3))
                go_roundw
                case rel =>
                  have hd0 : l.drop 64 = [] := List.drop_eq_nil_of_le (by omega)
                  refine ⟨R, some ⟨g, off, none⟩, 0, l.drop 64, ?_, by simp [hd0], by simp [hd0], HM2, by rw [HRR.out]; exact HO2, by rw [hd0]; exact Row.nil _ _ _, fun b off h => by cases h; exact hne1, h4, Eg.only hg4 (Nat.le_refl _)⟩
                  simp; omega
                case measure => simp [sliceLen]; omega
              · have hcapi : ¬ (cap : Int) = 64 := by omega
                go_wp2_with (first
                  | (refine wpList_store_part rfl 99 (.tmp 46) (.tmp 45) rfl (g := w.heap.size) (off := 0) rfl rfl E2 A.u8 (Nat.le_of_ble_eq_true rfl) (s8V_one R) ?_; intro w4 h4 hg4)
                  | (go_at_call 100; refine (block_any S (l.take 64) _ HL64.out (hT.gr Dg)).mono ?_; rw [← hR]; rintro e w3 ⟨rfl, g3⟩; clear hR; have E2 := D2.gr g3; have Eg := Dg.trans g3; have Eg0 := Dg0.trans g3; clear g3))
                go_roundw
                case rel =>
                  refine ⟨R, some ⟨g, off + 64, none⟩, cap - 64, l.drop 64, ?_, by rw [List.length_drop]; omega, by rw [List.length_drop]; omega, HM2, by rw [HRR.out]; exact HO2, ?_, fun b off h => by cases h; exact hne1, h4, Eg.only hg4 (Nat.le_refl _)⟩
                  · simp
                  · exact (HRow.out w3 Eg0).only hg4 (fun _ b off h => by cases h; exact hne1)
                case measure => simp [sliceLen]; omega
            · obtain rfl : l = [] := List.eq_nil_of_length_eq_zero (by omega)
              have HS : Sec (S = overS s (padTo r m)) := sec (by rw [← HO.out, overS_lo (by simp)])
              clear HM HO hrow hne hcap hl200 hlt
              go_wp2_with (refine wpList_load_at rfl 99 (.tmp 49) rfl (g := w.heap.size) (off := 0) rfl (xs := s8V S) A.u8 (hS.part 0 rfl) ?_)
              have HX := sec hS
              clear hS
              go_loopw [6, 51, 8] (fun v iv _ wr => ∃ (j : Nat) (ad : Option Addr) (cap : Nat), iv = .int .i64 j ∧ j ≤ 8 ∧ v = .slice ad (4 * j) cap ∧ wr.ownsRow w.heap.size 5 1 (.slice ad (4 * j) cap) (4 * j) (((S.list.take j).flatMap be4).map byteV) ∧ Gr w wr)
                (fun _ iv _ _ => 8 - (intOf iv).toNat)
              case atStart => exact ⟨0, none, 0, rfl, by omega, rfl, World.ownsRow_nil _ _ _ _, hg⟩
              case round =>
                clear hg
                obtain ⟨j, ad, cap, rfl, hj, rfl, hown, hg⟩ := hrel
                have hcase : j = 0 ∨ j = 1 ∨ j = 2 ∨ j = 3 ∨ j = 4 ∨ j = 5 ∨ j = 6 ∨ j = 7 ∨ j = 8 := by omega
                clear hj
                unfold s8V
                rcases hcase with rfl | rfl | rfl | rfl | rfl | rfl | rfl | rfl | rfl
                · have i0 := index_s8_0 S
                  have hx := S.a.toNat_lt
                  go_wp2_with (refine wpList_append_new E.u8 rfl (.tmp 54) (.tmp 66) rfl rfl hown rfl rfl (by simp [Value.oneCell']) (by omega) (by omega) (by unfold maxLen; omega) hg ?_; intro g' cap' w' hown' hg')
                  go_roundw
                  case rel => exact ⟨1, some ⟨g', 0, none⟩, cap', rfl, by omega, rfl, own_be4 (x := S.a) hown', hg'⟩
                  case measure => simp [intOf]
                · have i0 := index_s8_1 S
                  have hx := S.b.toNat_lt
                  go_wp2_with (refine wpList_append_new E.u8 rfl (.tmp 54) (.tmp 66) rfl rfl hown rfl rfl (by simp [Value.oneCell']) (by omega) (by omega) (by unfold maxLen; omega) hg ?_; intro g' cap' w' hown' hg')
                  go_roundw
                  case rel => exact ⟨2, some ⟨g', 0, none⟩, cap', rfl, by omega, rfl, own_be4 (x := S.b) hown', hg'⟩
                  case measure => simp [intOf]
                · have i0 := index_s8_2 S
                  have hx := S.c.toNat_lt
                  go_wp2_with (refine wpList_append_new E.u8 rfl (.tmp 54) (.tmp 66) rfl rfl hown rfl rfl (by simp [Value.oneCell']) (by omega) (by omega) (by unfold maxLen; omega) hg ?_; intro g' cap' w' hown' hg')
                  go_roundw
                  case rel => exact ⟨3, some ⟨g', 0, none⟩, cap', rfl, by omega, rfl, own_be4 (x := S.c) hown', hg'⟩
                  case measure => simp [intOf]
                · have i0 := index_s8_3 S
                  have hx := S.d.toNat_lt
                  go_wp2_with (refine wpList_append_new E.u8 rfl (.tmp 54) (.tmp 66) rfl rfl hown rfl rfl (by simp [Value.oneCell']) (by omega) (by omega) (by unfold maxLen; omega) hg ?_; intro g' cap' w' hown' hg')
                  go_roundw
                  case rel => exact ⟨4, some ⟨g', 0, none⟩, cap', rfl, by omega, rfl, own_be4 (x := S.d) hown', hg'⟩
                  case measure => simp [intOf]
                · have i0 := index_s8_4 S
                  have hx := S.e.toNat_lt
                  go_wp2_with (refine wpList_append_new E.u8 rfl (.tmp 54) (.tmp 66) rfl rfl hown rfl rfl (by simp [Value.oneCell']) (by omega) (by omega) (by unfold maxLen; omega) hg ?_; intro g' cap' w' hown' hg')
                  go_roundw
                  case rel => exact ⟨5, some ⟨g', 0, none⟩, cap', rfl, by omega, rfl, own_be4 (x := S.e) hown', hg'⟩
                  case measure => simp [intOf]
                · have i0 := index_s8_5 S
                  have hx := S.f.toNat_lt
                  go_wp2_with (refine wpList_append_new E.u8 rfl (.tmp 54) (.tmp 66) rfl rfl hown rfl rfl (by simp [Value.oneCell']) (by omega) (by omega) (by unfold maxLen; omega) hg ?_; intro g' cap' w' hown' hg')
                  go_roundw
                  case rel => exact ⟨6, some ⟨g', 0, none⟩, cap', rfl, by omega, rfl, own_be4 (x := S.f) hown', hg'⟩
                  case measure => simp [intOf]
                · have i0 := index_s8_6 S
                  have hx := S.g.toNat_lt
                  go_wp2_with (refine wpList_append_new E.u8 rfl (.tmp 54) (.tmp 66) rfl rfl hown rfl rfl (by simp [Value.oneCell']) (by omega) (by omega) (by unfold maxLen; omega) hg ?_; intro g' cap' w' hown' hg')
                  go_roundw
                  case rel => exact ⟨7, some ⟨g', 0, none⟩, cap', rfl, by omega, rfl, own_be4 (x := S.g) hown', hg'⟩
                  case measure => simp [intOf]
                · have i0 := index_s8_7 S
                  have hx := S.h.toNat_lt
                  go_wp2_with (refine wpList_append_new E.u8 rfl (.tmp 54) (.tmp 66) rfl rfl hown rfl rfl (by simp [Value.oneCell']) (by omega) (by omega) (by unfold maxLen; omega) hg ?_; intro g' cap' w' hown' hg')
                  go_roundw
                  case rel => exact ⟨8, some ⟨g', 0, none⟩, cap', rfl, by omega, rfl, own_be4 (x := S.h) hown', hg'⟩
                  case measure => simp [intOf]
                · have hcv : (convert 67 9 (.slice ad 32 cap)).run Tryd.prog wr = .ok (.string (bs (text8 S))) wr := run_conv_own Tryd.underlying67 Tryd.underlying5 Tryd.underlying9 (n := 32) hown
                  go_wp2_with fail
                  go_ret2
                  exact ⟨by rw [HS.out]; rfl, hg⟩
end Go.Proofs.YtbhpglhmnpcnkaaDoor

namespace Go.Proofs.YtbhpglhmnpcnkaaDoor
open Go.RowKit
set_option linter.unusedVariables false

theorem goodB_start : goodB [] 0 = true := by decide
theorem goodB_rest (b : List UInt8) (h : b.length < 1152921504606846976) : goodB (restOf b) (b.length : Int) = true := by
  rw [goodB_iff, restOf_len]
  omega

set_option maxRecDepth 100000 in
set_option maxHeartbeats 1000000 in
theorem sum_any (b : List UInt8) (w : World) (hT : TabK w) (hb : b.length ≤ 576460752303423488) :
    Calls Tryd.prog 51 #[.string (bs b)] w fun e w' => e = .returned (.string (bs (sha b))) ∧ Gr w w' := by
  have HG := sec (goodB_rest b (by omega))
  have HS : Sec (sha b = endOf (overS startS b) (restOf b) b.length) := sec rfl
  have HZ := sec (show (0 : Int) + (b.length : Int) < 1152921504606846976 by omega)
  have HA : Sec (([] : List UInt8) ++ b = b) := sec rfl
  have HN : Sec ((0 : Int) + (b.length : Int) = (b.length : Int)) := sec (by omega)
  obtain ⟨S, hS⟩ : ∃ S, S = overS startS b := ⟨_, rfl⟩
  obtain ⟨R, hR⟩ : ∃ R, R = restOf b := ⟨_, rfl⟩
  rw [← hS, ← hR] at HS
  rw [← hR] at HG
  have HSS := sec hS
  have HRR := sec hR
  clear hS hR
  go_enter Tryd.func51, Tryd.ntmps51
  go_wp2_with (first
    | (refine wpList_store_blk rfl 109 (.tmp 3) (.tmp 11) rfl (g := w2.heap.size) rfl rfl (Blk.new w2 _ _) A.state rfl (stCells_one _ _ _) ?_; intro w3 h3 hg3; have gg3 : Gr w w3 := Gr.only (g2.alloc _) hg3 g2.size; clear hg3)
    | (refine wpList_load_blk rfl 109 (.tmp 3) rfl (g := w2.heap.size) rfl h3 A.state ?_)
    | (go_at_call 78; refine (begin_any _).mono ?_; rintro e w1 ⟨rfl, g1⟩)
    | (go_at_call 77; refine (add_ok startS [] 0 b _ (hT.gr g1) goodB_start hb HZ.out).mono ?_; rw [HA.out, HN.out, ← HSS.out, ← HRR.out]; rintro e w2 ⟨rfl, g2'⟩; have g2 := g1.trans g2'; clear g2' g1)
    | (go_at_call 79; refine (end_ok S R b.length _ (hT.gr gg3) HG.out).mono ?_; rw [← HS.out]; rintro e w4 ⟨rfl, g4⟩))
  go_ret
  exact ⟨rfl, gg3.trans g4⟩
end Go.Proofs.YtbhpglhmnpcnkaaDoor

namespace Go.Proofs.YtbhpglhmnpcnkaaDoor
open Go.RowKit

def kCells : Array Value := (kTab.map u32V).toArray
theorem kCells_at (i : Nat) (h : i < 64) : kCells[i]? = some (.int .u32 ((kAt i).toNat : Int)) := by
  unfold kCells kAt
  have : i < kTab.length := by rw [kTab_len]; exact h
  simp [this, u32V]

/-- '[]byte(s)' : a row of its own, its cells the bytes -/
theorem conv_bytes (w : World) (l : List UInt8) : ∃ w2 cap, (convert 9 67 (.string (bs l))).run Tryd.prog w = .ok (.slice (some ⟨w.heap.size, 0, none⟩) l.length cap) w2 ∧ Gr w w2 ∧
    ∀ j, j < l.length → w2.cell? ⟨w.heap.size, j, none⟩ = some (.int .u8 ((l.getD j 0).toNat : Int)) := by
  have h1 := Lib.run_convert_string_bytes (P := Tryd.prog) w 9 67 5 (bs l) Tryd.underlying9 Tryd.underlying67 Tryd.underlying5
  rw [bs_size] at h1
  refine ⟨_, _, h1, Lib.bytesWorld_below w 5 (bs l), ?_⟩
  intro j hj
  rw [Lib.bytesWorld_cell w 5 (bs l) j (by rw [bs_size]; exact hj)]
  rfl

set_option maxRecDepth 100000 in
set_option maxHeartbeats 4000000 in
theorem rounds_any (w : World) :
    Calls Tryd.prog 106 #[] w fun e w' => e = .returned (.agg kCells) ∧ Gr w w' := by
  go_enter Tryd.func106, Tryd.ntmps106
  go_wp2_with (refine wpList_store_row rfl 139 (.tmp 0) (.tmp 1) rfl w.heap.size kCells rfl (by kernel_rfl) _ _ (Blk.new w _ _) (by kernel_rfl) (by kernel_rfl) (by kernel_rfl) ?_)
  refine bodyPost_ret (results_cell_row rfl _ _ w.heap.size _ kCells (0, 0) _ rfl (setRow_heap _ _ _ kCells _ _ (Blk.new w _ _)) rfl rfl (by kernel_rfl)) rfl ?_
  exact ⟨rfl, below_setRow ((Gr.refl w).alloc _) (Nat.le_refl _) _⟩

/-- the first k bytes of a word -/
def wpart (b : List UInt8) (n : Nat) : Nat → Nat
  | 0 => 0
  | k + 1 => wpart b n k * 256 + byteAt b (n + k)
theorem wpart_lt (b : List UInt8) (n : Nat) : ∀ k, wpart b n k < 256 ^ k
  | 0 => by simp [wpart]
  | k + 1 => by
    have h1 := wpart_lt b n k
    have h2 := byteAt_lt b (n + k)
    rw [wpart, Nat.pow_succ]
    omega
theorem wpart_four (b : List UInt8) (n : Nat) : wpart b n 4 = (wordAt b n).toNat := by
  rw [wordAt_toNat]
  simp only [wpart, Nat.add_zero]
  omega

set_option maxRecDepth 100000 in
set_option maxHeartbeats 4000000 in
theorem rword_any (b : List UInt8) (n : Nat) (w : World) (h : n + 4 ≤ b.length) (h63 : b.length < 9223372036854775807) :
    Calls Tryd.prog 107 #[.string (bs b), .int .i64 n] w fun e w' => e = .returned (.int .u32 ((wordAt b n).toNat : Int)) ∧ Gr w w' := by
  have q4 : IntKind.i64.wrap ((n : Int) + 4) = (n : Int) + 4 := IntWalk.i64_in _ (by omega)
  obtain ⟨w2, cap, hcv, hg, hc⟩ := conv_bytes w (sub b n (n + 4))
  have hl : (sub b n (n + 4)).length = 4 := by simp [sub]; omega
  have hat : ∀ j, j < 4 → (sub b n (n + 4)).getD j 0 = b.getD (n + j) 0 := by
    intro j hj
    simp [sub, hj]
  rw [hl] at hcv hc
  have hc' : ∀ j, j < 4 → w2.cell? ⟨w.heap.size, j, none⟩ = some (.int .u8 (byteAt b (n + j) : Int)) := by
    intro j hj
    rw [hc j hj, hat j hj]
    rfl
  clear hc hl hat
  go_enter Tryd.func107, Tryd.ntmps107
  go_wp2_with fail
  go_loopw [15, 7, 5] (fun iv _ v wr => ∃ k : Nat, iv = .int .i64 k ∧ k ≤ 4 ∧ v = .int .u32 (wpart b n k : Int) ∧ wr = w2)
    (fun iv _ _ _ => 4 - (intOf iv).toNat)
  case atStart => exact ⟨0, rfl, by omega, rfl, rfl⟩
  case round =>
    obtain ⟨k, rfl, hk, rfl, rfl⟩ := hrel
    by_cases hlt : k < 4
    · have hck := hc' k hlt
      have hk4 : (k : Int) < 4 := by omega
      have hw1 := wpart_lt b n k
      have hw4 : wpart b n k < 16777216 := by
        have : 256 ^ k ≤ 256 ^ 3 := Nat.pow_le_pow_right (by omega) (by omega)
        omega
      have hb := byteAt_lt b (n + k)
      clear hw1 hlt
      go_wp2
      go_roundw
      case rel => exact ⟨k + 1, by go_num, by omega, by simp [wpart], by trivial⟩
      case measure => simp [intOf]; omega
    · obtain rfl : k = 4 := by omega
      clear hlt hk
      rw [wpart_four]
      go_wp2_with fail
      go_ret
      exact ⟨rfl, hg⟩
end Go.Proofs.YtbhpglhmnpcnkaaDoor

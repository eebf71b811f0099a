/-
  disk.find by its contract: slices.BinarySearchFunc over the files of a good disk.
-/
import Derived.Test.YtoamnifnfkgbiaaGreatDoorDiskGood
namespace Go.Proofs.YtoamnifnfkgbiaaGreatDoor
open Go.RowKit
set_option linter.unusedVariables false
/-- where a name stands or would -/
def lbF (name : List UInt8) (fs : List Fl) : Nat := (fs.takeWhile (fun f => ltB f.1 name)).length
def hasF (name : List UInt8) (fs : List Fl) : Bool := fs.any (fun f => f.1 == name)
abbrev SortedF (fs : List Fl) : Prop := fs.Pairwise (fun f g => ltB f.1 g.1 = true)
theorem lbF_le (name : List UInt8) (fs : List Fl) : lbF name fs ≤ fs.length := by
  unfold lbF
  exact (List.takeWhile_sublist _).length_le
theorem lbF_of (name : List UInt8) : ∀ (fs : List Fl) (i : Nat), i ≤ fs.length → (∀ m (hm : m < fs.length), m < i → ltB fs[m].1 name = true) → (∀ hm : i < fs.length, ltB fs[i].1 name = false) → lbF name fs = i
  | [], i, hi, _, _ => by
    have : i = 0 := by simpa using hi
    subst this; rfl
  | f :: r, 0, hi, _, h2 => by
    have := h2 (by simp)
    simp only [List.getElem_cons_zero] at this
    unfold lbF
    rw [List.takeWhile_cons, this]; rfl
  | f :: r, i + 1, hi, h1, h2 => by
    have h0 := h1 0 (by simp) (by omega)
    simp only [List.getElem_cons_zero] at h0
    have ih := lbF_of name r i (by simpa using hi) (fun m hm hl => by have := h1 (m + 1) (by simp; omega) (by omega); simpa using this)
      (fun hm => by have := h2 (by simp; omega); simpa using this)
    unfold lbF at ih ⊢
    rw [List.takeWhile_cons, h0]
    simp [ih]
theorem SortedF.get {fs : List Fl} (h : SortedF fs) {i j : Nat} (hj : j < fs.length) (hij : i < j) : ltB (fs[i]'(by omega)).1 fs[j].1 = true :=
  List.pairwise_iff_getElem.1 h i j (by omega) hj hij
theorem SortedF.below {fs : List Fl} (h : SortedF fs) {name : List UInt8} {i j : Nat} (hj : j < fs.length) (hij : i ≤ j) (hl : ltB fs[j].1 name = true) : ltB (fs[i]'(by omega)).1 name = true := by
  rcases Nat.lt_or_eq_of_le hij with h1 | rfl
  · exact ltB_trans _ _ _ (h.get hj h1) hl
  · exact hl
theorem SortedF.above {fs : List Fl} (h : SortedF fs) {name : List UInt8} {i j : Nat} (hj : j < fs.length) (hij : i ≤ j) (hl : ltB (fs[i]'(by omega)).1 name = false) : ltB fs[j].1 name = false := by
  cases h2 : ltB fs[j].1 name with
  | false => rfl
  | true => rw [h.below hj hij h2] at hl; cases hl
/-- the name is there iff it stands at the place -/
theorem has_of {fs : List Fl} (h : SortedF fs) {name : List UInt8} {i : Nat} (h1 : ∀ m (hm : m < fs.length), m < i → ltB fs[m].1 name = true) (hi : i < fs.length) (h2 : ltB fs[i].1 name = false) :
    hasF name fs = (fs[i].1 == name) := by
  unfold hasF
  cases he : fs[i].1 == name with
  | true => exact List.any_eq_true.2 ⟨fs[i], List.getElem_mem hi, he⟩
  | false =>
    refine List.any_eq_false.2 fun f hf => ?_
    obtain ⟨m, hm, rfl⟩ := List.getElem_of_mem hf
    intro hmn
    have hmn : fs[m].1 = name := by simpa using hmn
    rcases Nat.lt_trichotomy m i with h3 | rfl | h3
    · have := h1 m hm h3
      rw [hmn, ltB_irr] at this; cases this
    · rw [hmn] at he; simp at he
    · have := h.get hm h3
      rw [hmn, h2] at this; cases this
theorem has_of_end {fs : List Fl} {name : List UInt8} {i : Nat} (h1 : ∀ m (hm : m < fs.length), m < i → ltB fs[m].1 name = true) (hi : fs.length ≤ i) : hasF name fs = false := by
  unfold hasF
  refine List.any_eq_false.2 fun f hf => ?_
  obtain ⟨m, hm, rfl⟩ := List.getElem_of_mem hf
  intro hmn
  have hmn : fs[m].1 = name := by simpa using hmn
  have := h1 m hm (by omega)
  rw [hmn, ltB_irr] at this; cases this
theorem hasF_lt {fs : List Fl} {name : List UInt8} (h : SortedF fs) (hh : hasF name fs = true) : ∃ hi : lbF name fs < fs.length, fs[lbF name fs].1 = name := by
  obtain ⟨f, hf, hn⟩ := List.any_eq_true.1 hh
  obtain ⟨m, hm, rfl⟩ := List.getElem_of_mem hf
  have hmn : fs[m].1 = name := by simpa using hn
  have : lbF name fs = m := lbF_of name fs m (by omega) (fun k hk hl => by rw [← hmn]; exact h.get hm hl) (fun _ => by rw [hmn]; exact ltB_irr _)
  refine ⟨by omega, ?_⟩
  simp only [this]; exact hmn

def cmpB (a b : List UInt8) : Int := Lib.compareBytes a b

set_option maxRecDepth 100000 in
set_option maxHeartbeats 1000000 in
theorem findCl_any (nm sf tl name : List UInt8) (w : World) :
    Calls Tryz.prog 166 #[.agg #[.string (bs nm), .string (bs sf), .string (bs tl)], .string (bs name)] w fun e w' => e = .returned (.int .i64 (cmpB nm name)) ∧ Gr w w' := by
  go_enter Tryz.func166, Tryz.ntmps166
  go_wp2_with (go_at_call 167; refine Calls.mono (compare_any nm name _) ?_; rintro e w1 ⟨rfl, rfl⟩)
  go_ret
  exact ⟨rfl, (Gr.refl w).alloc _⟩

set_option maxRecDepth 100000 in
set_option maxHeartbeats 4000000 in
theorem bsearch_any (fs : List Fl) (name : List UInt8) (A : Option Addr) (n cap : Nat) (w : World) (hn : n ≤ 1099511627776) (hx : FRow w A n fs) (hso : SortedF fs) :
    Calls Tryz.prog 165 #[.slice A n cap, .string (bs name), .func (.func 166) #[] #[]] w
      fun e w' => e = .returned (.tuple #[.int .i64 (lbF name fs : Int), .bool (hasF name fs)]) ∧ Gr w w' := by
  have hl := hx.len
  have HX := sec hx
  have HS := sec hso
  have eg : ∀ args w, (callFunc 166 args).run Tryz.prog w = .ok (.enter 166 args) w := enters_own Tryz.func166 (by kernel_rfl) rfl
  clear hx hso
  go_enter Tryz.func165, Tryz.ntmps165
  go_wp2_with fail
  go_loopw [9, 10, 11] (fun iv jv _ wr => ∃ i j : Nat, iv = .int .i64 (i : Int) ∧ jv = .int .i64 (j : Int) ∧ i ≤ j ∧ j ≤ n ∧ Sec (∀ m (hm : m < fs.length), m < i → ltB fs[m].1 name = true) ∧ Sec (∀ m (hm : m < fs.length), j ≤ m → ltB fs[m].1 name = false) ∧ Gr w wr)
    (fun iv jv _ _ => (intOf jv).toNat - (intOf iv).toNat)
  case atStart => exact ⟨0, n, rfl, rfl, by omega, by omega, sec (fun m hm h => by omega), sec (fun m hm h => by omega), Gr.refl _⟩
  case round =>
    obtain ⟨i, j, rfl, rfl, hij, hj, H1, H2, hg⟩ := hrel
    by_cases hlt : i < j
    · have hii : (i : Int) < (j : Int) := by omega
      obtain ⟨h, hh⟩ : ∃ h, h = (i + j) / 2 := ⟨_, rfl⟩
      have q1 : ((i : Int) + (j : Int)) / 2 = (h : Int) := by omega
      have hih : i ≤ h := by omega
      have hhj : h < j := by omega
      have hhn : (h : Int) < (n : Int) := by omega
      have hhf : h < fs.length := by omega
      obtain ⟨b, off, rfl, e0, e1, e2⟩ := (HX.out.gr hg).cell hhf
      have HH : Sec (fs[h] = fs[h]) := sec rfl
      have HLT : Sec (ltB fs[h].1 name = true → ∀ m (hm : m < fs.length), m < h + 1 → ltB fs[m].1 name = true) := sec (fun hb m hm hl => HS.out.below hhf (by omega) hb)
      have HGE : Sec (ltB fs[h].1 name = false → ∀ m (hm : m < fs.length), h ≤ m → ltB fs[m].1 name = false) := sec (fun hb m hm hl => HS.out.above hm hl hb)
      obtain ⟨x, hxx⟩ : ∃ x, x = fs[h] := ⟨_, rfl⟩
      rw [← hxx] at e0 e1 e2 HLT HGE
      clear hxx HH hh hhf
      obtain ⟨nm, sf, tl⟩ := x
      simp only at e0 e1 e2 HLT HGE
      have HC := sec (fun w => findCl_any nm sf tl name w)
      have hcm := (cmp_lt nm name).1
      cases hb : ltB nm name with
      | true =>
        have q2 : cmpB nm name < 0 := hcm.2 hb
        have H1' := sec (HLT.out hb)
        clear HLT HGE hcm hb
        go_wp2_with (refine Calls.mono (HC.out _) ?_; rintro e w1 ⟨rfl, g1⟩)
        go_roundw
        case rel => exact ⟨h + 1, j, by go_num, rfl, by omega, by omega, H1', H2, hg.trans g1⟩
        case measure => simp [intOf]; omega
      | false =>
        have q2 : ¬ cmpB nm name < 0 := fun h => by rw [hcm.1 h] at hb; cases hb
        have H2' := sec (HGE.out hb)
        clear HLT HGE hcm hb
        go_wp2_with (refine Calls.mono (HC.out _) ?_; rintro e w1 ⟨rfl, g1⟩)
        go_roundw
        case rel => exact ⟨i, h, rfl, by go_num, by omega, by omega, H1, H2', hg.trans g1⟩
        case measure => simp [intOf]; omega
    · obtain rfl : i = j := by omega
      by_cases hin : i < n
      · have hif : i < fs.length := by omega
        have hii : (i : Int) < (n : Int) := by omega
        have HL : Sec (lbF name fs = i) := sec (lbF_of name fs i (by omega) H1.out (fun h => H2.out i h (Nat.le_refl _)))
        have HE : Sec (hasF name fs = (fs[i].1 == name)) := sec (has_of HS.out H1.out hif (H2.out i hif (Nat.le_refl _)))
        obtain ⟨b, off, rfl, e0, e1, e2⟩ := (HX.out.gr hg).cell hif
        obtain ⟨x, hxx⟩ : ∃ x, x = fs[i] := ⟨_, rfl⟩
        rw [← hxx] at e0 e1 e2 HE
        clear hxx hif hlt
        obtain ⟨nm, sf, tl⟩ := x
        simp only at e0 e1 e2 HE
        have HC := sec (fun w => findCl_any nm sf tl name w)
        have hcm := (cmp_lt nm name).2
        cases hb : nm == name with
        | true =>
          have q2 : cmpB nm name = 0 := hcm.2 (by simpa using hb)
          rw [hb] at HE
          clear hcm hb
          go_wp2_with (refine Calls.mono (HC.out _) ?_; rintro e w1 ⟨rfl, g1⟩)
          go_ret2
          exact ⟨by rw [HL.out, HE.out]; rfl, hg.trans g1⟩
        | false =>
          have q2 : (cmpB nm name == 0) = false := beq_eq_false_iff_ne.2 (fun h => by rw [hcm.1 h] at hb; simp at hb)
          rw [hb] at HE
          clear hcm hb
          go_wp2_with (refine Calls.mono (HC.out _) ?_; rintro e w1 ⟨rfl, g1⟩)
          go_ret2
          exact ⟨by rw [HL.out, HE.out]; rfl, hg.trans g1⟩
      · obtain rfl : i = n := by omega
        have HL : Sec (lbF name fs = i) := sec (lbF_of name fs i (by omega) H1.out (fun h => by omega))
        have HE : Sec (hasF name fs = false) := sec (has_of_end H1.out (by omega))
        clear hlt hin hj
        go_wp2_with fail
        go_ret2
        exact ⟨by rw [HL.out, HE.out]; rfl, hg⟩

set_option maxRecDepth 100000 in
set_option maxHeartbeats 2000000 in
theorem find_any (fs : List Fl) (name : List UInt8) (A : Option Addr) (n cap : Nat) (f : Int) (w : World) (hn : n ≤ 1099511627776) (hx : FRow w A n fs) (hso : SortedF fs) :
    Calls Tryz.prog 111 #[diskV A n cap f, .string (bs name)] w
      fun e w' => e = .returned (.tuple #[.int .i64 (lbF name fs : Int), .bool (hasF name fs)]) ∧ Gr w w' := by
  unfold diskV
  have hg0 := (Gr.refl w).alloc (.cells #[.slice A n cap, .int .i64 f] 24)
  have HC := sec (bsearch_any fs name A n cap _ hn (hx.gr hg0) hso)
  clear hx hso
  go_enter Tryz.func111, Tryz.ntmps111
  go_wp2_with (go_at_call 165; refine Calls.mono HC.out ?_; rintro e w1 ⟨rfl, g1⟩)
  go_ret2
  exact ⟨rfl, hg0.trans g1⟩
end Go.Proofs.YtoamnifnfkgbiaaGreatDoor

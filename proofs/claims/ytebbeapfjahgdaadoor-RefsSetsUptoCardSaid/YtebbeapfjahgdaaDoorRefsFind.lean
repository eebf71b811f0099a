/-
  refs.find, refs.Get by their contracts: slices.BinarySearchFunc over a good list.
-/
import Derived.Test.YtebbeapfjahgdaaDoorRefsL
import Derived.Test.YtebbeapfjahgdaaDoorDiskA
namespace Go.Proofs.YtebbeapfjahgdaaDoor
open Go.RowKit
set_option linter.unusedVariables false
abbrev SortedR (fs : List Rf) : Prop := fs.Pairwise (fun f g => ltB f.1 g.1 = true)
theorem lbR_le (name : List UInt8) (fs : List Rf) : lbR name fs ≤ fs.length := by
  unfold lbR
  exact (List.takeWhile_sublist _).length_le
theorem lbR_of (name : List UInt8) : ∀ (fs : List Rf) (i : Nat), i ≤ fs.length → (∀ m (hm : m < fs.length), m < i → ltB fs[m].1 name = true) → (∀ hm : i < fs.length, ltB fs[i].1 name = false) → lbR name fs = i
  | [], i, hi, _, _ => by
    have : i = 0 := by simpa using hi
    subst this; rfl
  | f :: r, 0, hi, _, h2 => by
    have := h2 (by simp)
    simp only [List.getElem_cons_zero] at this
    unfold lbR
    rw [List.takeWhile_cons, this]; rfl
  | f :: r, i + 1, hi, h1, h2 => by
    have h0 := h1 0 (by simp) (by omega)
    simp only [List.getElem_cons_zero] at h0
    have ih := lbR_of name r i (by simpa using hi) (fun m hm hl => by have := h1 (m + 1) (by simp; omega) (by omega); simpa using this)
      (fun hm => by have := h2 (by simp; omega); simpa using this)
    unfold lbR at ih ⊢
    rw [List.takeWhile_cons, h0]
    simp [ih]
theorem SortedR.get {fs : List Rf} (h : SortedR fs) {i j : Nat} (hj : j < fs.length) (hij : i < j) : ltB (fs[i]'(by omega)).1 fs[j].1 = true :=
  List.pairwise_iff_getElem.1 h i j (by omega) hj hij
theorem SortedR.below {fs : List Rf} (h : SortedR fs) {name : List UInt8} {i j : Nat} (hj : j < fs.length) (hij : i ≤ j) (hl : ltB fs[j].1 name = true) : ltB (fs[i]'(by omega)).1 name = true := by
  rcases Nat.lt_or_eq_of_le hij with h1 | rfl
  · exact ltB_trans _ _ _ (h.get hj h1) hl
  · exact hl
theorem SortedR.above {fs : List Rf} (h : SortedR fs) {name : List UInt8} {i j : Nat} (hj : j < fs.length) (hij : i ≤ j) (hl : ltB (fs[i]'(by omega)).1 name = false) : ltB fs[j].1 name = false := by
  cases h2 : ltB fs[j].1 name with
  | false => rfl
  | true => rw [h.below hj hij h2] at hl; cases hl
/-- the name is there iff it stands at the place -/
theorem hasr_of {fs : List Rf} (h : SortedR fs) {name : List UInt8} {i : Nat} (h1 : ∀ m (hm : m < fs.length), m < i → ltB fs[m].1 name = true) (hi : i < fs.length) (h2 : ltB fs[i].1 name = false) :
    hasR name fs = (fs[i].1 == name) := by
  unfold hasR
  cases he : fs[i].1 == name with
  | true => exact List.any_eq_true.2 ⟨fs[i], List.getElem_mem hi, he⟩
  | false =>
    refine List.any_eq_false.2 fun f hf => ?_
    obtain ⟨m, hm, rfl⟩ := List.getElem_of_mem hf
    intro hmn
    have hmn : fs[m].1 = name := by simpa using hmn
    rcases Nat.lt_trichotomy m i with h3 | rfl | h3
    · have := h1 m hm h3
      rw [hmn, ltB_irr] at this; cases this
    · rw [hmn] at he; simp at he
    · have := h.get hm h3
      rw [hmn, h2] at this; cases this
theorem hasr_of_end {fs : List Rf} {name : List UInt8} {i : Nat} (h1 : ∀ m (hm : m < fs.length), m < i → ltB fs[m].1 name = true) (hi : fs.length ≤ i) : hasR name fs = false := by
  unfold hasR
  refine List.any_eq_false.2 fun f hf => ?_
  obtain ⟨m, hm, rfl⟩ := List.getElem_of_mem hf
  intro hmn
  have hmn : fs[m].1 = name := by simpa using hmn
  have := h1 m hm (by omega)
  rw [hmn, ltB_irr] at this; cases this
theorem hasR_lt {fs : List Rf} {name : List UInt8} (h : SortedR fs) (hh : hasR name fs = true) : ∃ hi : lbR name fs < fs.length, fs[lbR name fs].1 = name := by
  obtain ⟨f, hf, hn⟩ := List.any_eq_true.1 hh
  obtain ⟨m, hm, rfl⟩ := List.getElem_of_mem hf
  have hmn : fs[m].1 = name := by simpa using hn
  have : lbR name fs = m := lbR_of name fs m (by omega) (fun k hk hl => by rw [← hmn]; exact h.get hm hl) (fun _ => by rw [hmn]; exact ltB_irr _)
  refine ⟨by omega, ?_⟩
  simp only [this]; exact hmn

def cmpR (a b : List UInt8) : Int := Lib.compareBytes a b

set_option maxRecDepth 100000 in
set_option maxHeartbeats 1000000 in
theorem rfindCl_any (nm sf name : List UInt8) (w : World) :
    Calls Tryd.prog 26 #[.agg #[.string (bs nm), .string (bs sf)], .string (bs name)] w fun e w' => e = .returned (.int .i64 (cmpR nm name)) ∧ Gr w w' := by
  go_enter Tryd.func26, Tryd.ntmps26
  go_wp2_with (go_at_call 27; refine Calls.mono (compare_any nm name _) ?_; rintro e w1 ⟨rfl, rfl⟩)
  go_ret
  exact ⟨rfl, (Gr.refl w).alloc _⟩

set_option maxRecDepth 100000 in
set_option maxHeartbeats 4000000 in
theorem rbsearch_any (fs : List Rf) (name : List UInt8) (A : Option Addr) (n cap : Nat) (w : World) (hn : n ≤ 1099511627776) (hx : RfRow w A n fs) (hso : SortedR fs) :
    Calls Tryd.prog 25 #[.slice A n cap, .string (bs name), .func (.func 26) #[] #[]] w
      fun e w' => e = .returned (.tuple #[.int .i64 (lbR name fs : Int), .bool (hasR name fs)]) ∧ Gr w w' := by
  have hl := hx.len
  have HX := sec hx
  have HS := sec hso
  have eg : ∀ args w, (callFunc 26 args).run Tryd.prog w = .ok (.enter 26 args) w := enters_own Tryd.func26 (by kernel_rfl) rfl
  clear hx hso
  go_enter Tryd.func25, Tryd.ntmps25
  go_wp2_with fail
  go_loopw [9, 10, 11] (fun iv jv _ wr => ∃ i j : Nat, iv = .int .i64 (i : Int) ∧ jv = .int .i64 (j : Int) ∧ i ≤ j ∧ j ≤ n ∧ Sec (∀ m (hm : m < fs.length), m < i → ltB fs[m].1 name = true) ∧ Sec (∀ m (hm : m < fs.length), j ≤ m → ltB fs[m].1 name = false) ∧ Gr w wr)
    (fun iv jv _ _ => (intOf jv).toNat - (intOf iv).toNat)
  case atStart => exact ⟨0, n, rfl, rfl, by omega, by omega, sec (fun m hm h => by omega), sec (fun m hm h => by omega), Gr.refl _⟩
  case round =>
    obtain ⟨i, j, rfl, rfl, hij, hj, H1, H2, hg⟩ := hrel
    by_cases hlt : i < j
    · have hii : (i : Int) < (j : Int) := by omega
      obtain ⟨h, hh⟩ : ∃ h, h = (i + j) / 2 := ⟨_, rfl⟩
      have q1 : ((i : Int) + (j : Int)) / 2 = (h : Int) := by omega
      have hih : i ≤ h := by omega
      have hhj : h < j := by omega
      have hhn : (h : Int) < (n : Int) := by omega
      have hhf : h < fs.length := by omega
      obtain ⟨b, off, rfl, e0, e1⟩ := (HX.out.gr hg).cell hhf
      have HH : Sec (fs[h] = fs[h]) := sec rfl
      have HLT : Sec (ltB fs[h].1 name = true → ∀ m (hm : m < fs.length), m < h + 1 → ltB fs[m].1 name = true) := sec (fun hb m hm hl => HS.out.below hhf (by omega) hb)
      have HGE : Sec (ltB fs[h].1 name = false → ∀ m (hm : m < fs.length), h ≤ m → ltB fs[m].1 name = false) := sec (fun hb m hm hl => HS.out.above hm hl hb)
      obtain ⟨x, hxx⟩ : ∃ x, x = fs[h] := ⟨_, rfl⟩
      rw [← hxx] at e0 e1 HLT HGE
      clear hxx HH hh hhf
      obtain ⟨nm, sf⟩ := x
      simp only at e0 e1 HLT HGE
      have HC := sec (fun w => rfindCl_any nm sf name w)
      have hcm := (cmp_lt nm name).1
      cases hb : ltB nm name with
      | true =>
        have q2 : cmpR nm name < 0 := hcm.2 hb
        have H1' := sec (HLT.out hb)
        clear HLT HGE hcm hb
        go_wp2_with (refine Calls.mono (HC.out _) ?_; rintro e w1 ⟨rfl, g1⟩)
        go_roundw
        case rel => exact ⟨h + 1, j, by go_num, rfl, by omega, by omega, H1', H2, hg.trans g1⟩
        case measure => simp [intOf]; omega
      | false =>
        have q2 : ¬ cmpR nm name < 0 := fun h => by rw [hcm.1 h] at hb; cases hb
        have H2' := sec (HGE.out hb)
        clear HLT HGE hcm hb
        go_wp2_with (refine Calls.mono (HC.out _) ?_; rintro e w1 ⟨rfl, g1⟩)
        go_roundw
        case rel => exact ⟨i, h, rfl, by go_num, by omega, by omega, H1, H2', hg.trans g1⟩
        case measure => simp [intOf]; omega
    · obtain rfl : i = j := by omega
      by_cases hin : i < n
      · have hif : i < fs.length := by omega
        have hii : (i : Int) < (n : Int) := by omega
        have HL : Sec (lbR name fs = i) := sec (lbR_of name fs i (by omega) H1.out (fun h => H2.out i h (Nat.le_refl _)))
        have HE : Sec (hasR name fs = (fs[i].1 == name)) := sec (hasr_of HS.out H1.out hif (H2.out i hif (Nat.le_refl _)))
        obtain ⟨b, off, rfl, e0, e1⟩ := (HX.out.gr hg).cell hif
        obtain ⟨x, hxx⟩ : ∃ x, x = fs[i] := ⟨_, rfl⟩
        rw [← hxx] at e0 e1 HE
        clear hxx hif hlt
        obtain ⟨nm, sf⟩ := x
        simp only at e0 e1 HE
        have HC := sec (fun w => rfindCl_any nm sf name w)
        have hcm := (cmp_lt nm name).2
        cases hb : nm == name with
        | true =>
          have q2 : cmpR nm name = 0 := hcm.2 (by simpa using hb)
          rw [hb] at HE
          clear hcm hb
          go_wp2_with (refine Calls.mono (HC.out _) ?_; rintro e w1 ⟨rfl, g1⟩)
          go_ret2
          exact ⟨by rw [HL.out, HE.out]; rfl, hg.trans g1⟩
        | false =>
          have q2 : (cmpR nm name == 0) = false := beq_eq_false_iff_ne.2 (fun h => by rw [hcm.1 h] at hb; simp at hb)
          rw [hb] at HE
          clear hcm hb
          go_wp2_with (refine Calls.mono (HC.out _) ?_; rintro e w1 ⟨rfl, g1⟩)
          go_ret2
          exact ⟨by rw [HL.out, HE.out]; rfl, hg.trans g1⟩
      · obtain rfl : i = n := by omega
        have HL : Sec (lbR name fs = i) := sec (lbR_of name fs i (by omega) H1.out (fun h => by omega))
        have HE : Sec (hasR name fs = false) := sec (hasr_of_end H1.out (by omega))
        clear hlt hin hj
        go_wp2_with fail
        go_ret2
        exact ⟨by rw [HL.out, HE.out]; rfl, hg⟩

set_option maxRecDepth 100000 in
set_option maxHeartbeats 2000000 in
theorem rfind_any (fs : List Rf) (name : List UInt8) (A : Option Addr) (n cap : Nat) (w : World) (hn : n ≤ 1099511627776) (hx : RfRow w A n fs) (hso : SortedR fs) :
    Calls Tryd.prog 18 #[.slice A n cap, .string (bs name)] w
      fun e w' => e = .returned (.tuple #[.int .i64 (lbR name fs : Int), .bool (hasR name fs)]) ∧ Gr w w' := by
  have HC := sec (rbsearch_any fs name A n cap w hn hx hso)
  clear hx hso
  go_enter Tryd.func18, Tryd.ntmps18
  go_wp2_with (go_at_call 25; refine Calls.mono HC.out ?_; rintro e w1 ⟨rfl, g1⟩)
  go_ret2
  exact ⟨rfl, g1⟩
theorem getR_has {fs : List Rf} (h : SortedR fs) {name : List UInt8} (hh : hasR name fs = true) : ∃ hi : lbR name fs < fs.length, fs[lbR name fs].1 = name ∧ getR fs name = fs[lbR name fs].2 := by
  obtain ⟨hi, h1⟩ := hasR_lt h hh
  refine ⟨hi, h1, ?_⟩
  have : fs.find? (fun f => f.1 == name) = some fs[lbR name fs] := by
    rw [List.find?_eq_some_iff_getElem]
    refine ⟨by simpa using h1, lbR name fs, hi, rfl, fun j hj => ?_⟩
    have := h.get hi hj
    rw [h1] at this
    simp only [Bool.not_eq_true', beq_eq_false_iff_ne, ne_eq]
    intro e
    rw [e, ltB_irr] at this
    cases this
  unfold getR
  rw [this]
  rfl
theorem getR_no {fs : List Rf} {name : List UInt8} (hh : hasR name fs = false) : getR fs name = [] := by
  have : fs.find? (fun f => f.1 == name) = none := by
    rw [List.find?_eq_none]
    intro f hf
    have := List.any_eq_false.1 hh f hf
    simpa using this
  unfold getR
  rw [this]
  rfl
set_option maxRecDepth 100000 in
set_option maxHeartbeats 2000000 in
theorem rget_any (fs : List Rf) (name : List UInt8) (A : Option Addr) (n cap : Nat) (w : World) (hn : n ≤ 1099511627776) (hx : RfRow w A n fs) (hso : SortedR fs) :
    Calls Tryd.prog 13 #[.slice A n cap, .string (bs name)] w
      fun e w' => e = .returned (.string (bs (getR fs name))) ∧ Gr w w' := by
  have HC := sec (rfind_any fs name A n cap w hn hx hso)
  have hl := hx.len
  have HX := sec hx
  cases hh : hasR name fs with
  | true =>
    obtain ⟨hi, h1, h2⟩ := getR_has hso hh
    rw [hh] at HC
    obtain ⟨k, hk, hkl, HG⟩ : ∃ k, k = lbR name fs ∧ ∃ h : k < fs.length, Sec (getR fs name = fs[k].2) := ⟨_, rfl, hi, sec h2⟩
    rw [← hk] at HC
    clear h2 h1 hi
    clear hk hh hx hso
    obtain ⟨V, hV⟩ : ∃ V, V = getR fs name := ⟨_, rfl⟩
    rw [← hV]
    have hkn : (k : Int) < (n : Int) := by omega
    go_enter Tryd.func13, Tryd.ntmps13
    go_upto_region 2 with (go_at_call 18; refine Calls.mono HC.out ?_; rintro e w1 ⟨rfl, g1⟩)
    obtain ⟨b, off, rfl, e0, e1⟩ := (HX.out.gr g1).cell hkl
    rw [← HG.out, hV.symm] at e1
    clear e0 hV
    clear HG hkl
    go_wp2_with fail
    go_ret
    exact ⟨rfl, g1⟩
  | false =>
    have h2 := sec (getR_no hh)
    rw [hh] at HC
    clear hx hso hh
    go_enter Tryd.func13, Tryd.ntmps13
    go_wp2_with (go_at_call 18; refine Calls.mono HC.out ?_; rintro e w1 ⟨rfl, g1⟩)
    go_ret
    exact ⟨by rw [h2.out]; rfl, g1⟩
end Go.Proofs.YtebbeapfjahgdaaDoor

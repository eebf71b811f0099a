/-
  PkC: contracts and plain laws joined (24 texts). No conditions but those that each states.
-/
import Derived.Test.YtmmpekdbknclcaaDoorPkA
import Derived.Test.YtmmpekdbknclcaaDoorPkB
import Derived.Test.YtmmpekdbknclcaaDoorBRow
import Derived.Lib.Overlaps
import Derived.Lib.AppendZerosOnto
import Derived.Laws.CopyOwn
import Derived.Deep.RegionHeld3
import Derived.Test.YtmmpekdbknclcaaDoorStepS
import Derived.Test.YtmmpekdbknclcaaDoorBlock
import Derived.Test.YtmmpekdbknclcaaDoorCards
import Derived.Test.YtmmpekdbknclcaaDoorTie
import Derived.ProofKit
import Derived.Deep.DeepHandedRow
import Derived.Lib.LaidTab
namespace Go.Proofs.YtmmpekdbknclcaaDoor
set_option maxRecDepth 100000
open Go.RowKit
set_option linter.unusedVariables false
abbrev Rf := List UInt8 × List UInt8
def refV (f : Rf) : List Value := [.string (bs f.1), .string (bs f.2)]
theorem E.ref : ElemOk 26 44 (.agg #[.string (bs []), .string (bs [])]) 2 32 := ⟨Tryd.underlying26, by kernel_rfl, rfl, by omega⟩
def RfRow (w : World) (A : Option Addr) (n : Nat) (fs : List Rf) : Prop := Row w 2 A n (fs.flatMap refV)
theorem RfRow.gr {w w' : World} {A : Option Addr} {n : Nat} {fs : List Rf} (h : RfRow w A n fs) (g : Gr w w') : RfRow w' A n fs := Row.gr h g
theorem RfRow.len {w : World} {A : Option Addr} {n : Nat} {fs : List Rf} (h : RfRow w A n fs) : fs.length = n := Row.flen refV (fun _ => rfl) (by omega) h
theorem RfRow.cell {w : World} {A : Option Addr} {n : Nat} {fs : List Rf} (h : RfRow w A n fs) {i : Nat} (hi : i < fs.length) :
    ∃ b off, A = some ⟨b, off, none⟩ ∧ w.cell? ⟨b, off + i * 2, none⟩ = some (.string (bs fs[i].1)) ∧ w.cell? ⟨b, off + i * 2 + 1, none⟩ = some (.string (bs fs[i].2)) := by
  obtain ⟨b, off, e, _, hc⟩ := Row.fcell refV (fun _ => rfl) (by omega) h hi
  exact ⟨b, off, e, hc 0 _ rfl, hc 1 _ rfl⟩
theorem refV_one {fs : List Rf} : ∀ u ∈ fs.flatMap refV, u.oneCell' = true := by
  intro u hu
  obtain ⟨f, _, h⟩ := List.mem_flatMap.1 hu
  simp only [refV, List.mem_cons, List.not_mem_nil, or_false] at h
  rcases h with rfl | rfl <;> rfl

/-- P8.2: one ref -/
def rfOk (f : Rf) : Bool := refB f.1 && decide (f.2.length = 32)
def rgFrom : List UInt8 → List Rf → Bool
  | _, [] => true
  | last, f :: r => rfOk f && ltB last f.1 && rgFrom f.1 r
/-- P8.2 -/
def goodR (fs : List Rf) : Bool := decide (fs.length ≤ 32) && rgFrom [] fs
theorem refB_ne {s : List UInt8} (h : refB s = true) : s ≠ [] := by
  rintro rfl
  exact absurd h (by decide)
theorem rgFrom_cons (last : List UInt8) (f : Rf) (r : List Rf) : rgFrom last (f :: r) = (rfOk f && ltB last f.1 && rgFrom f.1 r) := rfl
theorem rgFrom_sorted : ∀ (fs : List Rf) (last : List UInt8), rgFrom last fs = true → (∀ f ∈ fs, ltB last f.1 = true ∧ rfOk f = true) ∧ fs.Pairwise (fun f g => ltB f.1 g.1 = true)
  | [], _, _ => ⟨fun f hf => by simp at hf, List.Pairwise.nil⟩
  | f :: r, last, h => by
    rw [rgFrom_cons, Bool.and_eq_true, Bool.and_eq_true] at h
    obtain ⟨⟨h1, h2⟩, h3⟩ := h
    have ih := rgFrom_sorted r f.1 h3
    refine ⟨fun g hg => ?_, List.Pairwise.cons (fun g hg => (ih.1 g hg).1) ih.2⟩
    rcases List.mem_cons.1 hg with rfl | hg
    · exact ⟨h2, h1⟩
    · exact ⟨ltB_trans _ _ _ h2 (ih.1 g hg).1, (ih.1 g hg).2⟩
theorem goodR_sorted {fs : List Rf} (h : goodR fs = true) : fs.length ≤ 32 ∧ (∀ f ∈ fs, refB f.1 = true ∧ f.2.length = 32) ∧ fs.Pairwise (fun f g => ltB f.1 g.1 = true) := by
  unfold goodR at h
  rw [Bool.and_eq_true, decide_eq_true_eq] at h
  obtain ⟨a, b⟩ := rgFrom_sorted fs [] h.2
  refine ⟨h.1, fun f hf => ?_, b⟩
  have := (a f hf).2
  unfold rfOk at this
  rw [Bool.and_eq_true, decide_eq_true_eq] at this
  exact this
/-- where the loop stands: i seen, all of them right; the last one's name -/
def rgSeen (fs : List Rf) (i : Nat) (last : List UInt8) : Prop := rgFrom [] fs = rgFrom last (fs.drop i) ∧ (i = 0 → last = []) ∧ ∀ h : 0 < i ∧ i ≤ fs.length, last = (fs[i - 1]'(by omega)).1
theorem rgSeen0 (fs : List Rf) : rgSeen fs 0 [] := ⟨rfl, fun _ => rfl, fun h => absurd h.1 (by omega)⟩
theorem rgSeen.here {fs : List Rf} {i : Nat} {last : List UInt8} (h : rgSeen fs i last) (hi : i < fs.length) : rgFrom [] fs = (rfOk fs[i] && ltB last fs[i].1 && rgFrom fs[i].1 (fs.drop (i + 1))) := by
  rw [h.1, List.drop_eq_getElem_cons hi]
  rfl
theorem rgSeen.next {fs : List Rf} {i : Nat} {last : List UInt8} (h : rgSeen fs i last) (hi : i < fs.length) (h1 : rfOk fs[i] = true) (h2 : ltB last fs[i].1 = true) : rgSeen fs (i + 1) fs[i].1 := by
  refine ⟨?_, fun e => absurd e (by omega), fun _ => rfl⟩
  rw [h.here hi, h1, h2]
  rfl
theorem rgSeen.done {fs : List Rf} {i : Nat} {last : List UInt8} (h : rgSeen fs i last) (hi : fs.length ≤ i) : rgFrom [] fs = true := by
  rw [h.1, List.drop_eq_nil_of_le hi]
  rfl
theorem ltB_nil' {s : List UInt8} (h : s ≠ []) : ltB [] s = true := by
  cases s with
  | nil => exact absurd rfl h
  | cons => rfl

/-! ### by name -/
/-- where a name stands or would -/
def lbR (name : List UInt8) (fs : List Rf) : Nat := (fs.takeWhile (fun f => ltB f.1 name)).length
def hasR (name : List UInt8) (fs : List Rf) : Bool := fs.any (fun f => f.1 == name)
/-- what a name stands for: the first -/
def getR (fs : List Rf) (name : List UInt8) : List UInt8 := ((fs.find? (fun f => f.1 == name)).map (·.2)).getD []
def insR (i : Nat) (f : Rf) (fs : List Rf) : List Rf := fs.take i ++ f :: fs.drop i
/-- P8.3 -/
def setR (fs : List Rf) (name old id : List UInt8) : List Rf × Int :=
  if goodR fs = true then
    (if refB name = true ∧ mayB old = true ∧ mayB id = true then
      (if getR fs name = old then
        (if hasR name fs = true then (if id = [] then (fs.eraseIdx (lbR name fs), 0) else (fs.set (lbR name fs) (name, id), 0))
        else if id = [] then (fs, 0) else if 32 ≤ fs.length then ([], 6) else (insR (lbR name fs) (name, id) fs, 0))
      else ([], 9))
    else ([], 2))
  else ([], 3)
end Go.Proofs.YtmmpekdbknclcaaDoor

namespace Go.Proofs.YtmmpekdbknclcaaDoor
set_option maxRecDepth 100000
open Go.RowKit
set_option linter.unusedVariables false
/-- from place i on, with these refs -/
def rpGo (ss : List (List UInt8)) (need : Int) : Nat → List Stp → List Rf → List Rf × Int × Int
  | _, [], fs => (fs, 0, 0)
  | i, s :: r, fs =>
    if stCk ss need i s = 0 then (if (setR fs s.r s.o s.n).2 = 0 then rpGo ss need (i + 1) r (setR fs s.r s.o s.n).1 else ([], (i : Int), (setR fs s.r s.o s.n).2)) else ([], (i : Int), stCk ss need i s)
def rpR (ss : List (List UInt8)) (need : Int) (l : List Stp) : List Rf × Int × Int := if 200 < l.length then ([], 0, 6) else rpGo ss need 0 l []
theorem rpGo_at (ss : List (List UInt8)) (need : Int) (l : List Stp) (i : Nat) (h : i < l.length) (fs : List Rf) :
    rpGo ss need i (l.drop i) fs = if stCk ss need i l[i] = 0 then (if (setR fs l[i].r l[i].o l[i].n).2 = 0 then rpGo ss need (i + 1) (l.drop (i + 1)) (setR fs l[i].r l[i].o l[i].n).1 else ([], (i : Int), (setR fs l[i].r l[i].o l[i].n).2)) else ([], (i : Int), stCk ss need i l[i]) := by
  rw [List.drop_eq_getElem_cons h]
  rfl
/-- no list is longer, no part greater than before by more than what came -/
structure RfSz (k : Nat) (fs : List Rf) : Prop where
  each : ∀ f ∈ fs, f.1.length ≤ k ∧ f.2.length ≤ k
theorem setR_sz {k : Nat} {fs : List Rf} {name old id : List UInt8} (h : RfSz k fs) (hn : name.length ≤ k) (hi : id.length ≤ k) : RfSz k (setR fs name old id).1 ∧ (setR fs name old id).1.length ≤ fs.length + 1 := by
  have hz : RfSz k [] ∧ ([] : List Rf).length ≤ fs.length + 1 := ⟨⟨by simp⟩, by simp⟩
  unfold setR
  split
  · split
    · split
      · split
        · split
          · refine ⟨⟨fun f hf => h.each f (List.mem_of_mem_eraseIdx hf)⟩, ?_⟩
            have := List.length_eraseIdx_le fs (lbR name fs)
            simp only; omega
          · refine ⟨⟨fun f hf => ?_⟩, by simp⟩
            rcases List.mem_or_eq_of_mem_set hf with hf | rfl
            · exact h.each f hf
            · exact ⟨hn, hi⟩
        · split
          · exact ⟨h, by simp⟩
          · split
            · exact hz
            · refine ⟨⟨fun f hf => ?_⟩, ?_⟩
              · simp only [insR] at hf
                rcases List.mem_append.1 hf with hf | hf
                · exact h.each f (List.mem_of_mem_take hf)
                · rcases List.mem_cons.1 hf with rfl | hf
                  · exact ⟨hn, hi⟩
                  · exact h.each f (List.mem_of_mem_drop hf)
              · simp only [insR, List.length_append, List.length_take, List.length_cons, List.length_drop]
                omega
      · exact hz
    · exact hz
  · exact hz
theorem setR_len (fs : List Rf) (name old id : List UInt8) : (setR fs name old id).1.length ≤ fs.length + 1 := by
  unfold setR
  split
  · split
    · split
      · split
        · split
          · have := List.length_eraseIdx_le fs (lbR name fs)
            simp only; omega
          · simp
        · split
          · simp
          · split
            · simp
            · simp only [insR, List.length_append, List.length_take, List.length_cons, List.length_drop]
              omega
      · simp
    · simp
  · simp
theorem rpGo_len (ss : List (List UInt8)) (need : Int) : ∀ (l : List Stp) (i : Nat) (fs : List Rf), (rpGo ss need i l fs).1.length ≤ fs.length + l.length
  | [], i, fs => by simp [rpGo]
  | s :: r, i, fs => by
    rw [rpGo]
    split
    · split
      · have h1 := rpGo_len ss need r (i + 1) (setR fs s.r s.o s.n).1
        have h2 := setR_len fs s.r s.o s.n
        simp only [List.length_cons]; omega
      · simp
    · simp
theorem rpR_len (ss : List (List UInt8)) (need : Int) (l : List Stp) : (rpR ss need l).1.length ≤ 200 := by
  unfold rpR
  split
  · simp
  · have := rpGo_len ss need l 0 []
    simp only [List.length_nil] at this
    omega
end Go.Proofs.YtmmpekdbknclcaaDoor

namespace Go.Proofs.YtmmpekdbknclcaaDoor
set_option maxRecDepth 100000
open Go.RowKit
set_option linter.unusedVariables false
theorem own_lowO {w : World} {B B' e size n : Nat} {v : Value} {xs : List Value} (h : w.ownsRow B e size v n xs) (hle : B' ≤ B) : w.ownsRow B' e size v n xs := by
  refine ⟨h.1, ?_⟩
  rcases h.2 with h0 | ⟨g, cap, cur, hv, hB, r⟩
  · exact .inl h0
  · exact .inr ⟨g, cap, cur, hv, Nat.le_trans hle hB, r⟩
theorem wpList_append_rowO {ops : Array Oper} {rest : List Oper} {o : Oper} {a : Act} {Q : Exit → Act → World → Prop} {t e : TypeId} {z : Value} {size bytes : Nat} (E : ElemOk t e z size bytes) (hgd : o.guard = none) (s x : Operand)
    (ho : o.op = .call { callee := .builtin .append, args := #[s, x], argTypes := #[t, t] }) {B : Nat} {w : World}
    {A0 : Option Addr} {n0 cap0 : Nat} {xs : List Value} (hs : a.eval s = .slice A0 n0 cap0) (hown : w.ownsRow B e size (.slice A0 n0 cap0) n0 xs)
    {A : Option Addr} {n c : Nat} {vs : List Value} (hx : a.eval x = .slice A n c) (hrow : Row w size A n vs) (hA : A = none → n = 0 ∧ c = 0) (h1 : ∀ u ∈ vs, u.oneCell' = true)
    (hbytes : (n0 + n) * bytes ≤ 140737488355328) (h63 : n0 + n ≤ maxLen) (hB : B ≤ w.heap.size)
    (h : ∀ A' cap' w', w'.ownsRow B e size (.slice A' (n0 + n) cap') (n0 + n) (xs ++ vs) → w.grownBy w' (Value.ownBlock (.slice A0 n0 cap0)) → wpList Tryd.prog ops Q rest (a.put o.dst (.slice A' (n0 + n) cap')) w') : wpList Tryd.prog ops Q (o :: rest) a w :=
  wpList_plain hgd fun _ hK => wp_append_row E s x ho hs hown hx hrow hA h1 hbytes h63 hB fun A' cap' w' h2 h3 => hK _ _ (h A' cap' w' h2 h3)
set_option maxHeartbeats 8000000 in
theorem copyStepO_any (s : Stp) (A : Option Addr) (c : Nat) (B : Option Addr) (d : Nat) (w : World) (hR : StR w s A c B d) (hz : StSz 1099511627776 s) :
    Calls Tryd.prog 13 #[.agg (stepA s A c B d)] w fun e w' => ∃ A' c' B' d', e = .returned (.agg (stepA s A' c' B' d')) ∧ w'.ownsRow w.heap.size 3 1 (.slice A' s.who.length c') s.who.length (s.who.map iV) ∧ w'.ownsRow w.heap.size 9 1 (.slice B' s.seals.length d') s.seals.length (s.seals.map strV) ∧ Gr w w' := by
  have hwl := hz.who
  have hsl := hz.seals
  have hb1 : (0 + s.who.length) * 8 ≤ 140737488355328 := by omega
  have hb2 : 0 + s.who.length ≤ maxLen := by unfold maxLen; omega
  have hb3 : (0 + s.seals.length) * 16 ≤ 140737488355328 := by omega
  have hb4 : 0 + s.seals.length ≤ maxLen := by unfold maxLen; omega
  obtain ⟨wa, hwa⟩ : ∃ x, x = (w.alloc (.cells (stepA s A c B d) 37)).alloc (.cells #[.string (bs []), .string (bs []), .string (bs []), .slice none 0 0, .slice none 0 0] 37) := ⟨_, rfl⟩
  have hb : Blk wa w.heap.size 37 (stepA s A c B d) := by rw [hwa]; exact (Blk.new w _ _).alloc _
  have hr : Blk wa (w.heap.size + 1) 37 #[.string (bs []), .string (bs []), .string (bs []), .slice none 0 0, .slice none 0 0] := by rw [hwa]; exact Blk.new1 w _ _ _
  have hg0 : Gr w wa := by rw [hwa]; exact ((Gr.refl w).alloc _).alloc _
  obtain ⟨p, hp⟩ : ∃ p, p = w.heap.size := ⟨_, rfl⟩
  rw [← hp] at hb hr
  have hwp : w.heap.size ≤ p := by omega
  have HB := sec hb
  have HRR := sec hr
  have HRW := sec (hR.gr hg0)
  have HSK : Sec (∀ w', Gr wa w' → w'.cell? ⟨p, 3, none⟩ = some (.slice A s.who.length c) ∧ w'.cell? ⟨p, 4, none⟩ = some (.slice B s.seals.length d) ∧ w'.frozen? ⟨p, 3, none⟩ = false ∧ w'.frozen? ⟨p, 4, none⟩ = false) := sec (fun w' g => ⟨(hb.gr g).cell 3, (hb.gr g).cell 4, (hb.gr g).frozen 3, (hb.gr g).frozen 4⟩)
  have HSZ : Sec (∀ w', Gr wa w' → p + 1 < w'.heap.size) := sec (fun w' g => (hr.gr g).lt)
  clear hb hr hR hz
  unfold stepA at hwa
  unfold stepA
  go_enter Tryd.func13, Tryd.ntmps13
  go_upto_region 1 with fail
  rw [← hwa, ← hp]
  clear hwa hp
  have gd : Gr wa wa.drew := (Gr.refl _).drew
  obtain ⟨a0, a1, a2, a3⟩ := HSK.out wa (Gr.refl _)
  go_region_law (first
    | (refine step_append_row E.ints rfl (.const (.slice none 0 0)) (.tmp 4) rfl (B := p + 1 + 1) rfl (World.ownsRow_nil _ _ _ _) rfl (Row.gr HRW.out.who (by first | with_reducible assumption)) HRW.out.wn iV_one hb1 hb2 (HSZ.out _ (by first | with_reducible assumption)) ?_; intro A1 k1 x1 o1 h1; have G1 : Gr wa x1 := Gr.grown (by first | with_reducible assumption) h1 (by rintro k hk; cases hk); obtain ⟨m0, m1, m2, m3⟩ := HSK.out x1 G1)
    | (refine step_append_row E.str rfl (.const (.slice none 0 0)) (.tmp 7) rfl (B := p + 1 + 1) rfl (World.ownsRow_nil _ _ _ _) rfl (Row.gr HRW.out.seals (by first | with_reducible assumption)) HRW.out.sn sV_one hb3 hb4 (HSZ.out _ (by first | with_reducible assumption)) ?_; intro A2 k2 x2 o2 h2; have G2 : Gr wa x2 := Gr.grown (by first | with_reducible assumption) h2 (by rintro k hk; cases hk); obtain ⟨n0, n1, n2, n3⟩ := HSK.out x2 G2))
  all_goals
    rw [Nat.zero_add, List.nil_append] at o1 o2
    have g12 : Gr x1 x2 := Gr.grown (Gr.refl _) h2 (by rintro k hk; cases hk)
    have o3 := own_gr o1 g12
    have f1 : ∀ {e n cap : Nat} {X : Option Addr} {xs : List Value}, x2.ownsRow (p + 1 + 1) e 1 (.slice X n cap) n xs → ((x2.setCell ⟨p, 3, none⟩ (.slice A1 s.who.length k1)).setCell ⟨p, 4, none⟩ (.slice A2 s.seals.length k2)).ownsRow (p + 1 + 1) e 1 (.slice X n cap) n xs := fun h =>
      ownsRow_setCell_other (ownsRow_setCell_other h (a := ⟨p, 3, none⟩) (fun e => by have := (h.lt p e).1; omega) _) (a := ⟨p, 4, none⟩) (fun e => by have := (h.lt p e).1; omega) _
    have q1 := f1 o3
    have q2 := f1 o2
    have BX : Blk ((x2.setCell ⟨p, 3, none⟩ (.slice A1 s.who.length k1)).setCell ⟨p, 4, none⟩ (.slice A2 s.seals.length k2)) p 37 (stepA s A1 k1 A2 k2) := ((HB.out.gr G2).set_ 3 _).set_ 4 _
    have ZX := ((HRR.out.gr G2).far (p := ⟨p, 3, none⟩) (by show p + 1 ≠ p; omega) (.slice A1 s.who.length k1)).far (p := ⟨p, 4, none⟩) (by show p + 1 ≠ p; omega) (.slice A2 s.seals.length k2)
    have GX := ((hg0.trans G2).setCell (p := ⟨p, 3, none⟩) hwp (.slice A1 s.who.length k1)).setCell (p := ⟨p, 4, none⟩) hwp (.slice A2 s.seals.length k2)
    clear m0 m1 m2 m3 n0 n1 n2 n3 a0 a1 a2 a3 f1 o1 o2 o3
    go_wp2_with (first
      | (refine wpList_load_blk rfl 37 (.tmp 1) rfl (g := p) rfl BX aggStep ?_)
      | (refine wpList_store_blk rfl 37 (.tmp 2) (.tmp 11) rfl (g := p + 1) (cs' := stepA s A1 k1 A2 k2) rfl rfl ZX aggStep rfl (stepA_one _ _ _ _ _) ?_; intro w9 h9 hg9))
    refine bodyPost_ret (results_blk rfl _ rfl h9 aggStep) rfl ?_
    exact ⟨A1, k1, A2, k2, rfl, own_lowO (own_only q1 ZX (by decide) hg9) (by omega), own_lowO (own_only q2 ZX (by decide) hg9) (by omega), Gr.only GX hg9 (by omega)⟩
end Go.Proofs.YtmmpekdbknclcaaDoor

namespace Go.Proofs.YtmmpekdbknclcaaDoor
set_option maxRecDepth 100000
open Go.RowKit
set_option linter.unusedVariables false
/-- a step and where its two rows lie -/
structure SA where
  s : Stp
  A : Option Addr
  c : Nat
  B : Option Addr
  d : Nat
def stpV (e : SA) : List Value := [.string (bs e.s.r), .string (bs e.s.o), .string (bs e.s.n), .slice e.A e.s.who.length e.c, .slice e.B e.s.seals.length e.d]
theorem E.stp : ElemOk 25 37 (.agg #[.string (bs []), .string (bs []), .string (bs []), .slice none 0 0, .slice none 0 0]) 5 96 := ⟨Tryd.underlying25, by kernel_rfl, rfl, by omega⟩
structure StsR (w : World) (A : Option Addr) (n : Nat) (es : List SA) : Prop where
  row : Row w 5 A n (es.flatMap stpV)
  each : ∀ e ∈ es, StR w e.s e.A e.c e.B e.d
theorem StsR.gr {w w' : World} {A : Option Addr} {n : Nat} {es : List SA} (h : StsR w A n es) (g : Gr w w') : StsR w' A n es := ⟨h.row.gr g, fun e he => (h.each e he).gr g⟩
theorem StsR.len {w : World} {A : Option Addr} {n : Nat} {es : List SA} (h : StsR w A n es) : es.length = n := Row.flen stpV (fun _ => rfl) (by omega) h.row
theorem StsR.cell {w : World} {A : Option Addr} {n : Nat} {es : List SA} (h : StsR w A n es) {i : Nat} (hi : i < es.length) :
    ∃ b off, A = some ⟨b, off, none⟩ ∧ w.cell? ⟨b, off + i * 5, none⟩ = some (.string (bs es[i].s.r)) ∧ w.cell? ⟨b, off + i * 5 + 1, none⟩ = some (.string (bs es[i].s.o)) ∧ w.cell? ⟨b, off + i * 5 + 2, none⟩ = some (.string (bs es[i].s.n)) ∧
      w.cell? ⟨b, off + i * 5 + 3, none⟩ = some (.slice es[i].A es[i].s.who.length es[i].c) ∧ w.cell? ⟨b, off + i * 5 + 4, none⟩ = some (.slice es[i].B es[i].s.seals.length es[i].d) := by
  obtain ⟨b, off, e, _, hc⟩ := Row.fcell stpV (fun _ => rfl) (by omega) h.row hi
  exact ⟨b, off, e, hc 0 _ rfl, hc 1 _ rfl, hc 2 _ rfl, hc 3 _ rfl, hc 4 _ rfl⟩
theorem stpV_one1 (e : SA) : ∀ u ∈ stpV e, u.oneCell' = true := by
  intro u h
  simp only [stpV, List.mem_cons, List.not_mem_nil, or_false] at h
  rcases h with rfl | rfl | rfl | rfl | rfl <;> rfl
theorem row_stp {W : World} {g : Nat} {e : SA} (h : Blk W g 37 (stepA e.s e.A e.c e.B e.d)) : Row W 5 (some ⟨g, 0, none⟩) 1 (stpV e) := by
  refine ⟨rfl, fun _ => ⟨g, 0, rfl, fun i v hi => ?_⟩⟩
  have := h.cell i
  rw [Nat.zero_add, this]
  simpa [stepA, stpV] using hi
theorem own_nil5 {w : World} {k e size n cap : Nat} {A : Option Addr} {xs : List Value} (h : w.ownsRow k e size (.slice A n cap) n xs) : A = none → n = 0 ∧ cap = 0 := by
  intro e
  rcases h.2 with ⟨h, h0⟩ | ⟨g, _, _, h, _⟩
  · injection h with _ h2 h3
    exact ⟨h0, h3⟩
  · injection h with h2 _ _
    rw [e] at h2; cases h2
theorem own_cap5 {w : World} {k e size n cap : Nat} {A : Option Addr} {xs : List Value} (h : w.ownsRow k e size (.slice A n cap) n xs) : n ≤ cap := by
  rcases h.2 with ⟨h, h0⟩ | ⟨g, cap', cur, h, _, _, hle, _⟩
  · omega
  · injection h with _ _ h3
    subst h3
    exact hle
/-- both rows are the call's own -/
structure StO (b : Nat) (w : World) (e : SA) : Prop where
  who : w.ownsRow b 3 1 (.slice e.A e.s.who.length e.c) e.s.who.length (e.s.who.map iV)
  seals : w.ownsRow b 9 1 (.slice e.B e.s.seals.length e.d) e.s.seals.length (e.s.seals.map strV)
theorem StO.str {b : Nat} {w : World} {e : SA} (h : StO b w e) : StR w e.s e.A e.c e.B e.d := ⟨Row.own h.who, Row.own h.seals, own_nil h.who, own_nil h.seals, own_cap h.who, own_cap h.seals⟩
theorem StO.gr {b : Nat} {w w' : World} {e : SA} (h : StO b w e) (g : Gr w w') : StO b w' e := ⟨own_gr h.who g, own_gr h.seals g⟩
theorem StO.app {b k : Nat} {w w' : World} {e : SA} {size n : Nat} {v : Value} {xs : List Value} (h : StO b w e) (ho : w.ownsRow k 37 size v n xs) (g : w.grownBy w' v.ownBlock) : StO b w' e := ⟨own_other h.who ho (by decide) g, own_other h.seals ho (by decide) g⟩
theorem StO.low {b b' : Nat} {w : World} {e : SA} (h : StO b w e) (hb : b' ≤ b) : StO b' w e := ⟨own_lowO h.who hb, own_lowO h.seals hb⟩
/-- the same steps, wherever their rows lie -/
def Sames (es es' : List SA) : Prop := es'.map (·.s) = es.map (·.s)

set_option maxHeartbeats 8000000 in
theorem copySteps_any (es : List SA) (A : Option Addr) (c : Nat) (w : World) (hx : StsR w A es.length es) (hn : es.length ≤ 1099511627776) (hz : ∀ e ∈ es, StSz 1099511627776 e.s) :
    Calls Tryd.prog 6 #[.slice A es.length c] w fun e w' => ∃ A' c' es', e = .returned (.slice A' es.length c') ∧ Sames es es' ∧ StsR w' A' es.length es' ∧ (∀ e ∈ es', StO w.heap.size w' e) ∧ (A' = none → es.length = 0 ∧ c' = 0) ∧ es.length ≤ c' ∧ Gr w w' := by
  have HX := sec hx
  have HC : Sec (∀ i (h : i < es.length) W, Gr w W → Calls Tryd.prog 13 #[.agg (stepA es[i].s es[i].A es[i].c es[i].B es[i].d)] W fun e w' => ∃ A' c' B' d', e = .returned (.agg (stepA es[i].s A' c' B' d')) ∧ StO w.heap.size w' ⟨es[i].s, A', c', B', d'⟩ ∧ Gr W w') := sec (fun i h W g =>
    (copyStepO_any es[i].s es[i].A es[i].c es[i].B es[i].d W ((hx.each _ (List.getElem_mem h)).gr g) (hz _ (List.getElem_mem h))).mono fun e w'' ⟨A', c', B', d', he, h1, h2, h3⟩ => ⟨A', c', B', d', he, StO.low ⟨h1, h2⟩ g.size, h3⟩)
  obtain ⟨N, hN⟩ : ∃ N, N = es.length := ⟨_, rfl⟩
  have HN := sec hN
  rw [← hN] at hn HX
  rw [← hN]
  clear hx hz hN
  go_enter Tryd.func6, Tryd.ntmps6
  go_wp2_with fail
  go_loopg [8, 3, 5] N (fun fuel iv ov _ wr => ∃ (i : Nat) (A0 : Option Addr) (c0 : Nat) (es' : List SA), iv = .int .i64 (i : Int) ∧ ov = .slice A0 i c0 ∧ N ≤ i + fuel ∧ i ≤ N ∧ Sec (es'.map (·.s) = (es.take i).map (·.s)) ∧
    Sec (wr.ownsRow w.heap.size 37 5 (.slice A0 i c0) i (es'.flatMap stpV)) ∧ Sec (∀ e ∈ es', StO w.heap.size wr e) ∧ Sec (Gr w wr))
  case atStart => exact ⟨0, none, 0, [], rfl, rfl, by omega, by omega, sec rfl, sec (World.ownsRow_nil _ _ _ _), sec (by simp), sec (Gr.refl _)⟩
  case round =>
    obtain ⟨i, A0, c0, es', rfl, rfl, hik, hi, HS, HO, HE, HG⟩ := hrel
    by_cases hlt : i < N
    · have hii : (i : Int) < (N : Int) := by omega
      have hlt' : i < es.length := by rw [← HN.out]; exact hlt
      obtain ⟨b, off, rfl, e0, e1, e2, e3, e4⟩ := (HX.out.gr HG.out).cell hlt'
      obtain ⟨E0, hE0⟩ : ∃ E, E = es[i] := ⟨_, rfl⟩
      have HCi := sec (HC.out i hlt')
      have HN1 : Sec (∀ x : Stp, x = es[i].s → (es'.map (·.s) ++ [x]) = (es.take (i + 1)).map (·.s)) := sec (fun x hx => by rw [List.take_succ_eq_append_getElem hlt', List.map_append, HS.out, hx]; rfl)
      rw [← hE0] at HCi HN1 e0 e1 e2 e3 e4
      clear hE0 hlt'
      obtain ⟨⟨r, o, n, who, seals⟩, A1, c1, B1, d1⟩ := E0
      simp only at e0 e1 e2 e3 e4 HN1
      simp only [stepA] at HCi
      have hbb : (i + 1) * 96 ≤ 140737488355328 := by omega
      have hmm : i + 1 ≤ maxLen := by unfold maxLen; omega
      have hsz : w.heap.size ≤ wr.heap.size := HG.out.size
      have HLT := sec hlt
      clear hlt
      go_wp2_with (first
        | (go_at_call 13; (with_reducible refine Calls.mono (HCi.out _ (HG.out.alloc _)) ?_); rintro e w1 ⟨A', c', B', d', rfl, o1, g1⟩; have G1 := (HG.out.alloc (.cells #[.string (bs r), .string (bs o), .string (bs n), .slice A1 who.length c1, .slice B1 seals.length d1] 37)).trans g1; have HO1 := own_gr HO.out (((Gr.refl wr).alloc (.cells #[.string (bs r), .string (bs o), .string (bs n), .slice A1 who.length c1, .slice B1 seals.length d1] 37)).trans g1); have GG1 := ((Gr.refl wr).alloc (.cells #[.string (bs r), .string (bs o), .string (bs n), .slice A1 who.length c1, .slice B1 seals.length d1] 37)).trans g1)
        | (at_builtin; refine wpList_append_rowO E.stp rfl (.tmp 12) (.tmp 15) rfl (B := w.heap.size) (A0 := A0) (n0 := i) (cap0 := c0) (xs := es'.flatMap stpV) rfl (own_gr HO1 ((Gr.refl _).alloc _)) rfl (row_stp (e := ⟨⟨r, o, n, who, seals⟩, A', c', B', d'⟩) (Blk.new _ _ _)) (fun h => by cases h) (stpV_one1 _) hbb hmm (G1.alloc _).size ?_; intro A2 c2 w2 o2 h2))
      have hal := (Gr.refl w1).alloc (.cells (stepA ⟨r, o, n, who, seals⟩ A' c' B' d') 37)
      have HO2 := own_gr HO1 hal
      go_roundg (gk - 1)
      case rel =>
        refine ⟨i + 1, A2, c2, es' ++ [⟨⟨r, o, n, who, seals⟩, A', c', B', d'⟩], by go_num, rfl, by omega, HLT.out, sec ?_, sec ?_, sec (fun e he => ?_), sec ?_⟩
        · rw [List.map_append]; exact HN1.out _ rfl
        · rw [List.flatMap_append]; simpa using o2
        · rcases List.mem_append.1 he with he | he
          · exact (((HE.out e he).gr GG1).gr hal).app HO2 h2
          · rw [List.mem_singleton] at he; subst he
            exact (o1.gr hal).app HO2 h2
        · exact (G1.trans hal).grown h2 (fun k hk => (HO2.lt k hk).1)
      case measure => have := HLT.out; omega
    · have q1 : decide (i < N) = false := decide_eq_false hlt
      have HI : Sec (i = N) := sec (by omega)
      clear hlt
      go_wp2_with fail
      go_ret
      obtain rfl := HI.out
      have hfin : es'.map (·.s) = es.map (·.s) := by rw [HS.out, HN.out, List.take_length]
      exact ⟨A0, c0, rfl, es', hfin, ⟨Row.own HO.out, fun e he => (HE.out e he).str⟩, HE.out, own_nil5 HO.out, own_cap5 HO.out, HG.out⟩
end Go.Proofs.YtmmpekdbknclcaaDoor

namespace Go.Proofs.YtmmpekdbknclcaaDoor
open Go.RowKit
set_option linter.unusedVariables false
abbrev SortedR (fs : List Rf) : Prop := fs.Pairwise (fun f g => ltB f.1 g.1 = true)
theorem lbR_of (name : List UInt8) : ∀ (fs : List Rf) (i : Nat), i ≤ fs.length → (∀ m (hm : m < fs.length), m < i → ltB fs[m].1 name = true) → (∀ hm : i < fs.length, ltB fs[i].1 name = false) → lbR name fs = i
  | [], i, hi, _, _ => by
    have : i = 0 := by simpa using hi
    subst this; rfl
  | f :: r, 0, hi, _, h2 => by
    have := h2 (by simp)
    simp only [List.getElem_cons_zero] at this
    unfold lbR
    rw [List.takeWhile_cons, this]; rfl
  | f :: r, i + 1, hi, h1, h2 => by
    have h0 := h1 0 (by simp) (by omega)
    simp only [List.getElem_cons_zero] at h0
    have ih := lbR_of name r i (by simpa using hi) (fun m hm hl => by have := h1 (m + 1) (by simp; omega) (by omega); simpa using this)
      (fun hm => by have := h2 (by simp; omega); simpa using this)
    unfold lbR at ih ⊢
    rw [List.takeWhile_cons, h0]
    simp [ih]
theorem SortedR.get {fs : List Rf} (h : SortedR fs) {i j : Nat} (hj : j < fs.length) (hij : i < j) : ltB (fs[i]'(by omega)).1 fs[j].1 = true :=
  List.pairwise_iff_getElem.1 h i j (by omega) hj hij
theorem SortedR.below {fs : List Rf} (h : SortedR fs) {name : List UInt8} {i j : Nat} (hj : j < fs.length) (hij : i ≤ j) (hl : ltB fs[j].1 name = true) : ltB (fs[i]'(by omega)).1 name = true := by
  rcases Nat.lt_or_eq_of_le hij with h1 | rfl
  · exact ltB_trans _ _ _ (h.get hj h1) hl
  · exact hl
theorem SortedR.above {fs : List Rf} (h : SortedR fs) {name : List UInt8} {i j : Nat} (hj : j < fs.length) (hij : i ≤ j) (hl : ltB (fs[i]'(by omega)).1 name = false) : ltB fs[j].1 name = false := by
  cases h2 : ltB fs[j].1 name with
  | false => rfl
  | true => rw [h.below hj hij h2] at hl; cases hl
/-- the name is there iff it stands at the place -/
theorem hasr_of {fs : List Rf} (h : SortedR fs) {name : List UInt8} {i : Nat} (h1 : ∀ m (hm : m < fs.length), m < i → ltB fs[m].1 name = true) (hi : i < fs.length) (h2 : ltB fs[i].1 name = false) :
    hasR name fs = (fs[i].1 == name) := by
  unfold hasR
  cases he : fs[i].1 == name with
  | true => exact List.any_eq_true.2 ⟨fs[i], List.getElem_mem hi, he⟩
  | false =>
    refine List.any_eq_false.2 fun f hf => ?_
    obtain ⟨m, hm, rfl⟩ := List.getElem_of_mem hf
    intro hmn
    have hmn : fs[m].1 = name := by simpa using hmn
    rcases Nat.lt_trichotomy m i with h3 | rfl | h3
    · have := h1 m hm h3
      rw [hmn, ltB_irr] at this; cases this
    · rw [hmn] at he; simp at he
    · have := h.get hm h3
      rw [hmn, h2] at this; cases this
theorem hasr_of_end {fs : List Rf} {name : List UInt8} {i : Nat} (h1 : ∀ m (hm : m < fs.length), m < i → ltB fs[m].1 name = true) (hi : fs.length ≤ i) : hasR name fs = false := by
  unfold hasR
  refine List.any_eq_false.2 fun f hf => ?_
  obtain ⟨m, hm, rfl⟩ := List.getElem_of_mem hf
  intro hmn
  have hmn : fs[m].1 = name := by simpa using hmn
  have := h1 m hm (by omega)
  rw [hmn, ltB_irr] at this; cases this
theorem hasR_lt {fs : List Rf} {name : List UInt8} (h : SortedR fs) (hh : hasR name fs = true) : ∃ hi : lbR name fs < fs.length, fs[lbR name fs].1 = name := by
  obtain ⟨f, hf, hn⟩ := List.any_eq_true.1 hh
  obtain ⟨m, hm, rfl⟩ := List.getElem_of_mem hf
  have hmn : fs[m].1 = name := by simpa using hn
  have : lbR name fs = m := lbR_of name fs m (by omega) (fun k hk hl => by rw [← hmn]; exact h.get hm hl) (fun _ => by rw [hmn]; exact ltB_irr _)
  refine ⟨by omega, ?_⟩
  simp only [this]; exact hmn

def cmpR (a b : List UInt8) : Int := Lib.compareBytes a b

set_option maxRecDepth 100000 in
set_option maxHeartbeats 1000000 in
theorem rfindCl_any (nm sf name : List UInt8) (w : World) :
    Calls Tryd.prog 42 #[.agg #[.string (bs nm), .string (bs sf)], .string (bs name)] w fun e w' => e = .returned (.int .i64 (cmpR nm name)) ∧ Gr w w' := by
  go_enter Tryd.func42, Tryd.ntmps42
  go_wp2_with (go_at_call 43; refine Calls.mono (compare_any nm name _) ?_; rintro e w1 ⟨rfl, rfl⟩)
  go_ret
  exact ⟨rfl, (Gr.refl w).alloc _⟩

set_option maxRecDepth 100000 in
set_option maxHeartbeats 4000000 in
theorem rbsearch_any (fs : List Rf) (name : List UInt8) (A : Option Addr) (n cap : Nat) (w : World) (hn : n ≤ 1099511627776) (hx : RfRow w A n fs) (hso : SortedR fs) :
    Calls Tryd.prog 41 #[.slice A n cap, .string (bs name), .func (.func 42) #[] #[]] w
      fun e w' => e = .returned (.tuple #[.int .i64 (lbR name fs : Int), .bool (hasR name fs)]) ∧ Gr w w' := by
  have hl := hx.len
  have HX := sec hx
  have HS := sec hso
  have eg : ∀ args w, (callFunc 42 args).run Tryd.prog w = .ok (.enter 42 args) w := enters_own Tryd.func42 (by kernel_rfl) rfl
  clear hx hso
  go_enter Tryd.func41, Tryd.ntmps41
  go_wp2_with fail
  go_loopw [9, 10, 11] (fun iv jv _ wr => ∃ i j : Nat, iv = .int .i64 (i : Int) ∧ jv = .int .i64 (j : Int) ∧ i ≤ j ∧ j ≤ n ∧ Sec (∀ m (hm : m < fs.length), m < i → ltB fs[m].1 name = true) ∧ Sec (∀ m (hm : m < fs.length), j ≤ m → ltB fs[m].1 name = false) ∧ Gr w wr)
    (fun iv jv _ _ => (intOf jv).toNat - (intOf iv).toNat)
  case atStart => exact ⟨0, n, rfl, rfl, by omega, by omega, sec (fun m hm h => by omega), sec (fun m hm h => by omega), Gr.refl _⟩
  case round =>
    obtain ⟨i, j, rfl, rfl, hij, hj, H1, H2, hg⟩ := hrel
    by_cases hlt : i < j
    · have hii : (i : Int) < (j : Int) := by omega
      obtain ⟨h, hh⟩ : ∃ h, h = (i + j) / 2 := ⟨_, rfl⟩
      have q1 : ((i : Int) + (j : Int)) / 2 = (h : Int) := by omega
      have hih : i ≤ h := by omega
      have hhj : h < j := by omega
      have hhn : (h : Int) < (n : Int) := by omega
      have hhf : h < fs.length := by omega
      obtain ⟨b, off, rfl, e0, e1⟩ := (HX.out.gr hg).cell hhf
      have HH : Sec (fs[h] = fs[h]) := sec rfl
      have HLT : Sec (ltB fs[h].1 name = true → ∀ m (hm : m < fs.length), m < h + 1 → ltB fs[m].1 name = true) := sec (fun hb m hm hl => HS.out.below hhf (by omega) hb)
      have HGE : Sec (ltB fs[h].1 name = false → ∀ m (hm : m < fs.length), h ≤ m → ltB fs[m].1 name = false) := sec (fun hb m hm hl => HS.out.above hm hl hb)
      obtain ⟨x, hxx⟩ : ∃ x, x = fs[h] := ⟨_, rfl⟩
      rw [← hxx] at e0 e1 HLT HGE
      clear hxx HH hh hhf
      obtain ⟨nm, sf⟩ := x
      simp only at e0 e1 HLT HGE
      have HC := sec (fun w => rfindCl_any nm sf name w)
      have hcm := (cmp_lt nm name).1
      cases hb : ltB nm name with
      | true =>
        have q2 : cmpR nm name < 0 := hcm.2 hb
        have H1' := sec (HLT.out hb)
        clear HLT HGE hcm hb
        go_wp2_with (refine Calls.mono (HC.out _) ?_; rintro e w1 ⟨rfl, g1⟩)
        go_roundw
        case rel => exact ⟨h + 1, j, by go_num, rfl, by omega, by omega, H1', H2, hg.trans g1⟩
        case measure => simp [intOf]; omega
      | false =>
        have q2 : ¬ cmpR nm name < 0 := fun h => by rw [hcm.1 h] at hb; cases hb
        have H2' := sec (HGE.out hb)
        clear HLT HGE hcm hb
        go_wp2_with (refine Calls.mono (HC.out _) ?_; rintro e w1 ⟨rfl, g1⟩)
        go_roundw
        case rel => exact ⟨i, h, rfl, by go_num, by omega, by omega, H1, H2', hg.trans g1⟩
        case measure => simp [intOf]; omega
    · obtain rfl : i = j := by omega
      by_cases hin : i < n
      · have hif : i < fs.length := by omega
        have hii : (i : Int) < (n : Int) := by omega
        have HL : Sec (lbR name fs = i) := sec (lbR_of name fs i (by omega) H1.out (fun h => H2.out i h (Nat.le_refl _)))
        have HE : Sec (hasR name fs = (fs[i].1 == name)) := sec (hasr_of HS.out H1.out hif (H2.out i hif (Nat.le_refl _)))
        obtain ⟨b, off, rfl, e0, e1⟩ := (HX.out.gr hg).cell hif
        obtain ⟨x, hxx⟩ : ∃ x, x = fs[i] := ⟨_, rfl⟩
        rw [← hxx] at e0 e1 HE
        clear hxx hif hlt
        obtain ⟨nm, sf⟩ := x
        simp only at e0 e1 HE
        have HC := sec (fun w => rfindCl_any nm sf name w)
        have hcm := (cmp_lt nm name).2
        cases hb : nm == name with
        | true =>
          have q2 : cmpR nm name = 0 := hcm.2 (by simpa using hb)
          rw [hb] at HE
          clear hcm hb
          go_wp2_with (refine Calls.mono (HC.out _) ?_; rintro e w1 ⟨rfl, g1⟩)
          go_ret2
          exact ⟨by rw [HL.out, HE.out]; rfl, hg.trans g1⟩
        | false =>
          have q2 : (cmpR nm name == 0) = false := beq_eq_false_iff_ne.2 (fun h => by rw [hcm.1 h] at hb; simp at hb)
          rw [hb] at HE
          clear hcm hb
          go_wp2_with (refine Calls.mono (HC.out _) ?_; rintro e w1 ⟨rfl, g1⟩)
          go_ret2
          exact ⟨by rw [HL.out, HE.out]; rfl, hg.trans g1⟩
      · obtain rfl : i = n := by omega
        have HL : Sec (lbR name fs = i) := sec (lbR_of name fs i (by omega) H1.out (fun h => by omega))
        have HE : Sec (hasR name fs = false) := sec (hasr_of_end H1.out (by omega))
        clear hlt hin hj
        go_wp2_with fail
        go_ret2
        exact ⟨by rw [HL.out, HE.out]; rfl, hg⟩

set_option maxRecDepth 100000 in
set_option maxHeartbeats 2000000 in
theorem rfind_any (fs : List Rf) (name : List UInt8) (A : Option Addr) (n cap : Nat) (w : World) (hn : n ≤ 1099511627776) (hx : RfRow w A n fs) (hso : SortedR fs) :
    Calls Tryd.prog 23 #[.slice A n cap, .string (bs name)] w
      fun e w' => e = .returned (.tuple #[.int .i64 (lbR name fs : Int), .bool (hasR name fs)]) ∧ Gr w w' := by
  have HC := sec (rbsearch_any fs name A n cap w hn hx hso)
  clear hx hso
  go_enter Tryd.func23, Tryd.ntmps23
  go_wp2_with (go_at_call 41; refine Calls.mono HC.out ?_; rintro e w1 ⟨rfl, g1⟩)
  go_ret2
  exact ⟨rfl, g1⟩
theorem getR_has {fs : List Rf} (h : SortedR fs) {name : List UInt8} (hh : hasR name fs = true) : ∃ hi : lbR name fs < fs.length, fs[lbR name fs].1 = name ∧ getR fs name = fs[lbR name fs].2 := by
  obtain ⟨hi, h1⟩ := hasR_lt h hh
  refine ⟨hi, h1, ?_⟩
  have : fs.find? (fun f => f.1 == name) = some fs[lbR name fs] := by
    rw [List.find?_eq_some_iff_getElem]
    refine ⟨by simpa using h1, lbR name fs, hi, rfl, fun j hj => ?_⟩
    have := h.get hi hj
    rw [h1] at this
    simp only [Bool.not_eq_true', beq_eq_false_iff_ne, ne_eq]
    intro e
    rw [e, ltB_irr] at this
    cases this
  unfold getR
  rw [this]
  rfl
theorem getR_no {fs : List Rf} {name : List UInt8} (hh : hasR name fs = false) : getR fs name = [] := by
  have : fs.find? (fun f => f.1 == name) = none := by
    rw [List.find?_eq_none]
    intro f hf
    have := List.any_eq_false.1 hh f hf
    simpa using this
  unfold getR
  rw [this]
  rfl
set_option maxRecDepth 100000 in
set_option maxHeartbeats 2000000 in
theorem rget_any (fs : List Rf) (name : List UInt8) (A : Option Addr) (n cap : Nat) (w : World) (hn : n ≤ 1099511627776) (hx : RfRow w A n fs) (hso : SortedR fs) :
    Calls Tryd.prog 22 #[.slice A n cap, .string (bs name)] w
      fun e w' => e = .returned (.string (bs (getR fs name))) ∧ Gr w w' := by
  have HC := sec (rfind_any fs name A n cap w hn hx hso)
  have hl := hx.len
  have HX := sec hx
  cases hh : hasR name fs with
  | true =>
    obtain ⟨hi, h1, h2⟩ := getR_has hso hh
    rw [hh] at HC
    obtain ⟨k, hk, hkl, HG⟩ : ∃ k, k = lbR name fs ∧ ∃ h : k < fs.length, Sec (getR fs name = fs[k].2) := ⟨_, rfl, hi, sec h2⟩
    rw [← hk] at HC
    clear h2 h1 hi
    clear hk hh hx hso
    obtain ⟨V, hV⟩ : ∃ V, V = getR fs name := ⟨_, rfl⟩
    rw [← hV]
    have hkn : (k : Int) < (n : Int) := by omega
    go_enter Tryd.func22, Tryd.ntmps22
    go_upto_region 2 with (go_at_call 23; refine Calls.mono HC.out ?_; rintro e w1 ⟨rfl, g1⟩)
    obtain ⟨b, off, rfl, e0, e1⟩ := (HX.out.gr g1).cell hkl
    rw [← HG.out, hV.symm] at e1
    clear e0 hV
    clear HG hkl
    go_wp2_with fail
    go_ret
    exact ⟨rfl, g1⟩
  | false =>
    have h2 := sec (getR_no hh)
    rw [hh] at HC
    clear hx hso hh
    go_enter Tryd.func22, Tryd.ntmps22
    go_wp2_with (go_at_call 23; refine Calls.mono HC.out ?_; rintro e w1 ⟨rfl, g1⟩)
    go_ret
    exact ⟨by rw [h2.out]; rfl, g1⟩
end Go.Proofs.YtmmpekdbknclcaaDoor

namespace Go.Proofs.YtmmpekdbknclcaaDoor
open Go.RowKit
set_option linter.unusedVariables false
set_option maxRecDepth 100000 in
set_option maxHeartbeats 1000000 in
theorem maybe_any (l : List UInt8) (w : World) : Calls Tryd.prog 32 #[.string (bs l)] w fun e w' => e = .returned (.bool (mayB l)) ∧ w = w' := by
  by_cases h0 : l.length = 0
  · have q0 : ((l.length : Int) == 0) = true := by rw [beq_iff_eq]; omega
    have HM : Sec (mayB l = true) := sec (by unfold mayB; rw [decide_eq_true h0]; rfl)
    clear h0
    rw [HM.out]
    go_enter Tryd.func32, Tryd.ntmps32
    go_wp2_with fail
    go_ret
    exact ⟨rfl, rfl⟩
  · have q0 : ((l.length : Int) == 0) = false := by rw [beq_eq_false_iff_ne]; omega
    by_cases h1 : l.length = 32
    · have q1 : ((l.length : Int) == 32) = true := by rw [beq_iff_eq]; omega
      have HM : Sec (mayB l = true) := sec (by unfold mayB; rw [decide_eq_true h1]; simp)
      clear h0 h1
      rw [HM.out]
      go_enter Tryd.func32, Tryd.ntmps32
      go_wp2_with fail
      go_ret
      exact ⟨rfl, rfl⟩
    · have q1 : ((l.length : Int) == 32) = false := by rw [beq_eq_false_iff_ne]; omega
      have HM : Sec (mayB l = false) := sec (by unfold mayB; rw [decide_eq_false h0, decide_eq_false h1]; rfl)
      clear h0 h1
      rw [HM.out]
      go_enter Tryd.func32, Tryd.ntmps32
      go_wp2_with fail
      go_ret
      exact ⟨rfl, rfl⟩

/-- the cases of a byte in a ref's name -/
theorem ref_cases (n : Nat) : (n = 47) ∨ (n ≠ 47 ∧ 97 ≤ n ∧ n ≤ 122) ∨ (n ≠ 47 ∧ ¬ 97 ≤ n ∧ 48 ≤ n ∧ n ≤ 57) ∨ (n ≠ 47 ∧ ¬ 97 ≤ n ∧ n = 45) ∨ (n ≠ 47 ∧ ¬ 97 ≤ n ∧ n = 95) ∨ (n ≠ 47 ∧ (97 ≤ n → ¬ n ≤ 122) ∧ (48 ≤ n → ¬ n ≤ 57) ∧ n ≠ 45 ∧ n ≠ 95) := by omega

set_option maxRecDepth 100000 in
set_option maxHeartbeats 4000000 in
theorem refName_any (s : List UInt8) (w : World) (hs : s.length ≤ 1099511627776) :
    Calls Tryd.prog 31 #[.string (bs s)] w fun e w' => e = .returned (.bool (refB s)) ∧ Gr w w' := by
  obtain ⟨w2, cap, hcv, hg2, hB⟩ := conv_brow Tryd.underlying9 Tryd.underlying60 Tryd.underlying5 w (s ++ [47]) (by simp only [List.length_append, List.length_cons, List.length_nil]; unfold maxLen; omega)
  have hcat : ¬ 9223372036854775807 < s.length + 1 := by omega
  obtain ⟨z, hz⟩ : ∃ z, z = s ++ [47] := ⟨_, rfl⟩
  have hzl : z.length = s.length + 1 := by rw [hz]; simp
  have HR : Sec (refB s = (rnGo 0 z && decide (s.length ≤ 60))) := sec (by rw [hz]; rfl)
  simp only [List.length_append, List.length_cons, List.length_nil, Nat.zero_add] at hcv
  rw [← hz] at hB
  have HZL := sec hzl
  clear hz hzl
  go_enter Tryd.func31, Tryd.ntmps31
  go_wp2_with fail
  go_loopw [10, 3, 5, 14, 21, 24] (fun iv pv _ _ _ _ wr => ∃ (i p : Nat), iv = .int .i64 (i : Int) ∧ pv = .int .i64 (p : Int) ∧ i ≤ s.length + 1 ∧ p ≤ i ∧ Sec (rnGo 0 z = rnGo p (z.drop i)) ∧ wr = w2)
    (fun iv _ _ _ _ _ _ => s.length + 1 - (intOf iv).toNat)
  case atStart => exact ⟨0, 0, rfl, rfl, by omega, by omega, sec rfl, rfl⟩
  case round =>
    clear hcv
    obtain ⟨i, p, rfl, rfl, hi, hp, HA, rfl⟩ := hrel
    have hpb : p ≤ 2199023255552 := by omega
    by_cases hlt : i < s.length + 1
    · have hiz : i < z.length := by rw [HZL.out]; exact hlt
      have hli : (i : Int) < (s.length : Int) + 1 := by omega
      have hcl := hB.at_ i (byteV z[i]) (by rw [List.getElem?_map, List.getElem?_eq_getElem hiz]; rfl)
      have hgo := HA.out
      rw [List.drop_eq_getElem_cons hiz, rn_step] at hgo
      obtain ⟨c, hc⟩ : ∃ c, c = z[i] := ⟨_, rfl⟩
      rw [← hc] at hcl hgo
      unfold byteV at hcl
      have h47 : (c = 47) ↔ c.toNat = 47 := ⟨fun e => by rw [e]; rfl, fun e => UInt8.toNat_inj.1 e⟩
      simp only [h47] at hgo
      clear hc h47
      obtain ⟨n, hn⟩ : ∃ n, n = c.toNat := ⟨_, rfl⟩
      rw [← hn] at hcl hgo
      have HLT := sec (And.intro hlt hp)
      clear hn hlt hiz
      have HGO := sec hgo
      clear hgo
      rcases ref_cases n with h1 | ⟨h0, h1, h2⟩ | ⟨h0, h1, h2, h3⟩ | ⟨h0, h1, h2⟩ | ⟨h0, h1, h2⟩ | ⟨h0, h1, h2, h3, h4⟩
      · by_cases hp0 : p = 0
        · have t1 : ((n : Int) == 47) = true := by rw [beq_iff_eq]; omega
          have t2 : ((p : Int) == 0) = true := by rw [beq_iff_eq]; omega
          have HF : Sec (refB s = false) := sec (by rw [HR.out, HGO.out, if_pos h1, if_pos hp0]; rfl)
          clear h1 hp0 hp
          go_wp2_with fail
          go_ret
          exact ⟨by rw [HF.out]; rfl, hg2⟩
        · have t1 : ((n : Int) == 47) = true := by rw [beq_iff_eq]; omega
          have t2 : ((p : Int) == 0) = false := by rw [beq_eq_false_iff_ne]; omega
          have HN : Sec (rnGo 0 z = rnGo 0 (z.drop (i + 1))) := sec (by rw [HGO.out, if_pos h1, if_neg hp0])
          clear h1 hp0 hp
          go_wp2_with fail
          go_roundw
          case rel => exact ⟨i + 1, 0, by go_num, rfl, HLT.out.1, by omega, HN, by trivial⟩
          case measure => simp [intOf]; have := HLT.out.1; omega
      · have t1 : ((n : Int) == 47) = false := by rw [beq_eq_false_iff_ne]; omega
        have q1 : (97 : Int) ≤ (n : Int) := by omega
        have q2 : (n : Int) ≤ 122 := by omega
        have HN : Sec (rnGo 0 z = rnGo (p + 1) (z.drop (i + 1))) := sec (by rw [HGO.out, if_neg h0, if_pos (by simp [refC]; omega)])
        clear h0 h1 h2 hp
        go_wp2_with fail
        go_roundw
        case rel => exact ⟨i + 1, p + 1, by go_num, by go_num, HLT.out.1, by have := HLT.out.2; omega, HN, by trivial⟩
        case measure => simp [intOf]; have := HLT.out.1; omega
      · have t1 : ((n : Int) == 47) = false := by rw [beq_eq_false_iff_ne]; omega
        have q1 : ¬ (97 : Int) ≤ (n : Int) := by omega
        have q3 : (48 : Int) ≤ (n : Int) := by omega
        have q4 : (n : Int) ≤ 57 := by omega
        have HN : Sec (rnGo 0 z = rnGo (p + 1) (z.drop (i + 1))) := sec (by rw [HGO.out, if_neg h0, if_pos (by simp [refC]; omega)])
        clear h0 h1 h2 h3 hp
        go_wp2_with fail
        go_roundw
        case rel => exact ⟨i + 1, p + 1, by go_num, by go_num, HLT.out.1, by have := HLT.out.2; omega, HN, by trivial⟩
        case measure => simp [intOf]; have := HLT.out.1; omega
      · have t1 : ((n : Int) == 47) = false := by rw [beq_eq_false_iff_ne]; omega
        have q1 : ¬ (97 : Int) ≤ (n : Int) := by omega
        have q3 : ¬ (48 : Int) ≤ (n : Int) := by omega
        have t2 : ((n : Int) == 45) = true := by rw [beq_iff_eq]; omega
        have HN : Sec (rnGo 0 z = rnGo (p + 1) (z.drop (i + 1))) := sec (by rw [HGO.out, if_neg h0, if_pos (by simp [refC]; omega)])
        clear h0 h1 h2 hp
        go_wp2_with fail
        go_roundw
        case rel => exact ⟨i + 1, p + 1, by go_num, by go_num, HLT.out.1, by have := HLT.out.2; omega, HN, by trivial⟩
        case measure => simp [intOf]; have := HLT.out.1; omega
      · have t1 : ((n : Int) == 47) = false := by rw [beq_eq_false_iff_ne]; omega
        have q1 : ¬ (97 : Int) ≤ (n : Int) := by omega
        have q3 : (48 : Int) ≤ (n : Int) := by omega
        have q4 : ¬ (n : Int) ≤ 57 := by omega
        have t2 : ((n : Int) == 45) = false := by rw [beq_eq_false_iff_ne]; omega
        have t3 : ((n : Int) == 95) = true := by rw [beq_iff_eq]; omega
        have HN : Sec (rnGo 0 z = rnGo (p + 1) (z.drop (i + 1))) := sec (by rw [HGO.out, if_neg h0, if_pos (by simp [refC]; omega)])
        clear h0 h1 h2 hp
        go_wp2_with fail
        go_roundw
        case rel => exact ⟨i + 1, p + 1, by go_num, by go_num, HLT.out.1, by have := HLT.out.2; omega, HN, by trivial⟩
        case measure => simp [intOf]; have := HLT.out.1; omega
      · by_cases g1 : 97 ≤ n
        · have t1 : ((n : Int) == 47) = false := by rw [beq_eq_false_iff_ne]; omega
          have q1 : (97 : Int) ≤ (n : Int) := by omega
          have q2 : ¬ (n : Int) ≤ 122 := by omega
          have q3 : (48 : Int) ≤ (n : Int) := by omega
          have q4 : ¬ (n : Int) ≤ 57 := by omega
          have t2 : ((n : Int) == 45) = false := by rw [beq_eq_false_iff_ne]; omega
          have t3 : ((n : Int) == 95) = false := by rw [beq_eq_false_iff_ne]; omega
          have HF : Sec (refB s = false) := sec (by rw [HR.out, HGO.out, if_neg h0, if_neg (by simp [refC]; omega)]; rfl)
          clear h0 h1 h2 h3 h4 g1 hp
          go_wp2_with fail
          go_ret
          exact ⟨by rw [HF.out]; rfl, hg2⟩
        · by_cases g2 : 48 ≤ n
          · have t1 : ((n : Int) == 47) = false := by rw [beq_eq_false_iff_ne]; omega
            have q1 : ¬ (97 : Int) ≤ (n : Int) := by omega
            have q3 : (48 : Int) ≤ (n : Int) := by omega
            have q4 : ¬ (n : Int) ≤ 57 := by omega
            have t2 : ((n : Int) == 45) = false := by rw [beq_eq_false_iff_ne]; omega
            have t3 : ((n : Int) == 95) = false := by rw [beq_eq_false_iff_ne]; omega
            have HF : Sec (refB s = false) := sec (by rw [HR.out, HGO.out, if_neg h0, if_neg (by simp [refC]; omega)]; rfl)
            clear h0 h1 h2 h3 h4 g1 g2 hp
            go_wp2_with fail
            go_ret
            exact ⟨by rw [HF.out]; rfl, hg2⟩
          · have t1 : ((n : Int) == 47) = false := by rw [beq_eq_false_iff_ne]; omega
            have q1 : ¬ (97 : Int) ≤ (n : Int) := by omega
            have q3 : ¬ (48 : Int) ≤ (n : Int) := by omega
            have t2 : ((n : Int) == 45) = false := by rw [beq_eq_false_iff_ne]; omega
            have t3 : ((n : Int) == 95) = false := by rw [beq_eq_false_iff_ne]; omega
            have HF : Sec (refB s = false) := sec (by rw [HR.out, HGO.out, if_neg h0, if_neg (by simp [refC]; omega)]; rfl)
            clear h0 h1 h2 h3 h4 g1 g2 hp
            go_wp2_with fail
            go_ret
            exact ⟨by rw [HF.out]; rfl, hg2⟩
    · obtain rfl : i = s.length + 1 := by omega
      have HE : Sec (rnGo 0 z = true) := sec (by rw [HA.out, List.drop_eq_nil_of_le (by rw [HZL.out]; omega)]; cases p <;> rfl)
      clear hlt
      by_cases h60 : s.length ≤ 60
      · have q1 : (s.length : Int) ≤ 60 := by omega
        have HF : Sec (refB s = true) := sec (by rw [HR.out, HE.out, decide_eq_true h60]; rfl)
        clear h60
        go_wp2_with fail
        go_ret
        exact ⟨by rw [HF.out]; rfl, hg2⟩
      · have q1 : ¬ (s.length : Int) ≤ 60 := by omega
        have HF : Sec (refB s = false) := sec (by rw [HR.out, HE.out, decide_eq_false h60]; rfl)
        clear h60
        go_wp2_with fail
        go_ret
        exact ⟨by rw [HF.out]; rfl, hg2⟩
end Go.Proofs.YtmmpekdbknclcaaDoor

namespace Go.Proofs.YtmmpekdbknclcaaDoor
set_option maxRecDepth 100000
open Go.RowKit
set_option linter.unusedVariables false
theorem ltB_no {a b : List UInt8} (h : ltB a b = true) : ltB b a = false := by
  cases hb : ltB b a
  · rfl
  · have := ltB_trans a b a h hb
    rw [ltB_irr] at this
    cases this
theorem goodR_of (fs : List Rf) (b : Bool) (h : rgFrom [] fs = b) : goodR fs = (decide (fs.length ≤ 32) && b) := by
  unfold goodR; rw [h]
set_option maxHeartbeats 8000000 in
theorem rgoodL_any (fs : List Rf) (A : Option Addr) (n cap : Nat) (w : World) (hn : n ≤ 1099511627776) (hx : RfRow w A n fs) (hs : ∀ f ∈ fs, f.1.length ≤ 1099511627776 ∧ f.2.length ≤ 1099511627776) :
    Calls Tryd.prog 20 #[.slice A n cap] w fun e w' => e = .returned (.bool (goodR fs)) ∧ Gr w w' := by
  have hl := hx.len
  have HX := sec hx
  have HSZ := sec hs
  obtain ⟨V, hV⟩ : ∃ V, V = goodR fs := ⟨_, rfl⟩
  rw [← hV]
  have HV := sec hV
  clear hx hs hV
  go_enter Tryd.func20, Tryd.ntmps20
  go_wp2_with fail
  go_loopg [7, 3, 4] n (fun fuel iv _ _ wr => ∃ (i : Nat) (last : List UInt8), iv = .int .i64 (i : Int) ∧ n ≤ i + fuel ∧ i ≤ n ∧ Sec (rgSeen fs i last) ∧ Gr w wr)
  case atStart => exact ⟨0, [], rfl, by omega, by omega, sec (rgSeen0 _), Gr.refl _⟩
  case round =>
    obtain ⟨i, last, rfl, hik, hi, HST, hg⟩ := hrel
    by_cases hlt : i < n
    · have hif : i < fs.length := by omega
      have hii : (i : Int) < (n : Int) := by omega
      obtain ⟨b, off, rfl, e0, e1⟩ := (HX.out.gr hg).cell hif
      have HHERE := sec (HST.out.here hif)
      have HNEXT := sec (fun h1 h2 => HST.out.next hif h1 h2)
      have HPREV : Sec (∀ w', Gr w w' → ∀ j, i = j + 1 → w'.cell? ⟨b, off + j * 2, none⟩ = some (.string (bs last))) := sec (fun w' g j hj => by
        obtain ⟨b', off', e, h0, _⟩ := (HX.out.gr g).cell (i := j) (by omega)
        injection e with e; injection e with e3 e4 _
        subst e3 e4
        have := HST.out.2.2 ⟨by omega, Nat.le_of_lt hif⟩
        subst hj
        rw [this]; exact h0)
      have HZERO : Sec (i = 0 → last = []) := sec HST.out.2.1
      have hsz := HSZ.out fs[i] (List.getElem_mem hif)
      obtain ⟨x, hxx⟩ : ∃ x, x = fs[i] := ⟨_, rfl⟩
      rw [← hxx] at e0 e1 HHERE HNEXT hsz
      have HIF := sec hif
      clear hxx hif
      obtain ⟨nm, id⟩ := x
      simp only at e0 e1 HHERE HNEXT hsz
      have HN := sec (fun w => refNamed_any nm w hsz.1)
      have hidl := hsz.2
      clear hsz
      go_upto_region 4 with fail
      have hFB := Blk.new wr 44 #[.string (bs nm), .string (bs id)]
      have hgx := hg.alloc (.cells #[.string (bs nm), .string (bs id)] 44)
      obtain ⟨wx, hwx⟩ : ∃ x, x = wr.alloc (.cells #[.string (bs nm), .string (bs id)] 44) := ⟨_, rfl⟩
      obtain ⟨q, hq⟩ : ∃ q, q = wr.heap.size := ⟨_, rfl⟩
      rw [← hwx] at hFB hgx
      rw [← hq] at hFB
      rw [← hwx, ← hq]
      have HSK : Sec (∀ w', Gr wx w' → w'.cell? ⟨q, 0, none⟩ = some (.string (bs nm)) ∧ w'.cell? ⟨q, 1, none⟩ = some (.string (bs id)) ∧ Gr wx w') := sec (fun w' g => ⟨(hFB.gr g).cell 0, (hFB.gr g).cell 1, g⟩)
      clear hwx hq hFB e0 e1 hg
      obtain ⟨ok, hok⟩ : ∃ ok : Bool, ok = (rfOk (nm, id) && ltB last nm) := ⟨_, rfl⟩
      go_cut [36] from 12 to 36 (fun v wc => v = .bool (!ok) ∧ Gr wx wc)
      case first =>
        have HOK : Sec (ok = (refB nm && decide (id.length = 32) && ltB last nm)) := sec hok
        clear hok HHERE HNEXT
        cases hnb : refB nm with
        | false =>
          have HXX : Sec (ok = false) := sec (by rw [HOK.out, hnb]; rfl)
          rw [hnb] at HN
          clear hnb hii hlt
          refine region_head_quiet 3 (by kernel_rfl) (by decide) (by kernel_rfl) (fun wd hwd => ?_)
          simp only [List.take_succ_cons, List.take_zero, List.drop_succ_cons, List.drop_zero]
          have gd : Gr wx wd := by rw [hwd]; exact (Gr.refl _).drew
          clear hwd
          have c0d := (HSK.out wd gd).1
          go_wp2_with (go_at_call 21; refine (HN.out _).mono ?_; rintro e w1 ⟨rfl, g1⟩; have gg1 : Gr wx w1 := gd.trans g1)
          obtain ⟨c0y, c1y, -⟩ := HSK.out w1 gg1
          simp only [OnQ]
          clear g1 gd c0d
          repeat (go_big_quiet_step (fail))
          refine wpQuiet_nil ?_
          intro _ hw'
          obtain ⟨nq, hw''⟩ := hw'
          subst hw''
          have gg2 : Gr wx (w1.drewN nq) := Gr.drewN gg1 nq
          go_wp2_with fail
          go_meet
          exact ⟨by rw [HXX.out]; rfl, gg2⟩
        | true =>
          have hne := refB_ne hnb
          have hbn : ltB [] nm = true := ltB_nil' hne
          rw [hnb] at HN HOK
          clear hne hnb
          by_cases h32 : id.length = 32
          · have q3 : ((id.length : Int) != 32) = false := by rw [bne_eq_false_iff_eq]; omega
            have HOK2 : Sec (ok = ltB last nm) := sec (by rw [HOK.out, decide_eq_true h32]; rfl)
            clear h32 HOK
            by_cases hi0 : i = 0
            · have HXX : Sec (ok = true) := sec (by rw [HOK2.out, HZERO.out hi0]; exact hbn)
              have hi1 : ¬ 0 < i := by omega
              clear hi0 hbn
              refine region_head_quiet 3 (by kernel_rfl) (by decide) (by kernel_rfl) (fun wd hwd => ?_)
              simp only [List.take_succ_cons, List.take_zero, List.drop_succ_cons, List.drop_zero]
              have gd : Gr wx wd := by rw [hwd]; exact (Gr.refl _).drew
              clear hwd
              have c0d := (HSK.out wd gd).1
              go_wp2_with (go_at_call 21; refine (HN.out _).mono ?_; rintro e w1 ⟨rfl, g1⟩; have gg1 : Gr wx w1 := gd.trans g1)
              obtain ⟨c0y, c1y, -⟩ := HSK.out w1 gg1
              simp only [OnQ]
              clear g1 gd c0d
              repeat (go_big_quiet_step (fail))
              refine wpQuiet_nil ?_
              intro _ hw'
              obtain ⟨nq, hw''⟩ := hw'
              subst hw''
              have gg2 : Gr wx (w1.drewN nq) := Gr.drewN gg1 nq
              go_wp2_with fail
              go_meet
              exact ⟨by rw [HXX.out]; rfl, gg2⟩
            · obtain ⟨j, hj⟩ : ∃ j, i = j + 1 := ⟨i - 1, by omega⟩
              have HSJ : Sec (∀ w', Gr wx w' → w'.cell? ⟨q, 0, none⟩ = some (.string (bs nm)) ∧ w'.cell? ⟨q, 1, none⟩ = some (.string (bs id)) ∧ w'.cell? ⟨b, off + j * 2, none⟩ = some (.string (bs last)) ∧ Gr wx w') := sec (fun w' g => ⟨(HSK.out w' g).1, (HSK.out w' g).2.1, HPREV.out w' (hgx.trans g) j hj, g⟩)
              have hij : (i : Int) - 1 = (j : Int) := by omega
              have hi1 : 0 < i := by omega
              have hjk : (j : Int) < (n : Int) := by omega
              clear hi0 hbn hj
              cases hlb : ltB last nm with
              | false =>
                have HXX : Sec (ok = false) := sec (by rw [HOK2.out, hlb])
                have q5 : Op.bytesLess last nm = false := hlb
                clear hlb
                refine region_head_quiet 3 (by kernel_rfl) (by decide) (by kernel_rfl) (fun wd hwd => ?_)
                simp only [List.take_succ_cons, List.take_zero, List.drop_succ_cons, List.drop_zero]
                have gd : Gr wx wd := by rw [hwd]; exact (Gr.refl _).drew
                clear hwd
                have c0d := (HSK.out wd gd).1
                go_wp2_with (go_at_call 21; refine (HN.out _).mono ?_; rintro e w1 ⟨rfl, g1⟩; have gg1 : Gr wx w1 := gd.trans g1)
                obtain ⟨c0y, c1y, c2y, -⟩ := HSJ.out w1 gg1
                simp only [OnQ]
                clear g1 gd c0d
                repeat (go_big_quiet_step (fail))
                refine wpQuiet_nil ?_
                intro _ hw'
                obtain ⟨nq, hw''⟩ := hw'
                subst hw''
                have gg2 : Gr wx (w1.drewN nq) := Gr.drewN gg1 nq
                go_wp2_with fail
                go_meet
                exact ⟨by rw [HXX.out]; rfl, gg2⟩
              | true =>
                have HXX : Sec (ok = true) := sec (by rw [HOK2.out, hlb])
                have q5 : Op.bytesLess last nm = true := hlb
                clear hlb
                refine region_head_quiet 3 (by kernel_rfl) (by decide) (by kernel_rfl) (fun wd hwd => ?_)
                simp only [List.take_succ_cons, List.take_zero, List.drop_succ_cons, List.drop_zero]
                have gd : Gr wx wd := by rw [hwd]; exact (Gr.refl _).drew
                clear hwd
                have c0d := (HSK.out wd gd).1
                go_wp2_with (go_at_call 21; refine (HN.out _).mono ?_; rintro e w1 ⟨rfl, g1⟩; have gg1 : Gr wx w1 := gd.trans g1)
                obtain ⟨c0y, c1y, c2y, -⟩ := HSJ.out w1 gg1
                simp only [OnQ]
                clear g1 gd c0d
                repeat (go_big_quiet_step (fail))
                refine wpQuiet_nil ?_
                intro _ hw'
                obtain ⟨nq, hw''⟩ := hw'
                subst hw''
                have gg2 : Gr wx (w1.drewN nq) := Gr.drewN gg1 nq
                go_wp2_with fail
                go_meet
                exact ⟨by rw [HXX.out]; rfl, gg2⟩
          · have q3 : ((id.length : Int) != 32) = true := by rw [bne_iff_ne]; omega
            have HXX : Sec (ok = false) := sec (by rw [HOK.out, decide_eq_false h32]; rfl)
            clear h32 hbn
            refine region_head_quiet 3 (by kernel_rfl) (by decide) (by kernel_rfl) (fun wd hwd => ?_)
            simp only [List.take_succ_cons, List.take_zero, List.drop_succ_cons, List.drop_zero]
            have gd : Gr wx wd := by rw [hwd]; exact (Gr.refl _).drew
            clear hwd
            have c0d := (HSK.out wd gd).1
            go_wp2_with (go_at_call 21; refine (HN.out _).mono ?_; rintro e w1 ⟨rfl, g1⟩; have gg1 : Gr wx w1 := gd.trans g1)
            obtain ⟨c0y, c1y, -⟩ := HSK.out w1 gg1
            simp only [OnQ]
            clear g1 gd c0d
            repeat (go_big_quiet_step (fail))
            refine wpQuiet_nil ?_
            intro _ hw'
            obtain ⟨nq, hw''⟩ := hw'
            subst hw''
            have gg2 : Gr wx (w1.drewN nq) := Gr.drewN gg1 nq
            go_wp2_with fail
            go_meet
            exact ⟨by rw [HXX.out]; rfl, gg2⟩
      case rest =>
        obtain ⟨rfl, gc⟩ := hcut
        cases ok with
        | true =>
          have h1 := hok.symm
          rw [Bool.and_eq_true] at h1
          have HEN := sec (HNEXT.out h1.1 h1.2)
          clear h1 hok hii
          go_wp2_with fail
          go_roundg (gk - 1)
          case rel => exact ⟨i + 1, nm, by go_num, by omega, by omega, HEN, hgx.trans gc⟩
          case measure => omega
        | false =>
          have HF : Sec (V = false) := sec (by rw [HV.out, goodR_of fs false (by rw [HHERE.out, ← hok]; rfl), Bool.and_false])
          clear hok hii
          go_wp2_with fail
          go_ret
          exact ⟨by rw [HF.out]; rfl, hgx.trans gc⟩
    · have HF : Sec (V = decide ((i : Int) ≤ 32)) := sec (by
        rw [HV.out, goodR_of fs true (HST.out.done (by omega)), Bool.and_true]
        exact decide_eq_decide.2 (by omega))
      obtain rfl : i = n := by omega
      clear hlt hi hik
      go_wp2_with fail
      all_goals
        go_ret
        exact ⟨by rw [HF.out]; simp, hg⟩
set_option maxHeartbeats 8000000 in
theorem rrgoodL_any (fs : List Rf) (A : Option Addr) (n cap : Nat) (w : World) (hn : n ≤ 1099511627776) (hx : RfRow w A n fs) (hs : ∀ f ∈ fs, f.1.length ≤ 1099511627776 ∧ f.2.length ≤ 1099511627776) :
    Calls Tryd.prog 30 #[.slice A n cap] w fun e w' => e = .returned (.bool (goodR fs)) ∧ Gr w w' := by
  have hl := hx.len
  have HX := sec hx
  have HSZ := sec hs
  obtain ⟨V, hV⟩ : ∃ V, V = goodR fs := ⟨_, rfl⟩
  rw [← hV]
  have HV := sec hV
  clear hx hs hV
  go_enter Tryd.func30, Tryd.ntmps30
  go_wp2_with fail
  try rw [show ({ data := #[] } : ByteArray) = bs [] from rfl]
  go_loopg [3, 8, 5] n (fun fuel v iv _ wr => ∃ (i : Nat) (last : List UInt8), v = .string (bs last) ∧ iv = .int .i64 (i : Int) ∧ n ≤ i + fuel ∧ i ≤ n ∧ Sec (rgSeen fs i last) ∧ Gr w wr)
  case atStart => exact ⟨0, [], rfl, rfl, by omega, by omega, sec (rgSeen0 _), Gr.refl _⟩
  case round =>
    obtain ⟨i, last, rfl, rfl, hik, hi, HST, hg⟩ := hrel
    by_cases hlt : i < n
    · have hif : i < fs.length := by omega
      have hii : (i : Int) < (n : Int) := by omega
      obtain ⟨b, off, rfl, e0, e1⟩ := (HX.out.gr hg).cell hif
      have HHERE := sec (HST.out.here hif)
      have HNEXT := sec (fun h1 h2 => HST.out.next hif h1 h2)
      have hsz := HSZ.out fs[i] (List.getElem_mem hif)
      obtain ⟨x, hxx⟩ : ∃ x, x = fs[i] := ⟨_, rfl⟩
      rw [← hxx] at e0 e1 HHERE HNEXT hsz
      have HIF := sec hif
      clear hxx hif
      obtain ⟨nm, id⟩ := x
      simp only at e0 e1 HHERE HNEXT hsz
      have HN := sec (fun w => refName_any nm w hsz.1)
      have hidl := hsz.2
      have hgx := hg.alloc (.cells #[.string (bs nm), .string (bs id)] 44)
      have HFB := sec (Blk.new wr 44 #[.string (bs nm), .string (bs id)])
      clear hsz
      cases hnb : refB nm with
      | false =>
        have HF : Sec (V = false) := sec (by rw [HV.out, goodR_of fs false (by rw [HHERE.out]; unfold rfOk; rw [hnb]; rfl), Bool.and_false])
        rw [hnb] at HN
        clear hnb
        go_wp2_with (go_at_call 31; refine Calls.mono (HN.out _) ?_; rintro e w1 ⟨rfl, g1⟩)
        go_ret
        exact ⟨by rw [HF.out]; rfl, hgx.trans g1⟩
      | true =>
        rw [hnb] at HN
        by_cases h32 : id.length = 32
        · have q3 : ((id.length : Int) != 32) = false := by rw [bne_eq_false_iff_eq]; omega
          have hok : rfOk (nm, id) = true := by unfold rfOk; rw [hnb]; simpa using h32
          clear hnb h32
          cases hlb : ltB last nm with
          | false =>
            have q1 : (Op.bytesLess nm last || nm == last) = true := by
              cases h : Op.bytesLess nm last
              · rw [ltB_tri nm last h hlb]; simp
              · rfl
            have HF : Sec (V = false) := sec (by rw [HV.out, goodR_of fs false (by rw [HHERE.out, hlb]; simp), Bool.and_false])
            clear hlb hok
            go_wp2_with (go_at_call 31; refine Calls.mono (HN.out _) ?_; rintro e w1 ⟨rfl, g1⟩; have c0 := (HFB.out.gr g1).cell 0; have c1 := (HFB.out.gr g1).cell 1; simp at c0 c1)
            go_ret
            exact ⟨by rw [HF.out]; rfl, hgx.trans g1⟩
          | true =>
            have q1 : Op.bytesLess nm last = false := ltB_no hlb
            have q2 : (nm == last) = false := by
              rw [beq_eq_false_iff_ne]
              intro e; subst e; rw [ltB_irr] at hlb; cases hlb
            have HEN := sec (HNEXT.out hok hlb)
            clear hlb hok
            go_wp2_with (go_at_call 31; refine Calls.mono (HN.out _) ?_; rintro e w1 ⟨rfl, g1⟩; have c0 := (HFB.out.gr g1).cell 0; have c1 := (HFB.out.gr g1).cell 1; simp at c0 c1)
            go_roundg (gk - 1)
            case rel => exact ⟨i + 1, nm, rfl, by go_num, by omega, by omega, HEN, hgx.trans g1⟩
            case measure => omega
        · have q3 : ((id.length : Int) != 32) = true := by rw [bne_iff_ne]; omega
          have HF : Sec (V = false) := sec (by rw [HV.out, goodR_of fs false (by rw [HHERE.out]; unfold rfOk; rw [decide_eq_false h32]; simp), Bool.and_false])
          clear hnb h32
          go_wp2_with (go_at_call 31; refine Calls.mono (HN.out _) ?_; rintro e w1 ⟨rfl, g1⟩; have c0 := (HFB.out.gr g1).cell 0; have c1 := (HFB.out.gr g1).cell 1; simp at c0 c1)
          go_ret
          exact ⟨by rw [HF.out]; rfl, hgx.trans g1⟩
    · have HF : Sec (V = decide ((i : Int) ≤ 32)) := sec (by
        rw [HV.out, goodR_of fs true (HST.out.done (by omega)), Bool.and_true]
        exact decide_eq_decide.2 (by omega))
      obtain rfl : i = n := by omega
      clear hlt hi hik
      go_wp2_with fail
      all_goals
        go_ret
        exact ⟨by rw [HF.out]; simp, hg⟩
end Go.Proofs.YtmmpekdbknclcaaDoor

namespace Go.Proofs.YtmmpekdbknclcaaDoor
open Go.RowKit
set_option linter.unusedVariables false
/-! ### plain lists -/
theorem splice_eq {α : Type} (L : List α) (off : Nat) (cs : List α) : Go.splice L off cs = L.take off ++ (cs ++ L.drop (off + cs.length)) := rfl
theorem ins_room {α : Type} (L xs x : List α) (o m k : Nat) (hL : L.take m = xs) (hm : xs.length = m) (ho : o ≤ m) (hk : x.length = k) (hl : m + k ≤ L.length) :
    (Go.splice (Go.splice L (o + k) (xs.drop o)) o x).take (m + k) = xs.take o ++ (x ++ xs.drop o) := by
  have h0 : (xs.drop o).length = m - o := by rw [List.length_drop]; omega
  have h1 : Go.splice L (o + k) (xs.drop o) = L.take (o + k) ++ (xs.drop o ++ L.drop (m + k)) := by
    rw [splice_eq, h0, show o + k + (m - o) = m + k by omega]
  rw [h1, splice_eq, hk]
  have h2 : (L.take (o + k) ++ (xs.drop o ++ L.drop (m + k))).take o = xs.take o := by
    rw [List.take_append_of_le_length (by rw [List.length_take]; omega), List.take_take, ← hL, List.take_take]
    congr 1; omega
  have h3 : (L.take (o + k) ++ (xs.drop o ++ L.drop (m + k))).drop (o + k) = xs.drop o ++ L.drop (m + k) := by
    rw [List.drop_append_of_le_length (by rw [List.length_take]; omega), List.drop_eq_nil_of_le (by rw [List.length_take]; omega)]; rfl
  rw [h2, h3, ← List.append_assoc, ← List.append_assoc]
  rw [List.take_append_of_le_length (by simp; omega), List.take_of_length_le (by simp; omega), List.append_assoc]
theorem ins_grow {α : Type} (R xs x : List α) (o m k : Nat) (hR : R.take o = xs.take o) (hm : xs.length = m) (ho : o ≤ m) (hk : x.length = k) (hl : m + k ≤ R.length) :
    (Go.splice (Go.splice R o x) (o + k) (xs.drop o)).take (m + k) = xs.take o ++ (x ++ xs.drop o) := by
  have h0 : (xs.drop o).length = m - o := by rw [List.length_drop]; omega
  have h1 : Go.splice R o x = xs.take o ++ (x ++ R.drop (o + k)) := by rw [splice_eq, hk, hR]
  have h2 : (Go.splice R o x).take (o + k) = xs.take o ++ x := by
    rw [h1, ← List.append_assoc, List.take_append_of_le_length (by simp; omega), List.take_of_length_le (by simp; omega)]
  have h3 : (Go.splice (Go.splice R o x) (o + k) (xs.drop o)) = xs.take o ++ x ++ (xs.drop o ++ (Go.splice R o x).drop (o + k + (m - o))) := by
    rw [splice_eq (Go.splice R o x), h2, h0]
  rw [h3, ← List.append_assoc, List.take_append_of_le_length (by simp; omega), List.take_of_length_le (by simp; omega), List.append_assoc]
theorem del_room {α : Type} (L xs : List α) (o m k : Nat) (hL : L.take m = xs) (hm : xs.length = m) (ho : o + k ≤ m) (hl : m ≤ L.length) (z : List α) (hz : z.length = k) :
    (Go.splice (Go.splice L o (xs.drop (o + k))) (m - k) z).take (m - k) = xs.take o ++ xs.drop (o + k) := by
  have h0 : (xs.drop (o + k)).length = m - k - o := by rw [List.length_drop]; omega
  have h1 : Go.splice L o (xs.drop (o + k)) = L.take o ++ (xs.drop (o + k) ++ L.drop (m - k)) := by
    rw [splice_eq, h0, show o + (m - k - o) = m - k by omega]
  have h4 : L.take o = xs.take o := by rw [← hL, List.take_take]; congr 1; omega
  rw [splice_eq, List.take_append_of_le_length (by rw [List.length_take, h1]; simp; omega), List.take_take, Nat.min_self, h1, h4, ← List.append_assoc,
    List.take_append_of_le_length (by simp; omega), List.take_of_length_le (by simp; omega)]

/-! ### copy, clear of elements of more than one cell -/
theorem run_copy_rowN {P : Program} (w : World) (dT sT ty elem : TypeId) (g o dLen dCap : Nat) (a : Addr) (sLen sCap size : Nat) (cur : Array Value) (t : TypeId) (cs : List Value)
    (hu : P.underlying dT = some (.slice elem)) (hs : (P.info? elem).map (·.size) = some size)
    (hg : w.heap[g]? = some (.cells cur t (0, 0))) (hn : cs.length = Nat.min sLen dLen * size)
    (hsrc : ∀ j v, cs[j]? = some v → w.cell? (a.add j) = some v) (hfit : o + cs.length ≤ cur.size) (h1 : ∀ v ∈ cs, v.oneCell' = true) :
    (Builtin.copy_ #[dT, sT] ty #[.slice (some ⟨g, o, none⟩) dLen dCap, .slice (some a) sLen sCap]).run P w =
      .ok (goInt (Nat.min sLen dLen)) (w.setRow g (Go.splice cur.toList o cs).toArray) := by
  have hl := run_loadCells_list (P := P) w a cs hsrc
  have hst := run_storeCells_at P g o t cs 0 cur w hg (by simpa using hfit) h1
  cases hq : P.info? elem with
  | none => simp [hq] at hs
  | some i =>
    have hi : i.size = size := by simpa [hq] using hs
    have hf := run_firstCells_some (P := P) w size (Nat.min sLen dLen) a sLen sCap cs hn hsrc
    rw [splice_eq]
    simp [Builtin.copy_, run_underlying hu, Builtin.lenOf, sizeOf, typeInfo, hq, hi, hf, hst, List.append_assoc]

theorem wp_copy_run (w : World) {P : Program} {o : Oper} {a : Act} {K : Act → World → Prop} {Q : Exit → Act → World → Prop} (d s : Operand) (t t' : TypeId)
    (ho : o.op = .call { callee := .builtin .copy, args := #[d, s], argTypes := #[t, t'] }) (v u : Value) (hd : a.eval d = v) (hs : a.eval s = u) {v' : Value} {w' : World}
    (hr : (Builtin.copy_ #[t, t'] o.type #[v, u]).run P w = .ok v' w') (h : K (a.put o.dst v') w') : o.wp P a w K Q := by
  unfold Oper.wp execOp
  simp only [ho, resolve, invoke, builtin, Sem.run_bind, Sem.run_pure, Result.andThen_ok, List.map_toArray, List.map_cons, List.map_nil, hd, hs, hr]
  exact h
theorem wpList_copy_run (w : World) {P : Program} {ops : Array Oper} {rest : List Oper} {o : Oper} {a : Act} {Q : Exit → Act → World → Prop} (hgd : o.guard = none) (d s : Operand) (t t' : TypeId)
    (ho : o.op = .call { callee := .builtin .copy, args := #[d, s], argTypes := #[t, t'] }) (v u : Value) (hd : a.eval d = v) (hs : a.eval s = u) {v' : Value} {w' : World}
    (hr : (Builtin.copy_ #[t, t'] o.type #[v, u]).run P w = .ok v' w') (h : wpList P ops Q rest (a.put o.dst v') w') : wpList P ops Q (o :: rest) a w :=
  wpList_plain hgd fun _ hK => wp_copy_run w d s t t' ho v u hd hs hr (hK _ _ h)
theorem step_copy_run {P : Program} {ops : Array Oper} {o : Oper} {a : Act} {w : World} {K : Act → World → Prop} {Q : Exit → Act → World → Prop} {E : Prop}
    (hg : o.guard = none) (d x : Operand) (dT sT : TypeId) (hop : o.op = Op.call { callee := Callee.builtin Builtin.copy, args := #[d, x], argTypes := #[dT, sT] })
    (v u : Value) (hd : a.eval d = v) (hx : a.eval x = u) {v' : Value} {w' : World} (hr : (Builtin.copy_ #[dT, sT] o.type #[v, u]).run P w = .ok v' w') (hK : K (a.put o.dst v') w') :
    if Region.wanted o (yielded ops a.tmps) = true then Oper.wp P o a w K Q else E := by
  have hw : Region.wanted o (yielded ops a.tmps) = true := by simp [Region.wanted, hg]
  rw [if_pos hw]
  exact wp_copy_run w d x dT sT hop v u hd hx hr hK
theorem wpList_append_runA (w : World) {P : Program} {ops : Array Oper} {rest : List Oper} {o : Oper} {a : Act} {Q : Exit → Act → World → Prop} (hgd : o.guard = none) (d s : Operand) (t t' : TypeId)
    (ho : o.op = .call { callee := .builtin .append, args := #[d, s], argTypes := #[t, t'] }) (v u : Value) (hd : a.eval d = v) (hs : a.eval s = u) {v' : Value} {w' : World}
    (hr : (Builtin.append_ #[t, t'] o.type #[v, u]).run P w = .ok v' w') (h : wpList P ops Q rest (a.put o.dst v') w') : wpList P ops Q (o :: rest) a w :=
  wpList_plain hgd fun _ hK => by
    unfold Oper.wp execOp
    simp only [ho, resolve, invoke, builtin, Sem.run_bind, Sem.run_pure, Result.andThen_ok, List.map_toArray, List.map_cons, List.map_nil, hd, hs, hr]
    exact hK _ _ h

end Go.Proofs.YtmmpekdbknclcaaDoor

namespace Go.Proofs.YtmmpekdbknclcaaDoor
open Go.RowKit
set_option linter.unusedVariables false
/-! ### Delete -/
theorem run_clear_rowN {P : Program} (w : World) (t e ty : TypeId) (z : Value) (ht : P.underlying t = some (.slice e)) (hv : ∀ w, (zeroValue e).run P w = .ok z w) (g o c : Nat) (cur : Array Value) (tt : TypeId) (hg : w.heap[g]? = some (.cells cur tt (0, 0)))
    (hfit : o + z.cells.size ≤ cur.size) (h1 : ∀ v ∈ z.cells.toList, v.oneCell' = true) :
    (Builtin.clear_ #[t] ty #[.slice (some ⟨g, o, none⟩) 1 c]).run P w = .ok (.tuple #[]) (w.setRow g (Go.splice cur.toList o z.cells.toList).toArray) := by
  have hzc : (Builtin.zeroCells z.cells 1).toList = z.cells.toList := by
    simp [Builtin.zeroCells]
    apply List.ext_getElem
    · simp
    · intro i h1 h2
      have h2' : i < z.cells.size := by simpa using h2
      simp [Nat.mod_eq_of_lt h2', getElem!_pos z.cells i h2']
  have hst := run_storeCells_at P g o tt z.cells.toList 0 cur w hg (by simpa using hfit) h1
  simp only [Nat.add_zero] at hst
  rw [splice_eq]
  simp [Builtin.clear_, run_underlying ht, hv, hzc, hst, List.append_assoc]
theorem step_append_run {P : Program} {ops : Array Oper} {o : Oper} {a : Act} {w : World} {K : Act → World → Prop} {Q : Exit → Act → World → Prop} {E : Prop}
    (hg : o.guard = none) (d x : Operand) (dT sT : TypeId) (hop : o.op = Op.call { callee := Callee.builtin Builtin.append, args := #[d, x], argTypes := #[dT, sT] })
    (v u : Value) (hd : a.eval d = v) (hx : a.eval x = u) {v' : Value} {w' : World} (hr : (Builtin.append_ #[dT, sT] o.type #[v, u]).run P w = .ok v' w') (hK : K (a.put o.dst v') w') :
    if Region.wanted o (yielded ops a.tmps) = true then Oper.wp P o a w K Q else E := by
  have hw : Region.wanted o (yielded ops a.tmps) = true := by simp [Region.wanted, hg]
  rw [if_pos hw]
  unfold Oper.wp execOp
  simp only [hop, resolve, invoke, builtin, Sem.run_bind, Sem.run_pure, Result.andThen_ok, List.map_toArray, List.map_cons, List.map_nil, hd, hx, hr]
  exact hK
theorem wpList_clear_run (w : World) {P : Program} {ops : Array Oper} {rest : List Oper} {o : Oper} {a : Act} {Q : Exit → Act → World → Prop} (hgd : o.guard = none) (s : Operand) (t : TypeId)
    (ho : o.op = .call { callee := .builtin .clear, args := #[s], argTypes := #[t] }) (v : Value) (hs : a.eval s = v) {v' : Value} {w' : World}
    (hr : (Builtin.clear_ #[t] o.type #[v]).run P w = .ok v' w') (h : wpList P ops Q rest (a.put o.dst v') w') : wpList P ops Q (o :: rest) a w :=
  wpList_plain hgd fun _ hK => by
    unfold Oper.wp execOp
    simp only [ho, resolve, invoke, builtin, Sem.run_bind, Sem.run_pure, Result.andThen_ok, List.map_toArray, List.map_cons, List.map_nil, hs, hr]
    exact hK _ _ h
end Go.Proofs.YtmmpekdbknclcaaDoor

namespace Go.Proofs.YtmmpekdbknclcaaDoor
set_option maxRecDepth 100000
open Go.RowKit
set_option linter.unusedVariables false
theorem refSize : (Tryd.prog.info? 44).map (·.size) = some 2 := by
  obtain ⟨i0, hi0, _, h1, _⟩ := info_parts E.ref.info
  rw [hi0]; simp [h1]
theorem sizeOfRef : ∀ w, (Go.sizeOf 44).run Tryd.prog w = .ok 2 w := by
  intro w
  obtain ⟨i0, hi0, _, h1, _⟩ := info_parts E.ref.info
  simp [sizeOf, typeInfo, hi0, h1]

set_option maxHeartbeats 4000000 in
set_option maxRecDepth 100000 in
/-- there is room, i < n: in place -/
theorem rins_shift (g cap n i gv vc : Nat) (cur x : List Value) (w : World) (hi : i < n) (hroom : n + 1 ≤ cap) (hcap : cap ≤ maxLen) (hgv : gv ≠ g) (hg : Blk w g 44 cur.toArray) (hs : cur.length = cap * 2)
    (hv : Blk w gv 44 x.toArray) (hx : x.length = 2) (h1 : ∀ v ∈ cur.take (n * 2), v.oneCell' = true) (h1v : ∀ v ∈ x, v.oneCell' = true) :
    Calls Tryd.prog 26 #[.slice (some ⟨g, 0, none⟩) n cap, .int .i64 (i : Int), .slice (some ⟨gv, 0, none⟩) 1 vc] w fun e w' =>
      e = .returned (.slice (some ⟨g, 0, none⟩) (n + 1) cap) ∧ Blk w' g 44 (Go.splice (Go.splice cur (i * 2 + 2) ((cur.take (n * 2)).drop (i * 2))) (i * 2) x).toArray ∧ w.grownBy w' (some g) := by
  have hcs : (cur.take (n * 2)).length = n * 2 := by rw [List.length_take]; omega
  obtain ⟨xs, hxs⟩ : ∃ xs, xs = cur.take (n * 2) := ⟨_, rfl⟩
  have hov : ∀ lb cb, (callFunc 44 #[.slice (some ⟨gv, 0, none⟩) 1 vc, .slice (some ⟨g, (i + 1) * 2, none⟩) lb cb]).run Tryd.prog w = .ok (.value (.bool false)) w := fun lb cb => by
    rw [run_callFunc_extern Tryd.func44 (by kernel_rfl) (by kernel_rfl) (by kernel_rfl) (e := Extern.SlicesOverlaps.overlaps #[26, 26] #[4]) (by kernel_rfl),
      Lib.run_overlaps_apart w 26 4 44 E.ref.under 2 sizeOfRef ⟨gv, 0, none⟩ ⟨g, (i + 1) * 2, none⟩ 1 vc lb cb hgv 44 44 2 (cap * 2)
        (by unfold World.shape?; rw [hv]; simp [hx]) (by unfold World.shape?; rw [hg]; simp [hs]) (by omega) (hv.frozen 0) (hv.frozen 2)]
    rfl
  have hdl : ((cur.take (n * 2)).drop (i * 2)).length = n * 2 - i * 2 := by rw [List.length_drop, hcs]
  have hcp1 : ∀ ty dc sc, (Builtin.copy_ #[26, 26] ty #[.slice (some ⟨g, (i + 1) * 2, none⟩) (n - i) dc, .slice (some ⟨g, i * 2, none⟩) (n + 1 - i) sc]).run Tryd.prog w.drew = .ok (goInt ((n - i : Nat) : Int)) (w.drew.setRow g (Go.splice cur ((i + 1) * 2) ((cur.take (n * 2)).drop (i * 2))).toArray) := fun ty dc sc => by
    have := run_copy_rowN (P := Tryd.prog) w.drew 26 26 ty 44 g ((i + 1) * 2) (n - i) dc ⟨g, i * 2, none⟩ (n + 1 - i) sc 2 cur.toArray 44 ((cur.take (n * 2)).drop (i * 2)) E.ref.under refSize hg.drew
      (by rw [hdl, show Nat.min (n + 1 - i) (n - i) = n - i by simp only [Nat.min_def]; split <;> omega, Nat.sub_mul])
      (fun j v hj => by
        rw [Addr.add_lit]
        rw [List.getElem?_drop, List.getElem?_take] at hj
        split at hj
        · exact (hg.drew.cell _).trans (by simpa using hj)
        · cases hj)
      (by rw [hdl, List.size_toArray, hs]; omega) (fun v hv => h1 v (List.mem_of_mem_drop hv))
    rw [show Nat.min (n + 1 - i) (n - i) = n - i by simp only [Nat.min_def]; split <;> omega] at this
    exact this
  obtain ⟨c1, hc1⟩ : ∃ c1, c1 = Go.splice cur ((i + 1) * 2) ((cur.take (n * 2)).drop (i * 2)) := ⟨_, rfl⟩
  rw [← hc1] at hcp1
  have hc1l : c1.length = cap * 2 := by rw [hc1, Go.length_splice _ _ _ (by rw [hdl, hs]; omega), hs]
  have hg1 : Blk (w.drew.setRow g c1.toArray) g 44 c1.toArray := hg.drew.of_setRow _
  have hv1 : Blk (w.drew.setRow g c1.toArray) gv 44 x.toArray := hv.drew.only (grown_setRow w.drew g _) hgv
  have hcp2 : ∀ ty dc, (Builtin.copy_ #[26, 26] ty #[.slice (some ⟨g, i * 2, none⟩) (n + 1 - i) dc, .slice (some ⟨gv, 0, none⟩) 1 vc]).run Tryd.prog (w.drew.setRow g c1.toArray) = .ok (goInt 1) ((w.drew.setRow g c1.toArray).setRow g (Go.splice c1 (i * 2) x).toArray) := fun ty dc => by
    have := run_copy_rowN (P := Tryd.prog) (w.drew.setRow g c1.toArray) 26 26 ty 44 g (i * 2) (n + 1 - i) dc ⟨gv, 0, none⟩ 1 vc 2 c1.toArray 44 x E.ref.under refSize hg1
      (by rw [hx, show Nat.min 1 (n + 1 - i) = 1 by simp only [Nat.min_def]; split <;> omega])
      (fun j v hj => by rw [Addr.add_lit, Nat.zero_add]; exact (hv1.cell _).trans (by simpa using hj))
      (by rw [hx, List.size_toArray, hc1l]; omega) h1v
    rw [show Nat.min 1 (n + 1 - i) = 1 by simp only [Nat.min_def]; split <;> omega] at this
    exact this
  have HE : Sec (Go.splice (Go.splice cur (i * 2 + 2) ((cur.take (n * 2)).drop (i * 2))) (i * 2) x = Go.splice c1 (i * 2) x) := sec (by rw [hc1, show (i + 1) * 2 = i * 2 + 2 by omega])
  have HB : Sec (Blk ((w.drew.setRow g c1.toArray).setRow g (Go.splice c1 (i * 2) x).toArray) g 44 (Go.splice c1 (i * 2) x).toArray) := sec (hg1.of_setRow _)
  have HGW : Sec (w.grownBy ((w.drew.setRow g c1.toArray).setRow g (Go.splice c1 (i * 2) x).toArray) (some g)) := sec ⟨rfl, rfl, rfl, by simp [World.setRow], fun k hk hne => by
    rw [setRow_other _ g k _ (fun e => hne (by rw [e])), setRow_other _ g k _ (fun e => hne (by rw [e]))]; rfl⟩
  have hz2 : ¬ ((i : Int) = (n : Int)) := by omega
  have hw1 : IntKind.i64.wrap ((i : Int) + 1) = (i : Int) + 1 := by rw [IntKind.wrap_i64]; unfold maxLen at hcap; omega
  have htn : ((i : Int) + 1).toNat = i + 1 := by omega
  have hb1 : (0 : Int) ≤ (i : Int) + 1 := by omega
  have hb3 : (i : Int) ≤ (n : Int) := by omega
  have hb6 : (i : Int) ≤ (n : Int) + 1 := by omega
  have hb2 : ¬ (cap = i + 1) := by omega
  have hb4 : ¬ (cap = i) := by omega
  have hb5 : ¬ (cap < n + 1) := by omega
  have hm : cap ≤ 9223372036854775807 := by have := hcap; unfold maxLen at this; omega
  clear hc1 hc1l hg1 hv1 hdl hxs h1 h1v hg hv hs hcs
  go_enter Tryd.func26, Tryd.ntmps26
  go_wp2_with (simp only [hov])
  go_region_law (refine step_copy_run rfl _ _ 26 26 rfl _ _ (by simp [Act.eval, Act.put]) (by simp [Act.eval, Act.put]) (hcp1 _ _ _) ?_)
  go_wp2_with (at_builtin; refine wpList_copy_run _ rfl _ _ 26 26 rfl _ _ rfl rfl (hcp2 _ _) ?_)
  go_ret
  exact ⟨rfl, by rw [HE.out]; exact HB.out, HGW.out⟩

set_option maxHeartbeats 4000000 in
set_option maxRecDepth 100000 in
/-- at the end -/
theorem rins_end (A : Option Addr) (n cap gv vc B : Nat) (xs x : List Value) (w : World) (hown : w.ownsRow B 44 2 (.slice A n cap) n xs) (hv : Blk w gv 44 x.toArray) (hx : x.length = 2) (h1v : ∀ v ∈ x, v.oneCell' = true) (hn : n ≤ 1099511627776) (hB : B ≤ w.heap.size) :
    Calls Tryd.prog 26 #[.slice A n cap, .int .i64 (n : Int), .slice (some ⟨gv, 0, none⟩) 1 vc] w fun e w' =>
      ∃ A' cap', e = .returned (.slice A' (n + 1) cap') ∧ w'.ownsRow B 44 2 (.slice A' (n + 1) cap') (n + 1) (xs ++ x) ∧ w.grownBy w' (Value.ownBlock (.slice A n cap)) := by
  have hb1 : (n + 1) * 32 ≤ 140737488355328 := by omega
  have hb2 : n + 1 ≤ maxLen := by unfold maxLen; omega
  have hrow : Row w 2 (some ⟨gv, 0, none⟩) 1 x := by have := Row.lit hv; simp [hx] at this; exact this
  have hnc : n ≤ cap := by
    rcases hown.2 with ⟨h, h0⟩ | ⟨_, _, _, h, _, _, h1, _⟩
    · omega
    · injection h with _ _ h; omega
  have HO := sec hown
  have HR := sec hrow
  have H1 := sec h1v
  clear hown hrow hv h1v
  cases A with
  | none =>
    have : n = 0 ∧ cap = 0 := by
      rcases HO.out.2 with ⟨h, h0⟩ | ⟨_, _, _, h, _⟩
      · injection h with _ _ h; exact ⟨h0, h⟩
      · injection h with h; cases h
    obtain ⟨rfl, rfl⟩ := this
    go_enter Tryd.func26, Tryd.ntmps26
    go_wp2_with (refine wpList_append_row E.ref rfl (.tmp 23) (.tmp 24) rfl (B := B) (A0 := none) (n0 := 0) (cap0 := 0) (xs := xs) rfl HO.out rfl HR.out (by intro h; cases h) H1.out hb1 hb2 hB ?_; intro A' c' w' hown' hgn)
    go_ret
    exact ⟨A', c', rfl, hown', hgn⟩
  | some ad =>
    obtain ⟨g, hg⟩ : ∃ g, ad = ⟨g, 0, none⟩ := by
      rcases HO.out.2 with ⟨h, h0⟩ | ⟨g, _, _, h, _⟩
      · injection h with h; cases h
      · injection h with h; injection h with h; exact ⟨g, h⟩
    subst hg
    go_enter Tryd.func26, Tryd.ntmps26
    go_wp2_with (refine wpList_append_row E.ref rfl (.tmp 23) (.tmp 24) rfl (B := B) (A0 := some ⟨g, 0, none⟩) (n0 := n) (cap0 := cap) (xs := xs) rfl HO.out rfl HR.out (by intro h; cases h) H1.out hb1 hb2 hB ?_; intro A' c' w' hown' hgn)
    all_goals
      go_ret
      exact ⟨A', c', rfl, hown', hgn⟩

set_option maxHeartbeats 4000000 in
set_option maxRecDepth 100000 in
/-- there is no room, i < n: a new row -/
theorem rins_grown (g cap n i gv vc : Nat) (cur x : List Value) (w : World) (hi : i < n) (hroom : cap < n + 1) (hnc : n ≤ cap) (hn : n ≤ 1099511627776) (hg : Blk w g 44 cur.toArray) (hs : cur.length = cap * 2)
    (hv : Blk w gv 44 x.toArray) (hx : x.length = 2) (h1 : ∀ v ∈ cur.take (n * 2), v.oneCell' = true) (h1v : ∀ v ∈ x, v.oneCell' = true) :
    Calls Tryd.prog 26 #[.slice (some ⟨g, 0, none⟩) n cap, .int .i64 (i : Int), .slice (some ⟨gv, 0, none⟩) 1 vc] w fun e w' =>
      ∃ (G : Nat) (R : List Value), e = .returned (.slice (some ⟨w.heap.size, 0, none⟩) (n + 1) G) ∧ n + 1 ≤ G ∧ G ≤ maxLen ∧ R.length = G * 2 ∧ R.take (i * 2) = (cur.take (n * 2)).take (i * 2) ∧
        Blk w' w.heap.size 44 (Go.splice (Go.splice R (i * 2) x) (i * 2 + 2) ((cur.take (n * 2)).drop (i * 2))).toArray ∧ w.grownBy w' none := by
  have hcs : (cur.take (n * 2)).length = n * 2 := by rw [List.length_take]; omega
  obtain ⟨xs, hxs⟩ : ∃ xs, xs = cur.take (n * 2) := ⟨_, rfl⟩
  rw [← hxs] at hcs h1
  rw [← hxs]
  obtain ⟨i0, hi0, hz0, hz1, hz2⟩ := info_parts E.ref.info
  obtain ⟨k, hk⟩ : ∃ k, k = n + 1 - i := ⟨_, rfl⟩
  have hik : i + k = n + 1 := by omega
  obtain ⟨G, hG⟩ : ∃ G, G = grownCap w (n + 1) cap 44 := ⟨_, rfl⟩
  have hG1 : n + 1 ≤ G := by rw [hG]; exact grownCap_ge _ _ _ _
  have hG2 : G ≤ maxLen := by rw [hG]; exact grownCap_le_maxLen _ _ _ _ (by unfold maxLen; omega)
  have hcell : ∀ j v, xs[j]? = some v → w.cell? ⟨g, j, none⟩ = some v := fun j v hj => by
    rw [hxs, List.getElem?_take] at hj
    split at hj
    · exact (hg.cell _).trans (by simpa using hj)
    · cases hj
  have hold : (Builtin.firstCells i0.size i (.slice (some ⟨g, 0, none⟩) i cap)).run Tryd.prog w.drew = .ok (xs.take (i * 2)).toArray w.drew := by
    rw [hz1]
    exact run_firstCells_some w.drew 2 i ⟨g, 0, none⟩ i cap (xs.take (i * 2)) (by rw [List.length_take]; omega) (fun j v hj => by
      rw [Addr.add_lit, Nat.zero_add]
      rw [List.getElem?_take] at hj
      split at hj
      · exact hcell j v hj
      · cases hj)
  obtain ⟨R, hR⟩ : ∃ R : List Value, R = ((xs.take (i * 2)).toArray ++ Builtin.zeroCells (Value.agg #[.string (bs []), .string (bs [])]).cells k ++ Builtin.zeroCells (Value.agg #[.string (bs []), .string (bs [])]).cells (G - (i + k))).toList := ⟨_, rfl⟩
  have hrun : ∀ ty, (Builtin.append_ #[26, 3] ty #[.slice (some ⟨g, 0, none⟩) i cap, .int .i64 (k : Int)]).run Tryd.prog w = .ok (.slice (some ⟨w.heap.size, 0, none⟩) (n + 1) G) (w.drew.alloc (.cells R.toArray 44)) := fun ty => by
    have := Lib.run_append_grow_zeros (P := Tryd.prog) w 26 3 ty 44 i0 _ .i64 .i64 E.ref.under Tryd.underlying3 hi0 hz0 (some ⟨g, 0, none⟩) i cap (xs.take (i * 2)) hold k (by omega) (by omega) (by omega) (by omega) (by rw [hz2]; omega)
      (by rw [hz2]; exact growslice_fits (by omega) (by omega))
    rw [this, hik, ← hG, hR, hik, Array.toArray_toList]
  have hRl : R.length = G * 2 := by
    rw [hR]
    have hz3 : (Value.agg #[.string (bs []), .string (bs [])]).cells.size = 2 := E.ref.zcells
    rw [Array.length_toList, Array.size_append, Array.size_append, size_zeroCells, size_zeroCells, hz3, List.size_toArray, List.length_take, hcs, Nat.min_eq_left (by omega)]
    omega
  have hRt : R.take (i * 2) = xs.take (i * 2) := by
    rw [hR]
    simp only [Array.toList_append, List.append_assoc]
    rw [List.take_append_of_le_length (by rw [List.length_take, hcs]; omega), List.take_take, Nat.min_self]
  have hgl := hg.lt
  have hvl := hv.lt
  obtain ⟨W0, hW0⟩ : ∃ W0, W0 = w.drew.alloc (.cells R.toArray 44) := ⟨_, rfl⟩
  have hRB : Blk W0 w.heap.size 44 R.toArray := by rw [hW0]; exact Blk.new w.drew _ _
  have hg0 : Blk W0 g 44 cur.toArray := by rw [hW0]; exact hg.drew.alloc _
  have hv0 : Blk W0 gv 44 x.toArray := by rw [hW0]; exact hv.drew.alloc _
  have hgr0 : w.grownBy W0 none := by rw [hW0]; exact ⟨rfl, rfl, rfl, by simp, fun k hk _ => Below.heap_alloc w.drew _ k hk⟩
  rw [← hW0] at hrun
  obtain ⟨g2, hg2⟩ : ∃ g2, g2 = w.heap.size := ⟨_, rfl⟩
  rw [← hg2] at hrun hRB hgl hvl
  rw [← hg2]
  have hcp1 : ∀ ty dc, (Builtin.copy_ #[26, 26] ty #[.slice (some ⟨g2, i * 2, none⟩) (n + 1 - i) dc, .slice (some ⟨gv, 0, none⟩) 1 vc]).run Tryd.prog W0 = .ok (goInt 1) (W0.setRow g2 (Go.splice R (i * 2) x).toArray) := fun ty dc => by
    have := run_copy_rowN (P := Tryd.prog) W0 26 26 ty 44 g2 (i * 2) (n + 1 - i) dc ⟨gv, 0, none⟩ 1 vc 2 R.toArray 44 x E.ref.under refSize hRB
      (by rw [hx, show Nat.min 1 (n + 1 - i) = 1 by simp only [Nat.min_def]; split <;> omega])
      (fun j v hj => by rw [Addr.add_lit, Nat.zero_add]; exact (hv0.cell _).trans (by simpa using hj))
      (by rw [hx, List.size_toArray, hRl]; omega) h1v
    rw [show Nat.min 1 (n + 1 - i) = 1 by simp only [Nat.min_def]; split <;> omega] at this
    exact this
  obtain ⟨c1, hc1⟩ : ∃ c1, c1 = Go.splice R (i * 2) x := ⟨_, rfl⟩
  rw [← hc1] at hcp1
  have hc1l : c1.length = G * 2 := by rw [hc1, Go.length_splice _ _ _ (by rw [hx, hRl]; omega), hRl]
  obtain ⟨W1, hW1⟩ : ∃ W1, W1 = W0.setRow g2 c1.toArray := ⟨_, rfl⟩
  have hRB1 : Blk W1 g2 44 c1.toArray := by rw [hW1]; exact hRB.of_setRow _
  have hgg1 : Blk W1 g 44 cur.toArray := by rw [hW1]; exact hg0.only (grown_setRow W0 g2 _) (by omega)
  have hgr1 : w.grownBy W1 none := by
    rw [hW1]
    exact ⟨hgr0.os, hgr0.tape, hgr0.output, by simpa [World.setRow] using hgr0.size, fun k hk hne => by rw [setRow_other _ g2 k _ (by omega)]; exact hgr0.block k hk hne⟩
  rw [← hW1] at hcp1
  have hdl : (xs.drop (i * 2)).length = n * 2 - i * 2 := by rw [List.length_drop, hcs]
  have hcp2 : ∀ ty dc sc, (Builtin.copy_ #[26, 26] ty #[.slice (some ⟨g2, (i + 1) * 2, none⟩) (n - i) dc, .slice (some ⟨g, i * 2, none⟩) (n - i) sc]).run Tryd.prog W1.drew = .ok (goInt ((n - i : Nat) : Int)) (W1.drew.setRow g2 (Go.splice c1 ((i + 1) * 2) (xs.drop (i * 2))).toArray) := fun ty dc sc => by
    have := run_copy_rowN (P := Tryd.prog) W1.drew 26 26 ty 44 g2 ((i + 1) * 2) (n - i) dc ⟨g, i * 2, none⟩ (n - i) sc 2 c1.toArray 44 (xs.drop (i * 2)) E.ref.under refSize hRB1.drew
      (by rw [hdl, show Nat.min (n - i) (n - i) = n - i by simp only [Nat.min_def]; split <;> omega, Nat.sub_mul])
      (fun j v hj => by
        rw [Addr.add_lit]
        rw [List.getElem?_drop, hxs, List.getElem?_take] at hj
        split at hj
        · exact (hgg1.drew.cell _).trans (by simpa using hj)
        · cases hj)
      (by rw [hdl, List.size_toArray, hc1l]; omega) (fun v hv => h1 v (List.mem_of_mem_drop hv))
    rw [show Nat.min (n - i) (n - i) = n - i by simp only [Nat.min_def]; split <;> omega] at this
    exact this
  have HB : Sec (Blk (W1.drew.setRow g2 (Go.splice c1 ((i + 1) * 2) (xs.drop (i * 2))).toArray) g2 44 (Go.splice (Go.splice R (i * 2) x) (i * 2 + 2) (xs.drop (i * 2))).toArray) := sec (by
    rw [← hc1, show i * 2 + 2 = (i + 1) * 2 by omega]; exact hRB1.drew.of_setRow _)
  have HGW : Sec (w.grownBy (W1.drew.setRow g2 (Go.splice c1 ((i + 1) * 2) (xs.drop (i * 2))).toArray) none) := sec
    ⟨hgr1.os, hgr1.tape, hgr1.output, by simpa [World.setRow] using hgr1.size, fun k hk hne => by rw [setRow_other _ g2 k _ (by omega)]; exact hgr1.block k hk hne⟩
  have HRL := sec hRl
  have HRT := sec hRt
  have hkk : (n : Int) + 1 - (i : Int) = (k : Int) := by omega
  have hz2' : ¬ ((i : Int) = (n : Int)) := by omega
  have hw1 : IntKind.i64.wrap ((i : Int) + 1) = (i : Int) + 1 := by rw [IntKind.wrap_i64]; omega
  have htn : ((i : Int) + 1).toNat = i + 1 := by omega
  have hb1 : (0 : Int) ≤ (i : Int) + 1 := by omega
  have hb3 : (i : Int) ≤ (n : Int) := by omega
  have hb6 : (i : Int) ≤ (n : Int) + 1 := by omega
  have hb2 : ¬ (G = i + 1) := by omega
  have hb4 : ¬ (G = i) := by omega
  have hb5 : ¬ (cap = i) := by omega
  clear hc1 hc1l hRB1 hgg1 hgr1 hdl hxs h1 h1v hg hv hs hcs hRB hg0 hv0 hgr0 hRt hRl hW1 hW0 hR hold hcell hG hz0 hz1 hz2 hi0 hgl hvl hg2 hk hik
  go_enter Tryd.func26, Tryd.ntmps26
  go_wp2_with (first | (at_builtin; refine wpList_append_runA _ rfl (.tmp 34) (.tmp 39) 26 3 rfl _ _ rfl rfl (hrun _) ?_) | (at_builtin; refine wpList_copy_run _ rfl (.tmp 43) (.tmp 44) 26 26 rfl _ _ rfl rfl (hcp1 _ _) ?_))
  go_region_law (refine step_copy_run rfl _ _ 26 26 rfl _ _ (by simp [Act.eval, Act.put]) (by simp [Act.eval, Act.put]) (hcp2 _ _ _) ?_)
  go_wp2_with fail
  go_ret
  exact ⟨G, R, rfl, hG1, hG2, HRL.out, HRT.out, HB.out, HGW.out⟩
theorem rflat_take (fs : List Rf) : ∀ i, (fs.flatMap refV).take (i * 2) = (fs.take i).flatMap refV := by
  induction fs with
  | nil => intro i; simp
  | cons f r ih =>
    intro i
    cases i with
    | zero => simp
    | succ i =>
      have e : (i + 1) * 2 = (refV f).length + i * 2 := by simp [refV]; omega
      rw [List.take_succ_cons, List.flatMap_cons, List.flatMap_cons, e, List.take_length_add_append, ih]
theorem rflat_drop (fs : List Rf) : ∀ i, (fs.flatMap refV).drop (i * 2) = (fs.drop i).flatMap refV := by
  induction fs with
  | nil => intro i; simp
  | cons f r ih =>
    intro i
    cases i with
    | zero => simp
    | succ i =>
      have e : (i + 1) * 2 = (refV f).length + i * 2 := by simp [refV]; omega
      rw [List.drop_succ_cons, List.flatMap_cons, e, List.drop_length_add_append, ih]
theorem rflat_ins (fs : List Rf) (i : Nat) (f : Rf) : (fs.flatMap refV).take (i * 2) ++ (refV f ++ (fs.flatMap refV).drop (i * 2)) = (insR i f fs).flatMap refV := by
  rw [rflat_take, rflat_drop, insR, List.flatMap_append, List.flatMap_cons]
theorem rflat_del (fs : List Rf) (i : Nat) : (fs.flatMap refV).take (i * 2) ++ (fs.flatMap refV).drop (i * 2 + 2) = (fs.eraseIdx i).flatMap refV := by
  rw [rflat_take, show i * 2 + 2 = (i + 1) * 2 by omega, rflat_drop, List.eraseIdx_eq_take_drop_succ, List.flatMap_append]

theorem rinsert_any (A : Option Addr) (n cap i gv vc B : Nat) (fs : List Rf) (f : Rf) (w : World) (hown : w.ownsRow B 44 2 (.slice A n cap) n (fs.flatMap refV)) (hi : i ≤ n) (hn : n ≤ 1099511627776)
    (hv : Blk w gv 44 (refV f).toArray) (hne : (Value.slice A n cap).ownBlock ≠ some gv) (hB : B ≤ w.heap.size) :
    Calls Tryd.prog 26 #[.slice A n cap, .int .i64 (i : Int), .slice (some ⟨gv, 0, none⟩) 1 vc] w fun e w' =>
      ∃ A' cap', e = .returned (.slice A' (n + 1) cap') ∧ w'.ownsRow B 44 2 (.slice A' (n + 1) cap') (n + 1) ((insR i f fs).flatMap refV) ∧ w.grownBy w' (Value.ownBlock (.slice A n cap)) := by
  have h1v : ∀ v ∈ refV f, v.oneCell' = true := by intro v hv; simp [refV] at hv; rcases hv with rfl | rfl <;> rfl
  have hl : (fs.flatMap refV).length = n * 2 := hown.1
  have hfl : fs.length = n := by have := flat_len refV 2 (fun _ => rfl) fs; omega
  rcases Nat.lt_or_eq_of_le hi with hlt | rfl
  · rcases hown.2 with ⟨_, h0⟩ | ⟨g, cap', cur, hvv, hBg, hg, hnc, hcm, hcs, ht⟩
    · omega
    · injection hvv with hA _ hc
      subst hA hc
      have hgv : gv ≠ g := fun e => hne (by rw [e]; rfl)
      have hg' : Blk w g 44 cur.toList.toArray := by rw [Array.toArray_toList]; exact hg
      have hcl : cur.toList.length = cap * 2 := by simpa using hcs
      have h1 : ∀ v ∈ cur.toList.take (n * 2), v.oneCell' = true := by rw [ht]; exact refV_one
      by_cases hroom : n + 1 ≤ cap
      · refine (rins_shift g cap n i gv vc cur.toList (refV f) w hlt hroom hcm hgv hg' hcl hv rfl h1 h1v).mono ?_
        rintro e w' ⟨rfl, hb, hgr⟩
        refine ⟨_, _, rfl, ⟨?_, .inr ⟨g, cap, _, rfl, hBg, hb, hroom, hcm, ?_, ?_⟩⟩, hgr⟩
        · rw [flat_len refV 2 (fun _ => rfl)]; simp [insR]; omega
        · rw [ht, List.size_toArray]
          have hd : ((fs.flatMap refV).drop (i * 2)).length = n * 2 - i * 2 := by rw [List.length_drop, hl]
          have h3 : (refV f).length = 2 := rfl
          have h4 := Go.length_splice cur.toList (i * 2 + 2) ((fs.flatMap refV).drop (i * 2)) (by rw [hd, hcl]; omega)
          rw [Go.length_splice _ _ _ (by rw [h4, h3, hcl]; omega), h4, hcl]
        · rw [ht, List.toList_toArray, show (n + 1) * 2 = n * 2 + 2 by omega, ins_room cur.toList _ (refV f) (i * 2) (n * 2) 2 ht hl (by omega) rfl (by rw [hcl]; omega), rflat_ins]
      · refine (rins_grown g cap n i gv vc cur.toList (refV f) w hlt (by omega) hnc hn hg' hcl hv rfl h1 h1v).mono ?_
        rintro e w' ⟨G, R, rfl, hG1, hG2, hRl, hRt, hb, hgr⟩
        refine ⟨_, _, rfl, ⟨?_, .inr ⟨w.heap.size, G, _, rfl, hB, hb, hG1, hG2, ?_, ?_⟩⟩, ⟨hgr.os, hgr.tape, hgr.output, hgr.size, fun k hk _ => hgr.block k hk (by simp)⟩⟩
        · rw [flat_len refV 2 (fun _ => rfl)]; simp [insR]; omega
        · rw [ht, List.size_toArray]
          have hd : ((fs.flatMap refV).drop (i * 2)).length = n * 2 - i * 2 := by rw [List.length_drop, hl]
          have h3 : (refV f).length = 2 := rfl
          have h4 := Go.length_splice R (i * 2) (refV f) (by rw [h3, hRl]; omega)
          rw [Go.length_splice _ _ _ (by rw [h4, hd, hRl]; omega), h4, hRl]
        · rw [ht] at hRt
          rw [ht, List.toList_toArray, show (n + 1) * 2 = n * 2 + 2 by omega, ins_grow R _ (refV f) (i * 2) (n * 2) 2 hRt hl (by omega) rfl (by rw [hRl]; omega), rflat_ins]
  · refine (rins_end A i cap gv vc B _ (refV f) w hown hv rfl h1v hn hB).mono ?_
    rintro e w' ⟨A', cap', rfl, ho, hgr⟩
    refine ⟨A', cap', rfl, ?_, hgr⟩
    rw [← rflat_ins, List.take_of_length_le (by omega), List.drop_eq_nil_of_le (by omega), List.append_nil]
    exact ho

theorem zeroRef : ∀ w, (zeroValue 44).run Tryd.prog w = .ok (.agg #[.string (bs []), .string (bs [])]) w := by
  intro w
  obtain ⟨i0, hi0, h0, h1, _⟩ := info_parts E.ref.info
  simp [zeroValue, typeInfo, hi0, h0]

set_option maxHeartbeats 4000000 in
set_option maxRecDepth 100000 in
theorem rdel_walk (g cap n i : Nat) (cur : List Value) (w : World) (hi : i < n) (hnc : n ≤ cap) (hcap : cap ≤ maxLen) (hn : n ≤ 1099511627776) (hg : Blk w g 44 cur.toArray) (hs : cur.length = cap * 2)
    (h1 : ∀ v ∈ cur.take (n * 2), v.oneCell' = true) :
    Calls Tryd.prog 25 #[.slice (some ⟨g, 0, none⟩) n cap, .int .i64 (i : Int), .int .i64 ((i : Int) + 1)] w fun e w' =>
      e = .returned (.slice (some ⟨g, 0, none⟩) (n - 1) cap) ∧ Blk w' g 44 (Go.splice (Go.splice cur (i * 2) ((cur.take (n * 2)).drop (i * 2 + 2))) (n * 2 - 2) [.string (bs []), .string (bs [])]).toArray ∧ w.grownBy w' (some g) := by
  have hcs : (cur.take (n * 2)).length = n * 2 := by rw [List.length_take]; omega
  obtain ⟨i0, hi0, hz0, hz1, hz2⟩ := info_parts E.ref.info
  obtain ⟨news, hnews⟩ : ∃ news, news = (cur.take (n * 2)).drop (i * 2 + 2) := ⟨_, rfl⟩
  have hnl : news.length = (n - (i + 1)) * 2 := by rw [hnews, List.length_drop, hcs]; omega
  have hnc1 : ∀ v ∈ news, v.oneCell' = true := fun v hv => h1 v (by rw [hnews] at hv; exact List.mem_of_mem_drop hv)
  have hncell : ∀ j v, news[j]? = some v → w.cell? ⟨g, i * 2 + 2 + j, none⟩ = some v := fun j v hj => by
    rw [hnews, List.getElem?_drop, List.getElem?_take] at hj
    split at hj
    · exact (hg.cell _).trans (by simpa using hj)
    · cases hj
  rw [← hnews]
  obtain ⟨c1, hc1⟩ : ∃ c1, c1 = Go.splice cur (i * 2) news := ⟨_, rfl⟩
  have hc1l : c1.length = cap * 2 := by rw [hc1, Go.length_splice _ _ _ (by rw [hnl, hs]; omega), hs]
  have happ : ∀ ad ty c, (0 < n - (i + 1) → ad = ⟨g, (i + 1) * 2, none⟩) → (Builtin.append_ #[26, 26] ty #[.slice (some ⟨g, 0, none⟩) i cap, .slice (some ad) (n - (i + 1)) c]).run Tryd.prog w.drew = .ok (.slice (some ⟨g, 0, none⟩) (n - 1) cap) (w.drew.setRow g c1.toArray) := fun ad ty c had => by
    have := run_append_room (P := Tryd.prog) w.drew 26 ty 44 i0 E.ref.under hi0 g i cap cur.toArray hg.drew ad (n - (i + 1)) c news (by rw [hz1]; exact hnl)
      (fun j u hu => by
        have h0 : 0 < n - (i + 1) := by
          have := (List.getElem?_eq_some_iff.1 hu).1
          rw [hnl] at this; omega
        rw [had h0, Addr.add_lit]
        exact (by simpa using hncell j u hu : w.drew.cell? ⟨g, i * 2 + 2 + j, none⟩ = some u) |> fun h => by rw [show (i + 1) * 2 + j = i * 2 + 2 + j by omega]; exact h)
      hnc1 (by omega) (by rw [hz1, hnl, List.size_toArray, hs]; omega)
    rw [this, hz1, hc1, splice_eq, show i + (n - (i + 1)) = n - 1 by omega]
    simp only [List.append_assoc]
  have hg1 : Blk (w.drew.setRow g c1.toArray) g 44 c1.toArray := hg.drew.of_setRow _
  obtain ⟨W1, hW1⟩ : ∃ W1, W1 = w.drew.setRow g c1.toArray := ⟨_, rfl⟩
  have hgr1 : w.grownBy W1 (some g) := by
    rw [hW1]
    exact ⟨rfl, rfl, rfl, by simp [World.setRow], fun k hk hne => by rw [setRow_other _ g k _ (fun e => hne (by rw [e]))]; rfl⟩
  rw [← hW1] at happ hg1
  have hcl : ∀ ty c, (Builtin.clear_ #[26] ty #[.slice (some ⟨g, (n - 1) * 2, none⟩) 1 c]).run Tryd.prog W1 = .ok (.tuple #[]) (W1.setRow g (Go.splice c1 (n * 2 - 2) [.string (bs []), .string (bs [])]).toArray) := fun ty c => by
    have := run_clear_rowN (P := Tryd.prog) W1 26 44 ty _ E.ref.under zeroRef g ((n - 1) * 2) c c1.toArray 44 hg1 (by
      have : (Value.agg #[.string (bs []), .string (bs [])]).cells.size = 2 := E.ref.zcells
      rw [this, List.size_toArray, hc1l]; omega) (by intro v hv; simp [Value.cells] at hv; subst hv; rfl)
    rw [this, show (n - 1) * 2 = n * 2 - 2 by omega]
    rfl
  have HB : Sec (Blk (W1.setRow g (Go.splice c1 (n * 2 - 2) [.string (bs []), .string (bs [])]).toArray) g 44 (Go.splice (Go.splice cur (i * 2) news) (n * 2 - 2) [.string (bs []), .string (bs [])]).toArray) := sec (by
    rw [← hc1]; exact hg1.of_setRow _)
  have HGW : Sec (w.grownBy (W1.setRow g (Go.splice c1 (n * 2 - 2) [.string (bs []), .string (bs [])]).toArray) (some g)) := sec
    ⟨hgr1.os, hgr1.tape, hgr1.output, by simpa [World.setRow] using hgr1.size, fun k hk hne => by rw [setRow_other _ g k _ (fun e => hne (by rw [e]))]; exact hgr1.block k hk hne⟩
  have hz2' : ¬ ((i : Int) = (i : Int) + 1) := by omega
  have htn : ((i : Int) + 1).toNat = i + 1 := by omega
  have hb1 : (0 : Int) ≤ (i : Int) + 1 := by omega
  have hb3 : (i : Int) + 1 ≤ (n : Int) := by omega
  have hb4 : ¬ (cap = i) := by omega
  have hb5 : ¬ (cap = n - 1) := by omega
  have hb6 : (i : Int) ≤ (n : Int) := by omega
  have hb7 : (i : Int) ≤ (cap : Int) := by omega
  have hb8 : (n : Int) ≤ (cap : Int) := by omega
  have hb9 : n - (n - 1) = 1 := by omega
  have hb10 : (i : Int) ≤ (i : Int) + 1 := by omega
  clear hc1 hc1l hg1 h1 hg hs hcs hW1 hz0 hz1 hz2 hi0 hgr1 hnews hnl hnc1 hncell
  by_cases hce : cap = i + 1
  · subst hce
    go_enter Tryd.func25, Tryd.ntmps25
    go_wp2_with fail
    go_region_law (refine step_append_run (v := .slice (some ⟨g, 0, none⟩) i (i + 1)) (u := .slice (some ⟨g, 0, none⟩) (n - (i + 1)) 0) rfl (.tmp 22) (.tmp 25) 26 26 rfl ?hd ?hx (happ ⟨g, 0, none⟩ _ _ ?had) ?_; (case hd => simp [Act.eval, Act.put]); (case hx => simp [Act.eval, Act.put]; try omega); (case had => intro h; omega))
    go_wp2_with (at_builtin; refine wpList_clear_run _ rfl (.tmp 31) 26 rfl _ rfl (hcl _ _) ?_)
    go_ret
    exact ⟨rfl, HB.out, HGW.out⟩
  · go_enter Tryd.func25, Tryd.ntmps25
    go_wp2_with fail
    go_region_law (refine step_append_run (v := .slice (some ⟨g, 0, none⟩) i cap) (u := .slice (some ⟨g, (i + 1) * 2, none⟩) (n - (i + 1)) (cap - (i + 1))) rfl (.tmp 22) (.tmp 25) 26 26 rfl ?hd ?hx (happ ⟨g, (i + 1) * 2, none⟩ _ _ ?had) ?_; (case hd => simp [Act.eval, Act.put]); (case hx => simp [Act.eval, Act.put]; try omega); (case had => intro h; rfl))
    go_wp2_with (at_builtin; refine wpList_clear_run _ rfl (.tmp 31) 26 rfl _ rfl (hcl _ _) ?_)
    go_ret
    exact ⟨rfl, HB.out, HGW.out⟩

theorem rdelete_any (A : Option Addr) (n cap i B : Nat) (fs : List Rf) (w : World) (hown : w.ownsRow B 44 2 (.slice A n cap) n (fs.flatMap refV)) (hi : i < n) (hn : n ≤ 1099511627776) :
    Calls Tryd.prog 25 #[.slice A n cap, .int .i64 (i : Int), .int .i64 ((i : Int) + 1)] w fun e w' =>
      e = .returned (.slice A (n - 1) cap) ∧ w'.ownsRow B 44 2 (.slice A (n - 1) cap) (n - 1) ((fs.eraseIdx i).flatMap refV) ∧ w.grownBy w' (Value.ownBlock (.slice A n cap)) := by
  have hl : (fs.flatMap refV).length = n * 2 := hown.1
  have hfl : fs.length = n := by have := flat_len refV 2 (fun _ => rfl) fs; omega
  rcases hown.2 with ⟨_, h0⟩ | ⟨g, cap', cur, hvv, hBg, hg, hnc, hcm, hcs, ht⟩
  · omega
  · injection hvv with hA _ hc
    subst hA hc
    have hg' : Blk w g 44 cur.toList.toArray := by rw [Array.toArray_toList]; exact hg
    have hcl : cur.toList.length = cap * 2 := by simpa using hcs
    have h1 : ∀ v ∈ cur.toList.take (n * 2), v.oneCell' = true := by rw [ht]; exact refV_one
    refine (rdel_walk g cap n i cur.toList w hi hnc hcm hn hg' hcl h1).mono ?_
    rintro e w' ⟨rfl, hb, hgr⟩
    have hd : ((fs.flatMap refV).drop (i * 2 + 2)).length = n * 2 - (i * 2 + 2) := by rw [List.length_drop, hl]
    refine ⟨rfl, ⟨?_, .inr ⟨g, cap, _, rfl, hBg, hb, by omega, hcm, ?_, ?_⟩⟩, hgr⟩
    · rw [flat_len refV 2 (fun _ => rfl), List.length_eraseIdx_of_lt (by omega)]; omega
    · rw [ht, List.size_toArray]
      have h4 := Go.length_splice cur.toList (i * 2) ((fs.flatMap refV).drop (i * 2 + 2)) (by rw [hd, hcl]; omega)
      rw [Go.length_splice _ _ _ (by rw [h4, hcl]; simp; omega), h4, hcl]
    · rw [ht, List.toList_toArray, show (n - 1) * 2 = n * 2 - 2 by omega, del_room cur.toList _ (i * 2) (n * 2) 2 ht hl (by omega) (by rw [hcl]; omega) _ rfl, rflat_del]
set_option maxRecDepth 100000 in
set_option maxHeartbeats 2000000 in
theorem rclone_any (fs : List Rf) (A : Option Addr) (n cap : Nat) (w : World) (hn : n ≤ 1099511627776) (hx : RfRow w A n fs) (hA : A = none → n = 0 ∧ cap = 0) :
    Calls Tryd.prog 24 #[.slice A n cap] w fun e w' => ∃ A' cap', e = .returned (.slice A' n cap') ∧ w'.ownsRow w.heap.size 44 2 (.slice A' n cap') n (fs.flatMap refV) ∧ Gr w w' := by
  cases A with
  | none =>
    obtain ⟨rfl, rfl⟩ := hA rfl
    have hl := hx.len
    obtain rfl : fs = [] := List.eq_nil_of_length_eq_zero hl
    have hq : ∀ w, (eqGuard .eql 26 (.tmp 3) (.const (.slice none 0 0)) (.slice none 0 0) (.slice none 0 0)).run Tryd.prog w = .ok () w := by
      intro w; rfl
    have hz : ∀ w, (binOp .eql 26 (.slice none 0 0) (.slice none 0 0)).run Tryd.prog w = .ok (.bool true) w := fun w => Lib.run_eql_slice_nil w _ _ none 0 0 0 0 Tryd.underlying26
    go_enter Tryd.func24, Tryd.ntmps24
    go_wp2_with fail
    go_ret
    exact ⟨none, 0, rfl, World.ownsRow_nil _ _ _ _, Gr.refl _⟩
  | some ad =>
    have hq : ∀ w, (eqGuard .eql 26 (.tmp 3) (.const (.slice none 0 0)) (.slice (some ad) n cap) (.slice none 0 0)).run Tryd.prog w = .ok () w := by
      intro w; rfl
    have hz : ∀ w, (binOp .eql 26 (.slice (some ad) n cap) (.slice none 0 0)).run Tryd.prog w = .ok (.bool false) w := fun w => Lib.run_eql_slice_nil w _ _ (some ad) n cap 0 0 Tryd.underlying26
    have hb1 : (0 + n) * 32 ≤ 140737488355328 := by omega
    have hb2 : 0 + n ≤ maxLen := by unfold maxLen; omega
    have HX := sec hx
    clear hx
    go_enter Tryd.func24, Tryd.ntmps24
    go_wp2_with (refine wpList_append_row E.ref rfl (.tmp 5) (.tmp 6) rfl (B := w.heap.size) (A0 := some ⟨w.heap.size, 0, none⟩) (n0 := 0) (cap0 := 0) (xs := []) rfl (World.ownsRow_lit w #[] 0 (Nat.le_refl _) (by simp) rfl) rfl (RfRow.gr HX.out ((Gr.refl w).alloc _)) hA refV_one hb1 hb2 (by simp) ?_; intro A' c' w' hown hgn)
    go_ret
    rw [Nat.zero_add, List.nil_append] at hown
    exact ⟨A', c', rfl, hown, Gr.grown ((Gr.refl w).alloc _) hgn (fun k hk => by simp [Value.ownBlock] at hk; omega)⟩
end Go.Proofs.YtmmpekdbknclcaaDoor

namespace Go.Proofs.YtmmpekdbknclcaaDoor
set_option maxRecDepth 100000
open Go.RowKit
set_option linter.unusedVariables false
theorem rflat_set (fs : List Rf) : ∀ (i : Nat) (h : i < fs.length) (j : Nat) (u : Value) (f' : Rf), j < 2 → refV f' = (refV fs[i]).set j u → (fs.flatMap refV).set (i * 2 + j) u = (fs.set i f').flatMap refV := by
  induction fs with
  | nil => intro i h; simp at h
  | cons f r ih =>
    intro i h j u f' hj he
    cases i with
    | zero =>
      simp only [List.getElem_cons_zero] at he
      rw [List.flatMap_cons, List.set_append_left _ _ (by simp [refV]; omega), Nat.zero_mul, Nat.zero_add, ← he]
      rfl
    | succ i =>
      simp only [List.getElem_cons_succ] at he
      have := ih i (by simpa using h) j u f' hj he
      rw [List.flatMap_cons, List.set_append_right _ _ (by simp [refV]; omega), List.set_cons_succ, List.flatMap_cons, ← this]
      congr 2
      simp [refV]; omega
theorem rown_set {w : World} {B e n cap g : Nat} {fs : List Rf} (h : w.ownsRow B e 2 (.slice (some ⟨g, 0, none⟩) n cap) n (fs.flatMap refV)) (i : Nat) (hi : i < fs.length) (name id : List UInt8) (hn : fs[i].1 = name) :
    (w.setCell ⟨g, i * 2 + 1, none⟩ (.string (bs id))).ownsRow B e 2 (.slice (some ⟨g, 0, none⟩) n cap) n ((fs.set i (name, id)).flatMap refV) := by
  have hfl : (fs.flatMap refV).length = fs.length * 2 := flat_len refV 2 (fun _ => rfl) fs
  have o1 := own_set h (i * 2 + 1) (by rw [hfl]; omega) (.string (bs id))
  rw [rflat_set fs i hi 1 (.string (bs id)) (name, id) (by omega) (by rw [← hn]; rfl)] at o1
  exact o1
theorem row_of_own {w : World} {B n cap : Nat} {A : Option Addr} {fs : List Rf} (h : w.ownsRow B 44 2 (.slice A n cap) n (fs.flatMap refV)) : RfRow w A n fs := Row.own h
theorem own_nil2 {w : World} {k e n cap : Nat} {A : Option Addr} {xs : List Value} (h : w.ownsRow k e 2 (.slice A n cap) n xs) : A = none → n = 0 ∧ cap = 0 := by
  intro e
  rcases h.2 with ⟨h, h0⟩ | ⟨g, _, _, h, _⟩
  · injection h with _ h2 h3
    exact ⟨h0, h3⟩
  · injection h with h2 _ _
    rw [e] at h2; cases h2
/-- what a call of Set gives -/
structure SetPost (w : World) (V : List Rf × Int) (e : Ending) (w' : World) : Prop where
  ex : ∃ A c n, n = V.1.length ∧ e = .returned (.tuple #[.slice A n c, .int .i64 V.2]) ∧ RfRow w' A n V.1 ∧ (A = none → n = 0 ∧ c = 0) ∧ Gr w w'
theorem SetPost.bad {w w' : World} {V : List Rf × Int} {k : Int} (h : V = ([], k)) (g : Gr w w') : SetPost w V (.returned (.tuple #[.slice none 0 0, .int .i64 k])) w' := by
  subst h
  exact ⟨none, 0, 0, rfl, rfl, Row.nil _ _ _, fun _ => ⟨rfl, rfl⟩, g⟩
theorem SetPost.own {w w' : World} {V : List Rf × Int} {fs : List Rf} {A : Option Addr} {n c : Nat} (h : V = (fs, 0)) (o : w'.ownsRow w.heap.size 44 2 (.slice A n c) n (fs.flatMap refV)) (g : Gr w w') : SetPost w V (.returned (.tuple #[.slice A n c, .int .i64 0])) w' := by
  subst h
  exact ⟨A, c, n, (RfRow.len (row_of_own o)).symm, rfl, row_of_own o, own_nil2 o, g⟩
set_option maxHeartbeats 8000000 in
theorem rset_any (fs : List Rf) (name old id : List UInt8) (A : Option Addr) (n cap : Nat) (w : World) (hn : n ≤ 1099511627776) (hx : RfRow w A n fs) (hA : A = none → n = 0 ∧ cap = 0)
    (hs : ∀ f ∈ fs, f.1.length ≤ 1099511627776 ∧ f.2.length ≤ 1099511627776) (hnm : name.length ≤ 1099511627776) (hod : old.length ≤ 1099511627776) (hid : id.length ≤ 1099511627776) :
    Calls Tryd.prog 11 #[.slice A n cap, .string (bs name), .string (bs old), .string (bs id)] w fun e w' => SetPost w (setR fs name old id) e w' := by
  have HGo := sec (rgoodL_any fs A n cap w hn hx hs)
  have HNa := sec (fun w => refNamed_any name w hnm)
  have HX := sec hx
  have HA := sec hA
  have hl := hx.len
  obtain ⟨V, hV⟩ : ∃ V, V = setR fs name old id := ⟨_, rfl⟩
  rw [← hV]
  have HV : Sec (V = setR fs name old id) := sec hV
  clear hV hx hA hs
  cases hG : goodR fs with
  | false =>
    have HV3 : Sec (V = ([], 3)) := sec (by rw [HV.out]; unfold setR; rw [hG]; rfl)
    rw [hG] at HGo
    clear hG
    go_enter Tryd.func11, Tryd.ntmps11
    go_wp2_with (go_at_call 20; refine Calls.mono HGo.out ?_; rintro e w1 ⟨rfl, g1⟩)
    go_ret2
    exact SetPost.bad HV3.out g1
  | true =>
    obtain ⟨h32, hsz, hso⟩ := goodR_sorted hG
    have HSO : Sec (SortedR fs) := sec hso
    have HV1 : Sec (V = if refB name = true ∧ mayB old = true ∧ mayB id = true then
      (if getR fs name = old then
        (if hasR name fs = true then (if id = [] then (fs.eraseIdx (lbR name fs), 0) else (fs.set (lbR name fs) (name, id), 0))
        else if id = [] then (fs, 0) else if 32 ≤ fs.length then ([], 6) else (insR (lbR name fs) (name, id) fs, 0))
      else ([], 9)) else ([], 2)) := sec (by rw [HV.out]; unfold setR; rw [hG]; rfl)
    rw [hG] at HGo
    clear hG hso hsz
    obtain ⟨ok, hok⟩ : ∃ ok : Bool, ok = (refB name && (mayB old && mayB id)) := ⟨_, rfl⟩
    have HOK := sec hok
    clear hok
    go_enter Tryd.func11, Tryd.ntmps11
    go_upto_region 3 with (go_at_call 20; refine Calls.mono HGo.out ?_; rintro e w1 ⟨rfl, g1⟩)
    go_cut [17] from 18 to 40 (fun v wc => v = .bool (!ok) ∧ Gr w wc)
    case first =>
      obtain ⟨rb, hrb⟩ : ∃ b, b = refB name := ⟨_, rfl⟩
      rw [← hrb] at HNa
      have hok : ok = (rb && (mayB old && mayB id)) := by rw [HOK.out, hrb]
      clear hrb
      cases rb
      · have HX : Sec (ok = false) := sec (by rw [hok]; rfl)
        clear hok
        go_wp2_with (go_at_call 21; refine Calls.mono (HNa.out _) ?_; rintro e w2 ⟨rfl, g2⟩)
        go_meet
        exact ⟨by rw [HX.out]; rfl, g1.trans g2⟩
      · rcases may_cases old with ⟨a1, a2⟩ | ⟨a1, a2, a3⟩ | ⟨a1, a2, a3⟩
        · rw [a2] at hok
          clear a2
          rcases may_cases id with ⟨b1, b2⟩ | ⟨b1, b2, b3⟩ | ⟨b1, b2, b3⟩
          · rw [b2] at hok
            clear b2
            have HX : Sec (ok = true) := sec (by rw [hok]; rfl)
            clear hok
            go_wp2_with (go_at_call 21; refine Calls.mono (HNa.out _) ?_; rintro e w2 ⟨rfl, g2⟩)
            go_meet
            exact ⟨by rw [HX.out]; rfl, g1.trans g2⟩
          · rw [b3] at hok
            clear b3
            have HX : Sec (ok = true) := sec (by rw [hok]; rfl)
            clear hok
            go_wp2_with (go_at_call 21; refine Calls.mono (HNa.out _) ?_; rintro e w2 ⟨rfl, g2⟩)
            go_meet
            exact ⟨by rw [HX.out]; rfl, g1.trans g2⟩
          · rw [b3] at hok
            clear b3
            have HX : Sec (ok = false) := sec (by rw [hok]; rfl)
            clear hok
            go_wp2_with (go_at_call 21; refine Calls.mono (HNa.out _) ?_; rintro e w2 ⟨rfl, g2⟩)
            go_meet
            exact ⟨by rw [HX.out]; rfl, g1.trans g2⟩
        · rw [a3] at hok
          clear a3
          rcases may_cases id with ⟨b1, b2⟩ | ⟨b1, b2, b3⟩ | ⟨b1, b2, b3⟩
          · rw [b2] at hok
            clear b2
            have HX : Sec (ok = true) := sec (by rw [hok]; rfl)
            clear hok
            go_wp2_with (go_at_call 21; refine Calls.mono (HNa.out _) ?_; rintro e w2 ⟨rfl, g2⟩)
            go_meet
            exact ⟨by rw [HX.out]; rfl, g1.trans g2⟩
          · rw [b3] at hok
            clear b3
            have HX : Sec (ok = true) := sec (by rw [hok]; rfl)
            clear hok
            go_wp2_with (go_at_call 21; refine Calls.mono (HNa.out _) ?_; rintro e w2 ⟨rfl, g2⟩)
            go_meet
            exact ⟨by rw [HX.out]; rfl, g1.trans g2⟩
          · rw [b3] at hok
            clear b3
            have HX : Sec (ok = false) := sec (by rw [hok]; rfl)
            clear hok
            go_wp2_with (go_at_call 21; refine Calls.mono (HNa.out _) ?_; rintro e w2 ⟨rfl, g2⟩)
            go_meet
            exact ⟨by rw [HX.out]; rfl, g1.trans g2⟩
        · rw [a3] at hok
          clear a3
          have hok : ok = false := by rw [hok]; simp
          have HX : Sec (ok = false) := sec hok
          clear hok
          go_wp2_with (go_at_call 21; refine Calls.mono (HNa.out _) ?_; rintro e w2 ⟨rfl, g2⟩)
          go_meet
          exact ⟨by rw [HX.out]; rfl, g1.trans g2⟩
    case rest =>
      clear g1
      obtain ⟨rfl, g2⟩ := hcut
      cases ok with
      | false =>
        have HV2 : Sec (V = ([], 2)) := sec (by
          rw [HV1.out, if_neg]
          rintro ⟨h1, h2, h3⟩
          have := HOK.out
          rw [h1, h2, h3] at this
          cases this)
        go_wp2_with fail
        go_ret2
        exact SetPost.bad HV2.out g2
      | true =>
        have HV2 : Sec (V = if getR fs name = old then
          (if hasR name fs = true then (if id = [] then (fs.eraseIdx (lbR name fs), 0) else (fs.set (lbR name fs) (name, id), 0))
          else if id = [] then (fs, 0) else if 32 ≤ fs.length then ([], 6) else (insR (lbR name fs) (name, id) fs, 0))
        else ([], 9)) := sec (by
          have := HOK.out.symm
          simp only [Bool.and_eq_true] at this
          rw [HV1.out, if_pos this])
        have HGt : Sec (∀ w', Gr w w' → Calls Tryd.prog 22 #[.slice A n cap, .string (bs name)] w' fun e w'' => e = .returned (.string (bs (getR fs name))) ∧ Gr w' w'') := sec (fun w' g => rget_any fs name A n cap w' hn (HX.out.gr g) HSO.out)
        have HFi : Sec (∀ w', Gr w w' → Calls Tryd.prog 23 #[.slice A n cap, .string (bs name)] w' fun e w'' => e = .returned (.tuple #[.int .i64 (lbR name fs : Int), .bool (hasR name fs)]) ∧ Gr w' w'') := sec (fun w' g => rfind_any fs name A n cap w' hn (HX.out.gr g) HSO.out)
        have HCl : Sec (∀ w', Gr w w' → Calls Tryd.prog 24 #[.slice A n cap] w' fun e w'' => ∃ A' cap', e = .returned (.slice A' n cap') ∧ w''.ownsRow w'.heap.size 44 2 (.slice A' n cap') n (fs.flatMap refV) ∧ Gr w' w'') := sec (fun w' g => rclone_any fs A n cap w' hn (HX.out.gr g) HA.out)
        have HLB : Sec (lbR name fs ≤ fs.length) := sec (by unfold lbR; exact (List.takeWhile_sublist _).length_le)
        have HAS : Sec (hasR name fs = true → ∃ hi : lbR name fs < fs.length, fs[lbR name fs].1 = name) := sec (fun h => by obtain ⟨h1, h2, _⟩ := getR_has HSO.out h; exact ⟨h1, h2⟩)
        obtain ⟨gt, hgt⟩ : ∃ g, g = getR fs name := ⟨_, rfl⟩
        obtain ⟨k, hk⟩ : ∃ k, k = lbR name fs := ⟨_, rfl⟩
        obtain ⟨hh, hhh⟩ : ∃ b, b = hasR name fs := ⟨_, rfl⟩
        rw [← hgt, ← hk, ← hhh] at HV2
        rw [← hgt] at HGt
        rw [← hk, ← hhh] at HFi HAS
        rw [← hk] at HLB
        have hkl := HLB.out
        clear hgt hk hhh HV HV1 HOK
        by_cases hgo : gt = old
        · have q0 : (gt == old) = true := by rw [beq_iff_eq]; exact hgo
          have HV3 : Sec (V = if hh = true then (if id = [] then (fs.eraseIdx k, 0) else (fs.set k (name, id), 0))
            else if id = [] then (fs, 0) else if 32 ≤ fs.length then ([], 6) else (insR k (name, id) fs, 0)) := sec (by rw [HV2.out, if_pos hgo])
          clear hgo HV2
          go_upto_region 9 with (first
            | (go_at_call 22; (with_reducible refine Calls.mono (HGt.out _ g2) ?_); rintro e w3 ⟨rfl, g3'⟩; have g3 := Gr.trans g2 g3')
            | (go_at_call 23; (with_reducible refine Calls.mono (HFi.out _ g3) ?_); rintro e w4 ⟨rfl, g4'⟩; have g4 := Gr.trans g3 g4')
            | (go_at_call 24; (with_reducible refine Calls.mono (HCl.out _ g4) ?_); rintro e w5 ⟨A5, c5, rfl, o5, g5'⟩; have g5 := Gr.trans g4 g5'))
          have O5 := sec (own_low o5 g4.size)
          clear o5 g3' g4' g5' g3 q0
          by_cases hi0 : id = []
          · have q1 : (id == []) = true := by rw [beq_iff_eq]; exact hi0
            cases hh with
            | true =>
              obtain ⟨hi, h1⟩ := HAS.out rfl
              have HV4 : Sec (V = (fs.eraseIdx k, 0)) := sec (by rw [HV3.out, if_pos rfl, if_pos hi0])
              have hkn : k < n := by omega
              have HDe := sec (rdelete_any A5 n c5 k w.heap.size fs w5 O5.out hkn hn)
              clear hi0 HV3 h1 hi
              go_wp2_with (go_at_call 25; refine Calls.mono HDe.out ?_; rintro e w6 ⟨rfl, o6, g6⟩)
              go_ret2
              exact SetPost.own HV4.out o6 (Gr.grown g5 g6 (fun k hk => (O5.out.lt k hk).1))
            | false =>
              have HV4 : Sec (V = (fs, 0)) := sec (by rw [HV3.out, if_neg (by simp), if_pos hi0])
              clear hi0 HV3
              go_wp2_with fail
              go_ret2
              exact SetPost.own HV4.out O5.out g5
          · have q1 : (id == []) = false := by rw [beq_eq_false_iff_ne]; exact hi0
            cases hh with
            | true =>
              obtain ⟨hi, h1⟩ := HAS.out rfl
              have HV4 : Sec (V = (fs.set k (name, id), 0)) := sec (by rw [HV3.out, if_pos rfl, if_neg hi0])
              have hkn : (k : Int) < (n : Int) := by omega
              have HH1 := sec (And.intro hi h1)
              obtain ⟨g, rfl, hfz⟩ : ∃ g, A5 = some ⟨g, 0, none⟩ ∧ w5.frozen? ⟨g, k * 2 + 1, none⟩ = false := by
                rcases O5.out.2 with ⟨_, h0⟩ | ⟨g, cap', cur, hv, _, hb, _⟩
                · omega
                · injection hv with hv _ _
                  have hb' : Blk w5 g 44 cur := hb
                  exact ⟨g, hv, hb'.frozen _⟩
              have hce : w5.cell? ⟨g, k * 2 + 1, none⟩ = some (.string (bs (fs[k]'hi).2)) := by
                obtain ⟨b, off, e, _, h3⟩ := (row_of_own O5.out).cell hi
                injection e with e; injection e with e1 e2 _
                subst e1 e2
                rw [Nat.zero_add] at h3
                exact h3
              obtain ⟨y, hy⟩ : ∃ y, y = fs[k]'hi := ⟨_, rfl⟩
              rw [← hy] at hce
              clear hi0 HV3 hy
              go_wp2_with fail
              go_ret2
              have o7 := rown_set O5.out k HH1.out.1 name id HH1.out.2
              exact SetPost.own HV4.out o7 (g5.setCell (p := ⟨g, k * 2 + 1, none⟩) (O5.out.lt g rfl).1 _)
            | false =>
              by_cases h32 : 32 ≤ fs.length
              · have q2 : decide ((32 : Int) ≤ (n : Int)) = true := decide_eq_true (by omega)
                have HV4 : Sec (V = ([], 6)) := sec (by rw [HV3.out, if_neg (by simp), if_neg hi0, if_pos h32])
                clear hi0 HV3
                go_wp2_with fail
                go_ret2
                exact SetPost.bad HV4.out g5
              · have q2 : decide ((32 : Int) ≤ (n : Int)) = false := decide_eq_false (by omega)
                have HV4 : Sec (V = (insR k (name, id) fs, 0)) := sec (by rw [HV3.out, if_neg (by simp), if_neg hi0, if_neg h32])
                have hkn : k ≤ n := by omega
                have HIn := sec (rinsert_any A5 n c5 k w5.heap.size 1 w.heap.size fs (name, id) (w5.alloc (.cells #[.string (bs name), .string (bs id)] 44)) (O5.out.alloc _) hkn hn (Blk.new _ _ _) (fun e => by have := (O5.out.lt _ e).2; omega) (by have := g5.size; simp; omega))
                clear hi0 HV3 h32
                go_wp2_with (go_at_call 26; refine Calls.mono HIn.out ?_; rintro e w6 ⟨A6, c6, rfl, o6, g6⟩)
                go_ret2
                exact SetPost.own HV4.out o6 (Gr.grown (g5.alloc _) g6 (fun k hk => (O5.out.lt k hk).1))
        · have q0 : (gt == old) = false := by rw [beq_eq_false_iff_ne]; exact hgo
          have HV3 : Sec (V = ([], 9)) := sec (by rw [HV2.out, if_neg hgo])
          clear hgo
          go_wp2_with (go_at_call 22; (with_reducible refine Calls.mono (HGt.out _ g2) ?_); rintro e w3 ⟨rfl, g3'⟩; have g3 := Gr.trans g2 g3')
          go_ret2
          exact SetPost.bad HV3.out g3
end Go.Proofs.YtmmpekdbknclcaaDoor

namespace Go.Proofs.YtmmpekdbknclcaaDoor
set_option maxRecDepth 100000
open Go.RowKit
set_option linter.unusedVariables false
theorem aggKeys : AggOk 24 3 := ⟨⟨_, Tryd.underlying24, rfl⟩, by kernel_rfl⟩

/-- a row of strings of the call's own, in a block behind p -/
def FarStr (p : Nat) (w : World) (A : Option Addr) (n cap : Nat) (ss : List (List UInt8)) : Prop := ∃ B, p < B ∧ w.ownsRow B 9 1 (.slice A n cap) n (ss.map strV)
theorem FarStr.nil {p : Nat} {w : World} {A : Option Addr} {n cap : Nat} {ss : List (List UInt8)} (h : FarStr p w A n cap ss) : A = none → n = 0 ∧ cap = 0 := by
  intro e
  obtain ⟨B, _, h⟩ := h
  rcases h.2 with ⟨h, h0⟩ | ⟨g, _, _, h, _⟩
  · injection h with _ h2 h3
    exact ⟨h0, h3⟩
  · injection h with h2 _ _
    rw [e] at h2; cases h2
theorem FarStr.gr {p : Nat} {w w' : World} {A : Option Addr} {n cap : Nat} {ss : List (List UInt8)} (h : FarStr p w A n cap ss) (g : Gr w w') : FarStr p w' A n cap ss := by
  obtain ⟨B, hB, h⟩ := h
  exact ⟨B, hB, own_gr h g⟩
theorem FarStr.row {p : Nat} {w : World} {A : Option Addr} {n cap : Nat} {ss : List (List UInt8)} (h : FarStr p w A n cap ss) : StrRow w A n ss := by
  obtain ⟨B, hB, h⟩ := h
  exact Row.own h
theorem FarStr.set_ {p : Nat} {w : World} {A : Option Addr} {n cap : Nat} {ss : List (List UInt8)} (h : FarStr p w A n cap ss) {a : Addr} (ha : a.block ≤ p) (u : Value) : FarStr p (w.setCell a u) A n cap ss := by
  obtain ⟨B, hB, h⟩ := h
  exact ⟨B, hB, ownsRow_setCell_other h (fun e => by have := (h.lt _ e).1; omega) u⟩

set_option maxHeartbeats 4000000 in
theorem keys_any (A : Option Addr) (n c : Nat) (B : Option Addr) (m d : Nat) (need : Int) (ss ws : List (List UInt8)) (w : World) (hn : n ≤ 1099511627776) (hm : m ≤ 1099511627776)
    (hx : StrRow w A n ss) (hA : A = none → n = 0 ∧ c = 0) (hy : StrRow w B m ws) (hB : B = none → m = 0 ∧ d = 0) :
    Calls Tryd.prog 5 #[.agg (keysA A n c B m d need)] w fun e w' => ∃ A' c' B' d', e = .returned (.agg (keysA A' n c' B' m d' need)) ∧ StrRow w' A' n ss ∧ (A' = none → n = 0 ∧ c' = 0) ∧ StrRow w' B' m ws ∧ (B' = none → m = 0 ∧ d' = 0) ∧ Gr w w' := by
  unfold keysA
  go_enter Tryd.func5, Tryd.ntmps5
  go_wp2_with fail
  have hg0 : Gr w ((w.alloc (.cells #[.slice A n c, .slice B m d, .int .i64 need] 24)).alloc (.cells #[.slice none 0 0, .slice none 0 0, .int .i64 0] 24)) := ((Gr.refl w).alloc _).alloc _
  have hb1' : Blk ((w.alloc (.cells #[.slice A n c, .slice B m d, .int .i64 need] 24)).alloc (.cells #[.slice none 0 0, .slice none 0 0, .int .i64 0] 24)) w.heap.size 24 #[.slice A n c, .slice B m d, .int .i64 need] := (Blk.new w _ _).alloc _
  have hb2' := Blk.new1 w (.cells #[.slice A n c, .slice B m d, .int .i64 need] 24) 24 #[.slice none 0 0, .slice none 0 0, .int .i64 0]
  obtain ⟨wa, hwa⟩ : ∃ x, x = (w.alloc (.cells #[.slice A n c, .slice B m d, .int .i64 need] 24)).alloc (.cells #[.slice none 0 0, .slice none 0 0, .int .i64 0] 24) := ⟨_, rfl⟩
  rw [← hwa] at hg0 hb1' hb2'
  rw [← hwa]
  obtain ⟨p1, hp1⟩ : ∃ p1, p1 = w.heap.size := ⟨_, rfl⟩
  have hp1le : w.heap.size ≤ p1 + 1 := by omega
  rw [← hp1] at hb1' hb2'
  rw [← hp1]
  clear hwa hp1
  have HS1 : Sec (∀ W, Gr wa W → Calls Tryd.prog 12 #[.slice A n c] W fun e w' => ∃ A' cap', e = .returned (.slice A' n cap') ∧ FarStr (p1 + 1) w' A' n cap' ss ∧ Gr W w') := sec (fun W g => (strings_any ss n A c W hn ((hx.gr hg0).gr g) hA).mono fun e w' ⟨A', c', he, ho, hg⟩ => ⟨A', c', he, ⟨_, (hb2'.gr g).lt, ho⟩, hg⟩)
  have HS2 : Sec (∀ W, Gr wa W → Calls Tryd.prog 12 #[.slice B m d] W fun e w' => ∃ A' cap', e = .returned (.slice A' m cap') ∧ FarStr (p1 + 1) w' A' m cap' ws ∧ Gr W w') := sec (fun W g => (strings_any ws m B d W hm ((hy.gr hg0).gr g) hB).mono fun e w' ⟨A', c', he, ho, hg⟩ => ⟨A', c', he, ⟨_, (hb2'.gr g).lt, ho⟩, hg⟩)
  have HB1 := sec hb1'
  have HB2 := sec hb2'
  have HG0 := sec hg0
  have HSK : Sec (∀ w', Gr wa w' → w'.cell? ⟨p1, 0, none⟩ = some (.slice A n c) ∧ w'.cell? ⟨p1, 1, none⟩ = some (.slice B m d) ∧ w'.cell? ⟨p1, 2, none⟩ = some (.int .i64 need) ∧ w'.cell? ⟨p1 + 1, 0, none⟩ = some (.slice none 0 0) ∧ w'.cell? ⟨p1 + 1, 1, none⟩ = some (.slice none 0 0) ∧ w'.cell? ⟨p1 + 1, 2, none⟩ = some (.int .i64 0) ∧ w'.frozen? ⟨p1 + 1, 0, none⟩ = false ∧ w'.frozen? ⟨p1 + 1, 1, none⟩ = false ∧ w'.frozen? ⟨p1 + 1, 2, none⟩ = false) := sec (fun w' g => ⟨(HB1.out.gr g).cell 0, (HB1.out.gr g).cell 1, (HB1.out.gr g).cell 2, (HB2.out.gr g).cell 0, (HB2.out.gr g).cell 1, (HB2.out.gr g).cell 2, (HB2.out.gr g).frozen 0, (HB2.out.gr g).frozen 1, (HB2.out.gr g).frozen 2⟩)
  have HST : Sec (∀ w' u v x, Gr wa w' → (((w'.setCell ⟨p1 + 1, 0, none⟩ u).setCell ⟨p1 + 1, 1, none⟩ v).setCell ⟨p1 + 1, 2, none⟩ x).cell? ⟨p1, 0, none⟩ = some (.slice A n c) ∧ (((w'.setCell ⟨p1 + 1, 0, none⟩ u).setCell ⟨p1 + 1, 1, none⟩ v).setCell ⟨p1 + 1, 2, none⟩ x).cell? ⟨p1, 1, none⟩ = some (.slice B m d) ∧ (((w'.setCell ⟨p1 + 1, 0, none⟩ u).setCell ⟨p1 + 1, 1, none⟩ v).setCell ⟨p1 + 1, 2, none⟩ x).cell? ⟨p1, 2, none⟩ = some (.int .i64 need)) := sec (fun w' u v x g => by
    have h := (((HB1.out.gr g).far (p := ⟨p1 + 1, 0, none⟩) (by show p1 ≠ p1 + 1; omega) u).far (p := ⟨p1 + 1, 1, none⟩) (by show p1 ≠ p1 + 1; omega) v).far (p := ⟨p1 + 1, 2, none⟩) (by show p1 ≠ p1 + 1; omega) x
    exact ⟨h.cell 0, h.cell 1, h.cell 2⟩)
  clear hx hy hA hB hb1' hb2' hg0
  have gd : Gr wa wa.drew := (Gr.refl _).drew
  have HSD := HSK.out wa.drew gd
  go_region_held3 (fun w' => w'.cell? ⟨p1, 0, none⟩ = some (.slice A n c) ∧ w'.cell? ⟨p1, 1, none⟩ = some (.slice B m d) ∧ w'.cell? ⟨p1, 2, none⟩ = some (.int .i64 need))
    (first | with_reducible assumption | exact ⟨HSD.1, HSD.2.1, HSD.2.2.1⟩ | exact ⟨k0, k1, k2⟩ | exact ⟨l0, l1, l2⟩ | exact HST.out _ _ _ _ G5 | exact HST.out _ _ _ _ G4 | fail)
    (first
      | (go_at_call 12; (with_reducible refine Calls.mono (HS1.out _ (by first | with_reducible assumption)) ?_); rintro e w4 ⟨A1, c1, rfl, r1, g4⟩; have G4 : Gr wa w4 := Gr.trans (by with_reducible assumption) g4; obtain ⟨k0, k1, k2, k3, k4, k5, k6, k7, k8⟩ := HSK.out w4 G4)
      | (go_at_call 12; (with_reducible refine Calls.mono (HS2.out _ (by first | with_reducible assumption)) ?_); rintro e w5 ⟨B1, d1, rfl, r2, g5⟩; have G5 : Gr wa w5 := Gr.trans (by with_reducible assumption) g5; obtain ⟨l0, l1, l2, l3, l4, l5, l6, l7, l8⟩ := HSK.out w5 G5)
      | fail)
  all_goals
    have f1 := (((r1.gr g5).set_ (a := ⟨p1 + 1, 0, none⟩) (Nat.le_refl _) (.slice A1 n c1)).set_ (a := ⟨p1 + 1, 1, none⟩) (Nat.le_refl _) (.slice B1 m d1)).set_ (a := ⟨p1 + 1, 2, none⟩) (Nat.le_refl _) (.int .i64 need)
    have f2 := ((r2.set_ (a := ⟨p1 + 1, 0, none⟩) (Nat.le_refl _) (.slice A1 n c1)).set_ (a := ⟨p1 + 1, 1, none⟩) (Nat.le_refl _) (.slice B1 m d1)).set_ (a := ⟨p1 + 1, 2, none⟩) (Nat.le_refl _) (.int .i64 need)
    have hB2 := (((HB2.out.gr G5).set_ 0 (.slice A1 n c1)).set_ 1 (.slice B1 m d1)).set_ 2 (.int .i64 need)
    have hG2 := (((HG0.out.trans G5).setCell (p := ⟨p1 + 1, 0, none⟩) hp1le (.slice A1 n c1)).setCell (p := ⟨p1 + 1, 1, none⟩) hp1le (.slice B1 m d1)).setCell (p := ⟨p1 + 1, 2, none⟩) hp1le (.int .i64 need)
    clear k0 k1 k2 k3 k4 k5 k6 k7 k8 l0 l1 l2 l3 l4 l5 l6 l7 l8 HSD
    go_wp2_with fail
    refine bodyPost_ret (results_blk rfl _ rfl hB2 aggKeys) rfl ?_
    exact ⟨A1, _, B1, _, rfl, f1.row, f1.nil, f2.row, f2.nil, hG2⟩
end Go.Proofs.YtmmpekdbknclcaaDoor

namespace Go.Proofs.YtmmpekdbknclcaaDoor
set_option maxRecDepth 100000
open Go.RowKit
set_option linter.unusedVariables false
set_option maxHeartbeats 8000000 in
theorem repl_any (A0 : Option Addr) (m c0 : Nat) (B0 : Option Addr) (m' d0 : Nat) (need : Int) (ss : List (List UInt8)) (es : List SA) (l : List Stp) (A : Option Addr) (c : Nat) (w : World)
    (hK : StrRow w A0 m ss) (hm : m ≤ 1099511627776) (hss : ∀ x ∈ ss, x.length ≤ 1099511627776) (hx : StsR w A es.length es) (hl : l = es.map (·.s)) (hn : es.length ≤ 1099511627776) (hz : ∀ e ∈ es, StSz 1099511627776 e.s) (hT : TabK w) :
    Calls Tryd.prog 4 #[.agg (keysA A0 m c0 B0 m' d0 need), .slice A es.length c] w fun e w' => ∃ A' c' n', n' = (rpR ss need l).1.length ∧ e = .returned (.tuple #[.slice A' n' c', .int .i64 (rpR ss need l).2.1, .int .i64 (rpR ss need l).2.2]) ∧ RfRow w' A' n' (rpR ss need l).1 ∧ Gr w w' := by
  have HX := sec hx
  have HCk : Sec (∀ i (h : i < es.length) W, Gr w W → Calls Tryd.prog 10 #[.agg (keysA A0 m c0 B0 m' d0 need), .int .i64 (i : Int), .agg (stepA es[i].s es[i].A es[i].c es[i].B es[i].d)] W fun e w' => e = .returned (.int .i64 (stCk ss need (i : Int) es[i].s)) ∧ Gr W w') := sec (fun i h W g =>
    stCheck_any A0 m c0 B0 m' d0 need ss (i : Int) es[i].s es[i].A es[i].c es[i].B es[i].d W (hK.gr g) hm hss ((hx.each _ (List.getElem_mem h)).gr g) (hz _ (List.getElem_mem h)) (hT.gr g))
  have HSe : Sec (∀ (s : Stp) (fs : List Rf) A2 c2 W, RfRow W A2 fs.length fs → (A2 = none → fs.length = 0 ∧ c2 = 0) → fs.length ≤ 1099511627776 → RfSz 1099511627776 fs → s.r.length ≤ 1099511627776 → s.o.length ≤ 1099511627776 → s.n.length ≤ 1099511627776 →
      Calls Tryd.prog 11 #[.slice A2 fs.length c2, .string (bs s.r), .string (bs s.o), .string (bs s.n)] W fun e w' => SetPost W (setR fs s.r s.o s.n) e w') := sec (fun s fs A2 c2 W h hA hfn hsz h1 h2 h3 => rset_any fs s.r s.o s.n A2 fs.length c2 W hfn h hA (fun f hf => hsz.each f hf) h1 h2 h3)
  have HZ := sec hz
  have HL : Sec (∀ i (h : i < es.length) (h' : i < l.length), l[i] = es[i].s) := sec (fun i h h' => by subst hl; simp)
  obtain ⟨N, hN⟩ : ∃ N, N = es.length := ⟨_, rfl⟩
  have hlN : l.length = N := by rw [hl, List.length_map, hN]
  have HN := sec hN
  have HLN := sec hlN
  obtain ⟨V, hV⟩ : ∃ V, V = rpR ss need l := ⟨_, rfl⟩
  have HV : Sec (V = if 200 < N then ([], 0, 6) else rpGo ss need 0 l []) := sec (by rw [hV]; unfold rpR; rw [hlN])
  rw [← hN] at hn HX
  rw [← hN, ← hV]
  obtain ⟨wa, hwa⟩ : ∃ y, y = w.alloc (.cells (keysA A0 m c0 B0 m' d0 need) 24) := ⟨_, rfl⟩
  have hkb : Blk wa w.heap.size 24 (keysA A0 m c0 B0 m' d0 need) := by rw [hwa]; exact Blk.new w _ _
  have hg0 : Gr w wa := by rw [hwa]; exact (Gr.refl w).alloc _
  obtain ⟨p, hp⟩ : ∃ p, p = w.heap.size := ⟨_, rfl⟩
  rw [← hp] at hkb
  have HKC : Sec (∀ W, Gr wa W → W.cell? ⟨p, 0, none⟩ = some (.slice A0 m c0) ∧ W.cell? ⟨p, 1, none⟩ = some (.slice B0 m' d0) ∧ W.cell? ⟨p, 2, none⟩ = some (.int .i64 need)) := sec (fun W g => ⟨(hkb.gr g).cell 0, (hkb.gr g).cell 1, (hkb.gr g).cell 2⟩)
  clear hx hz hN hl hlN hV hK hm hss hT hkb
  unfold keysA at hwa HCk
  unfold keysA
  by_cases h200 : 200 < N
  · have hi2 : (200 : Int) < (N : Int) := by omega
    have HR : Sec (V = ([], 0, 6)) := sec (by rw [HV.out, if_pos h200])
    clear HV h200
    go_enter Tryd.func4, Tryd.ntmps4
    go_upto_region 1 with fail
    rw [← hwa, ← hp]
    clear hwa hp
    go_wp2_with fail
    go_ret3
    rw [HR.out]
    exact ⟨none, 0, 0, rfl, rfl, Row.nil _ 2 none, hg0⟩
  · have hi2 : ¬ (200 : Int) < (N : Int) := by omega
    have HV2 : Sec (V = rpGo ss need 0 l []) := sec (by rw [HV.out, if_neg h200])
    have hN2 : N ≤ 200 := by omega
    clear HV h200
    go_enter Tryd.func4, Tryd.ntmps4
    go_upto_region 1 with fail
    rw [← hwa, ← hp]
    clear hwa hp
    go_wp2_with fail
    go_loopg [18, 7, 8, 9, 10, 11, 12] N (fun fuel iv ov _ _ _ _ _ wr => ∃ (i : Nat) (A2 : Option Addr) (n2 c2 : Nat), iv = .int .i64 (i : Int) ∧ ov = .slice A2 n2 c2 ∧ N ≤ i + fuel ∧ i ≤ N ∧
      Sec (∃ fs : List Rf, n2 = fs.length ∧ RfRow wr A2 fs.length fs ∧ (A2 = none → fs.length = 0 ∧ c2 = 0) ∧ RfSz 1099511627776 fs ∧ fs.length ≤ i ∧ V = rpGo ss need i (l.drop i) fs) ∧ Sec (Gr wa wr))
    case atStart => exact ⟨0, none, 0, 0, rfl, rfl, by omega, by omega, sec ⟨[], rfl, Row.nil _ 2 none, fun _ => ⟨rfl, rfl⟩, ⟨by simp⟩, by simp, HV2.out⟩, sec (Gr.refl _)⟩
    case round =>
      obtain ⟨i, A2, n2, c2, rfl, rfl, hik, hi, HF, HG⟩ := hrel
      obtain ⟨fs, rfl, hfr, hfn, hfs, hfl, hfV⟩ := HF.out
      have HFR := sec hfr
      have HFN := sec hfn
      have HFS := sec hfs
      have HFL := sec hfl
      obtain ⟨k0, k1, k2⟩ := HKC.out wr HG.out
      by_cases hlt : i < N
      · have hii : (i : Int) < (N : Int) := by omega
        have hlt' : i < es.length := by rw [← HN.out]; exact hlt
        have hltl : i < l.length := by rw [HLN.out]; exact hlt
        obtain ⟨b, off, rfl, e0, e1, e2, e3, e4⟩ := (HX.out.gr (hg0.trans HG.out)).cell hlt'
        have HCi := sec (HCk.out i hlt')
        have hzi := HZ.out _ (List.getElem_mem hlt')
        rw [rpGo_at ss need l i hltl fs, HL.out i hlt' hltl] at hfV
        obtain ⟨E0, hE0⟩ : ∃ E, E = es[i] := ⟨_, rfl⟩
        rw [← hE0] at HCi hfV hzi e0 e1 e2 e3 e4
        clear hE0 hlt' hltl
        obtain ⟨s0, A1, c1, B1, d1⟩ := E0
        simp only at e0 e1 e2 e3 e4 HCi hfV hzi
        have HSi : Sec (∀ W, RfRow W A2 fs.length fs → Calls Tryd.prog 11 #[.slice A2 fs.length c2, .string (bs s0.r), .string (bs s0.o), .string (bs s0.n)] W fun e w' => SetPost W (setR fs s0.r s0.o s0.n) e w') := sec (fun W h => HSe.out s0 fs A2 c2 W h HFN.out (by have := HFL.out; omega) HFS.out hzi.r hzi.o hzi.n)
        have HSZ := sec (setR_sz (name := s0.r) (old := s0.o) (id := s0.n) HFS.out hzi.r hzi.n)
        obtain ⟨y, hy⟩ : ∃ y, y = stCk ss need (i : Int) s0 := ⟨_, rfl⟩
        obtain ⟨U, hU⟩ : ∃ U, U = setR fs s0.r s0.o s0.n := ⟨_, rfl⟩
        rw [← hy] at HCi hfV
        rw [← hU] at HSi HSZ hfV
        have HFV := sec hfV
        obtain ⟨n2, hn2⟩ : ∃ n, n = fs.length := ⟨_, rfl⟩
        have HN2 := sec hn2
        rw [← hn2] at HSi HFR HFL
        rw [← hn2]
        obtain ⟨r, o, n, who, seals⟩ := s0
        simp only [stepA] at HCi
        simp only at e0 e1 e2 e3 e4 HSi
        have HLT := sec hlt
        clear hlt hy hU hfV hzi hfr hfn hfs hfl hn2 HF
        have GA := (Gr.refl wr).alloc (.cells #[.string (bs r), .string (bs o), .string (bs n), .slice A1 who.length c1, .slice B1 seals.length d1] 37)
        have bA := Blk.new wr 37 #[.string (bs r), .string (bs o), .string (bs n), .slice A1 who.length c1, .slice B1 seals.length d1]
        obtain ⟨kk0, kk1, kk2⟩ := HKC.out _ (HG.out.trans GA)
        by_cases hy0 : y = 0
        · subst hy0
          have HFV2 : Sec (V = if U.2 = 0 then rpGo ss need (i + 1) (l.drop (i + 1)) U.1 else ([], (i : Int), U.2)) := sec (by rw [HFV.out, if_pos rfl])
          obtain ⟨U1, U2⟩ := U
          simp only at HFV2 HSZ
          by_cases hU0 : U2 = 0
          · subst hU0
            have HFV3 : Sec (V = rpGo ss need (i + 1) (l.drop (i + 1)) U1) := sec (by rw [HFV2.out, if_pos rfl])
            go_wp2_with (first
              | (go_at_call 10; (with_reducible refine Calls.mono (HCi.out _ (hg0.trans (HG.out.trans GA))) ?_); rintro e w1 ⟨rfl, g1⟩; have G1 := GA.trans g1; have b1 := bA.gr g1; have x0 := b1.cell 0; have x1 := b1.cell 1; have x2 := b1.cell 2)
              | (go_at_call 11; (with_reducible refine Calls.mono (HSi.out _ (HFR.out.gr G1)) ?_); rintro e w2 ⟨A5, c5, n5, hn5, rfl, r5, q5, g5⟩; have HN5 := sec hn5; clear hn5))
            go_roundg (gk - 1)
            case rel => exact ⟨i + 1, A5, n5, c5, by go_num, rfl, by omega, HLT.out, sec ⟨U1, HN5.out, by rw [← HN5.out]; exact r5, by rw [← HN5.out]; exact q5, HSZ.out.1, by have := HSZ.out.2; have := HFL.out; have := HN2.out; omega, HFV3.out⟩, sec ((HG.out.trans G1).trans g5)⟩
            case measure => have := HLT.out; omega
          · have HFV3 : Sec (V = ([], (i : Int), U2)) := sec (by rw [HFV2.out, if_neg hU0])
            have hub : (U2 != 0) = true := by rw [bne_iff_ne]; exact hU0
            have hub2 : (U2 == 0) = false := by rw [beq_eq_false_iff_ne]; exact hU0
            clear hU0
            go_wp2_with (first
              | (go_at_call 10; (with_reducible refine Calls.mono (HCi.out _ (hg0.trans (HG.out.trans GA))) ?_); rintro e w1 ⟨rfl, g1⟩; have G1 := GA.trans g1; have b1 := bA.gr g1; have x0 := b1.cell 0; have x1 := b1.cell 1; have x2 := b1.cell 2)
              | (go_at_call 11; (with_reducible refine Calls.mono (HSi.out _ (HFR.out.gr G1)) ?_); rintro e w2 ⟨A5, c5, n5, hn5, rfl, r5, q5, g5⟩; clear hn5))
            go_ret3
            rw [HFV3.out]
            exact ⟨none, 0, 0, rfl, rfl, Row.nil _ 2 none, hg0.trans ((HG.out.trans G1).trans g5)⟩
        · have HFV3 : Sec (V = ([], (i : Int), y)) := sec (by rw [HFV.out, if_neg hy0])
          have hyb : (y != 0) = true := by rw [bne_iff_ne]; exact hy0
          have hyb2 : (y == 0) = false := by rw [beq_eq_false_iff_ne]; exact hy0
          clear hy0
          go_wp2_with (first
            | (go_at_call 10; (with_reducible refine Calls.mono (HCi.out _ (hg0.trans (HG.out.trans GA))) ?_); rintro e w1 ⟨rfl, g1⟩; have G1 := GA.trans g1))
          go_ret3
          rw [HFV3.out]
          exact ⟨none, 0, 0, rfl, rfl, Row.nil _ 2 none, hg0.trans (HG.out.trans G1)⟩
      · have q1 : decide (i < N) = false := decide_eq_false hlt
        have hfin : V = (fs, 0, 0) := by
          rw [hfV, List.drop_eq_nil_of_le (by rw [HLN.out]; omega)]
          rfl
        have HFV3 := sec hfin
        obtain ⟨n2, hn2⟩ : ∃ n, n = fs.length := ⟨_, rfl⟩
        have HN2 := sec hn2
        rw [← hn2] at HFR
        rw [← hn2]
        clear hn2 hfV hlt hfin hfr hfn hfs hfl HF
        go_wp2_with fail
        go_ret3
        rw [HFV3.out]
        exact ⟨A2, c2, n2, HN2.out, rfl, HFR.out, hg0.trans HG.out⟩
end Go.Proofs.YtmmpekdbknclcaaDoor

namespace Go.Proofs.YtmmpekdbknclcaaDoor
set_option maxRecDepth 100000
open Go.RowKit
set_option linter.unusedVariables false
set_option maxHeartbeats 8000000 in
theorem rstGood_any (s : Stp) (A : Option Addr) (c : Nat) (B : Option Addr) (d : Nat) (w : World) (hR : StR w s A c B d) (hz : StSz 1099511627776 s) :
    Calls Tryd.prog 27 #[.agg (stepA s A c B d)] w fun e w' => e = .returned (.int .i64 (stE s)) ∧ Gr w w' := by
  have HNa := sec (fun w => refName_any s.r w hz.r)
  obtain ⟨wa, hwa⟩ : ∃ x, x = w.alloc (.cells (stepA s A c B d) 37) := ⟨_, rfl⟩
  have hb : Blk wa w.heap.size 37 (stepA s A c B d) := by rw [hwa]; exact Blk.new w _ _
  have hg0 : Gr w wa := by rw [hwa]; exact (Gr.refl w).alloc _
  obtain ⟨p, hp⟩ : ∃ p, p = w.heap.size := ⟨_, rfl⟩
  rw [← hp] at hb
  have HW := sec (hR.who.gr hg0)
  have HS := sec (hR.seals.gr hg0)
  have hwl := hz.who
  have hsl := hz.seals
  obtain ⟨V, hV⟩ : ∃ V : Int, V = stE s := ⟨_, rfl⟩
  rw [← hV]
  have HV := sec hV
  obtain ⟨r, o, n, who, seals⟩ := s
  simp only at HNa hwl hsl HW HS
  unfold stepA at hb hwa
  unfold stepA
  simp only at hb hwa ⊢
  have HCELL : Sec (∀ w', Gr wa w' → w'.cell? ⟨p, 0, none⟩ = some (.string (bs r)) ∧ w'.cell? ⟨p, 1, none⟩ = some (.string (bs o)) ∧ w'.cell? ⟨p, 2, none⟩ = some (.string (bs n)) ∧ w'.cell? ⟨p, 3, none⟩ = some (.slice A who.length c) ∧ w'.cell? ⟨p, 4, none⟩ = some (.slice B seals.length d)) := sec (fun w' g => ⟨(hb.gr g).cell 0, (hb.gr g).cell 1, (hb.gr g).cell 2, (hb.gr g).cell 3, (hb.gr g).cell 4⟩)
  clear hb hV hR hz
  obtain ⟨ok, hok⟩ : ∃ ok : Bool, ok = stB ⟨r, o, n, who, seals⟩ := ⟨_, rfl⟩
  have HOK := sec hok
  clear hok
  go_enter Tryd.func27, Tryd.ntmps27
  go_upto_region 1 with fail
  rw [← hwa, ← hp]
  clear hwa hp
  obtain ⟨c0, c1, c2, c3, c4⟩ := HCELL.out wa (Gr.refl _)
  go_cut [28] from 6 to 28 (fun v28 wc => v28 = .bool (!ok) ∧ Gr wa wc)
  case first =>
    have HM1 := sec (fun w => maybe_any o w)
    have HM2 := sec (fun w => maybe_any n w)
    obtain ⟨rb, hrb⟩ : ∃ b, b = refB r := ⟨_, rfl⟩
    rw [← hrb] at HNa
    obtain ⟨ob, hob⟩ : ∃ b, b = mayB o := ⟨_, rfl⟩
    rw [← hob] at HM1
    obtain ⟨nb, hnb⟩ : ∃ b, b = mayB n := ⟨_, rfl⟩
    rw [← hnb] at HM2
    have hok : ok = (rb && (ob && (nb && !(o == n)))) := by rw [HOK.out, hrb, hob, hnb]; rfl
    clear hrb hob hnb
    cases rb
    · have HX : Sec (ok = false) := sec (by rw [hok]; rfl)
      clear hok
      go_wp2_with (first | (go_at_call 31; refine Calls.mono (HNa.out _) ?_; rintro e w1 ⟨rfl, g1⟩; obtain ⟨d0, d1, d2, d3, d4⟩ := HCELL.out w1 g1) | (go_at_call 32; (with_reducible refine Calls.mono (HM1.out _) ?_); rintro e w2 ⟨rfl, rfl⟩) | (go_at_call 32; (with_reducible refine Calls.mono (HM2.out _) ?_); rintro e w3 ⟨rfl, rfl⟩))
      go_meet
      exact ⟨by rw [HX.out]; rfl, g1⟩
    · cases ob
      · have HX : Sec (ok = false) := sec (by rw [hok]; rfl)
        clear hok
        go_wp2_with (first | (go_at_call 31; refine Calls.mono (HNa.out _) ?_; rintro e w1 ⟨rfl, g1⟩; obtain ⟨d0, d1, d2, d3, d4⟩ := HCELL.out w1 g1) | (go_at_call 32; (with_reducible refine Calls.mono (HM1.out _) ?_); rintro e w2 ⟨rfl, rfl⟩) | (go_at_call 32; (with_reducible refine Calls.mono (HM2.out _) ?_); rintro e w3 ⟨rfl, rfl⟩))
        go_meet
        exact ⟨by rw [HX.out]; rfl, g1⟩
      · cases nb
        · have HX : Sec (ok = false) := sec (by rw [hok]; rfl)
          clear hok
          go_wp2_with (first | (go_at_call 31; refine Calls.mono (HNa.out _) ?_; rintro e w1 ⟨rfl, g1⟩; obtain ⟨d0, d1, d2, d3, d4⟩ := HCELL.out w1 g1) | (go_at_call 32; (with_reducible refine Calls.mono (HM1.out _) ?_); rintro e w2 ⟨rfl, rfl⟩) | (go_at_call 32; (with_reducible refine Calls.mono (HM2.out _) ?_); rintro e w3 ⟨rfl, rfl⟩))
          go_meet
          exact ⟨by rw [HX.out]; rfl, g1⟩
        · cases heq : (o == n)
          · have HX : Sec (ok = true) := sec (by rw [hok, heq]; rfl)
            clear hok
            go_wp2_with (first | (go_at_call 31; refine Calls.mono (HNa.out _) ?_; rintro e w1 ⟨rfl, g1⟩; obtain ⟨d0, d1, d2, d3, d4⟩ := HCELL.out w1 g1) | (go_at_call 32; (with_reducible refine Calls.mono (HM1.out _) ?_); rintro e w2 ⟨rfl, rfl⟩) | (go_at_call 32; (with_reducible refine Calls.mono (HM2.out _) ?_); rintro e w3 ⟨rfl, rfl⟩))
            go_meet
            exact ⟨by rw [HX.out]; rfl, g1⟩
          · have HX : Sec (ok = false) := sec (by rw [hok, heq]; rfl)
            clear hok
            go_wp2_with (first | (go_at_call 31; refine Calls.mono (HNa.out _) ?_; rintro e w1 ⟨rfl, g1⟩; obtain ⟨d0, d1, d2, d3, d4⟩ := HCELL.out w1 g1) | (go_at_call 32; (with_reducible refine Calls.mono (HM1.out _) ?_); rintro e w2 ⟨rfl, rfl⟩) | (go_at_call 32; (with_reducible refine Calls.mono (HM2.out _) ?_); rintro e w3 ⟨rfl, rfl⟩))
            go_meet
            exact ⟨by rw [HX.out]; rfl, g1⟩
  case rest =>
    obtain ⟨rfl, gc⟩ := hcut
    clear c0 c1 c2 c3 c4
    obtain ⟨c0, c1, c2, c3, c4⟩ := HCELL.out wc gc
    cases ok
    · have HV2 : Sec (V = 2) := sec (by rw [HV.out]; unfold stE; rw [← HOK.out]; rfl)
      go_wp2_with fail
      go_ret
      exact ⟨by rw [HV2.out]; rfl, hg0.trans gc⟩
    · have HV1 : Sec (V = if 8 < who.length ∨ ¬ seals.length = who.length then 6 else stF (-1) who seals) := sec (by rw [HV.out]; unfold stE; rw [← HOK.out]; rfl)
      by_cases h8 : 8 < who.length
      · have q8 : (8 : Int) < (who.length : Int) := by omega
        have HV6 : Sec (V = 6) := sec (by rw [HV1.out, if_pos (Or.inl h8)])
        clear h8
        go_wp2_with fail
        go_ret
        exact ⟨by rw [HV6.out]; rfl, hg0.trans gc⟩
      · have q8 : ¬ (8 : Int) < (who.length : Int) := by omega
        by_cases hne : seals.length = who.length
        · have HLEN := sec hne
          have HV0 : Sec (V = stF (-1) who seals) := sec (by rw [HV1.out, if_neg (by omega)])
          have qne : ((seals.length : Int) != (who.length : Int)) = false := by rw [bne_eq_false_iff_eq]; omega
          clear hne h8
          go_wp2_with fail
          clear c0 c1 c2 c3 c4 qne
          go_loopg [45, 3, 4, 5] who.length (fun fuel iv lv _ _ wr => ∃ (i : Nat) (last : Int), iv = .int .i64 (i : Int) ∧ lv = .int .i64 last ∧ who.length ≤ i + fuel ∧ i ≤ who.length ∧ Sec (stSeen ⟨r, o, n, who, seals⟩ i last) ∧ Gr wa wr)
          case atStart => exact ⟨0, -1, rfl, rfl, by omega, by omega, sec (stSeen0 _), gc⟩
          case round =>
            obtain ⟨i, last, rfl, rfl, hik, hi, HST, hg⟩ := hrel
            by_cases hlt : i < who.length
            · have hss : i < seals.length := by have := HLEN.out; omega
              have hii : (i : Int) < (who.length : Int) := by omega
              have hjj : (i : Int) < (seals.length : Int) := by omega
              obtain ⟨b, off, rfl, e0⟩ := (HW.out.gr hg).cell hlt
              obtain ⟨b2, off2, rfl, x0⟩ := (HS.out.gr hg).cell hss
              obtain ⟨c0, c1, c2, c3, c4⟩ := HCELL.out wr hg
              have hhere := HST.out.here (s := ⟨r, o, n, who, seals⟩) hlt hss
              have HNEXT := sec (fun h1 h2 => HST.out.next (s := ⟨r, o, n, who, seals⟩) hlt hss h1 h2)
              have hlow := HST.out.low (s := ⟨r, o, n, who, seals⟩) (Nat.le_of_lt hlt)
              simp only at hhere HNEXT
              obtain ⟨mw, hmw⟩ : ∃ x, x = who[i] := ⟨_, rfl⟩
              obtain ⟨sl, hslx⟩ : ∃ x, x = seals[i] := ⟨_, rfl⟩
              rw [← hmw, ← hslx] at hhere HNEXT
              rw [← hmw] at e0
              rw [← hslx] at x0
              have HHERE := sec hhere
              have HII := sec (And.intro hss hlt)
              clear hmw hslx hhere hss hlt
              by_cases hbad : mw ≤ last ∨ 7 < mw
              · have HV3 : Sec (V = 3) := sec (by rw [HV0.out, HHERE.out, if_pos hbad])
                by_cases g0 : mw ≤ last
                · have q0 : decide (mw ≤ last) = true := decide_eq_true g0
                  clear hbad
                  go_wp2_with fail
                  go_ret
                  exact ⟨by rw [HV3.out]; rfl, hg0.trans hg⟩
                · have q0 : decide (mw ≤ last) = false := decide_eq_false g0
                  have q1 : decide (7 < mw) = true := decide_eq_true (by omega)
                  clear hbad
                  go_wp2_with fail
                  go_ret
                  exact ⟨by rw [HV3.out]; rfl, hg0.trans hg⟩
              · have q0 : decide (mw ≤ last) = false := decide_eq_false (by omega)
                have q1 : decide (7 < mw) = false := decide_eq_false (by omega)
                by_cases hs32 : sl.length = 32
                · have q3 : ((sl.length : Int) != 32) = false := by rw [bne_eq_false_iff_eq]; omega
                  have HEN : Sec (stSeen ⟨r, o, n, who, seals⟩ (i + 1) mw) := sec (HNEXT.out hbad hs32)
                  clear hbad hs32
                  go_wp2_with fail
                  go_roundg (gk - 1)
                  case rel => exact ⟨i + 1, mw, by go_num, rfl, by omega, by have := HII.out.2; omega, HEN, hg⟩
                  case measure => have := HII.out.2; omega
                · have q3 : ((sl.length : Int) != 32) = true := by rw [bne_iff_ne]; omega
                  have HV2 : Sec (V = 2) := sec (by rw [HV0.out, HHERE.out, if_neg hbad, if_neg hs32])
                  clear hbad hs32
                  go_wp2_with fail
                  go_ret
                  exact ⟨by rw [HV2.out]; rfl, hg0.trans hg⟩
            · have HE : Sec (V = 0) := sec (by rw [HV0.out]; exact HST.out.done (s := ⟨r, o, n, who, seals⟩) (by simp only; omega))
              obtain rfl : i = who.length := by omega
              clear hlt hik
              go_wp2_with fail
              go_ret
              exact ⟨by rw [HE.out]; rfl, hg0.trans hg⟩
        · have qne : ((seals.length : Int) != (who.length : Int)) = true := by rw [bne_iff_ne]; omega
          have HV6 : Sec (V = 6) := sec (by rw [HV1.out, if_pos (Or.inr hne)])
          clear hne h8
          go_wp2_with fail
          go_ret
          exact ⟨by rw [HV6.out]; rfl, hg0.trans gc⟩
end Go.Proofs.YtmmpekdbknclcaaDoor

namespace Go.Proofs.YtmmpekdbknclcaaDoor
set_option maxRecDepth 100000
open Go.RowKit
set_option linter.unusedVariables false
set_option maxHeartbeats 8000000 in
theorem rstCheck_any (A0 : Option Addr) (m c0 : Nat) (B0 : Option Addr) (m' d0 : Nat) (need : Int) (ss : List (List UInt8)) (at_ : Int) (s : Stp) (A : Option Addr) (c : Nat) (B : Option Addr) (d : Nat) (w : World)
    (hK : StrRow w A0 m ss) (hm : m ≤ 1099511627776) (hss : ∀ x ∈ ss, x.length ≤ 1099511627776) (hR : StR w s A c B d) (hz : StSz 1099511627776 s) (hT : TabK w) :
    Calls Tryd.prog 14 #[.agg (keysA A0 m c0 B0 m' d0 need), .int .i64 at_, .agg (stepA s A c B d)] w fun e w' => e = .returned (.int .i64 (stCk ss need at_ s)) ∧ Gr w w' := by
  obtain ⟨wa, hwa⟩ : ∃ x, x = (w.alloc (.cells (keysA A0 m c0 B0 m' d0 need) 24)).alloc (.cells (stepA s A c B d) 37) := ⟨_, rfl⟩
  have hk : Blk wa w.heap.size 24 (keysA A0 m c0 B0 m' d0 need) := by rw [hwa]; exact (Blk.new w _ _).alloc _
  have hb : Blk wa (w.heap.size + 1) 37 (stepA s A c B d) := by rw [hwa]; exact Blk.new1 w _ _ _
  have hg0 : Gr w wa := by rw [hwa]; exact ((Gr.refl w).alloc _).alloc _
  obtain ⟨p, hp⟩ : ∃ p, p = w.heap.size := ⟨_, rfl⟩
  rw [← hp] at hk hb
  have HGo : Sec (Calls Tryd.prog 27 #[.agg (stepA s A c B d)] wa fun e w' => e = .returned (.int .i64 (stE s)) ∧ Gr wa w') := sec (rstGood_any s A c B d wa (hR.gr hg0) hz)
  have HBo : Sec (∀ W, Calls Tryd.prog 28 #[.int .i64 at_, .agg (stepA s A c B d)] W fun e w' => e = .returned (.tuple #[.string (bs (bodyR at_ s).1), .int .i64 (bodyR at_ s).2]) ∧ Gr W w') := sec (fun W => rstBody_any at_ s A c B d W hz)
  have HBL := sec (bodyR_len at_ s)
  have HSe : Sec (∀ key : List UInt8, key.length ≤ 1099511627776 → ∀ w', Gr wa w' → Calls Tryd.prog 29 #[.string (bs key), .string (bs (bodyR at_ s).1)] w' fun e w'' => e = .returned (.string (bs (seal' key (bodyR at_ s).1))) ∧ Gr w' w'') := sec (fun key hkey w' g => rseal_any key _ w' (by omega) (by have := HBL.out; omega))
  have HW := sec (hR.who.gr hg0)
  have HS := sec (hR.seals.gr hg0)
  have HKR := sec (hK.gr hg0)
  have HKL := sec (StrRow.len hK)
  have HSS := sec hss
  have hwl := hz.who
  have hsl := hz.seals
  have HSE := sec (fun h => stE_zero (s := s) h)
  obtain ⟨V, hV⟩ : ∃ V : Int, V = stCk ss need at_ s := ⟨_, rfl⟩
  rw [← hV]
  have HV := sec hV
  obtain ⟨E, hE⟩ : ∃ E, E = stE s := ⟨_, rfl⟩
  rw [← hE] at HGo HSE
  have HE := sec hE
  obtain ⟨b, hbb⟩ : ∃ b, b = (bodyR at_ s).1 := ⟨_, rfl⟩
  obtain ⟨be, hbe⟩ : ∃ b, b = (bodyR at_ s).2 := ⟨_, rfl⟩
  rw [← hbb, ← hbe] at HBo
  rw [← hbb] at HSe
  have HVV : Sec (V = if E = 0 then (if be = 0 then (if (rgL ss b s).all id = true ∧ need ≤ (s.who.length : Int) then 0 else 13) else be) else E) := sec (by rw [HV.out, hbb, hbe, hE]; rfl)
  clear hV hE hbb hbe HV HE HBL
  obtain ⟨r, o, n, who, seals⟩ := s
  unfold stepA at hb hwa HGo HBo
  unfold keysA at hk hwa
  unfold stepA keysA
  simp only at hb hwa hwl hsl HW HS HGo HBo HVV HSE ⊢
  have HCELL : Sec (∀ w', Gr wa w' → w'.cell? ⟨p, 0, none⟩ = some (.slice A0 m c0) ∧ w'.cell? ⟨p, 2, none⟩ = some (.int .i64 need) ∧ w'.cell? ⟨p + 1, 0, none⟩ = some (.string (bs r)) ∧ w'.cell? ⟨p + 1, 1, none⟩ = some (.string (bs o)) ∧ w'.cell? ⟨p + 1, 2, none⟩ = some (.string (bs n)) ∧ w'.cell? ⟨p + 1, 3, none⟩ = some (.slice A who.length c) ∧ w'.cell? ⟨p + 1, 4, none⟩ = some (.slice B seals.length d)) := sec (fun w' g => ⟨(hk.gr g).cell 0, (hk.gr g).cell 2, (hb.gr g).cell 0, (hb.gr g).cell 1, (hb.gr g).cell 2, (hb.gr g).cell 3, (hb.gr g).cell 4⟩)
  clear hb hk hK hss hR hz hT
  obtain ⟨u0, u1, u2, u3, u4, u5, u6⟩ := HCELL.out wa (Gr.refl _)
  by_cases h0 : E = 0
  · obtain ⟨-, -, -, -, z4, z5, z6, z7, -⟩ := HSE.out h0
    try simp only at z4 z5 z6 z7
    have HV1 : Sec (V = if be = 0 then (if (rgL ss b ⟨r, o, n, who, seals⟩).all id = true ∧ need ≤ (who.length : Int) then 0 else 13) else be) := sec (by rw [HVV.out, if_pos h0])
    subst h0
    by_cases h1 : be = 0
    · have HV2 : Sec (V = if (rgL ss b ⟨r, o, n, who, seals⟩).all id = true ∧ need ≤ (who.length : Int) then 0 else 13) := sec (by rw [HV1.out, if_pos h1])
      have HSL := sec z5
      have HZ7 := sec z7
      have HRL : Sec ((rgL ss b ⟨r, o, n, who, seals⟩).length = who.length) := sec (rgL_len (s := ⟨r, o, n, who, seals⟩) z5)
      subst h1
      clear HVV HV1 HSE z5 z6 z7
      go_enter Tryd.func14, Tryd.ntmps14
      go_upto_region 1 with fail
      rw [← hwa, ← hp]
      clear hwa hp
      go_wp2_with (first
        | (go_at_call 27; refine Calls.mono HGo.out ?_; rintro e w1 ⟨rfl, g1⟩; obtain ⟨v0, v1, v2, v3, v4, v5, v6⟩ := HCELL.out w1 g1)
        | (go_at_call 28; refine Calls.mono (HBo.out _) ?_; rintro e w2 ⟨rfl, g2'⟩; have g2 : Gr wa w2 := Gr.trans g1 g2'; obtain ⟨t0, t1, t2, t3, t4, t5, t6⟩ := HCELL.out w2 g2))
      clear u0 u1 u2 u3 u4 u5 u6 v0 v1 v2 v3 v4 v5 v6 t0 t1 t2 t3 t4 t5 t6
      go_loopg [30, 10, 11, 12] who.length (fun fuel iv rv _ _ wr => ∃ i rt : Nat, iv = .int .i64 (i : Int) ∧ rv = .int .i64 (rt : Int) ∧ rt ≤ i ∧ who.length ≤ i + fuel ∧ i ≤ who.length ∧ Sec (((rgL ss b ⟨r, o, n, who, seals⟩).take i).count true = rt) ∧ Gr wa wr)
      case atStart => exact ⟨0, 0, rfl, rfl, by omega, by omega, by omega, sec rfl, g2⟩
      case round =>
        clear g1 g2 g2'
        obtain ⟨i, rt, rfl, rfl, hrt, hik, hi, HAL, gw⟩ := hrel
        by_cases hlt : i < who.length
        · have hsl2 : i < seals.length := by have := HSL.out; omega
          have hii : (i : Int) < (who.length : Int) := by omega
          have hjj : (i : Int) < (seals.length : Int) := by omega
          have hrl : i < (rgL ss b ⟨r, o, n, who, seals⟩).length := by rw [HRL.out]; exact hlt
          have HGET := sec (rgL_get (ss := ss) (b := b) (s := ⟨r, o, n, who, seals⟩) hlt hsl2 hrl)
          have HCT := sec (count_take _ i hrl)
          have hwz := HZ7.out _ (List.getElem_mem hlt)
          obtain ⟨bk, off, rfl, e0⟩ := (HW.out.gr gw).cell hlt
          obtain ⟨bk2, off2, rfl, -⟩ := (HS.out.gr gw).cell hsl2
          have HX1 : Sec (∀ W, Gr wa W → W.cell? ⟨p, 0, none⟩ = some (.slice A0 m c0) ∧ W.cell? ⟨p + 1, 4, none⟩ = some (.slice (some ⟨bk2, off2, none⟩) seals.length d) ∧ W.cell? ⟨bk2, off2 + i, none⟩ = some (.string (bs seals[i])) ∧ Gr wa W) := sec (fun W g => by
            obtain ⟨b', o', e', h'⟩ := (HS.out.gr g).cell hsl2
            injection e' with e'; injection e' with e3 e4 _
            subst e3 e4
            exact ⟨(HCELL.out W g).1, (HCELL.out W g).2.2.2.2.2.2, h', g⟩)
          obtain ⟨mw, hmw⟩ : ∃ x, x = who[i] := ⟨_, rfl⟩
          obtain ⟨sl, hslx⟩ : ∃ x, x = seals[i] := ⟨_, rfl⟩
          try simp only at HGET
          rw [← hmw, ← hslx] at HGET
          rw [← hmw] at e0 hwz
          rw [← hslx] at HX1
          obtain ⟨a, rfl⟩ : ∃ a : Nat, mw = (a : Int) := ⟨mw.toNat, by omega⟩
          have HII := sec hlt
          have hkl := HKL.out
          clear hmw hslx hsl2 hwz
          obtain ⟨y0, y1, y2, -⟩ := HX1.out wr gw
          by_cases ham : a < m
          · have haw : a < ss.length := by omega
            have hgd : ss.getD (a : Int).toNat [] = ss[a] := by rw [Int.toNat_natCast, List.getD_eq_getElem?_getD, List.getElem?_eq_getElem haw]; rfl
            have HRG : Sec (rgB ss b (a : Int) sl = (seal' ss[a] b == sl)) := sec (by unfold rgB; rw [decide_eq_true (show (a : Int) < (ss.length : Int) by omega), hgd]; rfl)
            obtain ⟨bk3, off3, rfl, -⟩ := (HKR.out.gr gw).cell haw
            have hwsz := HSS.out ss[a] (List.getElem_mem haw)
            have HKP0 : Sec (∀ W, Gr wa W → W.cell? ⟨bk3, off3 + a, none⟩ = some (.string (bs ss[a]))) := sec (fun W g => by
              obtain ⟨b', o', e', h'⟩ := (HKR.out.gr g).cell haw
              injection e' with e'; injection e' with e3 e4 _
              subst e3 e4
              exact h')
            obtain ⟨key, hkey⟩ : ∃ key, key = ss[a] := ⟨_, rfl⟩
            rw [← hkey] at hwsz HRG HKP0
            have HSk := sec (fun W (g : Gr wa W) => HSe.out key hwsz W g)
            obtain ⟨sv, hsv⟩ : ∃ sv, sv = seal' key b := ⟨_, rfl⟩
            rw [← hsv] at HSk HRG
            have q0 : decide (a < m) = true := decide_eq_true ham
            have ham' : (a : Int) < (m : Int) := by omega
            have HKP : Sec (∀ W, Gr wa W → W.cell? ⟨p, 0, none⟩ = some (.slice (some ⟨bk3, off3, none⟩) m c0) ∧ W.cell? ⟨p + 1, 4, none⟩ = some (.slice (some ⟨bk2, off2, none⟩) seals.length d) ∧ W.cell? ⟨bk2, off2 + i, none⟩ = some (.string (bs sl)) ∧ W.cell? ⟨bk3, off3 + a, none⟩ = some (.string (bs key)) ∧ Gr wa W) := sec (fun W g => ⟨(HX1.out W g).1, (HX1.out W g).2.1, (HX1.out W g).2.2.1, HKP0.out W g, g⟩)
            have gd : Gr wa wr.drew := gw.drew
            clear hkey hsv hwsz hgd haw ham hkl
            by_cases hsl3 : sv = sl
            · have HNX : Sec (((rgL ss b ⟨r, o, n, who, seals⟩).take (i + 1)).count true = rt + 1) := sec (by rw [HCT.out, HAL.out, HGET.out, HRG.out, hsl3, if_pos (by simp)])
              subst hsl3
              go_wp2_with fail
              go_region_held3 (fun W => W.cell? ⟨p, 0, none⟩ = some (.slice (some ⟨bk3, off3, none⟩) m c0) ∧ W.cell? ⟨p + 1, 4, none⟩ = some (.slice (some ⟨bk2, off2, none⟩) seals.length d) ∧ W.cell? ⟨bk2, off2 + i, none⟩ = some (.string (bs sv)) ∧ W.cell? ⟨bk3, off3 + a, none⟩ = some (.string (bs key)) ∧ Gr wa W)
                (first | with_reducible assumption | with_reducible exact HKP.out _ gd | with_reducible exact HKP.out _ g4 | fail)
                (first
                  | (go_at_call 29; (with_reducible refine Calls.mono (HSk.out wr.drew gd) ?_); rintro e w4 ⟨rfl, g4'⟩; have g4 : Gr wa w4 := Gr.trans gd g4')
                  | fail)
              all_goals
                go_wp2_with fail
                go_roundg (gk - 1)
                case rel => exact ⟨i + 1, rt + 1, by go_num, by go_num, by omega, by omega, HII.out, HNX, g4⟩
                case measure => have := HII.out; omega
            · have hne : (sv == sl) = false := by rw [beq_eq_false_iff_ne]; exact hsl3
              have HNX : Sec (((rgL ss b ⟨r, o, n, who, seals⟩).take (i + 1)).count true = rt) := sec (by rw [HCT.out, HAL.out, HGET.out, HRG.out, hne]; rfl)
              clear hsl3
              go_wp2_with fail
              go_region_held3 (fun W => W.cell? ⟨p, 0, none⟩ = some (.slice (some ⟨bk3, off3, none⟩) m c0) ∧ W.cell? ⟨p + 1, 4, none⟩ = some (.slice (some ⟨bk2, off2, none⟩) seals.length d) ∧ W.cell? ⟨bk2, off2 + i, none⟩ = some (.string (bs sl)) ∧ W.cell? ⟨bk3, off3 + a, none⟩ = some (.string (bs key)) ∧ Gr wa W)
                (first | with_reducible assumption | with_reducible exact HKP.out _ gd | with_reducible exact HKP.out _ g4 | fail)
                (first
                  | (go_at_call 29; (with_reducible refine Calls.mono (HSk.out wr.drew gd) ?_); rintro e w4 ⟨rfl, g4'⟩; have g4 : Gr wa w4 := Gr.trans gd g4')
                  | fail)
              all_goals
                go_wp2_with fail
                go_roundg (gk - 1)
                case rel => exact ⟨i + 1, rt, by go_num, rfl, by omega, by omega, HII.out, HNX, g4⟩
                case measure => have := HII.out; omega
          · have HRG : Sec (rgB ss b (a : Int) sl = false) := sec (by unfold rgB; rw [decide_eq_false (show ¬ (a : Int) < (ss.length : Int) by omega)]; rfl)
            have HNX : Sec (((rgL ss b ⟨r, o, n, who, seals⟩).take (i + 1)).count true = rt) := sec (by rw [HCT.out, HAL.out, HGET.out, HRG.out]; rfl)
            have q0 : decide (a < m) = false := decide_eq_false ham
            clear ham hkl
            go_wp2_with fail
            go_quiet (fail)
            go_wp2_with fail
            go_roundg (gk - 1)
            case rel => exact ⟨i + 1, rt, by go_num, rfl, by omega, by omega, HII.out, HNX, Gr.drewN gw _⟩
            case measure => have := HII.out; omega
        · have HCA : Sec (rt < who.length ↔ (rgL ss b ⟨r, o, n, who, seals⟩).all id = false) := sec (by
            have h := HAL.out
            rw [List.take_of_length_le (by rw [HRL.out]; omega)] at h
            rw [← h, ← HRL.out]
            exact count_all _)
          obtain hE2 : i = who.length := by omega
          obtain ⟨y0, y1, y2, y3, y4, y5, y6⟩ := HCELL.out wr gw
          have q : decide (i < who.length) = false := decide_eq_false hlt
          have hrw : rt ≤ who.length := by omega
          clear hE2 hlt hik
          by_cases hr : rt < who.length
          · have q1 : decide (rt < who.length) = true := decide_eq_true hr
            have HV0 : Sec (V = 13) := sec (by rw [HV2.out, HCA.out.1 hr, if_neg (by simp)])
            clear hr
            go_wp2_with fail
            go_ret
            exact ⟨by rw [HV0.out]; rfl, hg0.trans gw⟩
          · have q1 : decide (rt < who.length) = false := decide_eq_false hr
            have HALL : Sec ((rgL ss b ⟨r, o, n, who, seals⟩).all id = true) := sec (by
              cases h : (rgL ss b ⟨r, o, n, who, seals⟩).all id
              · exact absurd (HCA.out.2 h) hr
              · rfl)
            by_cases hn : need ≤ (rt : Int)
            · have q2 : decide ((rt : Int) < need) = false := decide_eq_false (by omega)
              have HV0 : Sec (V = 0) := sec (by rw [HV2.out, if_pos ⟨HALL.out, by omega⟩])
              clear hr hn
              go_wp2_with fail
              go_ret
              exact ⟨by rw [HV0.out]; rfl, hg0.trans gw⟩
            · have q2 : decide ((rt : Int) < need) = true := decide_eq_true (by omega)
              have HV0 : Sec (V = 13) := sec (by rw [HV2.out, if_neg (fun h => by have := h.2; omega)])
              clear hr hn
              go_wp2_with fail
              go_ret
              exact ⟨by rw [HV0.out]; rfl, hg0.trans gw⟩
    · have HV0 : Sec (V = be) := sec (by rw [HV1.out, if_neg h1])
      have m0 : (be != 0) = true := by simpa using h1
      clear HVV HV1 HSE z4 z5 z6 z7
      go_enter Tryd.func14, Tryd.ntmps14
      go_upto_region 1 with fail
      rw [← hwa, ← hp]
      clear hwa hp
      go_wp2_with (first
        | (go_at_call 27; refine Calls.mono HGo.out ?_; rintro e w1 ⟨rfl, g1⟩; obtain ⟨v0, v1, v2, v3, v4, v5, v6⟩ := HCELL.out w1 g1)
        | (go_at_call 28; refine Calls.mono (HBo.out _) ?_; rintro e w2 ⟨rfl, g2'⟩))
      go_ret
      exact ⟨by rw [HV0.out]; rfl, hg0.trans (g1.trans g2')⟩
  · have HV0 : Sec (V = E) := sec (by rw [HVV.out, if_neg h0])
    have m0 : (E != 0) = true := by simpa using h0
    clear HVV HSE
    go_enter Tryd.func14, Tryd.ntmps14
    go_upto_region 1 with fail
    rw [← hwa, ← hp]
    clear hwa hp
    go_wp2_with (go_at_call 27; refine Calls.mono HGo.out ?_; rintro e w1 ⟨rfl, g1⟩)
    go_ret
    exact ⟨by rw [HV0.out]; rfl, hg0.trans g1⟩
end Go.Proofs.YtmmpekdbknclcaaDoor

namespace Go.Proofs.YtmmpekdbknclcaaDoor
set_option maxRecDepth 100000
open Go.RowKit
set_option linter.unusedVariables false
/-! ### plain: a good list parted at a name -/
theorem getR_drop {fs : List Rf} {name : List UInt8} {i : Nat} (hi : i < fs.length) : getR (fs.drop i) name = if fs[i].1 = name then fs[i].2 else getR (fs.drop (i + 1)) name := by
  rw [List.drop_eq_getElem_cons hi]
  unfold getR
  rw [List.find?_cons]
  by_cases h : fs[i].1 = name
  · rw [if_pos h]; simp [h]
  · rw [if_neg h]
    have : (fs[i].1 == name) = false := by simpa using h
    rw [this]
def lowR (name : List UInt8) (fs : List Rf) : List Rf := fs.filter fun f => ltB f.1 name
def upRf (name : List UInt8) (fs : List Rf) : List Rf := fs.filter fun f => ltB name f.1
theorem filter_take_succ {α : Type} (p : α → Bool) (l : List α) (i : Nat) (h : i < l.length) : (l.take (i + 1)).filter p = (l.take i).filter p ++ (if p l[i] = true then [l[i]] else []) := by
  rw [List.take_succ_eq_append_getElem h, List.filter_append]
  congr 1
  by_cases hp : p l[i] = true
  · rw [if_pos hp]; simp [hp]
  · rw [if_neg hp]; simp [hp]
theorem low_eq (name : List UInt8) : ∀ fs : List Rf, SortedR fs → lowR name fs = fs.take (lbR name fs)
  | [], _ => rfl
  | f :: r, h => by
    have hr : SortedR r := (List.pairwise_cons.1 h).2
    have ih := low_eq name r hr
    unfold lowR lbR at *
    rw [List.filter_cons, List.takeWhile_cons]
    by_cases hf : ltB f.1 name = true
    · rw [if_pos hf, if_pos hf, ih]; rfl
    · rw [if_neg hf, if_neg hf]
      simp only [List.length_nil, List.take_zero]
      rw [List.filter_eq_nil_iff]
      intro g hg hgn
      exact hf (ltB_trans _ _ _ ((List.pairwise_cons.1 h).1 g hg) hgn)
theorem up_all {name : List UInt8} : ∀ fs : List Rf, (∀ f ∈ fs, ltB name f.1 = true) → upRf name fs = fs := fun fs h => List.filter_eq_self.2 h
theorem up_eq (name : List UInt8) : ∀ fs : List Rf, SortedR fs → upRf name fs = fs.drop (lbR name fs + if hasR name fs = true then 1 else 0)
  | [], _ => by simp [upRf]
  | f :: r, h => by
    have hr : SortedR r := (List.pairwise_cons.1 h).2
    have ih := up_eq name r hr
    have hlt := (List.pairwise_cons.1 h).1
    by_cases hf : ltB f.1 name = true
    · have h1 : ltB name f.1 = false := ltB_no hf
      have h2 : (f.1 == name) = false := by
        rw [beq_eq_false_iff_ne]; intro e; rw [e, ltB_irr] at hf; cases hf
      have h3 : lbR name (f :: r) = lbR name r + 1 := by unfold lbR; rw [List.takeWhile_cons, if_pos hf]; rfl
      have h4 : hasR name (f :: r) = hasR name r := by unfold hasR; rw [List.any_cons, h2]; rfl
      have h5 : upRf name (f :: r) = upRf name r := by unfold upRf; rw [List.filter_cons, h1]; rfl
      rw [h3, h4, h5, ih, show lbR name r + 1 + (if hasR name r = true then 1 else 0) = (lbR name r + if hasR name r = true then 1 else 0) + 1 by omega, List.drop_succ_cons]
    · have h3 : lbR name (f :: r) = 0 := by unfold lbR; rw [List.takeWhile_cons, if_neg hf]; rfl
      by_cases he : f.1 = name
      · have h4 : hasR name (f :: r) = true := by unfold hasR; rw [List.any_cons, beq_iff_eq.2 he]; rfl
        have h1 : ltB name f.1 = false := by rw [he]; exact ltB_irr _
        have h5 : upRf name (f :: r) = upRf name r := by unfold upRf; rw [List.filter_cons, h1]; rfl
        rw [h3, h4, h5, up_all r (fun g hg => by rw [← he]; exact hlt g hg)]
        rfl
      · have h1 : ltB name f.1 = true := by
          cases hb : ltB name f.1 with
          | true => rfl
          | false => exact absurd (ltB_tri f.1 name (by simpa using hf) hb) he
        have h4 : hasR name (f :: r) = false := by
          unfold hasR
          rw [List.any_eq_false]
          intro g hg
          rcases List.mem_cons.1 hg with rfl | hg
          · simpa using he
          · have := ltB_trans _ _ _ h1 (hlt g hg)
            intro e
            have e : g.1 = name := by simpa using e
            rw [e, ltB_irr] at this
            cases this
        rw [h3, h4, up_all (f :: r) (fun g hg => by
          rcases List.mem_cons.1 hg with rfl | hg
          · exact h1
          · exact ltB_trans _ _ _ h1 (hlt g hg))]
        rfl
/-- P8.3 as the document's answer builds it -/
def refSet (name id : List UInt8) (fs : List Rf) : List Rf := lowR name fs ++ ((if id = [] then [] else [(name, id)]) ++ upRf name fs)
theorem refSet_has {name id : List UInt8} {fs : List Rf} (h : SortedR fs) (hh : hasR name fs = true) : refSet name id fs = if id = [] then fs.eraseIdx (lbR name fs) else fs.set (lbR name fs) (name, id) := by
  obtain ⟨hi, h1, _⟩ := getR_has h hh
  unfold refSet
  rw [low_eq name fs h, up_eq name fs h, hh, if_pos rfl]
  by_cases hid : id = []
  · rw [if_pos hid, if_pos hid, List.eraseIdx_eq_take_drop_succ]; rfl
  · rw [if_neg hid, if_neg hid, List.set_eq_take_append_cons_drop, if_pos hi]; rfl
theorem refSet_no {name id : List UInt8} {fs : List Rf} (h : SortedR fs) (hh : hasR name fs = false) : refSet name id fs = if id = [] then fs else insR (lbR name fs) (name, id) fs := by
  unfold refSet insR
  rw [low_eq name fs h, up_eq name fs h, hh]
  by_cases hid : id = []
  · rw [if_pos hid, if_pos hid]; simp
  · rw [if_neg hid, if_neg hid]; rfl
/-- with ids of 32 bytes: none stands for the name iff it answers none -/
theorem getR_empty {fs : List Rf} (h : SortedR fs) (hs : ∀ f ∈ fs, f.2.length = 32) {name : List UInt8} : (getR fs name = []) ↔ hasR name fs = false := by
  constructor
  · intro hg
    cases hh : hasR name fs with
    | false => rfl
    | true =>
      obtain ⟨hi, _, h2⟩ := getR_has h hh
      have := hs _ (List.getElem_mem hi)
      rw [← h2, hg] at this
      cases this
  · exact getR_no
/-- the document's way to the same answer -/
theorem setR_ref {fs : List Rf} (hG : goodR fs = true) (name old id : List UInt8) : setR fs name old id =
    if (refB name && (mayB old && mayB id)) = true then (if getR fs name = old then (if old = [] ∧ id ≠ [] ∧ fs.length = 32 then ([], 6) else (refSet name id fs, 0)) else ([], 9)) else ([], 2) := by
  obtain ⟨h32, hsz, hso⟩ := goodR_sorted hG
  unfold setR
  rw [if_pos hG]
  simp only [Bool.and_eq_true]
  split
  · split
    · rename_i hgo
      have he := getR_empty hso (fun f hf => (hsz f hf).2) (name := name)
      rw [hgo] at he
      cases hh : hasR name fs with
      | true =>
        have ho : ¬ old = [] := fun h => by rw [he.1 h] at hh; cases hh
        have hc : ¬ (old = [] ∧ id ≠ [] ∧ fs.length = 32) := fun h => ho h.1
        rw [if_pos rfl, refSet_has hso hh, if_neg hc]
        by_cases hid : id = []
        · rw [if_pos hid, if_pos hid]
        · rw [if_neg hid, if_neg hid]
      | false =>
        have ho : old = [] := he.2 hh
        rw [if_neg (by simp), refSet_no hso hh]
        by_cases hid : id = []
        · rw [if_pos hid, if_neg (fun h => h.2.1 hid), if_pos hid]
        · rw [if_neg hid]
          by_cases hl : 32 ≤ fs.length
          · rw [if_pos hl, if_pos ⟨ho, hid, by omega⟩]
          · rw [if_neg hl, if_neg (fun h => hl (by omega)), if_neg hid]
    · rfl
  · rfl
end Go.Proofs.YtmmpekdbknclcaaDoor

namespace Go.Proofs.YtmmpekdbknclcaaDoor
set_option maxRecDepth 100000
open Go.RowKit
set_option linter.unusedVariables false
set_option maxHeartbeats 4000000 in
theorem rrget_any (fs : List Rf) (name : List UInt8) (A : Option Addr) (n cap : Nat) (w : World) (hn : n ≤ 1099511627776) (hx : RfRow w A n fs) :
    Calls Tryd.prog 33 #[.slice A n cap, .string (bs name)] w fun e w' => e = .returned (.string (bs (getR fs name))) ∧ Gr w w' := by
  have hl := hx.len
  have HX := sec hx
  obtain ⟨V, hV⟩ : ∃ V, V = getR fs name := ⟨_, rfl⟩
  rw [← hV]
  have HV := sec hV
  clear hx hV
  go_enter Tryd.func33, Tryd.ntmps33
  go_wp2_with fail
  go_loopg [9, 6] n (fun fuel iv _ wr => ∃ i : Nat, iv = .int .i64 (i : Int) ∧ n ≤ i + fuel ∧ i ≤ n ∧ Sec (V = getR (fs.drop i) name) ∧ Gr w wr)
  case atStart => exact ⟨0, rfl, by omega, by omega, HV, Gr.refl _⟩
  case round =>
    obtain ⟨i, rfl, hik, hi, HG, hg⟩ := hrel
    by_cases hlt : i < n
    · have hif : i < fs.length := by omega
      have hii : (i : Int) < (n : Int) := by omega
      obtain ⟨b, off, rfl, e0, e1⟩ := (HX.out.gr hg).cell hif
      have hgo := HG.out
      rw [getR_drop hif] at hgo
      obtain ⟨x, hxx⟩ : ∃ x, x = fs[i] := ⟨_, rfl⟩
      rw [← hxx] at e0 e1 hgo
      clear hxx hif
      obtain ⟨nm, id⟩ := x
      simp only at e0 e1 hgo
      have HGO := sec hgo
      clear hgo
      have hgx := hg.alloc (.cells #[.string (bs nm), .string (bs id)] 44)
      by_cases he : nm = name
      · have q0 : (nm == name) = true := by rw [beq_iff_eq]; exact he
        have HF : Sec (V = id) := sec (by rw [HGO.out, if_pos he])
        clear he
        go_wp2_with fail
        go_ret
        exact ⟨by rw [HF.out]; rfl, hgx⟩
      · have q0 : (nm == name) = false := by rw [beq_eq_false_iff_ne]; exact he
        have HN : Sec (V = getR (fs.drop (i + 1)) name) := sec (by rw [HGO.out, if_neg he])
        clear he
        go_wp2_with fail
        go_roundg (gk - 1)
        case rel => exact ⟨i + 1, by go_num, by omega, by omega, HN, hgx⟩
        case measure => omega
    · have HF : Sec (V = []) := sec (by rw [HG.out, List.drop_eq_nil_of_le (by omega)]; rfl)
      obtain rfl : i = n := by omega
      clear hlt hik
      go_wp2_with fail
      go_ret
      exact ⟨by rw [HF.out]; rfl, hg⟩
set_option maxHeartbeats 4000000 in
theorem sameRefs_any (fs : List Rf) (A A' : Option Addr) (n cap cap' : Nat) (w : World) (hn : n ≤ 1099511627776) (hx : RfRow w A n fs) (hy : RfRow w A' n fs) :
    Calls Tryd.prog 8 #[.slice A n cap, .slice A' n cap'] w fun e w' => e = .returned (.bool true) ∧ Gr w w' := by
  have hl := hx.len
  have HX := sec hx
  have HY := sec hy
  clear hx hy
  go_enter Tryd.func8, Tryd.ntmps8
  go_wp2_with fail
  go_loopg [13, 5] n (fun fuel iv _ wr => ∃ i : Nat, iv = .int .i64 (i : Int) ∧ n ≤ i + fuel ∧ i ≤ n ∧ Gr w wr)
  case atStart => exact ⟨0, rfl, by omega, by omega, Gr.refl _⟩
  case round =>
    obtain ⟨i, rfl, hik, hi, hg⟩ := hrel
    by_cases hlt : i < n
    · have hif : i < fs.length := by omega
      have hii : (i : Int) < (n : Int) := by omega
      obtain ⟨b, off, rfl, e0, e1⟩ := (HX.out.gr hg).cell hif
      obtain ⟨b2, off2, rfl, x0, x1⟩ := (HY.out.gr hg).cell hif
      obtain ⟨x, hxx⟩ : ∃ x, x = fs[i] := ⟨_, rfl⟩
      rw [← hxx] at e0 e1 x0 x1
      clear hxx hif
      obtain ⟨nm, id⟩ := x
      simp only at e0 e1 x0 x1
      go_upto_region 6 with fail
      go_quiet (fail)
      go_wp2_with fail
      go_roundg (gk - 1)
      case rel => exact ⟨i + 1, by go_num, by omega, by omega, Gr.drewN hg _⟩
      case measure => omega
    · obtain rfl : i = n := by omega
      clear hlt hik
      go_wp2_with fail
      go_ret
      exact ⟨rfl, hg⟩
end Go.Proofs.YtmmpekdbknclcaaDoor

namespace Go.Proofs.YtmmpekdbknclcaaDoor
set_option maxRecDepth 100000
open Go.RowKit
set_option linter.unusedVariables false
theorem own_app {w : World} {B n c : Nat} {A : Option Addr} {L : List Rf} {nm id : List UInt8} (h : w.ownsRow B 44 2 (.slice A (n + 1) c) (n + 1) (L.flatMap refV ++ #[.string (bs nm), .string (bs id)].toList)) :
    w.ownsRow B 44 2 (.slice A (n + 1) c) (n + 1) ((L ++ [(nm, id)]).flatMap refV) := by
  rw [List.flatMap_append, List.flatMap_singleton]
  exact h
theorem two_one {nm id : List UInt8} : ∀ u ∈ (#[.string (bs nm), .string (bs id)] : Array Value).toList, u.oneCell' = true := by
  intro u hu
  simp at hu
  rcases hu with rfl | rfl <;> rfl
theorem row_two {w : World} {g : Nat} {nm id : List UInt8} (h : Blk w g 44 #[.string (bs nm), .string (bs id)]) : Row w 2 (some ⟨g, 0, none⟩) 1 (#[.string (bs nm), .string (bs id)] : Array Value).toList := Row.lit h
set_option maxHeartbeats 8000000 in
theorem rrset_any (fs : List Rf) (name old id : List UInt8) (A : Option Addr) (n cap : Nat) (w : World) (hn : n ≤ 1099511627776) (hx : RfRow w A n fs)
    (hs : ∀ f ∈ fs, f.1.length ≤ 1099511627776 ∧ f.2.length ≤ 1099511627776) (hnm : name.length ≤ 1099511627776) (hod : old.length ≤ 1099511627776) (hid : id.length ≤ 1099511627776) :
    Calls Tryd.prog 15 #[.slice A n cap, .string (bs name), .string (bs old), .string (bs id)] w fun e w' => SetPost w (setR fs name old id) e w' := by
  have HGo := sec (rrgoodL_any fs A n cap w hn hx hs)
  have HNa := sec (fun w => refName_any name w hnm)
  have HMo := sec (fun w => maybe_any old w)
  have HMi := sec (fun w => maybe_any id w)
  have HX := sec hx
  have hl := hx.len
  obtain ⟨V, hV⟩ : ∃ V, V = setR fs name old id := ⟨_, rfl⟩
  rw [← hV]
  have HV : Sec (V = setR fs name old id) := sec hV
  clear hV hx hs
  cases hG : goodR fs with
  | false =>
    have HV3 : Sec (V = ([], 3)) := sec (by rw [HV.out]; unfold setR; rw [hG]; rfl)
    rw [hG] at HGo
    clear hG
    go_enter Tryd.func15, Tryd.ntmps15
    go_wp2_with (go_at_call 30; refine Calls.mono HGo.out ?_; rintro e w1 ⟨rfl, g1⟩)
    go_ret2
    exact SetPost.bad HV3.out g1
  | true =>
    have HV1 : Sec (V = if (refB name && (mayB old && mayB id)) = true then (if getR fs name = old then (if old = [] ∧ id ≠ [] ∧ fs.length = 32 then ([], 6) else (refSet name id fs, 0)) else ([], 9)) else ([], 2)) := sec (by rw [HV.out, setR_ref hG])
    have h32 := (goodR_sorted hG).1
    rw [hG] at HGo
    clear hG HV
    obtain ⟨rb, hrb⟩ : ∃ b, b = refB name := ⟨_, rfl⟩
    obtain ⟨mo, hmo⟩ : ∃ b, b = mayB old := ⟨_, rfl⟩
    obtain ⟨mi, hmi⟩ : ∃ b, b = mayB id := ⟨_, rfl⟩
    obtain ⟨gt, hgt⟩ : ∃ g, g = getR fs name := ⟨_, rfl⟩
    rw [← hrb, ← hmo, ← hmi, ← hgt] at HV1
    rw [← hrb] at HNa
    rw [← hmo] at HMo
    rw [← hmi] at HMi
    have HGt : Sec (∀ w', Gr w w' → Calls Tryd.prog 33 #[.slice A n cap, .string (bs name)] w' fun e w'' => e = .returned (.string (bs gt)) ∧ Gr w' w'') := sec (fun w' g => by rw [hgt]; exact rrget_any fs name A n cap w' hn (HX.out.gr g))
    clear hrb hmo hmi hgt
    go_enter Tryd.func15, Tryd.ntmps15
    go_upto_region 3 with (go_at_call 30; refine Calls.mono HGo.out ?_; rintro e w1 ⟨rfl, g1⟩)
    go_cut [30] from 18 to 30 (fun v wc => v = .bool (!(rb && (mo && mi))) ∧ Gr w wc)
    case first =>
      cases rb
      · go_wp2_with (go_at_call 31; refine Calls.mono (HNa.out _) ?_; rintro e w2 ⟨rfl, g2⟩)
        go_meet
        exact ⟨rfl, g1.trans g2⟩
      · cases mo
        · go_wp2_with (first
            | (go_at_call 31; refine Calls.mono (HNa.out _) ?_; rintro e w2 ⟨rfl, g2⟩)
            | (go_at_call 32; refine Calls.mono (HMo.out _) ?_; rintro e w3 ⟨rfl, rfl⟩))
          go_meet
          exact ⟨rfl, g1.trans g2⟩
        · go_wp2_with (first
            | (go_at_call 31; refine Calls.mono (HNa.out _) ?_; rintro e w2 ⟨rfl, g2⟩)
            | (go_at_call 32; (with_reducible refine Calls.mono (HMo.out w2) ?_); rintro e w3 ⟨rfl, rfl⟩)
            | (go_at_call 32; (with_reducible refine Calls.mono (HMi.out w2) ?_); rintro e w4 ⟨rfl, rfl⟩))
          go_meet
          exact ⟨by cases mi <;> rfl, g1.trans g2⟩
    case rest =>
      clear g1
      obtain ⟨rfl, g2⟩ := hcut
      cases hok : rb && (mo && mi) with
      | false =>
        have HV2 : Sec (V = ([], 2)) := sec (by rw [HV1.out, hok]; rfl)
        clear hok
        go_wp2_with fail
        go_ret2
        exact SetPost.bad HV2.out g2
      | true =>
        have HV2 : Sec (V = if gt = old then (if old = [] ∧ id ≠ [] ∧ fs.length = 32 then ([], 6) else (refSet name id fs, 0)) else ([], 9)) := sec (by rw [HV1.out, if_pos hok])
        clear hok HV1
        by_cases hgo : gt = old
        · have q0 : (gt == old) = true := by rw [beq_iff_eq]; exact hgo
          have HV3 : Sec (V = if old = [] ∧ id ≠ [] ∧ fs.length = 32 then ([], 6) else (refSet name id fs, 0)) := sec (by rw [HV2.out, if_pos hgo])
          clear hgo HV2
          go_upto_region 7 with (go_at_call 33; (with_reducible refine Calls.mono (HGt.out _ g2) ?_); rintro e w3 ⟨rfl, g3'⟩; have g3 := Gr.trans g2 g3')
          clear q0
          obtain ⟨full, hfull⟩ : ∃ b, b = decide (old = [] ∧ id ≠ [] ∧ fs.length = 32) := ⟨_, rfl⟩
          go_cut [46] from 36 to 46 (fun v wc => v = .bool full ∧ Gr w wc)
          case first =>
            have HFU := sec hfull
            clear hfull
            by_cases ho : old = []
            · have q1 : (old == []) = true := by rw [beq_iff_eq]; exact ho
              by_cases hi0 : id = []
              · have q2 : (id == []) = true := by rw [beq_iff_eq]; exact hi0
                have HF : Sec (full = false) := sec (by rw [HFU.out]; exact decide_eq_false (fun h => h.2.1 hi0))
                clear ho hi0
                go_wp2_with fail
                go_meet
                exact ⟨by rw [HF.out], g3⟩
              · have q2 : (id == []) = false := by rw [beq_eq_false_iff_ne]; exact hi0
                by_cases hf : fs.length = 32
                · have q3 : ((n : Int) == 32) = true := by rw [beq_iff_eq]; omega
                  have HF : Sec (full = true) := sec (by rw [HFU.out]; exact decide_eq_true ⟨ho, hi0, hf⟩)
                  clear ho hi0
                  go_wp2_with fail
                  go_meet
                  exact ⟨by rw [HF.out], g3⟩
                · have q3 : ((n : Int) == 32) = false := by rw [beq_eq_false_iff_ne]; omega
                  have HF : Sec (full = false) := sec (by rw [HFU.out]; exact decide_eq_false (fun h => hf h.2.2))
                  clear ho hi0
                  go_wp2_with fail
                  go_meet
                  exact ⟨by rw [HF.out], g3⟩
            · have q1 : (old == []) = false := by rw [beq_eq_false_iff_ne]; exact ho
              have HF : Sec (full = false) := sec (by rw [HFU.out]; exact decide_eq_false (fun h => ho h.1))
              clear ho
              go_wp2_with fail
              go_meet
              exact ⟨by rw [HF.out], g3⟩
          case rest =>
            clear g2 g3
            obtain ⟨rfl, g4⟩ := hcut
            cases full with
            | true =>
              have HV4 : Sec (V = ([], 6)) := sec (by rw [HV3.out, if_pos (of_decide_eq_true hfull.symm)])
              clear hfull
              go_wp2_with fail
              go_ret2
              exact SetPost.bad HV4.out g4
            | false =>
              have HV4 : Sec (V = (refSet name id fs, 0)) := sec (by rw [HV3.out, if_neg (of_decide_eq_false hfull.symm)])
              clear hfull HV3
              go_upto_region 11 with fail
              have HW0 : Sec (w.heap.size ≤ wc.heap.size) := sec g4.size
              go_loopg [49, 10, 12] n (fun fuel iv ov _ wr => ∃ (i m c0 : Nat) (A0 : Option Addr), iv = .int .i64 (i : Int) ∧ ov = .slice A0 m c0 ∧ n ≤ i + fuel ∧ i ≤ n ∧ m ≤ i ∧ Sec (wr.ownsRow w.heap.size 44 2 (.slice A0 m c0) m ((lowR name (fs.take i)).flatMap refV)) ∧ Gr w wr)
              case atStart => exact ⟨0, 0, 0, none, rfl, rfl, by omega, by omega, by omega, sec (World.ownsRow_nil _ _ _ _), g4⟩
              case round =>
                clear g4
                obtain ⟨i, m, c0, A0, rfl, rfl, hik, hi, hm, HO, hg⟩ := hrel
                by_cases hlt : i < n
                · have hif : i < fs.length := by omega
                  have hii : (i : Int) < (n : Int) := by omega
                  obtain ⟨b, off, rfl, e0, e1⟩ := (HX.out.gr hg).cell hif
                  have HFT := sec (filter_take_succ (fun f : Rf => ltB f.1 name) fs i hif)
                  obtain ⟨x, hxx⟩ : ∃ x, x = fs[i] := ⟨_, rfl⟩
                  rw [← hxx] at e0 e1 HFT
                  clear hxx hif
                  obtain ⟨nm, id'⟩ := x
                  simp only at e0 e1 HFT
                  have hgx := hg.alloc (.cells #[.string (bs nm), .string (bs id')] 44)
                  cases hb : ltB nm name with
                  | true =>
                    have q1 : Op.bytesLess nm name = true := hb
                    have HL : Sec (lowR name (fs.take (i + 1)) = lowR name (fs.take i) ++ [(nm, id')]) := sec (by unfold lowR; rw [HFT.out, if_pos hb])
                    have hb1 : (m + 1) * 32 ≤ 140737488355328 := by omega
                    have hb2 : m + 1 ≤ maxLen := by unfold maxLen; omega
                    clear hb HFT
                    go_wp2_with (refine wpList_append_row E.ref rfl (.tmp 57) (.tmp 59) rfl (B := w.heap.size) (A0 := A0) (n0 := m) (cap0 := c0) (xs := (lowR name (fs.take i)).flatMap refV) rfl ((HO.out.alloc _).alloc _) rfl (row_two (Blk.new1 wr _ _ _)) (by intro h; cases h) two_one hb1 hb2 (hgx.alloc _).size ?_; intro A' c' w' hown' hgn)
                    have o2 := sec (own_app hown')
                    go_roundg (gk - 1)
                    case rel => exact ⟨i + 1, m + 1, c', A', by go_num, rfl, by omega, by omega, by omega, sec (by rw [HL.out]; exact o2.out), Gr.grown (hgx.alloc _) hgn (fun k hk => (HO.out.lt k hk).1)⟩
                    case measure => omega
                  | false =>
                    have q1 : Op.bytesLess nm name = false := hb
                    have HL : Sec (lowR name (fs.take (i + 1)) = lowR name (fs.take i)) := sec (by unfold lowR; rw [HFT.out, if_neg (by rw [hb]; simp), List.append_nil])
                    clear hb HFT
                    go_wp2_with fail
                    go_roundg (gk - 1)
                    case rel => exact ⟨i + 1, m, c0, A0, by go_num, rfl, by omega, by omega, by omega, sec (by rw [HL.out]; exact HO.out.alloc _), hgx⟩
                    case measure => omega
                · obtain rfl : i = n := by omega
                  have HO2 : Sec (wr.ownsRow w.heap.size 44 2 (.slice A0 m c0) m ((lowR name fs).flatMap refV)) := sec (by have := HO.out; rwa [List.take_of_length_le (by omega)] at this)
                  clear hlt hik HO
                  by_cases hi0 : id = []
                  · have q2 : (id == []) = true := by rw [beq_iff_eq]; exact hi0
                    have HV5 : Sec (V = (lowR name fs ++ upRf name fs, 0)) := sec (by rw [HV4.out]; unfold refSet; rw [if_pos hi0, List.nil_append])
                    clear hi0 HV4
                    go_wp2_with fail
                    have HO1 := HO2
                    have g6 := hg
                    have hm1 : m ≤ i + 1 := by omega
                    obtain ⟨L, hL⟩ : ∃ L, L = lowR name fs := ⟨_, rfl⟩
                    rw [← hL] at HO1 HV5
                    clear hL hg HO2
                    go_loopg [72, 10, 14] i (fun fuel iv ov _ wr => ∃ (j m c0 : Nat) (A0 : Option Addr), iv = .int .i64 (j : Int) ∧ ov = .slice A0 m c0 ∧ i ≤ j + fuel ∧ j ≤ i ∧ m ≤ i + 1 + j ∧ Sec (wr.ownsRow w.heap.size 44 2 (.slice A0 m c0) m ((L ++ upRf name (fs.take j)).flatMap refV)) ∧ Gr w wr)
                    case atStart => exact ⟨0, m, c0, A0, rfl, rfl, by omega, by omega, by omega, sec (by have := HO1.out; rwa [← List.append_nil L] at this), g6⟩
                    case round =>
                      clear g6 HO1
                      obtain ⟨j, m', c', A0', rfl, rfl, hjk, hj, hm', HO, hg⟩ := hrel
                      by_cases hlt : j < i
                      · have hif : j < fs.length := by omega
                        have hii : (j : Int) < (i : Int) := by omega
                        obtain ⟨b, off, rfl, e0, e1⟩ := (HX.out.gr hg).cell hif
                        have HFT := sec (filter_take_succ (fun f : Rf => ltB name f.1) fs j hif)
                        obtain ⟨x, hxx⟩ : ∃ x, x = fs[j] := ⟨_, rfl⟩
                        rw [← hxx] at e0 e1 HFT
                        clear hxx hif
                        obtain ⟨nm, id'⟩ := x
                        simp only at e0 e1 HFT
                        have hgx := hg.alloc (.cells #[.string (bs nm), .string (bs id')] 44)
                        cases hb : ltB name nm with
                        | true =>
                          have q1 : Op.bytesLess nm name = false := ltB_no hb
                          have q1' : (nm == name) = false := by rw [beq_eq_false_iff_ne]; intro e; rw [e, ltB_irr] at hb; cases hb
                          have HL : Sec (L ++ upRf name (fs.take (j + 1)) = L ++ upRf name (fs.take j) ++ [(nm, id')]) := sec (by unfold upRf; rw [HFT.out, if_pos hb, List.append_assoc])
                          have hb1 : (m' + 1) * 32 ≤ 140737488355328 := by omega
                          have hb2 : m' + 1 ≤ maxLen := by unfold maxLen; omega
                          clear hb HFT
                          go_wp2_with (refine wpList_append_row E.ref rfl (.tmp 80) (.tmp 82) rfl (B := w.heap.size) (A0 := A0') (n0 := m') (cap0 := c') (xs := (L ++ upRf name (fs.take j)).flatMap refV) rfl ((HO.out.alloc _).alloc _) rfl (row_two (Blk.new1 wr _ _ _)) (by intro h; cases h) two_one hb1 hb2 (hgx.alloc _).size ?_; intro A9 c9 w9 hown' hgn)
                          have o2 := sec (own_app hown')
                          go_roundg (gk - 1)
                          case rel => exact ⟨j + 1, m' + 1, c9, A9, by go_num, rfl, by omega, by omega, by omega, sec (by rw [HL.out]; exact o2.out), Gr.grown (hgx.alloc _) hgn (fun k hk => (HO.out.lt k hk).1)⟩
                          case measure => omega
                        | false =>
                          have HL : Sec (L ++ upRf name (fs.take (j + 1)) = L ++ upRf name (fs.take j)) := sec (by unfold upRf; rw [HFT.out, if_neg (by rw [hb]; simp), List.append_nil])
                          cases hb2 : ltB nm name with
                          | true =>
                            have q1 : Op.bytesLess nm name = true := hb2
                            clear hb2
                            clear hb HFT
                            go_wp2_with fail
                            go_roundg (gk - 1)
                            case rel => exact ⟨j + 1, m', c', A0', by go_num, rfl, by omega, by omega, by omega, sec (by rw [HL.out]; exact HO.out.alloc _), hgx⟩
                            case measure => omega
                          | false =>
                            have q1 : Op.bytesLess nm name = false := hb2
                            have q1' : (nm == name) = true := by rw [beq_iff_eq]; exact ltB_tri nm name hb2 hb
                            clear hb2
                            clear hb HFT
                            go_wp2_with fail
                            go_roundg (gk - 1)
                            case rel => exact ⟨j + 1, m', c', A0', by go_num, rfl, by omega, by omega, by omega, sec (by rw [HL.out]; exact HO.out.alloc _), hgx⟩
                            case measure => omega
                      · obtain rfl : j = i := by omega
                        have HO2 : Sec (wr.ownsRow w.heap.size 44 2 (.slice A0' m' c') m' ((L ++ upRf name fs).flatMap refV)) := sec (by have := HO.out; rwa [List.take_of_length_le (by omega)] at this)
                        clear hlt hjk HO
                        go_wp2_with fail
                        go_ret2
                        exact SetPost.own HV5.out HO2.out hg
                  · have q2 : (id == []) = false := by rw [beq_eq_false_iff_ne]; exact hi0
                    have HV5 : Sec (V = (lowR name fs ++ [(name, id)] ++ upRf name fs, 0)) := sec (by rw [HV4.out]; unfold refSet; rw [if_neg hi0, List.append_assoc])
                    have hb1 : (m + 1) * 32 ≤ 140737488355328 := by omega
                    have hb2 : m + 1 ≤ maxLen := by unfold maxLen; omega
                    clear hi0 HV4
                    go_wp2_with (refine wpList_append_row E.ref rfl (.tmp 64) (.tmp 68) rfl (B := w.heap.size) (A0 := A0) (n0 := m) (cap0 := c0) (xs := (lowR name fs).flatMap refV) rfl (HO2.out.alloc _) rfl (row_two (Blk.new _ _ _)) (by intro h; cases h) two_one hb1 hb2 (hg.alloc _).size ?_; intro A' c' w' hown' hgn)
                    have HO1 := sec (own_app hown')
                    have g6 : Gr w w' := Gr.grown (hg.alloc _) hgn (fun k hk => (HO2.out.lt k hk).1)
                    have hm1 : m + 1 ≤ i + 1 := by omega
                    obtain ⟨L, hL⟩ : ∃ L, L = lowR name fs ++ [(name, id)] := ⟨_, rfl⟩
                    rw [← hL] at HO1 HV5
                    clear hL hg HO2 hown' hgn hb1 hb2
                    go_loopg [72, 10, 14] i (fun fuel iv ov _ wr => ∃ (j m c0 : Nat) (A0 : Option Addr), iv = .int .i64 (j : Int) ∧ ov = .slice A0 m c0 ∧ i ≤ j + fuel ∧ j ≤ i ∧ m ≤ i + 1 + j ∧ Sec (wr.ownsRow w.heap.size 44 2 (.slice A0 m c0) m ((L ++ upRf name (fs.take j)).flatMap refV)) ∧ Gr w wr)
                    case atStart => exact ⟨0, m + 1, c', A', rfl, rfl, by omega, by omega, by omega, sec (by have := HO1.out; rwa [← List.append_nil L] at this), g6⟩
                    case round =>
                      clear g6 HO1
                      obtain ⟨j, m', c'', A0', rfl, rfl, hjk, hj, hm', HO, hg⟩ := hrel
                      by_cases hlt : j < i
                      · have hif : j < fs.length := by omega
                        have hii : (j : Int) < (i : Int) := by omega
                        obtain ⟨b, off, rfl, e0, e1⟩ := (HX.out.gr hg).cell hif
                        have HFT := sec (filter_take_succ (fun f : Rf => ltB name f.1) fs j hif)
                        obtain ⟨x, hxx⟩ : ∃ x, x = fs[j] := ⟨_, rfl⟩
                        rw [← hxx] at e0 e1 HFT
                        clear hxx hif
                        obtain ⟨nm, id'⟩ := x
                        simp only at e0 e1 HFT
                        have hgx := hg.alloc (.cells #[.string (bs nm), .string (bs id')] 44)
                        cases hb : ltB name nm with
                        | true =>
                          have q1 : Op.bytesLess nm name = false := ltB_no hb
                          have q1' : (nm == name) = false := by rw [beq_eq_false_iff_ne]; intro e; rw [e, ltB_irr] at hb; cases hb
                          have HL : Sec (L ++ upRf name (fs.take (j + 1)) = L ++ upRf name (fs.take j) ++ [(nm, id')]) := sec (by unfold upRf; rw [HFT.out, if_pos hb, List.append_assoc])
                          have hb1 : (m' + 1) * 32 ≤ 140737488355328 := by omega
                          have hb2 : m' + 1 ≤ maxLen := by unfold maxLen; omega
                          clear hb HFT
                          go_wp2_with (refine wpList_append_row E.ref rfl (.tmp 80) (.tmp 82) rfl (B := w.heap.size) (A0 := A0') (n0 := m') (cap0 := c'') (xs := (L ++ upRf name (fs.take j)).flatMap refV) rfl ((HO.out.alloc _).alloc _) rfl (row_two (Blk.new1 wr _ _ _)) (by intro h; cases h) two_one hb1 hb2 (hgx.alloc _).size ?_; intro A9 c9 w9 hown' hgn)
                          have o2 := sec (own_app hown')
                          go_roundg (gk - 1)
                          case rel => exact ⟨j + 1, m' + 1, c9, A9, by go_num, rfl, by omega, by omega, by omega, sec (by rw [HL.out]; exact o2.out), Gr.grown (hgx.alloc _) hgn (fun k hk => (HO.out.lt k hk).1)⟩
                          case measure => omega
                        | false =>
                          have HL : Sec (L ++ upRf name (fs.take (j + 1)) = L ++ upRf name (fs.take j)) := sec (by unfold upRf; rw [HFT.out, if_neg (by rw [hb]; simp), List.append_nil])
                          cases hb2 : ltB nm name with
                          | true =>
                            have q1 : Op.bytesLess nm name = true := hb2
                            clear hb2
                            clear hb HFT
                            go_wp2_with fail
                            go_roundg (gk - 1)
                            case rel => exact ⟨j + 1, m', c'', A0', by go_num, rfl, by omega, by omega, by omega, sec (by rw [HL.out]; exact HO.out.alloc _), hgx⟩
                            case measure => omega
                          | false =>
                            have q1 : Op.bytesLess nm name = false := hb2
                            have q1' : (nm == name) = true := by rw [beq_iff_eq]; exact ltB_tri nm name hb2 hb
                            clear hb2
                            clear hb HFT
                            go_wp2_with fail
                            go_roundg (gk - 1)
                            case rel => exact ⟨j + 1, m', c'', A0', by go_num, rfl, by omega, by omega, by omega, sec (by rw [HL.out]; exact HO.out.alloc _), hgx⟩
                            case measure => omega
                      · obtain rfl : j = i := by omega
                        have HO2 : Sec (wr.ownsRow w.heap.size 44 2 (.slice A0' m' c'') m' ((L ++ upRf name fs).flatMap refV)) := sec (by have := HO.out; rwa [List.take_of_length_le (by omega)] at this)
                        clear hlt hjk HO
                        go_wp2_with fail
                        go_ret2
                        exact SetPost.own HV5.out HO2.out hg
        · have q0 : (gt == old) = false := by rw [beq_eq_false_iff_ne]; exact hgo
          have HV3 : Sec (V = ([], 9)) := sec (by rw [HV2.out, if_neg hgo])
          clear hgo
          go_wp2_with (go_at_call 33; (with_reducible refine Calls.mono (HGt.out _ g2) ?_); rintro e w3 ⟨rfl, g3'⟩; have g3 := Gr.trans g2 g3')
          go_ret2
          exact SetPost.bad HV3.out g3
end Go.Proofs.YtmmpekdbknclcaaDoor

namespace Go.Proofs.YtmmpekdbknclcaaDoor
set_option maxRecDepth 100000
open Go.RowKit
set_option linter.unusedVariables false
set_option maxHeartbeats 8000000 in
theorem rrepl_any (A0 : Option Addr) (m c0 : Nat) (B0 : Option Addr) (m' d0 : Nat) (need : Int) (ss : List (List UInt8)) (es : List SA) (l : List Stp) (A : Option Addr) (c : Nat) (w : World)
    (hK : StrRow w A0 m ss) (hm : m ≤ 1099511627776) (hss : ∀ x ∈ ss, x.length ≤ 1099511627776) (hx : StsR w A es.length es) (hl : l = es.map (·.s)) (hn : es.length ≤ 1099511627776) (hz : ∀ e ∈ es, StSz 1099511627776 e.s) (hT : TabK w) :
    Calls Tryd.prog 7 #[.agg (keysA A0 m c0 B0 m' d0 need), .slice A es.length c] w fun e w' => ∃ A' c' n', n' = (rpR ss need l).1.length ∧ e = .returned (.tuple #[.slice A' n' c', .int .i64 (rpR ss need l).2.1, .int .i64 (rpR ss need l).2.2]) ∧ RfRow w' A' n' (rpR ss need l).1 ∧ Gr w w' := by
  have HX := sec hx
  have HCk : Sec (∀ i (h : i < es.length) W, Gr w W → Calls Tryd.prog 14 #[.agg (keysA A0 m c0 B0 m' d0 need), .int .i64 (i : Int), .agg (stepA es[i].s es[i].A es[i].c es[i].B es[i].d)] W fun e w' => e = .returned (.int .i64 (stCk ss need (i : Int) es[i].s)) ∧ Gr W w') := sec (fun i h W g =>
    rstCheck_any A0 m c0 B0 m' d0 need ss (i : Int) es[i].s es[i].A es[i].c es[i].B es[i].d W (hK.gr g) hm hss ((hx.each _ (List.getElem_mem h)).gr g) (hz _ (List.getElem_mem h)) (hT.gr g))
  have HSe : Sec (∀ (s : Stp) (fs : List Rf) A2 c2 W, RfRow W A2 fs.length fs → (A2 = none → fs.length = 0 ∧ c2 = 0) → fs.length ≤ 1099511627776 → RfSz 1099511627776 fs → s.r.length ≤ 1099511627776 → s.o.length ≤ 1099511627776 → s.n.length ≤ 1099511627776 →
      Calls Tryd.prog 15 #[.slice A2 fs.length c2, .string (bs s.r), .string (bs s.o), .string (bs s.n)] W fun e w' => SetPost W (setR fs s.r s.o s.n) e w') := sec (fun s fs A2 c2 W h hA hfn hsz h1 h2 h3 => rrset_any fs s.r s.o s.n A2 fs.length c2 W hfn h (fun f hf => hsz.each f hf) h1 h2 h3)
  have HZ := sec hz
  have HL : Sec (∀ i (h : i < es.length) (h' : i < l.length), l[i] = es[i].s) := sec (fun i h h' => by subst hl; simp)
  obtain ⟨N, hN⟩ : ∃ N, N = es.length := ⟨_, rfl⟩
  have hlN : l.length = N := by rw [hl, List.length_map, hN]
  have HN := sec hN
  have HLN := sec hlN
  obtain ⟨V, hV⟩ : ∃ V, V = rpR ss need l := ⟨_, rfl⟩
  have HV : Sec (V = if 200 < N then ([], 0, 6) else rpGo ss need 0 l []) := sec (by rw [hV]; unfold rpR; rw [hlN])
  rw [← hN] at hn HX
  rw [← hN, ← hV]
  obtain ⟨wa, hwa⟩ : ∃ y, y = w.alloc (.cells (keysA A0 m c0 B0 m' d0 need) 24) := ⟨_, rfl⟩
  have hkb : Blk wa w.heap.size 24 (keysA A0 m c0 B0 m' d0 need) := by rw [hwa]; exact Blk.new w _ _
  have hg0 : Gr w wa := by rw [hwa]; exact (Gr.refl w).alloc _
  obtain ⟨p, hp⟩ : ∃ p, p = w.heap.size := ⟨_, rfl⟩
  rw [← hp] at hkb
  have HKC : Sec (∀ W, Gr wa W → W.cell? ⟨p, 0, none⟩ = some (.slice A0 m c0) ∧ W.cell? ⟨p, 1, none⟩ = some (.slice B0 m' d0) ∧ W.cell? ⟨p, 2, none⟩ = some (.int .i64 need)) := sec (fun W g => ⟨(hkb.gr g).cell 0, (hkb.gr g).cell 1, (hkb.gr g).cell 2⟩)
  clear hx hz hN hl hlN hV hK hm hss hT hkb
  unfold keysA at hwa HCk
  unfold keysA
  by_cases h200 : 200 < N
  · have hi2 : (200 : Int) < (N : Int) := by omega
    have HR : Sec (V = ([], 0, 6)) := sec (by rw [HV.out, if_pos h200])
    clear HV h200
    go_enter Tryd.func7, Tryd.ntmps7
    go_upto_region 1 with fail
    rw [← hwa, ← hp]
    clear hwa hp
    go_wp2_with fail
    go_ret3
    rw [HR.out]
    exact ⟨none, 0, 0, rfl, rfl, Row.nil _ 2 none, hg0⟩
  · have hi2 : ¬ (200 : Int) < (N : Int) := by omega
    have HV2 : Sec (V = rpGo ss need 0 l []) := sec (by rw [HV.out, if_neg h200])
    have hN2 : N ≤ 200 := by omega
    clear HV h200
    go_enter Tryd.func7, Tryd.ntmps7
    go_upto_region 1 with fail
    rw [← hwa, ← hp]
    clear hwa hp
    go_wp2_with fail
    go_loopg [16, 7, 8, 9, 10] N (fun fuel iv ov _ _ _ wr => ∃ (i : Nat) (A2 : Option Addr) (n2 c2 : Nat), iv = .int .i64 (i : Int) ∧ ov = .slice A2 n2 c2 ∧ N ≤ i + fuel ∧ i ≤ N ∧
      Sec (∃ fs : List Rf, n2 = fs.length ∧ RfRow wr A2 fs.length fs ∧ (A2 = none → fs.length = 0 ∧ c2 = 0) ∧ RfSz 1099511627776 fs ∧ fs.length ≤ i ∧ V = rpGo ss need i (l.drop i) fs) ∧ Sec (Gr wa wr))
    case atStart => exact ⟨0, none, 0, 0, rfl, rfl, by omega, by omega, sec ⟨[], rfl, Row.nil _ 2 none, fun _ => ⟨rfl, rfl⟩, ⟨by simp⟩, by simp, HV2.out⟩, sec (Gr.refl _)⟩
    case round =>
      obtain ⟨i, A2, n2, c2, rfl, rfl, hik, hi, HF, HG⟩ := hrel
      obtain ⟨fs, rfl, hfr, hfn, hfs, hfl, hfV⟩ := HF.out
      have HFR := sec hfr
      have HFN := sec hfn
      have HFS := sec hfs
      have HFL := sec hfl
      obtain ⟨k0, k1, k2⟩ := HKC.out wr HG.out
      by_cases hlt : i < N
      · have hii : (i : Int) < (N : Int) := by omega
        have hlt' : i < es.length := by rw [← HN.out]; exact hlt
        have hltl : i < l.length := by rw [HLN.out]; exact hlt
        obtain ⟨b, off, rfl, e0, e1, e2, e3, e4⟩ := (HX.out.gr (hg0.trans HG.out)).cell hlt'
        have HCi := sec (HCk.out i hlt')
        have hzi := HZ.out _ (List.getElem_mem hlt')
        rw [rpGo_at ss need l i hltl fs, HL.out i hlt' hltl] at hfV
        obtain ⟨E0, hE0⟩ : ∃ E, E = es[i] := ⟨_, rfl⟩
        rw [← hE0] at HCi hfV hzi e0 e1 e2 e3 e4
        clear hE0 hlt' hltl
        obtain ⟨s0, A1, c1, B1, d1⟩ := E0
        simp only at e0 e1 e2 e3 e4 HCi hfV hzi
        have HSi : Sec (∀ W, RfRow W A2 fs.length fs → Calls Tryd.prog 15 #[.slice A2 fs.length c2, .string (bs s0.r), .string (bs s0.o), .string (bs s0.n)] W fun e w' => SetPost W (setR fs s0.r s0.o s0.n) e w') := sec (fun W h => HSe.out s0 fs A2 c2 W h HFN.out (by have := HFL.out; omega) HFS.out hzi.r hzi.o hzi.n)
        have HSZ := sec (setR_sz (name := s0.r) (old := s0.o) (id := s0.n) HFS.out hzi.r hzi.n)
        obtain ⟨y, hy⟩ : ∃ y, y = stCk ss need (i : Int) s0 := ⟨_, rfl⟩
        obtain ⟨U, hU⟩ : ∃ U, U = setR fs s0.r s0.o s0.n := ⟨_, rfl⟩
        rw [← hy] at HCi hfV
        rw [← hU] at HSi HSZ hfV
        have HFV := sec hfV
        obtain ⟨n2, hn2⟩ : ∃ n, n = fs.length := ⟨_, rfl⟩
        have HN2 := sec hn2
        rw [← hn2] at HSi HFR HFL
        rw [← hn2]
        obtain ⟨r, o, n, who, seals⟩ := s0
        simp only [stepA] at HCi
        simp only at e0 e1 e2 e3 e4 HSi
        have HLT := sec hlt
        clear hlt hy hU hfV hzi hfr hfn hfs hfl hn2 HF
        have GA := (Gr.refl wr).alloc (.cells #[.string (bs r), .string (bs o), .string (bs n), .slice A1 who.length c1, .slice B1 seals.length d1] 37)
        have bA := Blk.new wr 37 #[.string (bs r), .string (bs o), .string (bs n), .slice A1 who.length c1, .slice B1 seals.length d1]
        obtain ⟨kk0, kk1, kk2⟩ := HKC.out _ (HG.out.trans GA)
        by_cases hy0 : y = 0
        · subst hy0
          have HFV2 : Sec (V = if U.2 = 0 then rpGo ss need (i + 1) (l.drop (i + 1)) U.1 else ([], (i : Int), U.2)) := sec (by rw [HFV.out, if_pos rfl])
          obtain ⟨U1, U2⟩ := U
          simp only at HFV2 HSZ
          by_cases hU0 : U2 = 0
          · subst hU0
            have HFV3 : Sec (V = rpGo ss need (i + 1) (l.drop (i + 1)) U1) := sec (by rw [HFV2.out, if_pos rfl])
            go_wp2_with (first
              | (go_at_call 14; (with_reducible refine Calls.mono (HCi.out _ (hg0.trans (HG.out.trans GA))) ?_); rintro e w1 ⟨rfl, g1⟩; have G1 := GA.trans g1; have b1 := bA.gr g1; have x0 := b1.cell 0; have x1 := b1.cell 1; have x2 := b1.cell 2)
              | (go_at_call 15; (with_reducible refine Calls.mono (HSi.out _ (HFR.out.gr G1)) ?_); rintro e w2 ⟨A5, c5, n5, hn5, rfl, r5, q5, g5⟩; have HN5 := sec hn5; clear hn5))
            go_roundg (gk - 1)
            case rel => exact ⟨i + 1, A5, n5, c5, by go_num, rfl, by omega, HLT.out, sec ⟨U1, HN5.out, by rw [← HN5.out]; exact r5, by rw [← HN5.out]; exact q5, HSZ.out.1, by have := HSZ.out.2; have := HFL.out; have := HN2.out; omega, HFV3.out⟩, sec ((HG.out.trans G1).trans g5)⟩
            case measure => have := HLT.out; omega
          · have HFV3 : Sec (V = ([], (i : Int), U2)) := sec (by rw [HFV2.out, if_neg hU0])
            have hub : (U2 != 0) = true := by rw [bne_iff_ne]; exact hU0
            have hub2 : (U2 == 0) = false := by rw [beq_eq_false_iff_ne]; exact hU0
            clear hU0
            go_wp2_with (first
              | (go_at_call 14; (with_reducible refine Calls.mono (HCi.out _ (hg0.trans (HG.out.trans GA))) ?_); rintro e w1 ⟨rfl, g1⟩; have G1 := GA.trans g1; have b1 := bA.gr g1; have x0 := b1.cell 0; have x1 := b1.cell 1; have x2 := b1.cell 2)
              | (go_at_call 15; (with_reducible refine Calls.mono (HSi.out _ (HFR.out.gr G1)) ?_); rintro e w2 ⟨A5, c5, n5, hn5, rfl, r5, q5, g5⟩; clear hn5))
            go_ret3
            rw [HFV3.out]
            exact ⟨none, 0, 0, rfl, rfl, Row.nil _ 2 none, hg0.trans ((HG.out.trans G1).trans g5)⟩
        · have HFV3 : Sec (V = ([], (i : Int), y)) := sec (by rw [HFV.out, if_neg hy0])
          have hyb : (y != 0) = true := by rw [bne_iff_ne]; exact hy0
          have hyb2 : (y == 0) = false := by rw [beq_eq_false_iff_ne]; exact hy0
          clear hy0
          go_wp2_with (first
            | (go_at_call 14; (with_reducible refine Calls.mono (HCi.out _ (hg0.trans (HG.out.trans GA))) ?_); rintro e w1 ⟨rfl, g1⟩; have G1 := GA.trans g1))
          go_ret3
          rw [HFV3.out]
          exact ⟨none, 0, 0, rfl, rfl, Row.nil _ 2 none, hg0.trans (HG.out.trans G1)⟩
      · have q1 : decide (i < N) = false := decide_eq_false hlt
        have hfin : V = (fs, 0, 0) := by
          rw [hfV, List.drop_eq_nil_of_le (by rw [HLN.out]; omega)]
          rfl
        have HFV3 := sec hfin
        obtain ⟨n2, hn2⟩ : ∃ n, n = fs.length := ⟨_, rfl⟩
        have HN2 := sec hn2
        rw [← hn2] at HFR
        rw [← hn2]
        clear hn2 hfV hlt hfin hfr hfn hfs hfl HF
        go_wp2_with fail
        go_ret3
        rw [HFV3.out]
        exact ⟨A2, c2, n2, HN2.out, rfl, HFR.out, hg0.trans HG.out⟩
end Go.Proofs.YtmmpekdbknclcaaDoor

namespace Go.Proofs.YtmmpekdbknclcaaDoor
set_option maxRecDepth 100000
open Go.RowKit Go.ChangeShapes Go.WideShapes
set_option linter.unusedVariables false
def szI (_ : Int) : Nat := 1
structure IntsIn (w : World) (A : Option Addr) (c : Nat) (l : List Int) : Prop where
  row : IntRow w A l.length l
  len : l.length ≤ 1048576
  cap : l.length ≤ c
  nil : A = none → l.length = 0 ∧ c = 0
theorem ints_in {w : World} {A : Option Addr} {c : Nat} {l : List Int} (hR : sliceR w 1 intR [.slice A l.length c] l) (hb : szs szI l ≤ 1048576) : IntsIn w A c l := by
  obtain ⟨A', c', e', h1, h2, hrow⟩ := sliceR_row (k := 1) (fun n => [iV n]) (fun _ => rfl) (by omega) (fun ci x h => h.1) hR
  simp only [List.cons.injEq, and_true, Value.slice.injEq, true_and] at e'
  obtain ⟨rfl, rfl⟩ := e'
  obtain ⟨A2, c2, e2, _, h3, _⟩ := hR
  simp only [List.cons.injEq, and_true, Value.slice.injEq, true_and] at e2
  obtain ⟨rfl, rfl⟩ := e2
  have hl := szs_len szI (fun x => Nat.le_refl 1) l
  rw [flat_single] at hrow
  refine ⟨hrow, by omega, h1, fun h => ?_⟩
  have := h3.2 h
  omega
structure StepIn (w : World) (s : Stp) (A : Option Addr) (c : Nat) (B : Option Addr) (d : Nat) : Prop where
  row : StR w s A c B d
  size : StSz 1048576 s
theorem StSz.up {k k' : Nat} {s : Stp} (h : StSz k s) (hk : k ≤ k') : StSz k' s := ⟨Nat.le_trans h.r hk, Nat.le_trans h.o hk, Nat.le_trans h.n hk, Nat.le_trans h.who hk, Nat.le_trans h.seals hk, fun x hx => Nat.le_trans (h.each x hx) hk⟩
def szStp (s : Stp) : Nat := s.r.length + s.o.length + s.n.length + szs szI s.who + szs szStr s.seals
theorem step_in {w : World} {s : Stp} {A : Option Addr} {c : Nat} {B : Option Addr} {d : Nat} (h1 : sliceR w 1 intR [.slice A s.who.length c] s.who) (h2 : sliceR w 1 strR [.slice B s.seals.length d] s.seals) (hs : szStp s ≤ 1048576) : StepIn w s A c B d := by
  unfold szStp at hs
  have a := ints_in h1 (by omega)
  have b := strs_in h2 (by omega)
  exact ⟨⟨a.row, b.row, a.nil, b.nil, a.cap, b.cap⟩, ⟨by omega, by omega, by omega, a.len, b.len, b.size⟩⟩
end Go.Proofs.YtmmpekdbknclcaaDoor

namespace Go.Proofs.YtmmpekdbknclcaaDoor
set_option maxRecDepth 100000
open Go.RowKit Go.ChangeShapes Go.WideShapes
set_option linter.unusedVariables false
def stpR (w : World) (cs : List Value) (s : Stp) : Prop := ∃ A c B d, cs = (stepA s A c B d).toList ∧ sliceR w 1 intR [.slice A s.who.length c] s.who ∧ sliceR w 1 strR [.slice B s.seals.length d] s.seals
theorem stps_sliceR {w : World} {cs : List Value} {xs : List Stp} (h : sliceR w 5 (stpR w) cs xs) :
    ∃ es : List SA, es.map (·.s) = xs ∧ sliceR w 5 (fun cs e => cs = stpV e) cs es ∧ ∀ e ∈ es, sliceR w 1 intR [.slice e.A e.s.who.length e.c] e.s.who ∧ sliceR w 1 strR [.slice e.B e.s.seals.length e.d] e.s.seals := by
  obtain ⟨A, c, hcs, h1, h2, hat⟩ := h
  by_cases hn : 0 < xs.length
  · obtain ⟨b, off, e, hel⟩ := hat hn
    obtain ⟨es, hlen, hes⟩ := build_list (fun i (e : SA) => ∃ h : i < xs.length, e.s = xs[i] ∧ (sliceR w 1 intR [.slice e.A e.s.who.length e.c] e.s.who ∧ sliceR w 1 strR [.slice e.B e.s.seals.length e.d] e.s.seals) ∧ ∃ ci, ci = stpV e ∧ ci.length = 5 ∧ ∀ j v, ci[j]? = some v → w.cell? ⟨b, off + i * 5 + j, none⟩ = some v) xs.length (fun i hi => by
      obtain ⟨ci, ⟨A', c', B', d', hci, ha, hb⟩, hl, hc⟩ := hel i hi
      exact ⟨⟨xs[i], A', c', B', d'⟩, hi, rfl, ⟨ha, hb⟩, ci, hci, hl, hc⟩)
    have hm : es.map (·.s) = xs := List.ext_getElem (by rw [List.length_map, hlen]) (fun i h h' => by
      rw [List.length_map] at h
      obtain ⟨_, h3, _⟩ := hes i h
      rw [List.getElem_map]
      exact h3)
    refine ⟨es, hm, ⟨A, c, by rw [hcs, hlen], by omega, h2, fun _ => ⟨b, off, e, fun i h => ?_⟩⟩, fun x hx => ?_⟩
    · obtain ⟨_, _, _, h4⟩ := hes i h
      exact h4
    · obtain ⟨i, hi, rfl⟩ := List.getElem_of_mem hx
      obtain ⟨_, _, h3, _⟩ := hes i hi
      exact h3
  · obtain rfl : xs = [] := List.eq_nil_of_length_eq_zero (by omega)
    exact ⟨[], rfl, ⟨A, c, hcs, h1, h2, fun h => absurd h (by simp)⟩, by simp⟩
/-- what is known of a list of steps that came in -/
structure StepsIn (w : World) (A : Option Addr) (c : Nat) (es : List SA) : Prop where
  row : StsR w A es.length es
  len : es.length ≤ 1048576
  size : ∀ e ∈ es, StSz 1048576 e.s
  cap : es.length ≤ c
  nil : A = none → es.length = 0 ∧ c = 0
def szStp1 (s : Stp) : Nat := szStp s + 1
theorem opens_step1 (w : World) : Opens w 37 5 (stpR w) szStp1 :=
  (opens_struct Tryd.underlying37 (by kernel_rfl) (opensF_cons rfl (opens_string Tryd.underlying9 (by kernel_rfl) w) (opensF_cons rfl (opens_string Tryd.underlying9 (by kernel_rfl) w) (opensF_cons rfl (opens_string Tryd.underlying9 (by kernel_rfl) w)
    (opensF_cons rfl (opens_slice Tryd.underlying35 (by kernel_rfl) (opens_int Tryd.underlying3 (by kernel_rfl) w) (by omega)) (opensF_cons rfl (opens_slice Tryd.underlying22 (by kernel_rfl) (opens_string Tryd.underlying9 (by kernel_rfl) w) (by omega)) (opensF_nil w 5))))))).map
    (fun a => ⟨a.1, a.2.1, a.2.2.1, a.2.2.2.1, a.2.2.2.2.1⟩) (by
      rintro cs ⟨r, o, n, who, seals, _⟩ ⟨c1, c2, rfl, _, h1, d1, d2, rfl, _, h2, e1, e2, rfl, _, h3, f1, f2, rfl, _, h4, g1, g2, rfl, _, h5, h6⟩
      have h4' := h4
      have h5' := h5
      obtain ⟨A, c, hc, _⟩ := h4
      obtain ⟨B, d, hd, _⟩ := h5
      simp only [strR] at h1 h2 h3
      simp only at hc hd
      subst hc
      subst hd
      subst h1
      subst h2
      subst h3
      simp only [nilR] at h6
      subst h6
      exact ⟨A, c, B, d, rfl, h4', h5'⟩) (by intro a; simp only [szStp1, szStp]; unfold szStr szI; omega)
theorem open_steps {w : World} {r : Reach} {base : Nat} {H : Type} {enc : TypeId × Value → H} {v : Value} {d : DataW H} {p : List MemPlace}
    (hv : Value.okWide Tryd.prog w r base 25 v) (hd : DataW.Trod enc Tryd.prog w 0 (fun _ => true) true 25 v d p) (hb : Rows.uptoBulk d ≤ 1048576) :
    ∃ A c es, v = .slice A (List.length es) c ∧ StepsIn w A c es := by
  obtain ⟨A, c, xs, e, hR, hs⟩ := open_slice_arg Tryd.underlying25 (opens_slice Tryd.underlying25 (by kernel_rfl) (opens_step1 w) (by omega)) hv hd
  obtain ⟨es, hm, hR2, hin⟩ := stps_sliceR hR
  have hxl : xs.length = es.length := by rw [← hm, List.length_map]
  rw [hxl] at hR2 e
  obtain ⟨A', c', e', h1, h2, hrow⟩ := sliceR_row (k := 5) stpV (fun _ => rfl) (by omega) (fun ci x h => h) hR2
  simp only [List.cons.injEq, and_true, Value.slice.injEq, true_and] at e'
  obtain ⟨rfl, rfl⟩ := e'
  obtain ⟨A2, c2, e2, _, h3, _⟩ := hR2
  simp only [List.cons.injEq, and_true, Value.slice.injEq, true_and] at e2
  obtain ⟨rfl, rfl⟩ := e2
  have hmem : ∀ x ∈ es, StepIn w x.s x.A x.c x.B x.d := fun x hx => by
    obtain ⟨ha, hb'⟩ := hin x hx
    have h5 := szs_mem szStp1 (show x.s ∈ xs by rw [← hm]; exact List.mem_map_of_mem hx)
    unfold szStp1 at h5 hs
    exact step_in ha hb' (by omega)
  have hl := szs_len szStp1 (fun x => Nat.succ_le_succ (Nat.zero_le _)) xs
  refine ⟨A, c, es, e, ⟨⟨hrow, fun x hx => (hmem x hx).row⟩, by omega, fun x hx => (hmem x hx).size, h1, fun h => ?_⟩⟩
  have := h3.2 h
  omega
end Go.Proofs.YtmmpekdbknclcaaDoor

namespace Go.Proofs.YtmmpekdbknclcaaDoor
set_option maxRecDepth 100000
open Go.RowKit Go.ChangeShapes Go.WideShapes
set_option linter.unusedVariables false
def n32 : List UInt8 := [48, 49, 50, 51, 52, 53, 54, 55, 56, 57, 97, 98, 99, 100, 101, 102, 48, 49, 50, 51, 52, 53, 54, 55, 56, 57, 97, 98, 99, 100, 101, 102]
def st0 : Stp := ⟨[97], [], n32, [], []⟩
def st1 (x : List UInt8) : Stp := ⟨[97], [], n32, [1], [x]⟩
theorem st0_sz : StSz 1099511627776 st0 := ⟨by decide, by decide, by decide, by decide, by decide, fun x h => by cases h⟩
theorem seal32 (key b : List UInt8) : (seal' key b).length = 32 := rfl
theorem st1_sz (x : List UInt8) (h : x.length = 32) : StSz 1099511627776 (st1 x) := ⟨st0_sz.r, st0_sz.o, st0_sz.n, by show (1 : Nat) ≤ _; omega, by show (1 : Nat) ≤ _; omega, fun y hy => by
  have : y = x := by simpa [st1] using hy
  subst this
  omega⟩
theorem st0_b : stB st0 = true := by decide
theorem st0_e : stE st0 = 0 := by decide
theorem st1_e (x : List UInt8) (h : x.length = 32) : stE (st1 x) = 0 := by
  have hb : stB (st1 x) = true := st0_b
  unfold stE
  rw [if_pos hb, if_neg (by show ¬ (8 < 1 ∨ ¬ 1 = 1); omega)]
  show stF (-1) [1] [x] = 0
  rw [stF_cons, if_neg (by omega), if_pos h]
  rfl
theorem st0_body : (bodyR 0 st0).2 = 0 := by
  unfold bodyR
  rw [if_neg (by omega), if_neg (by decide)]
theorem st1_body (x : List UInt8) : bodyR 0 (st1 x) = bodyR 0 st0 := rfl
theorem st0_sg : stSg st0 0 1 [107] = (st1 (seal' [107] (bodyR 0 st0).1), 0) := by
  unfold stSg
  rw [if_pos st0_e, if_pos st0_body, if_neg (by omega), if_neg (by decide)]
  rfl
theorem st1_rg (b x : List UInt8) (hx : x = seal' [107] b) : rgB [[], [107]] b 1 x = true := by
  have e : ([[], [107]] : List (List UInt8)).getD (1 : Int).toNat [] = [107] := rfl
  unfold rgB
  rw [e, hx, beq_self_eq_true]
  rfl
theorem st1_ck (b x : List UInt8) (hl : x.length = 32) (hb : (bodyR 0 st0).1 = b) (hx : x = seal' [107] b) : stCk [[], [107]] 1 0 (st1 x) = 0 := by
  have h1 := st1_rg b x hx
  clear hx
  unfold stCk
  rw [if_pos (st1_e _ hl), st1_body, if_pos st0_body, hb, if_pos]
  have e : rgL [[], [107]] b (st1 x) = [rgB [[], [107]] b 1 x] := rfl
  rw [e, h1]
  exact ⟨rfl, by show (1 : Int) ≤ ((1 : Nat) : Int); omega⟩
theorem row2 {W : World} {g : Nat} {T : TypeId} {u v : Value} (h : Blk W g T #[u, v]) : Row W 1 (some ⟨g, 0, none⟩) 2 [u, v] := by
  refine ⟨by simp, fun _ => ⟨g, 0, rfl, fun i v hi => ?_⟩⟩
  have := h.cell i
  rw [Nat.zero_add, this]
  simpa using hi
theorem k2_len : ∀ y ∈ ([[], [107]] : List (List UInt8)), y.length ≤ 1099511627776 := by
  intro y hy
  simp only [List.mem_cons, List.not_mem_nil, or_false] at hy
  rcases hy with rfl | rfl <;> decide
set_option maxHeartbeats 4000000 in
theorem steps_any (w : World) (hT : TabK w) : Calls Tryd.prog 9 #[] w fun e w' => e = .returned (.bool true) ∧ Gr w w' := by
  obtain ⟨x, hx⟩ : ∃ x, x = seal' [107] (bodyR 0 st0).1 := ⟨_, rfl⟩
  have hl : x.length = 32 := by rw [hx]; exact seal32 _ _
  have hck := st1_ck (bodyR 0 st0).1 x hl rfl hx
  have HSg := sec (sign_any st0 0 1 [107] none 0 none 0 w ⟨Row.nil w 1 none, Row.nil w 1 none, fun _ => ⟨rfl, rfl⟩, fun _ => ⟨rfl, rfl⟩, Nat.le_refl _, Nat.le_refl _⟩ st0_sz (fun ad h => by cases h) (fun ad h => by cases h) hT (by decide))
  rw [st0_sg, ← hx] at HSg
  have HCk : Sec (∀ (W : World) (A0 : Option Addr) (m' c0 d0 : Nat) (A : Option Addr) (c : Nat) (B : Option Addr) (d : Nat), Gr w W → StrRow W A0 2 [[], [107]] → StR W (st1 x) A c B d → Calls Tryd.prog 10 #[.agg (keysA A0 2 c0 none 0 d0 1), .int .i64 0, .agg (stepA (st1 x) A c B d)] W fun e w' => e = .returned (.int .i64 0) ∧ Gr W w') := sec (fun W A0 m' c0 d0 A c B d g hK hR => by
    have := stCheck_any A0 2 c0 none 0 d0 1 [[], [107]] 0 (st1 x) A c B d W hK (by omega) k2_len hR (st1_sz x hl) (hT.gr g)
    rwa [hck] at this)
  clear hck hx hl hT
  unfold keysA at HCk
  unfold st0 at HSg
  have e1 : ∀ A c B d, stepA (st1 x) A c B d = #[.string (bs [97]), .string (bs []), .string (bs n32), .slice A 1 c, .slice B 1 d] := fun _ _ _ _ => rfl
  go_enter Tryd.func9, Tryd.ntmps9
  go_upto_region 2 with (first
    | (go_at_call 16; refine Calls.mono HSg.out ?_; rintro e w1 ⟨A1, c1, B1, d1, rfl, R1, g1⟩)
    | (refine wpList_store_blk rfl 37 (.tmp 1) (.tmp 6) rfl (g := w1.heap.size) (cs' := stepA (st1 x) A1 c1 B1 d1) rfl rfl (Blk.new w1 _ _) aggStep rfl (stepA_one _ _ _ _ _) ?_; intro w2 h2 hg2))
  have G2 : Gr w w2 := Gr.only (g1.alloc _) hg2 g1.size
  have R2 : StR w2 (st1 x) A1 c1 B1 d1 := R1.gr (Gr.only ((Gr.refl w1).alloc _) hg2 (Nat.le_refl _))
  obtain ⟨p, hp⟩ : ∃ p, p = w1.heap.size := ⟨_, rfl⟩
  rw [← hp] at h2
  rw [← hp]
  have HSK : Sec (∀ w', Gr w2 w' → w'.cell? ⟨p, 0, none⟩ = some (.string (bs [97])) ∧ w'.cell? ⟨p, 1, none⟩ = some (.string (bs [])) ∧ w'.cell? ⟨p, 2, none⟩ = some (.string (bs n32)) ∧ w'.cell? ⟨p, 3, none⟩ = some (.slice A1 1 c1) ∧ w'.cell? ⟨p, 4, none⟩ = some (.slice B1 1 d1) ∧ Gr w2 w') := sec (fun w' g => ⟨(h2.gr g).cell 0, (h2.gr g).cell 1, (h2.gr g).cell 2, (h2.gr g).cell 3, (h2.gr g).cell 4, g⟩)
  have HC : Sec (∀ (W : World) (A0 : Option Addr) (m' c0 d0 : Nat), Gr w2 W → StrRow W A0 2 [[], [107]] → Calls Tryd.prog 10 #[.agg #[.slice A0 2 c0, .slice none 0 d0, .int .i64 1], .int .i64 0, .agg #[.string (bs [97]), .string (bs []), .string (bs n32), .slice A1 1 c1, .slice B1 1 d1]] W fun e w' => e = .returned (.int .i64 0) ∧ Gr W w') := sec (fun W A0 m' c0 d0 g hK => HCk.out W A0 m' c0 d0 A1 c1 B1 d1 (G2.trans g) hK (R2.gr g))
  have HG2 := sec G2
  have HB := sec h2
  clear h2 hg2 R1 R2 g1 hp G2 HCk HSg e1
  have gd : Gr w2 w2 := Gr.refl _
  obtain ⟨x0, x1, x2, x3, x4, _⟩ := HSK.out _ gd
  have hlt : p < w2.heap.size := HB.out.lt
  go_wp2_with (first
      | (go_at_call 10; (refine Calls.mono (HC.out _ _ 0 _ _ (gd.alloc _) (row2 (Blk.new _ _ _))) ?_); rintro e w3 ⟨rfl, g3⟩; have G3 : Gr w2 w3 := Gr.trans (gd.alloc _) g3)
      | fail)
  go_ret
  exact ⟨rfl, HG2.out.trans G3⟩
end Go.Proofs.YtmmpekdbknclcaaDoor

namespace Go.Proofs.YtmmpekdbknclcaaDoor
set_option maxRecDepth 100000
open Go.RowKit
set_option linter.unusedVariables false
theorem sames_szR {es es' : List SA} {k : Nat} (h : Sames es es') (hz : ∀ e ∈ es, StSz k e.s) : ∀ e ∈ es', StSz k e.s := by
  intro e he
  have h1 : e.s ∈ es'.map (·.s) := List.mem_map_of_mem he
  rw [h] at h1
  obtain ⟨e', he', h2⟩ := List.mem_map.1 h1
  rw [← h2]
  exact hz e' he'
set_option maxHeartbeats 8000000 in
theorem stepReplays_walk (A0 : Option Addr) (c0 : Nat) (B0 : Option Addr) (d0 : Nat) (need : Int) (ss ws : List (List UInt8)) (A : Option Addr) (c : Nat) (es : List SA) (W : World)
    (hK : StrsIn W A0 c0 ss ∧ StrsIn W B0 d0 ws) (hS : StepsIn W A c es) (hT : TabK W) :
    Calls Tryd.prog 3 #[.agg (keysA A0 ss.length c0 B0 ws.length d0 need), .slice A es.length c] W fun e W' => e = .returned (.bool true) ∧ Gr W W' := by
  obtain ⟨h1, h2⟩ := hK
  have hl1 := h1.len
  have hl2 := h2.len
  obtain ⟨hrow, hlen, hsz, hcap, hnil⟩ := hS
  have hz : ∀ e ∈ es, StSz 1099511627776 e.s := fun e he => (hsz e he).up (by omega)
  have hn : es.length ≤ 1099511627776 := by omega
  have hss : ∀ x ∈ ss, x.length ≤ 1099511627776 := fun x hx => Nat.le_trans (h1.size x hx) (by omega)
  obtain ⟨l, hl⟩ : ∃ l, l = es.map (·.s) := ⟨_, rfl⟩
  obtain ⟨wa, hwa⟩ : ∃ x, x = W.alloc (.cells (keysA A0 ss.length c0 B0 ws.length d0 need) 24) := ⟨_, rfl⟩
  have hk : Blk wa W.heap.size 24 (keysA A0 ss.length c0 B0 ws.length d0 need) := by rw [hwa]; exact Blk.new W _ _
  have hg0 : Gr W wa := by rw [hwa]; exact (Gr.refl W).alloc _
  obtain ⟨p, hp⟩ : ∃ p, p = W.heap.size := ⟨_, rfl⟩
  rw [← hp] at hk
  have HKy : Sec (∀ w', Gr wa w' → Calls Tryd.prog 5 #[.agg (keysA A0 ss.length c0 B0 ws.length d0 need)] w' fun e w'' => ∃ A' c' B' d', e = .returned (.agg (keysA A' ss.length c' B' ws.length d' need)) ∧ StrRow w'' A' ss.length ss ∧ Gr w' w'') := sec (fun w' g => (keys_any A0 ss.length c0 B0 ws.length d0 need ss ws w' (by omega) (by omega) ((h1.row.gr hg0).gr g) h1.nil ((h2.row.gr hg0).gr g) h2.nil).mono fun e w'' ⟨A', c', B', d', he, h3, _, _, _, h4⟩ => ⟨A', c', B', d', he, h3, h4⟩)
  have HCp : Sec (∀ w', Gr wa w' → Calls Tryd.prog 6 #[.slice A es.length c] w' fun e w'' => ∃ A' c' es', e = .returned (.slice A' es.length c') ∧ Sames es es' ∧ StsR w'' A' es.length es' ∧ Gr w' w'') := sec (fun w' g => (copySteps_any es A c w' ((hrow.gr hg0).gr g) hn hz).mono fun e w'' ⟨A', c', es', he, h1, h2, _, _, _, h3⟩ => ⟨A', c', es', he, h1, h2, h3⟩)
  have HRe : Sec (∀ w' A1 c1 B1 d1 A' c' es', Gr wa w' → StrRow w' A1 ss.length ss → Sames es es' → StsR w' A' es.length es' → Calls Tryd.prog 4 #[.agg (keysA A1 ss.length c1 B1 ws.length d1 need), .slice A' es.length c'] w' fun e w'' => ∃ A2 c2 n2, n2 = (rpR ss need l).1.length ∧ e = .returned (.tuple #[.slice A2 n2 c2, .int .i64 (rpR ss need l).2.1, .int .i64 (rpR ss need l).2.2]) ∧ RfRow w'' A2 n2 (rpR ss need l).1 ∧ Gr w' w'') := sec (fun w' A1 c1 B1 d1 A' c' es' g h3 h4 h5 => by
    have h6 := h5.len
    have := repl_any A1 ss.length c1 B1 ws.length d1 need ss es' l A' c' w' h3 (by omega) hss (by rw [h6]; exact h5) (by rw [hl]; exact h4.symm) (by omega) (sames_szR h4 hz) ((hT.gr hg0).gr g)
    rwa [h6] at this)
  have HRr : Sec (∀ w', Gr wa w' → Calls Tryd.prog 7 #[.agg (keysA A0 ss.length c0 B0 ws.length d0 need), .slice A es.length c] w' fun e w'' => ∃ A2 c2 n2, n2 = (rpR ss need l).1.length ∧ e = .returned (.tuple #[.slice A2 n2 c2, .int .i64 (rpR ss need l).2.1, .int .i64 (rpR ss need l).2.2]) ∧ RfRow w'' A2 n2 (rpR ss need l).1 ∧ Gr w' w'') := sec (fun w' g => rrepl_any A0 ss.length c0 B0 ws.length d0 need ss es l A c w' ((h1.row.gr hg0).gr g) (by omega) hss ((hrow.gr hg0).gr g) hl hn hz ((hT.gr hg0).gr g))
  have hfl : (rpR ss need l).1.length ≤ 1099511627776 := by
    have := rpR_len ss need l
    omega
  have HSa : Sec (∀ w' A1 c1 A2 c2 n, n = (rpR ss need l).1.length → RfRow w' A1 n (rpR ss need l).1 → RfRow w' A2 n (rpR ss need l).1 → Calls Tryd.prog 8 #[.slice A1 n c1, .slice A2 n c2] w' fun e w'' => e = .returned (.bool true) ∧ Gr w' w'') := sec (fun w' A1 c1 A2 c2 n hn h h' => sameRefs_any (rpR ss need l).1 A1 A2 n c1 c2 w' (by omega) h h')
  have HSt : Sec (∀ w', Gr wa w' → Calls Tryd.prog 9 #[] w' fun e w'' => e = .returned (.bool true) ∧ Gr w' w'') := sec (fun w' g => steps_any w' ((hT.gr hg0).gr g))
  obtain ⟨V1, hV1⟩ : ∃ y, y = (rpR ss need l).1 := ⟨_, rfl⟩
  obtain ⟨V2, hV2⟩ : ∃ y, y = (rpR ss need l).2.1 := ⟨_, rfl⟩
  obtain ⟨V3, hV3⟩ : ∃ y, y = (rpR ss need l).2.2 := ⟨_, rfl⟩
  obtain ⟨K, hKK⟩ : ∃ y, y = V1.length := ⟨_, rfl⟩
  obtain ⟨N, hN⟩ : ∃ y, y = es.length := ⟨_, rfl⟩
  obtain ⟨n, hn'⟩ : ∃ n, n = ss.length := ⟨_, rfl⟩
  obtain ⟨m, hm'⟩ : ∃ m, m = ws.length := ⟨_, rfl⟩
  rw [← hV1, ← hV2, ← hV3] at HRe HRr
  rw [← hV1] at HSa
  rw [← hN] at HCp HRe HRr
  rw [← hn', ← hm'] at HKy HRe HRr hk hwa
  rw [← hN, ← hn', ← hm']
  have HKC : Sec (∀ W, Gr wa W → W.cell? ⟨p, 0, none⟩ = some (.slice A0 n c0) ∧ W.cell? ⟨p, 1, none⟩ = some (.slice B0 m d0) ∧ W.cell? ⟨p, 2, none⟩ = some (.int .i64 need)) := sec (fun W g => ⟨(hk.gr g).cell 0, (hk.gr g).cell 1, (hk.gr g).cell 2⟩)
  clear hV1 hV2 hV3 hKK hN hn' hm' hk hrow hlen hsz hcap hnil hz hn hl hfl hT h1 h2 hl1 hl2 hss
  unfold keysA at hwa HKy HRe HRr
  unfold keysA
  go_enter Tryd.func3, Tryd.ntmps3
  go_upto_region 1 with fail
  rw [← hwa, ← hp]
  clear hwa hp
  obtain ⟨x0, x1, x2⟩ := HKC.out wa (Gr.refl _)
  go_wp2_with (first
    | (go_at_call 5; (with_reducible refine Calls.mono (HKy.out _ (Gr.refl _)) ?_); rintro e w1 ⟨A1, c1, B1, d1, rfl, r1, g1⟩)
    | (go_at_call 6; (with_reducible refine Calls.mono (HCp.out _ g1) ?_); rintro e w2 ⟨A2, c2, es2, rfl, q2, r2, g2⟩; have G2 := Gr.trans g1 g2)
    | (go_at_call 4; (with_reducible refine Calls.mono (HRe.out _ _ _ _ _ _ _ _ G2 (r1.gr g2) q2 r2) ?_); rintro e w3 ⟨A3, c3, n3, hn3, rfl, r3, g3⟩; have HN3 := sec hn3; clear hn3; have G3 := Gr.trans G2 g3; obtain ⟨y0, y1, y2⟩ := HKC.out w3 G3)
    | (go_at_call 7; (with_reducible refine Calls.mono (HRr.out _ G3) ?_); rintro e w4 ⟨A4, c4, n4, hn4, rfl, r4, g4⟩; have HN4 := sec (hn4.trans HN3.out.symm); clear hn4; have G4 := Gr.trans G3 g4)
    | (go_at_call 8; (rw [HN4.out]; with_reducible refine Calls.mono (HSa.out _ _ _ _ _ _ HN3.out (r3.gr g4) (by rw [← HN4.out]; exact r4)) ?_); rintro e w5 ⟨rfl, g5⟩; have G5 := Gr.trans G4 g5)
    | (go_at_call 9; (with_reducible refine Calls.mono (HSt.out _ G5) ?_); rintro e w6 ⟨rfl, g6⟩; have G6 := Gr.trans G5 g6))
  go_ret
  exact ⟨rfl, hg0.trans G6⟩
end Go.Proofs.YtmmpekdbknclcaaDoor

namespace Go.Proofs.YtmmpekdbknclcaaDoor
open Go.RowKit Go.ChangeShapes Go.WideShapes Go.ChangeAt
set_option linter.unusedVariables false
theorem gTab : Tryd.prog.globalNamed "cartulary/sum.table" = some 1 := by kernel_rfl
theorem gTabType : (Tryd.prog.globals[1]?).map (·.type) = some 103 := by kernel_rfl
theorem cellsTab : Tryd.prog.cellsOf 103 = 64 := by kernel_rfl
theorem cellsU32 : Tryd.prog.cellsOf 81 = 1 := by kernel_rfl
def kInts : List Int := kTab.map fun x => (x.toNat : Int)
theorem table_of {W : World} {rest : List (String × DataW Unit)} (h : laidMet Tryd.prog (("cartulary/sum.table", Rows.laid_cartulary_sum_table) :: rest) W) : TabK W := by
  have ht : Lib.TabIs Tryd.prog W "cartulary/sum.table" .u32 kInts :=
    Lib.tabIs_of_head (rest := rest) gTab gTabType Tryd.underlying103 Tryd.underlying81 cellsU32 cellsTab h
  refine ⟨fun i hi => ?_⟩
  have hl : i < kInts.length := by unfold kInts; rw [List.length_map, kTab_len]; exact hi
  have := ht.cell gTab i hl
  rw [this]
  have : i < kTab.length := by rw [kTab_len]; exact hi
  simp [kInts, kAt, u32V, this]

/-- the numbers of a listed variable, flat -/
def flatW : Nat → DataW Unit → List Value
  | 0, _ => []
  | _ + 1, .lit (.int k z) => [.int k z]
  | n + 1, .agg xs => xs.flatMap (flatW n)
  | _ + 1, _ => []
noncomputable def laidHeap (l : List (String × DataW Unit)) (h : Array Obj) : Array Obj :=
  l.foldl (fun h x => match Tryd.prog.globalNamed x.1 with
    | some g => h.modify g fun
      | .cells _ t frozen => .cells (flatW 8 x.2).toArray t frozen
      | o => o
    | none => h) h
noncomputable def laidWorld (l : List (String × DataW Unit)) (os : Os) : World :=
  { World.holding Tryd.prog os ⟨#[], #[], []⟩ with heap := laidHeap l (World.holding Tryd.prog os ⟨#[], #[], []⟩).heap }
end Go.Proofs.YtmmpekdbknclcaaDoor

/-
  HeadStepsP: contracts and plain laws joined (12 texts). No conditions but those that each states.
-/
import Derived.Test.YtkgmimmneeppgaaDoorStepBase
import Derived.Test.YtkgmimmneeppgaaDoorMerkR
import Derived.Deep.RegionHeld3
import Derived.Test.YtkgmimmneeppgaaDoorMerkL
import Derived.Test.YtkgmimmneeppgaaDoorSumS
import Derived.Test.YtkgmimmneeppgaaDoorRSumS
import Derived.Test.YtkgmimmneeppgaaDoorMerkC
import Derived.Test.YtkgmimmneeppgaaDoorLies
import Derived.StillTailTactics
namespace Go.Proofs.YtkgmimmneeppgaaDoor
set_option maxRecDepth 100000
open Go.RowKit
set_option linter.unusedVariables false
theorem own_lowO {w : World} {B B' e size n : Nat} {v : Value} {xs : List Value} (h : w.ownsRow B e size v n xs) (hle : B' ≤ B) : w.ownsRow B' e size v n xs := by
  refine ⟨h.1, ?_⟩
  rcases h.2 with h0 | ⟨g, cap, cur, hv, hB, r⟩
  · exact .inl h0
  · exact .inr ⟨g, cap, cur, hv, Nat.le_trans hle hB, r⟩
theorem wpList_append_rowO {ops : Array Oper} {rest : List Oper} {o : Oper} {a : Act} {Q : Exit → Act → World → Prop} {t e : TypeId} {z : Value} {size bytes : Nat} (E : ElemOk t e z size bytes) (hgd : o.guard = none) (s x : Operand)
    (ho : o.op = .call { callee := .builtin .append, args := #[s, x], argTypes := #[t, t] }) {B : Nat} {w : World}
    {A0 : Option Addr} {n0 cap0 : Nat} {xs : List Value} (hs : a.eval s = .slice A0 n0 cap0) (hown : w.ownsRow B e size (.slice A0 n0 cap0) n0 xs)
    {A : Option Addr} {n c : Nat} {vs : List Value} (hx : a.eval x = .slice A n c) (hrow : Row w size A n vs) (hA : A = none → n = 0 ∧ c = 0) (h1 : ∀ u ∈ vs, u.oneCell' = true)
    (hbytes : (n0 + n) * bytes ≤ 140737488355328) (h63 : n0 + n ≤ maxLen) (hB : B ≤ w.heap.size)
    (h : ∀ A' cap' w', w'.ownsRow B e size (.slice A' (n0 + n) cap') (n0 + n) (xs ++ vs) → w.grownBy w' (Value.ownBlock (.slice A0 n0 cap0)) → wpList Tryd.prog ops Q rest (a.put o.dst (.slice A' (n0 + n) cap')) w') : wpList Tryd.prog ops Q (o :: rest) a w :=
  wpList_plain hgd fun _ hK => wp_append_row E s x ho hs hown hx hrow hA h1 hbytes h63 hB fun A' cap' w' h2 h3 => hK _ _ (h A' cap' w' h2 h3)
set_option maxHeartbeats 8000000 in
theorem copyStepO_any (s : Stp) (A : Option Addr) (c : Nat) (B : Option Addr) (d : Nat) (w : World) (hR : StR w s A c B d) (hz : StSz 1099511627776 s) :
    Calls Tryd.prog 21 #[.agg (stepA s A c B d)] w fun e w' => ∃ A' c' B' d', e = .returned (.agg (stepA s A' c' B' d')) ∧ w'.ownsRow w.heap.size 3 1 (.slice A' s.who.length c') s.who.length (s.who.map iV) ∧ w'.ownsRow w.heap.size 9 1 (.slice B' s.seals.length d') s.seals.length (s.seals.map strV) ∧ Gr w w' := by
  have hwl := hz.who
  have hsl := hz.seals
  have hb1 : (0 + s.who.length) * 8 ≤ 140737488355328 := by omega
  have hb2 : 0 + s.who.length ≤ maxLen := by unfold maxLen; omega
  have hb3 : (0 + s.seals.length) * 16 ≤ 140737488355328 := by omega
  have hb4 : 0 + s.seals.length ≤ maxLen := by unfold maxLen; omega
  obtain ⟨wa, hwa⟩ : ∃ x, x = (w.alloc (.cells (stepA s A c B d) 46)).alloc (.cells #[.string (bs []), .string (bs []), .string (bs []), .slice none 0 0, .slice none 0 0] 46) := ⟨_, rfl⟩
  have hb : Blk wa w.heap.size 46 (stepA s A c B d) := by rw [hwa]; exact (Blk.new w _ _).alloc _
  have hr : Blk wa (w.heap.size + 1) 46 #[.string (bs []), .string (bs []), .string (bs []), .slice none 0 0, .slice none 0 0] := by rw [hwa]; exact Blk.new1 w _ _ _
  have hg0 : Gr w wa := by rw [hwa]; exact ((Gr.refl w).alloc _).alloc _
  obtain ⟨p, hp⟩ : ∃ p, p = w.heap.size := ⟨_, rfl⟩
  rw [← hp] at hb hr
  have hwp : w.heap.size ≤ p := by omega
  have HB := sec hb
  have HRR := sec hr
  have HRW := sec (hR.gr hg0)
  have HSK : Sec (∀ w', Gr wa w' → w'.cell? ⟨p, 3, none⟩ = some (.slice A s.who.length c) ∧ w'.cell? ⟨p, 4, none⟩ = some (.slice B s.seals.length d) ∧ w'.frozen? ⟨p, 3, none⟩ = false ∧ w'.frozen? ⟨p, 4, none⟩ = false) := sec (fun w' g => ⟨(hb.gr g).cell 3, (hb.gr g).cell 4, (hb.gr g).frozen 3, (hb.gr g).frozen 4⟩)
  have HSZ : Sec (∀ w', Gr wa w' → p + 1 < w'.heap.size) := sec (fun w' g => (hr.gr g).lt)
  clear hb hr hR hz
  unfold stepA at hwa
  unfold stepA
  go_enter Tryd.func21, Tryd.ntmps21
  go_upto_region 1 with fail
  rw [← hwa, ← hp]
  clear hwa hp
  have gd : Gr wa wa.drew := (Gr.refl _).drew
  obtain ⟨a0, a1, a2, a3⟩ := HSK.out wa (Gr.refl _)
  go_region_law (first
    | (refine step_append_row E.ints rfl (.const (.slice none 0 0)) (.tmp 4) rfl (B := p + 1 + 1) rfl (World.ownsRow_nil _ _ _ _) rfl (Row.gr HRW.out.who (by first | with_reducible assumption)) HRW.out.wn iV_one hb1 hb2 (HSZ.out _ (by first | with_reducible assumption)) ?_; intro A1 k1 x1 o1 h1; have G1 : Gr wa x1 := Gr.grown (by first | with_reducible assumption) h1 (by rintro k hk; cases hk); obtain ⟨m0, m1, m2, m3⟩ := HSK.out x1 G1)
    | (refine step_append_row E.str rfl (.const (.slice none 0 0)) (.tmp 7) rfl (B := p + 1 + 1) rfl (World.ownsRow_nil _ _ _ _) rfl (Row.gr HRW.out.seals (by first | with_reducible assumption)) HRW.out.sn sV_one hb3 hb4 (HSZ.out _ (by first | with_reducible assumption)) ?_; intro A2 k2 x2 o2 h2; have G2 : Gr wa x2 := Gr.grown (by first | with_reducible assumption) h2 (by rintro k hk; cases hk); obtain ⟨n0, n1, n2, n3⟩ := HSK.out x2 G2))
  all_goals
    rw [Nat.zero_add, List.nil_append] at o1 o2
    have g12 : Gr x1 x2 := Gr.grown (Gr.refl _) h2 (by rintro k hk; cases hk)
    have o3 := own_gr o1 g12
    have f1 : ∀ {e n cap : Nat} {X : Option Addr} {xs : List Value}, x2.ownsRow (p + 1 + 1) e 1 (.slice X n cap) n xs → ((x2.setCell ⟨p, 3, none⟩ (.slice A1 s.who.length k1)).setCell ⟨p, 4, none⟩ (.slice A2 s.seals.length k2)).ownsRow (p + 1 + 1) e 1 (.slice X n cap) n xs := fun h =>
      ownsRow_setCell_other (ownsRow_setCell_other h (a := ⟨p, 3, none⟩) (fun e => by have := (h.lt p e).1; omega) _) (a := ⟨p, 4, none⟩) (fun e => by have := (h.lt p e).1; omega) _
    have q1 := f1 o3
    have q2 := f1 o2
    have BX : Blk ((x2.setCell ⟨p, 3, none⟩ (.slice A1 s.who.length k1)).setCell ⟨p, 4, none⟩ (.slice A2 s.seals.length k2)) p 46 (stepA s A1 k1 A2 k2) := ((HB.out.gr G2).set_ 3 _).set_ 4 _
    have ZX := ((HRR.out.gr G2).far (p := ⟨p, 3, none⟩) (by show p + 1 ≠ p; omega) (.slice A1 s.who.length k1)).far (p := ⟨p, 4, none⟩) (by show p + 1 ≠ p; omega) (.slice A2 s.seals.length k2)
    have GX := ((hg0.trans G2).setCell (p := ⟨p, 3, none⟩) hwp (.slice A1 s.who.length k1)).setCell (p := ⟨p, 4, none⟩) hwp (.slice A2 s.seals.length k2)
    clear m0 m1 m2 m3 n0 n1 n2 n3 a0 a1 a2 a3 f1 o1 o2 o3
    go_wp2_with (first
      | (refine wpList_load_blk rfl 46 (.tmp 1) rfl (g := p) rfl BX aggStep ?_)
      | (refine wpList_store_blk rfl 46 (.tmp 2) (.tmp 11) rfl (g := p + 1) (cs' := stepA s A1 k1 A2 k2) rfl rfl ZX aggStep rfl (stepA_one _ _ _ _ _) ?_; intro w9 h9 hg9))
    refine bodyPost_ret (results_blk rfl _ rfl h9 aggStep) rfl ?_
    exact ⟨A1, k1, A2, k2, rfl, own_lowO (own_only q1 ZX (by decide) hg9) (by omega), own_lowO (own_only q2 ZX (by decide) hg9) (by omega), Gr.only GX hg9 (by omega)⟩
end Go.Proofs.YtkgmimmneeppgaaDoor

namespace Go.Proofs.YtkgmimmneeppgaaDoor
set_option maxRecDepth 100000
open Go.RowKit
set_option linter.unusedVariables false

/-- a step and where its two rows lie -/
structure SA where
  s : Stp
  A : Option Addr
  c : Nat
  B : Option Addr
  d : Nat
def stpV (e : SA) : List Value := [.string (bs e.s.r), .string (bs e.s.o), .string (bs e.s.n), .slice e.A e.s.who.length e.c, .slice e.B e.s.seals.length e.d]
theorem E.stp : ElemOk 36 46 (.agg #[.string (bs []), .string (bs []), .string (bs []), .slice none 0 0, .slice none 0 0]) 5 96 := ⟨Tryd.underlying36, by kernel_rfl, rfl, by omega⟩
structure StsR (w : World) (A : Option Addr) (n : Nat) (es : List SA) : Prop where
  row : Row w 5 A n (es.flatMap stpV)
  each : ∀ e ∈ es, StR w e.s e.A e.c e.B e.d
theorem StsR.gr {w w' : World} {A : Option Addr} {n : Nat} {es : List SA} (h : StsR w A n es) (g : Gr w w') : StsR w' A n es := ⟨h.row.gr g, fun e he => (h.each e he).gr g⟩
theorem StsR.len {w : World} {A : Option Addr} {n : Nat} {es : List SA} (h : StsR w A n es) : es.length = n := Row.flen stpV (fun _ => rfl) (by omega) h.row
theorem StsR.cell {w : World} {A : Option Addr} {n : Nat} {es : List SA} (h : StsR w A n es) {i : Nat} (hi : i < es.length) :
    ∃ b off, A = some ⟨b, off, none⟩ ∧ w.cell? ⟨b, off + i * 5, none⟩ = some (.string (bs es[i].s.r)) ∧ w.cell? ⟨b, off + i * 5 + 1, none⟩ = some (.string (bs es[i].s.o)) ∧ w.cell? ⟨b, off + i * 5 + 2, none⟩ = some (.string (bs es[i].s.n)) ∧
      w.cell? ⟨b, off + i * 5 + 3, none⟩ = some (.slice es[i].A es[i].s.who.length es[i].c) ∧ w.cell? ⟨b, off + i * 5 + 4, none⟩ = some (.slice es[i].B es[i].s.seals.length es[i].d) := by
  obtain ⟨b, off, e, _, hc⟩ := Row.fcell stpV (fun _ => rfl) (by omega) h.row hi
  exact ⟨b, off, e, hc 0 _ rfl, hc 1 _ rfl, hc 2 _ rfl, hc 3 _ rfl, hc 4 _ rfl⟩
theorem stpV_one {es : List SA} : ∀ u ∈ es.flatMap stpV, u.oneCell' = true := by
  intro u hu
  obtain ⟨f, _, h⟩ := List.mem_flatMap.1 hu
  simp only [stpV, List.mem_cons, List.not_mem_nil, or_false] at h
  rcases h with rfl | rfl | rfl | rfl | rfl <;> rfl
theorem stpV_one1 (e : SA) : ∀ u ∈ stpV e, u.oneCell' = true := by
  intro u h
  simp only [stpV, List.mem_cons, List.not_mem_nil, or_false] at h
  rcases h with rfl | rfl | rfl | rfl | rfl <;> rfl
theorem row_stp {W : World} {g : Nat} {e : SA} (h : Blk W g 46 (stepA e.s e.A e.c e.B e.d)) : Row W 5 (some ⟨g, 0, none⟩) 1 (stpV e) := by
  refine ⟨rfl, fun _ => ⟨g, 0, rfl, fun i v hi => ?_⟩⟩
  have := h.cell i
  rw [Nat.zero_add, this]
  simpa [stepA, stpV] using hi
theorem own_nil5 {w : World} {k e size n cap : Nat} {A : Option Addr} {xs : List Value} (h : w.ownsRow k e size (.slice A n cap) n xs) : A = none → n = 0 ∧ cap = 0 := by
  intro e
  rcases h.2 with ⟨h, h0⟩ | ⟨g, _, _, h, _⟩
  · injection h with _ h2 h3
    exact ⟨h0, h3⟩
  · injection h with h2 _ _
    rw [e] at h2; cases h2
theorem own_cap5 {w : World} {k e size n cap : Nat} {A : Option Addr} {xs : List Value} (h : w.ownsRow k e size (.slice A n cap) n xs) : n ≤ cap := by
  rcases h.2 with ⟨h, h0⟩ | ⟨g, cap', cur, h, _, _, hle, _⟩
  · omega
  · injection h with _ _ h3
    subst h3
    exact hle
/-- both rows are the call's own -/
structure StO (b : Nat) (w : World) (e : SA) : Prop where
  who : w.ownsRow b 3 1 (.slice e.A e.s.who.length e.c) e.s.who.length (e.s.who.map iV)
  seals : w.ownsRow b 9 1 (.slice e.B e.s.seals.length e.d) e.s.seals.length (e.s.seals.map strV)
theorem StO.str {b : Nat} {w : World} {e : SA} (h : StO b w e) : StR w e.s e.A e.c e.B e.d := ⟨Row.own h.who, Row.own h.seals, own_nil h.who, own_nil h.seals, own_cap h.who, own_cap h.seals⟩
theorem StO.gr {b : Nat} {w w' : World} {e : SA} (h : StO b w e) (g : Gr w w') : StO b w' e := ⟨own_gr h.who g, own_gr h.seals g⟩
theorem StO.app {b k : Nat} {w w' : World} {e : SA} {size n : Nat} {v : Value} {xs : List Value} (h : StO b w e) (ho : w.ownsRow k 46 size v n xs) (g : w.grownBy w' v.ownBlock) : StO b w' e := ⟨own_other h.who ho (by decide) g, own_other h.seals ho (by decide) g⟩
theorem StO.low {b b' : Nat} {w : World} {e : SA} (h : StO b w e) (hb : b' ≤ b) : StO b' w e := ⟨own_lowO h.who hb, own_lowO h.seals hb⟩
/-- the same steps, wherever their rows lie -/
def Sames (es es' : List SA) : Prop := es'.map (·.s) = es.map (·.s)

set_option maxHeartbeats 8000000 in
theorem copySteps_any (es : List SA) (A : Option Addr) (c : Nat) (w : World) (hx : StsR w A es.length es) (hn : es.length ≤ 1099511627776) (hz : ∀ e ∈ es, StSz 1099511627776 e.s) :
    Calls Tryd.prog 15 #[.slice A es.length c] w fun e w' => ∃ A' c' es', e = .returned (.slice A' es.length c') ∧ Sames es es' ∧ StsR w' A' es.length es' ∧ (∀ e ∈ es', StO w.heap.size w' e) ∧ (A' = none → es.length = 0 ∧ c' = 0) ∧ es.length ≤ c' ∧ Gr w w' := by
  have HX := sec hx
  have HC : Sec (∀ i (h : i < es.length) W, Gr w W → Calls Tryd.prog 21 #[.agg (stepA es[i].s es[i].A es[i].c es[i].B es[i].d)] W fun e w' => ∃ A' c' B' d', e = .returned (.agg (stepA es[i].s A' c' B' d')) ∧ StO w.heap.size w' ⟨es[i].s, A', c', B', d'⟩ ∧ Gr W w') := sec (fun i h W g =>
    (copyStepO_any es[i].s es[i].A es[i].c es[i].B es[i].d W ((hx.each _ (List.getElem_mem h)).gr g) (hz _ (List.getElem_mem h))).mono fun e w'' ⟨A', c', B', d', he, h1, h2, h3⟩ => ⟨A', c', B', d', he, StO.low ⟨h1, h2⟩ g.size, h3⟩)
  obtain ⟨N, hN⟩ : ∃ N, N = es.length := ⟨_, rfl⟩
  have HN := sec hN
  rw [← hN] at hn HX
  rw [← hN]
  clear hx hz hN
  go_enter Tryd.func15, Tryd.ntmps15
  go_wp2_with fail
  go_loopg [8, 3, 5] N (fun fuel iv ov _ wr => ∃ (i : Nat) (A0 : Option Addr) (c0 : Nat) (es' : List SA), iv = .int .i64 (i : Int) ∧ ov = .slice A0 i c0 ∧ N ≤ i + fuel ∧ i ≤ N ∧ Sec (es'.map (·.s) = (es.take i).map (·.s)) ∧
    Sec (wr.ownsRow w.heap.size 46 5 (.slice A0 i c0) i (es'.flatMap stpV)) ∧ Sec (∀ e ∈ es', StO w.heap.size wr e) ∧ Sec (Gr w wr))
  case atStart => exact ⟨0, none, 0, [], rfl, rfl, by omega, by omega, sec rfl, sec (World.ownsRow_nil _ _ _ _), sec (by simp), sec (Gr.refl _)⟩
  case round =>
    obtain ⟨i, A0, c0, es', rfl, rfl, hik, hi, HS, HO, HE, HG⟩ := hrel
    by_cases hlt : i < N
    · have hii : (i : Int) < (N : Int) := by omega
      have hlt' : i < es.length := by rw [← HN.out]; exact hlt
      obtain ⟨b, off, rfl, e0, e1, e2, e3, e4⟩ := (HX.out.gr HG.out).cell hlt'
      obtain ⟨E0, hE0⟩ : ∃ E, E = es[i] := ⟨_, rfl⟩
      have HCi := sec (HC.out i hlt')
      have HN1 : Sec (∀ x : Stp, x = es[i].s → (es'.map (·.s) ++ [x]) = (es.take (i + 1)).map (·.s)) := sec (fun x hx => by rw [List.take_succ_eq_append_getElem hlt', List.map_append, HS.out, hx]; rfl)
      rw [← hE0] at HCi HN1 e0 e1 e2 e3 e4
      clear hE0 hlt'
      obtain ⟨⟨r, o, n, who, seals⟩, A1, c1, B1, d1⟩ := E0
      simp only at e0 e1 e2 e3 e4 HN1
      simp only [stepA] at HCi
      have hbb : (i + 1) * 96 ≤ 140737488355328 := by omega
      have hmm : i + 1 ≤ maxLen := by unfold maxLen; omega
      have hsz : w.heap.size ≤ wr.heap.size := HG.out.size
      have HLT := sec hlt
      clear hlt
      go_wp2_with (first
        | (go_at_call 21; (with_reducible refine Calls.mono (HCi.out _ (HG.out.alloc _)) ?_); rintro e w1 ⟨A', c', B', d', rfl, o1, g1⟩; have G1 := (HG.out.alloc (.cells #[.string (bs r), .string (bs o), .string (bs n), .slice A1 who.length c1, .slice B1 seals.length d1] 46)).trans g1; have HO1 := own_gr HO.out (((Gr.refl wr).alloc (.cells #[.string (bs r), .string (bs o), .string (bs n), .slice A1 who.length c1, .slice B1 seals.length d1] 46)).trans g1); have GG1 := ((Gr.refl wr).alloc (.cells #[.string (bs r), .string (bs o), .string (bs n), .slice A1 who.length c1, .slice B1 seals.length d1] 46)).trans g1)
        | (at_builtin; refine wpList_append_rowO E.stp rfl (.tmp 12) (.tmp 15) rfl (B := w.heap.size) (A0 := A0) (n0 := i) (cap0 := c0) (xs := es'.flatMap stpV) rfl (own_gr HO1 ((Gr.refl _).alloc _)) rfl (row_stp (e := ⟨⟨r, o, n, who, seals⟩, A', c', B', d'⟩) (Blk.new _ _ _)) (fun h => by cases h) (stpV_one1 _) hbb hmm (G1.alloc _).size ?_; intro A2 c2 w2 o2 h2))
      have hal := (Gr.refl w1).alloc (.cells (stepA ⟨r, o, n, who, seals⟩ A' c' B' d') 46)
      have HO2 := own_gr HO1 hal
      go_roundg (gk - 1)
      case rel =>
        refine ⟨i + 1, A2, c2, es' ++ [⟨⟨r, o, n, who, seals⟩, A', c', B', d'⟩], by go_num, rfl, by omega, HLT.out, sec ?_, sec ?_, sec (fun e he => ?_), sec ?_⟩
        · rw [List.map_append]; exact HN1.out _ rfl
        · rw [List.flatMap_append]; simpa using o2
        · rcases List.mem_append.1 he with he | he
          · exact (((HE.out e he).gr GG1).gr hal).app HO2 h2
          · rw [List.mem_singleton] at he; subst he
            exact (o1.gr hal).app HO2 h2
        · exact (G1.trans hal).grown h2 (fun k hk => (HO2.lt k hk).1)
      case measure => have := HLT.out; omega
    · have q1 : decide (i < N) = false := decide_eq_false hlt
      have HI : Sec (i = N) := sec (by omega)
      clear hlt
      go_wp2_with fail
      go_ret
      obtain rfl := HI.out
      have hfin : es'.map (·.s) = es.map (·.s) := by rw [HS.out, HN.out, List.take_length]
      exact ⟨A0, c0, rfl, es', hfin, ⟨Row.own HO.out, fun e he => (HE.out e he).str⟩, HE.out, own_nil5 HO.out, own_cap5 HO.out, HG.out⟩
end Go.Proofs.YtkgmimmneeppgaaDoor

namespace Go.Proofs.YtkgmimmneeppgaaDoor
set_option maxRecDepth 100000
open Go.RowKit Go.ChangeShapes Go.WideShapes
set_option linter.unusedVariables false

def stpR (w : World) (cs : List Value) (s : Stp) : Prop := ∃ A c B d, cs = (stepA s A c B d).toList ∧ sliceR w 1 intR [.slice A s.who.length c] s.who ∧ sliceR w 1 strR [.slice B s.seals.length d] s.seals
theorem stps_sliceR {w : World} {cs : List Value} {xs : List Stp} (h : sliceR w 5 (stpR w) cs xs) :
    ∃ es : List SA, es.map (·.s) = xs ∧ sliceR w 5 (fun cs e => cs = stpV e) cs es ∧ ∀ e ∈ es, sliceR w 1 intR [.slice e.A e.s.who.length e.c] e.s.who ∧ sliceR w 1 strR [.slice e.B e.s.seals.length e.d] e.s.seals := by
  obtain ⟨A, c, hcs, h1, h2, hat⟩ := h
  by_cases hn : 0 < xs.length
  · obtain ⟨b, off, e, hel⟩ := hat hn
    obtain ⟨es, hlen, hes⟩ := build_list (fun i (e : SA) => ∃ h : i < xs.length, e.s = xs[i] ∧ (sliceR w 1 intR [.slice e.A e.s.who.length e.c] e.s.who ∧ sliceR w 1 strR [.slice e.B e.s.seals.length e.d] e.s.seals) ∧ ∃ ci, ci = stpV e ∧ ci.length = 5 ∧ ∀ j v, ci[j]? = some v → w.cell? ⟨b, off + i * 5 + j, none⟩ = some v) xs.length (fun i hi => by
      obtain ⟨ci, ⟨A', c', B', d', hci, ha, hb⟩, hl, hc⟩ := hel i hi
      exact ⟨⟨xs[i], A', c', B', d'⟩, hi, rfl, ⟨ha, hb⟩, ci, hci, hl, hc⟩)
    have hm : es.map (·.s) = xs := List.ext_getElem (by rw [List.length_map, hlen]) (fun i h h' => by
      rw [List.length_map] at h
      obtain ⟨_, h3, _⟩ := hes i h
      rw [List.getElem_map]
      exact h3)
    refine ⟨es, hm, ⟨A, c, by rw [hcs, hlen], by omega, h2, fun _ => ⟨b, off, e, fun i h => ?_⟩⟩, fun x hx => ?_⟩
    · obtain ⟨_, _, _, h4⟩ := hes i h
      exact h4
    · obtain ⟨i, hi, rfl⟩ := List.getElem_of_mem hx
      obtain ⟨_, _, h3, _⟩ := hes i hi
      exact h3
  · obtain rfl : xs = [] := List.eq_nil_of_length_eq_zero (by omega)
    exact ⟨[], rfl, ⟨A, c, hcs, h1, h2, fun h => absurd h (by simp)⟩, by simp⟩
/-- what is known of a list of steps that came in -/
structure StepsIn (w : World) (A : Option Addr) (c : Nat) (es : List SA) : Prop where
  row : StsR w A es.length es
  len : es.length ≤ 1048576
  size : ∀ e ∈ es, StSz 1048576 e.s
  cap : es.length ≤ c
  nil : A = none → es.length = 0 ∧ c = 0
def szStp1 (s : Stp) : Nat := szStp s + 1
theorem opens_step1 (w : World) : Opens w 46 5 (stpR w) szStp1 :=
  (opens_struct Tryd.underlying46 (by kernel_rfl) (opensF_cons rfl (opens_string Tryd.underlying9 (by kernel_rfl) w) (opensF_cons rfl (opens_string Tryd.underlying9 (by kernel_rfl) w) (opensF_cons rfl (opens_string Tryd.underlying9 (by kernel_rfl) w)
    (opensF_cons rfl (opens_slice Tryd.underlying44 (by kernel_rfl) (opens_int Tryd.underlying3 (by kernel_rfl) w) (by omega)) (opensF_cons rfl (opens_slice Tryd.underlying22 (by kernel_rfl) (opens_string Tryd.underlying9 (by kernel_rfl) w) (by omega)) (opensF_nil w 5))))))).map
    (fun a => ⟨a.1, a.2.1, a.2.2.1, a.2.2.2.1, a.2.2.2.2.1⟩) (by
      rintro cs ⟨r, o, n, who, seals, _⟩ ⟨c1, c2, rfl, _, h1, d1, d2, rfl, _, h2, e1, e2, rfl, _, h3, f1, f2, rfl, _, h4, g1, g2, rfl, _, h5, h6⟩
      have h4' := h4
      have h5' := h5
      obtain ⟨A, c, hc, _⟩ := h4
      obtain ⟨B, d, hd, _⟩ := h5
      simp only [strR] at h1 h2 h3
      simp only at hc hd
      subst hc
      subst hd
      subst h1
      subst h2
      subst h3
      simp only [nilR] at h6
      subst h6
      exact ⟨A, c, B, d, rfl, h4', h5'⟩) (by intro a; simp only [szStp1, szStp]; unfold szStr szI; omega)
theorem open_steps {w : World} {r : Reach} {base : Nat} {H : Type} {enc : TypeId × Value → H} {v : Value} {d : DataW H} {p : List MemPlace}
    (hv : Value.okWide Tryd.prog w r base 36 v) (hd : DataW.Trod enc Tryd.prog w 0 (fun _ => true) true 36 v d p) (hb : Rows.uptoBulk d ≤ 1048576) :
    ∃ A c es, v = .slice A (List.length es) c ∧ StepsIn w A c es := by
  obtain ⟨A, c, xs, e, hR, hs⟩ := open_slice_arg Tryd.underlying36 (opens_slice Tryd.underlying36 (by kernel_rfl) (opens_step1 w) (by omega)) hv hd
  obtain ⟨es, hm, hR2, hin⟩ := stps_sliceR hR
  have hxl : xs.length = es.length := by rw [← hm, List.length_map]
  rw [hxl] at hR2 e
  obtain ⟨A', c', e', h1, h2, hrow⟩ := sliceR_row (k := 5) stpV (fun _ => rfl) (by omega) (fun ci x h => h) hR2
  simp only [List.cons.injEq, and_true, Value.slice.injEq, true_and] at e'
  obtain ⟨rfl, rfl⟩ := e'
  obtain ⟨A2, c2, e2, _, h3, _⟩ := hR2
  simp only [List.cons.injEq, and_true, Value.slice.injEq, true_and] at e2
  obtain ⟨rfl, rfl⟩ := e2
  have hmem : ∀ x ∈ es, StepIn w x.s x.A x.c x.B x.d := fun x hx => by
    obtain ⟨ha, hb'⟩ := hin x hx
    have h5 := szs_mem szStp1 (show x.s ∈ xs by rw [← hm]; exact List.mem_map_of_mem hx)
    unfold szStp1 at h5 hs
    exact step_in ha hb' (by omega)
  have hl := szs_len szStp1 (fun x => Nat.succ_le_succ (Nat.zero_le _)) xs
  refine ⟨A, c, es, e, ⟨⟨hrow, fun x hx => (hmem x hx).row⟩, by omega, fun x hx => (hmem x hx).size, h1, fun h => ?_⟩⟩
  have := h3.2 h
  omega
end Go.Proofs.YtkgmimmneeppgaaDoor

namespace Go.Proofs.YtkgmimmneeppgaaDoor
set_option maxRecDepth 100000
open Go.RowKit
set_option linter.unusedVariables false
/-- the three texts, and how many seal -/
def encP (s : Stp) : List UInt8 := txt s.r ++ txt s.o ++ txt s.n ++ numS s.who.length
/-- what a writer holds behind i of those who seal -/
def encT (s : Stp) (i : Nat) : St2 := (encP s ++ whoS (s.who.take i) (s.seals.take i), 0)
theorem encT_len {s : Stp} (h : stE s = 0) (i : Nat) : (encT s i).1.length ≤ 2048 := by
  obtain ⟨_, h1, h2, h3, h4, h5, h6, _, _⟩ := stE_zero h
  have a := txt_len s.r (by omega)
  have b := txt_len s.o (by omega)
  have c := txt_len s.n (by omega)
  have d := whoS_len (s.who.take i) (s.seals.take i) 32 (fun x hx => by rw [h6 x (List.mem_of_mem_take hx)]; omega)
  have e : (numS s.who.length).length ≤ 9 := by rw [numS_nat (by omega)]; exact num_len9 (by omega)
  have f : (s.who.take i).length * (32 + 9) ≤ 8 * (32 + 9) := Nat.mul_le_mul_right _ (by rw [List.length_take]; omega)
  unfold encT encP
  simp only [List.length_append]
  omega
theorem encT_zero (s : Stp) : encT s 0 = (encP s, 0) := by unfold encT; simp [whoS]
theorem encT_succ {s : Stp} (i : Nat) (hi : i < s.who.length) (hs : i < s.seals.length) : encT s (i + 1) = ((encT s i).1 ++ numS s.who[i] ++ s.seals[i], 0) := by
  unfold encT
  rw [whoS_take _ _ i hi hs]
  simp only [List.append_assoc]
theorem encT_end {s : Stp} (h : stE s = 0) : encR s = ((encT s s.who.length).1, 0) := by
  obtain ⟨_, _, _, _, _, h5, _, _, _⟩ := stE_zero h
  unfold encR
  rw [if_pos h]
  unfold encT encP
  rw [List.take_length, List.take_of_length_le (by omega)]
theorem tri_good {s : Stp} (h : stE s = 0) : tri s ([], 0) = (txt s.r ++ txt s.o ++ txt s.n, 0) := by
  obtain ⟨_, h1, h2, h3, _⟩ := stE_zero h
  have yes : ∀ (l t : List UInt8), t.length ≤ 4096 → wTxt t (l, 0) = (l ++ txt t, 0) := fun l t h => by unfold wTxt; rw [if_pos rfl, if_pos h]
  unfold tri
  rw [yes _ _ (by omega), yes _ _ (by omega), yes _ _ (by omega)]
  simp

set_option maxHeartbeats 8000000 in
theorem stEncode_any (s : Stp) (A : Option Addr) (c : Nat) (B : Option Addr) (d : Nat) (w : World) (hR : StR w s A c B d) (hz : StSz 1099511627776 s) :
    Calls Tryd.prog 20 #[.agg (stepA s A c B d)] w fun e w' => e = .returned (.tuple #[.string (bs (encR s).1), .int .i64 (encR s).2]) ∧ Gr w w' := by
  obtain ⟨wa, hwa⟩ : ∃ x, x = w.alloc (.cells (stepA s A c B d) 46) := ⟨_, rfl⟩
  have hb : Blk wa w.heap.size 46 (stepA s A c B d) := by rw [hwa]; exact Blk.new w _ _
  have hg0 : Gr w wa := by rw [hwa]; exact (Gr.refl w).alloc _
  obtain ⟨p, hp⟩ : ∃ p, p = w.heap.size := ⟨_, rfl⟩
  rw [← hp] at hb
  have HGo : Sec (Calls Tryd.prog 25 #[.agg (stepA s A c B d)] wa fun e w' => e = .returned (.int .i64 (stE s)) ∧ Gr wa w') := sec (stGood_any s A c B d wa (hR.gr hg0) hz)
  have HB := sec hb
  have HCELL : Sec (∀ w', Gr wa w' → w'.cell? ⟨p, 0, none⟩ = some (.string (bs s.r)) ∧ w'.cell? ⟨p, 1, none⟩ = some (.string (bs s.o)) ∧ w'.cell? ⟨p, 2, none⟩ = some (.string (bs s.n)) ∧ w'.cell? ⟨p, 3, none⟩ = some (.slice A s.who.length c) ∧ w'.cell? ⟨p, 4, none⟩ = some (.slice B s.seals.length d)) := sec (fun w' g => ⟨(hb.gr g).cell 0, (hb.gr g).cell 1, (hb.gr g).cell 2, (hb.gr g).cell 3, (hb.gr g).cell 4⟩)
  obtain ⟨c0, c1, c2, c3, c4⟩ := HCELL.out wa (Gr.refl _)
  by_cases hE : stE s = 0
  · obtain ⟨_, z1, z2, z3, z4, z5, z6, z7, _⟩ := stE_zero hE
    have HEND := sec (encT_end hE)
    have HLEN := sec (encT_len hE)
    have HSUC := sec (encT_succ (s := s))
    have HZER := sec (encT_zero s)
    rw [hE] at HGo
    have HTL := sec (triAt_len s ([], 0))
    have HTS := sec (triAt_succ s ([], 0))
    have HTR : Sec (triAt s ([], 0) 3 = (txt s.r ++ txt s.o ++ txt s.n, 0)) := sec (tri_good hE)
    have HTx : Sec (∀ B g w i, i < 3 → WrAt w B g (triAt s ([], 0) i) → Calls Tryd.prog 43 #[.pointer (some ⟨g, 0, none⟩), .string (bs (triX s i))] w fun e w' => e = .returned (.tuple #[]) ∧ WrAt w' B g (triAt s ([], 0) (i + 1)) ∧ Below B w w' ∧ KeepT g w w') := sec (fun B g w i hi h => by
      have := wrText B g _ (triX s i) w h (by have := HTL.out i; simp only [List.length_nil] at this; omega)
      rwa [← HTS.out i hi] at this)
    have HNu : Sec (∀ B g w, WrAt w B g (triAt s ([], 0) 3) → Calls Tryd.prog 44 #[.pointer (some ⟨g, 0, none⟩), .int .i64 (s.who.length : Int)] w fun e w' => e = .returned (.tuple #[]) ∧ WrAt w' B g (encT s 0) ∧ Below B w w' ∧ KeepT g w w') := sec (fun B g w h => by
      have := wrNumber B g _ (s.who.length : Int) w h (by have := HTL.out 3; simp only [List.length_nil] at this; omega)
      rw [HTR.out] at this
      have e : wNum (s.who.length : Int) (txt s.r ++ txt s.o ++ txt s.n, 0) = encT s 0 := by
        rw [HZER.out]; unfold wNum encP; rw [if_pos rfl, if_pos ⟨by omega, by omega⟩]
      rwa [e] at this)
    have HN2 : Sec (∀ B g w i (hi : i < s.who.length), WrAt w B g (encT s i) → Calls Tryd.prog 44 #[.pointer (some ⟨g, 0, none⟩), .int .i64 s.who[i]] w fun e w' => e = .returned (.tuple #[]) ∧ WrAt w' B g ((encT s i).1 ++ numS s.who[i], 0) ∧ Below B w w' ∧ KeepT g w w') := sec (fun B g w i hi h => by
      have hw := z7 _ (List.getElem_mem hi)
      have := wrNumber B g _ s.who[i] w h (by have := HLEN.out i; omega)
      have e : wNum s.who[i] (encT s i) = ((encT s i).1 ++ numS s.who[i], 0) := by
        unfold wNum; rw [if_pos (show (encT s i).2 = 0 from rfl), if_pos ⟨by omega, by omega⟩]
      rwa [e] at this)
    have HB2 : Sec (∀ B g w i (hi : i < s.who.length) (hs : i < s.seals.length), WrAt w B g ((encT s i).1 ++ numS s.who[i], 0) → Calls Tryd.prog 45 #[.pointer (some ⟨g, 0, none⟩), .string (bs s.seals[i])] w fun e w' => e = .returned (.tuple #[]) ∧ WrAt w' B g (encT s (i + 1)) ∧ Below B w w' ∧ KeepT g w w') := sec (fun B g w i hi hs h => by
      have hw := z7 _ (List.getElem_mem hi)
      have hn : (numS s.who[i]).length ≤ 9 := by rw [numS_in (by omega) (by omega)]; exact num_len9 (by omega)
      have hs2 := z6 _ (List.getElem_mem hs)
      have := wrBytes B g _ s.seals[i] w h (by simp only [List.length_append]; have := HLEN.out i; omega)
      rw [HSUC.out i hi hs]
      exact this)
    have HDn : Sec (∀ B g w, WrAt w B g (encT s s.who.length) → Calls Tryd.prog 46 #[.pointer (some ⟨g, 0, none⟩)] w fun e w' => e = .returned (.tuple #[.string (bs (encR s).1), .int .i64 (encR s).2]) ∧ Gr w w') := sec (fun B g w h => by
      have := wrDone B g _ w h
      rw [HEND.out]
      exact this)
    have HW0 : Sec (∀ w1 : World, WrAt (w1.alloc (.cells #[.slice none 0 0, .int .i64 0] 71)) w1.heap.size w1.heap.size (triAt s ([], 0) 0)) := sec (fun w1 => ⟨⟨none, 0, Blk.new w1 _ _, World.ownsRow_nil _ _ _ _⟩, Nat.le_refl _, by simp [triAt]⟩)
    have HW := sec (hR.who.gr hg0)
    have HS := sec (hR.seals.gr hg0)
    have HSL := sec z5
    have hwl : s.who.length ≤ 8 := z4
    obtain ⟨E, hEE⟩ : ∃ E, E = encR s := ⟨_, rfl⟩
    rw [← hEE] at HDn
    rw [← hEE]
    obtain ⟨T, hT⟩ : ∃ T, T = triAt s ([], 0) := ⟨_, rfl⟩
    rw [← hT] at HTx HNu HW0
    obtain ⟨U, hU⟩ : ∃ U, U = encT s := ⟨_, rfl⟩
    rw [← hU] at HNu HN2 HB2 HDn
    clear hb hEE hT hU hE hz hR HEND HLEN HSUC HZER HTL HTS HTR z1 z2 z3 z4 z5 z6 z7
    unfold stepA at hwa HGo
    unfold stepA
    go_enter Tryd.func20, Tryd.ntmps20
    go_upto_region 1 with fail
    rw [← hwa, ← hp]
    clear hwa hp
    go_wp2_with (go_at_call 25; refine Calls.mono HGo.out ?_; rintro e w1 ⟨rfl, g1⟩; obtain ⟨d0, d1, d2, d3, d4⟩ := HCELL.out _ (g1.alloc (.cells #[.slice none 0 0, .int .i64 0] 71)))
    have hv := Blk.new (w1.alloc (.cells #[.slice none 0 0, .int .i64 0] 71)) 9 #[.string (bs s.r), .string (bs s.o), .string (bs s.n)]
    rw [World.size_alloc] at hv
    have dv := (HW0.out w1).gr ((Gr.refl _).alloc (.cells #[.string (bs s.r), .string (bs s.o), .string (bs s.n)] 9))
    have gv := (g1.alloc (.cells #[.slice none 0 0, .int .i64 0] 71)).alloc (.cells #[.string (bs s.r), .string (bs s.o), .string (bs s.n)] 9)
    obtain ⟨wb, hwb⟩ : ∃ x, x = (w1.alloc (.cells #[.slice none 0 0, .int .i64 0] 71)).alloc (.cells #[.string (bs s.r), .string (bs s.o), .string (bs s.n)] 9) := ⟨_, rfl⟩
    obtain ⟨g, hgg⟩ : ∃ g, g = w1.heap.size := ⟨_, rfl⟩
    have hgle : wa.heap.size ≤ g := by have := g1.size; omega
    rw [← hwb] at hv dv gv
    rw [← hgg] at hv dv
    rw [← hwb, ← hgg]
    clear hwb hgg d0 d1 d2 d3 d4
    go_loopg [25, 7] 3 (fun fuel iv _ wr => ∃ i : Nat, iv = .int .i64 (i : Int) ∧ 3 ≤ i + fuel ∧ i ≤ 3 ∧ WrAt wr g g (T i) ∧ Blk wr (g + 1) 9 #[.string (bs s.r), .string (bs s.o), .string (bs s.n)] ∧ Gr wa wr)
    case atStart => exact ⟨0, rfl, by omega, by omega, dv, hv, gv⟩
    case round =>
      clear hv dv gv
      obtain ⟨i, rfl, hik, hi, dw, bw, gw⟩ := hrel
      by_cases h3 : i < 3
      · have hTi := HTx.out g g wr i h3 dw
        have hc : wr.cell? ⟨g + 1, i, none⟩ = some (.string (bs (triX s i))) := by
          match i, h3 with
          | 0, _ => exact bw.cell 0
          | 1, _ => exact bw.cell 1
          | 2, _ => exact bw.cell 2
        have HTi := sec hTi
        have hii : (i : Int) < 3 := by omega
        have H3 := sec h3
        clear hTi h3
        go_wp2_with (go_at_call 43; refine Calls.mono HTi.out ?_; rintro e w3 ⟨rfl, d3, k3, kt3⟩)
        go_roundg (gk - 1)
        case rel => exact ⟨i + 1, by go_num, by omega, by have := H3.out; omega, d3, kt3 (g + 1) _ _ (by omega) (by decide) bw, Below.trans gw (Below.mono k3 hgle)⟩
        case measure => have := H3.out; omega
      · obtain rfl : i = 3 := by omega
        clear h3 hik
        obtain ⟨c0, c1, c2, c3, c4⟩ := HCELL.out wr gw
        go_wp2_with (go_at_call 44; refine Calls.mono (HNu.out _ _ _ dw) ?_; rintro e w3 ⟨rfl, d3, k3, _⟩; have g3 : Gr wa w3 := Below.trans gw (Below.mono k3 hgle); obtain ⟨y0, y1, y2, y3, y4⟩ := HCELL.out w3 g3)
        clear dw bw
        go_loopg [41, 8, 9] s.who.length (fun fuel iv _ _ wr => ∃ i : Nat, iv = .int .i64 (i : Int) ∧ s.who.length ≤ i + fuel ∧ i ≤ s.who.length ∧ WrAt wr g g (U i) ∧ Gr wa wr)
        case atStart => exact ⟨0, rfl, by omega, by omega, d3, g3⟩
        case round =>
          clear d3 g3 k3
          obtain ⟨i, rfl, hik, hi, dw, gw⟩ := hrel
          by_cases hlt : i < s.who.length
          · have hss : i < s.seals.length := by have := HSL.out; omega
            have hii : (i : Int) < (s.who.length : Int) := by omega
            have hjj : (i : Int) < (s.seals.length : Int) := by omega
            have H4 := HN2.out g g wr i hlt dw
            have H5 := sec (fun w h => HB2.out g g w i hlt hss h)
            obtain ⟨b, off, hA, e0⟩ := (HW.out.gr gw).cell hlt
            obtain ⟨b2, off2, hB, x0⟩ := (HS.out.gr gw).cell hss
            have HX0 : Sec (∀ W, Gr wa W → W.cell? ⟨p, 4, none⟩ = some (.slice (some ⟨b2, off2, none⟩) s.seals.length d) ∧ W.cell? ⟨b2, off2 + i, none⟩ = some (.string (bs s.seals[i]))) := sec (fun W g => by
              refine ⟨by rw [← hB]; exact (HCELL.out W g).2.2.2.2, ?_⟩
              obtain ⟨b', o', e', h'⟩ := (HS.out.gr g).cell hss
              rw [hB] at e'
              injection e' with e'; injection e' with e3 e4 _
              subst e3 e4
              exact h')
            subst hA
            obtain ⟨mw, hmw⟩ : ∃ x, x = s.who[i] := ⟨_, rfl⟩
            obtain ⟨sl, hslx⟩ : ∃ x, x = s.seals[i] := ⟨_, rfl⟩
            rw [← hmw] at e0 H4 H5
            rw [← hslx] at HX0 H5
            have H4 := sec H4
            have HII := sec hlt
            clear hmw hslx hss hlt x0 hB
            go_wp2_with (first
              | (go_at_call 44; refine Calls.mono H4.out ?_; rintro e w4 ⟨rfl, d4, k4, _⟩; have g4 : Gr wa w4 := Below.trans gw (Below.mono k4 hgle); obtain ⟨v0, v1⟩ := HX0.out w4 g4)
              | (go_at_call 45; refine Calls.mono (H5.out _ d4) ?_; rintro e w5 ⟨rfl, d5, k5, _⟩; have g5 : Gr wa w5 := Below.trans g4 (Below.mono k5 hgle)))
            go_roundg (gk - 1)
            case rel => exact ⟨i + 1, by go_num, by omega, HII.out, d5, g5⟩
            case measure => have := HII.out; omega
          · obtain hE2 : i = s.who.length := by omega
            rw [hE2] at dw
            have hii : ¬ (i : Int) < (s.who.length : Int) := by omega
            have q : decide (i < s.who.length) = false := decide_eq_false hlt
            clear hE2 hlt hik
            go_wp2_with (go_at_call 46; refine Calls.mono (HDn.out _ _ _ dw) ?_; rintro e w6 ⟨rfl, g6⟩)
            go_ret2
            exact ⟨rfl, hg0.trans (gw.trans g6)⟩
  · have HR : Sec (encR s = ([], stE s)) := sec (by unfold encR; rw [if_neg hE])
    rw [HR.out]
    obtain ⟨E, hEE⟩ : ∃ E, E = stE s := ⟨_, rfl⟩
    rw [← hEE] at HGo hE
    rw [← hEE]
    have m0 : (E != 0) = true := by simpa using hE
    clear hEE HR hb
    unfold stepA at hwa HGo
    unfold stepA
    go_enter Tryd.func20, Tryd.ntmps20
    go_upto_region 1 with fail
    rw [← hwa, ← hp]
    clear hwa hp
    go_wp2_with (go_at_call 25; refine Calls.mono HGo.out ?_; rintro e w1 ⟨rfl, g1⟩)
    go_ret2
    exact ⟨rfl, hg0.trans g1⟩
end Go.Proofs.YtkgmimmneeppgaaDoor

namespace Go.Proofs.YtkgmimmneeppgaaDoor
set_option maxRecDepth 100000
open Go.RowKit
set_option linter.unusedVariables false

theorem aggHd : AggOk 26 2 := A.head
/-- P11.3: what is wrong with the first that cannot be encoded -/
def lvE : List Stp → Int
  | [] => 0
  | s :: r => if (encR s).2 = 0 then lvE r else (encR s).2
def encL (l : List Stp) : List (List UInt8) := l.map fun s => (encR s).1
def lvR (l : List Stp) : List (List UInt8) × Int := if lvE l = 0 then (encL l, 0) else ([], lvE l)
def ofR (l : List Stp) : Int × List UInt8 × Int := if 200 < l.length then (0, [], 6) else if lvE l = 0 then ((l.length : Int), rootL (encL l), 0) else (0, [], lvE l)
theorem lvE_drop (l : List Stp) (i : Nat) (h : i < l.length) : lvE (l.drop i) = if (encR l[i]).2 = 0 then lvE (l.drop (i + 1)) else (encR l[i]).2 := by
  rw [List.drop_eq_getElem_cons h]
  rfl
theorem encL_take (l : List Stp) (i : Nat) (h : i < l.length) : encL (l.take (i + 1)) = encL (l.take i) ++ [(encR l[i]).1] := by
  unfold encL
  rw [List.take_succ_eq_append_getElem h, List.map_append]
  rfl
theorem encL_len (l : List Stp) : (encL l).length = l.length := by unfold encL; rw [List.length_map]
theorem encL_short (l : List Stp) : ∀ x ∈ encL l, x.length ≤ 1024 := by
  intro x hx
  obtain ⟨s, _, rfl⟩ := List.mem_map.1 hx
  exact encR_len s

theorem sV_addL (G : List (List UInt8)) (x : List UInt8) : G.map strV ++ [Value.string (bs x)] = (G ++ [x]).map strV := by simp [strV]
theorem row1L {W : World} {g : Nat} {T : TypeId} {u : Value} (h : Blk W g T #[u]) : Row W 1 (some ⟨g, 0, none⟩) 1 [u] := by
  refine ⟨by simp, fun _ => ⟨g, 0, rfl, fun i v hi => ?_⟩⟩
  have := h.cell i
  rw [Nat.zero_add, this]
  simpa using hi
set_option maxHeartbeats 8000000 in
theorem leaves_any (es : List SA) (l : List Stp) (A : Option Addr) (c : Nat) (w : World) (hx : StsR w A es.length es) (hl : l = es.map (·.s)) (hn : es.length ≤ 1099511627776) (hz : ∀ e ∈ es, StSz 1099511627776 e.s) :
    Calls Tryd.prog 17 #[.slice A es.length c] w fun e w' => ∃ A' c', e = .returned (.tuple #[.slice A' (lvR l).1.length c', .int .i64 (lvR l).2]) ∧ StrRow w' A' (lvR l).1.length (lvR l).1 ∧ (A' = none → (lvR l).1.length = 0 ∧ c' = 0) ∧ (lvR l).1.length ≤ c' ∧ Gr w w' := by
  have HX := sec hx
  have HC : Sec (∀ i (h : i < es.length) W, Gr w W → Calls Tryd.prog 20 #[.agg (stepA es[i].s es[i].A es[i].c es[i].B es[i].d)] W fun e w' => e = .returned (.tuple #[.string (bs (encR es[i].s).1), .int .i64 (encR es[i].s).2]) ∧ Gr W w') := sec (fun i h W g =>
    stEncode_any es[i].s es[i].A es[i].c es[i].B es[i].d W ((hx.each _ (List.getElem_mem h)).gr g) (hz _ (List.getElem_mem h)))
  have HL : Sec (∀ i (h : i < es.length) (h' : i < l.length), l[i] = es[i].s) := sec (fun i h h' => by subst hl; simp)
  obtain ⟨N, hN⟩ : ∃ N, N = es.length := ⟨_, rfl⟩
  have hlN : l.length = N := by rw [hl, List.length_map, hN]
  have HN := sec hN
  have HLN := sec hlN
  obtain ⟨V, hV⟩ : ∃ V, V = lvR l := ⟨_, rfl⟩
  have HV := sec hV
  rw [← hN] at hn HX
  rw [← hN, ← hV]
  clear hx hz hN hl hlN hV
  go_enter Tryd.func17, Tryd.ntmps17
  go_wp2_with fail
  go_loopg [11, 4, 6, 7, 8] N (fun fuel iv ov _ _ _ wr => ∃ (i : Nat) (A0 : Option Addr) (c0 : Nat), iv = .int .i64 (i : Int) ∧ ov = .slice A0 i c0 ∧ N ≤ i + fuel ∧ i ≤ N ∧
    Sec (wr.ownsRow w.heap.size 9 1 (.slice A0 i c0) i ((encL (l.take i)).map strV)) ∧ Sec (lvE l = lvE (l.drop i)) ∧ Sec (Gr w wr))
  case atStart => exact ⟨0, none, 0, rfl, rfl, by omega, by omega, sec (World.ownsRow_nil _ _ _ _), sec rfl, sec (Gr.refl _)⟩
  case round =>
    obtain ⟨i, A0, c0, rfl, rfl, hik, hi, HO, HE, HG⟩ := hrel
    by_cases hlt : i < N
    · have hii : (i : Int) < (N : Int) := by omega
      have hlt' : i < es.length := by rw [← HN.out]; exact hlt
      have hltl : i < l.length := by rw [HLN.out]; exact hlt
      obtain ⟨b, off, rfl, e0, e1, e2, e3, e4⟩ := (HX.out.gr HG.out).cell hlt'
      have HCi := sec (HC.out i hlt')
      have HDR := sec (lvE_drop l i hltl)
      have HTK := sec (encL_take l i hltl)
      have hli := HL.out i hlt' hltl
      rw [hli] at HDR HTK
      obtain ⟨E0, hE0⟩ : ∃ E, E = es[i] := ⟨_, rfl⟩
      rw [← hE0] at HCi HDR HTK e0 e1 e2 e3 e4
      clear hE0 hlt' hltl hli
      obtain ⟨s0, A1, c1, B1, d1⟩ := E0
      simp only at e0 e1 e2 e3 e4 HDR HTK HCi
      obtain ⟨x, hx⟩ : ∃ x, x = (encR s0).1 := ⟨_, rfl⟩
      obtain ⟨y, hy⟩ : ∃ y, y = (encR s0).2 := ⟨_, rfl⟩
      rw [← hx] at HCi HTK
      rw [← hy] at HCi HDR
      obtain ⟨r, o, n, who, seals⟩ := s0
      simp only [stepA] at HCi
      simp only at e0 e1 e2 e3 e4
      have hbb : (i + 1) * 16 ≤ 140737488355328 := by omega
      have hmm : i + 1 ≤ maxLen := by unfold maxLen; omega
      have HLT := sec hlt
      clear hlt hx hy
      by_cases hy0 : y = 0
      · subst hy0
        have HE1 : Sec (lvE l = lvE (l.drop (i + 1))) := sec (by rw [HE.out, HDR.out, if_pos rfl])
        go_wp2_with (first
          | (go_at_call 20; (with_reducible refine Calls.mono (HCi.out _ (HG.out.alloc _)) ?_); rintro e w1 ⟨rfl, g1⟩; have GG1 := ((Gr.refl wr).alloc (.cells #[.string (bs r), .string (bs o), .string (bs n), .slice A1 who.length c1, .slice B1 seals.length d1] 46)).trans g1; have G1 := HG.out.trans GG1; have HO1 := own_gr HO.out GG1)
          | (at_builtin; refine wpList_append_rowO E.str rfl (.tmp 23) (.tmp 25) rfl (B := w.heap.size) (A0 := A0) (n0 := i) (cap0 := c0) (xs := (encL (l.take i)).map strV) rfl (own_gr HO1 ((Gr.refl _).alloc _)) rfl (row1L (T := 9) (u := .string (bs x)) (Blk.new _ _ _)) (fun h => by cases h) (fun u hu => by simp at hu; subst hu; rfl) hbb hmm (G1.alloc _).size ?_; intro A2 c2 w2 o2 h2))
        have hal := (Gr.refl w1).alloc (.cells #[.string (bs x)] 9)
        have HO2 := own_gr HO1 hal
        go_roundg (gk - 1)
        case rel =>
          refine ⟨i + 1, A2, c2, by go_num, rfl, by omega, HLT.out, sec ?_, HE1, sec ?_⟩
          · rw [HTK.out, ← sV_addL]; exact o2
          · exact (G1.trans hal).grown h2 (fun k hk => (HO2.lt k hk).1)
        case measure => have := HLT.out; omega
      · have hyb : (y != 0) = true := by rw [bne_iff_ne]; exact hy0
        have HVV : Sec (V = ([], y)) := sec (by
          have h : lvE l = y := by rw [HE.out, HDR.out, if_neg hy0]
          rw [HV.out]
          unfold lvR
          rw [h, if_neg hy0])
        clear hy0
        go_wp2_with (first
          | (go_at_call 20; (with_reducible refine Calls.mono (HCi.out _ (HG.out.alloc _)) ?_); rintro e w1 ⟨rfl, g1⟩; have G1 := (HG.out.alloc (.cells #[.string (bs r), .string (bs o), .string (bs n), .slice A1 who.length c1, .slice B1 seals.length d1] 46)).trans g1))
        go_ret2
        rw [HVV.out]
        exact ⟨none, 0, rfl, Row.nil _ 1 none, fun _ => ⟨rfl, rfl⟩, Nat.le_refl _, G1⟩
    · have q1 : decide (i < N) = false := decide_eq_false hlt
      have HI : Sec (i = N) := sec (by omega)
      clear hlt
      go_wp2_with fail
      go_ret2
      obtain rfl := HI.out
      have h0 : lvE l = 0 := by rw [HE.out, List.drop_eq_nil_of_le (by rw [HLN.out]; exact Nat.le_refl _)]; rfl
      have hV2 : V = (encL l, 0) := by rw [HV.out]; unfold lvR; rw [if_pos h0]
      have ho := HO.out
      rw [List.take_of_length_le (by rw [HLN.out]; exact Nat.le_refl _)] at ho
      rw [hV2]
      have hle : (encL l).length = i := by rw [encL_len]; exact HLN.out
      simp only [hle]
      exact ⟨A0, c0, rfl, Row.own ho, own_nil5 ho, own_cap5 ho, HG.out⟩

set_option maxHeartbeats 8000000 in
theorem of_any (es : List SA) (l : List Stp) (A : Option Addr) (c : Nat) (w : World) (hx : StsR w A es.length es) (hl : l = es.map (·.s)) (hn : es.length ≤ 1099511627776) (hz : ∀ e ∈ es, StSz 1099511627776 e.s) (hT : TabK w) :
    Calls Tryd.prog 14 #[.slice A es.length c] w fun e w' => e = .returned (.tuple #[.agg (headC (ofR l).1 (ofR l).2.1), .int .i64 (ofR l).2.2]) ∧ Gr w w' := by
  have HLv : Sec (∀ W, Gr w W → Calls Tryd.prog 17 #[.slice A es.length c] W fun e w' => ∃ A' c', e = .returned (.tuple #[.slice A' (lvR l).1.length c', .int .i64 (lvR l).2]) ∧ StrRow w' A' (lvR l).1.length (lvR l).1 ∧ (A' = none → (lvR l).1.length = 0 ∧ c' = 0) ∧ (lvR l).1.length ≤ c' ∧ Gr W w') := sec (fun W g => leaves_any es l A c W (hx.gr g) hl hn hz)
  have HRo : Sec (∀ L A1 c1 W, L = encL l → StrRow W A1 L.length L → L.length ≤ c1 → Gr w W → Calls Tryd.prog 41 #[.slice A1 L.length c1] W fun e w' => e = .returned (.string (bs (rootL L))) ∧ Gr W w') := sec (fun L A1 c1 W hL h hc g => by
    have hT' := hT.gr g
    have hsh : Short L := fun x hx => by have := encL_short l x (by rw [← hL]; exact hx); omega
    have hLl : L.length ≤ 1099511627776 := by rw [hL, encL_len, hl, List.length_map]; exact hn
    exact root_any L.length L A1 L.length c1 W (Nat.le_refl _) hLl hc h hsh hT')
  have hlN : l.length = es.length := by rw [hl, List.length_map]
  obtain ⟨N, hN⟩ : ∃ N, N = es.length := ⟨_, rfl⟩
  rw [← hN] at hlN HLv hn
  rw [← hN]
  obtain ⟨V, hV⟩ : ∃ V, V = ofR l := ⟨_, rfl⟩
  rw [← hV]
  have HV : Sec (V = if 200 < N then (0, [], 6) else if lvE l = 0 then ((N : Int), rootL (encL l), 0) else (0, [], lvE l)) := sec (by rw [hV]; unfold ofR; rw [hlN])
  have HB := Blk.new w 26 #[.int .i64 0, .string (bs [])]
  have hg0 := (Gr.refl w).alloc (.cells #[.int .i64 0, .string (bs [])] 26)
  obtain ⟨wa, hwa⟩ : ∃ y, y = w.alloc (.cells #[.int .i64 0, .string (bs [])] 26) := ⟨_, rfl⟩
  obtain ⟨p, hp⟩ : ∃ p, p = w.heap.size := ⟨_, rfl⟩
  rw [← hwa] at HB hg0
  rw [← hp] at HB
  have hwp : w.heap.size ≤ p := by omega
  have HBB := sec HB
  clear HB hV hN hlN hx hl hz hT
  unfold headC
  have HSK : Sec (∀ W, Gr wa W → W.cell? ⟨p, 0, none⟩ = some (.int .i64 0) ∧ W.cell? ⟨p, 1, none⟩ = some (.string (bs [])) ∧ W.frozen? ⟨p, 0, none⟩ = false ∧ W.frozen? ⟨p, 1, none⟩ = false) := sec (fun W g => ⟨(HBB.out.gr g).cell 0, (HBB.out.gr g).cell 1, (HBB.out.gr g).frozen 0, (HBB.out.gr g).frozen 1⟩)
  obtain ⟨u0, u1, u2, u3⟩ := HSK.out wa (Gr.refl _)
  by_cases h200 : 200 < N
  · have hi2 : (200 : Int) < (N : Int) := by omega
    have HR : Sec (V = (0, [], 6)) := sec (by rw [HV.out, if_pos h200])
    clear HV h200
    go_enter Tryd.func14, Tryd.ntmps14
    go_upto_region 1 with fail
    rw [← hwa, ← hp]
    clear hwa hp
    go_wp2_with fail
    refine bodyPost_ret (results_blk_tmp rfl _ rfl ((HBB.out.set_ 0 (.int .i64 0)).set_ 1 (.string (bs []))) aggHd) rfl ?_
    rw [HR.out]
    exact ⟨rfl, (hg0.setCell (p := ⟨p, 0, none⟩) hwp _).setCell (p := ⟨p, 1, none⟩) hwp _⟩
  · have hi2 : ¬ (200 : Int) < (N : Int) := by omega
    have HV2 : Sec (V = if lvE l = 0 then ((N : Int), rootL (encL l), 0) else (0, [], lvE l)) := sec (by rw [HV.out, if_neg h200])
    have hi3 : N ≤ 200 := by omega
    clear h200 HV
    unfold lvR at HLv
    obtain ⟨y, hy⟩ : ∃ y, y = lvE l := ⟨_, rfl⟩
    rw [← hy] at HLv HV2
    obtain ⟨L, hL⟩ : ∃ L, L = encL l := ⟨_, rfl⟩
    rw [← hL] at HLv HV2
    have HLL := sec hL
    clear hL hy
    by_cases hy0 : y = 0
    · subst hy0
      have HR : Sec (V = ((N : Int), rootL L, 0)) := sec (by rw [HV2.out, if_pos rfl])
      simp only [if_true] at HLv
      have HRoL := sec (fun A1 c1 W h1 h2 h3 => HRo.out L A1 c1 W HLL.out h1 h2 h3)
      obtain ⟨T, hTT⟩ : ∃ T, T = rootL L := ⟨_, rfl⟩
      rw [← hTT] at HR HRoL
      clear HRo HV2 hTT
      go_enter Tryd.func14, Tryd.ntmps14
      go_upto_region 1 with fail
      rw [← hwa, ← hp]
      clear hwa hp
      go_wp2_with (first
        | (go_at_call 17; (with_reducible refine Calls.mono (HLv.out _ hg0) ?_); rintro e w1 ⟨A1, c1, rfl, r1, n1, k1, g1⟩; have G1 := hg0.trans g1; obtain ⟨v0, v1, v2, v3⟩ := HSK.out w1 g1)
        | (go_at_call 41; (with_reducible refine Calls.mono (HRoL.out A1 c1 _ r1 k1 G1) ?_); rintro e w2 ⟨rfl, g2⟩; have g12 := g1.trans g2; have G2 := G1.trans g2; obtain ⟨z0, z1, z2, z3⟩ := HSK.out w2 g12))
      refine bodyPost_ret (results_blk_tmp rfl _ rfl (((HBB.out.gr g12).set_ 0 (.int .i64 (N : Int))).set_ 1 (.string (bs T))) aggHd) rfl ?_
      rw [HR.out]
      exact ⟨rfl, (G2.setCell (p := ⟨p, 0, none⟩) hwp _).setCell (p := ⟨p, 1, none⟩) hwp _⟩
    · have HR : Sec (V = (0, [], y)) := sec (by rw [HV2.out, if_neg hy0])
      have m0 : (y != 0) = true := by rw [bne_iff_ne]; exact hy0
      simp only [if_neg hy0] at HLv
      clear HRo HV2 hy0
      go_enter Tryd.func14, Tryd.ntmps14
      go_upto_region 1 with fail
      rw [← hwa, ← hp]
      clear hwa hp
      go_wp2_with (first
        | (go_at_call 17; (with_reducible refine Calls.mono (HLv.out _ hg0) ?_); rintro e w1 ⟨A1, c1, rfl, r1, n1, k1, g1⟩; have G1 := hg0.trans g1; obtain ⟨v0, v1, v2, v3⟩ := HSK.out w1 g1))
      refine bodyPost_ret (results_blk_tmp rfl _ rfl (((HBB.out.gr g1).set_ 0 (.int .i64 0)).set_ 1 (.string (bs []))) aggHd) rfl ?_
      rw [HR.out]
      exact ⟨rfl, (G1.setCell (p := ⟨p, 0, none⟩) hwp _).setCell (p := ⟨p, 1, none⟩) hwp _⟩
end Go.Proofs.YtkgmimmneeppgaaDoor

namespace Go.Proofs.YtkgmimmneeppgaaDoor
set_option maxRecDepth 100000
open Go.RowKit
set_option linter.unusedVariables false
set_option maxHeartbeats 8000000 in
theorem rstEncode_any (s : Stp) (A : Option Addr) (c : Nat) (B : Option Addr) (d : Nat) (w : World) (hR : StR w s A c B d) (hz : StSz 1099511627776 s) :
    Calls Tryd.prog 22 #[.agg (stepA s A c B d)] w fun e w' => e = .returned (.tuple #[.string (bs (encR s).1), .int .i64 (encR s).2]) ∧ Gr w w' := by
  obtain ⟨wa, hwa⟩ : ∃ x, x = w.alloc (.cells (stepA s A c B d) 46) := ⟨_, rfl⟩
  have hb : Blk wa w.heap.size 46 (stepA s A c B d) := by rw [hwa]; exact Blk.new w _ _
  have hg0 : Gr w wa := by rw [hwa]; exact (Gr.refl w).alloc _
  obtain ⟨p, hp⟩ : ∃ p, p = w.heap.size := ⟨_, rfl⟩
  rw [← hp] at hb
  have HGo : Sec (Calls Tryd.prog 26 #[.agg (stepA s A c B d)] wa fun e w' => e = .returned (.int .i64 (stE s)) ∧ Gr wa w') := sec (rstGood_any s A c B d wa (hR.gr hg0) hz)
  have HCELL : Sec (∀ w', Gr wa w' → w'.cell? ⟨p, 0, none⟩ = some (.string (bs s.r)) ∧ w'.cell? ⟨p, 1, none⟩ = some (.string (bs s.o)) ∧ w'.cell? ⟨p, 2, none⟩ = some (.string (bs s.n)) ∧ w'.cell? ⟨p, 3, none⟩ = some (.slice A s.who.length c) ∧ w'.cell? ⟨p, 4, none⟩ = some (.slice B s.seals.length d) ∧ Gr wa w') := sec (fun w' g => ⟨(hb.gr g).cell 0, (hb.gr g).cell 1, (hb.gr g).cell 2, (hb.gr g).cell 3, (hb.gr g).cell 4, g⟩)
  obtain ⟨c0, c1, c2, c3, c4, _⟩ := HCELL.out wa (Gr.refl _)
  by_cases hE : stE s = 0
  · obtain ⟨-, z1, z2, z3, z4, z5, z6, z7, -⟩ := stE_zero hE
    have HEND : Sec (encR s = ((encT s s.who.length).1, 0)) := sec (encT_end hE)
    have HLEN : Sec (∀ i, (encT s i).1.length ≤ 2048) := sec (encT_len hE)
    have HSUC : Sec (∀ i (hi : i < s.who.length) (hs : i < s.seals.length), (encT s (i + 1)).1 = (encT s i).1 ++ (numS s.who[i] ++ s.seals[i])) := sec (fun i hi hs => by rw [encT_succ i hi hs, List.append_assoc])
    have HZER : Sec ((encT s 0).1 = txt s.r ++ txt s.o ++ txt s.n ++ numS s.who.length) := sec (by rw [encT_zero]; rfl)
    rw [hE] at HGo
    have HT1 := sec (fun w => text_any s.r w (by omega))
    have HT2 := sec (fun w => text_any s.o w (by omega))
    have HT3 := sec (fun w => text_any s.n w (by omega))
    have HN := sec (fun w => number_any (s.who.length : Int) w)
    have HN2 := sec (fun (n : Int) w => number_any n w)
    have HW := sec (hR.who.gr hg0)
    have HS := sec (hR.seals.gr hg0)
    have HSL := sec z5
    have HZ6 := sec z6
    have HZ7 := sec z7
    have hwl : s.who.length ≤ 8 := z4
    have l1 := txt_len s.r (by omega)
    have l2 := txt_len s.o (by omega)
    have l3 := txt_len s.n (by omega)
    have l4 : (numS s.who.length).length ≤ 9 := by rw [numS_nat (by omega)]; exact num_len9 (by omega)
    obtain ⟨E, hEE⟩ : ∃ E, E = encR s := ⟨_, rfl⟩
    rw [← hEE] at HEND
    rw [← hEE]
    obtain ⟨U, hU⟩ : ∃ U : Nat → List UInt8, U = fun i => (encT s i).1 := ⟨_, rfl⟩
    have hUi : ∀ i, (encT s i).1 = U i := fun i => by rw [hU]
    simp only [hUi] at HEND HLEN HSUC HZER
    obtain ⟨x1, hx1⟩ : ∃ x, x = txt s.r := ⟨_, rfl⟩
    rw [← hx1] at l1 HT1 HZER
    obtain ⟨x2, hx2⟩ : ∃ x, x = txt s.o := ⟨_, rfl⟩
    rw [← hx2] at l2 HT2 HZER
    obtain ⟨x3, hx3⟩ : ∃ x, x = txt s.n := ⟨_, rfl⟩
    rw [← hx3] at l3 HT3 HZER
    obtain ⟨N, hN⟩ : ∃ x, x = numS s.who.length := ⟨_, rfl⟩
    rw [← hN] at l4 HN HZER
    have k1 : ¬ 9223372036854775807 < x1.length + x2.length := by omega
    have k2 : ¬ 9223372036854775807 < x1.length + x2.length + x3.length := by omega
    have k3 : ¬ 9223372036854775807 < x1.length + x2.length + x3.length + N.length := by omega
    have k4 : ¬ 9223372036854775807 < x1.length + (x2.length + x3.length) := by omega
    have k5 : ¬ 9223372036854775807 < x1.length + (x2.length + x3.length) + N.length := by omega
    have k6 : ¬ 9223372036854775807 < x1.length + (x2.length + (x3.length + N.length)) := by omega
    clear hb hEE hU hUi hx1 hx2 hx3 hN hE hz hR l1 l2 l3 l4 z1 z2 z3 z4 z5 z6 z7
    unfold stepA at hwa HGo
    unfold stepA
    go_enter Tryd.func22, Tryd.ntmps22
    go_upto_region 1 with fail
    rw [← hwa, ← hp]
    clear hwa hp
    go_wp2_with (go_at_call 26; refine Calls.mono HGo.out ?_; rintro e w1 ⟨rfl, g1⟩)
    have gd : Gr wa w1.drew := g1.drew
    go_region_held3 (fun w' => w'.cell? ⟨p, 0, none⟩ = some (.string (bs s.r)) ∧ w'.cell? ⟨p, 1, none⟩ = some (.string (bs s.o)) ∧ w'.cell? ⟨p, 2, none⟩ = some (.string (bs s.n)) ∧ w'.cell? ⟨p, 3, none⟩ = some (.slice A s.who.length c) ∧ w'.cell? ⟨p, 4, none⟩ = some (.slice B s.seals.length d) ∧ Gr wa w')
      (first | with_reducible assumption | with_reducible exact HCELL.out _ gd | with_reducible exact HCELL.out _ G1 | with_reducible exact HCELL.out _ G2 | with_reducible exact HCELL.out _ G3 | with_reducible exact HCELL.out _ G4 | fail)
      (first
        | (go_at_call 47; (with_reducible refine Calls.mono (HT1.out w1.drew) ?_); rintro e w2 ⟨rfl, g2⟩; have G1 : Gr wa w2 := Gr.trans gd g2)
        | (go_at_call 47; (with_reducible refine Calls.mono (HT2.out w2) ?_); rintro e w3 ⟨rfl, g3⟩; have G2 : Gr wa w3 := Gr.trans G1 g3)
        | (go_at_call 47; (with_reducible refine Calls.mono (HT3.out w3) ?_); rintro e w4 ⟨rfl, g4⟩; have G3 : Gr wa w4 := Gr.trans G2 g4)
        | (go_at_call 48; (with_reducible refine Calls.mono (HN.out w4) ?_); rintro e w5 ⟨rfl, g5⟩; have G4 : Gr wa w5 := Gr.trans G3 g5)
        | fail)
    all_goals
      clear c0 c1 c2 c3 c4
      obtain ⟨c0, c1, c2, c3, c4, _⟩ := HCELL.out w5 G4
      go_wp2_with fail
      clear c0 c1 c2 c3 c4
      go_loopg [31, 6, 5] s.who.length (fun fuel iv _ bv wr => ∃ i : Nat, iv = .int .i64 (i : Int) ∧ bv = .string (bs (U i)) ∧ s.who.length ≤ i + fuel ∧ i ≤ s.who.length ∧ Gr wa wr)
      case atStart => exact ⟨0, rfl, by rw [HZER.out]; simp only [List.append_assoc], by omega, by omega, G4⟩
      case round =>
        obtain ⟨i, rfl, rfl, hik, hi, gw⟩ := hrel
        clear G1 G2 G3 G4 g1 g2 g3 g4 g5 gd
        by_cases hlt : i < s.who.length
        · have hss : i < s.seals.length := by have := HSL.out; omega
          have hii : (i : Int) < (s.who.length : Int) := by omega
          have hjj : (i : Int) < (s.seals.length : Int) := by omega
          have HU1 := sec (HSUC.out i hlt hss)
          have hul := HLEN.out i
          have hwz := HZ7.out _ (List.getElem_mem hlt)
          have hsz := HZ6.out _ (List.getElem_mem hss)
          have hnl : (numS s.who[i]).length ≤ 9 := by rw [numS_in (by omega) (by omega)]; exact num_len9 (by omega)
          have HNi := sec (HN2.out s.who[i])
          have HX0 : Sec (∀ W, Gr wa W → W.cell? ⟨p, 3, none⟩ = some (.slice A s.who.length c) ∧ W.cell? ⟨p, 4, none⟩ = some (.slice B s.seals.length d) ∧ (∃ b off, A = some ⟨b, off, none⟩ ∧ W.cell? ⟨b, off + i, none⟩ = some (.int .i64 s.who[i])) ∧ (∃ b off, B = some ⟨b, off, none⟩ ∧ W.cell? ⟨b, off + i, none⟩ = some (.string (bs s.seals[i])))) := sec (fun W g => ⟨(HCELL.out W g).2.2.2.1, (HCELL.out W g).2.2.2.2.1, (HW.out.gr g).cell hlt, (HS.out.gr g).cell hss⟩)
          obtain ⟨b, off, rfl, -⟩ := (HW.out.gr gw).cell hlt
          obtain ⟨b2, off2, rfl, -⟩ := (HS.out.gr gw).cell hss
          obtain ⟨mw, hmw⟩ : ∃ x, x = s.who[i] := ⟨_, rfl⟩
          obtain ⟨sl, hslx⟩ : ∃ x, x = s.seals[i] := ⟨_, rfl⟩
          rw [← hmw] at HNi HX0 hnl HU1
          rw [← hslx] at HX0 hsz HU1
          have HX1 : Sec (∀ W, Gr wa W → W.cell? ⟨p, 3, none⟩ = some (.slice (some ⟨b, off, none⟩) s.who.length c) ∧ W.cell? ⟨p, 4, none⟩ = some (.slice (some ⟨b2, off2, none⟩) s.seals.length d) ∧ W.cell? ⟨b, off + i, none⟩ = some (.int .i64 mw) ∧ W.cell? ⟨b2, off2 + i, none⟩ = some (.string (bs sl)) ∧ Gr wa W) := sec (fun W g => by
            obtain ⟨h1, h2, ⟨b', o', e', h3⟩, ⟨b'', o'', e'', h4⟩⟩ := HX0.out W g
            injection e' with e'; injection e' with e3 e4 _
            injection e'' with e''; injection e'' with e5 e6 _
            subst e3 e4 e5 e6
            exact ⟨h1, h2, h3, h4, g⟩)
          obtain ⟨NN, hNN⟩ : ∃ x, x = numS mw := ⟨_, rfl⟩
          rw [← hNN] at HNi hnl HU1
          have m1 : ¬ 9223372036854775807 < NN.length + sl.length := by omega
          have m2 : ¬ 9223372036854775807 < (U i).length + (NN.length + sl.length) := by omega
          have HII := sec hlt
          obtain ⟨y0, y1, y2, y3, _⟩ := HX1.out wr gw
          clear hmw hslx hNN hss hlt hul hwz hsz hnl HX0
          go_wp2_with fail
          have gd : Gr wa wr.drew := gw.drew
          go_region_held3 (fun w' => w'.cell? ⟨p, 3, none⟩ = some (.slice (some ⟨b, off, none⟩) s.who.length c) ∧ w'.cell? ⟨p, 4, none⟩ = some (.slice (some ⟨b2, off2, none⟩) s.seals.length d) ∧ w'.cell? ⟨b, off + i, none⟩ = some (.int .i64 mw) ∧ w'.cell? ⟨b2, off2 + i, none⟩ = some (.string (bs sl)) ∧ Gr wa w')
            (first | with_reducible assumption | with_reducible exact HX1.out _ gd | with_reducible exact HX1.out _ G6 | fail)
            (first
              | (go_at_call 48; (with_reducible refine Calls.mono (HNi.out wr.drew) ?_); rintro e w6 ⟨rfl, g6⟩; have G6 : Gr wa w6 := Gr.trans gd g6)
              | fail)
          all_goals
            go_wp2_with fail
            go_roundg (gk - 1)
            case rel => exact ⟨i + 1, by go_num, by rw [HU1.out], by omega, HII.out, G6⟩
            case measure => have := HII.out; omega
        · obtain hE2 : i = s.who.length := by omega
          have HF : Sec (E = (U i, 0)) := sec (by rw [HEND.out, hE2])
          have hii : ¬ (i : Int) < (s.who.length : Int) := by omega
          have q : decide (i < s.who.length) = false := decide_eq_false hlt
          clear hE2 hlt hik
          go_wp2_with fail
          go_ret2
          exact ⟨by rw [HF.out]; rfl, hg0.trans gw⟩
  · have HR : Sec (encR s = ([], stE s)) := sec (by unfold encR; rw [if_neg hE])
    rw [HR.out]
    obtain ⟨E, hEE⟩ : ∃ E, E = stE s := ⟨_, rfl⟩
    rw [← hEE] at HGo hE
    rw [← hEE]
    have m0 : (E != 0) = true := by simpa using hE
    clear hEE HR hb
    unfold stepA at hwa HGo
    unfold stepA
    go_enter Tryd.func22, Tryd.ntmps22
    go_upto_region 1 with fail
    rw [← hwa, ← hp]
    clear hwa hp
    go_wp2_with (go_at_call 26; refine Calls.mono HGo.out ?_; rintro e w1 ⟨rfl, g1⟩)
    go_ret2
    exact ⟨rfl, hg0.trans g1⟩
end Go.Proofs.YtkgmimmneeppgaaDoor

namespace Go.Proofs.YtkgmimmneeppgaaDoor
abbrev Tree := Nat × List UInt8
/-- one tree more, the newest first -/
def pushT (n : Nat) (r : List UInt8) : List Tree → List Tree
  | [] => [(n, r)]
  | (m, s) :: st => if m = n then pushT (2 * n) (nodeH s r) st else (n, r) :: (m, s) :: st
def foldT : List Tree → List UInt8
  | [] => sha []
  | (_, r) :: st => st.foldl (fun acc x => nodeH x.2 acc) r
def stackL (l : List (List UInt8)) : List Tree := l.foldl (fun st s => pushT 1 (leafH s) st) []

def headGe (n : Nat) : List Tree → Prop
  | [] => True
  | (m, _) :: _ => n ≤ m
inductive Inv : List Tree → List (List UInt8) → Prop
  | nil : Inv [] []
  | cons {st : List Tree} {l1 l2 : List (List UInt8)} {h : Nat} (hl : l2.length = 2 ^ h) (hi : Inv st l1) (hg : headGe (2 * 2 ^ h) st) : Inv ((2 ^ h, rootL l2) :: st) (l1 ++ l2)

theorem rootL_join {a b : List (List UInt8)} {h : Nat} (ha : a.length = 2 ^ h) (h0 : 0 < b.length) (h1 : b.length ≤ 2 ^ h) : rootL (a ++ b) = nodeH (rootL a) (rootL b) := by
  have hp := Nat.two_pow_pos h
  have hl : (a ++ b).length = 2 ^ h + b.length := by rw [List.length_append, ha]
  have hh : halfN (a ++ b).length = 2 ^ h := halfN_of (by omega) (by rw [Nat.pow_succ]; omega)
  rw [rootL_more (by omega), hh, ← ha, List.take_left, List.drop_left]
theorem push_inv : ∀ (st : List Tree) (l1 l2 : List (List UInt8)) (h : Nat), l2.length = 2 ^ h → Inv st l1 → headGe (2 ^ h) st → Inv (pushT (2 ^ h) (rootL l2) st) (l1 ++ l2) := by
  intro st
  induction st with
  | nil =>
    intro l1 l2 h hl hi hg
    exact Inv.cons hl hi trivial
  | cons x st ih =>
    intro l1 l2 h hl hi hg
    have hp := Nat.two_pow_pos h
    cases hi with
    | @cons _ a b k hb ha hgb =>
      unfold pushT
      by_cases e : 2 ^ k = 2 ^ h
      · rw [if_pos e]
        have hj : rootL (b ++ l2) = nodeH (rootL b) (rootL l2) := rootL_join (hb.trans e) (by omega) (by omega)
        have e2 : 2 * 2 ^ h = 2 ^ (h + 1) := by rw [Nat.pow_succ]; omega
        rw [← hj, e2, List.append_assoc]
        refine ih a (b ++ l2) (h + 1) ?_ ha ?_
        · rw [List.length_append, hb, hl, e]; omega
        · rw [← e2, ← e]; exact hgb
      · rw [if_neg e]
        refine Inv.cons hl (Inv.cons hb ha hgb) ?_
        have hle : 2 ^ h ≤ 2 ^ k := hg
        have hlt : h < k := (Nat.pow_lt_pow_iff_right (a := 2) (by omega)).1 (by omega)
        have : 2 ^ (h + 1) ≤ 2 ^ k := Nat.pow_le_pow_right (by omega) hlt
        show 2 * 2 ^ h ≤ 2 ^ k
        rw [Nat.pow_succ] at this
        omega
theorem headGe_one : ∀ {st : List Tree} {l : List (List UInt8)}, Inv st l → headGe 1 st
  | _, _, .nil => trivial
  | _, _, .cons (h := h) _ _ _ => Nat.two_pow_pos h
theorem stack_inv : ∀ (l : List (List UInt8)) (st : List Tree) (l0 : List (List UInt8)), Inv st l0 → Inv (l.foldl (fun st s => pushT 1 (leafH s) st) st) (l0 ++ l)
  | [], st, l0, h => by rw [List.append_nil]; exact h
  | s :: r, st, l0, h => by
    have := push_inv st l0 [s] 0 rfl h (headGe_one h)
    rw [rootL_one] at this
    have h2 := stack_inv r _ _ this
    rw [List.append_assoc] at h2
    exact h2
theorem fold_inv : ∀ (st : List Tree) (l l2 : List (List UInt8)), Inv st l → 0 < l2.length → headGe l2.length st → st.foldl (fun acc x => nodeH x.2 acc) (rootL l2) = rootL (l ++ l2) := by
  intro st
  induction st with
  | nil =>
    intro l l2 hi _ _
    cases hi
    rfl
  | cons x st ih =>
    intro l l2 hi h0 hg
    cases hi with
    | @cons _ a b k hb ha hgb =>
      rw [List.foldl_cons]
      have hg' : l2.length ≤ 2 ^ k := hg
      have hj : rootL (b ++ l2) = nodeH (rootL b) (rootL l2) := rootL_join hb h0 hg'
      show List.foldl _ (nodeH (rootL b) (rootL l2)) st = _
      rw [← hj, List.append_assoc]
      refine ih a (b ++ l2) ha (by rw [List.length_append]; omega) ?_
      cases st with
      | nil => trivial
      | cons y st =>
        have h3 : 2 * 2 ^ k ≤ y.1 := hgb
        show (b ++ l2).length ≤ y.1
        rw [List.length_append, hb]; omega
/-- P9.2: put together as they come, or halved: the same root -/
theorem fold_stack (l : List (List UInt8)) : foldT (stackL l) = rootL l := by
  have h := stack_inv l [] [] .nil
  rw [List.nil_append] at h
  unfold stackL
  cases hst : l.foldl (fun st s => pushT 1 (leafH s) st) [] with
  | nil =>
    rw [hst] at h
    cases h
    exact rootL_nil.symm
  | cons x st =>
    rw [hst] at h
    cases h with
    | @cons _ a b k hb ha hgb =>
      have hp := Nat.two_pow_pos k
      refine fold_inv st a b ha (by omega) ?_
      cases st with
      | nil => trivial
      | cons y st =>
        have h3 : 2 * 2 ^ k ≤ y.1 := hgb
        show b.length ≤ y.1
        omega

/-! ### paths and proofs from above -/
end Go.Proofs.YtkgmimmneeppgaaDoor

namespace Go.Proofs.YtkgmimmneeppgaaDoor
open Go.RowKit
set_option linter.unusedVariables false
set_option maxHeartbeats 1000000 in
theorem rtwo_any (a b : List UInt8) (w : World) (ha : a.length ≤ 1099511627776) (hb : b.length ≤ 1099511627776) :
    Calls Tryd.prog 70 #[.string (bs a), .string (bs b)] w fun e w' => e = .returned (.string (bs (nodeH a b))) ∧ Gr w w' := by
  have HF : Sec (nodeH a b = sha ([1] ++ a ++ b)) := sec rfl
  have HL : Sec (([1] ++ a ++ b : List UInt8).length ≤ 576460752303423488) := sec (by simp; omega)
  have h63 : ¬ 9223372036854775807 < 1 + a.length := by omega
  have h64 : ¬ 9223372036854775807 < 1 + a.length + b.length := by omega
  go_enter Tryd.func70, Tryd.ntmps70
  go_wp2_with (go_at_call 64; refine (rsum_any ([1] ++ a ++ b) _ HL.out).mono ?_; rintro e w1 ⟨rfl, g1⟩)
  go_ret
  exact ⟨by rw [HF.out]; rfl, g1⟩


end Go.Proofs.YtkgmimmneeppgaaDoor

namespace Go.Proofs.YtkgmimmneeppgaaDoor
open Go.RowKit
set_option linter.unusedVariables false
set_option maxHeartbeats 1000000 in
theorem rleaf_any (s : List UInt8) (w : World) (hs : s.length ≤ 1099511627776) :
    Calls Tryd.prog 69 #[.string (bs s)] w fun e w' => e = .returned (.string (bs (leafH s))) ∧ Gr w w' := by
  have HF : Sec (leafH s = sha ([0] ++ s)) := sec rfl
  have HL : Sec (([0] ++ s : List UInt8).length ≤ 576460752303423488) := sec (by simp; omega)
  have h63 : ¬ 9223372036854775807 < 1 + s.length := by omega
  go_enter Tryd.func69, Tryd.ntmps69
  go_wp2_with (go_at_call 64; refine (rsum_any ([0] ++ s) _ HL.out).mono ?_; rintro e w1 ⟨rfl, g1⟩)
  go_ret
  exact ⟨by rw [HF.out]; rfl, g1⟩
end Go.Proofs.YtkgmimmneeppgaaDoor

namespace Go.Proofs.YtkgmimmneeppgaaDoor
open Go.RowKit
set_option linter.unusedVariables false
theorem E.tree : ElemOk 89 91 (.agg #[.int .i64 0, .string (bs [])]) 2 24 := ⟨Tryd.underlying89, by kernel_rfl, rfl, by omega⟩
theorem A.tree : AggOk 91 2 := ⟨⟨_, Tryd.underlying91, rfl⟩, by kernel_rfl⟩
def treeC (t : Tree) : List Value := [.int .i64 (t.1 : Int), .string (bs t.2)]
/-- the newest last -/
def treesV (st : List Tree) : List Value := st.reverse.flatMap treeC
theorem treesV_len (st : List Tree) : (treesV st).length = st.length * 2 := by
  unfold treesV
  rw [flat_len treeC 2 (fun _ => rfl), List.length_reverse]
theorem treesV_cons (t : Tree) (st : List Tree) : treesV (t :: st) = treesV st ++ treeC t := by
  unfold treesV
  rw [List.reverse_cons, List.flatMap_append]
  simp
theorem treesV_append (a b : List Tree) : treesV (a ++ b) = treesV b ++ treesV a := by
  unfold treesV
  rw [List.reverse_append, List.flatMap_append]
def sliceLen2 : Value → Nat
  | .slice _ n _ => n
  | _ => 0

/-- where the pushing of a tree stands -/
def Pushing (l : List (List UInt8)) (st : List Tree) (n : Nat) (r : List UInt8) : Prop := ∃ l1 l2 h, l = l1 ++ l2 ∧ l2.length = 2 ^ h ∧ n = 2 ^ h ∧ r = rootL l2 ∧ Inv st l1 ∧ headGe (2 ^ h) st
theorem Pushing.start {l : List (List UInt8)} {st : List Tree} (h : Inv st l) (s : List UInt8) : Pushing (l ++ [s]) st 1 (leafH s) := ⟨l, [s], 0, rfl, rfl, rfl, (rootL_one s).symm, h, headGe_one h⟩
theorem Pushing.le {l : List (List UInt8)} {st : List Tree} {n : Nat} {r : List UInt8} (h : Pushing l st n r) : n ≤ l.length ∧ r.length = 32 := by
  obtain ⟨l1, l2, k, rfl, h1, rfl, rfl, _⟩ := h
  exact ⟨by rw [List.length_append]; omega, rootL_len _⟩
theorem inv_mem : ∀ {st : List Tree} {l : List (List UInt8)}, Inv st l → ∀ t ∈ st, t.1 ≤ l.length ∧ t.2.length = 32
  | _, _, .nil, t, h => by cases h
  | _, _, .cons (l1 := l1) (l2 := l2) hl hi hg, t, h => by
    rcases List.mem_cons.1 h with rfl | h
    · exact ⟨by rw [List.length_append]; omega, rootL_len _⟩
    · have := inv_mem hi t h
      exact ⟨by rw [List.length_append]; omega, this.2⟩
theorem Pushing.mem {l : List (List UInt8)} {st : List Tree} {n : Nat} {r : List UInt8} (h : Pushing l st n r) : ∀ t ∈ st, t.1 ≤ l.length ∧ t.2.length = 32 := by
  obtain ⟨l1, l2, k, rfl, h1, rfl, rfl, hi, _⟩ := h
  intro t ht
  have := inv_mem hi t ht
  exact ⟨by rw [List.length_append]; omega, this.2⟩
theorem Inv.uncons {t : Tree} {st : List Tree} {l : List (List UInt8)} (h : Inv (t :: st) l) : ∃ l1 l2 k, l = l1 ++ l2 ∧ l2.length = 2 ^ k ∧ t = (2 ^ k, rootL l2) ∧ Inv st l1 ∧ headGe (2 * 2 ^ k) st := by
  generalize hx : t :: st = st0 at h
  cases h with
  | nil => cases hx
  | @cons _ a b k hb ha hg =>
    injection hx with h1 h2
    subst h1 h2
    exact ⟨a, b, k, rfl, hb, rfl, ha, hg⟩
theorem Pushing.step {l : List (List UInt8)} {st : List Tree} {n : Nat} {r s : List UInt8} (h : Pushing l ((n, s) :: st) n r) : Pushing l st (2 * n) (nodeH s r) := by
  obtain ⟨l1, l2, k, rfl, h1, rfl, rfl, hi, _⟩ := h
  obtain ⟨a, b, k', rfl, hb, e, ha, hgb⟩ := hi.uncons
  injection e with e1 e2
  subst e2
  have hp := Nat.two_pow_pos k
  have e3 : 2 * 2 ^ k = 2 ^ (k + 1) := by rw [Nat.pow_succ]; omega
  refine ⟨a, b ++ l2, k + 1, by rw [List.append_assoc], by rw [List.length_append, hb, ← e1, h1]; omega, e3, (rootL_join (hb.trans e1.symm) (by omega) (by omega)).symm, ha, ?_⟩
  rw [← e3, e1]; exact hgb
theorem Pushing.done {l : List (List UInt8)} {st : List Tree} {n : Nat} {r : List UInt8} (h : Pushing l st n r) (hh : headGe (2 * n) st) : Inv ((n, r) :: st) l := by
  obtain ⟨l1, l2, k, rfl, h1, rfl, rfl, hi, _⟩ := h
  exact Inv.cons h1 hi hh
theorem Pushing.done2 {l : List (List UInt8)} {st : List Tree} {n m : Nat} {r s : List UInt8} (h : Pushing l ((m, s) :: st) n r) (hne : m ≠ n) : Inv ((n, r) :: (m, s) :: st) l := by
  have h0 := h
  obtain ⟨l1, l2, k, rfl, h1, rfl, rfl, hi, hg⟩ := h
  refine h0.done ?_
  obtain ⟨a, b, k', _, hb, e, _, _⟩ := hi.uncons
  injection e with e1 e2
  have hle : 2 ^ k ≤ m := hg
  have hlt : k < k' := (Nat.pow_lt_pow_iff_right (a := 2) (by omega)).1 (by omega)
  have : 2 ^ (k + 1) ≤ 2 ^ k' := Nat.pow_le_pow_right (by omega) hlt
  show 2 * 2 ^ k ≤ m
  rw [Nat.pow_succ] at this
  omega
theorem push_step {n : Nat} {r s : List UInt8} {st : List Tree} : pushT n r ((n, s) :: st) = pushT (2 * n) (nodeH s r) st := by rw [pushT, if_pos rfl]
theorem push_end {n m : Nat} {r s : List UInt8} {st : List Tree} (h : m ≠ n) : pushT n r ((m, s) :: st) = (n, r) :: (m, s) :: st := by rw [pushT, if_neg h]

/-- a shorter row of the same block -/
theorem own_take {w : World} {B e size n cap k : Nat} {A : Option Addr} {xs : List Value} (h : w.ownsRow B e size (.slice A n cap) n xs) (hk : k ≤ n) (hn : 0 < n) : w.ownsRow B e size (.slice A k cap) k (xs.take (k * size)) := by
  have hle : k * size ≤ n * size := Nat.mul_le_mul_right _ hk
  rcases h.2 with ⟨_, h0⟩ | ⟨g, cap', cur, hv, hB, hh, hc, hm, hs, ht⟩
  · omega
  · injection hv with e1 _ e3
    subst e1 e3
    refine ⟨by rw [List.length_take, h.1]; omega, .inr ⟨g, cap, cur, rfl, hB, hh, by omega, hm, hs, ?_⟩⟩
    rw [← ht, List.take_take, show min (k * size) (n * size) = k * size by omega]

set_option maxRecDepth 100000 in
set_option maxHeartbeats 4000000 in
theorem rroot_any (ss : List (List UInt8)) (m : Nat) (A0 : Option Addr) (cap0 : Nat) (w : World) (hm : m ≤ 1099511627776) (hrow : StrRow w A0 m ss) (hs : Short ss) :
    Calls Tryd.prog 42 #[.slice A0 m cap0] w fun e w' => e = .returned (.string (bs (rootL ss))) ∧ Gr w w' := by
  have hlen := hrow.len
  have HROW := sec hrow
  have HSH := sec hs
  clear hrow hs
  go_enter Tryd.func42, Tryd.ntmps42
  go_wp2_with fail
  rw [show ({ data := #[] } : ByteArray) = bs [] from rfl]
  go_loopw [3, 12, 5, 6, 7] (fun v jv _ _ _ wr => ∃ (j K : Nat) (st : List Tree) (A : Option Addr) (cap : Nat), jv = .int .i64 (j : Int) ∧ j ≤ m ∧ v = .slice A K cap ∧ K ≤ j ∧ Sec (st.length = K) ∧ Sec (st = stackL (ss.take j)) ∧ Sec (Inv st (ss.take j)) ∧ wr.ownsRow w.heap.size 91 2 (.slice A K cap) K (treesV st) ∧ Gr w wr)
    (fun _ jv _ _ _ _ => m - (intOf jv).toNat)
  case atStart => exact ⟨0, 0, [], none, 0, rfl, by omega, rfl, by omega, sec rfl, sec rfl, sec .nil, World.ownsRow_nil _ _ _ _, Gr.refl _⟩
  case round =>
    obtain ⟨j, K, st, A, cap, rfl, hj, rfl, hsl, HK, HST, HI, hown, hg⟩ := hrel
    by_cases hlt : j < m
    · have hji : (j : Int) < (m : Int) := by omega
      have hjp : j < ss.length := by omega
      obtain ⟨b, off, rfl, hc⟩ := (HROW.out.gr hg).cell hjp
      have hpl := HSH.out ss[j] (List.getElem_mem hjp)
      have hPu := HI.out
      have hpu : Pushing (ss.take (j + 1)) st 1 (leafH ss[j]) := by rw [List.take_succ_eq_append_getElem hjp]; exact Pushing.start HI.out _
      have hst' : stackL (ss.take (j + 1)) = pushT 1 (leafH ss[j]) st := by
        unfold stackL
        rw [List.take_succ_eq_append_getElem hjp, List.foldl_append, List.foldl_cons, List.foldl_nil]
        have := HST.out
        unfold stackL at this
        rw [← this]
      obtain ⟨p, hp⟩ : ∃ p, p = ss[j] := ⟨_, rfl⟩
      rw [← hp] at hc hpl hpu hst'
      have HPU := sec hpu
      have HS2 := sec hst'
      have HL := sec (rleaf_any p · hpl)
      clear hp hjp hpu hst' hPu HST HI hpl
      go_wp2_with (go_at_call 69; refine Calls.mono (HL.out _) ?_; rintro e w1 ⟨rfl, g1⟩)
      have h2 := Blk.new w1 91 #[.int .i64 1, .string (bs (leafH p))]
      have hown2 := (own_gr hown g1).alloc (.cells #[.int .i64 1, .string (bs (leafH p))] 91)
      have hg02 := (hg.trans g1).alloc (.cells #[.int .i64 1, .string (bs (leafH p))] 91)
      have hne : Value.ownBlock (.slice A K cap) ≠ some w1.heap.size := by intro e; have := ((own_gr hown g1).lt _ e).2; omega
      have hqb : w.heap.size ≤ w1.heap.size := (hg.trans g1).size
      obtain ⟨w2, hw2⟩ : ∃ w2, w2 = w1.alloc (.cells #[.int .i64 1, .string (bs (leafH p))] 91) := ⟨_, rfl⟩
      rw [← hw2] at h2 hown2 hg02
      rw [← hw2]
      obtain ⟨q, hq⟩ : ∃ q, q = w1.heap.size := ⟨_, rfl⟩
      rw [← hq] at h2 hne hqb
      rw [← hq]
      have HB := sec h2
      have HO := sec hown2
      have HG := sec hg02
      have HNE := sec hne
      clear hq h2 hown2 hg02 hne hw2 hown hg hc g1 HL
      obtain ⟨wo, hwo⟩ : ∃ wo : World, wo = wr := ⟨_, rfl⟩
      clear hwo
      go_loopw [3, 7] (fun v _ wr => ∃ (n K : Nat) (r : List UInt8) (st' : List Tree) (A : Option Addr) (cap : Nat), v = .slice A K cap ∧ K ≤ j ∧ Sec (st'.length = K) ∧ Sec (Pushing (ss.take (j + 1)) st' n r) ∧ Sec (pushT n r st' = pushT 1 (leafH p) st) ∧ wr.ownsRow w.heap.size 91 2 (.slice A K cap) K (treesV st') ∧ Value.ownBlock (.slice A K cap) ≠ some q ∧ Blk wr q 91 #[.int .i64 (n : Int), .string (bs r)] ∧ Gr w wr)
        (fun v _ _ => sliceLen2 v)
      case atStart => exact ⟨1, K, leafH p, st, A, cap, rfl, hsl, HK, HPU, sec rfl, HO.out, HNE.out, HB.out, HG.out⟩
      case round =>
        clear HB HO HG HNE
        obtain ⟨n, K, r, st', A, cap, rfl, hsl', HK', HP, HE, hown, hne, hB, hg⟩ := hrel
        have hle := HP.out.le
        have hjl : (ss.take (j + 1)).length = j + 1 := by rw [List.length_take]; omega
        rw [hjl] at hle
        have c0 : wr.cell? ⟨q, 0, none⟩ = some (.int .i64 (n : Int)) := hB.cell 0
        have c1 : wr.cell? ⟨q, 1, none⟩ = some (.string (bs r)) := hB.cell 1
        have HM := sec HP.out.mem
        rw [hjl] at HM
        cases st' with
        | nil =>
          obtain rfl : K = 0 := HK'.out.symm
          clear hle hjl HM
          go_wp2_with fail
          go_quiet (fail)
          obtain ⟨wq, hwq⟩ : ∃ wq, wq = wr.drewN nq := ⟨_, rfl⟩
          have hgq : Gr w wq := by rw [hwq]; exact hg.drewN nq
          have hownq : wq.ownsRow w.heap.size 91 2 (.slice A 0 cap) 0 (treesV []) := by rw [hwq]; exact hown
          have c0q : wq.cell? ⟨q, 0, none⟩ = some (.int .i64 (n : Int)) := by rw [hwq]; exact c0
          have c1q : wq.cell? ⟨q, 1, none⟩ = some (.string (bs r)) := by rw [hwq]; exact c1
          rw [← hwq]
          clear hwq hown hg c0 c1 hB hne
          have hb1 : (0 + 1) * 24 ≤ 140737488355328 := by omega
          have hb2 : 0 + 1 ≤ maxLen := by unfold maxLen; omega
          go_wp2_with (refine wpList_append_new E.tree rfl (.tmp 54) (.tmp 56) rfl rfl hownq rfl rfl (by simp [Value.oneCell']) (by omega) hb1 hb2 hgq ?_; intro g' cap2 w' hown' hg')
          go_roundw
          case rel =>
            refine ⟨j + 1, 0 + 1, (n, r) :: [], some ⟨g', 0, none⟩, cap2, by go_num, by omega, by go_num, by omega, sec (by rfl), sec ?_, sec ?_, ?_, hg'⟩
            · rw [HS2.out, ← HE.out, pushT]
            · have := HP.out.done trivial; exact this
            · rw [treesV_cons]; exact hown'
          case measure => simp [intOf]; omega
        | cons x st2 =>
          obtain ⟨m2, s2⟩ := x
          obtain ⟨k2, rfl⟩ : ∃ k2, K = k2 + 1 := ⟨st2.length, HK'.out.symm⟩
          have hx := HM.out (m2, s2) (by simp)
          obtain ⟨g, cap', e, hgb, hgl⟩ := hown.form (by omega)
          injection e with e1 _ e3
          subst e1 e3
          have hcs := hown.cells (g := g) rfl
          have d0 : wr.cell? ⟨g, k2 * 2, none⟩ = some (.int .i64 (m2 : Int)) := by
            have := hcs (k2 * 2) (.int .i64 (m2 : Int)) (by
              rw [treesV_cons, List.getElem?_append_right (by rw [treesV_len]; have := HK'.out; simp at this; omega), treesV_len]
              have : st2.length = k2 := by have := HK'.out; simpa using this
              rw [this, Nat.sub_self]; rfl)
            rwa [add_zero_block] at this
          have d1 : wr.cell? ⟨g, k2 * 2 + 1, none⟩ = some (.string (bs s2)) := by
            have := hcs (k2 * 2 + 1) (.string (bs s2)) (by
              rw [treesV_cons, List.getElem?_append_right (by rw [treesV_len]; have := HK'.out; simp at this; omega), treesV_len]
              have : st2.length = k2 := by have := HK'.out; simpa using this
              rw [this, Nat.add_sub_cancel_left]; rfl)
            rwa [add_zero_block] at this
          clear hcs hjl HM
          have hk0 : 0 < (k2 : Int) + 1 := by omega
          by_cases hmn : m2 = n
          · subst hmn
            go_wp2_with fail
            go_quiet (fail)
            obtain ⟨wq, hwq⟩ : ∃ wq, wq = wr.drewN nq := ⟨_, rfl⟩
            have hgq : Gr w wq := by rw [hwq]; exact hg.drewN nq
            have hownq : wq.ownsRow w.heap.size 91 2 (.slice (some ⟨g, 0, none⟩) (k2 + 1) cap) (k2 + 1) (treesV ((m2, s2) :: st2)) := by rw [hwq]; exact hown
            have hBq : Blk wq q 91 #[.int .i64 (m2 : Int), .string (bs r)] := by rw [hwq]; exact hB
            have d0q : wq.cell? ⟨g, k2 * 2, none⟩ = some (.int .i64 (m2 : Int)) := by rw [hwq]; exact d0
            have d1q : wq.cell? ⟨g, k2 * 2 + 1, none⟩ = some (.string (bs s2)) := by rw [hwq]; exact d1
            have hkc : (k2 : Int) ≤ (cap : Int) := by
              rcases hownq.2 with ⟨h, _⟩ | ⟨_, _, _, e, _, _, h, _⟩
              · cases h
              · injection e with _ _ e; omega
            have hownt : wq.ownsRow w.heap.size 91 2 (.slice (some ⟨g, 0, none⟩) k2 cap) k2 (treesV st2) := by
              have := own_take hownq (k := k2) (by omega) (by omega)
              rw [treesV_cons, List.take_left' (by rw [treesV_len]; have := HK'.out; simp at this; omega)] at this
              exact this
            have hneq : g ≠ q := by simpa [Value.ownBlock] using hne
            have hne9 : Value.ownBlock (.slice (some ⟨g, 0, none⟩) k2 cap) ≠ some q := by simpa [Value.ownBlock] using hneq
            rw [← hwq]
            clear hwq hown hg c0 c1 hB hne d0 d1 hownq
            go_wp2_with fail
            have hB7 := hBq.alloc (.cells #[.int .i64 (m2 : Int), .string (bs s2)] 91)
            have hown7 := hownt.alloc (.cells #[.int .i64 (m2 : Int), .string (bs s2)] 91)
            have hg7 := hgq.alloc (.cells #[.int .i64 (m2 : Int), .string (bs s2)] 91)
            have hU7 := Blk.new wq 91 #[.int .i64 (m2 : Int), .string (bs s2)]
            obtain ⟨w7, hw7⟩ : ∃ w7, w7 = wq.alloc (.cells #[.int .i64 (m2 : Int), .string (bs s2)] 91) := ⟨_, rfl⟩
            obtain ⟨q7, hq7⟩ : ∃ q7, q7 = wq.heap.size := ⟨_, rfl⟩
            rw [← hw7] at hB7 hown7 hg7 hU7
            rw [← hq7] at hU7
            rw [← hw7, ← hq7]
            have c70 : w7.cell? ⟨q, 0, none⟩ = some (.int .i64 (m2 : Int)) := hB7.cell 0
            have c71 : w7.cell? ⟨q, 1, none⟩ = some (.string (bs r)) := hB7.cell 1
            have u71 : w7.cell? ⟨q7, 1, none⟩ = some (.string (bs s2)) := hU7.cell 1
            have f70 := hB7.frozen 0
            have f71 := hB7.frozen 1
            have HT := sec (fun w => rtwo_any s2 r w (by omega) (by omega))
            have hwr : IntKind.i64.wrap (2 * (m2 : Int)) = 2 * (m2 : Int) := IntWalk.i64_in _ (by omega)
            clear hw7 hq7 hBq hownt hgq d0q d1q
            go_region_with (go_at_call 70; refine (HT.out _).mono ?_; rintro e w8 ⟨rfl, g8⟩; have gg8 : Gr w7 w8 := Gr.trans (Gr.refl _).drew g8; have c80 : w8.cell? ⟨q, 0, none⟩ = some (.int .i64 (m2 : Int)) := (hB7.gr gg8).cell 0; have c81 : w8.cell? ⟨q, 1, none⟩ = some (.string (bs r)) := (hB7.gr gg8).cell 1; have u81 : w8.cell? ⟨q7, 1, none⟩ = some (.string (bs s2)) := (hU7.gr gg8).cell 1; have f80 := (hB7.gr gg8).frozen 0; have f81 := (hB7.gr gg8).frozen 1)
            all_goals
              have hB9 := ((hB7.gr gg8).set_ 0 (.int .i64 (2 * (m2 : Int)))).set_ 1 (.string (bs (nodeH s2 r)))
              have hown9 : ((w8.setCell ⟨q, 0, none⟩ (.int .i64 (2 * (m2 : Int)))).setCell ⟨q, 1, none⟩ (.string (bs (nodeH s2 r)))).ownsRow w.heap.size 91 2 (.slice (some ⟨g, 0, none⟩) k2 cap) k2 (treesV st2) :=
                ((own_gr hown7 gg8).kept (grown_setCell _ _ _) (.inr (by simpa [Value.ownBlock] using hneq))).kept (grown_setCell _ _ _) (.inr (by simpa [Value.ownBlock] using hneq))
              have hg9 := ((hg7.trans gg8).setCell (p := ⟨q, 0, none⟩) hqb (.int .i64 (2 * (m2 : Int)))).setCell (p := ⟨q, 1, none⟩) hqb (.string (bs (nodeH s2 r)))
              clear hwr
              go_wp2_with fail
              go_roundw
              case rel =>
                refine ⟨2 * m2, k2, nodeH s2 r, st2, _, cap, rfl, by omega, sec (by have := HK'.out; simpa using this), sec HP.out.step, sec (by rw [← HE.out, push_step]), hown9, hne9, ?_, hg9⟩
                exact hB9
              case measure => simp [sliceLen2]
          · have t1 : ((m2 : Int) == (n : Int)) = false := by rw [beq_eq_false_iff_ne]; omega
            go_wp2_with fail
            go_quiet (fail)
            obtain ⟨wq, hwq⟩ : ∃ wq, wq = wr.drewN nq := ⟨_, rfl⟩
            have hgq : Gr w wq := by rw [hwq]; exact hg.drewN nq
            have hownq : wq.ownsRow w.heap.size 91 2 (.slice (some ⟨g, 0, none⟩) (k2 + 1) cap) (k2 + 1) (treesV ((m2, s2) :: st2)) := by rw [hwq]; exact hown
            have c0q : wq.cell? ⟨q, 0, none⟩ = some (.int .i64 (n : Int)) := by rw [hwq]; exact c0
            have c1q : wq.cell? ⟨q, 1, none⟩ = some (.string (bs r)) := by rw [hwq]; exact c1
            rw [← hwq]
            clear hwq hown hg c0 c1 hB hne
            have hb1 : ((k2 + 1) + 1) * 24 ≤ 140737488355328 := by omega
            have hb2 : (k2 + 1) + 1 ≤ maxLen := by unfold maxLen; omega
            go_wp2_with (refine wpList_append_new E.tree rfl (.tmp 54) (.tmp 56) rfl rfl hownq rfl rfl (by simp [Value.oneCell']) (by omega) hb1 hb2 hgq ?_; intro g' cap2 w' hown' hg')
            go_roundw
            case rel =>
              refine ⟨j + 1, (k2 + 1) + 1, (n, r) :: ((m2, s2) :: st2), some ⟨g', 0, none⟩, cap2, by go_num, by omega, by go_num, by omega, sec (by have := HK'.out; simp at this ⊢; omega), sec ?_, sec ?_, ?_, hg'⟩
              · rw [HS2.out, ← HE.out, push_end hmn]
              · exact HP.out.done2 hmn
              · rw [treesV_cons]; exact hown'
            case measure => simp [intOf]; omega
    · obtain rfl : j = m := by omega
      have hst : st = stackL ss := by have := HST.out; rwa [List.take_of_length_le (by omega)] at this
      have hfold := fold_stack ss
      rw [← hst] at hfold
      have HMEM := sec (inv_mem HI.out)
      clear hst HST HI hlt hj
      cases st with
      | nil =>
        obtain rfl : K = 0 := HK.out.symm
        have HF : Sec (rootL ss = sha []) := sec hfold.symm
        clear hfold HMEM
        go_wp2_with (go_at_call 64; refine (rsum_any [] _ (by simp)).mono ?_; rintro e w1 ⟨rfl, g1⟩)
        go_ret
        exact ⟨by rw [HF.out]; rfl, hg.trans g1⟩
      | cons x st0 =>
        obtain ⟨m0, r0⟩ := x
        have HFO : Sec (st0.foldl (fun acc x => nodeH x.2 acc) r0 = rootL ss) := sec hfold
        obtain ⟨k, rfl⟩ : ∃ k, K = k + 1 := ⟨st0.length, HK.out.symm⟩
        have hr0 : r0.length = 32 := (HMEM.out (m0, r0) (by simp)).2
        have hk : st0.length = k := by have := HK.out; simpa using this
        obtain ⟨g, cap', e, hgb, hgl⟩ := hown.form (by omega)
        injection e with e1 _ e3
        subst e1 e3
        have hcs := hown.cells (g := g) rfl
        have d1 : wr.cell? ⟨g, k * 2 + 1, none⟩ = some (.string (bs r0)) := by
          have := hcs (k * 2 + 1) (.string (bs r0)) (by
            rw [treesV_cons, List.getElem?_append_right (by rw [treesV_len, hk]; omega), treesV_len, hk, Nat.add_sub_cancel_left]; rfl)
          rwa [add_zero_block] at this
        have t0 : ((k : Int) + 1 == 0) = false := by rw [beq_eq_false_iff_ne]; omega
        have HC := sec hcs
        have HKL := sec hk
        clear hcs hfold hk
        go_wp2_with fail
        obtain ⟨wz, hwz⟩ : ∃ wz : World, wz = wr := ⟨_, rfl⟩
        rw [← hwz] at hg hgl HC
        rw [← hwz]
        clear hwz hown d1 t0
        have hk1 : ((k : Int) + 1 - 2) = (k : Int) - 1 := by omega
        rw [hk1]
        clear hk1
        go_loopw [8, 9] (fun v iv w9 => ∃ (k' : Nat) (I : Int) (acc : List UInt8) (st' pre : List Tree), v = .string (bs acc) ∧ iv = .int .i64 I ∧ I = (k' : Int) - 1 ∧ k' ≤ k ∧ Sec (st'.length = k') ∧ Sec (st0 = pre ++ st') ∧ Sec (st'.foldl (fun acc x => nodeH x.2 acc) acc = rootL ss) ∧ acc.length = 32 ∧ Gr wz w9)
          (fun _ iv _ => (intOf iv + 1).toNat)
        case atStart => exact ⟨k, (k : Int) - 1, r0, st0, [], rfl, rfl, rfl, by omega, HKL, sec rfl, HFO, hr0, Gr.refl _⟩
        case round =>
          obtain ⟨k', I, acc, st', pre, rfl, rfl, hI, hk', HL', HPRE, HF', hacc, hgz⟩ := hrel
          cases st' with
          | nil =>
            obtain rfl : k' = 0 := HL'.out.symm
            obtain rfl : I = -1 := by omega
            have HF : Sec (rootL ss = acc) := sec HF'.out.symm
            clear hI
            go_wp2_with fail
            go_ret
            exact ⟨by rw [HF.out]; rfl, hg.trans hgz⟩
          | cons x st1 =>
            obtain ⟨m1, r1⟩ := x
            obtain ⟨k1, rfl⟩ : ∃ k1, k' = k1 + 1 := ⟨st1.length, HL'.out.symm⟩
            have hk1 : st1.length = k1 := by have := HL'.out; simpa using this
            have hr1 : r1.length = 32 := (HMEM.out (m1, r1) (by rw [HPRE.out]; simp)).2
            obtain rfl : I = (k1 : Int) := by omega
            have d1 : wr.cell? ⟨g, k1 * 2 + 1, none⟩ = some (.string (bs r1)) := by
              rw [hgz.cells.1 g _ hgl]
              have := HC.out (k1 * 2 + 1) (.string (bs r1)) (by
                rw [HPRE.out, ← List.cons_append, treesV_append, treesV_cons, List.append_assoc, List.getElem?_append_right (by rw [treesV_len, hk1]; omega), treesV_len, hk1, Nat.add_sub_cancel_left]; rfl)
              rwa [add_zero_block] at this
            have h0i : 0 ≤ (k1 : Int) := by omega
            have hki : (k1 : Int) < (k : Int) + 1 := by omega
            have HT := sec (fun w => rtwo_any r1 acc w (by omega) (by omega))
            have HFN : Sec (st1.foldl (fun acc x => nodeH x.2 acc) (nodeH r1 acc) = rootL ss) := sec HF'.out
            have HKK := sec hk1
            have HKE := sec hk'
            clear hI hk1 hk'
            go_wp2_with (go_at_call 70; with_reducible refine Calls.mono (HT.out _) ?_; rintro e w8 ⟨rfl, g8⟩)
            go_roundw
            case rel => exact ⟨k1, (k1 : Int) - 1, nodeH r1 acc, st1, pre ++ [(m1, r1)], rfl, by go_num, by rfl, by have := HKE.out; omega, HKK, sec (by rw [HPRE.out, List.append_assoc]; rfl), HFN, nodeH_len _ _, hgz.trans g8⟩
            case measure => simp [intOf]
end Go.Proofs.YtkgmimmneeppgaaDoor

namespace Go.Proofs.YtkgmimmneeppgaaDoor
set_option maxRecDepth 100000
open Go.RowKit
set_option linter.unusedVariables false

set_option maxHeartbeats 8000000 in
theorem rleaves_any (es : List SA) (l : List Stp) (A : Option Addr) (c : Nat) (w : World) (hx : StsR w A es.length es) (hl : l = es.map (·.s)) (hn : es.length ≤ 1099511627776) (hz : ∀ e ∈ es, StSz 1099511627776 e.s) :
    Calls Tryd.prog 18 #[.slice A es.length c] w fun e w' => ∃ A' c', e = .returned (.tuple #[.slice A' (lvR l).1.length c', .int .i64 (lvR l).2]) ∧ StrRow w' A' (lvR l).1.length (lvR l).1 ∧ (A' = none → (lvR l).1.length = 0 ∧ c' = 0) ∧ (lvR l).1.length ≤ c' ∧ Gr w w' := by
  have HX := sec hx
  have HC : Sec (∀ i (h : i < es.length) W, Gr w W → Calls Tryd.prog 22 #[.agg (stepA es[i].s es[i].A es[i].c es[i].B es[i].d)] W fun e w' => e = .returned (.tuple #[.string (bs (encR es[i].s).1), .int .i64 (encR es[i].s).2]) ∧ Gr W w') := sec (fun i h W g =>
    rstEncode_any es[i].s es[i].A es[i].c es[i].B es[i].d W ((hx.each _ (List.getElem_mem h)).gr g) (hz _ (List.getElem_mem h)))
  have HL : Sec (∀ i (h : i < es.length) (h' : i < l.length), l[i] = es[i].s) := sec (fun i h h' => by subst hl; simp)
  obtain ⟨N, hN⟩ : ∃ N, N = es.length := ⟨_, rfl⟩
  have hlN : l.length = N := by rw [hl, List.length_map, hN]
  have HN := sec hN
  have HLN := sec hlN
  obtain ⟨V, hV⟩ : ∃ V, V = lvR l := ⟨_, rfl⟩
  have HV := sec hV
  rw [← hN] at hn HX
  rw [← hN, ← hV]
  clear hx hz hN hl hlN hV
  go_enter Tryd.func18, Tryd.ntmps18
  go_wp2_with fail
  go_loopg [11, 4, 6, 7, 8] N (fun fuel iv ov _ _ _ wr => ∃ (i : Nat) (A0 : Option Addr) (c0 : Nat), iv = .int .i64 (i : Int) ∧ ov = .slice A0 i c0 ∧ N ≤ i + fuel ∧ i ≤ N ∧
    Sec (wr.ownsRow w.heap.size 9 1 (.slice A0 i c0) i ((encL (l.take i)).map strV)) ∧ Sec (lvE l = lvE (l.drop i)) ∧ Sec (Gr w wr))
  case atStart => exact ⟨0, none, 0, rfl, rfl, by omega, by omega, sec (World.ownsRow_nil _ _ _ _), sec rfl, sec (Gr.refl _)⟩
  case round =>
    obtain ⟨i, A0, c0, rfl, rfl, hik, hi, HO, HE, HG⟩ := hrel
    by_cases hlt : i < N
    · have hii : (i : Int) < (N : Int) := by omega
      have hlt' : i < es.length := by rw [← HN.out]; exact hlt
      have hltl : i < l.length := by rw [HLN.out]; exact hlt
      obtain ⟨b, off, rfl, e0, e1, e2, e3, e4⟩ := (HX.out.gr HG.out).cell hlt'
      have HCi := sec (HC.out i hlt')
      have HDR := sec (lvE_drop l i hltl)
      have HTK := sec (encL_take l i hltl)
      have hli := HL.out i hlt' hltl
      rw [hli] at HDR HTK
      obtain ⟨E0, hE0⟩ : ∃ E, E = es[i] := ⟨_, rfl⟩
      rw [← hE0] at HCi HDR HTK e0 e1 e2 e3 e4
      clear hE0 hlt' hltl hli
      obtain ⟨s0, A1, c1, B1, d1⟩ := E0
      simp only at e0 e1 e2 e3 e4 HDR HTK HCi
      obtain ⟨x, hx⟩ : ∃ x, x = (encR s0).1 := ⟨_, rfl⟩
      obtain ⟨y, hy⟩ : ∃ y, y = (encR s0).2 := ⟨_, rfl⟩
      rw [← hx] at HCi HTK
      rw [← hy] at HCi HDR
      obtain ⟨r, o, n, who, seals⟩ := s0
      simp only [stepA] at HCi
      simp only at e0 e1 e2 e3 e4
      have hbb : (i + 1) * 16 ≤ 140737488355328 := by omega
      have hmm : i + 1 ≤ maxLen := by unfold maxLen; omega
      have HLT := sec hlt
      clear hlt hx hy
      by_cases hy0 : y = 0
      · subst hy0
        have HE1 : Sec (lvE l = lvE (l.drop (i + 1))) := sec (by rw [HE.out, HDR.out, if_pos rfl])
        go_wp2_with (first
          | (go_at_call 22; (with_reducible refine Calls.mono (HCi.out _ (HG.out.alloc _)) ?_); rintro e w1 ⟨rfl, g1⟩; have GG1 := ((Gr.refl wr).alloc (.cells #[.string (bs r), .string (bs o), .string (bs n), .slice A1 who.length c1, .slice B1 seals.length d1] 46)).trans g1; have G1 := HG.out.trans GG1; have HO1 := own_gr HO.out GG1)
          | (at_builtin; refine wpList_append_rowO E.str rfl (.tmp 23) (.tmp 25) rfl (B := w.heap.size) (A0 := A0) (n0 := i) (cap0 := c0) (xs := (encL (l.take i)).map strV) rfl (own_gr HO1 ((Gr.refl _).alloc _)) rfl (row1L (T := 9) (u := .string (bs x)) (Blk.new _ _ _)) (fun h => by cases h) (fun u hu => by simp at hu; subst hu; rfl) hbb hmm (G1.alloc _).size ?_; intro A2 c2 w2 o2 h2))
        have hal := (Gr.refl w1).alloc (.cells #[.string (bs x)] 9)
        have HO2 := own_gr HO1 hal
        go_roundg (gk - 1)
        case rel =>
          refine ⟨i + 1, A2, c2, by go_num, rfl, by omega, HLT.out, sec ?_, HE1, sec ?_⟩
          · rw [HTK.out, ← sV_addL]; exact o2
          · exact (G1.trans hal).grown h2 (fun k hk => (HO2.lt k hk).1)
        case measure => have := HLT.out; omega
      · have hyb : (y != 0) = true := by rw [bne_iff_ne]; exact hy0
        have HVV : Sec (V = ([], y)) := sec (by
          have h : lvE l = y := by rw [HE.out, HDR.out, if_neg hy0]
          rw [HV.out]
          unfold lvR
          rw [h, if_neg hy0])
        clear hy0
        go_wp2_with (first
          | (go_at_call 22; (with_reducible refine Calls.mono (HCi.out _ (HG.out.alloc _)) ?_); rintro e w1 ⟨rfl, g1⟩; have G1 := (HG.out.alloc (.cells #[.string (bs r), .string (bs o), .string (bs n), .slice A1 who.length c1, .slice B1 seals.length d1] 46)).trans g1))
        go_ret2
        rw [HVV.out]
        exact ⟨none, 0, rfl, Row.nil _ 1 none, fun _ => ⟨rfl, rfl⟩, Nat.le_refl _, G1⟩
    · have q1 : decide (i < N) = false := decide_eq_false hlt
      have HI : Sec (i = N) := sec (by omega)
      clear hlt
      go_wp2_with fail
      go_ret2
      obtain rfl := HI.out
      have h0 : lvE l = 0 := by rw [HE.out, List.drop_eq_nil_of_le (by rw [HLN.out]; exact Nat.le_refl _)]; rfl
      have hV2 : V = (encL l, 0) := by rw [HV.out]; unfold lvR; rw [if_pos h0]
      have ho := HO.out
      rw [List.take_of_length_le (by rw [HLN.out]; exact Nat.le_refl _)] at ho
      rw [hV2]
      have hle : (encL l).length = i := by rw [encL_len]; exact HLN.out
      simp only [hle]
      exact ⟨A0, c0, rfl, Row.own ho, own_nil5 ho, own_cap5 ho, HG.out⟩

set_option maxHeartbeats 8000000 in
theorem rof_any (es : List SA) (l : List Stp) (A : Option Addr) (c : Nat) (w : World) (hx : StsR w A es.length es) (hl : l = es.map (·.s)) (hn : es.length ≤ 1099511627776) (hz : ∀ e ∈ es, StSz 1099511627776 e.s) (hT : TabK w) :
    Calls Tryd.prog 16 #[.slice A es.length c] w fun e w' => e = .returned (.tuple #[.agg (headC (ofR l).1 (ofR l).2.1), .int .i64 (ofR l).2.2]) ∧ Gr w w' := by
  have HLv : Sec (∀ W, Gr w W → Calls Tryd.prog 18 #[.slice A es.length c] W fun e w' => ∃ A' c', e = .returned (.tuple #[.slice A' (lvR l).1.length c', .int .i64 (lvR l).2]) ∧ StrRow w' A' (lvR l).1.length (lvR l).1 ∧ (A' = none → (lvR l).1.length = 0 ∧ c' = 0) ∧ (lvR l).1.length ≤ c' ∧ Gr W w') := sec (fun W g => rleaves_any es l A c W (hx.gr g) hl hn hz)
  have HRo : Sec (∀ L A1 c1 W, L = encL l → StrRow W A1 L.length L → L.length ≤ c1 → Gr w W → Calls Tryd.prog 42 #[.slice A1 L.length c1] W fun e w' => e = .returned (.string (bs (rootL L))) ∧ Gr W w') := sec (fun L A1 c1 W hL h hc g => by
    have hT' := hT.gr g
    have hsh : Short L := fun x hx => by have := encL_short l x (by rw [← hL]; exact hx); omega
    have hLl : L.length ≤ 1099511627776 := by rw [hL, encL_len, hl, List.length_map]; exact hn
    exact rroot_any L L.length A1 c1 W hLl h hsh)
  have hlN : l.length = es.length := by rw [hl, List.length_map]
  obtain ⟨N, hN⟩ : ∃ N, N = es.length := ⟨_, rfl⟩
  rw [← hN] at hlN HLv hn
  rw [← hN]
  obtain ⟨V, hV⟩ : ∃ V, V = ofR l := ⟨_, rfl⟩
  rw [← hV]
  have HV : Sec (V = if 200 < N then (0, [], 6) else if lvE l = 0 then ((N : Int), rootL (encL l), 0) else (0, [], lvE l)) := sec (by rw [hV]; unfold ofR; rw [hlN])
  have HB := Blk.new w 26 #[.int .i64 0, .string (bs [])]
  have hg0 := (Gr.refl w).alloc (.cells #[.int .i64 0, .string (bs [])] 26)
  obtain ⟨wa, hwa⟩ : ∃ y, y = w.alloc (.cells #[.int .i64 0, .string (bs [])] 26) := ⟨_, rfl⟩
  obtain ⟨p, hp⟩ : ∃ p, p = w.heap.size := ⟨_, rfl⟩
  rw [← hwa] at HB hg0
  rw [← hp] at HB
  have hwp : w.heap.size ≤ p := by omega
  have HBB := sec HB
  clear HB hV hN hlN hx hl hz hT
  unfold headC
  have HSK : Sec (∀ W, Gr wa W → W.cell? ⟨p, 0, none⟩ = some (.int .i64 0) ∧ W.cell? ⟨p, 1, none⟩ = some (.string (bs [])) ∧ W.frozen? ⟨p, 0, none⟩ = false ∧ W.frozen? ⟨p, 1, none⟩ = false) := sec (fun W g => ⟨(HBB.out.gr g).cell 0, (HBB.out.gr g).cell 1, (HBB.out.gr g).frozen 0, (HBB.out.gr g).frozen 1⟩)
  obtain ⟨u0, u1, u2, u3⟩ := HSK.out wa (Gr.refl _)
  by_cases h200 : 200 < N
  · have hi2 : (200 : Int) < (N : Int) := by omega
    have HR : Sec (V = (0, [], 6)) := sec (by rw [HV.out, if_pos h200])
    clear HV h200
    go_enter Tryd.func16, Tryd.ntmps16
    go_upto_region 1 with fail
    rw [← hwa, ← hp]
    clear hwa hp
    go_wp2_with fail
    refine bodyPost_ret (results_blk_tmp rfl _ rfl ((HBB.out.set_ 0 (.int .i64 0)).set_ 1 (.string (bs []))) aggHd) rfl ?_
    rw [HR.out]
    exact ⟨rfl, (hg0.setCell (p := ⟨p, 0, none⟩) hwp _).setCell (p := ⟨p, 1, none⟩) hwp _⟩
  · have hi2 : ¬ (200 : Int) < (N : Int) := by omega
    have HV2 : Sec (V = if lvE l = 0 then ((N : Int), rootL (encL l), 0) else (0, [], lvE l)) := sec (by rw [HV.out, if_neg h200])
    have hi3 : N ≤ 200 := by omega
    clear h200 HV
    unfold lvR at HLv
    obtain ⟨y, hy⟩ : ∃ y, y = lvE l := ⟨_, rfl⟩
    rw [← hy] at HLv HV2
    obtain ⟨L, hL⟩ : ∃ L, L = encL l := ⟨_, rfl⟩
    rw [← hL] at HLv HV2
    have HLL := sec hL
    clear hL hy
    by_cases hy0 : y = 0
    · subst hy0
      have HR : Sec (V = ((N : Int), rootL L, 0)) := sec (by rw [HV2.out, if_pos rfl])
      simp only [if_true] at HLv
      have HRoL := sec (fun A1 c1 W h1 h2 h3 => HRo.out L A1 c1 W HLL.out h1 h2 h3)
      obtain ⟨T, hTT⟩ : ∃ T, T = rootL L := ⟨_, rfl⟩
      rw [← hTT] at HR HRoL
      clear HRo HV2 hTT
      go_enter Tryd.func16, Tryd.ntmps16
      go_upto_region 1 with fail
      rw [← hwa, ← hp]
      clear hwa hp
      go_wp2_with (first
        | (go_at_call 18; (with_reducible refine Calls.mono (HLv.out _ hg0) ?_); rintro e w1 ⟨A1, c1, rfl, r1, n1, k1, g1⟩; have G1 := hg0.trans g1; obtain ⟨v0, v1, v2, v3⟩ := HSK.out w1 g1)
        | (go_at_call 42; (with_reducible refine Calls.mono (HRoL.out A1 c1 _ r1 k1 G1) ?_); rintro e w2 ⟨rfl, g2⟩; have g12 := g1.trans g2; have G2 := G1.trans g2; obtain ⟨z0, z1, z2, z3⟩ := HSK.out w2 g12))
      refine bodyPost_ret (results_blk_tmp rfl _ rfl (((HBB.out.gr g12).set_ 0 (.int .i64 (N : Int))).set_ 1 (.string (bs T))) aggHd) rfl ?_
      rw [HR.out]
      exact ⟨rfl, (G2.setCell (p := ⟨p, 0, none⟩) hwp _).setCell (p := ⟨p, 1, none⟩) hwp _⟩
    · have HR : Sec (V = (0, [], y)) := sec (by rw [HV2.out, if_neg hy0])
      have m0 : (y != 0) = true := by rw [bne_iff_ne]; exact hy0
      simp only [if_neg hy0] at HLv
      clear HRo HV2 hy0
      go_enter Tryd.func16, Tryd.ntmps16
      go_upto_region 1 with fail
      rw [← hwa, ← hp]
      clear hwa hp
      go_wp2_with (first
        | (go_at_call 18; (with_reducible refine Calls.mono (HLv.out _ hg0) ?_); rintro e w1 ⟨A1, c1, rfl, r1, n1, k1, g1⟩; have G1 := hg0.trans g1; obtain ⟨v0, v1, v2, v3⟩ := HSK.out w1 g1))
      refine bodyPost_ret (results_blk_tmp rfl _ rfl (((HBB.out.gr g1).set_ 0 (.int .i64 0)).set_ 1 (.string (bs []))) aggHd) rfl ?_
      rw [HR.out]
      exact ⟨rfl, (G1.setCell (p := ⟨p, 0, none⟩) hwp _).setCell (p := ⟨p, 1, none⟩) hwp _⟩
end Go.Proofs.YtkgmimmneeppgaaDoor

namespace Go.Proofs.YtkgmimmneeppgaaDoor
set_option maxRecDepth 100000
open Go.RowKit
set_option linter.unusedVariables false

theorem sames_sz {es es' : List SA} {k : Nat} (h : Sames es es') (hz : ∀ e ∈ es, StSz k e.s) : ∀ e ∈ es', StSz k e.s := by
  intro e he
  have h1 : e.s ∈ es'.map (·.s) := List.mem_map_of_mem he
  rw [h] at h1
  obtain ⟨e', he', h2⟩ := List.mem_map.1 h1
  rw [← h2]
  exact hz e' he'
set_option maxHeartbeats 8000000 in
theorem headSteps_walk (A : Option Addr) (c : Nat) (es : List SA) (W : World) (hS : StepsIn W A c es) (hT : TabK W) :
    Calls Tryd.prog 4 #[.slice A es.length c] W fun e W' => e = .returned (.bool true) ∧ Gr W W' := by
  obtain ⟨hrow, hlen, hsz, hcap, hnil⟩ := hS
  have hz : ∀ e ∈ es, StSz 1099511627776 e.s := fun e he => (hsz e he).up (by omega)
  have hn : es.length ≤ 1099511627776 := by omega
  obtain ⟨l, hl⟩ : ∃ l, l = es.map (·.s) := ⟨_, rfl⟩
  have HCp : Sec (∀ w', Gr W w' → Calls Tryd.prog 15 #[.slice A es.length c] w' fun e w'' => ∃ A' c' es', e = .returned (.slice A' es.length c') ∧ Sames es es' ∧ StsR w'' A' es.length es' ∧ Gr w' w'') := sec (fun w' g => (copySteps_any es A c w' (hrow.gr g) hn hz).mono fun e w'' ⟨A', c', es', he, h1, h2, _, _, _, h3⟩ => ⟨A', c', es', he, h1, h2, h3⟩)
  have HOf : Sec (∀ w' A' c' es', Gr W w' → Sames es es' → StsR w' A' es.length es' → Calls Tryd.prog 14 #[.slice A' es.length c'] w' fun e w'' => e = .returned (.tuple #[.agg (headC (ofR l).1 (ofR l).2.1), .int .i64 (ofR l).2.2]) ∧ Gr w' w'') := sec (fun w' A' c' es' g h1 h2 => by
    have h3 := h2.len
    have := of_any es' l A' c' w' (by rw [h3]; exact h2) (by rw [hl]; exact h1.symm) (by omega) (sames_sz h1 hz) (hT.gr g)
    rwa [h3] at this)
  have HLv : Sec (∀ w' A' c' es', Gr W w' → Sames es es' → StsR w' A' es.length es' → Calls Tryd.prog 17 #[.slice A' es.length c'] w' fun e w'' => ∃ A2 c2, e = .returned (.tuple #[.slice A2 (lvR l).1.length c2, .int .i64 (lvR l).2]) ∧ StrRow w'' A2 (lvR l).1.length (lvR l).1 ∧ Gr w' w'') := sec (fun w' A' c' es' g h1 h2 => by
    have h3 := h2.len
    have := leaves_any es' l A' c' w' (by rw [h3]; exact h2) (by rw [hl]; exact h1.symm) (by omega) (sames_sz h1 hz)
    rw [h3] at this
    exact this.mono fun e w'' ⟨A2, c2, he, h4, _, _, h5⟩ => ⟨A2, c2, he, h4, h5⟩)
  have HRo : Sec (∀ w', Gr W w' → Calls Tryd.prog 16 #[.slice A es.length c] w' fun e w'' => e = .returned (.tuple #[.agg (headC (ofR l).1 (ofR l).2.1), .int .i64 (ofR l).2.2]) ∧ Gr w' w'') := sec (fun w' g => rof_any es l A c w' (hrow.gr g) hl hn hz (hT.gr g))
  have HRl : Sec (∀ w', Gr W w' → Calls Tryd.prog 18 #[.slice A es.length c] w' fun e w'' => ∃ A2 c2, e = .returned (.tuple #[.slice A2 (lvR l).1.length c2, .int .i64 (lvR l).2]) ∧ StrRow w'' A2 (lvR l).1.length (lvR l).1 ∧ Gr w' w'') := sec (fun w' g => (rleaves_any es l A c w' (hrow.gr g) hl hn hz).mono fun e w'' ⟨A2, c2, he, h4, _, _, h5⟩ => ⟨A2, c2, he, h4, h5⟩)
  have hLl : (lvR l).1.length ≤ 140737488355328 := by
    unfold lvR
    split
    · simp only; rw [encL_len, hl, List.length_map]; omega
    · simp
  have HSs : Sec (∀ w' A1 c1 A2 c2, StrRow w' A1 (lvR l).1.length (lvR l).1 → StrRow w' A2 (lvR l).1.length (lvR l).1 → Calls Tryd.prog 19 #[.slice A1 (lvR l).1.length c1, .slice A2 (lvR l).1.length c2] w' fun e w'' => e = .returned (.bool true) ∧ Gr w' w'') := sec (fun w' A1 c1 A2 c2 h h' => by
    have := sameStrings_any A1 A2 _ _ c1 c2 _ _ w' h h' hLl hLl
    rwa [decide_eq_true rfl] at this)
  have HHs : Sec (∀ w', Gr W w' → Calls Tryd.prog 13 #[] w' fun e w'' => e = .returned (.bool true) ∧ Gr w' w'') := sec (fun w' g => heads_any w' (hT.gr g))
  obtain ⟨a, ha⟩ : ∃ y, y = (ofR l).1 := ⟨_, rfl⟩
  obtain ⟨b, hb⟩ : ∃ y, y = (ofR l).2.1 := ⟨_, rfl⟩
  obtain ⟨E, hE⟩ : ∃ y, y = (ofR l).2.2 := ⟨_, rfl⟩
  obtain ⟨L, hL⟩ : ∃ y, y = (lvR l).1 := ⟨_, rfl⟩
  obtain ⟨M, hM⟩ : ∃ y, y = L.length := ⟨_, rfl⟩
  obtain ⟨E2, hE2⟩ : ∃ y, y = (lvR l).2 := ⟨_, rfl⟩
  obtain ⟨N, hN⟩ : ∃ y, y = es.length := ⟨_, rfl⟩
  rw [← ha, ← hb, ← hE] at HOf HRo
  rw [← hL, ← hM] at HSs
  rw [← hL, ← hM, ← hE2] at HLv HRl
  rw [← hN] at HCp HOf HLv HRo HRl
  rw [← hN]
  clear ha hb hE hL hM hE2 hN hrow hlen hsz hcap hnil hz hn hl hLl hT
  unfold headC at HOf HRo
  go_enter Tryd.func4, Tryd.ntmps4
  go_wp2_with (first
    | (go_at_call 15; (with_reducible refine Calls.mono (HCp.out _ (Gr.refl _)) ?_); rintro e w1 ⟨A1, c1, es1, rfl, q1, r1, g1⟩)
    | (go_at_call 14; (with_reducible refine Calls.mono (HOf.out _ _ _ _ g1 q1 r1) ?_); rintro e w2 ⟨rfl, g2⟩; have G2 := (g1.trans g2).alloc (.cells #[.int .i64 a, .string (bs b)] 26); have b2 := Blk.new w2 26 #[.int .i64 a, .string (bs b)])
    | (go_at_call 16; (with_reducible refine Calls.mono (HRo.out _ G2) ?_); rintro e w3 ⟨rfl, g3⟩; have G3 := (G2.trans g3).alloc (.cells #[.int .i64 a, .string (bs b)] 26); have b3 := Blk.new w3 26 #[.int .i64 a, .string (bs b)]; have b2' := (b2.gr g3).alloc (.cells #[.int .i64 a, .string (bs b)] 26))
    | (go_at_call 15; (with_reducible refine Calls.mono (HCp.out _ G3) ?_); rintro e w4 ⟨A4, c4, es4, rfl, q4, r4, g4⟩; have G4 := G3.trans g4)
    | (go_at_call 17; (with_reducible refine Calls.mono (HLv.out _ _ _ _ G4 q4 r4) ?_); rintro e w5 ⟨A5, c5, rfl, r5, g5⟩; have G5 := G4.trans g5)
    | (go_at_call 18; (with_reducible refine Calls.mono (HRl.out _ G5) ?_); rintro e w6 ⟨A6, c6, rfl, r6, g6⟩; have G6 := G5.trans g6; have gx := (g4.trans g5).trans g6; have d2 := b2'.gr gx; have d3 := b3.gr gx; have x0 := d2.cell 0; have x1 := d2.cell 1; have y0 := d3.cell 0; have y1 := d3.cell 1)
    | (go_at_call 19; (with_reducible refine Calls.mono (HSs.out _ _ _ _ _ (r5.gr g6) r6) ?_); rintro e w7 ⟨rfl, g7⟩; have G7 := G6.trans g7)
    | (go_at_call 13; (with_reducible refine Calls.mono (HHs.out _ G7) ?_); rintro e w8 ⟨rfl, g8⟩; have G8 := G7.trans g8))
  go_ret
  exact ⟨rfl, G8⟩
end Go.Proofs.YtkgmimmneeppgaaDoor

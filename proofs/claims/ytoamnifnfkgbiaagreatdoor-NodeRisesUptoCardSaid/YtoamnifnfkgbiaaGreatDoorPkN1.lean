/-
  PkN1: contracts and plain laws joined (28 texts). No conditions but those that each states.
-/
import Derived.Test.YtoamnifnfkgbiaaGreatDoorPkN2
import Derived.Test.YtoamnifnfkgbiaaGreatDoorPkN3
import Derived.Test.YtoamnifnfkgbiaaGreatDoorMerkR
import Derived.Test.YtoamnifnfkgbiaaGreatDoorDiskCrash
import Derived.Test.YtoamnifnfkgbiaaGreatDoorDiskA
import Derived.Test.YtoamnifnfkgbiaaGreatDoorDiskStep
import Derived.Deep.RegionHeld3
import Derived.Test.YtoamnifnfkgbiaaGreatDoorRRoot
import Derived.Test.YtoamnifnfkgbiaaGreatDoorDiskRCrash
import Derived.Test.YtoamnifnfkgbiaaGreatDoorBlock
import Derived.Test.YtoamnifnfkgbiaaGreatDoorCards
import Derived.Test.YtoamnifnfkgbiaaGreatDoorTie
import Derived.ProofKit
import Derived.Deep.DeepHandedRow
import Derived.Lib.LaidTab
namespace Go.Proofs.YtoamnifnfkgbiaaGreatDoor
set_option maxRecDepth 100000
open Go.RowKit
set_option linter.unusedVariables false
theorem own_lowO {w : World} {B B' e size n : Nat} {v : Value} {xs : List Value} (h : w.ownsRow B e size v n xs) (hle : B' ≤ B) : w.ownsRow B' e size v n xs := by
  refine ⟨h.1, ?_⟩
  rcases h.2 with h0 | ⟨g, cap, cur, hv, hB, r⟩
  · exact .inl h0
  · exact .inr ⟨g, cap, cur, hv, Nat.le_trans hle hB, r⟩
theorem wpList_append_rowO {ops : Array Oper} {rest : List Oper} {o : Oper} {a : Act} {Q : Exit → Act → World → Prop} {t e : TypeId} {z : Value} {size bytes : Nat} (E : ElemOk t e z size bytes) (hgd : o.guard = none) (s x : Operand)
    (ho : o.op = .call { callee := .builtin .append, args := #[s, x], argTypes := #[t, t] }) {B : Nat} {w : World}
    {A0 : Option Addr} {n0 cap0 : Nat} {xs : List Value} (hs : a.eval s = .slice A0 n0 cap0) (hown : w.ownsRow B e size (.slice A0 n0 cap0) n0 xs)
    {A : Option Addr} {n c : Nat} {vs : List Value} (hx : a.eval x = .slice A n c) (hrow : Row w size A n vs) (hA : A = none → n = 0 ∧ c = 0) (h1 : ∀ u ∈ vs, u.oneCell' = true)
    (hbytes : (n0 + n) * bytes ≤ 140737488355328) (h63 : n0 + n ≤ maxLen) (hB : B ≤ w.heap.size)
    (h : ∀ A' cap' w', w'.ownsRow B e size (.slice A' (n0 + n) cap') (n0 + n) (xs ++ vs) → w.grownBy w' (Value.ownBlock (.slice A0 n0 cap0)) → wpList Tryz.prog ops Q rest (a.put o.dst (.slice A' (n0 + n) cap')) w') : wpList Tryz.prog ops Q (o :: rest) a w :=
  wpList_plain hgd fun _ hK => wp_append_row E s x ho hs hown hx hrow hA h1 hbytes h63 hB fun A' cap' w' h2 h3 => hK _ _ (h A' cap' w' h2 h3)
set_option maxHeartbeats 8000000 in
theorem copyStepO_any (s : Stp) (A : Option Addr) (c : Nat) (B : Option Addr) (d : Nat) (w : World) (hR : StR w s A c B d) (hz : StSz 1099511627776 s) :
    Calls Tryz.prog 85 #[.agg (stepA s A c B d)] w fun e w' => ∃ A' c' B' d', e = .returned (.agg (stepA s A' c' B' d')) ∧ w'.ownsRow w.heap.size 3 1 (.slice A' s.who.length c') s.who.length (s.who.map iV) ∧ w'.ownsRow w.heap.size 9 1 (.slice B' s.seals.length d') s.seals.length (s.seals.map strV) ∧ Gr w w' := by
  have hwl := hz.who
  have hsl := hz.seals
  have hb1 : (0 + s.who.length) * 8 ≤ 140737488355328 := by omega
  have hb2 : 0 + s.who.length ≤ maxLen := by unfold maxLen; omega
  have hb3 : (0 + s.seals.length) * 16 ≤ 140737488355328 := by omega
  have hb4 : 0 + s.seals.length ≤ maxLen := by unfold maxLen; omega
  obtain ⟨wa, hwa⟩ : ∃ x, x = (w.alloc (.cells (stepA s A c B d) 69)).alloc (.cells #[.string (bs []), .string (bs []), .string (bs []), .slice none 0 0, .slice none 0 0] 69) := ⟨_, rfl⟩
  have hb : Blk wa w.heap.size 69 (stepA s A c B d) := by rw [hwa]; exact (Blk.new w _ _).alloc _
  have hr : Blk wa (w.heap.size + 1) 69 #[.string (bs []), .string (bs []), .string (bs []), .slice none 0 0, .slice none 0 0] := by rw [hwa]; exact Blk.new1 w _ _ _
  have hg0 : Gr w wa := by rw [hwa]; exact ((Gr.refl w).alloc _).alloc _
  obtain ⟨p, hp⟩ : ∃ p, p = w.heap.size := ⟨_, rfl⟩
  rw [← hp] at hb hr
  have hwp : w.heap.size ≤ p := by omega
  have HB := sec hb
  have HRR := sec hr
  have HRW := sec (hR.gr hg0)
  have HSK : Sec (∀ w', Gr wa w' → w'.cell? ⟨p, 3, none⟩ = some (.slice A s.who.length c) ∧ w'.cell? ⟨p, 4, none⟩ = some (.slice B s.seals.length d) ∧ w'.frozen? ⟨p, 3, none⟩ = false ∧ w'.frozen? ⟨p, 4, none⟩ = false) := sec (fun w' g => ⟨(hb.gr g).cell 3, (hb.gr g).cell 4, (hb.gr g).frozen 3, (hb.gr g).frozen 4⟩)
  have HSZ : Sec (∀ w', Gr wa w' → p + 1 < w'.heap.size) := sec (fun w' g => (hr.gr g).lt)
  clear hb hr hR hz
  unfold stepA at hwa
  unfold stepA
  go_enter Tryz.func85, Tryz.ntmps85
  go_upto_region 1 with fail
  rw [← hwa, ← hp]
  clear hwa hp
  have gd : Gr wa wa.drew := (Gr.refl _).drew
  obtain ⟨a0, a1, a2, a3⟩ := HSK.out wa (Gr.refl _)
  go_region_law (first
    | (refine step_append_row E.ints rfl (.const (.slice none 0 0)) (.tmp 4) rfl (B := p + 1 + 1) rfl (World.ownsRow_nil _ _ _ _) rfl (Row.gr HRW.out.who (by first | with_reducible assumption)) HRW.out.wn iV_one hb1 hb2 (HSZ.out _ (by first | with_reducible assumption)) ?_; intro A1 k1 x1 o1 h1; have G1 : Gr wa x1 := Gr.grown (by first | with_reducible assumption) h1 (by rintro k hk; cases hk); obtain ⟨m0, m1, m2, m3⟩ := HSK.out x1 G1)
    | (refine step_append_row E.str rfl (.const (.slice none 0 0)) (.tmp 7) rfl (B := p + 1 + 1) rfl (World.ownsRow_nil _ _ _ _) rfl (Row.gr HRW.out.seals (by first | with_reducible assumption)) HRW.out.sn sV_one hb3 hb4 (HSZ.out _ (by first | with_reducible assumption)) ?_; intro A2 k2 x2 o2 h2; have G2 : Gr wa x2 := Gr.grown (by first | with_reducible assumption) h2 (by rintro k hk; cases hk); obtain ⟨n0, n1, n2, n3⟩ := HSK.out x2 G2))
  all_goals
    rw [Nat.zero_add, List.nil_append] at o1 o2
    have g12 : Gr x1 x2 := Gr.grown (Gr.refl _) h2 (by rintro k hk; cases hk)
    have o3 := own_gr o1 g12
    have f1 : ∀ {e n cap : Nat} {X : Option Addr} {xs : List Value}, x2.ownsRow (p + 1 + 1) e 1 (.slice X n cap) n xs → ((x2.setCell ⟨p, 3, none⟩ (.slice A1 s.who.length k1)).setCell ⟨p, 4, none⟩ (.slice A2 s.seals.length k2)).ownsRow (p + 1 + 1) e 1 (.slice X n cap) n xs := fun h =>
      ownsRow_setCell_other (ownsRow_setCell_other h (a := ⟨p, 3, none⟩) (fun e => by have := (h.lt p e).1; omega) _) (a := ⟨p, 4, none⟩) (fun e => by have := (h.lt p e).1; omega) _
    have q1 := f1 o3
    have q2 := f1 o2
    have BX : Blk ((x2.setCell ⟨p, 3, none⟩ (.slice A1 s.who.length k1)).setCell ⟨p, 4, none⟩ (.slice A2 s.seals.length k2)) p 69 (stepA s A1 k1 A2 k2) := ((HB.out.gr G2).set_ 3 _).set_ 4 _
    have ZX := ((HRR.out.gr G2).far (p := ⟨p, 3, none⟩) (by show p + 1 ≠ p; omega) (.slice A1 s.who.length k1)).far (p := ⟨p, 4, none⟩) (by show p + 1 ≠ p; omega) (.slice A2 s.seals.length k2)
    have GX := ((hg0.trans G2).setCell (p := ⟨p, 3, none⟩) hwp (.slice A1 s.who.length k1)).setCell (p := ⟨p, 4, none⟩) hwp (.slice A2 s.seals.length k2)
    clear m0 m1 m2 m3 n0 n1 n2 n3 a0 a1 a2 a3 f1 o1 o2 o3
    go_wp2_with (first
      | (refine wpList_load_blk rfl 69 (.tmp 1) rfl (g := p) rfl BX aggStep ?_)
      | (refine wpList_store_blk rfl 69 (.tmp 2) (.tmp 11) rfl (g := p + 1) (cs' := stepA s A1 k1 A2 k2) rfl rfl ZX aggStep rfl (stepA_one _ _ _ _ _) ?_; intro w9 h9 hg9))
    refine bodyPost_ret (results_blk rfl _ rfl h9 aggStep) rfl ?_
    exact ⟨A1, k1, A2, k2, rfl, own_lowO (own_only q1 ZX (by decide) hg9) (by omega), own_lowO (own_only q2 ZX (by decide) hg9) (by omega), Gr.only GX hg9 (by omega)⟩
end Go.Proofs.YtoamnifnfkgbiaaGreatDoor

namespace Go.Proofs.YtoamnifnfkgbiaaGreatDoor
set_option maxRecDepth 100000
open Go.RowKit
set_option linter.unusedVariables false
/-- a step and where its two rows lie -/
structure SA where
  s : Stp
  A : Option Addr
  c : Nat
  B : Option Addr
  d : Nat
def stpV (e : SA) : List Value := [.string (bs e.s.r), .string (bs e.s.o), .string (bs e.s.n), .slice e.A e.s.who.length e.c, .slice e.B e.s.seals.length e.d]
theorem E.stp : ElemOk 27 69 (.agg #[.string (bs []), .string (bs []), .string (bs []), .slice none 0 0, .slice none 0 0]) 5 96 := ⟨Tryz.underlying27, by kernel_rfl, rfl, by omega⟩
structure StsR (w : World) (A : Option Addr) (n : Nat) (es : List SA) : Prop where
  row : Row w 5 A n (es.flatMap stpV)
  each : ∀ e ∈ es, StR w e.s e.A e.c e.B e.d
theorem StsR.gr {w w' : World} {A : Option Addr} {n : Nat} {es : List SA} (h : StsR w A n es) (g : Gr w w') : StsR w' A n es := ⟨h.row.gr g, fun e he => (h.each e he).gr g⟩
theorem StsR.len {w : World} {A : Option Addr} {n : Nat} {es : List SA} (h : StsR w A n es) : es.length = n := Row.flen stpV (fun _ => rfl) (by omega) h.row
theorem StsR.cell {w : World} {A : Option Addr} {n : Nat} {es : List SA} (h : StsR w A n es) {i : Nat} (hi : i < es.length) :
    ∃ b off, A = some ⟨b, off, none⟩ ∧ w.cell? ⟨b, off + i * 5, none⟩ = some (.string (bs es[i].s.r)) ∧ w.cell? ⟨b, off + i * 5 + 1, none⟩ = some (.string (bs es[i].s.o)) ∧ w.cell? ⟨b, off + i * 5 + 2, none⟩ = some (.string (bs es[i].s.n)) ∧
      w.cell? ⟨b, off + i * 5 + 3, none⟩ = some (.slice es[i].A es[i].s.who.length es[i].c) ∧ w.cell? ⟨b, off + i * 5 + 4, none⟩ = some (.slice es[i].B es[i].s.seals.length es[i].d) := by
  obtain ⟨b, off, e, _, hc⟩ := Row.fcell stpV (fun _ => rfl) (by omega) h.row hi
  exact ⟨b, off, e, hc 0 _ rfl, hc 1 _ rfl, hc 2 _ rfl, hc 3 _ rfl, hc 4 _ rfl⟩
theorem stpV_one {es : List SA} : ∀ u ∈ es.flatMap stpV, u.oneCell' = true := by
  intro u hu
  obtain ⟨f, _, h⟩ := List.mem_flatMap.1 hu
  simp only [stpV, List.mem_cons, List.not_mem_nil, or_false] at h
  rcases h with rfl | rfl | rfl | rfl | rfl <;> rfl
theorem stpV_one1 (e : SA) : ∀ u ∈ stpV e, u.oneCell' = true := by
  intro u h
  simp only [stpV, List.mem_cons, List.not_mem_nil, or_false] at h
  rcases h with rfl | rfl | rfl | rfl | rfl <;> rfl
theorem row_stp {W : World} {g : Nat} {e : SA} (h : Blk W g 69 (stepA e.s e.A e.c e.B e.d)) : Row W 5 (some ⟨g, 0, none⟩) 1 (stpV e) := by
  refine ⟨rfl, fun _ => ⟨g, 0, rfl, fun i v hi => ?_⟩⟩
  have := h.cell i
  rw [Nat.zero_add, this]
  simpa [stepA, stpV] using hi
theorem own_nil5 {w : World} {k e size n cap : Nat} {A : Option Addr} {xs : List Value} (h : w.ownsRow k e size (.slice A n cap) n xs) : A = none → n = 0 ∧ cap = 0 := by
  intro e
  rcases h.2 with ⟨h, h0⟩ | ⟨g, _, _, h, _⟩
  · injection h with _ h2 h3
    exact ⟨h0, h3⟩
  · injection h with h2 _ _
    rw [e] at h2; cases h2
theorem own_cap5 {w : World} {k e size n cap : Nat} {A : Option Addr} {xs : List Value} (h : w.ownsRow k e size (.slice A n cap) n xs) : n ≤ cap := by
  rcases h.2 with ⟨h, h0⟩ | ⟨g, cap', cur, h, _, _, hle, _⟩
  · omega
  · injection h with _ _ h3
    subst h3
    exact hle
/-- both rows are the call's own -/
structure StO (b : Nat) (w : World) (e : SA) : Prop where
  who : w.ownsRow b 3 1 (.slice e.A e.s.who.length e.c) e.s.who.length (e.s.who.map iV)
  seals : w.ownsRow b 9 1 (.slice e.B e.s.seals.length e.d) e.s.seals.length (e.s.seals.map strV)
theorem StO.str {b : Nat} {w : World} {e : SA} (h : StO b w e) : StR w e.s e.A e.c e.B e.d := ⟨Row.own h.who, Row.own h.seals, own_nil h.who, own_nil h.seals, own_cap h.who, own_cap h.seals⟩
theorem StO.gr {b : Nat} {w w' : World} {e : SA} (h : StO b w e) (g : Gr w w') : StO b w' e := ⟨own_gr h.who g, own_gr h.seals g⟩
theorem StO.app {b k : Nat} {w w' : World} {e : SA} {size n : Nat} {v : Value} {xs : List Value} (h : StO b w e) (ho : w.ownsRow k 69 size v n xs) (g : w.grownBy w' v.ownBlock) : StO b w' e := ⟨own_other h.who ho (by decide) g, own_other h.seals ho (by decide) g⟩
theorem StO.low {b b' : Nat} {w : World} {e : SA} (h : StO b w e) (hb : b' ≤ b) : StO b' w e := ⟨own_lowO h.who hb, own_lowO h.seals hb⟩
/-- the same steps, wherever their rows lie -/
def Sames (es es' : List SA) : Prop := es'.map (·.s) = es.map (·.s)

set_option maxHeartbeats 8000000 in
theorem copyStepsO_any (es : List SA) (A : Option Addr) (c : Nat) (w : World) (hx : StsR w A es.length es) (hn : es.length ≤ 1099511627776) (hz : ∀ e ∈ es, StSz 1099511627776 e.s) :
    Calls Tryz.prog 39 #[.slice A es.length c] w fun e w' => ∃ A' c' es', e = .returned (.slice A' es.length c') ∧ Sames es es' ∧ w'.ownsRow w.heap.size 69 5 (.slice A' es.length c') es.length (es'.flatMap stpV) ∧ (∀ e ∈ es', StO w.heap.size w' e) ∧ Gr w w' := by
  have HX := sec hx
  have HC : Sec (∀ i (h : i < es.length) W, Gr w W → Calls Tryz.prog 85 #[.agg (stepA es[i].s es[i].A es[i].c es[i].B es[i].d)] W fun e w' => ∃ A' c' B' d', e = .returned (.agg (stepA es[i].s A' c' B' d')) ∧ StO w.heap.size w' ⟨es[i].s, A', c', B', d'⟩ ∧ Gr W w') := sec (fun i h W g =>
    (copyStepO_any es[i].s es[i].A es[i].c es[i].B es[i].d W ((hx.each _ (List.getElem_mem h)).gr g) (hz _ (List.getElem_mem h))).mono fun e w'' ⟨A', c', B', d', he, h1, h2, h3⟩ => ⟨A', c', B', d', he, StO.low ⟨h1, h2⟩ g.size, h3⟩)
  obtain ⟨N, hN⟩ : ∃ N, N = es.length := ⟨_, rfl⟩
  have HN := sec hN
  rw [← hN] at hn HX
  rw [← hN]
  clear hx hz hN
  go_enter Tryz.func39, Tryz.ntmps39
  go_wp2_with fail
  go_loopg [8, 3, 5] N (fun fuel iv ov _ wr => ∃ (i : Nat) (A0 : Option Addr) (c0 : Nat) (es' : List SA), iv = .int .i64 (i : Int) ∧ ov = .slice A0 i c0 ∧ N ≤ i + fuel ∧ i ≤ N ∧ Sec (es'.map (·.s) = (es.take i).map (·.s)) ∧
    Sec (wr.ownsRow w.heap.size 69 5 (.slice A0 i c0) i (es'.flatMap stpV)) ∧ Sec (∀ e ∈ es', StO w.heap.size wr e) ∧ Sec (Gr w wr))
  case atStart => exact ⟨0, none, 0, [], rfl, rfl, by omega, by omega, sec rfl, sec (World.ownsRow_nil _ _ _ _), sec (by simp), sec (Gr.refl _)⟩
  case round =>
    obtain ⟨i, A0, c0, es', rfl, rfl, hik, hi, HS, HO, HE, HG⟩ := hrel
    by_cases hlt : i < N
    · have hii : (i : Int) < (N : Int) := by omega
      have hlt' : i < es.length := by rw [← HN.out]; exact hlt
      obtain ⟨b, off, rfl, e0, e1, e2, e3, e4⟩ := (HX.out.gr HG.out).cell hlt'
      obtain ⟨E0, hE0⟩ : ∃ E, E = es[i] := ⟨_, rfl⟩
      have HCi := sec (HC.out i hlt')
      have HN1 : Sec (∀ x : Stp, x = es[i].s → (es'.map (·.s) ++ [x]) = (es.take (i + 1)).map (·.s)) := sec (fun x hx => by rw [List.take_succ_eq_append_getElem hlt', List.map_append, HS.out, hx]; rfl)
      rw [← hE0] at HCi HN1 e0 e1 e2 e3 e4
      clear hE0 hlt'
      obtain ⟨⟨r, o, n, who, seals⟩, A1, c1, B1, d1⟩ := E0
      simp only at e0 e1 e2 e3 e4 HN1
      simp only [stepA] at HCi
      have hbb : (i + 1) * 96 ≤ 140737488355328 := by omega
      have hmm : i + 1 ≤ maxLen := by unfold maxLen; omega
      have hsz : w.heap.size ≤ wr.heap.size := HG.out.size
      have HLT := sec hlt
      clear hlt
      go_wp2_with (first
        | (go_at_call 85; (with_reducible refine Calls.mono (HCi.out _ (HG.out.alloc _)) ?_); rintro e w1 ⟨A', c', B', d', rfl, o1, g1⟩; have G1 := (HG.out.alloc (.cells #[.string (bs r), .string (bs o), .string (bs n), .slice A1 who.length c1, .slice B1 seals.length d1] 69)).trans g1; have HO1 := own_gr HO.out (((Gr.refl wr).alloc (.cells #[.string (bs r), .string (bs o), .string (bs n), .slice A1 who.length c1, .slice B1 seals.length d1] 69)).trans g1); have GG1 := ((Gr.refl wr).alloc (.cells #[.string (bs r), .string (bs o), .string (bs n), .slice A1 who.length c1, .slice B1 seals.length d1] 69)).trans g1)
        | (at_builtin; refine wpList_append_rowO E.stp rfl (.tmp 12) (.tmp 15) rfl (B := w.heap.size) (A0 := A0) (n0 := i) (cap0 := c0) (xs := es'.flatMap stpV) rfl (own_gr HO1 ((Gr.refl _).alloc _)) rfl (row_stp (e := ⟨⟨r, o, n, who, seals⟩, A', c', B', d'⟩) (Blk.new _ _ _)) (fun h => by cases h) (stpV_one1 _) hbb hmm (G1.alloc _).size ?_; intro A2 c2 w2 o2 h2))
      have hal := (Gr.refl w1).alloc (.cells (stepA ⟨r, o, n, who, seals⟩ A' c' B' d') 69)
      have HO2 := own_gr HO1 hal
      go_roundg (gk - 1)
      case rel =>
        refine ⟨i + 1, A2, c2, es' ++ [⟨⟨r, o, n, who, seals⟩, A', c', B', d'⟩], by go_num, rfl, by omega, HLT.out, sec ?_, sec ?_, sec (fun e he => ?_), sec ?_⟩
        · rw [List.map_append]; exact HN1.out _ rfl
        · rw [List.flatMap_append]; simpa using o2
        · rcases List.mem_append.1 he with he | he
          · exact (((HE.out e he).gr GG1).gr hal).app HO2 h2
          · rw [List.mem_singleton] at he; subst he
            exact (o1.gr hal).app HO2 h2
        · exact (G1.trans hal).grown h2 (fun k hk => (HO2.lt k hk).1)
      case measure => have := HLT.out; omega
    · have q1 : decide (i < N) = false := decide_eq_false hlt
      have HI : Sec (i = N) := sec (by omega)
      clear hlt
      go_wp2_with fail
      go_ret
      obtain rfl := HI.out
      have hfin : es'.map (·.s) = es.map (·.s) := by rw [HS.out, HN.out, List.take_length]
      exact ⟨A0, c0, rfl, es', hfin, HO.out, HE.out, HG.out⟩
theorem copySteps_any (es : List SA) (A : Option Addr) (c : Nat) (w : World) (hx : StsR w A es.length es) (hn : es.length ≤ 1099511627776) (hz : ∀ e ∈ es, StSz 1099511627776 e.s) :
    Calls Tryz.prog 39 #[.slice A es.length c] w fun e w' => ∃ A' c' es', e = .returned (.slice A' es.length c') ∧ Sames es es' ∧ StsR w' A' es.length es' ∧ (∀ e ∈ es', StO w.heap.size w' e) ∧ (A' = none → es.length = 0 ∧ c' = 0) ∧ es.length ≤ c' ∧ Gr w w' :=
  (copyStepsO_any es A c w hx hn hz).mono fun e w' ⟨A', c', es', he, h1, h2, h3, h4⟩ => ⟨A', c', es', he, h1, ⟨Row.own h2, fun e he => (h3 e he).str⟩, h3, own_nil5 h2, own_cap5 h2, h4⟩
end Go.Proofs.YtoamnifnfkgbiaaGreatDoor

namespace Go.Proofs.YtoamnifnfkgbiaaGreatDoor
set_option maxRecDepth 100000
open Go.RowKit
set_option linter.unusedVariables false
/-- the three texts, and how many seal -/
def encP (s : Stp) : List UInt8 := txt s.r ++ txt s.o ++ txt s.n ++ numS s.who.length
/-- what a writer holds behind i of those who seal -/
def encT (s : Stp) (i : Nat) : St2 := (encP s ++ whoS (s.who.take i) (s.seals.take i), 0)
theorem encT_len {s : Stp} (h : stE s = 0) (i : Nat) : (encT s i).1.length ≤ 2048 := by
  obtain ⟨_, h1, h2, h3, h4, h5, h6, _, _⟩ := stE_zero h
  have a := txt_len s.r (by omega)
  have b := txt_len s.o (by omega)
  have c := txt_len s.n (by omega)
  have d := whoS_len (s.who.take i) (s.seals.take i) 32 (fun x hx => by rw [h6 x (List.mem_of_mem_take hx)]; omega)
  have e : (numS s.who.length).length ≤ 9 := by rw [numS_nat (by omega)]; exact num_len9 (by omega)
  have f : (s.who.take i).length * (32 + 9) ≤ 8 * (32 + 9) := Nat.mul_le_mul_right _ (by rw [List.length_take]; omega)
  unfold encT encP
  simp only [List.length_append]
  omega
theorem encT_zero (s : Stp) : encT s 0 = (encP s, 0) := by unfold encT; simp [whoS]
theorem encT_succ {s : Stp} (i : Nat) (hi : i < s.who.length) (hs : i < s.seals.length) : encT s (i + 1) = ((encT s i).1 ++ numS s.who[i] ++ s.seals[i], 0) := by
  unfold encT
  rw [whoS_take _ _ i hi hs]
  simp only [List.append_assoc]
theorem encT_end {s : Stp} (h : stE s = 0) : encR s = ((encT s s.who.length).1, 0) := by
  obtain ⟨_, _, _, _, _, h5, _, _, _⟩ := stE_zero h
  unfold encR
  rw [if_pos h]
  unfold encT encP
  rw [List.take_length, List.take_of_length_le (by omega)]
theorem tri_good {s : Stp} (h : stE s = 0) : tri s ([], 0) = (txt s.r ++ txt s.o ++ txt s.n, 0) := by
  obtain ⟨_, h1, h2, h3, _⟩ := stE_zero h
  have yes : ∀ (l t : List UInt8), t.length ≤ 4096 → wTxt t (l, 0) = (l ++ txt t, 0) := fun l t h => by unfold wTxt; rw [if_pos rfl, if_pos h]
  unfold tri
  rw [yes _ _ (by omega), yes _ _ (by omega), yes _ _ (by omega)]
  simp

set_option maxHeartbeats 8000000 in
theorem stEncode_any (s : Stp) (A : Option Addr) (c : Nat) (B : Option Addr) (d : Nat) (w : World) (hR : StR w s A c B d) (hz : StSz 1099511627776 s) :
    Calls Tryz.prog 124 #[.agg (stepA s A c B d)] w fun e w' => e = .returned (.tuple #[.string (bs (encR s).1), .int .i64 (encR s).2]) ∧ Gr w w' := by
  obtain ⟨wa, hwa⟩ : ∃ x, x = w.alloc (.cells (stepA s A c B d) 69) := ⟨_, rfl⟩
  have hb : Blk wa w.heap.size 69 (stepA s A c B d) := by rw [hwa]; exact Blk.new w _ _
  have hg0 : Gr w wa := by rw [hwa]; exact (Gr.refl w).alloc _
  obtain ⟨p, hp⟩ : ∃ p, p = w.heap.size := ⟨_, rfl⟩
  rw [← hp] at hb
  have HGo : Sec (Calls Tryz.prog 80 #[.agg (stepA s A c B d)] wa fun e w' => e = .returned (.int .i64 (stE s)) ∧ Gr wa w') := sec (stGood_any s A c B d wa (hR.gr hg0) hz)
  have HB := sec hb
  have HCELL : Sec (∀ w', Gr wa w' → w'.cell? ⟨p, 0, none⟩ = some (.string (bs s.r)) ∧ w'.cell? ⟨p, 1, none⟩ = some (.string (bs s.o)) ∧ w'.cell? ⟨p, 2, none⟩ = some (.string (bs s.n)) ∧ w'.cell? ⟨p, 3, none⟩ = some (.slice A s.who.length c) ∧ w'.cell? ⟨p, 4, none⟩ = some (.slice B s.seals.length d)) := sec (fun w' g => ⟨(hb.gr g).cell 0, (hb.gr g).cell 1, (hb.gr g).cell 2, (hb.gr g).cell 3, (hb.gr g).cell 4⟩)
  obtain ⟨c0, c1, c2, c3, c4⟩ := HCELL.out wa (Gr.refl _)
  by_cases hE : stE s = 0
  · obtain ⟨_, z1, z2, z3, z4, z5, z6, z7, _⟩ := stE_zero hE
    have HEND := sec (encT_end hE)
    have HLEN := sec (encT_len hE)
    have HSUC := sec (encT_succ (s := s))
    have HZER := sec (encT_zero s)
    rw [hE] at HGo
    have HTL := sec (triAt_len s ([], 0))
    have HTS := sec (triAt_succ s ([], 0))
    have HTR : Sec (triAt s ([], 0) 3 = (txt s.r ++ txt s.o ++ txt s.n, 0)) := sec (tri_good hE)
    have HTx : Sec (∀ B g w i, i < 3 → WrAt w B g (triAt s ([], 0) i) → Calls Tryz.prog 174 #[.pointer (some ⟨g, 0, none⟩), .string (bs (triX s i))] w fun e w' => e = .returned (.tuple #[]) ∧ WrAt w' B g (triAt s ([], 0) (i + 1)) ∧ Below B w w' ∧ KeepT g w w') := sec (fun B g w i hi h => by
      have := wrText B g _ (triX s i) w h (by have := HTL.out i; simp only [List.length_nil] at this; omega)
      rwa [← HTS.out i hi] at this)
    have HNu : Sec (∀ B g w, WrAt w B g (triAt s ([], 0) 3) → Calls Tryz.prog 175 #[.pointer (some ⟨g, 0, none⟩), .int .i64 (s.who.length : Int)] w fun e w' => e = .returned (.tuple #[]) ∧ WrAt w' B g (encT s 0) ∧ Below B w w' ∧ KeepT g w w') := sec (fun B g w h => by
      have := wrNumber B g _ (s.who.length : Int) w h (by have := HTL.out 3; simp only [List.length_nil] at this; omega)
      rw [HTR.out] at this
      have e : wNum (s.who.length : Int) (txt s.r ++ txt s.o ++ txt s.n, 0) = encT s 0 := by
        rw [HZER.out]; unfold wNum encP; rw [if_pos rfl, if_pos ⟨by omega, by omega⟩]
      rwa [e] at this)
    have HN2 : Sec (∀ B g w i (hi : i < s.who.length), WrAt w B g (encT s i) → Calls Tryz.prog 175 #[.pointer (some ⟨g, 0, none⟩), .int .i64 s.who[i]] w fun e w' => e = .returned (.tuple #[]) ∧ WrAt w' B g ((encT s i).1 ++ numS s.who[i], 0) ∧ Below B w w' ∧ KeepT g w w') := sec (fun B g w i hi h => by
      have hw := z7 _ (List.getElem_mem hi)
      have := wrNumber B g _ s.who[i] w h (by have := HLEN.out i; omega)
      have e : wNum s.who[i] (encT s i) = ((encT s i).1 ++ numS s.who[i], 0) := by
        unfold wNum; rw [if_pos (show (encT s i).2 = 0 from rfl), if_pos ⟨by omega, by omega⟩]
      rwa [e] at this)
    have HB2 : Sec (∀ B g w i (hi : i < s.who.length) (hs : i < s.seals.length), WrAt w B g ((encT s i).1 ++ numS s.who[i], 0) → Calls Tryz.prog 176 #[.pointer (some ⟨g, 0, none⟩), .string (bs s.seals[i])] w fun e w' => e = .returned (.tuple #[]) ∧ WrAt w' B g (encT s (i + 1)) ∧ Below B w w' ∧ KeepT g w w') := sec (fun B g w i hi hs h => by
      have hw := z7 _ (List.getElem_mem hi)
      have hn : (numS s.who[i]).length ≤ 9 := by rw [numS_in (by omega) (by omega)]; exact num_len9 (by omega)
      have hs2 := z6 _ (List.getElem_mem hs)
      have := wrBytes B g _ s.seals[i] w h (by simp only [List.length_append]; have := HLEN.out i; omega)
      rw [HSUC.out i hi hs]
      exact this)
    have HDn : Sec (∀ B g w, WrAt w B g (encT s s.who.length) → Calls Tryz.prog 177 #[.pointer (some ⟨g, 0, none⟩)] w fun e w' => e = .returned (.tuple #[.string (bs (encR s).1), .int .i64 (encR s).2]) ∧ Gr w w') := sec (fun B g w h => by
      have := wrDone B g _ w h
      rw [HEND.out]
      exact this)
    have HW0 : Sec (∀ w1 : World, WrAt (w1.alloc (.cells #[.slice none 0 0, .int .i64 0] 197)) w1.heap.size w1.heap.size (triAt s ([], 0) 0)) := sec (fun w1 => ⟨⟨none, 0, Blk.new w1 _ _, World.ownsRow_nil _ _ _ _⟩, Nat.le_refl _, by simp [triAt]⟩)
    have HW := sec (hR.who.gr hg0)
    have HS := sec (hR.seals.gr hg0)
    have HSL := sec z5
    have hwl : s.who.length ≤ 8 := z4
    obtain ⟨E, hEE⟩ : ∃ E, E = encR s := ⟨_, rfl⟩
    rw [← hEE] at HDn
    rw [← hEE]
    obtain ⟨T, hT⟩ : ∃ T, T = triAt s ([], 0) := ⟨_, rfl⟩
    rw [← hT] at HTx HNu HW0
    obtain ⟨U, hU⟩ : ∃ U, U = encT s := ⟨_, rfl⟩
    rw [← hU] at HNu HN2 HB2 HDn
    clear hb hEE hT hU hE hz hR HEND HLEN HSUC HZER HTL HTS HTR z1 z2 z3 z4 z5 z6 z7
    unfold stepA at hwa HGo
    unfold stepA
    go_enter Tryz.func124, Tryz.ntmps124
    go_upto_region 1 with fail
    rw [← hwa, ← hp]
    clear hwa hp
    go_wp2_with (go_at_call 80; refine Calls.mono HGo.out ?_; rintro e w1 ⟨rfl, g1⟩; obtain ⟨d0, d1, d2, d3, d4⟩ := HCELL.out _ (g1.alloc (.cells #[.slice none 0 0, .int .i64 0] 197)))
    have hv := Blk.new (w1.alloc (.cells #[.slice none 0 0, .int .i64 0] 197)) 9 #[.string (bs s.r), .string (bs s.o), .string (bs s.n)]
    rw [World.size_alloc] at hv
    have dv := (HW0.out w1).gr ((Gr.refl _).alloc (.cells #[.string (bs s.r), .string (bs s.o), .string (bs s.n)] 9))
    have gv := (g1.alloc (.cells #[.slice none 0 0, .int .i64 0] 197)).alloc (.cells #[.string (bs s.r), .string (bs s.o), .string (bs s.n)] 9)
    obtain ⟨wb, hwb⟩ : ∃ x, x = (w1.alloc (.cells #[.slice none 0 0, .int .i64 0] 197)).alloc (.cells #[.string (bs s.r), .string (bs s.o), .string (bs s.n)] 9) := ⟨_, rfl⟩
    obtain ⟨g, hgg⟩ : ∃ g, g = w1.heap.size := ⟨_, rfl⟩
    have hgle : wa.heap.size ≤ g := by have := g1.size; omega
    rw [← hwb] at hv dv gv
    rw [← hgg] at hv dv
    rw [← hwb, ← hgg]
    clear hwb hgg d0 d1 d2 d3 d4
    go_loopg [25, 7] 3 (fun fuel iv _ wr => ∃ i : Nat, iv = .int .i64 (i : Int) ∧ 3 ≤ i + fuel ∧ i ≤ 3 ∧ WrAt wr g g (T i) ∧ Blk wr (g + 1) 9 #[.string (bs s.r), .string (bs s.o), .string (bs s.n)] ∧ Gr wa wr)
    case atStart => exact ⟨0, rfl, by omega, by omega, dv, hv, gv⟩
    case round =>
      clear hv dv gv
      obtain ⟨i, rfl, hik, hi, dw, bw, gw⟩ := hrel
      by_cases h3 : i < 3
      · have hTi := HTx.out g g wr i h3 dw
        have hc : wr.cell? ⟨g + 1, i, none⟩ = some (.string (bs (triX s i))) := by
          match i, h3 with
          | 0, _ => exact bw.cell 0
          | 1, _ => exact bw.cell 1
          | 2, _ => exact bw.cell 2
        have HTi := sec hTi
        have hii : (i : Int) < 3 := by omega
        have H3 := sec h3
        clear hTi h3
        go_wp2_with (go_at_call 174; refine Calls.mono HTi.out ?_; rintro e w3 ⟨rfl, d3, k3, kt3⟩)
        go_roundg (gk - 1)
        case rel => exact ⟨i + 1, by go_num, by omega, by have := H3.out; omega, d3, kt3 (g + 1) _ _ (by omega) (by decide) bw, Below.trans gw (Below.mono k3 hgle)⟩
        case measure => have := H3.out; omega
      · obtain rfl : i = 3 := by omega
        clear h3 hik
        obtain ⟨c0, c1, c2, c3, c4⟩ := HCELL.out wr gw
        go_wp2_with (go_at_call 175; refine Calls.mono (HNu.out _ _ _ dw) ?_; rintro e w3 ⟨rfl, d3, k3, _⟩; have g3 : Gr wa w3 := Below.trans gw (Below.mono k3 hgle); obtain ⟨y0, y1, y2, y3, y4⟩ := HCELL.out w3 g3)
        clear dw bw
        go_loopg [41, 8, 9] s.who.length (fun fuel iv _ _ wr => ∃ i : Nat, iv = .int .i64 (i : Int) ∧ s.who.length ≤ i + fuel ∧ i ≤ s.who.length ∧ WrAt wr g g (U i) ∧ Gr wa wr)
        case atStart => exact ⟨0, rfl, by omega, by omega, d3, g3⟩
        case round =>
          clear d3 g3 k3
          obtain ⟨i, rfl, hik, hi, dw, gw⟩ := hrel
          by_cases hlt : i < s.who.length
          · have hss : i < s.seals.length := by have := HSL.out; omega
            have hii : (i : Int) < (s.who.length : Int) := by omega
            have hjj : (i : Int) < (s.seals.length : Int) := by omega
            have H4 := HN2.out g g wr i hlt dw
            have H5 := sec (fun w h => HB2.out g g w i hlt hss h)
            obtain ⟨b, off, hA, e0⟩ := (HW.out.gr gw).cell hlt
            obtain ⟨b2, off2, hB, x0⟩ := (HS.out.gr gw).cell hss
            have HX0 : Sec (∀ W, Gr wa W → W.cell? ⟨p, 4, none⟩ = some (.slice (some ⟨b2, off2, none⟩) s.seals.length d) ∧ W.cell? ⟨b2, off2 + i, none⟩ = some (.string (bs s.seals[i]))) := sec (fun W g => by
              refine ⟨by rw [← hB]; exact (HCELL.out W g).2.2.2.2, ?_⟩
              obtain ⟨b', o', e', h'⟩ := (HS.out.gr g).cell hss
              rw [hB] at e'
              injection e' with e'; injection e' with e3 e4 _
              subst e3 e4
              exact h')
            subst hA
            obtain ⟨mw, hmw⟩ : ∃ x, x = s.who[i] := ⟨_, rfl⟩
            obtain ⟨sl, hslx⟩ : ∃ x, x = s.seals[i] := ⟨_, rfl⟩
            rw [← hmw] at e0 H4 H5
            rw [← hslx] at HX0 H5
            have H4 := sec H4
            have HII := sec hlt
            clear hmw hslx hss hlt x0 hB
            go_wp2_with (first
              | (go_at_call 175; refine Calls.mono H4.out ?_; rintro e w4 ⟨rfl, d4, k4, _⟩; have g4 : Gr wa w4 := Below.trans gw (Below.mono k4 hgle); obtain ⟨v0, v1⟩ := HX0.out w4 g4)
              | (go_at_call 176; refine Calls.mono (H5.out _ d4) ?_; rintro e w5 ⟨rfl, d5, k5, _⟩; have g5 : Gr wa w5 := Below.trans g4 (Below.mono k5 hgle)))
            go_roundg (gk - 1)
            case rel => exact ⟨i + 1, by go_num, by omega, HII.out, d5, g5⟩
            case measure => have := HII.out; omega
          · obtain hE2 : i = s.who.length := by omega
            rw [hE2] at dw
            have hii : ¬ (i : Int) < (s.who.length : Int) := by omega
            have q : decide (i < s.who.length) = false := decide_eq_false hlt
            clear hE2 hlt hik
            go_wp2_with (go_at_call 177; refine Calls.mono (HDn.out _ _ _ dw) ?_; rintro e w6 ⟨rfl, g6⟩)
            go_ret2
            exact ⟨rfl, hg0.trans (gw.trans g6)⟩
  · have HR : Sec (encR s = ([], stE s)) := sec (by unfold encR; rw [if_neg hE])
    rw [HR.out]
    obtain ⟨E, hEE⟩ : ∃ E, E = stE s := ⟨_, rfl⟩
    rw [← hEE] at HGo hE
    rw [← hEE]
    have m0 : (E != 0) = true := by simpa using hE
    clear hEE HR hb
    unfold stepA at hwa HGo
    unfold stepA
    go_enter Tryz.func124, Tryz.ntmps124
    go_upto_region 1 with fail
    rw [← hwa, ← hp]
    clear hwa hp
    go_wp2_with (go_at_call 80; refine Calls.mono HGo.out ?_; rintro e w1 ⟨rfl, g1⟩)
    go_ret2
    exact ⟨rfl, hg0.trans g1⟩
end Go.Proofs.YtoamnifnfkgbiaaGreatDoor

namespace Go.Proofs.YtoamnifnfkgbiaaGreatDoor
set_option maxRecDepth 100000
open Go.RowKit
set_option linter.unusedVariables false
theorem aggHd : AggOk 26 2 := A.head
/-- P11.3: what is wrong with the first that cannot be encoded -/
def lvE : List Stp → Int
  | [] => 0
  | s :: r => if (encR s).2 = 0 then lvE r else (encR s).2
def encL (l : List Stp) : List (List UInt8) := l.map fun s => (encR s).1
def lvR (l : List Stp) : List (List UInt8) × Int := if lvE l = 0 then (encL l, 0) else ([], lvE l)
def ofR (l : List Stp) : Int × List UInt8 × Int := if 200 < l.length then (0, [], 6) else if lvE l = 0 then ((l.length : Int), rootL (encL l), 0) else (0, [], lvE l)
theorem lvE_drop (l : List Stp) (i : Nat) (h : i < l.length) : lvE (l.drop i) = if (encR l[i]).2 = 0 then lvE (l.drop (i + 1)) else (encR l[i]).2 := by
  rw [List.drop_eq_getElem_cons h]
  rfl
theorem encL_take (l : List Stp) (i : Nat) (h : i < l.length) : encL (l.take (i + 1)) = encL (l.take i) ++ [(encR l[i]).1] := by
  unfold encL
  rw [List.take_succ_eq_append_getElem h, List.map_append]
  rfl
theorem encL_len (l : List Stp) : (encL l).length = l.length := by unfold encL; rw [List.length_map]
theorem encL_short (l : List Stp) : ∀ x ∈ encL l, x.length ≤ 1024 := by
  intro x hx
  obtain ⟨s, _, rfl⟩ := List.mem_map.1 hx
  exact encR_len s

theorem sV_addL (G : List (List UInt8)) (x : List UInt8) : G.map strV ++ [Value.string (bs x)] = (G ++ [x]).map strV := by simp [strV]
theorem row1L {W : World} {g : Nat} {T : TypeId} {u : Value} (h : Blk W g T #[u]) : Row W 1 (some ⟨g, 0, none⟩) 1 [u] := by
  refine ⟨by simp, fun _ => ⟨g, 0, rfl, fun i v hi => ?_⟩⟩
  have := h.cell i
  rw [Nat.zero_add, this]
  simpa using hi
set_option maxHeartbeats 8000000 in
theorem leaves_any (es : List SA) (l : List Stp) (A : Option Addr) (c : Nat) (w : World) (hx : StsR w A es.length es) (hl : l = es.map (·.s)) (hn : es.length ≤ 1099511627776) (hz : ∀ e ∈ es, StSz 1099511627776 e.s) :
    Calls Tryz.prog 82 #[.slice A es.length c] w fun e w' => ∃ A' c', e = .returned (.tuple #[.slice A' (lvR l).1.length c', .int .i64 (lvR l).2]) ∧ StrRow w' A' (lvR l).1.length (lvR l).1 ∧ (A' = none → (lvR l).1.length = 0 ∧ c' = 0) ∧ (lvR l).1.length ≤ c' ∧ Gr w w' := by
  have HX := sec hx
  have HC : Sec (∀ i (h : i < es.length) W, Gr w W → Calls Tryz.prog 124 #[.agg (stepA es[i].s es[i].A es[i].c es[i].B es[i].d)] W fun e w' => e = .returned (.tuple #[.string (bs (encR es[i].s).1), .int .i64 (encR es[i].s).2]) ∧ Gr W w') := sec (fun i h W g =>
    stEncode_any es[i].s es[i].A es[i].c es[i].B es[i].d W ((hx.each _ (List.getElem_mem h)).gr g) (hz _ (List.getElem_mem h)))
  have HL : Sec (∀ i (h : i < es.length) (h' : i < l.length), l[i] = es[i].s) := sec (fun i h h' => by subst hl; simp)
  obtain ⟨N, hN⟩ : ∃ N, N = es.length := ⟨_, rfl⟩
  have hlN : l.length = N := by rw [hl, List.length_map, hN]
  have HN := sec hN
  have HLN := sec hlN
  obtain ⟨V, hV⟩ : ∃ V, V = lvR l := ⟨_, rfl⟩
  have HV := sec hV
  rw [← hN] at hn HX
  rw [← hN, ← hV]
  clear hx hz hN hl hlN hV
  go_enter Tryz.func82, Tryz.ntmps82
  go_wp2_with fail
  go_loopg [11, 4, 6, 7, 8] N (fun fuel iv ov _ _ _ wr => ∃ (i : Nat) (A0 : Option Addr) (c0 : Nat), iv = .int .i64 (i : Int) ∧ ov = .slice A0 i c0 ∧ N ≤ i + fuel ∧ i ≤ N ∧
    Sec (wr.ownsRow w.heap.size 9 1 (.slice A0 i c0) i ((encL (l.take i)).map strV)) ∧ Sec (lvE l = lvE (l.drop i)) ∧ Sec (Gr w wr))
  case atStart => exact ⟨0, none, 0, rfl, rfl, by omega, by omega, sec (World.ownsRow_nil _ _ _ _), sec rfl, sec (Gr.refl _)⟩
  case round =>
    obtain ⟨i, A0, c0, rfl, rfl, hik, hi, HO, HE, HG⟩ := hrel
    by_cases hlt : i < N
    · have hii : (i : Int) < (N : Int) := by omega
      have hlt' : i < es.length := by rw [← HN.out]; exact hlt
      have hltl : i < l.length := by rw [HLN.out]; exact hlt
      obtain ⟨b, off, rfl, e0, e1, e2, e3, e4⟩ := (HX.out.gr HG.out).cell hlt'
      have HCi := sec (HC.out i hlt')
      have HDR := sec (lvE_drop l i hltl)
      have HTK := sec (encL_take l i hltl)
      have hli := HL.out i hlt' hltl
      rw [hli] at HDR HTK
      obtain ⟨E0, hE0⟩ : ∃ E, E = es[i] := ⟨_, rfl⟩
      rw [← hE0] at HCi HDR HTK e0 e1 e2 e3 e4
      clear hE0 hlt' hltl hli
      obtain ⟨s0, A1, c1, B1, d1⟩ := E0
      simp only at e0 e1 e2 e3 e4 HDR HTK HCi
      obtain ⟨x, hx⟩ : ∃ x, x = (encR s0).1 := ⟨_, rfl⟩
      obtain ⟨y, hy⟩ : ∃ y, y = (encR s0).2 := ⟨_, rfl⟩
      rw [← hx] at HCi HTK
      rw [← hy] at HCi HDR
      obtain ⟨r, o, n, who, seals⟩ := s0
      simp only [stepA] at HCi
      simp only at e0 e1 e2 e3 e4
      have hbb : (i + 1) * 16 ≤ 140737488355328 := by omega
      have hmm : i + 1 ≤ maxLen := by unfold maxLen; omega
      have HLT := sec hlt
      clear hlt hx hy
      by_cases hy0 : y = 0
      · subst hy0
        have HE1 : Sec (lvE l = lvE (l.drop (i + 1))) := sec (by rw [HE.out, HDR.out, if_pos rfl])
        go_wp2_with (first
          | (go_at_call 124; (with_reducible refine Calls.mono (HCi.out _ (HG.out.alloc _)) ?_); rintro e w1 ⟨rfl, g1⟩; have GG1 := ((Gr.refl wr).alloc (.cells #[.string (bs r), .string (bs o), .string (bs n), .slice A1 who.length c1, .slice B1 seals.length d1] 69)).trans g1; have G1 := HG.out.trans GG1; have HO1 := own_gr HO.out GG1)
          | (at_builtin; refine wpList_append_rowO E.str rfl (.tmp 23) (.tmp 25) rfl (B := w.heap.size) (A0 := A0) (n0 := i) (cap0 := c0) (xs := (encL (l.take i)).map strV) rfl (own_gr HO1 ((Gr.refl _).alloc _)) rfl (row1L (T := 9) (u := .string (bs x)) (Blk.new _ _ _)) (fun h => by cases h) (fun u hu => by simp at hu; subst hu; rfl) hbb hmm (G1.alloc _).size ?_; intro A2 c2 w2 o2 h2))
        have hal := (Gr.refl w1).alloc (.cells #[.string (bs x)] 9)
        have HO2 := own_gr HO1 hal
        go_roundg (gk - 1)
        case rel =>
          refine ⟨i + 1, A2, c2, by go_num, rfl, by omega, HLT.out, sec ?_, HE1, sec ?_⟩
          · rw [HTK.out, ← sV_addL]; exact o2
          · exact (G1.trans hal).grown h2 (fun k hk => (HO2.lt k hk).1)
        case measure => have := HLT.out; omega
      · have hyb : (y != 0) = true := by rw [bne_iff_ne]; exact hy0
        have HVV : Sec (V = ([], y)) := sec (by
          have h : lvE l = y := by rw [HE.out, HDR.out, if_neg hy0]
          rw [HV.out]
          unfold lvR
          rw [h, if_neg hy0])
        clear hy0
        go_wp2_with (first
          | (go_at_call 124; (with_reducible refine Calls.mono (HCi.out _ (HG.out.alloc _)) ?_); rintro e w1 ⟨rfl, g1⟩; have G1 := (HG.out.alloc (.cells #[.string (bs r), .string (bs o), .string (bs n), .slice A1 who.length c1, .slice B1 seals.length d1] 69)).trans g1))
        go_ret2
        rw [HVV.out]
        exact ⟨none, 0, rfl, Row.nil _ 1 none, fun _ => ⟨rfl, rfl⟩, Nat.le_refl _, G1⟩
    · have q1 : decide (i < N) = false := decide_eq_false hlt
      have HI : Sec (i = N) := sec (by omega)
      clear hlt
      go_wp2_with fail
      go_ret2
      obtain rfl := HI.out
      have h0 : lvE l = 0 := by rw [HE.out, List.drop_eq_nil_of_le (by rw [HLN.out]; exact Nat.le_refl _)]; rfl
      have hV2 : V = (encL l, 0) := by rw [HV.out]; unfold lvR; rw [if_pos h0]
      have ho := HO.out
      rw [List.take_of_length_le (by rw [HLN.out]; exact Nat.le_refl _)] at ho
      rw [hV2]
      have hle : (encL l).length = i := by rw [encL_len]; exact HLN.out
      simp only [hle]
      exact ⟨A0, c0, rfl, Row.own ho, own_nil5 ho, own_cap5 ho, HG.out⟩

set_option maxHeartbeats 8000000 in
theorem of_any (es : List SA) (l : List Stp) (A : Option Addr) (c : Nat) (w : World) (hx : StsR w A es.length es) (hl : l = es.map (·.s)) (hn : es.length ≤ 1099511627776) (hz : ∀ e ∈ es, StSz 1099511627776 e.s) (hT : TabK w) :
    Calls Tryz.prog 37 #[.slice A es.length c] w fun e w' => e = .returned (.tuple #[.agg (headC (ofR l).1 (ofR l).2.1), .int .i64 (ofR l).2.2]) ∧ Gr w w' := by
  have HLv : Sec (∀ W, Gr w W → Calls Tryz.prog 82 #[.slice A es.length c] W fun e w' => ∃ A' c', e = .returned (.tuple #[.slice A' (lvR l).1.length c', .int .i64 (lvR l).2]) ∧ StrRow w' A' (lvR l).1.length (lvR l).1 ∧ (A' = none → (lvR l).1.length = 0 ∧ c' = 0) ∧ (lvR l).1.length ≤ c' ∧ Gr W w') := sec (fun W g => leaves_any es l A c W (hx.gr g) hl hn hz)
  have HRo : Sec (∀ L A1 c1 W, L = encL l → StrRow W A1 L.length L → L.length ≤ c1 → Gr w W → Calls Tryz.prog 78 #[.slice A1 L.length c1] W fun e w' => e = .returned (.string (bs (rootL L))) ∧ Gr W w') := sec (fun L A1 c1 W hL h hc g => by
    have hT' := hT.gr g
    have hsh : Short L := fun x hx => by have := encL_short l x (by rw [← hL]; exact hx); omega
    have hLl : L.length ≤ 1099511627776 := by rw [hL, encL_len, hl, List.length_map]; exact hn
    exact root_any L.length L A1 L.length c1 W (Nat.le_refl _) hLl hc h hsh hT')
  have hlN : l.length = es.length := by rw [hl, List.length_map]
  obtain ⟨N, hN⟩ : ∃ N, N = es.length := ⟨_, rfl⟩
  rw [← hN] at hlN HLv hn
  rw [← hN]
  obtain ⟨V, hV⟩ : ∃ V, V = ofR l := ⟨_, rfl⟩
  rw [← hV]
  have HV : Sec (V = if 200 < N then (0, [], 6) else if lvE l = 0 then ((N : Int), rootL (encL l), 0) else (0, [], lvE l)) := sec (by rw [hV]; unfold ofR; rw [hlN])
  have HB := Blk.new w 26 #[.int .i64 0, .string (bs [])]
  have hg0 := (Gr.refl w).alloc (.cells #[.int .i64 0, .string (bs [])] 26)
  obtain ⟨wa, hwa⟩ : ∃ y, y = w.alloc (.cells #[.int .i64 0, .string (bs [])] 26) := ⟨_, rfl⟩
  obtain ⟨p, hp⟩ : ∃ p, p = w.heap.size := ⟨_, rfl⟩
  rw [← hwa] at HB hg0
  rw [← hp] at HB
  have hwp : w.heap.size ≤ p := by omega
  have HBB := sec HB
  clear HB hV hN hlN hx hl hz hT
  unfold headC
  have HSK : Sec (∀ W, Gr wa W → W.cell? ⟨p, 0, none⟩ = some (.int .i64 0) ∧ W.cell? ⟨p, 1, none⟩ = some (.string (bs [])) ∧ W.frozen? ⟨p, 0, none⟩ = false ∧ W.frozen? ⟨p, 1, none⟩ = false) := sec (fun W g => ⟨(HBB.out.gr g).cell 0, (HBB.out.gr g).cell 1, (HBB.out.gr g).frozen 0, (HBB.out.gr g).frozen 1⟩)
  obtain ⟨u0, u1, u2, u3⟩ := HSK.out wa (Gr.refl _)
  by_cases h200 : 200 < N
  · have hi2 : (200 : Int) < (N : Int) := by omega
    have HR : Sec (V = (0, [], 6)) := sec (by rw [HV.out, if_pos h200])
    clear HV h200
    go_enter Tryz.func37, Tryz.ntmps37
    go_upto_region 1 with fail
    rw [← hwa, ← hp]
    clear hwa hp
    go_wp2_with fail
    refine bodyPost_ret (results_blk_tmp rfl _ rfl ((HBB.out.set_ 0 (.int .i64 0)).set_ 1 (.string (bs []))) aggHd) rfl ?_
    rw [HR.out]
    exact ⟨rfl, (hg0.setCell (p := ⟨p, 0, none⟩) hwp _).setCell (p := ⟨p, 1, none⟩) hwp _⟩
  · have hi2 : ¬ (200 : Int) < (N : Int) := by omega
    have HV2 : Sec (V = if lvE l = 0 then ((N : Int), rootL (encL l), 0) else (0, [], lvE l)) := sec (by rw [HV.out, if_neg h200])
    have hi3 : N ≤ 200 := by omega
    clear h200 HV
    unfold lvR at HLv
    obtain ⟨y, hy⟩ : ∃ y, y = lvE l := ⟨_, rfl⟩
    rw [← hy] at HLv HV2
    obtain ⟨L, hL⟩ : ∃ L, L = encL l := ⟨_, rfl⟩
    rw [← hL] at HLv HV2
    have HLL := sec hL
    clear hL hy
    by_cases hy0 : y = 0
    · subst hy0
      have HR : Sec (V = ((N : Int), rootL L, 0)) := sec (by rw [HV2.out, if_pos rfl])
      simp only [if_true] at HLv
      have HRoL := sec (fun A1 c1 W h1 h2 h3 => HRo.out L A1 c1 W HLL.out h1 h2 h3)
      obtain ⟨T, hTT⟩ : ∃ T, T = rootL L := ⟨_, rfl⟩
      rw [← hTT] at HR HRoL
      clear HRo HV2 hTT
      go_enter Tryz.func37, Tryz.ntmps37
      go_upto_region 1 with fail
      rw [← hwa, ← hp]
      clear hwa hp
      go_wp2_with (first
        | (go_at_call 82; (with_reducible refine Calls.mono (HLv.out _ hg0) ?_); rintro e w1 ⟨A1, c1, rfl, r1, n1, k1, g1⟩; have G1 := hg0.trans g1; obtain ⟨v0, v1, v2, v3⟩ := HSK.out w1 g1)
        | (go_at_call 78; (with_reducible refine Calls.mono (HRoL.out A1 c1 _ r1 k1 G1) ?_); rintro e w2 ⟨rfl, g2⟩; have g12 := g1.trans g2; have G2 := G1.trans g2; obtain ⟨z0, z1, z2, z3⟩ := HSK.out w2 g12))
      refine bodyPost_ret (results_blk_tmp rfl _ rfl (((HBB.out.gr g12).set_ 0 (.int .i64 (N : Int))).set_ 1 (.string (bs T))) aggHd) rfl ?_
      rw [HR.out]
      exact ⟨rfl, (G2.setCell (p := ⟨p, 0, none⟩) hwp _).setCell (p := ⟨p, 1, none⟩) hwp _⟩
    · have HR : Sec (V = (0, [], y)) := sec (by rw [HV2.out, if_neg hy0])
      have m0 : (y != 0) = true := by rw [bne_iff_ne]; exact hy0
      simp only [if_neg hy0] at HLv
      clear HRo HV2 hy0
      go_enter Tryz.func37, Tryz.ntmps37
      go_upto_region 1 with fail
      rw [← hwa, ← hp]
      clear hwa hp
      go_wp2_with (first
        | (go_at_call 82; (with_reducible refine Calls.mono (HLv.out _ hg0) ?_); rintro e w1 ⟨A1, c1, rfl, r1, n1, k1, g1⟩; have G1 := hg0.trans g1; obtain ⟨v0, v1, v2, v3⟩ := HSK.out w1 g1))
      refine bodyPost_ret (results_blk_tmp rfl _ rfl (((HBB.out.gr g1).set_ 0 (.int .i64 0)).set_ 1 (.string (bs []))) aggHd) rfl ?_
      rw [HR.out]
      exact ⟨rfl, (G1.setCell (p := ⟨p, 0, none⟩) hwp _).setCell (p := ⟨p, 1, none⟩) hwp _⟩
end Go.Proofs.YtoamnifnfkgbiaaGreatDoor

namespace Go.Proofs.YtoamnifnfkgbiaaGreatDoor
set_option maxRecDepth 100000
open Go.RowKit
set_option linter.unusedVariables false
/-- from place i on, with these refs -/
def rpGo (ss : List (List UInt8)) (need : Int) : Nat → List Stp → List Rf → List Rf × Int × Int
  | _, [], fs => (fs, 0, 0)
  | i, s :: r, fs =>
    if stCk ss need i s = 0 then (if (setR fs s.r s.o s.n).2 = 0 then rpGo ss need (i + 1) r (setR fs s.r s.o s.n).1 else ([], (i : Int), (setR fs s.r s.o s.n).2)) else ([], (i : Int), stCk ss need i s)
def rpR (ss : List (List UInt8)) (need : Int) (l : List Stp) : List Rf × Int × Int := if 200 < l.length then ([], 0, 6) else rpGo ss need 0 l []
theorem rpGo_at (ss : List (List UInt8)) (need : Int) (l : List Stp) (i : Nat) (h : i < l.length) (fs : List Rf) :
    rpGo ss need i (l.drop i) fs = if stCk ss need i l[i] = 0 then (if (setR fs l[i].r l[i].o l[i].n).2 = 0 then rpGo ss need (i + 1) (l.drop (i + 1)) (setR fs l[i].r l[i].o l[i].n).1 else ([], (i : Int), (setR fs l[i].r l[i].o l[i].n).2)) else ([], (i : Int), stCk ss need i l[i]) := by
  rw [List.drop_eq_getElem_cons h]
  rfl
/-- no list is longer, no part greater than before by more than what came -/
structure RfSz (k : Nat) (fs : List Rf) : Prop where
  each : ∀ f ∈ fs, f.1.length ≤ k ∧ f.2.length ≤ k
theorem setR_sz {k : Nat} {fs : List Rf} {name old id : List UInt8} (h : RfSz k fs) (hn : name.length ≤ k) (hi : id.length ≤ k) : RfSz k (setR fs name old id).1 ∧ (setR fs name old id).1.length ≤ fs.length + 1 := by
  have hz : RfSz k [] ∧ ([] : List Rf).length ≤ fs.length + 1 := ⟨⟨by simp⟩, by simp⟩
  unfold setR
  split
  · split
    · split
      · split
        · split
          · refine ⟨⟨fun f hf => h.each f (List.mem_of_mem_eraseIdx hf)⟩, ?_⟩
            have := List.length_eraseIdx_le fs (lbR name fs)
            simp only; omega
          · refine ⟨⟨fun f hf => ?_⟩, by simp⟩
            rcases List.mem_or_eq_of_mem_set hf with hf | rfl
            · exact h.each f hf
            · exact ⟨hn, hi⟩
        · split
          · exact ⟨h, by simp⟩
          · split
            · exact hz
            · refine ⟨⟨fun f hf => ?_⟩, ?_⟩
              · simp only [insR] at hf
                rcases List.mem_append.1 hf with hf | hf
                · exact h.each f (List.mem_of_mem_take hf)
                · rcases List.mem_cons.1 hf with rfl | hf
                  · exact ⟨hn, hi⟩
                  · exact h.each f (List.mem_of_mem_drop hf)
              · simp only [insR, List.length_append, List.length_take, List.length_cons, List.length_drop]
                omega
      · exact hz
    · exact hz
  · exact hz
theorem setR_len (fs : List Rf) (name old id : List UInt8) : (setR fs name old id).1.length ≤ fs.length + 1 := by
  unfold setR
  split
  · split
    · split
      · split
        · split
          · have := List.length_eraseIdx_le fs (lbR name fs)
            simp only; omega
          · simp
        · split
          · simp
          · split
            · simp
            · simp only [insR, List.length_append, List.length_take, List.length_cons, List.length_drop]
              omega
      · simp
    · simp
  · simp
theorem rpGo_len (ss : List (List UInt8)) (need : Int) : ∀ (l : List Stp) (i : Nat) (fs : List Rf), (rpGo ss need i l fs).1.length ≤ fs.length + l.length
  | [], i, fs => by simp [rpGo]
  | s :: r, i, fs => by
    rw [rpGo]
    split
    · split
      · have h1 := rpGo_len ss need r (i + 1) (setR fs s.r s.o s.n).1
        have h2 := setR_len fs s.r s.o s.n
        simp only [List.length_cons]; omega
      · simp
    · simp
theorem rpR_len (ss : List (List UInt8)) (need : Int) (l : List Stp) : (rpR ss need l).1.length ≤ 200 := by
  unfold rpR
  split
  · simp
  · have := rpGo_len ss need l 0 []
    simp only [List.length_nil] at this
    omega
end Go.Proofs.YtoamnifnfkgbiaaGreatDoor

namespace Go.Proofs.YtoamnifnfkgbiaaGreatDoor
set_option maxRecDepth 100000
open Go.RowKit
set_option linter.unusedVariables false

/-- 'trust' -/
def trustN : List UInt8 := [116, 114, 117, 115, 116]
/-- steps read one by one; none: one of them is none -/
def rdL : Nat → St → List Stp → Option (List Stp × St)
  | 0, q, l => some (l, q)
  | k + 1, q, l => if q.1.length = 0 ∨ q.2 ≠ 0 then some (l, q) else if (dcR (nxtT q)).2 = 0 then rdL k (aftT q) (l ++ [(dcR (nxtT q)).1]) else none
theorem rdL_stop {k : Nat} {q : St} {l : List Stp} (h : q.1.length = 0 ∨ q.2 ≠ 0) : rdL k q l = some (l, q) := by
  cases k with
  | zero => rfl
  | succ k => rw [rdL, if_pos h]
theorem rdL_bad {k : Nat} {q : St} {l : List Stp} (h : ¬ (q.1.length = 0 ∨ q.2 ≠ 0)) (h2 : (dcR (nxtT q)).2 ≠ 0) : rdL (k + 1) q l = none := by rw [rdL, if_neg h, if_neg h2]
theorem rdL_more {k : Nat} {q : St} {l : List Stp} (h : ¬ (q.1.length = 0 ∨ q.2 ≠ 0)) (h2 : (dcR (nxtT q)).2 = 0) : rdL (k + 1) q l = rdL k (aftT q) (l ++ [(dcR (nxtT q)).1]) := by rw [rdL, if_neg h, if_pos h2]
theorem dcR_nil : (dcR []).2 ≠ 0 := by decide
/-- a text that is a step takes something -/
theorem aftT_lt {q : St} (h2 : (dcR (nxtT q)).2 = 0) : q.2 = 0 → (aftT q).1.length < q.1.length ∧ (aftT q).2 = 0 := by
  intro h0
  have hne : nxtT q ≠ [] := fun e => by rw [e] at h2; exact dcR_nil h2
  unfold nxtT at hne
  rw [if_pos h0] at hne
  unfold aftT
  rw [if_pos h0]
  by_cases ht : tOk q.1
  · obtain ⟨h1, h3, h4⟩ := t_ok ht
    have hle := tK_le q.1
    have hk : 0 < tK q.1 := by
      rcases Nat.eq_zero_or_pos (tK q.1) with e | e
      · rw [h3] at e
        rw [h1] at hne
        exact absurd (by
          unfold sub
          rw [show gK q.1 + gN q.1 = gK q.1 by omega]
          simp) hne
      · exact e
    refine ⟨?_, h4⟩
    simp only [List.length_drop]
    omega
  · exact absurd (t_no ht).1 hne
/-- what a rising comes to: the client as it was; a fresh one on its disk; one of the disk's log -/
inductive RiseR
  | same (e : Int)
  | fresh (gs : List Fl) (u : Int)
  | full (gs : List Fl) (u : Int) (sz : Int) (rt : List UInt8) (l : List Stp) (rs : List Rf)
theorem dcR_szR (b : List UInt8) : StSz 1099511627776 (dcR b).1 := by
  have hz : StSz 1099511627776 stpZ := ⟨by simp [stpZ], by simp [stpZ], by simp [stpZ], by simp [stpZ], by simp [stpZ], by simp [stpZ]⟩
  unfold dcR
  split
  · split
    · rename_i h
      obtain ⟨_, h1, h2, h3, h4, h5, h6, _, _⟩ := stE_zero h
      exact ⟨by simp only; omega, by simp only; omega, by simp only; omega, by simp only; omega, by simp only; omega, fun x hx => by rw [h6 x hx]; omega⟩
    · exact hz
  · exact hz
/-- what comes of the steps read, and of the reader behind them -/
def riseC (gs : List Fl) (u : Int) (ss : List (List UInt8)) (need sz : Int) (rt : List UInt8) : Option (List Stp × St) → RiseR
  | none => .same 2
  | some (l, q) =>
    if q.2 = 0 ∧ (ofR l).2.2 = 0 ∧ (ofR l).1 = sz ∧ (ofR l).2.1 = rt then
      (if (rpR ss need l).2.2 = 0 then .full gs u sz rt l (rpR ss need l).1 else .same (rpR ss need l).2.2)
    else .same 2
def riseB (gs : List Fl) (u : Int) (ss : List (List UInt8)) (need : Int) (b : List UInt8) : RiseR :=
  riseC gs u ss need (nxtN (b, 0)) (nxtB 32 (aftN (b, 0))) (rdL ((aftB 32 (aftN (b, 0))).1.length + 1) (aftB 32 (aftN (b, 0))) [])
/-- V is what comes of the steps l that were read and of what is left -/
def RdK (f : Option (List Stp × St) → RiseR) (V : RiseR) (q : St) (l : List Stp) : Prop := ∃ k, q.1.length < k ∧ V = f (rdL k q l)
theorem RdK.stop {f : Option (List Stp × St) → RiseR} {V : RiseR} {q : St} {l : List Stp} (h : RdK f V q l) (hs : q.1.length = 0 ∨ q.2 ≠ 0) : V = f (some (l, q)) := by
  obtain ⟨k, _, h⟩ := h
  rw [h, rdL_stop hs]
theorem RdK.bad {f : Option (List Stp × St) → RiseR} {V : RiseR} {q : St} {l : List Stp} (h : RdK f V q l) (hs : ¬ (q.1.length = 0 ∨ q.2 ≠ 0)) (h2 : (dcR (nxtT q)).2 ≠ 0) : V = f none := by
  obtain ⟨k, hk, h⟩ := h
  obtain ⟨k, rfl⟩ : ∃ j, k = j + 1 := ⟨k - 1, by omega⟩
  rw [h, rdL_bad hs h2]
theorem RdK.more {f : Option (List Stp × St) → RiseR} {V : RiseR} {q : St} {l : List Stp} (h : RdK f V q l) (hs : ¬ (q.1.length = 0 ∨ q.2 ≠ 0)) (h2 : (dcR (nxtT q)).2 = 0) : RdK f V (aftT q) (l ++ [(dcR (nxtT q)).1]) := by
  obtain ⟨k, hk, h⟩ := h
  obtain ⟨k, rfl⟩ : ∃ j, k = j + 1 := ⟨k - 1, by omega⟩
  refine ⟨k, ?_, by rw [h, rdL_more hs h2]⟩
  have := aftT_lt h2 (by by_cases h0 : q.2 = 0; exact h0; exact absurd (Or.inr h0) hs)
  omega
def riseR (fs : List Fl) (f keep : Int) (ss : List (List UInt8)) (need : Int) : RiseR :=
  if (crashR fs f keep).2.2 = 0 then
    (if (chk (crashR fs f keep).1 trustN).2 = 7 then .fresh (crashR fs f keep).1 (crashR fs f keep).2.1
     else if (chk (crashR fs f keep).1 trustN).2 = 0 then riseB (crashR fs f keep).1 (crashR fs f keep).2.1 ss need (chk (crashR fs f keep).1 trustN).1
     else .same (chk (crashR fs f keep).1 trustN).2)
  else .same (crashR fs f keep).2.2
end Go.Proofs.YtoamnifnfkgbiaaGreatDoor

namespace Go.Proofs.YtoamnifnfkgbiaaGreatDoor
set_option maxRecDepth 100000
open Go.RowKit Go.ChangeShapes Go.WideShapes
set_option linter.unusedVariables false
def szI (_ : Int) : Nat := 1
structure IntsIn (w : World) (A : Option Addr) (c : Nat) (l : List Int) : Prop where
  row : IntRow w A l.length l
  len : l.length ≤ 1048576
  cap : l.length ≤ c
  nil : A = none → l.length = 0 ∧ c = 0
theorem ints_in {w : World} {A : Option Addr} {c : Nat} {l : List Int} (hR : sliceR w 1 intR [.slice A l.length c] l) (hb : szs szI l ≤ 1048576) : IntsIn w A c l := by
  obtain ⟨A', c', e', h1, h2, hrow⟩ := sliceR_row (k := 1) (fun n => [iV n]) (fun _ => rfl) (by omega) (fun ci x h => h.1) hR
  simp only [List.cons.injEq, and_true, Value.slice.injEq, true_and] at e'
  obtain ⟨rfl, rfl⟩ := e'
  obtain ⟨A2, c2, e2, _, h3, _⟩ := hR
  simp only [List.cons.injEq, and_true, Value.slice.injEq, true_and] at e2
  obtain ⟨rfl, rfl⟩ := e2
  have hl := szs_len szI (fun x => Nat.le_refl 1) l
  rw [flat_single] at hrow
  refine ⟨hrow, by omega, h1, fun h => ?_⟩
  have := h3.2 h
  omega
structure StepIn (w : World) (s : Stp) (A : Option Addr) (c : Nat) (B : Option Addr) (d : Nat) : Prop where
  row : StR w s A c B d
  size : StSz 1048576 s
theorem StSz.up {k k' : Nat} {s : Stp} (h : StSz k s) (hk : k ≤ k') : StSz k' s := ⟨Nat.le_trans h.r hk, Nat.le_trans h.o hk, Nat.le_trans h.n hk, Nat.le_trans h.who hk, Nat.le_trans h.seals hk, fun x hx => Nat.le_trans (h.each x hx) hk⟩
def szStp (s : Stp) : Nat := s.r.length + s.o.length + s.n.length + szs szI s.who + szs szStr s.seals
theorem opens_step (w : World) : Opens w 69 5 (fun cs (s : Stp) => ∃ A c B d, cs = (stepA s A c B d).toList ∧ sliceR w 1 intR [.slice A s.who.length c] s.who ∧ sliceR w 1 strR [.slice B s.seals.length d] s.seals) szStp :=
  (opens_struct Tryz.underlying69 (by kernel_rfl) (opensF_cons rfl (opens_string Tryz.underlying9 (by kernel_rfl) w) (opensF_cons rfl (opens_string Tryz.underlying9 (by kernel_rfl) w) (opensF_cons rfl (opens_string Tryz.underlying9 (by kernel_rfl) w)
    (opensF_cons rfl (opens_slice Tryz.underlying67 (by kernel_rfl) (opens_int Tryz.underlying3 (by kernel_rfl) w) (by omega)) (opensF_cons rfl (opens_slice Tryz.underlying31 (by kernel_rfl) (opens_string Tryz.underlying9 (by kernel_rfl) w) (by omega)) (opensF_nil w 5))))))).map
    (fun a => ⟨a.1, a.2.1, a.2.2.1, a.2.2.2.1, a.2.2.2.2.1⟩) (by
      rintro cs ⟨r, o, n, who, seals, _⟩ ⟨c1, c2, rfl, _, h1, d1, d2, rfl, _, h2, e1, e2, rfl, _, h3, f1, f2, rfl, _, h4, g1, g2, rfl, _, h5, h6⟩
      have h4' := h4
      have h5' := h5
      obtain ⟨A, c, hc, _⟩ := h4
      obtain ⟨B, d, hd, _⟩ := h5
      simp only [strR] at h1 h2 h3
      simp only at hc hd
      subst hc
      subst hd
      subst h1
      subst h2
      subst h3
      simp only [nilR] at h6
      subst h6
      exact ⟨A, c, B, d, rfl, h4', h5'⟩) (by intro a; simp only [szStp]; unfold szStr szI; omega)
theorem step_in {w : World} {s : Stp} {A : Option Addr} {c : Nat} {B : Option Addr} {d : Nat} (h1 : sliceR w 1 intR [.slice A s.who.length c] s.who) (h2 : sliceR w 1 strR [.slice B s.seals.length d] s.seals) (hs : szStp s ≤ 1048576) : StepIn w s A c B d := by
  unfold szStp at hs
  have a := ints_in h1 (by omega)
  have b := strs_in h2 (by omega)
  exact ⟨⟨a.row, b.row, a.nil, b.nil, a.cap, b.cap⟩, ⟨by omega, by omega, by omega, a.len, b.len, b.size⟩⟩
theorem open_step {w : World} {r : Reach} {base : Nat} {H : Type} {enc : TypeId × Value → H} {v : Value} {d : DataW H} {p : List MemPlace}
    (hv : Value.okWide Tryz.prog w r base 69 v) (hd : DataW.Trod enc Tryz.prog w 0 (fun _ => true) true 69 v d p) (hb : Rows.uptoBulk d ≤ 1048576) :
    ∃ s A c B e, v = .agg (stepA s A c B e) ∧ StepIn w s A c B e := by
  obtain ⟨cs, s, rfl, ⟨A, c, B, e, hc, h1, h2⟩, hs⟩ := open_structD_arg Tryz.underlying69 (opens_step w) hv hd
  refine ⟨s, A, c, B, e, ?_, step_in h1 h2 (by omega)⟩
  congr 1
  exact Array.toList_inj.1 hc
end Go.Proofs.YtoamnifnfkgbiaaGreatDoor

namespace Go.Proofs.YtoamnifnfkgbiaaGreatDoor
set_option maxRecDepth 100000
open Go.RowKit Go.ChangeShapes Go.WideShapes
set_option linter.unusedVariables false
def stpR (w : World) (cs : List Value) (s : Stp) : Prop := ∃ A c B d, cs = (stepA s A c B d).toList ∧ sliceR w 1 intR [.slice A s.who.length c] s.who ∧ sliceR w 1 strR [.slice B s.seals.length d] s.seals
theorem stps_sliceR {w : World} {cs : List Value} {xs : List Stp} (h : sliceR w 5 (stpR w) cs xs) :
    ∃ es : List SA, es.map (·.s) = xs ∧ sliceR w 5 (fun cs e => cs = stpV e) cs es ∧ ∀ e ∈ es, sliceR w 1 intR [.slice e.A e.s.who.length e.c] e.s.who ∧ sliceR w 1 strR [.slice e.B e.s.seals.length e.d] e.s.seals := by
  obtain ⟨A, c, hcs, h1, h2, hat⟩ := h
  by_cases hn : 0 < xs.length
  · obtain ⟨b, off, e, hel⟩ := hat hn
    obtain ⟨es, hlen, hes⟩ := build_list (fun i (e : SA) => ∃ h : i < xs.length, e.s = xs[i] ∧ (sliceR w 1 intR [.slice e.A e.s.who.length e.c] e.s.who ∧ sliceR w 1 strR [.slice e.B e.s.seals.length e.d] e.s.seals) ∧ ∃ ci, ci = stpV e ∧ ci.length = 5 ∧ ∀ j v, ci[j]? = some v → w.cell? ⟨b, off + i * 5 + j, none⟩ = some v) xs.length (fun i hi => by
      obtain ⟨ci, ⟨A', c', B', d', hci, ha, hb⟩, hl, hc⟩ := hel i hi
      exact ⟨⟨xs[i], A', c', B', d'⟩, hi, rfl, ⟨ha, hb⟩, ci, hci, hl, hc⟩)
    have hm : es.map (·.s) = xs := List.ext_getElem (by rw [List.length_map, hlen]) (fun i h h' => by
      rw [List.length_map] at h
      obtain ⟨_, h3, _⟩ := hes i h
      rw [List.getElem_map]
      exact h3)
    refine ⟨es, hm, ⟨A, c, by rw [hcs, hlen], by omega, h2, fun _ => ⟨b, off, e, fun i h => ?_⟩⟩, fun x hx => ?_⟩
    · obtain ⟨_, _, _, h4⟩ := hes i h
      exact h4
    · obtain ⟨i, hi, rfl⟩ := List.getElem_of_mem hx
      obtain ⟨_, _, h3, _⟩ := hes i hi
      exact h3
  · obtain rfl : xs = [] := List.eq_nil_of_length_eq_zero (by omega)
    exact ⟨[], rfl, ⟨A, c, hcs, h1, h2, fun h => absurd h (by simp)⟩, by simp⟩
/-- what is known of a list of steps that came in -/
structure StepsIn (w : World) (A : Option Addr) (c : Nat) (es : List SA) : Prop where
  row : StsR w A es.length es
  len : es.length ≤ 1048576
  size : ∀ e ∈ es, StSz 1048576 e.s
  cap : es.length ≤ c
  nil : A = none → es.length = 0 ∧ c = 0
def szStp1 (s : Stp) : Nat := szStp s + 1
theorem opens_step1 (w : World) : Opens w 69 5 (stpR w) szStp1 :=
  (opens_struct Tryz.underlying69 (by kernel_rfl) (opensF_cons rfl (opens_string Tryz.underlying9 (by kernel_rfl) w) (opensF_cons rfl (opens_string Tryz.underlying9 (by kernel_rfl) w) (opensF_cons rfl (opens_string Tryz.underlying9 (by kernel_rfl) w)
    (opensF_cons rfl (opens_slice Tryz.underlying67 (by kernel_rfl) (opens_int Tryz.underlying3 (by kernel_rfl) w) (by omega)) (opensF_cons rfl (opens_slice Tryz.underlying31 (by kernel_rfl) (opens_string Tryz.underlying9 (by kernel_rfl) w) (by omega)) (opensF_nil w 5))))))).map
    (fun a => ⟨a.1, a.2.1, a.2.2.1, a.2.2.2.1, a.2.2.2.2.1⟩) (by
      rintro cs ⟨r, o, n, who, seals, _⟩ ⟨c1, c2, rfl, _, h1, d1, d2, rfl, _, h2, e1, e2, rfl, _, h3, f1, f2, rfl, _, h4, g1, g2, rfl, _, h5, h6⟩
      have h4' := h4
      have h5' := h5
      obtain ⟨A, c, hc, _⟩ := h4
      obtain ⟨B, d, hd, _⟩ := h5
      simp only [strR] at h1 h2 h3
      simp only at hc hd
      subst hc
      subst hd
      subst h1
      subst h2
      subst h3
      simp only [nilR] at h6
      subst h6
      exact ⟨A, c, B, d, rfl, h4', h5'⟩) (by intro a; simp only [szStp1, szStp]; unfold szStr szI; omega)
theorem open_steps {w : World} {r : Reach} {base : Nat} {H : Type} {enc : TypeId × Value → H} {v : Value} {d : DataW H} {p : List MemPlace}
    (hv : Value.okWide Tryz.prog w r base 27 v) (hd : DataW.Trod enc Tryz.prog w 0 (fun _ => true) true 27 v d p) (hb : Rows.uptoBulk d ≤ 1048576) :
    ∃ A c es, v = .slice A (List.length es) c ∧ StepsIn w A c es := by
  obtain ⟨A, c, xs, e, hR, hs⟩ := open_slice_arg Tryz.underlying27 (opens_slice Tryz.underlying27 (by kernel_rfl) (opens_step1 w) (by omega)) hv hd
  obtain ⟨es, hm, hR2, hin⟩ := stps_sliceR hR
  have hxl : xs.length = es.length := by rw [← hm, List.length_map]
  rw [hxl] at hR2 e
  obtain ⟨A', c', e', h1, h2, hrow⟩ := sliceR_row (k := 5) stpV (fun _ => rfl) (by omega) (fun ci x h => h) hR2
  simp only [List.cons.injEq, and_true, Value.slice.injEq, true_and] at e'
  obtain ⟨rfl, rfl⟩ := e'
  obtain ⟨A2, c2, e2, _, h3, _⟩ := hR2
  simp only [List.cons.injEq, and_true, Value.slice.injEq, true_and] at e2
  obtain ⟨rfl, rfl⟩ := e2
  have hmem : ∀ x ∈ es, StepIn w x.s x.A x.c x.B x.d := fun x hx => by
    obtain ⟨ha, hb'⟩ := hin x hx
    have h5 := szs_mem szStp1 (show x.s ∈ xs by rw [← hm]; exact List.mem_map_of_mem hx)
    unfold szStp1 at h5 hs
    exact step_in ha hb' (by omega)
  have hl := szs_len szStp1 (fun x => Nat.succ_le_succ (Nat.zero_le _)) xs
  refine ⟨A, c, es, e, ⟨⟨hrow, fun x hx => (hmem x hx).row⟩, by omega, fun x hx => (hmem x hx).size, h1, fun h => ?_⟩⟩
  have := h3.2 h
  omega
end Go.Proofs.YtoamnifnfkgbiaaGreatDoor

namespace Go.Proofs.YtoamnifnfkgbiaaGreatDoor
set_option maxRecDepth 100000
open Go.RowKit Go.ChangeShapes Go.WideShapes
set_option linter.unusedVariables false
theorem set_ab : setR [] [97, 47, 98] [] [48, 49, 50, 51, 52, 53, 54, 55, 56, 57, 97, 98, 99, 100, 101, 102, 48, 49, 50, 51, 52, 53, 54, 55, 56, 57, 97, 98, 99, 100, 101, 102] = ([([97, 47, 98], [48, 49, 50, 51, 52, 53, 54, 55, 56, 57, 97, 98, 99, 100, 101, 102, 48, 49, 50, 51, 52, 53, 54, 55, 56, 57, 97, 98, 99, 100, 101, 102])], 0) := by decide
theorem get_ab : getR [([97, 47, 98], [48, 49, 50, 51, 52, 53, 54, 55, 56, 57, 97, 98, 99, 100, 101, 102, 48, 49, 50, 51, 52, 53, 54, 55, 56, 57, 97, 98, 99, 100, 101, 102])] [97, 47, 98] = [48, 49, 50, 51, 52, 53, 54, 55, 56, 57, 97, 98, 99, 100, 101, 102, 48, 49, 50, 51, 52, 53, 54, 55, 56, 57, 97, 98, 99, 100, 101, 102] := by decide
end Go.Proofs.YtoamnifnfkgbiaaGreatDoor

namespace Go.Proofs.YtoamnifnfkgbiaaGreatDoor
set_option maxRecDepth 100000
open Go.RowKit Go.ChangeShapes Go.WideShapes
set_option linter.unusedVariables false
def szRf (x : Rf) : Nat := x.1.length + x.2.length + 1
theorem opens_rf (w : World) : Opens w 126 2 (fun cs (x : Rf) => cs = refV x) szRf :=
  (opens_struct Tryz.underlying126 (by kernel_rfl) (opensF_cons rfl (opens_string Tryz.underlying9 (by kernel_rfl) w) (opensF_cons rfl (opens_string Tryz.underlying9 (by kernel_rfl) w) (opensF_nil w 2)))).map
    (fun a => (a.1, a.2.1)) (by
      rintro cs ⟨n, r, _⟩ ⟨c1, c2, rfl, _, h1, d1, d2, rfl, _, h2, h3⟩
      simp only [strR] at h1 h2
      simp only [nilR] at h3
      subst h1
      subst h2
      subst h3
      rfl) (by intro a; simp only [szRf]; omega)
structure RefsIn (w : World) (A : Option Addr) (c : Nat) (l : List Rf) : Prop where
  row : RfRow w A l.length l
  len : l.length ≤ 1048576
  size : ∀ x ∈ l, x.1.length ≤ 1048576 ∧ x.2.length ≤ 1048576
  cap : l.length ≤ c
  nil : A = none → l.length = 0 ∧ c = 0
theorem open_refs {w : World} {r : Reach} {base : Nat} {H : Type} {enc : TypeId × Value → H} {v : Value} {d : DataW H} {p : List MemPlace}
    (hv : Value.okWide Tryz.prog w r base 28 v) (hd : DataW.Trod enc Tryz.prog w 0 (fun _ => true) true 28 v d p) (hb : Rows.uptoBulk d ≤ 1048576) :
    ∃ A c l, v = .slice A (List.length l) c ∧ RefsIn w A c l := by
  obtain ⟨A, c, xs, e, hR, hs⟩ := open_slice_arg Tryz.underlying28 (opens_slice Tryz.underlying28 (by kernel_rfl) (opens_rf w) (by omega)) hv hd
  obtain ⟨A', c', e', h1, h2, hrow⟩ := sliceR_row (k := 2) refV (fun _ => rfl) (by omega) (fun ci x h => h) hR
  simp only [List.cons.injEq, and_true, Value.slice.injEq, true_and] at e'
  obtain ⟨rfl, rfl⟩ := e'
  obtain ⟨A2, c2, e2, _, h3, _⟩ := hR
  simp only [List.cons.injEq, and_true, Value.slice.injEq, true_and] at e2
  obtain ⟨rfl, rfl⟩ := e2
  have hl := szs_len szRf (fun x => Nat.succ_le_succ (Nat.zero_le _)) xs
  refine ⟨A, c, xs, e, hrow, by omega, fun x hx => ?_, h1, fun h => ?_⟩
  · have h5 := szs_mem szRf hx
    unfold szRf at h5 hs
    omega
  · have := h3.2 h
    omega
end Go.Proofs.YtoamnifnfkgbiaaGreatDoor

namespace Go.Proofs.YtoamnifnfkgbiaaGreatDoor
set_option maxRecDepth 100000
open Go.RowKit Go.ChangeShapes Go.WideShapes
set_option linter.unusedVariables false
def cliA (A : Option Addr) (n c : Nat) (f sz : Int) (r : List UInt8) (B : Option Addr) (m d : Nat) (C : Option Addr) (k e : Nat) : Array Value := #[.slice A n c, .int .i64 f, .int .i64 sz, .string (bs r), .slice B m d, .slice C k e]
abbrev Cli0 := (List Fl × Int) × (Int × List UInt8) × List Stp × List Rf
def cliR (w : World) (cs : List Value) (x : Cli0) : Prop := ∃ A c B d C e, cs = [.slice A x.1.1.length c, .int .i64 x.1.2, .int .i64 x.2.1.1, .string (bs x.2.1.2), .slice B x.2.2.1.length d, .slice C x.2.2.2.length e] ∧
  sliceR w 3 (fun cs (x : Fl) => cs = fileC x) [.slice A x.1.1.length c] x.1.1 ∧ (-9223372036854775808 ≤ x.1.2 ∧ x.1.2 ≤ 9223372036854775807) ∧ (-9223372036854775808 ≤ x.2.1.1 ∧ x.2.1.1 ≤ 9223372036854775807) ∧
  sliceR w 5 (stpR w) [.slice B x.2.2.1.length d] x.2.2.1 ∧ sliceR w 2 (fun cs (x : Rf) => cs = refV x) [.slice C x.2.2.2.length e] x.2.2.2
theorem opens_client (w : World) : Opens w 30 6 (cliR w) (fun x => szs szFile x.1.1 + x.2.1.2.length + szs szStp1 x.2.2.1 + szs szRf x.2.2.2) :=
  (opens_struct Tryz.underlying30 (by kernel_rfl) (opensF_cons rfl (opens_disk w) (opensF_cons rfl (opens_headD w) (opensF_cons rfl (opens_slice Tryz.underlying27 (by kernel_rfl) (opens_step1 w) (by omega))
    (opensF_cons rfl (opens_slice Tryz.underlying28 (by kernel_rfl) (opens_rf w) (by omega)) (opensF_nil w 6)))))).map
    (fun a => (a.1, a.2.1, a.2.2.1, a.2.2.2.1)) (by
      rintro cs ⟨⟨fs, f⟩, ⟨sz, r⟩, ss, rs, _⟩ ⟨c1, c2, rfl, _, h1, d1, d2, rfl, _, h2, e1, e2, rfl, _, h3, f1, f2, rfl, _, h4, h5⟩
      obtain ⟨A, c, h1, hR, hf⟩ := h1
      obtain ⟨h2, h2'⟩ := h2
      have h3' := h3
      have h4' := h4
      obtain ⟨B, d, hB, _⟩ := h3
      obtain ⟨C, e, hC, _⟩ := h4
      simp only at h1 h2 hB hC
      simp only [nilR] at h5
      subst h1
      subst h2
      subst hB
      subst hC
      subst h5
      exact ⟨A, c, B, d, C, e, rfl, hR, hf, h2', h3', h4'⟩) (by intro a; simp only; omega)
/-- what is known of a client that came in -/
structure CliIn (w : World) (A : Option Addr) (c : Nat) (fs : List Fl) (f sz : Int) (r : List UInt8) (B : Option Addr) (d : Nat) (es : List SA) (C : Option Addr) (e : Nat) (rs : List Rf) : Prop where
  disk : DiskIn w A c fs f
  head : -9223372036854775808 ≤ sz ∧ sz ≤ 9223372036854775807
  root : r.length ≤ 1048576
  steps : StepsIn w B d es
  refs : RefsIn w C e rs
theorem open_client {w : World} {r : Reach} {base : Nat} {H : Type} {enc : TypeId × Value → H} {v : Value} {d : DataW H} {p : List MemPlace}
    (hv : Value.okWide Tryz.prog w r base 30 v) (hd : DataW.Trod enc Tryz.prog w 0 (fun _ => true) true 30 v d p) (hb : Rows.uptoBulk d ≤ 1048576) :
    ∃ A c fs f sz rt B d es C e rs, v = .agg (cliA A fs.length c f sz rt B (List.length es) d C (List.length rs) e) ∧ CliIn w A c fs f sz rt B d es C e rs := by
  obtain ⟨cs, ⟨⟨fs, f⟩, ⟨sz, rt⟩, ss, rs⟩, rfl, ⟨A, c, B, d', C, e, hc, hR, hf, hsz, hS, hF⟩, hs⟩ := open_structD_arg Tryz.underlying30 (opens_client w) hv hd
  simp only at hc hR hf hs hsz hS hF
  have hl1 := szs_len szFile (fun x => by unfold szFile; omega) fs
  have hl2 := szs_len szStp1 (fun x => Nat.succ_le_succ (Nat.zero_le _)) ss
  have hl3 := szs_len szRf (fun x => Nat.succ_le_succ (Nat.zero_le _)) rs
  have hD : DiskIn w A c fs f := by
    obtain ⟨A', c', e', h1, h2, hrow⟩ := sliceR_row fileC (fun _ => rfl) (by omega) (fun ci x h => h) hR
    simp only [List.cons.injEq, and_true, Value.slice.injEq, true_and] at e'
    obtain ⟨rfl, rfl⟩ := e'
    obtain ⟨A2, c2, e2, _, h3, _⟩ := hR
    simp only [List.cons.injEq, and_true, Value.slice.injEq, true_and] at e2
    obtain ⟨rfl, rfl⟩ := e2
    refine ⟨hrow, by omega, fun x hx => ?_, fun h => ?_, hf, h1⟩
    · have := szs_mem szFile hx
      unfold szFile at this hs
      refine ⟨?_, ?_, ?_⟩ <;> omega
    · have := h3.2 h
      omega
  have hRf : RefsIn w C e rs := by
    obtain ⟨A', c', e', h1, h2, hrow⟩ := sliceR_row (k := 2) refV (fun _ => rfl) (by omega) (fun ci x h => h) hF
    simp only [List.cons.injEq, and_true, Value.slice.injEq, true_and] at e'
    obtain ⟨rfl, rfl⟩ := e'
    obtain ⟨A2, c2, e2, _, h3, _⟩ := hF
    simp only [List.cons.injEq, and_true, Value.slice.injEq, true_and] at e2
    obtain ⟨rfl, rfl⟩ := e2
    refine ⟨hrow, by omega, fun x hx => ?_, h1, fun h => ?_⟩
    · have h5 := szs_mem szRf hx
      unfold szRf at h5 hs
      omega
    · have := h3.2 h
      omega
  obtain ⟨es, hm, hR2, hin⟩ := stps_sliceR hS
  have hxl : ss.length = es.length := by rw [← hm, List.length_map]
  rw [hxl] at hR2 hc
  have hSt : StepsIn w B d' es := by
    obtain ⟨A', c', e', h1, h2, hrow⟩ := sliceR_row (k := 5) stpV (fun _ => rfl) (by omega) (fun ci x h => h) hR2
    simp only [List.cons.injEq, and_true, Value.slice.injEq, true_and] at e'
    obtain ⟨rfl, rfl⟩ := e'
    obtain ⟨A2, c2, e2, _, h3, _⟩ := hR2
    simp only [List.cons.injEq, and_true, Value.slice.injEq, true_and] at e2
    obtain ⟨rfl, rfl⟩ := e2
    have hmem : ∀ x ∈ es, StepIn w x.s x.A x.c x.B x.d := fun x hx => by
      obtain ⟨ha, hb'⟩ := hin x hx
      have h5 := szs_mem szStp1 (show x.s ∈ ss by rw [← hm]; exact List.mem_map_of_mem hx)
      unfold szStp1 at h5 hs
      exact step_in ha hb' (by omega)
    refine ⟨⟨hrow, fun x hx => (hmem x hx).row⟩, by omega, fun x hx => (hmem x hx).size, h1, fun h => ?_⟩
    have := h3.2 h
    omega
  refine ⟨A, c, fs, f, sz, rt, B, d', es, C, e, rs, ?_, ⟨hD, hsz, by omega, hSt, hRf⟩⟩
  unfold cliA
  congr 1
  exact Array.toList_inj.1 hc
end Go.Proofs.YtoamnifnfkgbiaaGreatDoor

namespace Go.Proofs.YtoamnifnfkgbiaaGreatDoor
set_option maxRecDepth 100000
open Go.RowKit
set_option linter.unusedVariables false
set_option maxHeartbeats 4000000 in
theorem sameSteps_any (es es' : List SA) (A : Option Addr) (n c : Nat) (A' : Option Addr) (c' : Nat) (w : World) (hx : StsR w A n es) (hy : StsR w A' n es') (hs : Sames es es') (hn : n ≤ 1099511627776) (hz : ∀ e ∈ es, StSz 1099511627776 e.s) :
    Calls Tryz.prog 49 #[.slice A n c, .slice A' n c'] w fun e w' => e = .returned (.bool true) ∧ Gr w w' := by
  have hlx := hx.len
  have hly := hy.len
  have HX := sec hx
  have HY := sec hy
  have HC : Sec (∀ i (h : i < es.length) (h' : i < es'.length) W, Gr w W → Calls Tryz.prog 94 #[.agg (stepA es[i].s es[i].A es[i].c es[i].B es[i].d), .agg (stepA es'[i].s es'[i].A es'[i].c es'[i].B es'[i].d)] W fun e w' => e = .returned (.bool true) ∧ Gr W w') := sec (fun i h h' W g => by
    have e1 : es'[i].s = es[i].s := by
      have h1 : (es'.map (·.s))[i]? = (es.map (·.s))[i]? := by rw [show es'.map (·.s) = es.map (·.s) from hs]
      rw [List.getElem?_map, List.getElem?_map, List.getElem?_eq_getElem h, List.getElem?_eq_getElem h'] at h1
      injection h1
    have h1 := (hx.each _ (List.getElem_mem h)).gr g
    have h2 := (hy.each _ (List.getElem_mem h')).gr g
    rw [e1] at h2 ⊢
    exact sameStep_any es[i].s es[i].A es[i].c es[i].B es[i].d es'[i].A es'[i].c es'[i].B es'[i].d W h1 h2 (hz _ (List.getElem_mem h)))
  clear hx hy hs hz
  go_enter Tryz.func49, Tryz.ntmps49
  go_wp2_with fail
  go_loopw [13, 5] (fun iv _ wr => ∃ i : Nat, iv = .int .i64 (i : Int) ∧ i ≤ n ∧ Gr w wr) (fun iv _ _ => n - (intOf iv).toNat)
  case atStart => exact ⟨0, rfl, by omega, Gr.refl _⟩
  case round =>
    obtain ⟨i, rfl, hi, hg⟩ := hrel
    by_cases hlt : i < n
    · have hii : (i : Int) < (n : Int) := by omega
      have h1 : i < es.length := by omega
      have h2 : i < es'.length := by omega
      obtain ⟨b, off, rfl, e0, e1, e2, e3, e4⟩ := (HX.out.gr hg.drew).cell h1
      obtain ⟨b', off', rfl, d0, d1, d2, d3, d4⟩ := (HY.out.gr hg.drew).cell h2
      have HCi := sec (fun W g => HC.out i h1 h2 W g)
      obtain ⟨x, hx⟩ : ∃ x, x = es[i] := ⟨_, rfl⟩
      obtain ⟨y, hy⟩ : ∃ y, y = es'[i] := ⟨_, rfl⟩
      rw [← hx] at HCi e0 e1 e2 e3 e4
      rw [← hy] at HCi d0 d1 d2 d3 d4
      have HLT := sec hlt
      clear hx hy h1 h2 hlt
      obtain ⟨⟨r, o, k, who, seals⟩, A1, c1, B1, d1'⟩ := x
      obtain ⟨⟨r', o', k', who', seals'⟩, A2, c2, B2, d2'⟩ := y
      simp only at e0 e1 e2 e3 e4 d0 d1 d2 d3 d4
      simp only [stepA] at HCi
      have gd := hg.drew
      go_wp2_with fail
      go_region_with (go_at_call 94; (with_reducible refine Calls.mono (HCi.out _ gd) ?_); rintro e w1 ⟨rfl, g1⟩)
      all_goals
        go_wp2_with fail
        go_roundw
        case rel => exact ⟨i + 1, by go_num, HLT.out, gd.trans g1⟩
        case measure => simp [intOf]; have := HLT.out; omega
    · obtain rfl : i = n := by omega
      clear hlt hi
      go_wp2_with fail
      go_ret
      exact ⟨rfl, hg⟩
end Go.Proofs.YtoamnifnfkgbiaaGreatDoor

namespace Go.Proofs.YtoamnifnfkgbiaaGreatDoor
set_option maxRecDepth 100000
open Go.RowKit
set_option linter.unusedVariables false

theorem aggCli : AggOk 30 6 := ⟨⟨_, Tryz.underlying30, rfl⟩, by kernel_rfl⟩
/-- where a client's three lists lie -/
structure CliV (w : World) (fs : List Fl) (es : List SA) (rs : List Rf) (A : Option Addr) (n : Nat) (B : Option Addr) (m : Nat) (C : Option Addr) (k : Nat) : Prop where
  disk : FRow w A n fs
  steps : StsR w B m es
  refs : RfRow w C k rs
theorem CliV.gr {w w' : World} {fs : List Fl} {es : List SA} {rs : List Rf} {A B C : Option Addr} {n m k : Nat} (h : CliV w fs es rs A n B m C k) (g : Gr w w') : CliV w' fs es rs A n B m C k := ⟨h.disk.gr g, h.steps.gr g, h.refs.gr g⟩
set_option maxHeartbeats 4000000 in
theorem sameClient_any (fs : List Fl) (f sz : Int) (r : List UInt8) (es es' : List SA) (rs : List Rf) (A : Option Addr) (n c : Nat) (B : Option Addr) (m d : Nat) (C : Option Addr) (k e : Nat) (A' : Option Addr) (c' : Nat) (B' : Option Addr) (d' : Nat) (C' : Option Addr) (e' : Nat) (w : World)
    (hx : CliV w fs es rs A n B m C k) (hy : CliV w fs es' rs A' n B' m C' k) (hs : Sames es es') (hn : n ≤ 1099511627776) (hm : m ≤ 1099511627776) (hk : k ≤ 1099511627776) (hz : ∀ e ∈ es, StSz 1099511627776 e.s) :
    Calls Tryz.prog 10 #[.agg (cliA A n c f sz r B m d C k e), .agg (cliA A' n c' f sz r B' m d' C' k e')] w fun e w' => e = .returned (.bool true) ∧ Gr w w' := by
  unfold cliA
  obtain ⟨wa, hwa⟩ : ∃ x, x = (w.alloc (.cells #[.slice A n c, .int .i64 f, .int .i64 sz, .string (bs r), .slice B m d, .slice C k e] 30)).alloc (.cells #[.slice A' n c', .int .i64 f, .int .i64 sz, .string (bs r), .slice B' m d', .slice C' k e'] 30) := ⟨_, rfl⟩
  have G0 : Gr w wa := by rw [hwa]; exact ((Gr.refl w).alloc _).alloc _
  have hA : Blk wa w.heap.size 30 #[.slice A n c, .int .i64 f, .int .i64 sz, .string (bs r), .slice B m d, .slice C k e] := by rw [hwa]; exact (Blk.new w _ _).alloc _
  have hB : Blk wa (w.heap.size + 1) 30 #[.slice A' n c', .int .i64 f, .int .i64 sz, .string (bs r), .slice B' m d', .slice C' k e'] := by rw [hwa]; exact Blk.new1 w _ _ _
  obtain ⟨p, hp⟩ : ∃ p, p = w.heap.size := ⟨_, rfl⟩
  rw [← hp] at hA hB
  have HSK : Sec (∀ W, Gr wa W → (W.cell? ⟨p, 0, none⟩ = some (.slice A n c) ∧ W.cell? ⟨p, 1, none⟩ = some (.int .i64 f) ∧ W.cell? ⟨p, 2, none⟩ = some (.int .i64 sz) ∧ W.cell? ⟨p, 3, none⟩ = some (.string (bs r)) ∧ W.cell? ⟨p, 4, none⟩ = some (.slice B m d) ∧ W.cell? ⟨p, 5, none⟩ = some (.slice C k e)) ∧
      (W.cell? ⟨p + 1, 0, none⟩ = some (.slice A' n c') ∧ W.cell? ⟨p + 1, 1, none⟩ = some (.int .i64 f) ∧ W.cell? ⟨p + 1, 2, none⟩ = some (.int .i64 sz) ∧ W.cell? ⟨p + 1, 3, none⟩ = some (.string (bs r)) ∧ W.cell? ⟨p + 1, 4, none⟩ = some (.slice B' m d') ∧ W.cell? ⟨p + 1, 5, none⟩ = some (.slice C' k e'))) := sec (fun W g => ⟨⟨(hA.gr g).cell 0, (hA.gr g).cell 1, (hA.gr g).cell 2, (hA.gr g).cell 3, (hA.gr g).cell 4, (hA.gr g).cell 5⟩, (hB.gr g).cell 0, (hB.gr g).cell 1, (hB.gr g).cell 2, (hB.gr g).cell 3, (hB.gr g).cell 4, (hB.gr g).cell 5⟩)
  have HD : Sec (∀ W, Gr wa W → Calls Tryz.prog 26 #[diskV A n c f, diskV A' n c' f] W fun e w' => e = .returned (.bool true) ∧ Gr W w') := sec (fun W g => sameDisk_any fs A A' n c c' f W (by omega) (hx.disk.gr (G0.trans g)) (hy.disk.gr (G0.trans g)))
  have HS : Sec (∀ W, Gr wa W → Calls Tryz.prog 49 #[.slice B m d, .slice B' m d'] W fun e w' => e = .returned (.bool true) ∧ Gr W w') := sec (fun W g => sameSteps_any es es' B m d B' d' W (hx.steps.gr (G0.trans g)) (hy.steps.gr (G0.trans g)) hs hm hz)
  have HR : Sec (∀ W, Gr wa W → Calls Tryz.prog 50 #[.slice C k e, .slice C' k e'] W fun e w' => e = .returned (.bool true) ∧ Gr W w') := sec (fun W g => sameRefs_any rs C C' k e e' W hk (hx.refs.gr (G0.trans g)) (hy.refs.gr (G0.trans g)))
  unfold diskV at HD
  obtain ⟨⟨a0, a1, a2, a3, a4, a5⟩, b0, b1, b2, b3, b4, b5⟩ := HSK.out wa (Gr.refl _)
  have HG := sec G0
  clear hx hy hs hz hA hB G0
  go_enter Tryz.func10, Tryz.ntmps10
  go_upto_region 1 with fail
  rw [← hwa, ← hp]
  clear hwa hp
  go_wp2_with (first
    | (go_at_call 26; (with_reducible refine Calls.mono (HD.out wa (Gr.refl _)) ?_); rintro e w1 ⟨rfl, g1⟩; obtain ⟨⟨x0, x1, x2, x3, x4, x5⟩, y0, y1, y2, y3, y4, y5⟩ := HSK.out w1 g1)
    | (go_at_call 49; (with_reducible refine Calls.mono (HS.out w1 g1) ?_); rintro e w2 ⟨rfl, g2⟩; have G2 := g1.trans g2; obtain ⟨⟨z0, z1, z2, z3, z4, z5⟩, v0, v1, v2, v3, v4, v5⟩ := HSK.out w2 G2)
    | (go_at_call 50; (with_reducible refine Calls.mono (HR.out w2 G2) ?_); rintro e w3 ⟨rfl, g3⟩))
  go_ret
  exact ⟨rfl, HG.out.trans (G2.trans g3)⟩

/-- a client copied -/
def CpPost (w : World) (fs : List Fl) (f sz : Int) (r : List UInt8) (es : List SA) (rs : List Rf) (n k : Nat) (e0 : Ending) (w' : World) : Prop :=
  ∃ A' c' B' d' C' e' es', e0 = .returned (.agg (cliA A' n c' f sz r B' es.length d' C' k e')) ∧ CliV w' fs es' rs A' n B' es.length C' k ∧ Sames es es' ∧ (A' = none → n = 0 ∧ c' = 0) ∧ n ≤ c' ∧ (∀ e ∈ es', StO w.heap.size w' e) ∧ Gr w w'
set_option maxHeartbeats 8000000 in
theorem copyClient_any (fs : List Fl) (f sz : Int) (r : List UInt8) (es : List SA) (rs : List Rf) (A : Option Addr) (n c : Nat) (B : Option Addr) (d : Nat) (C : Option Addr) (k e : Nat) (w : World)
    (hx : CliV w fs es rs A n B es.length C k) (hA : A = none → n = 0 ∧ c = 0) (hC : C = none → k = 0 ∧ e = 0) (hn : n ≤ 1099511627776) (hm : es.length ≤ 1099511627776) (hk : k ≤ 1099511627776) (hz : ∀ e ∈ es, StSz 1099511627776 e.s) :
    Calls Tryz.prog 7 #[.agg (cliA A n c f sz r B es.length d C k e)] w (CpPost w fs f sz r es rs n k) := by
  unfold cliA
  obtain ⟨wa, hwa⟩ : ∃ x, x = w.alloc (.cells #[.slice A n c, .int .i64 f, .int .i64 sz, .string (bs r), .slice B es.length d, .slice C k e] 30) := ⟨_, rfl⟩
  have G0 : Gr w wa := by rw [hwa]; exact (Gr.refl w).alloc _
  have hb : Blk wa w.heap.size 30 #[.slice A n c, .int .i64 f, .int .i64 sz, .string (bs r), .slice B es.length d, .slice C k e] := by rw [hwa]; exact Blk.new w _ _
  have HSZ : Sec (wa.heap.size = w.heap.size + 1) := sec (by rw [hwa]; simp)
  obtain ⟨p, hp⟩ : ∃ p, p = w.heap.size := ⟨_, rfl⟩
  rw [← hp] at hb HSZ
  have HSK : Sec (∀ W, Gr wa W → W.cell? ⟨p, 0, none⟩ = some (.slice A n c) ∧ W.cell? ⟨p, 1, none⟩ = some (.int .i64 f) ∧ W.cell? ⟨p, 2, none⟩ = some (.int .i64 sz) ∧ W.cell? ⟨p, 3, none⟩ = some (.string (bs r)) ∧ W.cell? ⟨p, 4, none⟩ = some (.slice B es.length d) ∧ W.cell? ⟨p, 5, none⟩ = some (.slice C k e)) := sec (fun W g => ⟨(hb.gr g).cell 0, (hb.gr g).cell 1, (hb.gr g).cell 2, (hb.gr g).cell 3, (hb.gr g).cell 4, (hb.gr g).cell 5⟩)
  have HD : Sec (∀ W, Gr wa W → Calls Tryz.prog 21 #[diskV A n c f] W fun e w' => ∃ A' c', e = .returned (diskV A' n c' f) ∧ (w'.ownsRow W.heap.size 105 3 (.slice A' n c') n (fs.flatMap fileC) ∧ (A' = none → n = 0 ∧ c' = 0)) ∧ Gr W w') := sec (fun W g => by
    refine (copyDisk_any fs A n c f W hn (hx.disk.gr (G0.trans g)) hA).mono ?_
    rintro e w' ⟨A', cap', rfl, ho, hA', g'⟩
    exact ⟨A', cap', rfl, ⟨ho, hA'⟩, g'⟩)
  have HS : Sec (∀ W, Gr wa W → Calls Tryz.prog 39 #[.slice B es.length d] W fun e w' => ∃ A' c' es', e = .returned (.slice A' es.length c') ∧ Sames es es' ∧ (w'.ownsRow W.heap.size 69 5 (.slice A' es.length c') es.length (es'.flatMap stpV) ∧ ∀ e ∈ es', StO W.heap.size w' e) ∧ Gr W w') := sec (fun W g => by
    refine (copyStepsO_any es B d W (hx.steps.gr (G0.trans g)) hm hz).mono ?_
    rintro e w' ⟨A', c', es', rfl, h1, h2, h3, g'⟩
    exact ⟨A', c', es', rfl, h1, ⟨h2, h3⟩, g'⟩)
  have HR := sec (hx.refs.gr G0)
  unfold diskV at HD
  obtain ⟨a0, a1, a2, a3, a4, a5⟩ := HSK.out wa (Gr.refl _)
  have HG := sec G0
  have HC := sec hC
  clear hx hz hb G0 hA hC
  go_enter Tryz.func7, Tryz.ntmps7
  go_upto_region 1 with fail
  rw [← hwa, ← hp]
  clear hwa hp
  have G1 : Gr wa (wa.alloc (.cells #[.slice none 0 0, .int .i64 0, .int .i64 0, .string (bs []), .slice none 0 0, .slice none 0 0] 30)) := (Gr.refl wa).alloc _
  have bq0 : Blk (wa.alloc (.cells #[.slice none 0 0, .int .i64 0, .int .i64 0, .string (bs []), .slice none 0 0, .slice none 0 0] 30)) (p + 1) 30 #[.slice none 0 0, .int .i64 0, .int .i64 0, .string (bs []), .slice none 0 0, .slice none 0 0] := Blk.newAt (by rw [HSZ.out]) _ _
  obtain ⟨wb, hwb⟩ : ∃ x, x = wa.alloc (.cells #[.slice none 0 0, .int .i64 0, .int .i64 0, .string (bs []), .slice none 0 0, .slice none 0 0] 30) := ⟨_, rfl⟩
  rw [← hwb] at G1 bq0
  rw [← hwb]
  clear hwb a0 a1 a2 a3 a4 a5
  have HSB : Sec (∀ W, Gr wa W → (W.cell? ⟨p, 0, none⟩ = some (.slice A n c) ∧ W.cell? ⟨p, 1, none⟩ = some (.int .i64 f) ∧ W.cell? ⟨p, 2, none⟩ = some (.int .i64 sz) ∧ W.cell? ⟨p, 3, none⟩ = some (.string (bs r)) ∧ W.cell? ⟨p, 4, none⟩ = some (.slice B es.length d) ∧ W.cell? ⟨p, 5, none⟩ = some (.slice C k e)) ∧ Gr wa W) := sec (fun W g => ⟨HSK.out W g, g⟩)
  have HZ : Sec (∀ W v0 v1 v2 v3 v4 v5, Gr wa W → Gr wa ((((((W.setCell ⟨p + 1, 0, none⟩ v0).setCell ⟨p + 1, 1, none⟩ v1).setCell ⟨p + 1, 2, none⟩ v2).setCell ⟨p + 1, 3, none⟩ v3).setCell ⟨p + 1, 4, none⟩ v4).setCell ⟨p + 1, 5, none⟩ v5)) := sec (fun W v0 v1 v2 v3 v4 v5 g => by
    have hq : wa.heap.size ≤ p + 1 := by rw [HSZ.out]; exact Nat.le_refl _
    exact (((((g.setCell (p := ⟨p + 1, 0, none⟩) hq _).setCell (p := ⟨p + 1, 1, none⟩) hq _).setCell (p := ⟨p + 1, 2, none⟩) hq _).setCell (p := ⟨p + 1, 3, none⟩) hq _).setCell (p := ⟨p + 1, 4, none⟩) hq _).setCell (p := ⟨p + 1, 5, none⟩) hq _)
  have hb1 : (0 + k) * 32 ≤ 140737488355328 := by omega
  have hb2 : 0 + k ≤ maxLen := by unfold maxLen; omega
  have gd : Gr wb wb.drew := (Gr.refl wb).drew
  have HG1 := sec G1
  have HBQ := sec bq0
  clear bq0 G1
  have ga := HG1.out.trans gd
  go_region_held3 (fun w' => (w'.cell? ⟨p, 0, none⟩ = some (.slice A n c) ∧ w'.cell? ⟨p, 1, none⟩ = some (.int .i64 f) ∧ w'.cell? ⟨p, 2, none⟩ = some (.int .i64 sz) ∧ w'.cell? ⟨p, 3, none⟩ = some (.string (bs r)) ∧ w'.cell? ⟨p, 4, none⟩ = some (.slice B es.length d) ∧ w'.cell? ⟨p, 5, none⟩ = some (.slice C k e)) ∧ Gr wa w')
    (first | with_reducible assumption | with_reducible exact HSB.out _ ga | with_reducible exact HSB.out _ g4 | with_reducible exact HSB.out _ g5 | with_reducible exact HSB.out _ g6 | with_reducible exact HSB.out _ (HZ.out _ _ _ _ _ _ _ g6) | fail)
    (first
      | (go_at_call 21; (with_reducible refine Calls.mono (HD.out wb.drew ga) ?_); rintro e w4 ⟨A4, k4, rfl, r4, g4'⟩; have gb4 : Gr wb w4 := Gr.trans gd g4'; have g4 : Gr wa w4 := HG1.out.trans gb4)
      | (go_at_call 39; (with_reducible refine Calls.mono (HS.out w4 g4) ?_); rintro e w5 ⟨B5, d5, es5, rfl, sm5, r5, g5'⟩; have gb5 : Gr wb w5 := Gr.trans gb4 g5'; have g5 : Gr wa w5 := HG1.out.trans gb5)
      | (refine step_append_row E.ref rfl (.const (.slice none 0 0)) (.tmp 12) rfl (w := w5) (B := w5.heap.size) rfl (World.ownsRow_nil _ _ _ _) rfl (HR.out.gr g5) HC.out refV_one hb1 hb2 (Nat.le_refl _) ?_; intro C6 e6 w6 o6 k6; have g56 : Gr w5 w6 := (Gr.refl w5).grown k6 (fun j hj => by simp [Value.ownBlock] at hj); have gb6 : Gr wb w6 := Gr.trans gb5 g56; have g6 : Gr wa w6 := HG1.out.trans gb6; have q0 := (HBQ.out.gr gb6).cell 0; have q1 := (HBQ.out.gr gb6).cell 1; have q2 := (HBQ.out.gr gb6).cell 2; have q3 := (HBQ.out.gr gb6).cell 3; have q4 := (HBQ.out.gr gb6).cell 4; have q5 := (HBQ.out.gr gb6).cell 5; have f0 := (HBQ.out.gr gb6).frozen 0; have f1 := (HBQ.out.gr gb6).frozen 1; have f2 := (HBQ.out.gr gb6).frozen 2; have f3 := (HBQ.out.gr gb6).frozen 3; have f4 := (HBQ.out.gr gb6).frozen 4; have f5 := (HBQ.out.gr gb6).frozen 5)
      | fail)
  all_goals
    go_wp2_with fail
    refine bodyPost_ret (results_blk rfl _ rfl ((((((( HBQ.out.gr gb6).set_ 0 (.slice A4 n k4)).set_ 1 (.int .i64 f)).set_ 2 (.int .i64 sz)).set_ 3 (.string (bs r))).set_ 4 (.slice B5 es.length d5)).set_ 5 (.slice C6 k e6)) aggCli) rfl ?_
    have hql := HBQ.out.lt
    have s5 : wb.heap.size ≤ w5.heap.size := gb5.size
    have s4 : wb.heap.size ≤ w4.heap.size := gb4.size
    have KEEP : ∀ (W : World) (T : TypeId) (z N : Nat) (V : Value) (xs : List Value) (b0 : Nat), W.ownsRow b0 T z V N xs → p + 1 < b0 → ((((((W.setCell ⟨p + 1, 0, none⟩ (.slice A4 n k4)).setCell ⟨p + 1, 1, none⟩ (.int .i64 f)).setCell ⟨p + 1, 2, none⟩ (.int .i64 sz)).setCell ⟨p + 1, 3, none⟩ (.string (bs r))).setCell ⟨p + 1, 4, none⟩ (.slice B5 es.length d5)).setCell ⟨p + 1, 5, none⟩ (.slice C6 k e6)).ownsRow b0 T z V N xs := fun W T z N V xs b0 h hb => by
      have hne : V.ownBlock ≠ some (p + 1) := fun e => by have := (h.lt _ e).1; omega
      exact ownsRow_setCell_other (ownsRow_setCell_other (ownsRow_setCell_other (ownsRow_setCell_other (ownsRow_setCell_other (ownsRow_setCell_other h (a := ⟨p + 1, 0, none⟩) hne _) (a := ⟨p + 1, 1, none⟩) hne _) (a := ⟨p + 1, 2, none⟩) hne _) (a := ⟨p + 1, 3, none⟩) hne _) (a := ⟨p + 1, 4, none⟩) hne _) (a := ⟨p + 1, 5, none⟩) hne _
    rw [Nat.zero_add, List.nil_append] at o6
    have kd := KEEP _ _ _ _ _ _ _ (own_gr (own_gr r4.1 g5') g56) hql
    have ks := KEEP _ _ _ _ _ _ _ (own_gr r5.1 g56) (Nat.lt_of_lt_of_le hql s4)
    have kr := KEEP _ _ _ _ _ _ _ o6 (Nat.lt_of_lt_of_le hql s5)
    have hso : ∀ x ∈ es5, StO w.heap.size _ x := fun x hx => StO.low (b := w4.heap.size) ⟨KEEP _ _ _ _ _ _ _ ((r5.2 x hx).gr g56).who (Nat.lt_of_lt_of_le hql s4), KEEP _ _ _ _ _ _ _ ((r5.2 x hx).gr g56).seals (Nat.lt_of_lt_of_le hql s4)⟩ (Nat.le_trans (HG.out.trans HG1.out).size s4)
    exact ⟨A4, k4, B5, d5, C6, e6, es5, rfl, ⟨Row.own kd, ⟨Row.own ks, fun x hx => (hso x hx).str⟩, Row.own kr⟩, sm5, r4.2, own_ncap kd, hso, HG.out.trans (HZ.out _ _ _ _ _ _ _ g6)⟩
end Go.Proofs.YtoamnifnfkgbiaaGreatDoor

namespace Go.Proofs.YtoamnifnfkgbiaaGreatDoor
set_option maxRecDepth 100000
open Go.RowKit
set_option linter.unusedVariables false
theorem aggKeys : AggOk 33 3 := ⟨⟨_, Tryz.underlying33, rfl⟩, by kernel_rfl⟩

/-- a row of strings of the call's own, in a block behind p -/
def FarStr (p : Nat) (w : World) (A : Option Addr) (n cap : Nat) (ss : List (List UInt8)) : Prop := ∃ B, p < B ∧ w.ownsRow B 9 1 (.slice A n cap) n (ss.map strV)
theorem FarStr.nil {p : Nat} {w : World} {A : Option Addr} {n cap : Nat} {ss : List (List UInt8)} (h : FarStr p w A n cap ss) : A = none → n = 0 ∧ cap = 0 := by
  intro e
  obtain ⟨B, _, h⟩ := h
  rcases h.2 with ⟨h, h0⟩ | ⟨g, _, _, h, _⟩
  · injection h with _ h2 h3
    exact ⟨h0, h3⟩
  · injection h with h2 _ _
    rw [e] at h2; cases h2
theorem FarStr.gr {p : Nat} {w w' : World} {A : Option Addr} {n cap : Nat} {ss : List (List UInt8)} (h : FarStr p w A n cap ss) (g : Gr w w') : FarStr p w' A n cap ss := by
  obtain ⟨B, hB, h⟩ := h
  exact ⟨B, hB, own_gr h g⟩
theorem FarStr.row {p : Nat} {w : World} {A : Option Addr} {n cap : Nat} {ss : List (List UInt8)} (h : FarStr p w A n cap ss) : StrRow w A n ss := by
  obtain ⟨B, hB, h⟩ := h
  exact Row.own h
theorem FarStr.set_ {p : Nat} {w : World} {A : Option Addr} {n cap : Nat} {ss : List (List UInt8)} (h : FarStr p w A n cap ss) {a : Addr} (ha : a.block ≤ p) (u : Value) : FarStr p (w.setCell a u) A n cap ss := by
  obtain ⟨B, hB, h⟩ := h
  exact ⟨B, hB, ownsRow_setCell_other h (fun e => by have := (h.lt _ e).1; omega) u⟩

set_option maxHeartbeats 4000000 in
theorem keys_any (A : Option Addr) (n c : Nat) (B : Option Addr) (m d : Nat) (need : Int) (ss ws : List (List UInt8)) (w : World) (hn : n ≤ 1099511627776) (hm : m ≤ 1099511627776)
    (hx : StrRow w A n ss) (hA : A = none → n = 0 ∧ c = 0) (hy : StrRow w B m ws) (hB : B = none → m = 0 ∧ d = 0) :
    Calls Tryz.prog 8 #[.agg (keysA A n c B m d need)] w fun e w' => ∃ A' c' B' d', e = .returned (.agg (keysA A' n c' B' m d' need)) ∧ StrRow w' A' n ss ∧ (A' = none → n = 0 ∧ c' = 0) ∧ StrRow w' B' m ws ∧ (B' = none → m = 0 ∧ d' = 0) ∧ Gr w w' := by
  unfold keysA
  go_enter Tryz.func8, Tryz.ntmps8
  go_wp2_with fail
  have hg0 : Gr w ((w.alloc (.cells #[.slice A n c, .slice B m d, .int .i64 need] 33)).alloc (.cells #[.slice none 0 0, .slice none 0 0, .int .i64 0] 33)) := ((Gr.refl w).alloc _).alloc _
  have hb1' : Blk ((w.alloc (.cells #[.slice A n c, .slice B m d, .int .i64 need] 33)).alloc (.cells #[.slice none 0 0, .slice none 0 0, .int .i64 0] 33)) w.heap.size 33 #[.slice A n c, .slice B m d, .int .i64 need] := (Blk.new w _ _).alloc _
  have hb2' := Blk.new1 w (.cells #[.slice A n c, .slice B m d, .int .i64 need] 33) 33 #[.slice none 0 0, .slice none 0 0, .int .i64 0]
  obtain ⟨wa, hwa⟩ : ∃ x, x = (w.alloc (.cells #[.slice A n c, .slice B m d, .int .i64 need] 33)).alloc (.cells #[.slice none 0 0, .slice none 0 0, .int .i64 0] 33) := ⟨_, rfl⟩
  rw [← hwa] at hg0 hb1' hb2'
  rw [← hwa]
  obtain ⟨p1, hp1⟩ : ∃ p1, p1 = w.heap.size := ⟨_, rfl⟩
  have hp1le : w.heap.size ≤ p1 + 1 := by omega
  rw [← hp1] at hb1' hb2'
  rw [← hp1]
  clear hwa hp1
  have HS1 : Sec (∀ W, Gr wa W → Calls Tryz.prog 14 #[.slice A n c] W fun e w' => ∃ A' cap', e = .returned (.slice A' n cap') ∧ FarStr (p1 + 1) w' A' n cap' ss ∧ Gr W w') := sec (fun W g => (strings_any ss n A c W hn ((hx.gr hg0).gr g) hA).mono fun e w' ⟨A', c', he, ho, hg⟩ => ⟨A', c', he, ⟨_, (hb2'.gr g).lt, ho⟩, hg⟩)
  have HS2 : Sec (∀ W, Gr wa W → Calls Tryz.prog 14 #[.slice B m d] W fun e w' => ∃ A' cap', e = .returned (.slice A' m cap') ∧ FarStr (p1 + 1) w' A' m cap' ws ∧ Gr W w') := sec (fun W g => (strings_any ws m B d W hm ((hy.gr hg0).gr g) hB).mono fun e w' ⟨A', c', he, ho, hg⟩ => ⟨A', c', he, ⟨_, (hb2'.gr g).lt, ho⟩, hg⟩)
  have HB1 := sec hb1'
  have HB2 := sec hb2'
  have HG0 := sec hg0
  have HSK : Sec (∀ w', Gr wa w' → w'.cell? ⟨p1, 0, none⟩ = some (.slice A n c) ∧ w'.cell? ⟨p1, 1, none⟩ = some (.slice B m d) ∧ w'.cell? ⟨p1, 2, none⟩ = some (.int .i64 need) ∧ w'.cell? ⟨p1 + 1, 0, none⟩ = some (.slice none 0 0) ∧ w'.cell? ⟨p1 + 1, 1, none⟩ = some (.slice none 0 0) ∧ w'.cell? ⟨p1 + 1, 2, none⟩ = some (.int .i64 0) ∧ w'.frozen? ⟨p1 + 1, 0, none⟩ = false ∧ w'.frozen? ⟨p1 + 1, 1, none⟩ = false ∧ w'.frozen? ⟨p1 + 1, 2, none⟩ = false) := sec (fun w' g => ⟨(HB1.out.gr g).cell 0, (HB1.out.gr g).cell 1, (HB1.out.gr g).cell 2, (HB2.out.gr g).cell 0, (HB2.out.gr g).cell 1, (HB2.out.gr g).cell 2, (HB2.out.gr g).frozen 0, (HB2.out.gr g).frozen 1, (HB2.out.gr g).frozen 2⟩)
  have HST : Sec (∀ w' u v x, Gr wa w' → (((w'.setCell ⟨p1 + 1, 0, none⟩ u).setCell ⟨p1 + 1, 1, none⟩ v).setCell ⟨p1 + 1, 2, none⟩ x).cell? ⟨p1, 0, none⟩ = some (.slice A n c) ∧ (((w'.setCell ⟨p1 + 1, 0, none⟩ u).setCell ⟨p1 + 1, 1, none⟩ v).setCell ⟨p1 + 1, 2, none⟩ x).cell? ⟨p1, 1, none⟩ = some (.slice B m d) ∧ (((w'.setCell ⟨p1 + 1, 0, none⟩ u).setCell ⟨p1 + 1, 1, none⟩ v).setCell ⟨p1 + 1, 2, none⟩ x).cell? ⟨p1, 2, none⟩ = some (.int .i64 need)) := sec (fun w' u v x g => by
    have h := (((HB1.out.gr g).far (p := ⟨p1 + 1, 0, none⟩) (by show p1 ≠ p1 + 1; omega) u).far (p := ⟨p1 + 1, 1, none⟩) (by show p1 ≠ p1 + 1; omega) v).far (p := ⟨p1 + 1, 2, none⟩) (by show p1 ≠ p1 + 1; omega) x
    exact ⟨h.cell 0, h.cell 1, h.cell 2⟩)
  clear hx hy hA hB hb1' hb2' hg0
  have gd : Gr wa wa.drew := (Gr.refl _).drew
  have HSD := HSK.out wa.drew gd
  go_region_held3 (fun w' => w'.cell? ⟨p1, 0, none⟩ = some (.slice A n c) ∧ w'.cell? ⟨p1, 1, none⟩ = some (.slice B m d) ∧ w'.cell? ⟨p1, 2, none⟩ = some (.int .i64 need))
    (first | with_reducible assumption | exact ⟨HSD.1, HSD.2.1, HSD.2.2.1⟩ | exact ⟨k0, k1, k2⟩ | exact ⟨l0, l1, l2⟩ | exact HST.out _ _ _ _ G5 | exact HST.out _ _ _ _ G4 | fail)
    (first
      | (go_at_call 14; (with_reducible refine Calls.mono (HS1.out _ (by first | with_reducible assumption)) ?_); rintro e w4 ⟨A1, c1, rfl, r1, g4⟩; have G4 : Gr wa w4 := Gr.trans (by with_reducible assumption) g4; obtain ⟨k0, k1, k2, k3, k4, k5, k6, k7, k8⟩ := HSK.out w4 G4)
      | (go_at_call 14; (with_reducible refine Calls.mono (HS2.out _ (by first | with_reducible assumption)) ?_); rintro e w5 ⟨B1, d1, rfl, r2, g5⟩; have G5 : Gr wa w5 := Gr.trans (by with_reducible assumption) g5; obtain ⟨l0, l1, l2, l3, l4, l5, l6, l7, l8⟩ := HSK.out w5 G5)
      | fail)
  all_goals
    have f1 := (((r1.gr g5).set_ (a := ⟨p1 + 1, 0, none⟩) (Nat.le_refl _) (.slice A1 n c1)).set_ (a := ⟨p1 + 1, 1, none⟩) (Nat.le_refl _) (.slice B1 m d1)).set_ (a := ⟨p1 + 1, 2, none⟩) (Nat.le_refl _) (.int .i64 need)
    have f2 := ((r2.set_ (a := ⟨p1 + 1, 0, none⟩) (Nat.le_refl _) (.slice A1 n c1)).set_ (a := ⟨p1 + 1, 1, none⟩) (Nat.le_refl _) (.slice B1 m d1)).set_ (a := ⟨p1 + 1, 2, none⟩) (Nat.le_refl _) (.int .i64 need)
    have hB2 := (((HB2.out.gr G5).set_ 0 (.slice A1 n c1)).set_ 1 (.slice B1 m d1)).set_ 2 (.int .i64 need)
    have hG2 := (((HG0.out.trans G5).setCell (p := ⟨p1 + 1, 0, none⟩) hp1le (.slice A1 n c1)).setCell (p := ⟨p1 + 1, 1, none⟩) hp1le (.slice B1 m d1)).setCell (p := ⟨p1 + 1, 2, none⟩) hp1le (.int .i64 need)
    clear k0 k1 k2 k3 k4 k5 k6 k7 k8 l0 l1 l2 l3 l4 l5 l6 l7 l8 HSD
    go_wp2_with fail
    refine bodyPost_ret (results_blk rfl _ rfl hB2 aggKeys) rfl ?_
    exact ⟨A1, _, B1, _, rfl, f1.row, f1.nil, f2.row, f2.nil, hG2⟩
end Go.Proofs.YtoamnifnfkgbiaaGreatDoor

namespace Go.Proofs.YtoamnifnfkgbiaaGreatDoor
set_option maxRecDepth 100000
open Go.RowKit
set_option linter.unusedVariables false
set_option maxHeartbeats 8000000 in
theorem repl_any (A0 : Option Addr) (m c0 : Nat) (B0 : Option Addr) (m' d0 : Nat) (need : Int) (ss : List (List UInt8)) (es : List SA) (l : List Stp) (A : Option Addr) (c : Nat) (w : World)
    (hK : StrRow w A0 m ss) (hm : m ≤ 1099511627776) (hss : ∀ x ∈ ss, x.length ≤ 1099511627776) (hx : StsR w A es.length es) (hl : l = es.map (·.s)) (hn : es.length ≤ 1099511627776) (hz : ∀ e ∈ es, StSz 1099511627776 e.s) (hT : TabK w) :
    Calls Tryz.prog 38 #[.agg (keysA A0 m c0 B0 m' d0 need), .slice A es.length c] w fun e w' => ∃ A' c' n', n' = (rpR ss need l).1.length ∧ e = .returned (.tuple #[.slice A' n' c', .int .i64 (rpR ss need l).2.1, .int .i64 (rpR ss need l).2.2]) ∧ RfRow w' A' n' (rpR ss need l).1 ∧ Gr w w' := by
  have HX := sec hx
  have HCk : Sec (∀ i (h : i < es.length) W, Gr w W → Calls Tryz.prog 83 #[.agg (keysA A0 m c0 B0 m' d0 need), .int .i64 (i : Int), .agg (stepA es[i].s es[i].A es[i].c es[i].B es[i].d)] W fun e w' => e = .returned (.int .i64 (stCk ss need (i : Int) es[i].s)) ∧ Gr W w') := sec (fun i h W g =>
    stCheck_any A0 m c0 B0 m' d0 need ss (i : Int) es[i].s es[i].A es[i].c es[i].B es[i].d W (hK.gr g) hm hss ((hx.each _ (List.getElem_mem h)).gr g) (hz _ (List.getElem_mem h)) (hT.gr g))
  have HSe : Sec (∀ (s : Stp) (fs : List Rf) A2 c2 W, RfRow W A2 fs.length fs → (A2 = none → fs.length = 0 ∧ c2 = 0) → fs.length ≤ 1099511627776 → RfSz 1099511627776 fs → s.r.length ≤ 1099511627776 → s.o.length ≤ 1099511627776 → s.n.length ≤ 1099511627776 →
      Calls Tryz.prog 84 #[.slice A2 fs.length c2, .string (bs s.r), .string (bs s.o), .string (bs s.n)] W fun e w' => SetPost W (setR fs s.r s.o s.n) e w') := sec (fun s fs A2 c2 W h hA hfn hsz h1 h2 h3 => rset_any fs s.r s.o s.n A2 fs.length c2 W hfn h hA (fun f hf => hsz.each f hf) h1 h2 h3)
  have HZ := sec hz
  have HL : Sec (∀ i (h : i < es.length) (h' : i < l.length), l[i] = es[i].s) := sec (fun i h h' => by subst hl; simp)
  obtain ⟨N, hN⟩ : ∃ N, N = es.length := ⟨_, rfl⟩
  have hlN : l.length = N := by rw [hl, List.length_map, hN]
  have HN := sec hN
  have HLN := sec hlN
  obtain ⟨V, hV⟩ : ∃ V, V = rpR ss need l := ⟨_, rfl⟩
  have HV : Sec (V = if 200 < N then ([], 0, 6) else rpGo ss need 0 l []) := sec (by rw [hV]; unfold rpR; rw [hlN])
  rw [← hN] at hn HX
  rw [← hN, ← hV]
  obtain ⟨wa, hwa⟩ : ∃ y, y = w.alloc (.cells (keysA A0 m c0 B0 m' d0 need) 33) := ⟨_, rfl⟩
  have hkb : Blk wa w.heap.size 33 (keysA A0 m c0 B0 m' d0 need) := by rw [hwa]; exact Blk.new w _ _
  have hg0 : Gr w wa := by rw [hwa]; exact (Gr.refl w).alloc _
  obtain ⟨p, hp⟩ : ∃ p, p = w.heap.size := ⟨_, rfl⟩
  rw [← hp] at hkb
  have HKC : Sec (∀ W, Gr wa W → W.cell? ⟨p, 0, none⟩ = some (.slice A0 m c0) ∧ W.cell? ⟨p, 1, none⟩ = some (.slice B0 m' d0) ∧ W.cell? ⟨p, 2, none⟩ = some (.int .i64 need)) := sec (fun W g => ⟨(hkb.gr g).cell 0, (hkb.gr g).cell 1, (hkb.gr g).cell 2⟩)
  clear hx hz hN hl hlN hV hK hm hss hT hkb
  unfold keysA at hwa HCk
  unfold keysA
  by_cases h200 : 200 < N
  · have hi2 : (200 : Int) < (N : Int) := by omega
    have HR : Sec (V = ([], 0, 6)) := sec (by rw [HV.out, if_pos h200])
    clear HV h200
    go_enter Tryz.func38, Tryz.ntmps38
    go_upto_region 1 with fail
    rw [← hwa, ← hp]
    clear hwa hp
    go_wp2_with fail
    go_ret3
    rw [HR.out]
    exact ⟨none, 0, 0, rfl, rfl, Row.nil _ 2 none, hg0⟩
  · have hi2 : ¬ (200 : Int) < (N : Int) := by omega
    have HV2 : Sec (V = rpGo ss need 0 l []) := sec (by rw [HV.out, if_neg h200])
    have hN2 : N ≤ 200 := by omega
    clear HV h200
    go_enter Tryz.func38, Tryz.ntmps38
    go_upto_region 1 with fail
    rw [← hwa, ← hp]
    clear hwa hp
    go_wp2_with fail
    go_loopg [18, 7, 8, 9, 10, 11, 12] N (fun fuel iv ov _ _ _ _ _ wr => ∃ (i : Nat) (A2 : Option Addr) (n2 c2 : Nat), iv = .int .i64 (i : Int) ∧ ov = .slice A2 n2 c2 ∧ N ≤ i + fuel ∧ i ≤ N ∧
      Sec (∃ fs : List Rf, n2 = fs.length ∧ RfRow wr A2 fs.length fs ∧ (A2 = none → fs.length = 0 ∧ c2 = 0) ∧ RfSz 1099511627776 fs ∧ fs.length ≤ i ∧ V = rpGo ss need i (l.drop i) fs) ∧ Sec (Gr wa wr))
    case atStart => exact ⟨0, none, 0, 0, rfl, rfl, by omega, by omega, sec ⟨[], rfl, Row.nil _ 2 none, fun _ => ⟨rfl, rfl⟩, ⟨by simp⟩, by simp, HV2.out⟩, sec (Gr.refl _)⟩
    case round =>
      obtain ⟨i, A2, n2, c2, rfl, rfl, hik, hi, HF, HG⟩ := hrel
      obtain ⟨fs, rfl, hfr, hfn, hfs, hfl, hfV⟩ := HF.out
      have HFR := sec hfr
      have HFN := sec hfn
      have HFS := sec hfs
      have HFL := sec hfl
      obtain ⟨k0, k1, k2⟩ := HKC.out wr HG.out
      by_cases hlt : i < N
      · have hii : (i : Int) < (N : Int) := by omega
        have hlt' : i < es.length := by rw [← HN.out]; exact hlt
        have hltl : i < l.length := by rw [HLN.out]; exact hlt
        obtain ⟨b, off, rfl, e0, e1, e2, e3, e4⟩ := (HX.out.gr (hg0.trans HG.out)).cell hlt'
        have HCi := sec (HCk.out i hlt')
        have hzi := HZ.out _ (List.getElem_mem hlt')
        rw [rpGo_at ss need l i hltl fs, HL.out i hlt' hltl] at hfV
        obtain ⟨E0, hE0⟩ : ∃ E, E = es[i] := ⟨_, rfl⟩
        rw [← hE0] at HCi hfV hzi e0 e1 e2 e3 e4
        clear hE0 hlt' hltl
        obtain ⟨s0, A1, c1, B1, d1⟩ := E0
        simp only at e0 e1 e2 e3 e4 HCi hfV hzi
        have HSi : Sec (∀ W, RfRow W A2 fs.length fs → Calls Tryz.prog 84 #[.slice A2 fs.length c2, .string (bs s0.r), .string (bs s0.o), .string (bs s0.n)] W fun e w' => SetPost W (setR fs s0.r s0.o s0.n) e w') := sec (fun W h => HSe.out s0 fs A2 c2 W h HFN.out (by have := HFL.out; omega) HFS.out hzi.r hzi.o hzi.n)
        have HSZ := sec (setR_sz (name := s0.r) (old := s0.o) (id := s0.n) HFS.out hzi.r hzi.n)
        obtain ⟨y, hy⟩ : ∃ y, y = stCk ss need (i : Int) s0 := ⟨_, rfl⟩
        obtain ⟨U, hU⟩ : ∃ U, U = setR fs s0.r s0.o s0.n := ⟨_, rfl⟩
        rw [← hy] at HCi hfV
        rw [← hU] at HSi HSZ hfV
        have HFV := sec hfV
        obtain ⟨n2, hn2⟩ : ∃ n, n = fs.length := ⟨_, rfl⟩
        have HN2 := sec hn2
        rw [← hn2] at HSi HFR HFL
        rw [← hn2]
        obtain ⟨r, o, n, who, seals⟩ := s0
        simp only [stepA] at HCi
        simp only at e0 e1 e2 e3 e4 HSi
        have HLT := sec hlt
        clear hlt hy hU hfV hzi hfr hfn hfs hfl hn2 HF
        have GA := (Gr.refl wr).alloc (.cells #[.string (bs r), .string (bs o), .string (bs n), .slice A1 who.length c1, .slice B1 seals.length d1] 69)
        have bA := Blk.new wr 69 #[.string (bs r), .string (bs o), .string (bs n), .slice A1 who.length c1, .slice B1 seals.length d1]
        obtain ⟨kk0, kk1, kk2⟩ := HKC.out _ (HG.out.trans GA)
        by_cases hy0 : y = 0
        · subst hy0
          have HFV2 : Sec (V = if U.2 = 0 then rpGo ss need (i + 1) (l.drop (i + 1)) U.1 else ([], (i : Int), U.2)) := sec (by rw [HFV.out, if_pos rfl])
          obtain ⟨U1, U2⟩ := U
          simp only at HFV2 HSZ
          by_cases hU0 : U2 = 0
          · subst hU0
            have HFV3 : Sec (V = rpGo ss need (i + 1) (l.drop (i + 1)) U1) := sec (by rw [HFV2.out, if_pos rfl])
            go_wp2_with (first
              | (go_at_call 83; (with_reducible refine Calls.mono (HCi.out _ (hg0.trans (HG.out.trans GA))) ?_); rintro e w1 ⟨rfl, g1⟩; have G1 := GA.trans g1; have b1 := bA.gr g1; have x0 := b1.cell 0; have x1 := b1.cell 1; have x2 := b1.cell 2)
              | (go_at_call 84; (with_reducible refine Calls.mono (HSi.out _ (HFR.out.gr G1)) ?_); rintro e w2 ⟨A5, c5, n5, hn5, rfl, r5, q5, g5⟩; have HN5 := sec hn5; clear hn5))
            go_roundg (gk - 1)
            case rel => exact ⟨i + 1, A5, n5, c5, by go_num, rfl, by omega, HLT.out, sec ⟨U1, HN5.out, by rw [← HN5.out]; exact r5, by rw [← HN5.out]; exact q5, HSZ.out.1, by have := HSZ.out.2; have := HFL.out; have := HN2.out; omega, HFV3.out⟩, sec ((HG.out.trans G1).trans g5)⟩
            case measure => have := HLT.out; omega
          · have HFV3 : Sec (V = ([], (i : Int), U2)) := sec (by rw [HFV2.out, if_neg hU0])
            have hub : (U2 != 0) = true := by rw [bne_iff_ne]; exact hU0
            have hub2 : (U2 == 0) = false := by rw [beq_eq_false_iff_ne]; exact hU0
            clear hU0
            go_wp2_with (first
              | (go_at_call 83; (with_reducible refine Calls.mono (HCi.out _ (hg0.trans (HG.out.trans GA))) ?_); rintro e w1 ⟨rfl, g1⟩; have G1 := GA.trans g1; have b1 := bA.gr g1; have x0 := b1.cell 0; have x1 := b1.cell 1; have x2 := b1.cell 2)
              | (go_at_call 84; (with_reducible refine Calls.mono (HSi.out _ (HFR.out.gr G1)) ?_); rintro e w2 ⟨A5, c5, n5, hn5, rfl, r5, q5, g5⟩; clear hn5))
            go_ret3
            rw [HFV3.out]
            exact ⟨none, 0, 0, rfl, rfl, Row.nil _ 2 none, hg0.trans ((HG.out.trans G1).trans g5)⟩
        · have HFV3 : Sec (V = ([], (i : Int), y)) := sec (by rw [HFV.out, if_neg hy0])
          have hyb : (y != 0) = true := by rw [bne_iff_ne]; exact hy0
          have hyb2 : (y == 0) = false := by rw [beq_eq_false_iff_ne]; exact hy0
          clear hy0
          go_wp2_with (first
            | (go_at_call 83; (with_reducible refine Calls.mono (HCi.out _ (hg0.trans (HG.out.trans GA))) ?_); rintro e w1 ⟨rfl, g1⟩; have G1 := GA.trans g1))
          go_ret3
          rw [HFV3.out]
          exact ⟨none, 0, 0, rfl, rfl, Row.nil _ 2 none, hg0.trans (HG.out.trans G1)⟩
      · have q1 : decide (i < N) = false := decide_eq_false hlt
        have hfin : V = (fs, 0, 0) := by
          rw [hfV, List.drop_eq_nil_of_le (by rw [HLN.out]; omega)]
          rfl
        have HFV3 := sec hfin
        obtain ⟨n2, hn2⟩ : ∃ n, n = fs.length := ⟨_, rfl⟩
        have HN2 := sec hn2
        rw [← hn2] at HFR
        rw [← hn2]
        clear hn2 hfV hlt hfin hfr hfn hfs hfl HF
        go_wp2_with fail
        go_ret3
        rw [HFV3.out]
        exact ⟨A2, c2, n2, HN2.out, rfl, HFR.out, hg0.trans HG.out⟩
end Go.Proofs.YtoamnifnfkgbiaaGreatDoor

namespace Go.Proofs.YtoamnifnfkgbiaaGreatDoor
set_option maxRecDepth 100000
open Go.RowKit
set_option linter.unusedVariables false

/-- what a rising hands back -/
def RisePost (w : World) (x : RiseR) (inp : Array Value) (n : Nat) (e : Ending) (w' : World) : Prop :=
  match x with
  | .same er => e = .returned (.tuple #[.agg inp, .int .i64 er]) ∧ Gr w w'
  | .fresh gs u => ∃ A' c', e = .returned (.tuple #[.agg (cliA A' n c' u 0 (sha []) none 0 0 none 0 0), .int .i64 0]) ∧ FRow w' A' n gs ∧ Gr w w'
  | .full gs u sz rt l rs => ∃ A' c' B' d' C' e' es', es'.map (·.s) = l ∧ e = .returned (.tuple #[.agg (cliA A' n c' u sz rt B' l.length d' C' rs.length e'), .int .i64 0]) ∧ CliV w' gs es' rs A' n B' l.length C' rs.length ∧ (∀ x ∈ es', StO w.heap.size w' x) ∧ Gr w w'

theorem StO.onlyR {b : Nat} {w w' : World} {e : SA} {g : Nat} {T : TypeId} {cs : Array Value} (h : StO b w e) (hb : Blk w g T cs) (h1 : 3 ≠ T) (h2 : 9 ≠ T) (k : w.grownBy w' (some g)) : StO b w' e := ⟨own_only h.who hb h1 k, own_only h.seals hb h2 k⟩

/-- a list of refs does not lie in a block that holds a client: of two cells side by side one is no string -/
theorem rf_aside {w : World} {g n : Nat} {C : Option Addr} {rs : List Rf} {a : Option Addr} {n1 n2 n3 c1 c2 c3 : Nat} {u sz : Int} {r : List UInt8} {d e : Option Addr} (hb : Blk w g 30 #[.slice a n1 c1, .int .i64 u, .int .i64 sz, .string (bs r), .slice d n2 c2, .slice e n3 c3]) (h : RfRow w C n rs) : 0 < n → ∀ b off, C = some ⟨b, off, none⟩ → b ≠ g := by
  intro hn b off hC hbg
  subst hbg
  have hl := Row.flen refV (fun _ => rfl) (by omega) h
  obtain ⟨b', off', e', _, hc⟩ := Row.fcell refV (fun _ => rfl) (by omega) h (i := 0) (by omega)
  rw [hC] at e'
  injection e' with e'
  injection e' with e1 e2
  subst e1
  subst e2
  have h0 := hc 0 _ rfl
  have h1 := hc 1 _ rfl
  rw [hb.cell] at h0 h1
  simp only [Nat.zero_mul, Nat.add_zero] at h0 h1
  match off, h0, h1 with
  | 0, h0, _ => simp at h0
  | 1, h0, _ => simp at h0
  | 2, h0, _ => simp at h0
  | 3, _, h1 => simp at h1
  | 4, h0, _ => simp at h0
  | 5, h0, _ => simp at h0
  | k + 6, h0, _ => simp at h0

set_option maxHeartbeats 16000000 in
theorem rise_any (fs : List Fl) (f sz : Int) (r : List UInt8) (A : Option Addr) (n c : Nat) (B : Option Addr) (m d : Nat) (C : Option Addr) (k e : Nat) (keep : Int) (A0 : Option Addr) (m0 c0 : Nat) (B0 : Option Addr) (m1 d0 : Nat) (need : Int) (ss : List (List UInt8)) (w : World)
    (hx : FRow w A n fs) (hA : A = none → n = 0 ∧ c = 0) (hn : n ≤ 1048576) (hs : ∀ f ∈ fs, f.1.length ≤ 1099511627776 ∧ f.2.1.length ≤ 1099511627776 ∧ f.2.2.length ≤ 1099511627776)
    (hK : StrRow w A0 m0 ss) (hm : m0 ≤ 1099511627776) (hss : ∀ x ∈ ss, x.length ≤ 1099511627776) (hT : TabK w) :
    Calls Tryz.prog 6 #[.agg (cliA A n c f sz r B m d C k e), .agg (keysA A0 m0 c0 B0 m1 d0 need), .int .i64 keep] w (RisePost w (riseR fs f keep ss need) (cliA A n c f sz r B m d C k e) n) := by
  unfold cliA keysA
  obtain ⟨wa, hwa⟩ : ∃ x, x = ((w.alloc (.cells #[.slice A n c, .int .i64 f, .int .i64 sz, .string (bs r), .slice B m d, .slice C k e] 30)).alloc (.cells #[.slice A0 m0 c0, .slice B0 m1 d0, .int .i64 need] 33)).alloc (.cells #[.slice none 0 0, .int .i64 0, .int .i64 0, .string (bs []), .slice none 0 0, .slice none 0 0] 30) := ⟨_, rfl⟩
  have G0 : Gr w wa := by rw [hwa]; exact (((Gr.refl w).alloc _).alloc _).alloc _
  have b0 : Blk wa w.heap.size 30 #[.slice A n c, .int .i64 f, .int .i64 sz, .string (bs r), .slice B m d, .slice C k e] := by rw [hwa]; exact ((Blk.new w _ _).alloc _).alloc _
  have b1 : Blk wa (w.heap.size + 1) 33 #[.slice A0 m0 c0, .slice B0 m1 d0, .int .i64 need] := by rw [hwa]; exact (Blk.new1 w _ _ _).alloc _
  have b2 : Blk wa (w.heap.size + 2) 30 #[.slice none 0 0, .int .i64 0, .int .i64 0, .string (bs []), .slice none 0 0, .slice none 0 0] := by rw [hwa]; exact Blk.newAt (by simp) _ _
  obtain ⟨p, hp⟩ : ∃ p, p = w.heap.size := ⟨_, rfl⟩
  rw [← hp] at b0 b1 b2
  have HSK : Sec (∀ W, Gr wa W → W.cell? ⟨p, 0, none⟩ = some (.slice A n c) ∧ W.cell? ⟨p, 1, none⟩ = some (.int .i64 f) ∧ W.cell? ⟨p, 2, none⟩ = some (.int .i64 sz) ∧ W.cell? ⟨p, 3, none⟩ = some (.string (bs r)) ∧ W.cell? ⟨p, 4, none⟩ = some (.slice B m d) ∧ W.cell? ⟨p, 5, none⟩ = some (.slice C k e) ∧ W.cell? ⟨p + 1, 0, none⟩ = some (.slice A0 m0 c0) ∧ W.cell? ⟨p + 1, 1, none⟩ = some (.slice B0 m1 d0) ∧ W.cell? ⟨p + 1, 2, none⟩ = some (.int .i64 need) ∧ W.cell? ⟨p + 2, 0, none⟩ = some (.slice none 0 0) ∧ W.cell? ⟨p + 2, 1, none⟩ = some (.int .i64 0) ∧ W.cell? ⟨p + 2, 2, none⟩ = some (.int .i64 0) ∧ W.cell? ⟨p + 2, 3, none⟩ = some (.string (bs [])) ∧ W.cell? ⟨p + 2, 4, none⟩ = some (.slice none 0 0) ∧ W.cell? ⟨p + 2, 5, none⟩ = some (.slice none 0 0) ∧ W.frozen? ⟨p + 2, 0, none⟩ = false ∧ W.frozen? ⟨p + 2, 1, none⟩ = false ∧ W.frozen? ⟨p + 2, 2, none⟩ = false ∧ W.frozen? ⟨p + 2, 3, none⟩ = false ∧ W.frozen? ⟨p + 2, 4, none⟩ = false ∧ W.frozen? ⟨p + 2, 5, none⟩ = false) := sec (fun W g => ⟨(b0.gr g).cell 0, (b0.gr g).cell 1, (b0.gr g).cell 2, (b0.gr g).cell 3, (b0.gr g).cell 4, (b0.gr g).cell 5, (b1.gr g).cell 0, (b1.gr g).cell 1, (b1.gr g).cell 2, (b2.gr g).cell 0, (b2.gr g).cell 1, (b2.gr g).cell 2, (b2.gr g).cell 3, (b2.gr g).cell 4, (b2.gr g).cell 5, (b2.gr g).frozen 0, (b2.gr g).frozen 1, (b2.gr g).frozen 2, (b2.gr g).frozen 3, (b2.gr g).frozen 4, (b2.gr g).frozen 5⟩)
  have HQ := sec b2
  have HP := sec (show w.heap.size ≤ p + 2 by omega)
  have HZ : Sec (∀ W v0 v1 v2 v3 v4 v5, Gr wa W → Gr w ((((((W.setCell ⟨p + 2, 0, none⟩ v0).setCell ⟨p + 2, 1, none⟩ v1).setCell ⟨p + 2, 2, none⟩ v2).setCell ⟨p + 2, 3, none⟩ v3).setCell ⟨p + 2, 4, none⟩ v4).setCell ⟨p + 2, 5, none⟩ v5)) := sec (fun W v0 v1 v2 v3 v4 v5 g =>
    ((((((G0.trans g).setCell (p := ⟨p + 2, 0, none⟩) HP.out _).setCell (p := ⟨p + 2, 1, none⟩) HP.out _).setCell (p := ⟨p + 2, 2, none⟩) HP.out _).setCell (p := ⟨p + 2, 3, none⟩) HP.out _).setCell (p := ⟨p + 2, 4, none⟩) HP.out _).setCell (p := ⟨p + 2, 5, none⟩) HP.out _)
  have HCr : Sec (∀ W, Gr wa W → Calls Tryz.prog 27 #[diskV A n c f, .int .i64 keep] W fun e w' => ∃ A' cap', e = .returned (.tuple #[diskV A' n cap' (crashR fs f keep).2.1, .int .i64 (crashR fs f keep).2.2]) ∧ (FRow w' A' n (crashR fs f keep).1 ∧ (0 < n → ∀ b off, A' = some ⟨b, off, none⟩ → b ≠ p + 2)) ∧ Gr W w') := sec (fun W g => (crash_any fs A n c f keep W (by omega) (hx.gr (G0.trans g)) hA hs).mono fun e w' ⟨A', c', h1, h2, h3, h4⟩ => ⟨A', c', h1, ⟨h2, fun h0 b off e => by
    have hlt := b2.lt
    have hsz := g.size
    rcases h4 with h4 | h4
    · obtain ⟨b', off', e', hb'⟩ := Row.lt hx h0 (by omega)
      rw [h4, e'] at e
      injection e with e; injection e with e1 _
      omega
    · subst e
      have := (h4.lt b rfl).1
      omega⟩, h3⟩)
  have HZF : Sec (∀ W v0 v1 v2 v3 v4 v5 A1 gs, FRow W A1 n gs → (0 < n → ∀ b off, A1 = some ⟨b, off, none⟩ → b ≠ p + 2) → FRow ((((((W.setCell ⟨p + 2, 0, none⟩ v0).setCell ⟨p + 2, 1, none⟩ v1).setCell ⟨p + 2, 2, none⟩ v2).setCell ⟨p + 2, 3, none⟩ v3).setCell ⟨p + 2, 4, none⟩ v4).setCell ⟨p + 2, 5, none⟩ v5) A1 n gs) := sec (fun W v0 v1 v2 v3 v4 v5 A1 gs h hne =>
    Row.only (Row.only (Row.only (Row.only (Row.only (Row.only h (grown_setCell _ ⟨p + 2, 0, none⟩ v0) hne) (grown_setCell _ ⟨p + 2, 1, none⟩ v1) hne) (grown_setCell _ ⟨p + 2, 2, none⟩ v2) hne) (grown_setCell _ ⟨p + 2, 3, none⟩ v3) hne) (grown_setCell _ ⟨p + 2, 4, none⟩ v4) hne) (grown_setCell _ ⟨p + 2, 5, none⟩ v5) hne)
  obtain ⟨V, hV⟩ : ∃ V, V = riseR fs f keep ss need := ⟨_, rfl⟩
  obtain ⟨⟨gs, u, ce⟩, hR⟩ : ∃ R, R = crashR fs f keep := ⟨_, rfl⟩
  have HV : Sec (V = if ce = 0 then (if (chk gs trustN).2 = 7 then .fresh gs u else if (chk gs trustN).2 = 0 then riseB gs u ss need (chk gs trustN).1 else .same (chk gs trustN).2) else .same ce) := sec (by rw [hV]; unfold riseR; rw [← hR])
  have hcz := crash_sz (f := f) (keep := keep) hs
  rw [← hR] at HCr hcz
  rw [← hV]
  have HCk : Sec (∀ W A' c', FRow W A' n gs → Gr wa W → Calls Tryz.prog 28 #[diskV A' n c' u, .string { data := #[116, 114, 117, 115, 116] }] W fun e w' => e = .returned (.tuple #[.string (bs (chk gs trustN).1), .int .i64 (chk gs trustN).2]) ∧ Gr W w') := sec (fun W A' c' h g => checked_any gs trustN A' n c' u W (by omega) h hcz ((hT.gr G0).gr g))
  have HEm : Sec (∀ W, Gr wa W → Calls Tryz.prog 29 #[] W fun e w' => e = .returned (.agg (headC 0 (sha []))) ∧ Gr W w') := sec (fun W g => empty_any W ((hT.gr G0).gr g))
  have hkl : (chk gs trustN).1.length ≤ 1048576 := chk_len gs trustN
  obtain ⟨⟨kb, ke⟩, hKc⟩ : ∃ R, R = chk gs trustN := ⟨_, rfl⟩
  rw [← hKc] at hkl
  simp only at hkl
  rw [← hKc] at HCk HV
  unfold headC at HEm
  unfold diskV at HCr HCk
  simp only at HCr HCk HV
  have HG := sec G0
  have HT0 := sec hT
  obtain ⟨a0, a1, a2, a3, a4, a5, k0, k1, k2, q0, q1, q2, q3, q4, q5, z0, z1, z2, z3, z4, z5⟩ := HSK.out wa (Gr.refl _)
  clear hV hR hx hA hs hcz hKc b0 b1 b2 G0
  go_enter Tryz.func6, Tryz.ntmps6
  go_upto_region 1 with fail
  rw [← hwa, ← hp]
  clear hwa hp
  by_cases hce : ce = 0
  case neg =>
    have qe : (ce != 0) = true := by rw [bne_iff_ne]; exact hce
    have HXX : Sec (V = .same ce) := sec (by rw [HV.out, if_neg hce])
    clear hce
    go_wp2_with (go_at_call 27; (with_reducible refine Calls.mono (HCr.out wa (Gr.refl _)) ?_); rintro e w1 ⟨A1, c1, rfl, ⟨x1, hne1⟩, g1⟩; have h1 := g1.alloc (.cells #[.slice A1 n c1, .int .i64 u] 24); obtain ⟨a0, a1, a2, a3, a4, a5, k0, k1, k2, q0, q1, q2, q3, q4, q5, z0, z1, z2, z3, z4, z5⟩ := HSK.out _ h1)
    refine bodyPost_ret (results_blk_tmp rfl _ rfl (((((((HQ.out.gr h1).set_ 0 (.slice A n c)).set_ 1 (.int .i64 f)).set_ 2 (.int .i64 sz)).set_ 3 (.string (bs r))).set_ 4 (.slice B m d)).set_ 5 (.slice C k e)) aggCli) rfl ?_
    rw [HXX.out]
    exact ⟨rfl, HZ.out _ _ _ _ _ _ _ h1⟩
  subst hce
  have qce : ((0 : Int) != 0) = false := by decide
  have HV2 : Sec (V = if ke = 7 then .fresh gs u else if ke = 0 then riseB gs u ss need kb else .same ke) := sec (by rw [HV.out, if_pos rfl])
  clear HV
  by_cases h7 : ke = 7
  · subst h7
    have HXX : Sec (V = .fresh gs u) := sec (by rw [HV2.out, if_pos rfl])
    clear HV2
    go_upto_region 6 with (first
      | (go_at_call 27; (with_reducible refine Calls.mono (HCr.out wa (Gr.refl _)) ?_); rintro e w1 ⟨A1, c1, rfl, ⟨x1, hne1⟩, g1⟩; have h1 := g1.alloc (.cells #[.slice A1 n c1, .int .i64 u] 24); have hq1 := Blk.new w1 24 #[.slice A1 n c1, .int .i64 u]; have x1' := x1.gr ((Gr.refl w1).alloc (.cells #[.slice A1 n c1, .int .i64 u] 24)); obtain ⟨a0, a1, a2, a3, a4, a5, k0, k1, k2, q0, q1, q2, q3, q4, q5, z0, z1, z2, z3, z4, z5⟩ := HSK.out _ h1)
      | (go_at_call 28; refine Calls.mono (HCk.out _ A1 c1 x1' h1) ?_; rintro e w2 ⟨rfl, g2⟩; have h2 := h1.trans g2; have d0' : w2.cell? ⟨w1.heap.size, 0, none⟩ = some (.slice A1 n c1) := (hq1.gr g2).cell 0; have d1' : w2.cell? ⟨w1.heap.size, 1, none⟩ = some (.int .i64 u) := (hq1.gr g2).cell 1; obtain ⟨a0, a1, a2, a3, a4, a5, k0, k1, k2, q0, q1, q2, q3, q4, q5, z0, z1, z2, z3, z4, z5⟩ := HSK.out _ h2))
    have gd : Gr w2 w2.drew := (Gr.refl w2).drew
    have H2d := h2.trans gd
    obtain ⟨a0, a1, a2, a3, a4, a5, k0, k1, k2, q0, q1, q2, q3, q4, q5, z0, z1, z2, z3, z4, z5⟩ := HSK.out _ H2d
    have e0 : w2.drew.cell? ⟨w1.heap.size, 0, none⟩ = some (.slice A1 n c1) := d0'
    have e1 : w2.drew.cell? ⟨w1.heap.size, 1, none⟩ = some (.int .i64 u) := d1'
    go_region_with (go_at_call 29; (with_reducible refine Calls.mono (HEm.out w2.drew H2d) ?_); rintro e w3 ⟨rfl, g3⟩; have h3 := H2d.trans g3; have e03 : w3.cell? ⟨w1.heap.size, 0, none⟩ = some (.slice A1 n c1) := (hq1.gr (g2.trans (gd.trans g3))).cell 0; have e13 : w3.cell? ⟨w1.heap.size, 1, none⟩ = some (.int .i64 u) := (hq1.gr (g2.trans (gd.trans g3))).cell 1; obtain ⟨a0, a1, a2, a3, a4, a5, k0, k1, k2, q0, q1, q2, q3, q4, q5, z0, z1, z2, z3, z4, z5⟩ := HSK.out _ h3)
    all_goals
      go_wp2_with fail
      refine bodyPost_ret (results_blk_tmp rfl _ rfl (((((((HQ.out.gr h3).set_ 0 (.slice A1 n c1)).set_ 1 (.int .i64 u)).set_ 2 (.int .i64 0)).set_ 3 (.string (bs (sha [])))).set_ 4 (.slice none 0 0)).set_ 5 (.slice none 0 0)) aggCli) rfl ?_
      rw [HXX.out]
      exact ⟨A1, c1, rfl, HZF.out _ _ _ _ _ _ _ _ _ (x1'.gr (g2.trans (gd.trans g3))) hne1, HZ.out _ _ _ _ _ _ _ h3⟩
  have q7 : (ke == 7) = false := by rw [beq_eq_false_iff_ne]; exact h7
  have HV3 : Sec (V = if ke = 0 then riseB gs u ss need kb else .same ke) := sec (by rw [HV2.out, if_neg h7])
  clear HV2 h7
  by_cases hke : ke = 0
  case neg =>
    have qk : (ke != 0) = true := by rw [bne_iff_ne]; exact hke
    have HXX : Sec (V = .same ke) := sec (by rw [HV3.out, if_neg hke])
    clear HV3 hke
    go_wp2_with (first
      | (go_at_call 27; (with_reducible refine Calls.mono (HCr.out wa (Gr.refl _)) ?_); rintro e w1 ⟨A1, c1, rfl, ⟨x1, hne1⟩, g1⟩; have h1 := g1.alloc (.cells #[.slice A1 n c1, .int .i64 u] 24); have hq1 := Blk.new w1 24 #[.slice A1 n c1, .int .i64 u]; have x1' := x1.gr ((Gr.refl w1).alloc (.cells #[.slice A1 n c1, .int .i64 u] 24)); obtain ⟨a0, a1, a2, a3, a4, a5, k0, k1, k2, q0, q1, q2, q3, q4, q5, z0, z1, z2, z3, z4, z5⟩ := HSK.out _ h1)
      | (go_at_call 28; refine Calls.mono (HCk.out _ A1 c1 x1' h1) ?_; rintro e w2 ⟨rfl, g2⟩; have h2 := h1.trans g2; have d0' : w2.cell? ⟨w1.heap.size, 0, none⟩ = some (.slice A1 n c1) := (hq1.gr g2).cell 0; have d1' : w2.cell? ⟨w1.heap.size, 1, none⟩ = some (.int .i64 u) := (hq1.gr g2).cell 1; obtain ⟨a0, a1, a2, a3, a4, a5, k0, k1, k2, q0, q1, q2, q3, q4, q5, z0, z1, z2, z3, z4, z5⟩ := HSK.out _ h2))
    refine bodyPost_ret (results_blk_tmp rfl _ rfl (((((((HQ.out.gr h2).set_ 0 (.slice A n c)).set_ 1 (.int .i64 f)).set_ 2 (.int .i64 sz)).set_ 3 (.string (bs r))).set_ 4 (.slice B m d)).set_ 5 (.slice C k e)) aggCli) rfl ?_
    rw [HXX.out]
    exact ⟨rfl, HZ.out _ _ _ _ _ _ _ h2⟩
  subst hke
  have qk : ((0 : Int) != 0) = false := by decide
  have HV4 : Sec (V = riseB gs u ss need kb) := sec (by rw [HV3.out, if_pos rfl])
  clear HV3
  obtain ⟨sz0, hz0⟩ : ∃ z, z = nxtN (kb, 0) := ⟨_, rfl⟩
  obtain ⟨rt0, hr0⟩ : ∃ z, z = nxtB 32 (aftN (kb, 0)) := ⟨_, rfl⟩
  obtain ⟨qs, hq0⟩ : ∃ z, z = aftB 32 (aftN (kb, 0)) := ⟨_, rfl⟩
  obtain ⟨fC, hfC⟩ : ∃ f, f = riseC gs u ss need (sz0 : Int) rt0 := ⟨_, rfl⟩
  have HVK : Sec (RdK fC V qs []) := sec ⟨qs.1.length + 1, by omega, by rw [HV4.out, hfC, hz0, hr0, hq0]; rfl⟩
  have hql : qs.1.length ≤ 1048576 := by
    have h1 := aftB_le 32 (aftN (kb, 0))
    have h2 := aftN_le (kb, 0)
    rw [hq0]
    simp only at h2
    omega
  have HRd : Sec (∀ W, Calls Tryz.prog 30 #[.string (bs kb)] W fun e w' => e = .returned (.pointer (some ⟨W.heap.size, 0, none⟩)) ∧ RdAt 113 w' W.heap.size (kb, 0) ∧ Gr W w') := sec (fun W => rdRead kb W (by omega))
  have HN : Sec (∀ g W, RdAt 113 W g (kb, 0) → Calls Tryz.prog 31 #[.pointer (some ⟨g, 0, none⟩)] W fun e w' => e = .returned (.int .i64 (sz0 : Int)) ∧ RdAt 113 w' g (aftN (kb, 0)) ∧ W.grownBy w' (some g)) := sec (fun g W h => by rw [hz0]; exact rdNumber g (kb, 0) W h)
  have HB : Sec (∀ g W, RdAt 113 W g (aftN (kb, 0)) → Calls Tryz.prog 32 #[.pointer (some ⟨g, 0, none⟩), .int .i64 32] W fun e w' => e = .returned (.string (bs rt0)) ∧ RdAt 113 w' g qs ∧ W.grownBy w' (some g)) := sec (fun g W h => by rw [hr0, hq0]; exact rdBytes g (aftN (kb, 0)) 32 W h (by omega))
  have hz0l : sz0 < 4611686018427387904 := by rw [hz0]; exact nxtN_ltD _
  have HfC := sec hfC
  clear hz0 hr0 hq0 hfC HV4
  go_upto_region 12 with (first
    | (go_at_call 27; (with_reducible refine Calls.mono (HCr.out wa (Gr.refl _)) ?_); rintro e w1 ⟨A1, c1, rfl, ⟨x1, hne1⟩, g1⟩; have h1 := g1.alloc (.cells #[.slice A1 n c1, .int .i64 u] 24); have hq1 := Blk.new w1 24 #[.slice A1 n c1, .int .i64 u]; have x1' := x1.gr ((Gr.refl w1).alloc (.cells #[.slice A1 n c1, .int .i64 u] 24)); obtain ⟨a0, a1, a2, a3, a4, a5, k0, k1, k2, q0, q1, q2, q3, q4, q5, z0, z1, z2, z3, z4, z5⟩ := HSK.out _ h1)
    | (go_at_call 28; refine Calls.mono (HCk.out _ A1 c1 x1' h1) ?_; rintro e w2 ⟨rfl, g2⟩; have h2 := h1.trans g2; have d0' : w2.cell? ⟨w1.heap.size, 0, none⟩ = some (.slice A1 n c1) := (hq1.gr g2).cell 0; have d1' : w2.cell? ⟨w1.heap.size, 1, none⟩ = some (.int .i64 u) := (hq1.gr g2).cell 1; obtain ⟨a0, a1, a2, a3, a4, a5, k0, k1, k2, q0, q1, q2, q3, q4, q5, z0, z1, z2, z3, z4, z5⟩ := HSK.out _ h2)
    | (go_at_call 30; (with_reducible refine Calls.mono (HRd.out w2) ?_); rintro e w3 ⟨rfl, rd3, g3⟩; have h3 := h2.trans g3)
    | (go_at_call 31; (with_reducible refine Calls.mono (HN.out w2.heap.size w3 rd3) ?_); rintro e w4 ⟨rfl, rd4, k4⟩)
    | (go_at_call 32; (with_reducible refine Calls.mono (HB.out w2.heap.size w4 rd4) ?_); rintro e w5 ⟨rfl, rd5, k5⟩))
  have G25 : Gr w2 w5 := gr_only (gr_only g3 k4 (Nat.le_refl _)) k5 (Nat.le_refl _)
  have gl0 := G25.alloc (.cells #[.int .i64 (sz0 : Int), .string (bs rt0)] 26)
  have hhb0 := Blk.new w5 26 #[.int .i64 (sz0 : Int), .string (bs rt0)]
  have rdl0 := rd5.gr ((Gr.refl w5).alloc (.cells #[.int .i64 (sz0 : Int), .string (bs rt0)] 26))
  obtain ⟨hd, hhd⟩ : ∃ x, x = w5.heap.size := ⟨_, rfl⟩
  have hG5 : w2.heap.size < hd := by rw [hhd]; exact rd5.blk.lt
  have hwl5 : (w5.alloc (.cells #[.int .i64 (sz0 : Int), .string (bs rt0)] 26)).heap.size = hd + 1 := by rw [hhd]; simp
  obtain ⟨wl, hwl⟩ : ∃ x, x = w5.alloc (.cells #[.int .i64 (sz0 : Int), .string (bs rt0)] 26) := ⟨_, rfl⟩
  rw [← hwl] at gl0 hhb0 rdl0 hwl5
  rw [← hhd] at hhb0
  have HCD : Sec (∀ W, Gr w2 W → W.cell? ⟨w1.heap.size, 0, none⟩ = some (.slice A1 n c1) ∧ W.cell? ⟨w1.heap.size, 1, none⟩ = some (.int .i64 u)) := sec (fun W g => ⟨(hq1.gr (g2.trans g)).cell 0, (hq1.gr (g2.trans g)).cell 1⟩)
  have HFX : Sec (∀ W, Gr w2 W → FRow W A1 n gs) := sec (fun W g => x1'.gr (g2.trans g))
  have HWA : Sec (∀ W, Gr w2 W → Gr wa W) := sec (fun W g => h2.trans g)
  have HNE := sec hne1
  have HGL := sec gl0
  have HHB := sec hhb0
  have HRL := sec rdl0
  have HSZL := sec hwl5
  have HP2 : Sec (p + 2 < w2.heap.size) := sec (HQ.out.gr h2).lt
  have HTW : Sec (TabK w2) := sec ((HT0.out.gr HG.out).gr h2)
  rw [← hwl, ← hhd]
  obtain ⟨G, hGG⟩ : ∃ x, x = w2.heap.size := ⟨_, rfl⟩
  obtain ⟨dd, hdd⟩ : ∃ x, x = w1.heap.size := ⟨_, rfl⟩
  rw [← hGG] at HRL HP2 hG5
  rw [← hdd] at HCD
  rw [← hGG, ← hdd]
  have HGsz := sec hGG
  have HGd := sec hG5
  clear hwl hhd hGG hdd hG5 rd3 rd4 rd5 k4 k5 g3 h3 G25 gl0 hhb0 rdl0 hwl5 d0' d1' x1' hne1 hq1 g2 h2 g1 h1 x1 HRd HN HB HCr HCk HEm a0 a1 a2 a3 a4 a5 k0 k1 k2 q0 q1 q2 q3 q4 q5 z0 z1 z2 z3 z4 z5
  have HLe : Sec (∀ q W, RdAt 113 W G q → Calls Tryz.prog 33 #[.pointer (some ⟨G, 0, none⟩)] W fun e w' => e = .returned (.int .i64 (q.1.length : Int)) ∧ W = w') := sec (fun q W h => rdLeft G q W h)
  have HBd : Sec (∀ q W, RdAt 113 W G q → Calls Tryz.prog 34 #[.pointer (some ⟨G, 0, none⟩)] W fun e w' => e = .returned (.int .i64 (q.2 : Int)) ∧ W = w') := sec (fun q W h => rdBad G q W h)
  have HTx : Sec (∀ q W, RdAt 113 W G q → Calls Tryz.prog 36 #[.pointer (some ⟨G, 0, none⟩)] W fun e w' => e = .returned (.string (bs (nxtT q))) ∧ RdAt 113 w' G (aftT q) ∧ W.grownBy w' (some G)) := sec (fun q W h => rdText G q W h)
  have HQL := sec hql
  go_loopg [13, 14, 15] qs.1.length (fun fuel lv _ _ wr => ∃ (q : St) (Al : Option Addr) (cl n0 : Nat) (es' : List SA), lv = .slice Al n0 cl ∧ q.1.length ≤ fuel ∧ n0 + q.1.length ≤ 1048576 ∧ Sec (es'.length = n0) ∧ Sec (RdK fC V q (es'.map (·.s))) ∧
    Sec (RdAt 113 wr G q) ∧ Sec (Blk wr hd 26 #[.int .i64 (sz0 : Int), .string (bs rt0)]) ∧ Sec (wr.ownsRow (hd + 1) 69 5 (.slice Al n0 cl) n0 (es'.flatMap stpV)) ∧ Sec (∀ e ∈ es', StO (hd + 1) wr e) ∧ Sec (∀ e ∈ es', StSz 1099511627776 e.s) ∧ Sec (Gr w2 wr))
  case atStart => exact ⟨qs, none, 0, 0, [], rfl, Nat.le_refl _, by omega, sec rfl, HVK, HRL, HHB, sec (World.ownsRow_nil _ _ _ _), sec (by simp), sec (by simp), HGL⟩
  case round =>
    obtain ⟨q, Al, cl, n0, es', rfl, hfu, hnq, HL, HK, HD, HH, HO, HE, HZs, HGr⟩ := hrel
    obtain ⟨L, hL⟩ : ∃ L, L = q.1.length := ⟨_, rfl⟩
    obtain ⟨Eb, hE⟩ : ∃ Eb, Eb = q.2 := ⟨_, rfl⟩
    have HLq : Sec (Calls Tryz.prog 33 #[.pointer (some ⟨G, 0, none⟩)] wr fun e w' => e = .returned (.int .i64 (L : Int)) ∧ wr = w') := sec (by rw [hL]; exact HLe.out q wr HD.out)
    have HBq : Sec (Calls Tryz.prog 34 #[.pointer (some ⟨G, 0, none⟩)] wr fun e w' => e = .returned (.int .i64 (Eb : Int)) ∧ wr = w') := sec (by rw [hE]; exact HBd.out q wr HD.out)
    obtain ⟨go, hgo⟩ : ∃ go : Bool, go = decide (¬ (q.1.length = 0 ∨ q.2 ≠ 0)) := ⟨_, rfl⟩
    have HGO := sec hgo
    rw [← hL] at hfu hnq
    have HLL := sec hL
    have HEE := sec hE
    clear hgo hL hE
    go_upto_region 12 with fail
    go_cut [58] from 51 to 58 (fun v wc => v = .bool go ∧ wr = wc)
    case first =>
      by_cases hL0 : 0 < L
      · have hLi : (0 : Int) < (L : Int) := by omega
        have hLd : decide (0 < L) = true := decide_eq_true hL0
        by_cases hE0 : Eb = 0
        · have hEi : ((Eb : Int) == 0) = true := by rw [beq_iff_eq]; omega
          have HGO1 : Sec (go = true) := sec (by rw [HGO.out]; exact decide_eq_true (by have h1 := HLL.out; have h2 := HEE.out; omega))
          clear hE0
          go_wp2_with (first
            | (go_at_call 33; (with_reducible refine Calls.mono HLq.out ?_); rintro e w6 ⟨rfl, rfl⟩)
            | (go_at_call 34; (with_reducible refine Calls.mono HBq.out ?_); rintro e w6 ⟨rfl, rfl⟩))
          go_meet
          exact ⟨by rw [HGO1.out], rfl⟩
        · have hEi : ((Eb : Int) == 0) = false := by rw [beq_eq_false_iff_ne]; omega
          have HGO1 : Sec (go = false) := sec (by rw [HGO.out]; exact decide_eq_false (by have h1 := HLL.out; have h2 := HEE.out; omega))
          clear hE0
          go_wp2_with (first
            | (go_at_call 33; (with_reducible refine Calls.mono HLq.out ?_); rintro e w6 ⟨rfl, rfl⟩)
            | (go_at_call 34; (with_reducible refine Calls.mono HBq.out ?_); rintro e w6 ⟨rfl, rfl⟩))
          go_meet
          exact ⟨by rw [HGO1.out], rfl⟩
      · have hLi : ¬ (0 : Int) < (L : Int) := by omega
        have hLd : decide (0 < L) = false := decide_eq_false hL0
        have HGO1 : Sec (go = false) := sec (by rw [HGO.out]; exact decide_eq_false (by have h1 := HLL.out; have h2 := HEE.out; omega))
        go_wp2_with (first
          | (go_at_call 33; (with_reducible refine Calls.mono HLq.out ?_); rintro e w6 ⟨rfl, rfl⟩))
        go_meet
        exact ⟨by rw [HGO1.out], rfl⟩
    case rest =>
      obtain ⟨rfl, rfl⟩ := hcut
      clear HLq HBq
      by_cases hg : go = true
      · have HST : Sec (¬ (q.1.length = 0 ∨ q.2 ≠ 0)) := sec (of_decide_eq_true (by rw [← HGO.out]; exact hg))
        obtain ⟨x, hx⟩ : ∃ x, x = nxtT q := ⟨_, rfl⟩
        obtain ⟨y, hy⟩ : ∃ y, y = (dcR x).2 := ⟨_, rfl⟩
        obtain ⟨s0, hs0⟩ : ∃ y, y = (dcR x).1 := ⟨_, rfl⟩
        have hxl : x.length ≤ 1099511627775 := by have h1 := nxtT_le q; have h2 := HLL.out; have h3 := HQL.out; rw [hx]; omega
        have HTq : Sec (Calls Tryz.prog 36 #[.pointer (some ⟨G, 0, none⟩)] wr fun e w' => e = .returned (.string (bs x)) ∧ RdAt 113 w' G (aftT q) ∧ wr.grownBy w' (some G)) := sec (by rw [hx]; exact HTx.out q wr HD.out)
        have HDq : Sec (∀ W, Calls Tryz.prog 35 #[.string (bs x)] W fun e w' => ∃ A c B d, e = .returned (.tuple #[.agg (stepA s0 A c B d), .int .i64 y]) ∧ OwnD W.heap.size w' s0 A c B d ∧ Gr W w') := sec (fun W => by rw [hy, hs0]; exact stDecO_any x W hxl)
        have HSZ0 : Sec (StSz 1099511627776 s0) := sec (by rw [hs0]; exact dcR_szR x)
        subst hg
        by_cases hy0 : y = 0
        · have HK2 : Sec (RdK fC V (aftT q) (es'.map (·.s) ++ [s0])) := sec (by rw [hs0, hx]; exact HK.out.more HST.out (by rw [← hx, ← hy]; exact hy0))
          have HLT : Sec ((aftT q).1.length < L) := sec (by
            have h1 := aftT_lt (q := q) (by rw [← hx, ← hy]; exact hy0) (by by_cases h0 : q.2 = 0; exact h0; exact absurd (Or.inr h0) HST.out)
            have h2 := HLL.out
            omega)
          have hyb : (y != 0) = false := by rw [hy0]; rfl
          obtain ⟨sr, so, sn, who, seals⟩ := s0
          simp only [stepA] at HDq
          have hbb : (n0 + 1) * 96 ≤ 140737488355328 := by omega
          have hmm : n0 + 1 ≤ maxLen := by unfold maxLen; omega
          have hsz : hd + 1 ≤ wr.heap.size := HH.out.lt
          clear hx hy hs0 hy0 hxl
          go_wp2_with (first
            | (go_at_call 36; (with_reducible refine Calls.mono HTq.out ?_); rintro e w6 ⟨rfl, rd6, k6⟩; have hs6 : wr.heap.size ≤ w6.heap.size := k6.size)
            | (go_at_call 35; (with_reducible refine Calls.mono (HDq.out _) ?_); rintro e w7 ⟨A', c', B', d', rfl, o7, g7⟩; have hs7 : w6.heap.size ≤ w7.heap.size := g7.size)
            | (at_builtin; refine wpList_append_rowO E.stp rfl (.tmp 68) (.tmp 70) rfl (B := hd + 1) (A0 := Al) (n0 := n0) (cap0 := cl) (xs := es'.flatMap stpV) rfl (own_gr (own_gr (own_gr (own_only HO.out HD.out.blk (by decide) k6) g7) ((Gr.refl _).alloc _)) ((Gr.refl _).alloc _)) rfl (row_stp (e := ⟨⟨sr, so, sn, who, seals⟩, A', c', B', d'⟩) (Blk.new1 _ _ _ _)) (fun h => by cases h) (stpV_one1 _) hbb hmm (by simp; omega) ?_; intro A2 c2 w8 o8 k8))
          have hal := (Gr.refl w7).alloc (.cells (stepA ⟨sr, so, sn, who, seals⟩ A' c' B' d') 69)
          have hal2 := hal.alloc (.cells (stepA ⟨sr, so, sn, who, seals⟩ A' c' B' d') 69)
          have HO8 := own_gr (own_gr (own_only HO.out HD.out.blk (by decide) k6) g7) hal2
          have HH7 := ((HH.out.grown k6 (by intro e; injection e with e; have := HGd.out; omega)).gr g7).gr hal2
          have hGB : ∀ k, (Value.slice Al n0 cl).ownBlock = some k → hd + 1 ≤ k := fun k hk => (HO8.lt k hk).1
          have G28 := ((gr_only HGr.out k6 (by have := HGsz.out; omega)).trans g7).trans hal2
          go_roundg (gk - 1)
          case rel =>
            refine ⟨aftT q, A2, c2, n0 + 1, es' ++ [⟨⟨sr, so, sn, who, seals⟩, A', c', B', d'⟩], rfl, by have := HLT.out; omega, by have := HLT.out; omega, sec (by rw [List.length_append, HL.out]; rfl), sec ?_, sec ?_, sec ?_, sec ?_, sec (fun e he => ?_), sec (fun e he => ?_), sec ?_⟩
            · rw [List.map_append]; exact HK2.out
            · exact ((rd6.gr g7).gr hal2).other k8 (fun e => by have := hGB G e.symm; have := HGd.out; omega)
            · exact HH7.grown k8 (fun e => by have := hGB hd e.symm; omega)
            · rw [List.flatMap_append]; simpa using o8
            · rcases List.mem_append.1 he with he | he
              · exact ((((HE.out e he).onlyR HD.out.blk (by decide) (by decide) k6).gr g7).gr hal2).app HO8 k8
              · rw [List.mem_singleton] at he; subst he
                exact (StO.gr ⟨own_lowO o7.1 (by omega), own_lowO o7.2 (by omega)⟩ hal2).app HO8 k8
            · rcases List.mem_append.1 he with he | he
              · exact HZs.out e he
              · rw [List.mem_singleton] at he; subst he
                exact HSZ0.out
            · exact G28.grown k8 (fun k hk => by have := hGB k hk; have := HGd.out; have := HGsz.out; omega)
          case measure => have := HLT.out; omega
        · have HXX : Sec (V = .same 2) := sec (by rw [HK.out.bad HST.out (by rw [← hx, ← hy]; exact hy0), HfC.out]; rfl)
          have hyb : (y != 0) = true := by rw [bne_iff_ne]; exact hy0
          obtain ⟨sr, so, sn, who, seals⟩ := s0
          simp only [stepA] at HDq
          clear hx hy hs0 hy0 hxl
          go_wp2_with (first
            | (go_at_call 36; (with_reducible refine Calls.mono HTq.out ?_); rintro e w6 ⟨rfl, rd6, k6⟩; have H26 : Gr w2 w6 := gr_only HGr.out k6 (by have := HGsz.out; omega))
            | (go_at_call 35; (with_reducible refine Calls.mono (HDq.out _) ?_); rintro e w7 ⟨A', c', B', d', rfl, o7, g7⟩; have h7 := HWA.out _ ((H26.trans g7).alloc (.cells #[.string (bs sr), .string (bs so), .string (bs sn), .slice A' who.length c', .slice B' seals.length d'] 69)); obtain ⟨a0, a1, a2, a3, a4, a5, k0, k1, k2, q0, q1, q2, q3, q4, q5, z0, z1, z2, z3, z4, z5⟩ := HSK.out _ h7))
          refine bodyPost_ret (results_blk_tmp rfl _ rfl (((((((HQ.out.gr h7).set_ 0 (.slice A n c)).set_ 1 (.int .i64 f)).set_ 2 (.int .i64 sz)).set_ 3 (.string (bs r))).set_ 4 (.slice B m d)).set_ 5 (.slice C k e)) aggCli) rfl ?_
          rw [HXX.out]
          exact ⟨rfl, HZ.out _ _ _ _ _ _ _ h7⟩
      · have hgf : go = false := by simpa using hg
        have HST : Sec (q.1.length = 0 ∨ q.2 ≠ 0) := sec (by have h := of_decide_eq_false (by rw [← HGO.out]; exact hgf); exact Classical.not_not.1 h)
        subst hgf
        clear hg
        obtain ⟨l, hl⟩ : ∃ l, l = es'.map (·.s) := ⟨_, rfl⟩
        have HK2 : Sec (V = fC (some (l, q))) := sec (by rw [hl]; exact HK.out.stop HST.out)
        have HSt : Sec (∀ W, Gr wr W → StsR W Al n0 es') := sec (fun W g => ⟨(Row.own HO.out).gr g, fun e he => ((HE.out e he).str).gr g⟩)
        have hn0 : n0 ≤ 1099511627776 := by omega
        obtain ⟨⟨oz, ort, oe⟩, hof⟩ : ∃ R, R = ofR l := ⟨_, rfl⟩
        have HOf : Sec (Calls Tryz.prog 37 #[.slice Al n0 cl] wr fun e w' => e = .returned (.tuple #[.agg (headC oz ort), .int .i64 oe]) ∧ Gr wr w') := sec (by
          have h1 := HSt.out wr (Gr.refl _)
          have h2 := of_any es' l Al cl wr (by rw [HL.out]; exact h1) hl (by rw [HL.out]; exact hn0) HZs.out (HTW.out.gr HGr.out)
          rw [HL.out, ← hof] at h2
          exact h2)
        obtain ⟨⟨rs, rx, re⟩, hrp⟩ : ∃ R, R = rpR ss need l := ⟨_, rfl⟩
        have HRp : Sec (∀ W, Gr wr W → Calls Tryz.prog 38 #[.agg (keysA A0 m0 c0 B0 m1 d0 need), .slice Al n0 cl] W fun e w' => ∃ A' c' n', n' = rs.length ∧ e = .returned (.tuple #[.slice A' n' c', .int .i64 rx, .int .i64 re]) ∧ RfRow w' A' n' rs ∧ Gr W w') := sec (fun W g => by
          have h1 := HSt.out W g
          have h2 := repl_any A0 m0 c0 B0 m1 d0 need ss es' l Al cl W (hK.gr (HG.out.trans (HWA.out _ (HGr.out.trans g)))) hm hss (by rw [HL.out]; exact h1) hl (by rw [HL.out]; exact hn0) HZs.out (HTW.out.gr (HGr.out.trans g))
          rw [HL.out, ← hrp] at h2
          exact h2)
        have HVV : Sec (V = if Eb = 0 ∧ oe = 0 ∧ oz = (sz0 : Int) ∧ ort = rt0 then (if re = 0 then .full gs u (sz0 : Int) rt0 l rs else .same re) else .same 2) := sec (by
          rw [HK2.out, HfC.out, HEE.out]
          show (if q.2 = 0 ∧ (ofR l).2.2 = 0 ∧ (ofR l).1 = (sz0 : Int) ∧ (ofR l).2.1 = rt0 then (if (rpR ss need l).2.2 = 0 then RiseR.full gs u (sz0 : Int) rt0 l (rpR ss need l).1 else .same (rpR ss need l).2.2) else .same 2) = _
          rw [← hof, ← hrp])
        have HLM := sec hl
        unfold headC at HOf
        unfold keysA at HRp
        clear hof hrp hl HVK HK
        go_upto_region 18 with (first
          | (go_at_call 37; (with_reducible refine Calls.mono HOf.out ?_); rintro e w6 ⟨rfl, g6⟩; have b9 := Blk.new w6 26 #[.int .i64 oz, .string (bs ort)]; have g9 := g6.alloc (.cells #[.int .i64 oz, .string (bs ort)] 26)))
        have HH9 := HH.out.gr g9
        have HD9 := HD.out.gr g9
        have GG9 := HGr.out.trans g9
        have HO9 := own_gr HO.out g9
        obtain ⟨pb, hpb⟩ : ∃ x, x = w6.heap.size := ⟨_, rfl⟩
        obtain ⟨wx, hwx⟩ : ∃ x, x = w6.alloc (.cells #[.int .i64 oz, .string (bs ort)] 26) := ⟨_, rfl⟩
        rw [← hwx] at b9 g9 HH9 HD9 GG9 HO9 ⊢
        rw [← hpb] at b9 ⊢
        clear hwx hpb g6 HOf HLe HTx HBd
        obtain ⟨bad, hbad⟩ : ∃ bad : Bool, bad = decide (¬ (Eb = 0 ∧ oe = 0 ∧ oz = (sz0 : Int) ∧ ort = rt0)) := ⟨_, rfl⟩
        have HBAD := sec hbad
        have HBq : Sec (Calls Tryz.prog 34 #[.pointer (some ⟨G, 0, none⟩)] wx fun e w' => e = .returned (.int .i64 (Eb : Int)) ∧ wx = w') := sec (by rw [HEE.out]; exact rdBad G q wx HD9)
        clear hbad
        have y0 := b9.cell 0
        have y1 := b9.cell 1
        have y2 := HH9.cell 0
        have y3 := HH9.cell 1
        go_cut [88] from 72 to 88 (fun v wc => v = .bool bad ∧ wx = wc)
        case first =>
          by_cases hE0 : Eb = 0
          · have hEi : ((Eb : Int) != 0) = false := by simpa using hE0
            by_cases ho : oe = 0
            · have hoi : (oe != 0) = false := by simpa using ho
              by_cases hq : oz = (sz0 : Int) ∧ ort = rt0
              · have HB0 : Sec (bad = false) := sec (by rw [HBAD.out]; exact decide_eq_false (fun h => h ⟨hE0, ho, hq⟩))
                obtain ⟨h1, h2⟩ := hq
                clear hE0 ho
                go_wp2_with (first
                  | (go_at_call 34; (with_reducible refine Calls.mono HBq.out ?_); rintro e w7 ⟨rfl, rfl⟩))
                go_meet
                exact ⟨by rw [HB0.out], rfl⟩
              · have HB0 : Sec (bad = true) := sec (by rw [HBAD.out]; exact decide_eq_true (fun h => hq h.2.2))
                have HQQ := sec hq
                clear hE0 ho hq
                go_wp2_with (first
                  | (go_at_call 34; (with_reducible refine Calls.mono HBq.out ?_); rintro e w7 ⟨rfl, rfl⟩))
                all_goals
                  first
                  | exact absurd ⟨by assumption, by assumption⟩ HQQ.out
                  | (go_meet
                     exact ⟨by rw [HB0.out], rfl⟩)
            · have hoi : (oe != 0) = true := by simpa using ho
              have HB0 : Sec (bad = true) := sec (by rw [HBAD.out]; exact decide_eq_true (fun h => ho h.2.1))
              clear hE0 ho
              go_wp2_with (first
                | (go_at_call 34; (with_reducible refine Calls.mono HBq.out ?_); rintro e w7 ⟨rfl, rfl⟩))
              go_meet
              exact ⟨by rw [HB0.out], rfl⟩
          · have hEi : ((Eb : Int) != 0) = true := by simpa using hE0
            have HB0 : Sec (bad = true) := sec (by rw [HBAD.out]; exact decide_eq_true (fun h => hE0 h.1))
            clear hE0
            go_wp2_with (first
              | (go_at_call 34; (with_reducible refine Calls.mono HBq.out ?_); rintro e w7 ⟨rfl, rfl⟩))
            go_meet
            exact ⟨by rw [HB0.out], rfl⟩
        case rest =>
          obtain ⟨rfl, rfl⟩ := hcut
          have h9 := HWA.out _ GG9
          by_cases hbd : bad = true
          · have HXX : Sec (V = .same 2) := sec (by rw [HVV.out, if_neg (of_decide_eq_true (HBAD.out.symm.trans hbd))])
            subst hbd
            obtain ⟨a0, a1, a2, a3, a4, a5, k0, k1, k2, q0, q1, q2, q3, q4, q5, z0, z1, z2, z3, z4, z5⟩ := HSK.out _ h9
            go_wp2_with fail
            refine bodyPost_ret (results_blk_tmp rfl _ rfl (((((((HQ.out.gr h9).set_ 0 (.slice A n c)).set_ 1 (.int .i64 f)).set_ 2 (.int .i64 sz)).set_ 3 (.string (bs r))).set_ 4 (.slice B m d)).set_ 5 (.slice C k e)) aggCli) rfl ?_
            rw [HXX.out]
            exact ⟨rfl, HZ.out _ _ _ _ _ _ _ h9⟩
          · have hbf : bad = false := by simpa using hbd
            have HV6 : Sec ((Eb = 0 ∧ oe = 0 ∧ oz = (sz0 : Int) ∧ ort = rt0) ∧ V = if re = 0 then .full gs u (sz0 : Int) rt0 l rs else .same re) := sec (by
              have h := of_decide_eq_false (HBAD.out.symm.trans hbf)
              have h' := Classical.not_not.1 h
              exact ⟨h', by rw [HVV.out, if_pos h']⟩)
            subst hbf
            clear hbd
            obtain ⟨a0, a1, a2, a3, a4, a5, k0, k1, k2, q0, q1, q2, q3, q4, q5, z0, z1, z2, z3, z4, z5⟩ := HSK.out _ h9
            by_cases hre : re = 0
            · have hrb : (re != 0) = false := by simpa using hre
              have HXX : Sec (V = .full gs u (sz0 : Int) rt0 l rs) := sec (by rw [HV6.out.2, if_pos hre])
              clear hre
              go_upto_region 23 with (first
                | (go_at_call 38; (with_reducible refine Calls.mono (HRp.out _ g9) ?_); rintro e w10 ⟨A', c', n', rfl, rfl, r10, g10⟩))
              have GG10 := GG9.trans g10
              have h10 := HWA.out _ GG10
              have HH10 := HH9.gr g10
              obtain ⟨a0, a1, a2, a3, a4, a5, k0, k1, k2, q0, q1, q2, q3, q4, q5, z0, z1, z2, z3, z4, z5⟩ := HSK.out _ h10
              obtain ⟨d0, d1⟩ := HCD.out _ GG10
              have y0 := HH10.cell 0
              have y1 := HH10.cell 1
              have HQ10 := HQ.out.gr h10
              go_wp2_with (first
                | (refine wpList_store_blk rfl 30 (.tmp 6) (.tmp 105) rfl (g := p + 2) (cs' := #[.slice A1 n c1, .int .i64 u, .int .i64 (sz0 : Int), .string (bs rt0), .slice Al n0 cl, .slice A' rs.length c']) rfl rfl HQ10 aggCli rfl (by simp [Value.oneCell']) ?_; intro w11 h11 k11))
              refine bodyPost_ret (results_blk_tmp rfl _ rfl h11 aggCli) rfl ?_
              rw [HXX.out]
              have hln : n0 = l.length := by rw [HLM.out, List.length_map, HL.out]
              subst hln
              have h1 := own_only (own_gr HO9 g10) HQ10 (by decide) k11
              have hso : ∀ x ∈ es', StO w.heap.size w11 x := fun e he => StO.low ((((HE.out e he).gr g9).gr g10).onlyR HQ10 (by decide) (by decide) k11) (by have h1 := (HG.out.trans (HWA.out _ HGL.out)).size; have h2 := HSZL.out; omega)
              exact ⟨A1, c1, Al, cl, A', c', es', HLM.out.symm, rfl, ⟨Row.only (HFX.out _ GG10) k11 HNE.out, ⟨Row.own h1, fun e he => (hso e he).str⟩, Row.only r10 k11 (rf_aside HQ10 r10)⟩, hso, Gr.only (HG.out.trans h10) k11 HP.out⟩
            · have hrb : (re != 0) = true := by simpa using hre
              have HXX : Sec (V = .same re) := sec (by rw [HV6.out.2, if_neg hre])
              clear hre
              go_wp2_with (first
                | (go_at_call 38; (with_reducible refine Calls.mono (HRp.out _ g9) ?_); rintro e w10 ⟨A', c', n', rfl, rfl, r10, g10⟩; have h10 := HWA.out _ (GG9.trans g10); obtain ⟨a0, a1, a2, a3, a4, a5, k0, k1, k2, q0, q1, q2, q3, q4, q5, z0, z1, z2, z3, z4, z5⟩ := HSK.out _ h10))
              refine bodyPost_ret (results_blk_tmp rfl _ rfl (((((((HQ.out.gr h10).set_ 0 (.slice A n c)).set_ 1 (.int .i64 f)).set_ 2 (.int .i64 sz)).set_ 3 (.string (bs r))).set_ 4 (.slice B m d)).set_ 5 (.slice C k e)) aggCli) rfl ?_
              rw [HXX.out]
              exact ⟨rfl, HZ.out _ _ _ _ _ _ _ h10⟩
end Go.Proofs.YtoamnifnfkgbiaaGreatDoor

namespace Go.Proofs.YtoamnifnfkgbiaaGreatDoor
open Go.RowKit
theorem rqget_any (l : List UInt8) (w : World) (hl : l.length ≤ 1152921504606846976) :
    Calls Tryz.prog 87 #[.string (bs l)] w fun e w' => e = .returned (.tuple #[.int .i64 (gN l : Int), .int .i64 (gK l : Int), .int .i64 (gE l : Int)]) ∧ Gr w w' := by
  rw [← getV_eq]; exact rget l w hl

set_option maxRecDepth 100000 in
theorem rqgett_any (l : List UInt8) (w : World) (hl : l.length ≤ 1152921504606846976) :
    Calls Tryz.prog 89 #[.string (bs l)] w fun e w' => e = .returned (.tuple #[.string (bs (tS l)), .int .i64 (tK l : Int), .int .i64 (tE l : Int)]) ∧ Gr w w' := by
  have hk := gK_le l
  have hn := gN_lt l
  rcases gE_or l with he | he
  · by_cases h1 : 4096 < gN l
    · have ht : tS l = [] ∧ tK l = 0 := t_no (fun h => by have := h.2.1; omega)
      have hte : tE l = 1 := by unfold tE; rw [if_neg (by omega), if_pos h1]
      go_enter Tryz.func89, Tryz.ntmps89
      go_wp2_with (go_at_call 87; refine (rqget_any _ _ hl).mono ?_; rintro e w1 ⟨rfl, g1⟩)
      go_ret3
      exact ⟨by rw [ht.1, ht.2, hte]; rfl, g1⟩
    · by_cases h2 : l.length - gK l < gN l
      · have ht : tS l = [] ∧ tK l = 0 := t_no (fun h => by have := h.2.2; omega)
        have hte : tE l = 2 := by unfold tE; rw [if_neg (by omega), if_neg h1, if_pos h2]
        have h2' : (l.length : Int) - gK l < gN l := by omega
        go_enter Tryz.func89, Tryz.ntmps89
        go_wp2_with (go_at_call 87; refine (rqget_any _ _ hl).mono ?_; rintro e w1 ⟨rfl, g1⟩)
        go_ret3
        exact ⟨by rw [ht.1, ht.2, hte]; rfl, g1⟩
      · have ht := t_ok (l := l) ⟨he, by omega, by omega⟩
        have HT := sec ht
        clear ht
        go_enter Tryz.func89, Tryz.ntmps89
        go_wp2_with (go_at_call 87; refine (rqget_any _ _ hl).mono ?_; rintro e w1 ⟨rfl, g1⟩)
        go_ret3
        exact ⟨by rw [HT.out.1, HT.out.2.1, HT.out.2.2]; simp, g1⟩
  · have ht : tS l = [] ∧ tK l = 0 := t_no (fun h => by have := h.1; omega)
    have hte : tE l = 2 := by unfold tE; rw [if_pos (by omega), he]
    go_enter Tryz.func89, Tryz.ntmps89
    go_wp2_with (go_at_call 87; refine (rqget_any _ _ hl).mono ?_; rintro e w1 ⟨rfl, g1⟩)
    go_ret3
    exact ⟨by rw [ht.1, ht.2, hte]; rfl, g1⟩

set_option maxRecDepth 100000 in
theorem ruNumber (g : Nat) (q : St) (w : World) (h : RdAt 80 w g q) :
    Calls Tryz.prog 43 #[.pointer (some ⟨g, 0, none⟩)] w fun e w' => e = .returned (.int .i64 (nxtN q : Int)) ∧ RdAt 80 w' g (aftN q) ∧ w.grownBy w' (some g) := by
  obtain ⟨s, er⟩ := q
  have hlen := h.len
  have hc0 : w.cell? ⟨g, 0, none⟩ = some (.string (bs s)) := h.blk.cell 0
  have hc1 : w.cell? ⟨g, 1, none⟩ = some (.int .i64 (er : Int)) := h.blk.cell 1
  have hf0 := h.blk.frozen 0
  have hf1 := h.blk.frozen 1
  simp only at hlen
  have hk := gK_le s
  by_cases he : er = 0
  · subst he
    go_enter Tryz.func43, Tryz.ntmps43
    go_wp2_with (go_at_call 87; refine (rqget_any _ _ hlen).mono ?_; rintro e w1 ⟨rfl, g1⟩; have hb1 := h.blk.below g1.below h.blk.lt; have hd0 : w1.cell? ⟨g, 0, none⟩ = some (.string (bs s)) := hb1.cell 0; have hd1 : w1.cell? ⟨g, 1, none⟩ = some (.int .i64 ((0 : Nat) : Int)) := hb1.cell 1; have he0 := hb1.frozen 0; have he1 := hb1.frozen 1)
    go_ret
    refine ⟨by simp [nxtN], ⟨?_, ?_, ?_⟩, only_trans (only_gr g1 _) (only_set2 _ _ _ _)⟩
    · have := (hb1.set_ 0 (.string (bs (s.drop (gK s))))).set_ 1 (.int .i64 (gE s : Int))
      simpa [aftN] using this
    · simp [aftN]; omega
    · simp [aftN]; have := gE_or s; omega
  · have he' : ((er : Int) == 0) = false := by simpa using he
    have he2 : ((er : Int) != 0) = true := by simpa using he
    go_enter Tryz.func43, Tryz.ntmps43
    go_wp2
    go_ret
    exact ⟨by simp [nxtN, he], by simpa [aftN, he] using h, only_refl _ _⟩

set_option maxRecDepth 100000 in
theorem ruText (g : Nat) (q : St) (w : World) (h : RdAt 80 w g q) :
    Calls Tryz.prog 46 #[.pointer (some ⟨g, 0, none⟩)] w fun e w' => e = .returned (.string (bs (nxtT q))) ∧ RdAt 80 w' g (aftT q) ∧ w.grownBy w' (some g) := by
  obtain ⟨s, er⟩ := q
  have hlen := h.len
  have hc0 : w.cell? ⟨g, 0, none⟩ = some (.string (bs s)) := h.blk.cell 0
  have hc1 : w.cell? ⟨g, 1, none⟩ = some (.int .i64 (er : Int)) := h.blk.cell 1
  have hf0 := h.blk.frozen 0
  have hf1 := h.blk.frozen 1
  simp only at hlen
  have hk := tK_le s
  by_cases he : er = 0
  · subst he
    go_enter Tryz.func46, Tryz.ntmps46
    go_wp2_with (go_at_call 89; refine (rqgett_any _ _ hlen).mono ?_; rintro e w1 ⟨rfl, g1⟩; have hb1 := h.blk.below g1.below h.blk.lt; have hd0 : w1.cell? ⟨g, 0, none⟩ = some (.string (bs s)) := hb1.cell 0; have hd1 : w1.cell? ⟨g, 1, none⟩ = some (.int .i64 ((0 : Nat) : Int)) := hb1.cell 1; have he0 := hb1.frozen 0; have he1 := hb1.frozen 1)
    go_ret
    refine ⟨by simp [nxtT], ⟨?_, ?_, ?_⟩, only_trans (only_gr g1 _) (only_set2 _ _ _ _)⟩
    · have := (hb1.set_ 0 (.string (bs (s.drop (tK s))))).set_ 1 (.int .i64 (tE s : Int))
      simpa [aftT] using this
    · simp [aftT]; omega
    · simp [aftT]; have := tE_or s; omega
  · have he' : ((er : Int) == 0) = false := by simpa using he
    have he2 : ((er : Int) != 0) = true := by simpa using he
    go_enter Tryz.func46, Tryz.ntmps46
    go_wp2
    go_ret
    exact ⟨by simp [nxtT, he]; rfl, by simpa [aftT, he] using h, only_refl _ _⟩

set_option maxRecDepth 100000 in
theorem ruTake (g : Nat) (q : St) (n : Int) (w : World) (h : RdAt 80 w g q) (_hn : -9223372036854775808 ≤ n ∧ n ≤ 9223372036854775807) :
    Calls Tryz.prog 44 #[.pointer (some ⟨g, 0, none⟩), .int .i64 n] w fun e w' => e = .returned (.string (bs (nxtB n q))) ∧ RdAt 80 w' g (aftB n q) ∧ w.grownBy w' (some g) := by
  obtain ⟨s, er⟩ := q
  have hlen := h.len
  have hc0 : w.cell? ⟨g, 0, none⟩ = some (.string (bs s)) := h.blk.cell 0
  have hc1 : w.cell? ⟨g, 1, none⟩ = some (.int .i64 (er : Int)) := h.blk.cell 1
  have hf0 := h.blk.frozen 0
  have hf1 := h.blk.frozen 1
  simp only at hlen
  by_cases he : er = 0
  · subst he
    by_cases hn : 0 ≤ n ∧ n ≤ (s.length : Int)
    · obtain ⟨hn0, hn1⟩ := hn
      go_enter Tryz.func44, Tryz.ntmps44
      go_wp2
      go_ret
      refine ⟨by simp [nxtB, hn0, hn1], ⟨?_, ?_, ?_⟩, only_set1 _ _ _ _⟩
      · have := h.blk.set_ 0 (.string (bs (s.drop n.toNat)))
        simpa [aftB, hn0, hn1] using this
      · simp [aftB, hn0, hn1]; omega
      · simp [aftB, hn0, hn1]
    · have hn' : n < 0 ∨ (s.length : Int) < n := by omega
      rcases hn' with hn' | hn'
      all_goals
        go_enter Tryz.func44, Tryz.ntmps44
        go_wp2
        go_ret
        refine ⟨by simp [nxtB, hn]; try rfl, ⟨?_, ?_, ?_⟩, only_set1 _ _ _ _⟩
        · have := h.blk.set_ 1 (.int .i64 2)
          simpa [aftB, hn] using this
        · simp [aftB, hn]; omega
        · simp [aftB, hn]
  · have he' : ((er : Int) == 0) = false := by simpa using he
    have he2 : ((er : Int) != 0) = true := by simpa using he
    go_enter Tryz.func44, Tryz.ntmps44
    go_wp2
    go_ret
    exact ⟨by simp [nxtB, he]; try rfl, by simpa [aftB, he] using h, only_refl _ _⟩

end Go.Proofs.YtoamnifnfkgbiaaGreatDoor

namespace Go.Proofs.YtoamnifnfkgbiaaGreatDoor
set_option maxRecDepth 100000
open Go.RowKit
set_option linter.unusedVariables false
set_option maxHeartbeats 8000000 in
theorem rstEncode_any (s : Stp) (A : Option Addr) (c : Nat) (B : Option Addr) (d : Nat) (w : World) (hR : StR w s A c B d) (hz : StSz 1099511627776 s) :
    Calls Tryz.prog 136 #[.agg (stepA s A c B d)] w fun e w' => e = .returned (.tuple #[.string (bs (encR s).1), .int .i64 (encR s).2]) ∧ Gr w w' := by
  obtain ⟨wa, hwa⟩ : ∃ x, x = w.alloc (.cells (stepA s A c B d) 69) := ⟨_, rfl⟩
  have hb : Blk wa w.heap.size 69 (stepA s A c B d) := by rw [hwa]; exact Blk.new w _ _
  have hg0 : Gr w wa := by rw [hwa]; exact (Gr.refl w).alloc _
  obtain ⟨p, hp⟩ : ∃ p, p = w.heap.size := ⟨_, rfl⟩
  rw [← hp] at hb
  have HGo : Sec (Calls Tryz.prog 88 #[.agg (stepA s A c B d)] wa fun e w' => e = .returned (.int .i64 (stE s)) ∧ Gr wa w') := sec (rstGood_any s A c B d wa (hR.gr hg0) hz)
  have HCELL : Sec (∀ w', Gr wa w' → w'.cell? ⟨p, 0, none⟩ = some (.string (bs s.r)) ∧ w'.cell? ⟨p, 1, none⟩ = some (.string (bs s.o)) ∧ w'.cell? ⟨p, 2, none⟩ = some (.string (bs s.n)) ∧ w'.cell? ⟨p, 3, none⟩ = some (.slice A s.who.length c) ∧ w'.cell? ⟨p, 4, none⟩ = some (.slice B s.seals.length d) ∧ Gr wa w') := sec (fun w' g => ⟨(hb.gr g).cell 0, (hb.gr g).cell 1, (hb.gr g).cell 2, (hb.gr g).cell 3, (hb.gr g).cell 4, g⟩)
  obtain ⟨c0, c1, c2, c3, c4, _⟩ := HCELL.out wa (Gr.refl _)
  by_cases hE : stE s = 0
  · obtain ⟨-, z1, z2, z3, z4, z5, z6, z7, -⟩ := stE_zero hE
    have HEND : Sec (encR s = ((encT s s.who.length).1, 0)) := sec (encT_end hE)
    have HLEN : Sec (∀ i, (encT s i).1.length ≤ 2048) := sec (encT_len hE)
    have HSUC : Sec (∀ i (hi : i < s.who.length) (hs : i < s.seals.length), (encT s (i + 1)).1 = (encT s i).1 ++ (numS s.who[i] ++ s.seals[i])) := sec (fun i hi hs => by rw [encT_succ i hi hs, List.append_assoc])
    have HZER : Sec ((encT s 0).1 = txt s.r ++ txt s.o ++ txt s.n ++ numS s.who.length) := sec (by rw [encT_zero]; rfl)
    rw [hE] at HGo
    have HT1 := sec (fun w => text_any s.r w (by omega))
    have HT2 := sec (fun w => text_any s.o w (by omega))
    have HT3 := sec (fun w => text_any s.n w (by omega))
    have HN := sec (fun w => number_any (s.who.length : Int) w)
    have HN2 := sec (fun (n : Int) w => number_any n w)
    have HW := sec (hR.who.gr hg0)
    have HS := sec (hR.seals.gr hg0)
    have HSL := sec z5
    have HZ6 := sec z6
    have HZ7 := sec z7
    have hwl : s.who.length ≤ 8 := z4
    have l1 := txt_len s.r (by omega)
    have l2 := txt_len s.o (by omega)
    have l3 := txt_len s.n (by omega)
    have l4 : (numS s.who.length).length ≤ 9 := by rw [numS_nat (by omega)]; exact num_len9 (by omega)
    obtain ⟨E, hEE⟩ : ∃ E, E = encR s := ⟨_, rfl⟩
    rw [← hEE] at HEND
    rw [← hEE]
    obtain ⟨U, hU⟩ : ∃ U : Nat → List UInt8, U = fun i => (encT s i).1 := ⟨_, rfl⟩
    have hUi : ∀ i, (encT s i).1 = U i := fun i => by rw [hU]
    simp only [hUi] at HEND HLEN HSUC HZER
    obtain ⟨x1, hx1⟩ : ∃ x, x = txt s.r := ⟨_, rfl⟩
    rw [← hx1] at l1 HT1 HZER
    obtain ⟨x2, hx2⟩ : ∃ x, x = txt s.o := ⟨_, rfl⟩
    rw [← hx2] at l2 HT2 HZER
    obtain ⟨x3, hx3⟩ : ∃ x, x = txt s.n := ⟨_, rfl⟩
    rw [← hx3] at l3 HT3 HZER
    obtain ⟨N, hN⟩ : ∃ x, x = numS s.who.length := ⟨_, rfl⟩
    rw [← hN] at l4 HN HZER
    have k1 : ¬ 9223372036854775807 < x1.length + x2.length := by omega
    have k2 : ¬ 9223372036854775807 < x1.length + x2.length + x3.length := by omega
    have k3 : ¬ 9223372036854775807 < x1.length + x2.length + x3.length + N.length := by omega
    have k4 : ¬ 9223372036854775807 < x1.length + (x2.length + x3.length) := by omega
    have k5 : ¬ 9223372036854775807 < x1.length + (x2.length + x3.length) + N.length := by omega
    have k6 : ¬ 9223372036854775807 < x1.length + (x2.length + (x3.length + N.length)) := by omega
    clear hb hEE hU hUi hx1 hx2 hx3 hN hE hz hR l1 l2 l3 l4 z1 z2 z3 z4 z5 z6 z7
    unfold stepA at hwa HGo
    unfold stepA
    go_enter Tryz.func136, Tryz.ntmps136
    go_upto_region 1 with fail
    rw [← hwa, ← hp]
    clear hwa hp
    go_wp2_with (go_at_call 88; refine Calls.mono HGo.out ?_; rintro e w1 ⟨rfl, g1⟩)
    have gd : Gr wa w1.drew := g1.drew
    go_region_held3 (fun w' => w'.cell? ⟨p, 0, none⟩ = some (.string (bs s.r)) ∧ w'.cell? ⟨p, 1, none⟩ = some (.string (bs s.o)) ∧ w'.cell? ⟨p, 2, none⟩ = some (.string (bs s.n)) ∧ w'.cell? ⟨p, 3, none⟩ = some (.slice A s.who.length c) ∧ w'.cell? ⟨p, 4, none⟩ = some (.slice B s.seals.length d) ∧ Gr wa w')
      (first | with_reducible assumption | with_reducible exact HCELL.out _ gd | with_reducible exact HCELL.out _ G1 | with_reducible exact HCELL.out _ G2 | with_reducible exact HCELL.out _ G3 | with_reducible exact HCELL.out _ G4 | fail)
      (first
        | (go_at_call 182; (with_reducible refine Calls.mono (HT1.out w1.drew) ?_); rintro e w2 ⟨rfl, g2⟩; have G1 : Gr wa w2 := Gr.trans gd g2)
        | (go_at_call 182; (with_reducible refine Calls.mono (HT2.out w2) ?_); rintro e w3 ⟨rfl, g3⟩; have G2 : Gr wa w3 := Gr.trans G1 g3)
        | (go_at_call 182; (with_reducible refine Calls.mono (HT3.out w3) ?_); rintro e w4 ⟨rfl, g4⟩; have G3 : Gr wa w4 := Gr.trans G2 g4)
        | (go_at_call 133; (with_reducible refine Calls.mono (HN.out w4) ?_); rintro e w5 ⟨rfl, g5⟩; have G4 : Gr wa w5 := Gr.trans G3 g5)
        | fail)
    all_goals
      clear c0 c1 c2 c3 c4
      obtain ⟨c0, c1, c2, c3, c4, _⟩ := HCELL.out w5 G4
      go_wp2_with fail
      clear c0 c1 c2 c3 c4
      go_loopg [31, 6, 5] s.who.length (fun fuel iv _ bv wr => ∃ i : Nat, iv = .int .i64 (i : Int) ∧ bv = .string (bs (U i)) ∧ s.who.length ≤ i + fuel ∧ i ≤ s.who.length ∧ Gr wa wr)
      case atStart => exact ⟨0, rfl, by rw [HZER.out]; simp only [List.append_assoc], by omega, by omega, G4⟩
      case round =>
        obtain ⟨i, rfl, rfl, hik, hi, gw⟩ := hrel
        clear G1 G2 G3 G4 g1 g2 g3 g4 g5 gd
        by_cases hlt : i < s.who.length
        · have hss : i < s.seals.length := by have := HSL.out; omega
          have hii : (i : Int) < (s.who.length : Int) := by omega
          have hjj : (i : Int) < (s.seals.length : Int) := by omega
          have HU1 := sec (HSUC.out i hlt hss)
          have hul := HLEN.out i
          have hwz := HZ7.out _ (List.getElem_mem hlt)
          have hsz := HZ6.out _ (List.getElem_mem hss)
          have hnl : (numS s.who[i]).length ≤ 9 := by rw [numS_in (by omega) (by omega)]; exact num_len9 (by omega)
          have HNi := sec (HN2.out s.who[i])
          have HX0 : Sec (∀ W, Gr wa W → W.cell? ⟨p, 3, none⟩ = some (.slice A s.who.length c) ∧ W.cell? ⟨p, 4, none⟩ = some (.slice B s.seals.length d) ∧ (∃ b off, A = some ⟨b, off, none⟩ ∧ W.cell? ⟨b, off + i, none⟩ = some (.int .i64 s.who[i])) ∧ (∃ b off, B = some ⟨b, off, none⟩ ∧ W.cell? ⟨b, off + i, none⟩ = some (.string (bs s.seals[i])))) := sec (fun W g => ⟨(HCELL.out W g).2.2.2.1, (HCELL.out W g).2.2.2.2.1, (HW.out.gr g).cell hlt, (HS.out.gr g).cell hss⟩)
          obtain ⟨b, off, rfl, -⟩ := (HW.out.gr gw).cell hlt
          obtain ⟨b2, off2, rfl, -⟩ := (HS.out.gr gw).cell hss
          obtain ⟨mw, hmw⟩ : ∃ x, x = s.who[i] := ⟨_, rfl⟩
          obtain ⟨sl, hslx⟩ : ∃ x, x = s.seals[i] := ⟨_, rfl⟩
          rw [← hmw] at HNi HX0 hnl HU1
          rw [← hslx] at HX0 hsz HU1
          have HX1 : Sec (∀ W, Gr wa W → W.cell? ⟨p, 3, none⟩ = some (.slice (some ⟨b, off, none⟩) s.who.length c) ∧ W.cell? ⟨p, 4, none⟩ = some (.slice (some ⟨b2, off2, none⟩) s.seals.length d) ∧ W.cell? ⟨b, off + i, none⟩ = some (.int .i64 mw) ∧ W.cell? ⟨b2, off2 + i, none⟩ = some (.string (bs sl)) ∧ Gr wa W) := sec (fun W g => by
            obtain ⟨h1, h2, ⟨b', o', e', h3⟩, ⟨b'', o'', e'', h4⟩⟩ := HX0.out W g
            injection e' with e'; injection e' with e3 e4 _
            injection e'' with e''; injection e'' with e5 e6 _
            subst e3 e4 e5 e6
            exact ⟨h1, h2, h3, h4, g⟩)
          obtain ⟨NN, hNN⟩ : ∃ x, x = numS mw := ⟨_, rfl⟩
          rw [← hNN] at HNi hnl HU1
          have m1 : ¬ 9223372036854775807 < NN.length + sl.length := by omega
          have m2 : ¬ 9223372036854775807 < (U i).length + (NN.length + sl.length) := by omega
          have HII := sec hlt
          obtain ⟨y0, y1, y2, y3, _⟩ := HX1.out wr gw
          clear hmw hslx hNN hss hlt hul hwz hsz hnl HX0
          go_wp2_with fail
          have gd : Gr wa wr.drew := gw.drew
          go_region_held3 (fun w' => w'.cell? ⟨p, 3, none⟩ = some (.slice (some ⟨b, off, none⟩) s.who.length c) ∧ w'.cell? ⟨p, 4, none⟩ = some (.slice (some ⟨b2, off2, none⟩) s.seals.length d) ∧ w'.cell? ⟨b, off + i, none⟩ = some (.int .i64 mw) ∧ w'.cell? ⟨b2, off2 + i, none⟩ = some (.string (bs sl)) ∧ Gr wa w')
            (first | with_reducible assumption | with_reducible exact HX1.out _ gd | with_reducible exact HX1.out _ G6 | fail)
            (first
              | (go_at_call 133; (with_reducible refine Calls.mono (HNi.out wr.drew) ?_); rintro e w6 ⟨rfl, g6⟩; have G6 : Gr wa w6 := Gr.trans gd g6)
              | fail)
          all_goals
            go_wp2_with fail
            go_roundg (gk - 1)
            case rel => exact ⟨i + 1, by go_num, by rw [HU1.out], by omega, HII.out, G6⟩
            case measure => have := HII.out; omega
        · obtain hE2 : i = s.who.length := by omega
          have HF : Sec (E = (U i, 0)) := sec (by rw [HEND.out, hE2])
          have hii : ¬ (i : Int) < (s.who.length : Int) := by omega
          have q : decide (i < s.who.length) = false := decide_eq_false hlt
          clear hE2 hlt hik
          go_wp2_with fail
          go_ret2
          exact ⟨by rw [HF.out]; rfl, hg0.trans gw⟩
  · have HR : Sec (encR s = ([], stE s)) := sec (by unfold encR; rw [if_neg hE])
    rw [HR.out]
    obtain ⟨E, hEE⟩ : ∃ E, E = stE s := ⟨_, rfl⟩
    rw [← hEE] at HGo hE
    rw [← hEE]
    have m0 : (E != 0) = true := by simpa using hE
    clear hEE HR hb
    unfold stepA at hwa HGo
    unfold stepA
    go_enter Tryz.func136, Tryz.ntmps136
    go_upto_region 1 with fail
    rw [← hwa, ← hp]
    clear hwa hp
    go_wp2_with (go_at_call 88; refine Calls.mono HGo.out ?_; rintro e w1 ⟨rfl, g1⟩)
    go_ret2
    exact ⟨rfl, hg0.trans g1⟩
end Go.Proofs.YtoamnifnfkgbiaaGreatDoor

namespace Go.Proofs.YtoamnifnfkgbiaaGreatDoor
set_option maxRecDepth 100000
open Go.RowKit
set_option linter.unusedVariables false
set_option maxHeartbeats 8000000 in
theorem rleaves_any (es : List SA) (l : List Stp) (A : Option Addr) (c : Nat) (w : World) (hx : StsR w A es.length es) (hl : l = es.map (·.s)) (hn : es.length ≤ 1099511627776) (hz : ∀ e ∈ es, StSz 1099511627776 e.s) :
    Calls Tryz.prog 90 #[.slice A es.length c] w fun e w' => ∃ A' c', e = .returned (.tuple #[.slice A' (lvR l).1.length c', .int .i64 (lvR l).2]) ∧ StrRow w' A' (lvR l).1.length (lvR l).1 ∧ (A' = none → (lvR l).1.length = 0 ∧ c' = 0) ∧ (lvR l).1.length ≤ c' ∧ Gr w w' := by
  have HX := sec hx
  have HC : Sec (∀ i (h : i < es.length) W, Gr w W → Calls Tryz.prog 136 #[.agg (stepA es[i].s es[i].A es[i].c es[i].B es[i].d)] W fun e w' => e = .returned (.tuple #[.string (bs (encR es[i].s).1), .int .i64 (encR es[i].s).2]) ∧ Gr W w') := sec (fun i h W g =>
    rstEncode_any es[i].s es[i].A es[i].c es[i].B es[i].d W ((hx.each _ (List.getElem_mem h)).gr g) (hz _ (List.getElem_mem h)))
  have HL : Sec (∀ i (h : i < es.length) (h' : i < l.length), l[i] = es[i].s) := sec (fun i h h' => by subst hl; simp)
  obtain ⟨N, hN⟩ : ∃ N, N = es.length := ⟨_, rfl⟩
  have hlN : l.length = N := by rw [hl, List.length_map, hN]
  have HN := sec hN
  have HLN := sec hlN
  obtain ⟨V, hV⟩ : ∃ V, V = lvR l := ⟨_, rfl⟩
  have HV := sec hV
  rw [← hN] at hn HX
  rw [← hN, ← hV]
  clear hx hz hN hl hlN hV
  go_enter Tryz.func90, Tryz.ntmps90
  go_wp2_with fail
  go_loopg [11, 4, 6, 7, 8] N (fun fuel iv ov _ _ _ wr => ∃ (i : Nat) (A0 : Option Addr) (c0 : Nat), iv = .int .i64 (i : Int) ∧ ov = .slice A0 i c0 ∧ N ≤ i + fuel ∧ i ≤ N ∧
    Sec (wr.ownsRow w.heap.size 9 1 (.slice A0 i c0) i ((encL (l.take i)).map strV)) ∧ Sec (lvE l = lvE (l.drop i)) ∧ Sec (Gr w wr))
  case atStart => exact ⟨0, none, 0, rfl, rfl, by omega, by omega, sec (World.ownsRow_nil _ _ _ _), sec rfl, sec (Gr.refl _)⟩
  case round =>
    obtain ⟨i, A0, c0, rfl, rfl, hik, hi, HO, HE, HG⟩ := hrel
    by_cases hlt : i < N
    · have hii : (i : Int) < (N : Int) := by omega
      have hlt' : i < es.length := by rw [← HN.out]; exact hlt
      have hltl : i < l.length := by rw [HLN.out]; exact hlt
      obtain ⟨b, off, rfl, e0, e1, e2, e3, e4⟩ := (HX.out.gr HG.out).cell hlt'
      have HCi := sec (HC.out i hlt')
      have HDR := sec (lvE_drop l i hltl)
      have HTK := sec (encL_take l i hltl)
      have hli := HL.out i hlt' hltl
      rw [hli] at HDR HTK
      obtain ⟨E0, hE0⟩ : ∃ E, E = es[i] := ⟨_, rfl⟩
      rw [← hE0] at HCi HDR HTK e0 e1 e2 e3 e4
      clear hE0 hlt' hltl hli
      obtain ⟨s0, A1, c1, B1, d1⟩ := E0
      simp only at e0 e1 e2 e3 e4 HDR HTK HCi
      obtain ⟨x, hx⟩ : ∃ x, x = (encR s0).1 := ⟨_, rfl⟩
      obtain ⟨y, hy⟩ : ∃ y, y = (encR s0).2 := ⟨_, rfl⟩
      rw [← hx] at HCi HTK
      rw [← hy] at HCi HDR
      obtain ⟨r, o, n, who, seals⟩ := s0
      simp only [stepA] at HCi
      simp only at e0 e1 e2 e3 e4
      have hbb : (i + 1) * 16 ≤ 140737488355328 := by omega
      have hmm : i + 1 ≤ maxLen := by unfold maxLen; omega
      have HLT := sec hlt
      clear hlt hx hy
      by_cases hy0 : y = 0
      · subst hy0
        have HE1 : Sec (lvE l = lvE (l.drop (i + 1))) := sec (by rw [HE.out, HDR.out, if_pos rfl])
        go_wp2_with (first
          | (go_at_call 136; (with_reducible refine Calls.mono (HCi.out _ (HG.out.alloc _)) ?_); rintro e w1 ⟨rfl, g1⟩; have GG1 := ((Gr.refl wr).alloc (.cells #[.string (bs r), .string (bs o), .string (bs n), .slice A1 who.length c1, .slice B1 seals.length d1] 69)).trans g1; have G1 := HG.out.trans GG1; have HO1 := own_gr HO.out GG1)
          | (at_builtin; refine wpList_append_rowO E.str rfl (.tmp 23) (.tmp 25) rfl (B := w.heap.size) (A0 := A0) (n0 := i) (cap0 := c0) (xs := (encL (l.take i)).map strV) rfl (own_gr HO1 ((Gr.refl _).alloc _)) rfl (row1L (T := 9) (u := .string (bs x)) (Blk.new _ _ _)) (fun h => by cases h) (fun u hu => by simp at hu; subst hu; rfl) hbb hmm (G1.alloc _).size ?_; intro A2 c2 w2 o2 h2))
        have hal := (Gr.refl w1).alloc (.cells #[.string (bs x)] 9)
        have HO2 := own_gr HO1 hal
        go_roundg (gk - 1)
        case rel =>
          refine ⟨i + 1, A2, c2, by go_num, rfl, by omega, HLT.out, sec ?_, HE1, sec ?_⟩
          · rw [HTK.out, ← sV_addL]; exact o2
          · exact (G1.trans hal).grown h2 (fun k hk => (HO2.lt k hk).1)
        case measure => have := HLT.out; omega
      · have hyb : (y != 0) = true := by rw [bne_iff_ne]; exact hy0
        have HVV : Sec (V = ([], y)) := sec (by
          have h : lvE l = y := by rw [HE.out, HDR.out, if_neg hy0]
          rw [HV.out]
          unfold lvR
          rw [h, if_neg hy0])
        clear hy0
        go_wp2_with (first
          | (go_at_call 136; (with_reducible refine Calls.mono (HCi.out _ (HG.out.alloc _)) ?_); rintro e w1 ⟨rfl, g1⟩; have G1 := (HG.out.alloc (.cells #[.string (bs r), .string (bs o), .string (bs n), .slice A1 who.length c1, .slice B1 seals.length d1] 69)).trans g1))
        go_ret2
        rw [HVV.out]
        exact ⟨none, 0, rfl, Row.nil _ 1 none, fun _ => ⟨rfl, rfl⟩, Nat.le_refl _, G1⟩
    · have q1 : decide (i < N) = false := decide_eq_false hlt
      have HI : Sec (i = N) := sec (by omega)
      clear hlt
      go_wp2_with fail
      go_ret2
      obtain rfl := HI.out
      have h0 : lvE l = 0 := by rw [HE.out, List.drop_eq_nil_of_le (by rw [HLN.out]; exact Nat.le_refl _)]; rfl
      have hV2 : V = (encL l, 0) := by rw [HV.out]; unfold lvR; rw [if_pos h0]
      have ho := HO.out
      rw [List.take_of_length_le (by rw [HLN.out]; exact Nat.le_refl _)] at ho
      rw [hV2]
      have hle : (encL l).length = i := by rw [encL_len]; exact HLN.out
      simp only [hle]
      exact ⟨A0, c0, rfl, Row.own ho, own_nil5 ho, own_cap5 ho, HG.out⟩

set_option maxHeartbeats 8000000 in
theorem rof_any (es : List SA) (l : List Stp) (A : Option Addr) (c : Nat) (w : World) (hx : StsR w A es.length es) (hl : l = es.map (·.s)) (hn : es.length ≤ 1099511627776) (hz : ∀ e ∈ es, StSz 1099511627776 e.s) (hT : TabK w) :
    Calls Tryz.prog 47 #[.slice A es.length c] w fun e w' => e = .returned (.tuple #[.agg (headC (ofR l).1 (ofR l).2.1), .int .i64 (ofR l).2.2]) ∧ Gr w w' := by
  have HLv : Sec (∀ W, Gr w W → Calls Tryz.prog 90 #[.slice A es.length c] W fun e w' => ∃ A' c', e = .returned (.tuple #[.slice A' (lvR l).1.length c', .int .i64 (lvR l).2]) ∧ StrRow w' A' (lvR l).1.length (lvR l).1 ∧ (A' = none → (lvR l).1.length = 0 ∧ c' = 0) ∧ (lvR l).1.length ≤ c' ∧ Gr W w') := sec (fun W g => rleaves_any es l A c W (hx.gr g) hl hn hz)
  have HRo : Sec (∀ L A1 c1 W, L = encL l → StrRow W A1 L.length L → L.length ≤ c1 → Gr w W → Calls Tryz.prog 91 #[.slice A1 L.length c1] W fun e w' => e = .returned (.string (bs (rootL L))) ∧ Gr W w') := sec (fun L A1 c1 W hL h hc g => by
    have hT' := hT.gr g
    have hsh : Short L := fun x hx => by have := encL_short l x (by rw [← hL]; exact hx); omega
    have hLl : L.length ≤ 1099511627776 := by rw [hL, encL_len, hl, List.length_map]; exact hn
    exact rroot_any L L.length A1 c1 W hLl h hsh)
  have hlN : l.length = es.length := by rw [hl, List.length_map]
  obtain ⟨N, hN⟩ : ∃ N, N = es.length := ⟨_, rfl⟩
  rw [← hN] at hlN HLv hn
  rw [← hN]
  obtain ⟨V, hV⟩ : ∃ V, V = ofR l := ⟨_, rfl⟩
  rw [← hV]
  have HV : Sec (V = if 200 < N then (0, [], 6) else if lvE l = 0 then ((N : Int), rootL (encL l), 0) else (0, [], lvE l)) := sec (by rw [hV]; unfold ofR; rw [hlN])
  have HB := Blk.new w 26 #[.int .i64 0, .string (bs [])]
  have hg0 := (Gr.refl w).alloc (.cells #[.int .i64 0, .string (bs [])] 26)
  obtain ⟨wa, hwa⟩ : ∃ y, y = w.alloc (.cells #[.int .i64 0, .string (bs [])] 26) := ⟨_, rfl⟩
  obtain ⟨p, hp⟩ : ∃ p, p = w.heap.size := ⟨_, rfl⟩
  rw [← hwa] at HB hg0
  rw [← hp] at HB
  have hwp : w.heap.size ≤ p := by omega
  have HBB := sec HB
  clear HB hV hN hlN hx hl hz hT
  unfold headC
  have HSK : Sec (∀ W, Gr wa W → W.cell? ⟨p, 0, none⟩ = some (.int .i64 0) ∧ W.cell? ⟨p, 1, none⟩ = some (.string (bs [])) ∧ W.frozen? ⟨p, 0, none⟩ = false ∧ W.frozen? ⟨p, 1, none⟩ = false) := sec (fun W g => ⟨(HBB.out.gr g).cell 0, (HBB.out.gr g).cell 1, (HBB.out.gr g).frozen 0, (HBB.out.gr g).frozen 1⟩)
  obtain ⟨u0, u1, u2, u3⟩ := HSK.out wa (Gr.refl _)
  by_cases h200 : 200 < N
  · have hi2 : (200 : Int) < (N : Int) := by omega
    have HR : Sec (V = (0, [], 6)) := sec (by rw [HV.out, if_pos h200])
    clear HV h200
    go_enter Tryz.func47, Tryz.ntmps47
    go_upto_region 1 with fail
    rw [← hwa, ← hp]
    clear hwa hp
    go_wp2_with fail
    refine bodyPost_ret (results_blk_tmp rfl _ rfl ((HBB.out.set_ 0 (.int .i64 0)).set_ 1 (.string (bs []))) aggHd) rfl ?_
    rw [HR.out]
    exact ⟨rfl, (hg0.setCell (p := ⟨p, 0, none⟩) hwp _).setCell (p := ⟨p, 1, none⟩) hwp _⟩
  · have hi2 : ¬ (200 : Int) < (N : Int) := by omega
    have HV2 : Sec (V = if lvE l = 0 then ((N : Int), rootL (encL l), 0) else (0, [], lvE l)) := sec (by rw [HV.out, if_neg h200])
    have hi3 : N ≤ 200 := by omega
    clear h200 HV
    unfold lvR at HLv
    obtain ⟨y, hy⟩ : ∃ y, y = lvE l := ⟨_, rfl⟩
    rw [← hy] at HLv HV2
    obtain ⟨L, hL⟩ : ∃ L, L = encL l := ⟨_, rfl⟩
    rw [← hL] at HLv HV2
    have HLL := sec hL
    clear hL hy
    by_cases hy0 : y = 0
    · subst hy0
      have HR : Sec (V = ((N : Int), rootL L, 0)) := sec (by rw [HV2.out, if_pos rfl])
      simp only [if_true] at HLv
      have HRoL := sec (fun A1 c1 W h1 h2 h3 => HRo.out L A1 c1 W HLL.out h1 h2 h3)
      obtain ⟨T, hTT⟩ : ∃ T, T = rootL L := ⟨_, rfl⟩
      rw [← hTT] at HR HRoL
      clear HRo HV2 hTT
      go_enter Tryz.func47, Tryz.ntmps47
      go_upto_region 1 with fail
      rw [← hwa, ← hp]
      clear hwa hp
      go_wp2_with (first
        | (go_at_call 90; (with_reducible refine Calls.mono (HLv.out _ hg0) ?_); rintro e w1 ⟨A1, c1, rfl, r1, n1, k1, g1⟩; have G1 := hg0.trans g1; obtain ⟨v0, v1, v2, v3⟩ := HSK.out w1 g1)
        | (go_at_call 91; (with_reducible refine Calls.mono (HRoL.out A1 c1 _ r1 k1 G1) ?_); rintro e w2 ⟨rfl, g2⟩; have g12 := g1.trans g2; have G2 := G1.trans g2; obtain ⟨z0, z1, z2, z3⟩ := HSK.out w2 g12))
      refine bodyPost_ret (results_blk_tmp rfl _ rfl (((HBB.out.gr g12).set_ 0 (.int .i64 (N : Int))).set_ 1 (.string (bs T))) aggHd) rfl ?_
      rw [HR.out]
      exact ⟨rfl, (G2.setCell (p := ⟨p, 0, none⟩) hwp _).setCell (p := ⟨p, 1, none⟩) hwp _⟩
    · have HR : Sec (V = (0, [], y)) := sec (by rw [HV2.out, if_neg hy0])
      have m0 : (y != 0) = true := by rw [bne_iff_ne]; exact hy0
      simp only [if_neg hy0] at HLv
      clear HRo HV2 hy0
      go_enter Tryz.func47, Tryz.ntmps47
      go_upto_region 1 with fail
      rw [← hwa, ← hp]
      clear hwa hp
      go_wp2_with (first
        | (go_at_call 90; (with_reducible refine Calls.mono (HLv.out _ hg0) ?_); rintro e w1 ⟨A1, c1, rfl, r1, n1, k1, g1⟩; have G1 := hg0.trans g1; obtain ⟨v0, v1, v2, v3⟩ := HSK.out w1 g1))
      refine bodyPost_ret (results_blk_tmp rfl _ rfl (((HBB.out.gr g1).set_ 0 (.int .i64 0)).set_ 1 (.string (bs []))) aggHd) rfl ?_
      rw [HR.out]
      exact ⟨rfl, (G1.setCell (p := ⟨p, 0, none⟩) hwp _).setCell (p := ⟨p, 1, none⟩) hwp _⟩
end Go.Proofs.YtoamnifnfkgbiaaGreatDoor

namespace Go.Proofs.YtoamnifnfkgbiaaGreatDoor
set_option maxRecDepth 100000
open Go.RowKit
set_option linter.unusedVariables false
set_option maxHeartbeats 8000000 in
theorem rstCheck_any (A0 : Option Addr) (m c0 : Nat) (B0 : Option Addr) (m' d0 : Nat) (need : Int) (ss : List (List UInt8)) (at_ : Int) (s : Stp) (A : Option Addr) (c : Nat) (B : Option Addr) (d : Nat) (w : World)
    (hK : StrRow w A0 m ss) (hm : m ≤ 1099511627776) (hss : ∀ x ∈ ss, x.length ≤ 1099511627776) (hR : StR w s A c B d) (hz : StSz 1099511627776 s) (hT : TabK w) :
    Calls Tryz.prog 92 #[.agg (keysA A0 m c0 B0 m' d0 need), .int .i64 at_, .agg (stepA s A c B d)] w fun e w' => e = .returned (.int .i64 (stCk ss need at_ s)) ∧ Gr w w' := by
  obtain ⟨wa, hwa⟩ : ∃ x, x = (w.alloc (.cells (keysA A0 m c0 B0 m' d0 need) 33)).alloc (.cells (stepA s A c B d) 69) := ⟨_, rfl⟩
  have hk : Blk wa w.heap.size 33 (keysA A0 m c0 B0 m' d0 need) := by rw [hwa]; exact (Blk.new w _ _).alloc _
  have hb : Blk wa (w.heap.size + 1) 69 (stepA s A c B d) := by rw [hwa]; exact Blk.new1 w _ _ _
  have hg0 : Gr w wa := by rw [hwa]; exact ((Gr.refl w).alloc _).alloc _
  obtain ⟨p, hp⟩ : ∃ p, p = w.heap.size := ⟨_, rfl⟩
  rw [← hp] at hk hb
  have HGo : Sec (Calls Tryz.prog 88 #[.agg (stepA s A c B d)] wa fun e w' => e = .returned (.int .i64 (stE s)) ∧ Gr wa w') := sec (rstGood_any s A c B d wa (hR.gr hg0) hz)
  have HBo : Sec (∀ W, Calls Tryz.prog 139 #[.int .i64 at_, .agg (stepA s A c B d)] W fun e w' => e = .returned (.tuple #[.string (bs (bodyR at_ s).1), .int .i64 (bodyR at_ s).2]) ∧ Gr W w') := sec (fun W => rstBody_any at_ s A c B d W hz)
  have HBL := sec (bodyR_len at_ s)
  have HSe : Sec (∀ key : List UInt8, key.length ≤ 1099511627776 → ∀ w', Gr wa w' → Calls Tryz.prog 140 #[.string (bs key), .string (bs (bodyR at_ s).1)] w' fun e w'' => e = .returned (.string (bs (seal' key (bodyR at_ s).1))) ∧ Gr w' w'') := sec (fun key hkey w' g => rseal_any key _ w' (by omega) (by have := HBL.out; omega))
  have HW := sec (hR.who.gr hg0)
  have HS := sec (hR.seals.gr hg0)
  have HKR := sec (hK.gr hg0)
  have HKL := sec (StrRow.len hK)
  have HSS := sec hss
  have hwl := hz.who
  have hsl := hz.seals
  have HSE := sec (fun h => stE_zero (s := s) h)
  obtain ⟨V, hV⟩ : ∃ V : Int, V = stCk ss need at_ s := ⟨_, rfl⟩
  rw [← hV]
  have HV := sec hV
  obtain ⟨E, hE⟩ : ∃ E, E = stE s := ⟨_, rfl⟩
  rw [← hE] at HGo HSE
  have HE := sec hE
  obtain ⟨b, hbb⟩ : ∃ b, b = (bodyR at_ s).1 := ⟨_, rfl⟩
  obtain ⟨be, hbe⟩ : ∃ b, b = (bodyR at_ s).2 := ⟨_, rfl⟩
  rw [← hbb, ← hbe] at HBo
  rw [← hbb] at HSe
  have HVV : Sec (V = if E = 0 then (if be = 0 then (if (rgL ss b s).all id = true ∧ need ≤ (s.who.length : Int) then 0 else 13) else be) else E) := sec (by rw [HV.out, hbb, hbe, hE]; rfl)
  clear hV hE hbb hbe HV HE HBL
  obtain ⟨r, o, n, who, seals⟩ := s
  unfold stepA at hb hwa HGo HBo
  unfold keysA at hk hwa
  unfold stepA keysA
  simp only at hb hwa hwl hsl HW HS HGo HBo HVV HSE ⊢
  have HCELL : Sec (∀ w', Gr wa w' → w'.cell? ⟨p, 0, none⟩ = some (.slice A0 m c0) ∧ w'.cell? ⟨p, 2, none⟩ = some (.int .i64 need) ∧ w'.cell? ⟨p + 1, 0, none⟩ = some (.string (bs r)) ∧ w'.cell? ⟨p + 1, 1, none⟩ = some (.string (bs o)) ∧ w'.cell? ⟨p + 1, 2, none⟩ = some (.string (bs n)) ∧ w'.cell? ⟨p + 1, 3, none⟩ = some (.slice A who.length c) ∧ w'.cell? ⟨p + 1, 4, none⟩ = some (.slice B seals.length d)) := sec (fun w' g => ⟨(hk.gr g).cell 0, (hk.gr g).cell 2, (hb.gr g).cell 0, (hb.gr g).cell 1, (hb.gr g).cell 2, (hb.gr g).cell 3, (hb.gr g).cell 4⟩)
  clear hb hk hK hss hR hz hT
  obtain ⟨u0, u1, u2, u3, u4, u5, u6⟩ := HCELL.out wa (Gr.refl _)
  by_cases h0 : E = 0
  · obtain ⟨-, -, -, -, z4, z5, z6, z7, -⟩ := HSE.out h0
    try simp only at z4 z5 z6 z7
    have HV1 : Sec (V = if be = 0 then (if (rgL ss b ⟨r, o, n, who, seals⟩).all id = true ∧ need ≤ (who.length : Int) then 0 else 13) else be) := sec (by rw [HVV.out, if_pos h0])
    subst h0
    by_cases h1 : be = 0
    · have HV2 : Sec (V = if (rgL ss b ⟨r, o, n, who, seals⟩).all id = true ∧ need ≤ (who.length : Int) then 0 else 13) := sec (by rw [HV1.out, if_pos h1])
      have HSL := sec z5
      have HZ7 := sec z7
      have HRL : Sec ((rgL ss b ⟨r, o, n, who, seals⟩).length = who.length) := sec (rgL_len (s := ⟨r, o, n, who, seals⟩) z5)
      subst h1
      clear HVV HV1 HSE z5 z6 z7
      go_enter Tryz.func92, Tryz.ntmps92
      go_upto_region 1 with fail
      rw [← hwa, ← hp]
      clear hwa hp
      go_wp2_with (first
        | (go_at_call 88; refine Calls.mono HGo.out ?_; rintro e w1 ⟨rfl, g1⟩; obtain ⟨v0, v1, v2, v3, v4, v5, v6⟩ := HCELL.out w1 g1)
        | (go_at_call 139; refine Calls.mono (HBo.out _) ?_; rintro e w2 ⟨rfl, g2'⟩; have g2 : Gr wa w2 := Gr.trans g1 g2'; obtain ⟨t0, t1, t2, t3, t4, t5, t6⟩ := HCELL.out w2 g2))
      clear u0 u1 u2 u3 u4 u5 u6 v0 v1 v2 v3 v4 v5 v6 t0 t1 t2 t3 t4 t5 t6
      go_loopg [30, 10, 11, 12] who.length (fun fuel iv rv _ _ wr => ∃ i rt : Nat, iv = .int .i64 (i : Int) ∧ rv = .int .i64 (rt : Int) ∧ rt ≤ i ∧ who.length ≤ i + fuel ∧ i ≤ who.length ∧ Sec (((rgL ss b ⟨r, o, n, who, seals⟩).take i).count true = rt) ∧ Gr wa wr)
      case atStart => exact ⟨0, 0, rfl, rfl, by omega, by omega, by omega, sec rfl, g2⟩
      case round =>
        clear g1 g2 g2'
        obtain ⟨i, rt, rfl, rfl, hrt, hik, hi, HAL, gw⟩ := hrel
        by_cases hlt : i < who.length
        · have hsl2 : i < seals.length := by have := HSL.out; omega
          have hii : (i : Int) < (who.length : Int) := by omega
          have hjj : (i : Int) < (seals.length : Int) := by omega
          have hrl : i < (rgL ss b ⟨r, o, n, who, seals⟩).length := by rw [HRL.out]; exact hlt
          have HGET := sec (rgL_get (ss := ss) (b := b) (s := ⟨r, o, n, who, seals⟩) hlt hsl2 hrl)
          have HCT := sec (count_take _ i hrl)
          have hwz := HZ7.out _ (List.getElem_mem hlt)
          obtain ⟨bk, off, rfl, e0⟩ := (HW.out.gr gw).cell hlt
          obtain ⟨bk2, off2, rfl, -⟩ := (HS.out.gr gw).cell hsl2
          have HX1 : Sec (∀ W, Gr wa W → W.cell? ⟨p, 0, none⟩ = some (.slice A0 m c0) ∧ W.cell? ⟨p + 1, 4, none⟩ = some (.slice (some ⟨bk2, off2, none⟩) seals.length d) ∧ W.cell? ⟨bk2, off2 + i, none⟩ = some (.string (bs seals[i])) ∧ Gr wa W) := sec (fun W g => by
            obtain ⟨b', o', e', h'⟩ := (HS.out.gr g).cell hsl2
            injection e' with e'; injection e' with e3 e4 _
            subst e3 e4
            exact ⟨(HCELL.out W g).1, (HCELL.out W g).2.2.2.2.2.2, h', g⟩)
          obtain ⟨mw, hmw⟩ : ∃ x, x = who[i] := ⟨_, rfl⟩
          obtain ⟨sl, hslx⟩ : ∃ x, x = seals[i] := ⟨_, rfl⟩
          try simp only at HGET
          rw [← hmw, ← hslx] at HGET
          rw [← hmw] at e0 hwz
          rw [← hslx] at HX1
          obtain ⟨a, rfl⟩ : ∃ a : Nat, mw = (a : Int) := ⟨mw.toNat, by omega⟩
          have HII := sec hlt
          have hkl := HKL.out
          clear hmw hslx hsl2 hwz
          obtain ⟨y0, y1, y2, -⟩ := HX1.out wr gw
          by_cases ham : a < m
          · have haw : a < ss.length := by omega
            have hgd : ss.getD (a : Int).toNat [] = ss[a] := by rw [Int.toNat_natCast, List.getD_eq_getElem?_getD, List.getElem?_eq_getElem haw]; rfl
            have HRG : Sec (rgB ss b (a : Int) sl = (seal' ss[a] b == sl)) := sec (by unfold rgB; rw [decide_eq_true (show (a : Int) < (ss.length : Int) by omega), hgd]; rfl)
            obtain ⟨bk3, off3, rfl, -⟩ := (HKR.out.gr gw).cell haw
            have hwsz := HSS.out ss[a] (List.getElem_mem haw)
            have HKP0 : Sec (∀ W, Gr wa W → W.cell? ⟨bk3, off3 + a, none⟩ = some (.string (bs ss[a]))) := sec (fun W g => by
              obtain ⟨b', o', e', h'⟩ := (HKR.out.gr g).cell haw
              injection e' with e'; injection e' with e3 e4 _
              subst e3 e4
              exact h')
            obtain ⟨key, hkey⟩ : ∃ key, key = ss[a] := ⟨_, rfl⟩
            rw [← hkey] at hwsz HRG HKP0
            have HSk := sec (fun W (g : Gr wa W) => HSe.out key hwsz W g)
            obtain ⟨sv, hsv⟩ : ∃ sv, sv = seal' key b := ⟨_, rfl⟩
            rw [← hsv] at HSk HRG
            have q0 : decide (a < m) = true := decide_eq_true ham
            have ham' : (a : Int) < (m : Int) := by omega
            have HKP : Sec (∀ W, Gr wa W → W.cell? ⟨p, 0, none⟩ = some (.slice (some ⟨bk3, off3, none⟩) m c0) ∧ W.cell? ⟨p + 1, 4, none⟩ = some (.slice (some ⟨bk2, off2, none⟩) seals.length d) ∧ W.cell? ⟨bk2, off2 + i, none⟩ = some (.string (bs sl)) ∧ W.cell? ⟨bk3, off3 + a, none⟩ = some (.string (bs key)) ∧ Gr wa W) := sec (fun W g => ⟨(HX1.out W g).1, (HX1.out W g).2.1, (HX1.out W g).2.2.1, HKP0.out W g, g⟩)
            have gd : Gr wa wr.drew := gw.drew
            clear hkey hsv hwsz hgd haw ham hkl
            by_cases hsl3 : sv = sl
            · have HNX : Sec (((rgL ss b ⟨r, o, n, who, seals⟩).take (i + 1)).count true = rt + 1) := sec (by rw [HCT.out, HAL.out, HGET.out, HRG.out, hsl3, if_pos (by simp)])
              subst hsl3
              go_wp2_with fail
              go_region_held3 (fun W => W.cell? ⟨p, 0, none⟩ = some (.slice (some ⟨bk3, off3, none⟩) m c0) ∧ W.cell? ⟨p + 1, 4, none⟩ = some (.slice (some ⟨bk2, off2, none⟩) seals.length d) ∧ W.cell? ⟨bk2, off2 + i, none⟩ = some (.string (bs sv)) ∧ W.cell? ⟨bk3, off3 + a, none⟩ = some (.string (bs key)) ∧ Gr wa W)
                (first | with_reducible assumption | with_reducible exact HKP.out _ gd | with_reducible exact HKP.out _ g4 | fail)
                (first
                  | (go_at_call 140; (with_reducible refine Calls.mono (HSk.out wr.drew gd) ?_); rintro e w4 ⟨rfl, g4'⟩; have g4 : Gr wa w4 := Gr.trans gd g4')
                  | fail)
              all_goals
                go_wp2_with fail
                go_roundg (gk - 1)
                case rel => exact ⟨i + 1, rt + 1, by go_num, by go_num, by omega, by omega, HII.out, HNX, g4⟩
                case measure => have := HII.out; omega
            · have hne : (sv == sl) = false := by rw [beq_eq_false_iff_ne]; exact hsl3
              have HNX : Sec (((rgL ss b ⟨r, o, n, who, seals⟩).take (i + 1)).count true = rt) := sec (by rw [HCT.out, HAL.out, HGET.out, HRG.out, hne]; rfl)
              clear hsl3
              go_wp2_with fail
              go_region_held3 (fun W => W.cell? ⟨p, 0, none⟩ = some (.slice (some ⟨bk3, off3, none⟩) m c0) ∧ W.cell? ⟨p + 1, 4, none⟩ = some (.slice (some ⟨bk2, off2, none⟩) seals.length d) ∧ W.cell? ⟨bk2, off2 + i, none⟩ = some (.string (bs sl)) ∧ W.cell? ⟨bk3, off3 + a, none⟩ = some (.string (bs key)) ∧ Gr wa W)
                (first | with_reducible assumption | with_reducible exact HKP.out _ gd | with_reducible exact HKP.out _ g4 | fail)
                (first
                  | (go_at_call 140; (with_reducible refine Calls.mono (HSk.out wr.drew gd) ?_); rintro e w4 ⟨rfl, g4'⟩; have g4 : Gr wa w4 := Gr.trans gd g4')
                  | fail)
              all_goals
                go_wp2_with fail
                go_roundg (gk - 1)
                case rel => exact ⟨i + 1, rt, by go_num, rfl, by omega, by omega, HII.out, HNX, g4⟩
                case measure => have := HII.out; omega
          · have HRG : Sec (rgB ss b (a : Int) sl = false) := sec (by unfold rgB; rw [decide_eq_false (show ¬ (a : Int) < (ss.length : Int) by omega)]; rfl)
            have HNX : Sec (((rgL ss b ⟨r, o, n, who, seals⟩).take (i + 1)).count true = rt) := sec (by rw [HCT.out, HAL.out, HGET.out, HRG.out]; rfl)
            have q0 : decide (a < m) = false := decide_eq_false ham
            clear ham hkl
            go_wp2_with fail
            go_quiet (fail)
            go_wp2_with fail
            go_roundg (gk - 1)
            case rel => exact ⟨i + 1, rt, by go_num, rfl, by omega, by omega, HII.out, HNX, Gr.drewN gw _⟩
            case measure => have := HII.out; omega
        · have HCA : Sec (rt < who.length ↔ (rgL ss b ⟨r, o, n, who, seals⟩).all id = false) := sec (by
            have h := HAL.out
            rw [List.take_of_length_le (by rw [HRL.out]; omega)] at h
            rw [← h, ← HRL.out]
            exact count_all _)
          obtain hE2 : i = who.length := by omega
          obtain ⟨y0, y1, y2, y3, y4, y5, y6⟩ := HCELL.out wr gw
          have q : decide (i < who.length) = false := decide_eq_false hlt
          have hrw : rt ≤ who.length := by omega
          clear hE2 hlt hik
          by_cases hr : rt < who.length
          · have q1 : decide (rt < who.length) = true := decide_eq_true hr
            have HV0 : Sec (V = 13) := sec (by rw [HV2.out, HCA.out.1 hr, if_neg (by simp)])
            clear hr
            go_wp2_with fail
            go_ret
            exact ⟨by rw [HV0.out]; rfl, hg0.trans gw⟩
          · have q1 : decide (rt < who.length) = false := decide_eq_false hr
            have HALL : Sec ((rgL ss b ⟨r, o, n, who, seals⟩).all id = true) := sec (by
              cases h : (rgL ss b ⟨r, o, n, who, seals⟩).all id
              · exact absurd (HCA.out.2 h) hr
              · rfl)
            by_cases hn : need ≤ (rt : Int)
            · have q2 : decide ((rt : Int) < need) = false := decide_eq_false (by omega)
              have HV0 : Sec (V = 0) := sec (by rw [HV2.out, if_pos ⟨HALL.out, by omega⟩])
              clear hr hn
              go_wp2_with fail
              go_ret
              exact ⟨by rw [HV0.out]; rfl, hg0.trans gw⟩
            · have q2 : decide ((rt : Int) < need) = true := decide_eq_true (by omega)
              have HV0 : Sec (V = 13) := sec (by rw [HV2.out, if_neg (fun h => by have := h.2; omega)])
              clear hr hn
              go_wp2_with fail
              go_ret
              exact ⟨by rw [HV0.out]; rfl, hg0.trans gw⟩
    · have HV0 : Sec (V = be) := sec (by rw [HV1.out, if_neg h1])
      have m0 : (be != 0) = true := by simpa using h1
      clear HVV HV1 HSE z4 z5 z6 z7
      go_enter Tryz.func92, Tryz.ntmps92
      go_upto_region 1 with fail
      rw [← hwa, ← hp]
      clear hwa hp
      go_wp2_with (first
        | (go_at_call 88; refine Calls.mono HGo.out ?_; rintro e w1 ⟨rfl, g1⟩; obtain ⟨v0, v1, v2, v3, v4, v5, v6⟩ := HCELL.out w1 g1)
        | (go_at_call 139; refine Calls.mono (HBo.out _) ?_; rintro e w2 ⟨rfl, g2'⟩))
      go_ret
      exact ⟨by rw [HV0.out]; rfl, hg0.trans (g1.trans g2')⟩
  · have HV0 : Sec (V = E) := sec (by rw [HVV.out, if_neg h0])
    have m0 : (E != 0) = true := by simpa using h0
    clear HVV HSE
    go_enter Tryz.func92, Tryz.ntmps92
    go_upto_region 1 with fail
    rw [← hwa, ← hp]
    clear hwa hp
    go_wp2_with (go_at_call 88; refine Calls.mono HGo.out ?_; rintro e w1 ⟨rfl, g1⟩)
    go_ret
    exact ⟨by rw [HV0.out]; rfl, hg0.trans g1⟩
end Go.Proofs.YtoamnifnfkgbiaaGreatDoor

namespace Go.Proofs.YtoamnifnfkgbiaaGreatDoor
set_option maxRecDepth 100000
open Go.RowKit
set_option linter.unusedVariables false
set_option maxHeartbeats 8000000 in
theorem rrepl_any (A0 : Option Addr) (m c0 : Nat) (B0 : Option Addr) (m' d0 : Nat) (need : Int) (ss : List (List UInt8)) (es : List SA) (l : List Stp) (A : Option Addr) (c : Nat) (w : World)
    (hK : StrRow w A0 m ss) (hm : m ≤ 1099511627776) (hss : ∀ x ∈ ss, x.length ≤ 1099511627776) (hx : StsR w A es.length es) (hl : l = es.map (·.s)) (hn : es.length ≤ 1099511627776) (hz : ∀ e ∈ es, StSz 1099511627776 e.s) (hT : TabK w) :
    Calls Tryz.prog 48 #[.agg (keysA A0 m c0 B0 m' d0 need), .slice A es.length c] w fun e w' => ∃ A' c' n', n' = (rpR ss need l).1.length ∧ e = .returned (.tuple #[.slice A' n' c', .int .i64 (rpR ss need l).2.1, .int .i64 (rpR ss need l).2.2]) ∧ RfRow w' A' n' (rpR ss need l).1 ∧ Gr w w' := by
  have HX := sec hx
  have HCk : Sec (∀ i (h : i < es.length) W, Gr w W → Calls Tryz.prog 92 #[.agg (keysA A0 m c0 B0 m' d0 need), .int .i64 (i : Int), .agg (stepA es[i].s es[i].A es[i].c es[i].B es[i].d)] W fun e w' => e = .returned (.int .i64 (stCk ss need (i : Int) es[i].s)) ∧ Gr W w') := sec (fun i h W g =>
    rstCheck_any A0 m c0 B0 m' d0 need ss (i : Int) es[i].s es[i].A es[i].c es[i].B es[i].d W (hK.gr g) hm hss ((hx.each _ (List.getElem_mem h)).gr g) (hz _ (List.getElem_mem h)) (hT.gr g))
  have HSe : Sec (∀ (s : Stp) (fs : List Rf) A2 c2 W, RfRow W A2 fs.length fs → (A2 = none → fs.length = 0 ∧ c2 = 0) → fs.length ≤ 1099511627776 → RfSz 1099511627776 fs → s.r.length ≤ 1099511627776 → s.o.length ≤ 1099511627776 → s.n.length ≤ 1099511627776 →
      Calls Tryz.prog 93 #[.slice A2 fs.length c2, .string (bs s.r), .string (bs s.o), .string (bs s.n)] W fun e w' => SetPost W (setR fs s.r s.o s.n) e w') := sec (fun s fs A2 c2 W h hA hfn hsz h1 h2 h3 => rrset_any fs s.r s.o s.n A2 fs.length c2 W hfn h (fun f hf => hsz.each f hf) h1 h2 h3)
  have HZ := sec hz
  have HL : Sec (∀ i (h : i < es.length) (h' : i < l.length), l[i] = es[i].s) := sec (fun i h h' => by subst hl; simp)
  obtain ⟨N, hN⟩ : ∃ N, N = es.length := ⟨_, rfl⟩
  have hlN : l.length = N := by rw [hl, List.length_map, hN]
  have HN := sec hN
  have HLN := sec hlN
  obtain ⟨V, hV⟩ : ∃ V, V = rpR ss need l := ⟨_, rfl⟩
  have HV : Sec (V = if 200 < N then ([], 0, 6) else rpGo ss need 0 l []) := sec (by rw [hV]; unfold rpR; rw [hlN])
  rw [← hN] at hn HX
  rw [← hN, ← hV]
  obtain ⟨wa, hwa⟩ : ∃ y, y = w.alloc (.cells (keysA A0 m c0 B0 m' d0 need) 33) := ⟨_, rfl⟩
  have hkb : Blk wa w.heap.size 33 (keysA A0 m c0 B0 m' d0 need) := by rw [hwa]; exact Blk.new w _ _
  have hg0 : Gr w wa := by rw [hwa]; exact (Gr.refl w).alloc _
  obtain ⟨p, hp⟩ : ∃ p, p = w.heap.size := ⟨_, rfl⟩
  rw [← hp] at hkb
  have HKC : Sec (∀ W, Gr wa W → W.cell? ⟨p, 0, none⟩ = some (.slice A0 m c0) ∧ W.cell? ⟨p, 1, none⟩ = some (.slice B0 m' d0) ∧ W.cell? ⟨p, 2, none⟩ = some (.int .i64 need)) := sec (fun W g => ⟨(hkb.gr g).cell 0, (hkb.gr g).cell 1, (hkb.gr g).cell 2⟩)
  clear hx hz hN hl hlN hV hK hm hss hT hkb
  unfold keysA at hwa HCk
  unfold keysA
  by_cases h200 : 200 < N
  · have hi2 : (200 : Int) < (N : Int) := by omega
    have HR : Sec (V = ([], 0, 6)) := sec (by rw [HV.out, if_pos h200])
    clear HV h200
    go_enter Tryz.func48, Tryz.ntmps48
    go_upto_region 1 with fail
    rw [← hwa, ← hp]
    clear hwa hp
    go_wp2_with fail
    go_ret3
    rw [HR.out]
    exact ⟨none, 0, 0, rfl, rfl, Row.nil _ 2 none, hg0⟩
  · have hi2 : ¬ (200 : Int) < (N : Int) := by omega
    have HV2 : Sec (V = rpGo ss need 0 l []) := sec (by rw [HV.out, if_neg h200])
    have hN2 : N ≤ 200 := by omega
    clear HV h200
    go_enter Tryz.func48, Tryz.ntmps48
    go_upto_region 1 with fail
    rw [← hwa, ← hp]
    clear hwa hp
    go_wp2_with fail
    go_loopg [16, 7, 8, 9, 10] N (fun fuel iv ov _ _ _ wr => ∃ (i : Nat) (A2 : Option Addr) (n2 c2 : Nat), iv = .int .i64 (i : Int) ∧ ov = .slice A2 n2 c2 ∧ N ≤ i + fuel ∧ i ≤ N ∧
      Sec (∃ fs : List Rf, n2 = fs.length ∧ RfRow wr A2 fs.length fs ∧ (A2 = none → fs.length = 0 ∧ c2 = 0) ∧ RfSz 1099511627776 fs ∧ fs.length ≤ i ∧ V = rpGo ss need i (l.drop i) fs) ∧ Sec (Gr wa wr))
    case atStart => exact ⟨0, none, 0, 0, rfl, rfl, by omega, by omega, sec ⟨[], rfl, Row.nil _ 2 none, fun _ => ⟨rfl, rfl⟩, ⟨by simp⟩, by simp, HV2.out⟩, sec (Gr.refl _)⟩
    case round =>
      obtain ⟨i, A2, n2, c2, rfl, rfl, hik, hi, HF, HG⟩ := hrel
      obtain ⟨fs, rfl, hfr, hfn, hfs, hfl, hfV⟩ := HF.out
      have HFR := sec hfr
      have HFN := sec hfn
      have HFS := sec hfs
      have HFL := sec hfl
      obtain ⟨k0, k1, k2⟩ := HKC.out wr HG.out
      by_cases hlt : i < N
      · have hii : (i : Int) < (N : Int) := by omega
        have hlt' : i < es.length := by rw [← HN.out]; exact hlt
        have hltl : i < l.length := by rw [HLN.out]; exact hlt
        obtain ⟨b, off, rfl, e0, e1, e2, e3, e4⟩ := (HX.out.gr (hg0.trans HG.out)).cell hlt'
        have HCi := sec (HCk.out i hlt')
        have hzi := HZ.out _ (List.getElem_mem hlt')
        rw [rpGo_at ss need l i hltl fs, HL.out i hlt' hltl] at hfV
        obtain ⟨E0, hE0⟩ : ∃ E, E = es[i] := ⟨_, rfl⟩
        rw [← hE0] at HCi hfV hzi e0 e1 e2 e3 e4
        clear hE0 hlt' hltl
        obtain ⟨s0, A1, c1, B1, d1⟩ := E0
        simp only at e0 e1 e2 e3 e4 HCi hfV hzi
        have HSi : Sec (∀ W, RfRow W A2 fs.length fs → Calls Tryz.prog 93 #[.slice A2 fs.length c2, .string (bs s0.r), .string (bs s0.o), .string (bs s0.n)] W fun e w' => SetPost W (setR fs s0.r s0.o s0.n) e w') := sec (fun W h => HSe.out s0 fs A2 c2 W h HFN.out (by have := HFL.out; omega) HFS.out hzi.r hzi.o hzi.n)
        have HSZ := sec (setR_sz (name := s0.r) (old := s0.o) (id := s0.n) HFS.out hzi.r hzi.n)
        obtain ⟨y, hy⟩ : ∃ y, y = stCk ss need (i : Int) s0 := ⟨_, rfl⟩
        obtain ⟨U, hU⟩ : ∃ U, U = setR fs s0.r s0.o s0.n := ⟨_, rfl⟩
        rw [← hy] at HCi hfV
        rw [← hU] at HSi HSZ hfV
        have HFV := sec hfV
        obtain ⟨n2, hn2⟩ : ∃ n, n = fs.length := ⟨_, rfl⟩
        have HN2 := sec hn2
        rw [← hn2] at HSi HFR HFL
        rw [← hn2]
        obtain ⟨r, o, n, who, seals⟩ := s0
        simp only [stepA] at HCi
        simp only at e0 e1 e2 e3 e4 HSi
        have HLT := sec hlt
        clear hlt hy hU hfV hzi hfr hfn hfs hfl hn2 HF
        have GA := (Gr.refl wr).alloc (.cells #[.string (bs r), .string (bs o), .string (bs n), .slice A1 who.length c1, .slice B1 seals.length d1] 69)
        have bA := Blk.new wr 69 #[.string (bs r), .string (bs o), .string (bs n), .slice A1 who.length c1, .slice B1 seals.length d1]
        obtain ⟨kk0, kk1, kk2⟩ := HKC.out _ (HG.out.trans GA)
        by_cases hy0 : y = 0
        · subst hy0
          have HFV2 : Sec (V = if U.2 = 0 then rpGo ss need (i + 1) (l.drop (i + 1)) U.1 else ([], (i : Int), U.2)) := sec (by rw [HFV.out, if_pos rfl])
          obtain ⟨U1, U2⟩ := U
          simp only at HFV2 HSZ
          by_cases hU0 : U2 = 0
          · subst hU0
            have HFV3 : Sec (V = rpGo ss need (i + 1) (l.drop (i + 1)) U1) := sec (by rw [HFV2.out, if_pos rfl])
            go_wp2_with (first
              | (go_at_call 92; (with_reducible refine Calls.mono (HCi.out _ (hg0.trans (HG.out.trans GA))) ?_); rintro e w1 ⟨rfl, g1⟩; have G1 := GA.trans g1; have b1 := bA.gr g1; have x0 := b1.cell 0; have x1 := b1.cell 1; have x2 := b1.cell 2)
              | (go_at_call 93; (with_reducible refine Calls.mono (HSi.out _ (HFR.out.gr G1)) ?_); rintro e w2 ⟨A5, c5, n5, hn5, rfl, r5, q5, g5⟩; have HN5 := sec hn5; clear hn5))
            go_roundg (gk - 1)
            case rel => exact ⟨i + 1, A5, n5, c5, by go_num, rfl, by omega, HLT.out, sec ⟨U1, HN5.out, by rw [← HN5.out]; exact r5, by rw [← HN5.out]; exact q5, HSZ.out.1, by have := HSZ.out.2; have := HFL.out; have := HN2.out; omega, HFV3.out⟩, sec ((HG.out.trans G1).trans g5)⟩
            case measure => have := HLT.out; omega
          · have HFV3 : Sec (V = ([], (i : Int), U2)) := sec (by rw [HFV2.out, if_neg hU0])
            have hub : (U2 != 0) = true := by rw [bne_iff_ne]; exact hU0
            have hub2 : (U2 == 0) = false := by rw [beq_eq_false_iff_ne]; exact hU0
            clear hU0
            go_wp2_with (first
              | (go_at_call 92; (with_reducible refine Calls.mono (HCi.out _ (hg0.trans (HG.out.trans GA))) ?_); rintro e w1 ⟨rfl, g1⟩; have G1 := GA.trans g1; have b1 := bA.gr g1; have x0 := b1.cell 0; have x1 := b1.cell 1; have x2 := b1.cell 2)
              | (go_at_call 93; (with_reducible refine Calls.mono (HSi.out _ (HFR.out.gr G1)) ?_); rintro e w2 ⟨A5, c5, n5, hn5, rfl, r5, q5, g5⟩; clear hn5))
            go_ret3
            rw [HFV3.out]
            exact ⟨none, 0, 0, rfl, rfl, Row.nil _ 2 none, hg0.trans ((HG.out.trans G1).trans g5)⟩
        · have HFV3 : Sec (V = ([], (i : Int), y)) := sec (by rw [HFV.out, if_neg hy0])
          have hyb : (y != 0) = true := by rw [bne_iff_ne]; exact hy0
          have hyb2 : (y == 0) = false := by rw [beq_eq_false_iff_ne]; exact hy0
          clear hy0
          go_wp2_with (first
            | (go_at_call 92; (with_reducible refine Calls.mono (HCi.out _ (hg0.trans (HG.out.trans GA))) ?_); rintro e w1 ⟨rfl, g1⟩; have G1 := GA.trans g1))
          go_ret3
          rw [HFV3.out]
          exact ⟨none, 0, 0, rfl, rfl, Row.nil _ 2 none, hg0.trans (HG.out.trans G1)⟩
      · have q1 : decide (i < N) = false := decide_eq_false hlt
        have hfin : V = (fs, 0, 0) := by
          rw [hfV, List.drop_eq_nil_of_le (by rw [HLN.out]; omega)]
          rfl
        have HFV3 := sec hfin
        obtain ⟨n2, hn2⟩ : ∃ n, n = fs.length := ⟨_, rfl⟩
        have HN2 := sec hn2
        rw [← hn2] at HFR
        rw [← hn2]
        clear hn2 hfV hlt hfin hfr hfn hfs hfl HF
        go_wp2_with fail
        go_ret3
        rw [HFV3.out]
        exact ⟨A2, c2, n2, HN2.out, rfl, HFR.out, hg0.trans HG.out⟩
end Go.Proofs.YtoamnifnfkgbiaaGreatDoor

namespace Go.Proofs.YtoamnifnfkgbiaaGreatDoor
set_option maxRecDepth 100000
open Go.RowKit
set_option linter.unusedVariables false

theorem rdNew {w : World} {l : List UInt8} (hl : l.length ≤ 1152921504606846976) : RdAt 80 (w.alloc (.cells #[.string (bs l), .int .i64 0] 80)) w.heap.size (l, 0) := ⟨Blk.new _ _ _, hl, by simp⟩

set_option maxHeartbeats 16000000 in
theorem rrise_any (fs : List Fl) (f sz : Int) (r : List UInt8) (A : Option Addr) (n c : Nat) (B : Option Addr) (m d : Nat) (C : Option Addr) (k e : Nat) (keep : Int) (A0 : Option Addr) (m0 c0 : Nat) (B0 : Option Addr) (m1 d0 : Nat) (need : Int) (ss : List (List UInt8)) (w : World)
    (hx : FRow w A n fs) (hA : A = none → n = 0 ∧ c = 0) (hn : n ≤ 1048576) (hs : ∀ f ∈ fs, f.1.length ≤ 1099511627776 ∧ f.2.1.length ≤ 1099511627776 ∧ f.2.2.length ≤ 1099511627776)
    (hK : StrRow w A0 m0 ss) (hm : m0 ≤ 1099511627776) (hss : ∀ x ∈ ss, x.length ≤ 1099511627776) (hT : TabK w) :
    Calls Tryz.prog 9 #[.agg (cliA A n c f sz r B m d C k e), .agg (keysA A0 m0 c0 B0 m1 d0 need), .int .i64 keep] w (RisePost w (riseR fs f keep ss need) (cliA A n c f sz r B m d C k e) n) := by
  unfold cliA keysA
  obtain ⟨wa, hwa⟩ : ∃ x, x = ((w.alloc (.cells #[.slice A n c, .int .i64 f, .int .i64 sz, .string (bs r), .slice B m d, .slice C k e] 30)).alloc (.cells #[.slice A0 m0 c0, .slice B0 m1 d0, .int .i64 need] 33)).alloc (.cells #[.slice none 0 0, .int .i64 0, .int .i64 0, .string (bs []), .slice none 0 0, .slice none 0 0] 30) := ⟨_, rfl⟩
  have G0 : Gr w wa := by rw [hwa]; exact (((Gr.refl w).alloc _).alloc _).alloc _
  have b0 : Blk wa w.heap.size 30 #[.slice A n c, .int .i64 f, .int .i64 sz, .string (bs r), .slice B m d, .slice C k e] := by rw [hwa]; exact ((Blk.new w _ _).alloc _).alloc _
  have b1 : Blk wa (w.heap.size + 1) 33 #[.slice A0 m0 c0, .slice B0 m1 d0, .int .i64 need] := by rw [hwa]; exact (Blk.new1 w _ _ _).alloc _
  have b2 : Blk wa (w.heap.size + 2) 30 #[.slice none 0 0, .int .i64 0, .int .i64 0, .string (bs []), .slice none 0 0, .slice none 0 0] := by rw [hwa]; exact Blk.newAt (by simp) _ _
  obtain ⟨p, hp⟩ : ∃ p, p = w.heap.size := ⟨_, rfl⟩
  rw [← hp] at b0 b1 b2
  have HSK : Sec (∀ W, Gr wa W → W.cell? ⟨p, 0, none⟩ = some (.slice A n c) ∧ W.cell? ⟨p, 1, none⟩ = some (.int .i64 f) ∧ W.cell? ⟨p, 2, none⟩ = some (.int .i64 sz) ∧ W.cell? ⟨p, 3, none⟩ = some (.string (bs r)) ∧ W.cell? ⟨p, 4, none⟩ = some (.slice B m d) ∧ W.cell? ⟨p, 5, none⟩ = some (.slice C k e) ∧ W.cell? ⟨p + 1, 0, none⟩ = some (.slice A0 m0 c0) ∧ W.cell? ⟨p + 1, 1, none⟩ = some (.slice B0 m1 d0) ∧ W.cell? ⟨p + 1, 2, none⟩ = some (.int .i64 need) ∧ W.cell? ⟨p + 2, 0, none⟩ = some (.slice none 0 0) ∧ W.cell? ⟨p + 2, 1, none⟩ = some (.int .i64 0) ∧ W.cell? ⟨p + 2, 2, none⟩ = some (.int .i64 0) ∧ W.cell? ⟨p + 2, 3, none⟩ = some (.string (bs [])) ∧ W.cell? ⟨p + 2, 4, none⟩ = some (.slice none 0 0) ∧ W.cell? ⟨p + 2, 5, none⟩ = some (.slice none 0 0) ∧ W.frozen? ⟨p + 2, 0, none⟩ = false ∧ W.frozen? ⟨p + 2, 1, none⟩ = false ∧ W.frozen? ⟨p + 2, 2, none⟩ = false ∧ W.frozen? ⟨p + 2, 3, none⟩ = false ∧ W.frozen? ⟨p + 2, 4, none⟩ = false ∧ W.frozen? ⟨p + 2, 5, none⟩ = false) := sec (fun W g => ⟨(b0.gr g).cell 0, (b0.gr g).cell 1, (b0.gr g).cell 2, (b0.gr g).cell 3, (b0.gr g).cell 4, (b0.gr g).cell 5, (b1.gr g).cell 0, (b1.gr g).cell 1, (b1.gr g).cell 2, (b2.gr g).cell 0, (b2.gr g).cell 1, (b2.gr g).cell 2, (b2.gr g).cell 3, (b2.gr g).cell 4, (b2.gr g).cell 5, (b2.gr g).frozen 0, (b2.gr g).frozen 1, (b2.gr g).frozen 2, (b2.gr g).frozen 3, (b2.gr g).frozen 4, (b2.gr g).frozen 5⟩)
  have HQ := sec b2
  have HP := sec (show w.heap.size ≤ p + 2 by omega)
  have HZ : Sec (∀ W v0 v1 v2 v3 v4 v5, Gr wa W → Gr w ((((((W.setCell ⟨p + 2, 0, none⟩ v0).setCell ⟨p + 2, 1, none⟩ v1).setCell ⟨p + 2, 2, none⟩ v2).setCell ⟨p + 2, 3, none⟩ v3).setCell ⟨p + 2, 4, none⟩ v4).setCell ⟨p + 2, 5, none⟩ v5)) := sec (fun W v0 v1 v2 v3 v4 v5 g =>
    ((((((G0.trans g).setCell (p := ⟨p + 2, 0, none⟩) HP.out _).setCell (p := ⟨p + 2, 1, none⟩) HP.out _).setCell (p := ⟨p + 2, 2, none⟩) HP.out _).setCell (p := ⟨p + 2, 3, none⟩) HP.out _).setCell (p := ⟨p + 2, 4, none⟩) HP.out _).setCell (p := ⟨p + 2, 5, none⟩) HP.out _)
  have HCr : Sec (∀ W, Gr wa W → Calls Tryz.prog 40 #[diskV A n c f, .int .i64 keep] W fun e w' => ∃ A' cap', e = .returned (.tuple #[diskV A' n cap' (crashR fs f keep).2.1, .int .i64 (crashR fs f keep).2.2]) ∧ (FRow w' A' n (crashR fs f keep).1 ∧ (0 < n → ∀ b off, A' = some ⟨b, off, none⟩ → b ≠ p + 2)) ∧ Gr W w') := sec (fun W g => (rcrash_any fs A n c f keep W (by omega) (hx.gr (G0.trans g)) hA hs).mono fun e w' ⟨A', c', h1, h2, h3, h4⟩ => ⟨A', c', h1, ⟨h2, fun h0 b off e => by
    have hlt := b2.lt
    have hsz := g.size
    rcases h4 with h4 | h4
    · obtain ⟨b', off', e', hb'⟩ := Row.lt hx h0 (by omega)
      rw [h4, e'] at e
      injection e with e; injection e with e1 _
      omega
    · subst e
      have := (h4.lt b rfl).1
      omega⟩, h3⟩)
  have HZF : Sec (∀ W v0 v1 v2 v3 v4 v5 A1 gs, FRow W A1 n gs → (0 < n → ∀ b off, A1 = some ⟨b, off, none⟩ → b ≠ p + 2) → FRow ((((((W.setCell ⟨p + 2, 0, none⟩ v0).setCell ⟨p + 2, 1, none⟩ v1).setCell ⟨p + 2, 2, none⟩ v2).setCell ⟨p + 2, 3, none⟩ v3).setCell ⟨p + 2, 4, none⟩ v4).setCell ⟨p + 2, 5, none⟩ v5) A1 n gs) := sec (fun W v0 v1 v2 v3 v4 v5 A1 gs h hne =>
    Row.only (Row.only (Row.only (Row.only (Row.only (Row.only h (grown_setCell _ ⟨p + 2, 0, none⟩ v0) hne) (grown_setCell _ ⟨p + 2, 1, none⟩ v1) hne) (grown_setCell _ ⟨p + 2, 2, none⟩ v2) hne) (grown_setCell _ ⟨p + 2, 3, none⟩ v3) hne) (grown_setCell _ ⟨p + 2, 4, none⟩ v4) hne) (grown_setCell _ ⟨p + 2, 5, none⟩ v5) hne)
  obtain ⟨V, hV⟩ : ∃ V, V = riseR fs f keep ss need := ⟨_, rfl⟩
  obtain ⟨⟨gs, u, ce⟩, hR⟩ : ∃ R, R = crashR fs f keep := ⟨_, rfl⟩
  have HV : Sec (V = if ce = 0 then (if (chk gs trustN).2 = 7 then .fresh gs u else if (chk gs trustN).2 = 0 then riseB gs u ss need (chk gs trustN).1 else .same (chk gs trustN).2) else .same ce) := sec (by rw [hV]; unfold riseR; rw [← hR])
  have hcz := crash_sz (f := f) (keep := keep) hs
  rw [← hR] at HCr hcz
  rw [← hV]
  have HCk : Sec (∀ W A' c', FRow W A' n gs → Gr wa W → Calls Tryz.prog 41 #[diskV A' n c' u, .string { data := #[116, 114, 117, 115, 116] }] W fun e w' => e = .returned (.tuple #[.string (bs (chk gs trustN).1), .int .i64 (chk gs trustN).2]) ∧ Gr W w') := sec (fun W A' c' h g => summed_any gs trustN A' n c' u W (by omega) h hcz)
  have HEm : Sec (∀ W, Gr wa W → Calls Tryz.prog 42 #[] W fun e w' => e = .returned (.agg (headC 0 (sha []))) ∧ Gr W w') := sec (fun W g => nohead_any W)
  have hkl : (chk gs trustN).1.length ≤ 1048576 := chk_len gs trustN
  obtain ⟨⟨kb, ke⟩, hKc⟩ : ∃ R, R = chk gs trustN := ⟨_, rfl⟩
  rw [← hKc] at hkl
  simp only at hkl
  rw [← hKc] at HCk HV
  unfold headC at HEm
  unfold diskV at HCr HCk
  simp only at HCr HCk HV
  have HG := sec G0
  have HT0 := sec hT
  obtain ⟨a0, a1, a2, a3, a4, a5, k0, k1, k2, q0, q1, q2, q3, q4, q5, z0, z1, z2, z3, z4, z5⟩ := HSK.out wa (Gr.refl _)
  clear hV hR hx hA hs hcz hKc b0 b1 b2 G0
  go_enter Tryz.func9, Tryz.ntmps9
  go_upto_region 1 with fail
  rw [← hwa, ← hp]
  clear hwa hp
  by_cases hce : ce = 0
  case neg =>
    have qe : (ce != 0) = true := by rw [bne_iff_ne]; exact hce
    have HXX : Sec (V = .same ce) := sec (by rw [HV.out, if_neg hce])
    clear hce
    go_wp2_with (go_at_call 40; (with_reducible refine Calls.mono (HCr.out wa (Gr.refl _)) ?_); rintro e w1 ⟨A1, c1, rfl, ⟨x1, hne1⟩, g1⟩; have h1 := g1.alloc (.cells #[.slice A1 n c1, .int .i64 u] 24); obtain ⟨a0, a1, a2, a3, a4, a5, k0, k1, k2, q0, q1, q2, q3, q4, q5, z0, z1, z2, z3, z4, z5⟩ := HSK.out _ h1)
    refine bodyPost_ret (results_blk_tmp rfl _ rfl (((((((HQ.out.gr h1).set_ 0 (.slice A n c)).set_ 1 (.int .i64 f)).set_ 2 (.int .i64 sz)).set_ 3 (.string (bs r))).set_ 4 (.slice B m d)).set_ 5 (.slice C k e)) aggCli) rfl ?_
    rw [HXX.out]
    exact ⟨rfl, HZ.out _ _ _ _ _ _ _ h1⟩
  subst hce
  have qce : ((0 : Int) != 0) = false := by decide
  have HV2 : Sec (V = if ke = 7 then .fresh gs u else if ke = 0 then riseB gs u ss need kb else .same ke) := sec (by rw [HV.out, if_pos rfl])
  clear HV
  by_cases h7 : ke = 7
  · subst h7
    have HXX : Sec (V = .fresh gs u) := sec (by rw [HV2.out, if_pos rfl])
    clear HV2
    go_upto_region 6 with (first
      | (go_at_call 40; (with_reducible refine Calls.mono (HCr.out wa (Gr.refl _)) ?_); rintro e w1 ⟨A1, c1, rfl, ⟨x1, hne1⟩, g1⟩; have h1 := g1.alloc (.cells #[.slice A1 n c1, .int .i64 u] 24); have hq1 := Blk.new w1 24 #[.slice A1 n c1, .int .i64 u]; have x1' := x1.gr ((Gr.refl w1).alloc (.cells #[.slice A1 n c1, .int .i64 u] 24)); obtain ⟨a0, a1, a2, a3, a4, a5, k0, k1, k2, q0, q1, q2, q3, q4, q5, z0, z1, z2, z3, z4, z5⟩ := HSK.out _ h1)
      | (go_at_call 41; refine Calls.mono (HCk.out _ A1 c1 x1' h1) ?_; rintro e w2 ⟨rfl, g2⟩; have h2 := h1.trans g2; have d0' : w2.cell? ⟨w1.heap.size, 0, none⟩ = some (.slice A1 n c1) := (hq1.gr g2).cell 0; have d1' : w2.cell? ⟨w1.heap.size, 1, none⟩ = some (.int .i64 u) := (hq1.gr g2).cell 1; obtain ⟨a0, a1, a2, a3, a4, a5, k0, k1, k2, q0, q1, q2, q3, q4, q5, z0, z1, z2, z3, z4, z5⟩ := HSK.out _ h2))
    have gd : Gr w2 w2.drew := (Gr.refl w2).drew
    have H2d := h2.trans gd
    obtain ⟨a0, a1, a2, a3, a4, a5, k0, k1, k2, q0, q1, q2, q3, q4, q5, z0, z1, z2, z3, z4, z5⟩ := HSK.out _ H2d
    have e0 : w2.drew.cell? ⟨w1.heap.size, 0, none⟩ = some (.slice A1 n c1) := d0'
    have e1 : w2.drew.cell? ⟨w1.heap.size, 1, none⟩ = some (.int .i64 u) := d1'
    go_region_with (go_at_call 42; (with_reducible refine Calls.mono (HEm.out w2.drew H2d) ?_); rintro e w3 ⟨rfl, g3⟩; have h3 := H2d.trans g3; have e03 : w3.cell? ⟨w1.heap.size, 0, none⟩ = some (.slice A1 n c1) := (hq1.gr (g2.trans (gd.trans g3))).cell 0; have e13 : w3.cell? ⟨w1.heap.size, 1, none⟩ = some (.int .i64 u) := (hq1.gr (g2.trans (gd.trans g3))).cell 1; obtain ⟨a0, a1, a2, a3, a4, a5, k0, k1, k2, q0, q1, q2, q3, q4, q5, z0, z1, z2, z3, z4, z5⟩ := HSK.out _ h3)
    all_goals
      go_wp2_with fail
      refine bodyPost_ret (results_blk_tmp rfl _ rfl (((((((HQ.out.gr h3).set_ 0 (.slice A1 n c1)).set_ 1 (.int .i64 u)).set_ 2 (.int .i64 0)).set_ 3 (.string (bs (sha [])))).set_ 4 (.slice none 0 0)).set_ 5 (.slice none 0 0)) aggCli) rfl ?_
      rw [HXX.out]
      exact ⟨A1, c1, rfl, HZF.out _ _ _ _ _ _ _ _ _ (x1'.gr (g2.trans (gd.trans g3))) hne1, HZ.out _ _ _ _ _ _ _ h3⟩
  have q7 : (ke == 7) = false := by rw [beq_eq_false_iff_ne]; exact h7
  have HV3 : Sec (V = if ke = 0 then riseB gs u ss need kb else .same ke) := sec (by rw [HV2.out, if_neg h7])
  clear HV2 h7
  by_cases hke : ke = 0
  case neg =>
    have qk : (ke != 0) = true := by rw [bne_iff_ne]; exact hke
    have HXX : Sec (V = .same ke) := sec (by rw [HV3.out, if_neg hke])
    clear HV3 hke
    go_wp2_with (first
      | (go_at_call 40; (with_reducible refine Calls.mono (HCr.out wa (Gr.refl _)) ?_); rintro e w1 ⟨A1, c1, rfl, ⟨x1, hne1⟩, g1⟩; have h1 := g1.alloc (.cells #[.slice A1 n c1, .int .i64 u] 24); have hq1 := Blk.new w1 24 #[.slice A1 n c1, .int .i64 u]; have x1' := x1.gr ((Gr.refl w1).alloc (.cells #[.slice A1 n c1, .int .i64 u] 24)); obtain ⟨a0, a1, a2, a3, a4, a5, k0, k1, k2, q0, q1, q2, q3, q4, q5, z0, z1, z2, z3, z4, z5⟩ := HSK.out _ h1)
      | (go_at_call 41; refine Calls.mono (HCk.out _ A1 c1 x1' h1) ?_; rintro e w2 ⟨rfl, g2⟩; have h2 := h1.trans g2; have d0' : w2.cell? ⟨w1.heap.size, 0, none⟩ = some (.slice A1 n c1) := (hq1.gr g2).cell 0; have d1' : w2.cell? ⟨w1.heap.size, 1, none⟩ = some (.int .i64 u) := (hq1.gr g2).cell 1; obtain ⟨a0, a1, a2, a3, a4, a5, k0, k1, k2, q0, q1, q2, q3, q4, q5, z0, z1, z2, z3, z4, z5⟩ := HSK.out _ h2))
    refine bodyPost_ret (results_blk_tmp rfl _ rfl (((((((HQ.out.gr h2).set_ 0 (.slice A n c)).set_ 1 (.int .i64 f)).set_ 2 (.int .i64 sz)).set_ 3 (.string (bs r))).set_ 4 (.slice B m d)).set_ 5 (.slice C k e)) aggCli) rfl ?_
    rw [HXX.out]
    exact ⟨rfl, HZ.out _ _ _ _ _ _ _ h2⟩
  subst hke
  have qk : ((0 : Int) != 0) = false := by decide
  have HV4 : Sec (V = riseB gs u ss need kb) := sec (by rw [HV3.out, if_pos rfl])
  clear HV3
  obtain ⟨sz0, hz0⟩ : ∃ z, z = nxtN (kb, 0) := ⟨_, rfl⟩
  obtain ⟨rt0, hr0⟩ : ∃ z, z = nxtB 32 (aftN (kb, 0)) := ⟨_, rfl⟩
  obtain ⟨qs, hq0⟩ : ∃ z, z = aftB 32 (aftN (kb, 0)) := ⟨_, rfl⟩
  obtain ⟨fC, hfC⟩ : ∃ f, f = riseC gs u ss need (sz0 : Int) rt0 := ⟨_, rfl⟩
  have HVK : Sec (RdK fC V qs []) := sec ⟨qs.1.length + 1, by omega, by rw [HV4.out, hfC, hz0, hr0, hq0]; rfl⟩
  have hql : qs.1.length ≤ 1048576 := by
    have h1 := aftB_le 32 (aftN (kb, 0))
    have h2 := aftN_le (kb, 0)
    rw [hq0]
    simp only at h2
    omega
  have HRd : Sec (∀ W : World, RdAt 80 (W.alloc (.cells #[.string (bs kb), .int .i64 0] 80)) W.heap.size (kb, 0)) := sec (fun W => rdNew (by omega))
  have HN : Sec (∀ g W, RdAt 80 W g (kb, 0) → Calls Tryz.prog 43 #[.pointer (some ⟨g, 0, none⟩)] W fun e w' => e = .returned (.int .i64 (sz0 : Int)) ∧ RdAt 80 w' g (aftN (kb, 0)) ∧ W.grownBy w' (some g)) := sec (fun g W h => by rw [hz0]; exact ruNumber g (kb, 0) W h)
  have HB : Sec (∀ g W, RdAt 80 W g (aftN (kb, 0)) → Calls Tryz.prog 44 #[.pointer (some ⟨g, 0, none⟩), .int .i64 32] W fun e w' => e = .returned (.string (bs rt0)) ∧ RdAt 80 w' g qs ∧ W.grownBy w' (some g)) := sec (fun g W h => by rw [hr0, hq0]; exact ruTake g (aftN (kb, 0)) 32 W h (by omega))
  have hz0l : sz0 < 4611686018427387904 := by rw [hz0]; exact nxtN_ltD _
  have HfC := sec hfC
  clear hz0 hr0 hq0 hfC HV4
  go_upto_region 12 with (first
    | (go_at_call 40; (with_reducible refine Calls.mono (HCr.out wa (Gr.refl _)) ?_); rintro e w1 ⟨A1, c1, rfl, ⟨x1, hne1⟩, g1⟩; have h1 := g1.alloc (.cells #[.slice A1 n c1, .int .i64 u] 24); have hq1 := Blk.new w1 24 #[.slice A1 n c1, .int .i64 u]; have x1' := x1.gr ((Gr.refl w1).alloc (.cells #[.slice A1 n c1, .int .i64 u] 24)); obtain ⟨a0, a1, a2, a3, a4, a5, k0, k1, k2, q0, q1, q2, q3, q4, q5, z0, z1, z2, z3, z4, z5⟩ := HSK.out _ h1)
    | (go_at_call 41; refine Calls.mono (HCk.out _ A1 c1 x1' h1) ?_; rintro e w2 ⟨rfl, g2⟩; have h2 := h1.trans g2; have d0' : w2.cell? ⟨w1.heap.size, 0, none⟩ = some (.slice A1 n c1) := (hq1.gr g2).cell 0; have d1' : w2.cell? ⟨w1.heap.size, 1, none⟩ = some (.int .i64 u) := (hq1.gr g2).cell 1; obtain ⟨a0, a1, a2, a3, a4, a5, k0, k1, k2, q0, q1, q2, q3, q4, q5, z0, z1, z2, z3, z4, z5⟩ := HSK.out _ h2)
    | (go_at_call 43; (with_reducible refine Calls.mono (HN.out w2.heap.size _ (HRd.out w2)) ?_); rintro e w4 ⟨rfl, rd4, k4⟩)
    | (go_at_call 44; (with_reducible refine Calls.mono (HB.out w2.heap.size w4 rd4) ?_); rintro e w5 ⟨rfl, rd5, k5⟩))
  have G25 : Gr w2 w5 := gr_only (gr_only ((Gr.refl w2).alloc (.cells #[.string (bs kb), .int .i64 0] 80)) k4 (Nat.le_refl _)) k5 (Nat.le_refl _)
  have gl0 := G25.alloc (.cells #[.int .i64 (sz0 : Int), .string (bs rt0)] 26)
  have hhb0 := Blk.new w5 26 #[.int .i64 (sz0 : Int), .string (bs rt0)]
  have rdl0 := rd5.gr ((Gr.refl w5).alloc (.cells #[.int .i64 (sz0 : Int), .string (bs rt0)] 26))
  obtain ⟨hd, hhd⟩ : ∃ x, x = w5.heap.size := ⟨_, rfl⟩
  have hG5 : w2.heap.size < hd := by rw [hhd]; exact rd5.blk.lt
  have hwl5 : (w5.alloc (.cells #[.int .i64 (sz0 : Int), .string (bs rt0)] 26)).heap.size = hd + 1 := by rw [hhd]; simp
  obtain ⟨wl, hwl⟩ : ∃ x, x = w5.alloc (.cells #[.int .i64 (sz0 : Int), .string (bs rt0)] 26) := ⟨_, rfl⟩
  rw [← hwl] at gl0 hhb0 rdl0 hwl5
  rw [← hhd] at hhb0
  have HCD : Sec (∀ W, Gr w2 W → W.cell? ⟨w1.heap.size, 0, none⟩ = some (.slice A1 n c1) ∧ W.cell? ⟨w1.heap.size, 1, none⟩ = some (.int .i64 u)) := sec (fun W g => ⟨(hq1.gr (g2.trans g)).cell 0, (hq1.gr (g2.trans g)).cell 1⟩)
  have HFX : Sec (∀ W, Gr w2 W → FRow W A1 n gs) := sec (fun W g => x1'.gr (g2.trans g))
  have HWA : Sec (∀ W, Gr w2 W → Gr wa W) := sec (fun W g => h2.trans g)
  have HNE := sec hne1
  have HGL := sec gl0
  have HHB := sec hhb0
  have HRL := sec rdl0
  have HSZL := sec hwl5
  have HP2 : Sec (p + 2 < w2.heap.size) := sec (HQ.out.gr h2).lt
  have HTW : Sec (TabK w2) := sec ((HT0.out.gr HG.out).gr h2)
  rw [← hwl, ← hhd]
  obtain ⟨G, hGG⟩ : ∃ x, x = w2.heap.size := ⟨_, rfl⟩
  obtain ⟨dd, hdd⟩ : ∃ x, x = w1.heap.size := ⟨_, rfl⟩
  rw [← hGG] at HRL HP2 hG5
  rw [← hdd] at HCD
  rw [← hGG, ← hdd]
  have HGsz := sec hGG
  have HGd := sec hG5
  clear hwl hhd hGG hdd hG5 rd4 rd5 k4 k5 G25 gl0 hhb0 rdl0 hwl5 d0' d1' x1' hne1 hq1 g2 h2 g1 h1 x1 HRd HN HB HCr HCk HEm a0 a1 a2 a3 a4 a5 k0 k1 k2 q0 q1 q2 q3 q4 q5 z0 z1 z2 z3 z4 z5
  have HTx : Sec (∀ q W, RdAt 80 W G q → Calls Tryz.prog 46 #[.pointer (some ⟨G, 0, none⟩)] W fun e w' => e = .returned (.string (bs (nxtT q))) ∧ RdAt 80 w' G (aftT q) ∧ W.grownBy w' (some G)) := sec (fun q W h => ruText G q W h)
  have HQL := sec hql
  go_loopg [13, 14, 15] qs.1.length (fun fuel lv _ _ wr => ∃ (q : St) (Al : Option Addr) (cl n0 : Nat) (es' : List SA), lv = .slice Al n0 cl ∧ q.1.length ≤ fuel ∧ n0 + q.1.length ≤ 1048576 ∧ Sec (es'.length = n0) ∧ Sec (RdK fC V q (es'.map (·.s))) ∧
    Sec (RdAt 80 wr G q) ∧ Sec (Blk wr hd 26 #[.int .i64 (sz0 : Int), .string (bs rt0)]) ∧ Sec (wr.ownsRow (hd + 1) 69 5 (.slice Al n0 cl) n0 (es'.flatMap stpV)) ∧ Sec (∀ e ∈ es', StO (hd + 1) wr e) ∧ Sec (∀ e ∈ es', StSz 1099511627776 e.s) ∧ Sec (Gr w2 wr))
  case atStart => exact ⟨qs, none, 0, 0, [], rfl, Nat.le_refl _, by omega, sec rfl, HVK, HRL, HHB, sec (World.ownsRow_nil _ _ _ _), sec (by simp), sec (by simp), HGL⟩
  case round =>
    obtain ⟨q, Al, cl, n0, es', rfl, hfu, hnq, HL, HK, HD, HH, HO, HE, HZs, HGr⟩ := hrel
    obtain ⟨L, hL⟩ : ∃ L, L = q.1.length := ⟨_, rfl⟩
    obtain ⟨Eb, hE⟩ : ∃ Eb, Eb = q.2 := ⟨_, rfl⟩
    have HC : Sec (∀ W, RdAt 80 W G q → W.cell? ⟨G, 0, none⟩ = some (.string (bs q.1)) ∧ W.cell? ⟨G, 1, none⟩ = some (.int .i64 (Eb : Int))) := sec (fun W h => ⟨h.blk.cell 0, by rw [hE]; exact h.blk.cell 1⟩)
    obtain ⟨go, hgo⟩ : ∃ go : Bool, go = decide (¬ (q.1.length = 0 ∨ q.2 ≠ 0)) := ⟨_, rfl⟩
    have HGO := sec hgo
    rw [← hL] at hfu hnq
    have HLL := sec hL
    have HEE := sec hE
    clear hgo hL hE
    go_upto_region 12 with fail
    go_cut [63] from 52 to 63 (fun v wc => v = .bool go ∧ wr = wc)
    case first =>
      obtain ⟨x0, x1⟩ := HC.out _ HD.out
      by_cases hL0 : 0 < L
      · have hLd : q.1.isEmpty = false := by have h := HLL.out; cases h' : q.1 with | nil => rw [h'] at h; simp at h; omega | cons a b => rfl
        by_cases hE0 : Eb = 0
        · have hEi : ((Eb : Int) == 0) = true := by rw [beq_iff_eq]; omega
          have HGO1 : Sec (go = true) := sec (by rw [HGO.out]; exact decide_eq_true (by have h1 := HLL.out; have h2 := HEE.out; omega))
          clear hE0
          go_wp2_with fail
          go_meet
          exact ⟨by rw [HGO1.out], rfl⟩
        · have hEi : ((Eb : Int) == 0) = false := by rw [beq_eq_false_iff_ne]; omega
          have HGO1 : Sec (go = false) := sec (by rw [HGO.out]; exact decide_eq_false (by have h1 := HLL.out; have h2 := HEE.out; omega))
          clear hE0
          go_wp2_with fail
          go_meet
          exact ⟨by rw [HGO1.out], rfl⟩
      · have hLd : q.1.isEmpty = true := by have h := HLL.out; cases h' : q.1 with | nil => rfl | cons a b => rw [h'] at h; simp at h; omega
        have HGO1 : Sec (go = false) := sec (by rw [HGO.out]; exact decide_eq_false (by have h1 := HLL.out; have h2 := HEE.out; omega))
        go_wp2_with fail
        go_meet
        exact ⟨by rw [HGO1.out], rfl⟩
    case rest =>
      obtain ⟨rfl, rfl⟩ := hcut
      by_cases hg : go = true
      · have HST : Sec (¬ (q.1.length = 0 ∨ q.2 ≠ 0)) := sec (of_decide_eq_true (by rw [← HGO.out]; exact hg))
        obtain ⟨x, hx⟩ : ∃ x, x = nxtT q := ⟨_, rfl⟩
        obtain ⟨y, hy⟩ : ∃ y, y = (dcR x).2 := ⟨_, rfl⟩
        obtain ⟨s0, hs0⟩ : ∃ y, y = (dcR x).1 := ⟨_, rfl⟩
        have hxl : x.length ≤ 1099511627775 := by have h1 := nxtT_le q; have h2 := HLL.out; have h3 := HQL.out; rw [hx]; omega
        have HTq : Sec (Calls Tryz.prog 46 #[.pointer (some ⟨G, 0, none⟩)] wr fun e w' => e = .returned (.string (bs x)) ∧ RdAt 80 w' G (aftT q) ∧ wr.grownBy w' (some G)) := sec (by rw [hx]; exact HTx.out q wr HD.out)
        have HDq : Sec (∀ W, Calls Tryz.prog 45 #[.string (bs x)] W fun e w' => ∃ A c B d, e = .returned (.tuple #[.agg (stepA s0 A c B d), .int .i64 y]) ∧ OwnD W.heap.size w' s0 A c B d ∧ Gr W w') := sec (fun W => by rw [hy, hs0]; exact rstDecO_any x W hxl)
        have HSZ0 : Sec (StSz 1099511627776 s0) := sec (by rw [hs0]; exact dcR_szR x)
        subst hg
        by_cases hy0 : y = 0
        · have HK2 : Sec (RdK fC V (aftT q) (es'.map (·.s) ++ [s0])) := sec (by rw [hs0, hx]; exact HK.out.more HST.out (by rw [← hx, ← hy]; exact hy0))
          have HLT : Sec ((aftT q).1.length < L) := sec (by
            have h1 := aftT_lt (q := q) (by rw [← hx, ← hy]; exact hy0) (by by_cases h0 : q.2 = 0; exact h0; exact absurd (Or.inr h0) HST.out)
            have h2 := HLL.out
            omega)
          have hyb : (y != 0) = false := by rw [hy0]; rfl
          have HQ0 : Sec ((aftT q).2 = 0) := sec (aftT_lt (q := q) (by rw [← hx, ← hy]; exact hy0) (by by_cases h0 : q.2 = 0; exact h0; exact absurd (Or.inr h0) HST.out)).2
          obtain ⟨sr, so, sn, who, seals⟩ := s0
          simp only [stepA] at HDq
          have hbb : (n0 + 1) * 96 ≤ 140737488355328 := by omega
          have hmm : n0 + 1 ≤ maxLen := by unfold maxLen; omega
          have hsz : hd + 1 ≤ wr.heap.size := HH.out.lt
          clear hx hy hs0 hy0 hxl
          go_wp2_with (first
            | (go_at_call 46; (with_reducible refine Calls.mono HTq.out ?_); rintro e w6 ⟨rfl, rd6, k6⟩; have hs6 : wr.heap.size ≤ w6.heap.size := k6.size)
            | (go_at_call 45; (with_reducible refine Calls.mono (HDq.out _) ?_); rintro e w7 ⟨A', c', B', d', rfl, o7, g7⟩; have hs7 : w6.heap.size ≤ w7.heap.size := g7.size; have x1 : (w7.alloc (.cells #[.string (bs sr), .string (bs so), .string (bs sn), .slice A' who.length c', .slice B' seals.length d'] 69)).cell? ⟨G, 1, none⟩ = some (.int .i64 0) := by have h := ((rd6.gr g7).gr ((Gr.refl w7).alloc (.cells #[.string (bs sr), .string (bs so), .string (bs sn), .slice A' who.length c', .slice B' seals.length d'] 69))).blk.cell 1; rw [HQ0.out] at h; exact h)
            | (at_builtin; refine wpList_append_rowO E.stp rfl (.tmp 80) (.tmp 82) rfl (B := hd + 1) (A0 := Al) (n0 := n0) (cap0 := cl) (xs := es'.flatMap stpV) rfl (own_gr (own_gr (own_gr (own_only HO.out HD.out.blk (by decide) k6) g7) ((Gr.refl _).alloc _)) ((Gr.refl _).alloc _)) rfl (row_stp (e := ⟨⟨sr, so, sn, who, seals⟩, A', c', B', d'⟩) (Blk.new1 _ _ _ _)) (fun h => by cases h) (stpV_one1 _) hbb hmm (by simp; omega) ?_; intro A2 c2 w8 o8 k8))
          have hal := (Gr.refl w7).alloc (.cells (stepA ⟨sr, so, sn, who, seals⟩ A' c' B' d') 69)
          have hal2 := hal.alloc (.cells (stepA ⟨sr, so, sn, who, seals⟩ A' c' B' d') 69)
          have HO8 := own_gr (own_gr (own_only HO.out HD.out.blk (by decide) k6) g7) hal2
          have HH7 := ((HH.out.grown k6 (by intro e; injection e with e; have := HGd.out; omega)).gr g7).gr hal2
          have hGB : ∀ k, (Value.slice Al n0 cl).ownBlock = some k → hd + 1 ≤ k := fun k hk => (HO8.lt k hk).1
          have G28 := ((gr_only HGr.out k6 (by have := HGsz.out; omega)).trans g7).trans hal2
          go_roundg (gk - 1)
          case rel =>
            refine ⟨aftT q, A2, c2, n0 + 1, es' ++ [⟨⟨sr, so, sn, who, seals⟩, A', c', B', d'⟩], rfl, by have := HLT.out; omega, by have := HLT.out; omega, sec (by rw [List.length_append, HL.out]; rfl), sec ?_, sec ?_, sec ?_, sec ?_, sec (fun e he => ?_), sec (fun e he => ?_), sec ?_⟩
            · rw [List.map_append]; exact HK2.out
            · exact ((rd6.gr g7).gr hal2).other k8 (fun e => by have := hGB G e.symm; have := HGd.out; omega)
            · exact HH7.grown k8 (fun e => by have := hGB hd e.symm; omega)
            · rw [List.flatMap_append]; simpa using o8
            · rcases List.mem_append.1 he with he | he
              · exact ((((HE.out e he).onlyR HD.out.blk (by decide) (by decide) k6).gr g7).gr hal2).app HO8 k8
              · rw [List.mem_singleton] at he; subst he
                exact (StO.gr ⟨own_lowO o7.1 (by omega), own_lowO o7.2 (by omega)⟩ hal2).app HO8 k8
            · rcases List.mem_append.1 he with he | he
              · exact HZs.out e he
              · rw [List.mem_singleton] at he; subst he
                exact HSZ0.out
            · exact G28.grown k8 (fun k hk => by have := hGB k hk; have := HGd.out; have := HGsz.out; omega)
          case measure => have := HLT.out; omega
        · have HXX : Sec (V = .same 2) := sec (by rw [HK.out.bad HST.out (by rw [← hx, ← hy]; exact hy0), HfC.out]; rfl)
          have hyb : (y != 0) = true := by rw [bne_iff_ne]; exact hy0
          obtain ⟨sr, so, sn, who, seals⟩ := s0
          simp only [stepA] at HDq
          clear hx hy hs0 hy0 hxl
          obtain ⟨x2, hx2⟩ : ∃ z, z = (aftT q).2 := ⟨_, rfl⟩
          have HX2 := sec hx2
          clear hx2
          by_cases hx0 : x2 = 0
          · have hxb : ((x2 : Int) != 0) = false := by simpa using hx0
            clear hx0
            go_wp2_with (first
              | (go_at_call 46; (with_reducible refine Calls.mono HTq.out ?_); rintro e w6 ⟨rfl, rd6, k6⟩; have H26 : Gr w2 w6 := gr_only HGr.out k6 (by have := HGsz.out; omega))
              | (go_at_call 45; (with_reducible refine Calls.mono (HDq.out _) ?_); rintro e w7 ⟨A', c', B', d', rfl, o7, g7⟩; have h7 := HWA.out _ ((H26.trans g7).alloc (.cells #[.string (bs sr), .string (bs so), .string (bs sn), .slice A' who.length c', .slice B' seals.length d'] 69)); have x1 : (w7.alloc (.cells #[.string (bs sr), .string (bs so), .string (bs sn), .slice A' who.length c', .slice B' seals.length d'] 69)).cell? ⟨G, 1, none⟩ = some (.int .i64 (x2 : Int)) := (by rw [HX2.out]; exact ((rd6.gr g7).gr ((Gr.refl w7).alloc (.cells #[.string (bs sr), .string (bs so), .string (bs sn), .slice A' who.length c', .slice B' seals.length d'] 69))).blk.cell 1); obtain ⟨a0, a1, a2, a3, a4, a5, k0, k1, k2, q0, q1, q2, q3, q4, q5, z0, z1, z2, z3, z4, z5⟩ := HSK.out _ h7))
            refine bodyPost_ret (results_blk_tmp rfl _ rfl (((((((HQ.out.gr h7).set_ 0 (.slice A n c)).set_ 1 (.int .i64 f)).set_ 2 (.int .i64 sz)).set_ 3 (.string (bs r))).set_ 4 (.slice B m d)).set_ 5 (.slice C k e)) aggCli) rfl ?_
            rw [HXX.out]
            exact ⟨rfl, HZ.out _ _ _ _ _ _ _ h7⟩
          · have hxb : ((x2 : Int) != 0) = true := by simpa using hx0
            clear hx0
            go_wp2_with (first
              | (go_at_call 46; (with_reducible refine Calls.mono HTq.out ?_); rintro e w6 ⟨rfl, rd6, k6⟩; have H26 : Gr w2 w6 := gr_only HGr.out k6 (by have := HGsz.out; omega))
              | (go_at_call 45; (with_reducible refine Calls.mono (HDq.out _) ?_); rintro e w7 ⟨A', c', B', d', rfl, o7, g7⟩; have h7 := HWA.out _ ((H26.trans g7).alloc (.cells #[.string (bs sr), .string (bs so), .string (bs sn), .slice A' who.length c', .slice B' seals.length d'] 69)); have x1 : (w7.alloc (.cells #[.string (bs sr), .string (bs so), .string (bs sn), .slice A' who.length c', .slice B' seals.length d'] 69)).cell? ⟨G, 1, none⟩ = some (.int .i64 (x2 : Int)) := (by rw [HX2.out]; exact ((rd6.gr g7).gr ((Gr.refl w7).alloc (.cells #[.string (bs sr), .string (bs so), .string (bs sn), .slice A' who.length c', .slice B' seals.length d'] 69))).blk.cell 1); obtain ⟨a0, a1, a2, a3, a4, a5, k0, k1, k2, q0, q1, q2, q3, q4, q5, z0, z1, z2, z3, z4, z5⟩ := HSK.out _ h7))
            refine bodyPost_ret (results_blk_tmp rfl _ rfl (((((((HQ.out.gr h7).set_ 0 (.slice A n c)).set_ 1 (.int .i64 f)).set_ 2 (.int .i64 sz)).set_ 3 (.string (bs r))).set_ 4 (.slice B m d)).set_ 5 (.slice C k e)) aggCli) rfl ?_
            rw [HXX.out]
            exact ⟨rfl, HZ.out _ _ _ _ _ _ _ h7⟩
      · have hgf : go = false := by simpa using hg
        have HST : Sec (q.1.length = 0 ∨ q.2 ≠ 0) := sec (by have h := of_decide_eq_false (by rw [← HGO.out]; exact hgf); exact Classical.not_not.1 h)
        subst hgf
        clear hg
        obtain ⟨l, hl⟩ : ∃ l, l = es'.map (·.s) := ⟨_, rfl⟩
        have HK2 : Sec (V = fC (some (l, q))) := sec (by rw [hl]; exact HK.out.stop HST.out)
        have HSt : Sec (∀ W, Gr wr W → StsR W Al n0 es') := sec (fun W g => ⟨(Row.own HO.out).gr g, fun e he => ((HE.out e he).str).gr g⟩)
        have hn0 : n0 ≤ 1099511627776 := by omega
        obtain ⟨⟨oz, ort, oe⟩, hof⟩ : ∃ R, R = ofR l := ⟨_, rfl⟩
        have HOf : Sec (Calls Tryz.prog 47 #[.slice Al n0 cl] wr fun e w' => e = .returned (.tuple #[.agg (headC oz ort), .int .i64 oe]) ∧ Gr wr w') := sec (by
          have h1 := HSt.out wr (Gr.refl _)
          have h2 := rof_any es' l Al cl wr (by rw [HL.out]; exact h1) hl (by rw [HL.out]; exact hn0) HZs.out (HTW.out.gr HGr.out)
          rw [HL.out, ← hof] at h2
          exact h2)
        obtain ⟨⟨rs, rx, re⟩, hrp⟩ : ∃ R, R = rpR ss need l := ⟨_, rfl⟩
        have HRp : Sec (∀ W, Gr wr W → Calls Tryz.prog 48 #[.agg (keysA A0 m0 c0 B0 m1 d0 need), .slice Al n0 cl] W fun e w' => ∃ A' c' n', n' = rs.length ∧ e = .returned (.tuple #[.slice A' n' c', .int .i64 rx, .int .i64 re]) ∧ RfRow w' A' n' rs ∧ Gr W w') := sec (fun W g => by
          have h1 := HSt.out W g
          have h2 := rrepl_any A0 m0 c0 B0 m1 d0 need ss es' l Al cl W (hK.gr (HG.out.trans (HWA.out _ (HGr.out.trans g)))) hm hss (by rw [HL.out]; exact h1) hl (by rw [HL.out]; exact hn0) HZs.out (HTW.out.gr (HGr.out.trans g))
          rw [HL.out, ← hrp] at h2
          exact h2)
        have HVV : Sec (V = if Eb = 0 ∧ oe = 0 ∧ oz = (sz0 : Int) ∧ ort = rt0 then (if re = 0 then .full gs u (sz0 : Int) rt0 l rs else .same re) else .same 2) := sec (by
          rw [HK2.out, HfC.out, HEE.out]
          show (if q.2 = 0 ∧ (ofR l).2.2 = 0 ∧ (ofR l).1 = (sz0 : Int) ∧ (ofR l).2.1 = rt0 then (if (rpR ss need l).2.2 = 0 then RiseR.full gs u (sz0 : Int) rt0 l (rpR ss need l).1 else .same (rpR ss need l).2.2) else .same 2) = _
          rw [← hof, ← hrp])
        have HLM := sec hl
        unfold headC at HOf
        unfold keysA at HRp
        clear hof hrp hl HVK HK
        go_upto_region 18 with (first
          | (go_at_call 47; (with_reducible refine Calls.mono HOf.out ?_); rintro e w6 ⟨rfl, g6⟩; have b9 := Blk.new w6 26 #[.int .i64 oz, .string (bs ort)]; have g9 := g6.alloc (.cells #[.int .i64 oz, .string (bs ort)] 26)))
        have HH9 := HH.out.gr g9
        have HD9 := HD.out.gr g9
        have GG9 := HGr.out.trans g9
        have HO9 := own_gr HO.out g9
        obtain ⟨pb, hpb⟩ : ∃ x, x = w6.heap.size := ⟨_, rfl⟩
        obtain ⟨wx, hwx⟩ : ∃ x, x = w6.alloc (.cells #[.int .i64 oz, .string (bs ort)] 26) := ⟨_, rfl⟩
        rw [← hwx] at b9 g9 HH9 HD9 GG9 HO9 ⊢
        rw [← hpb] at b9 ⊢
        clear hwx hpb g6 HOf HTx
        obtain ⟨bad, hbad⟩ : ∃ bad : Bool, bad = decide (¬ (Eb = 0 ∧ oe = 0 ∧ oz = (sz0 : Int) ∧ ort = rt0)) := ⟨_, rfl⟩
        have HBAD := sec hbad
        clear hbad
        have y0 := b9.cell 0
        have y1 := b9.cell 1
        have y2 := HH9.cell 0
        have y3 := HH9.cell 1
        obtain ⟨x0, x1⟩ := HC.out _ HD9
        go_cut [102] from 84 to 102 (fun v wc => v = .bool bad ∧ wx = wc)
        case first =>
          by_cases hE0 : Eb = 0
          · have hEi : ((Eb : Int) != 0) = false := by simpa using hE0
            by_cases ho : oe = 0
            · have hoi : (oe != 0) = false := by simpa using ho
              by_cases hq : oz = (sz0 : Int) ∧ ort = rt0
              · have HB0 : Sec (bad = false) := sec (by rw [HBAD.out]; exact decide_eq_false (fun h => h ⟨hE0, ho, hq⟩))
                obtain ⟨h1, h2⟩ := hq
                clear hE0 ho
                go_wp2_with fail
                go_meet
                exact ⟨by rw [HB0.out], rfl⟩
              · have HB0 : Sec (bad = true) := sec (by rw [HBAD.out]; exact decide_eq_true (fun h => hq h.2.2))
                have HQQ := sec hq
                clear hE0 ho hq
                go_wp2_with fail
                all_goals
                  first
                  | exact absurd ⟨by assumption, by assumption⟩ HQQ.out
                  | (go_meet
                     exact ⟨by rw [HB0.out], rfl⟩)
            · have hoi : (oe != 0) = true := by simpa using ho
              have HB0 : Sec (bad = true) := sec (by rw [HBAD.out]; exact decide_eq_true (fun h => ho h.2.1))
              clear hE0 ho
              go_wp2_with fail
              go_meet
              exact ⟨by rw [HB0.out], rfl⟩
          · have hEi : ((Eb : Int) != 0) = true := by simpa using hE0
            have HB0 : Sec (bad = true) := sec (by rw [HBAD.out]; exact decide_eq_true (fun h => hE0 h.1))
            clear hE0
            go_wp2_with fail
            go_meet
            exact ⟨by rw [HB0.out], rfl⟩
        case rest =>
          obtain ⟨rfl, rfl⟩ := hcut
          have h9 := HWA.out _ GG9
          by_cases hbd : bad = true
          · have HXX : Sec (V = .same 2) := sec (by rw [HVV.out, if_neg (of_decide_eq_true (HBAD.out.symm.trans hbd))])
            subst hbd
            obtain ⟨a0, a1, a2, a3, a4, a5, k0, k1, k2, q0, q1, q2, q3, q4, q5, z0, z1, z2, z3, z4, z5⟩ := HSK.out _ h9
            go_wp2_with fail
            refine bodyPost_ret (results_blk_tmp rfl _ rfl (((((((HQ.out.gr h9).set_ 0 (.slice A n c)).set_ 1 (.int .i64 f)).set_ 2 (.int .i64 sz)).set_ 3 (.string (bs r))).set_ 4 (.slice B m d)).set_ 5 (.slice C k e)) aggCli) rfl ?_
            rw [HXX.out]
            exact ⟨rfl, HZ.out _ _ _ _ _ _ _ h9⟩
          · have hbf : bad = false := by simpa using hbd
            have HV6 : Sec ((Eb = 0 ∧ oe = 0 ∧ oz = (sz0 : Int) ∧ ort = rt0) ∧ V = if re = 0 then .full gs u (sz0 : Int) rt0 l rs else .same re) := sec (by
              have h := of_decide_eq_false (HBAD.out.symm.trans hbf)
              have h' := Classical.not_not.1 h
              exact ⟨h', by rw [HVV.out, if_pos h']⟩)
            subst hbf
            clear hbd
            obtain ⟨a0, a1, a2, a3, a4, a5, k0, k1, k2, q0, q1, q2, q3, q4, q5, z0, z1, z2, z3, z4, z5⟩ := HSK.out _ h9
            by_cases hre : re = 0
            · have hrb : (re != 0) = false := by simpa using hre
              have HXX : Sec (V = .full gs u (sz0 : Int) rt0 l rs) := sec (by rw [HV6.out.2, if_pos hre])
              clear hre
              go_upto_region 23 with (first
                | (go_at_call 48; (with_reducible refine Calls.mono (HRp.out _ g9) ?_); rintro e w10 ⟨A', c', n', rfl, rfl, r10, g10⟩))
              have GG10 := GG9.trans g10
              have h10 := HWA.out _ GG10
              have HH10 := HH9.gr g10
              obtain ⟨a0, a1, a2, a3, a4, a5, k0, k1, k2, q0, q1, q2, q3, q4, q5, z0, z1, z2, z3, z4, z5⟩ := HSK.out _ h10
              obtain ⟨d0, d1⟩ := HCD.out _ GG10
              have y0 := HH10.cell 0
              have y1 := HH10.cell 1
              have HQ10 := HQ.out.gr h10
              go_wp2_with (first
                | (refine wpList_store_blk rfl 30 (.tmp 6) (.tmp 119) rfl (g := p + 2) (cs' := #[.slice A1 n c1, .int .i64 u, .int .i64 (sz0 : Int), .string (bs rt0), .slice Al n0 cl, .slice A' rs.length c']) rfl rfl HQ10 aggCli rfl (by simp [Value.oneCell']) ?_; intro w11 h11 k11))
              refine bodyPost_ret (results_blk_tmp rfl _ rfl h11 aggCli) rfl ?_
              rw [HXX.out]
              have hln : n0 = l.length := by rw [HLM.out, List.length_map, HL.out]
              subst hln
              have h1 := own_only (own_gr HO9 g10) HQ10 (by decide) k11
              have hso : ∀ x ∈ es', StO w.heap.size w11 x := fun e he => StO.low ((((HE.out e he).gr g9).gr g10).onlyR HQ10 (by decide) (by decide) k11) (by have h1 := (HG.out.trans (HWA.out _ HGL.out)).size; have h2 := HSZL.out; omega)
              exact ⟨A1, c1, Al, cl, A', c', es', HLM.out.symm, rfl, ⟨Row.only (HFX.out _ GG10) k11 HNE.out, ⟨Row.own h1, fun e he => (hso e he).str⟩, Row.only r10 k11 (rf_aside HQ10 r10)⟩, hso, Gr.only (HG.out.trans h10) k11 HP.out⟩
            · have hrb : (re != 0) = true := by simpa using hre
              have HXX : Sec (V = .same re) := sec (by rw [HV6.out.2, if_neg hre])
              clear hre
              go_wp2_with (first
                | (go_at_call 48; (with_reducible refine Calls.mono (HRp.out _ g9) ?_); rintro e w10 ⟨A', c', n', rfl, rfl, r10, g10⟩; have h10 := HWA.out _ (GG9.trans g10); obtain ⟨a0, a1, a2, a3, a4, a5, k0, k1, k2, q0, q1, q2, q3, q4, q5, z0, z1, z2, z3, z4, z5⟩ := HSK.out _ h10))
              refine bodyPost_ret (results_blk_tmp rfl _ rfl (((((((HQ.out.gr h10).set_ 0 (.slice A n c)).set_ 1 (.int .i64 f)).set_ 2 (.int .i64 sz)).set_ 3 (.string (bs r))).set_ 4 (.slice B m d)).set_ 5 (.slice C k e)) aggCli) rfl ?_
              rw [HXX.out]
              exact ⟨rfl, HZ.out _ _ _ _ _ _ _ h10⟩
end Go.Proofs.YtoamnifnfkgbiaaGreatDoor

namespace Go.Proofs.YtoamnifnfkgbiaaGreatDoor
set_option maxRecDepth 100000
open Go.RowKit
set_option linter.unusedVariables false

/-- a client, plainly -/
structure CliP where
  fs : List Fl
  f : Int
  sz : Int
  rt : List UInt8
  l : List Stp
  rs : List Rf
def riseO (x : RiseR) (p : CliP) : CliP × Int :=
  match x with
  | .same e => (p, e)
  | .fresh gs u => (⟨gs, u, 0, sha [], [], []⟩, 0)
  | .full gs u sz rt l rs => (⟨gs, u, sz, rt, l, rs⟩, 0)
def RiseU (own : Prop) (w : World) (o : CliP × Int) (n : Nat) (e : Ending) (w' : World) : Prop :=
  ∃ A' c' B' d' C' e' es', es'.map (·.s) = o.1.l ∧ e = .returned (.tuple #[.agg (cliA A' n c' o.1.f o.1.sz o.1.rt B' es'.length d' C' o.1.rs.length e'), .int .i64 o.2]) ∧ CliV w' o.1.fs es' o.1.rs A' n B' es'.length C' o.1.rs.length ∧ (own → ∀ e ∈ es', ∃ b, StO b w' e) ∧ Gr w w'
theorem rise_u {own : Prop} {w w' : World} {x : RiseR} {A B C : Option Addr} {n c d k : Nat} {f sz : Int} {rt : List UInt8} {fs : List Fl} {es : List SA} {rs : List Rf} {e : Ending} (h : RisePost w x (cliA A n c f sz rt B es.length d C rs.length k) n e w') (hv : CliV w fs es rs A n B es.length C rs.length) (ho : own → ∀ e ∈ es, ∃ b, StO b w e) :
    RiseU own w (riseO x ⟨fs, f, sz, rt, es.map (·.s), rs⟩) n e w' := by
  cases x with
  | same er =>
    obtain ⟨rfl, g⟩ := h
    exact ⟨A, c, B, d, C, k, es, rfl, rfl, hv.gr g, fun h e he => by obtain ⟨b, hb⟩ := ho h e he; exact ⟨b, hb.gr g⟩, g⟩
  | fresh gs u =>
    obtain ⟨A', c', rfl, hf, g⟩ := h
    exact ⟨A', c', none, 0, none, 0, [], rfl, rfl, ⟨hf, ⟨Row.nil _ _ _, fun e he => by cases he⟩, Row.nil _ _ _⟩, (fun _ e he => by cases he), g⟩
  | full gs u s2 r2 l rs2 =>
    obtain ⟨A', c', B', d', C', e', es', hm, rfl, hc, hso, g⟩ := h
    have hl : l.length = es'.length := by rw [← hm, List.length_map]
    rw [hl] at hc
    refine ⟨A', c', B', d', C', e', es', hm, ?_, hc, fun _ e he => ⟨_, hso e he⟩, g⟩
    show Ending.returned (.tuple #[.agg (cliA A' n c' u s2 r2 B' l.length d' C' rs2.length e'), .int .i64 0]) = _
    rw [hl]
    rfl
/-- a row whose elements begin with two strings does not lie in a fresh client's block -/
theorem str2_aside {w : World} {g n k : Nat} {A : Option Addr} {α : Type} {F : α → List Value} {l : List α} (hF : ∀ x, (F x).length = k) (hk : 0 < k) (h2 : ∀ x, ∃ s t, (F x)[0]? = some (.string s) ∧ (F x)[1]? = some (.string t))
    (hb : Blk w g 30 #[.slice none 0 0, .int .i64 0, .int .i64 0, .string (bs []), .slice none 0 0, .slice none 0 0]) (h : Row w k A n (l.flatMap F)) : 0 < n → ∀ b off, A = some ⟨b, off, none⟩ → b ≠ g := by
  intro hn b off hC hbg
  subst hbg
  have hl := Row.flen F hF hk h
  obtain ⟨b', off', e', _, hc⟩ := Row.fcell F hF hk h (i := 0) (by omega)
  rw [hC] at e'
  injection e' with e'
  injection e' with e1 e2
  subst e1
  subst e2
  obtain ⟨s, t, hs, ht⟩ := h2 l[0]
  have h0 := hc 0 _ hs
  have h1 := hc 1 _ ht
  rw [hb.cell] at h0 h1
  simp only [Nat.zero_mul, Nat.add_zero] at h0 h1
  match off, h0, h1 with
  | 0, h0, _ => simp at h0
  | 1, h0, _ => simp at h0
  | 2, h0, _ => simp at h0
  | 3, _, h1 => simp at h1
  | 4, h0, _ => simp at h0
  | 5, h0, _ => simp at h0
  | j + 6, h0, _ => simp at h0
theorem only_six (w : World) (g : Nat) (v0 v1 v2 v3 v4 v5 : Value) : w.grownBy ((((((w.setCell ⟨g, 0, none⟩ v0).setCell ⟨g, 1, none⟩ v1).setCell ⟨g, 2, none⟩ v2).setCell ⟨g, 3, none⟩ v3).setCell ⟨g, 4, none⟩ v4).setCell ⟨g, 5, none⟩ v5) (some g) :=
  only_trans (only_trans (only_trans (only_trans (only_trans (grown_setCell _ ⟨g, 0, none⟩ v0) (grown_setCell _ ⟨g, 1, none⟩ v1)) (grown_setCell _ ⟨g, 2, none⟩ v2)) (grown_setCell _ ⟨g, 3, none⟩ v3)) (grown_setCell _ ⟨g, 4, none⟩ v4)) (grown_setCell _ ⟨g, 5, none⟩ v5)
/-- a client's rows are not those of a fresh client's block -/
theorem CliV.aside {w w' : World} {g : Nat} {fs : List Fl} {es : List SA} {rs : List Rf} {A B C : Option Addr} {n m k : Nat} (h : CliV w fs es rs A n B m C k) (ho : ∀ e ∈ es, ∃ b, StO b w e)
    (hb : Blk w g 30 #[.slice none 0 0, .int .i64 0, .int .i64 0, .string (bs []), .slice none 0 0, .slice none 0 0]) (hg : w.grownBy w' (some g)) : CliV w' fs es rs A n B m C k :=
  ⟨Row.only h.disk hg (str2_aside (F := fileC) (fun _ => rfl) (by omega) (fun x => ⟨_, _, rfl, rfl⟩) hb h.disk),
   ⟨Row.only h.steps.row hg (str2_aside (F := stpV) (fun _ => rfl) (by omega) (fun x => ⟨_, _, rfl, rfl⟩) hb h.steps.row), fun e he => by obtain ⟨b, hq⟩ := ho e he; exact (hq.onlyR hb (by decide) (by decide) hg).str⟩,
   Row.only h.refs hg (str2_aside (F := refV) (fun _ => rfl) (by omega) (fun x => ⟨_, _, rfl, rfl⟩) hb h.refs)⟩
theorem lvE_all : ∀ (l : List Stp), lvE l = 0 → ∀ s ∈ l, StSz 1099511627776 s
  | [], _, s, hs => by cases hs
  | a :: l, h, s, hs => by
    unfold lvE at h
    by_cases h0 : (encR a).2 = 0
    · rw [if_pos h0] at h
      rcases List.mem_cons.1 hs with e | hs
      · subst e
        unfold encR at h0
        split at h0
        · rename_i h
          obtain ⟨_, h1, h2, h3, h4, h5, h6, _, _⟩ := stE_zero h
          exact ⟨by omega, by omega, by omega, by omega, by omega, fun x hx => by rw [h6 x hx]; omega⟩
        · rename_i h; exact absurd h0 h
      · exact lvE_all l h s hs
    · rw [if_neg h0] at h
      exact absurd h h0
theorem riseC_full {gs : List Fl} {u : Int} {ss : List (List UInt8)} {need sz : Int} {rt : List UInt8} {x : Option (List Stp × St)} {gs' : List Fl} {u' sz' : Int} {rt' : List UInt8} {l : List Stp} {rs : List Rf} (h : riseC gs u ss need sz rt x = .full gs' u' sz' rt' l rs) :
    l.length ≤ 200 ∧ (∀ s ∈ l, StSz 1099511627776 s) ∧ rs.length ≤ 200 := by
  unfold riseC at h
  split at h
  · cases h
  · split at h
    · split at h
      · rename_i l0 q0 h1 h2
        injection h with _ _ _ _ e1 e2
        subst e1
        subst e2
        have h3 := h1.2.1
        unfold ofR at h3
        split at h3
        · exact absurd h3 (by decide)
        · split at h3
          · rename_i h4 h5
            exact ⟨by omega, lvE_all _ h5, rpR_len _ _ _⟩
          · rename_i h5
            exact absurd h3 h5
      · cases h
    · cases h
theorem riseR_sz {fs : List Fl} {f keep : Int} {ss : List (List UInt8)} {need : Int} {p : CliP} (hp : p.l.length ≤ 1048576 ∧ (∀ s ∈ p.l, StSz 1099511627776 s) ∧ p.rs.length ≤ 1048576) :
    (riseO (riseR fs f keep ss need) p).1.l.length ≤ 1048576 ∧ (∀ s ∈ (riseO (riseR fs f keep ss need) p).1.l, StSz 1099511627776 s) ∧ (riseO (riseR fs f keep ss need) p).1.rs.length ≤ 1048576 := by
  cases hx : riseR fs f keep ss need with
  | same er => exact hp
  | fresh gs u => exact ⟨by simp [riseO], by simp [riseO], by simp [riseO]⟩
  | full gs u sz rt l rs =>
    have : l.length ≤ 200 ∧ (∀ s ∈ l, StSz 1099511627776 s) ∧ rs.length ≤ 200 := by
      unfold riseR at hx
      split at hx
      · split at hx
        · cases hx
        · split at hx
          · exact riseC_full hx
          · cases hx
      · cases hx
    exact ⟨by show l.length ≤ _; omega, this.2.1, by show rs.length ≤ _; omega⟩
end Go.Proofs.YtoamnifnfkgbiaaGreatDoor

namespace Go.Proofs.YtoamnifnfkgbiaaGreatDoor
open Go.RowKit
set_option linter.unusedVariables false
def disk0 (f : Int) : Array Value := #[.slice none 0 0, .int .i64 f]
set_option maxRecDepth 100000 in
set_option maxHeartbeats 1000000 in
theorem sameDisk0_any (f : Int) (w : World) : Calls Tryz.prog 26 #[.agg (disk0 f), .agg (disk0 f)] w fun e w' => e = .returned (.bool true) ∧ Gr w w' := by
  unfold disk0
  go_enter Tryz.func26, Tryz.ntmps26
  go_wp2_with fail
  obtain ⟨wa, hwa⟩ : ∃ x, x = (w.alloc (.cells #[.slice none 0 0, .int .i64 f] 24)).alloc (.cells #[.slice none 0 0, .int .i64 f] 24) := ⟨_, rfl⟩
  have hga : Gr w wa := by rw [hwa]; exact ((Gr.refl w).alloc _).alloc _
  rw [← hwa]
  clear hwa
  go_loopw [23, 5] (fun iv _ wr => iv = .int .i64 0 ∧ wr = wa) (fun _ _ _ => 0)
  case atStart => exact ⟨rfl, rfl⟩
  case round =>
    obtain ⟨rfl, rfl⟩ := hrel
    go_wp2_with fail
    go_ret
    exact ⟨rfl, hga⟩
def witC (who : Int) (key : List UInt8) (f n : Int) (r : List UInt8) : Array Value := #[.int .i64 who, .string (bs key), .slice none 0 0, .int .i64 f, .int .i64 n, .string (bs r)]
def cliC (f n : Int) (r : List UInt8) : Array Value := #[.slice none 0 0, .int .i64 f, .int .i64 n, .string (bs r), .slice none 0 0, .slice none 0 0]
end Go.Proofs.YtoamnifnfkgbiaaGreatDoor

namespace Go.Proofs.YtoamnifnfkgbiaaGreatDoor
open Go.RowKit
set_option linter.unusedVariables false
theorem witC_one (who : Int) (key : List UInt8) (f n : Int) (r : List UInt8) : (witC who key f n r).all (·.oneCell') = true := by simp [witC, Value.oneCell']
theorem cliC_one (f n : Int) (r : List UInt8) : (cliC f n r).all (·.oneCell') = true := by simp [cliC, Value.oneCell']
/-- P12.1 -/
def newW (who : Int) (key : List UInt8) : Value := if 0 ≤ who ∧ who < 4 then .tuple #[.agg (witC who key (-1) 0 (sha [])), .int .i64 0] else .tuple #[.agg (witC 0 [] 0 0 []), .int .i64 3]

set_option maxRecDepth 100000 in
set_option maxHeartbeats 1000000 in
theorem newWit_any (who : Int) (key : List UInt8) (w : World) (hT : TabK w) :
    Calls Tryz.prog 51 #[.int .i64 who, .string (bs key)] w fun e w' => e = .returned (newW who key) ∧ Gr w w' := by
  by_cases h0 : 0 ≤ who
  · by_cases h1 : who < 4
    · have HN : Sec (newW who key = .tuple #[.agg (witC who key (-1) 0 (sha [])), .int .i64 0]) := sec (by unfold newW; rw [if_pos ⟨h0, h1⟩])
      rw [HN.out]
      have h3 : who ≤ 3 := by omega
      go_enter Tryz.func51, Tryz.ntmps51
      go_wp2_with (first
        | (refine wpList_store_blk rfl 84 (.tmp 4) (.tmp 17) rfl (g := w.heap.size) (cs' := witC who key (-1) 0 (sha [])) rfl rfl hB A.wit rfl (witC_one _ _ _ _ _) ?_; intro w2 h2 hg2)
        | (go_at_call 29; refine (empty_any _ (hT.gr ((Gr.refl w).alloc _))).mono ?_; rintro e w1 ⟨rfl, g1⟩; have hB := (Blk.new w 84 (witC 0 [] 0 0 [])).gr g1; have gg1 : Gr w w1 := Gr.trans ((Gr.refl w).alloc _) g1))
      refine bodyPost_ret (results_blk_tmp rfl _ rfl h2 A.wit) rfl ?_
      exact ⟨rfl, Gr.only gg1 hg2 (Nat.le_refl _)⟩
    · have HN : Sec (newW who key = .tuple #[.agg (witC 0 [] 0 0 []), .int .i64 3]) := sec (by unfold newW; rw [if_neg (fun h => h1 h.2)])
      rw [HN.out]
      have h3 : ¬ who ≤ 3 := by omega
      go_enter Tryz.func51, Tryz.ntmps51
      go_wp2_with (refine wpList_store_blk rfl 84 (.tmp 4) (.tmp 12) rfl (g := w.heap.size) (cs' := witC 0 [] 0 0 []) rfl rfl (Blk.new w 84 (witC 0 [] 0 0 [])) A.wit rfl (witC_one _ _ _ _ _) ?_; intro w2 h2 hg2)
      refine bodyPost_ret (results_blk_tmp rfl _ rfl h2 A.wit) rfl ?_
      exact ⟨rfl, Gr.only ((Gr.refl w).alloc _) hg2 (Nat.le_refl _)⟩
  · have HN : Sec (newW who key = .tuple #[.agg (witC 0 [] 0 0 []), .int .i64 3]) := sec (by unfold newW; rw [if_neg (fun h => h0 h.1)])
    rw [HN.out]
    go_enter Tryz.func51, Tryz.ntmps51
    go_wp2_with (refine wpList_store_blk rfl 84 (.tmp 4) (.tmp 12) rfl (g := w.heap.size) (cs' := witC 0 [] 0 0 []) rfl rfl (Blk.new w 84 (witC 0 [] 0 0 [])) A.wit rfl (witC_one _ _ _ _ _) ?_; intro w2 h2 hg2)
    refine bodyPost_ret (results_blk_tmp rfl _ rfl h2 A.wit) rfl ?_
    exact ⟨rfl, Gr.only ((Gr.refl w).alloc _) hg2 (Nat.le_refl _)⟩
set_option maxRecDepth 100000 in
set_option maxHeartbeats 1000000 in
theorem newCli_any (w : World) (hT : TabK w) :
    Calls Tryz.prog 52 #[] w fun e w' => e = .returned (.agg (cliC (-1) 0 (sha []))) ∧ Gr w w' := by
  go_enter Tryz.func52, Tryz.ntmps52
  go_wp2_with (first
    | (refine wpList_store_blk rfl 30 (.tmp 0) (.tmp 3) rfl (g := w.heap.size) (cs' := cliC (-1) 0 (sha [])) rfl rfl hB A.cli rfl (cliC_one _ _ _) ?_; intro w2 h2 hg2)
    | (go_at_call 29; refine (empty_any _ (hT.gr ((Gr.refl w).alloc _))).mono ?_; rintro e w1 ⟨rfl, g1⟩; have hB := (Blk.new w 30 (cliC 0 0 [])).gr g1; have gg1 : Gr w w1 := Gr.trans ((Gr.refl w).alloc _) g1))
  refine bodyPost_ret (results_blk rfl _ rfl h2 A.cli) rfl ?_
  exact ⟨rfl, Gr.only gg1 hg2 (Nat.le_refl _)⟩

end Go.Proofs.YtoamnifnfkgbiaaGreatDoor

namespace Go.Proofs.YtoamnifnfkgbiaaGreatDoor
open Go.RowKit
set_option linter.unusedVariables false
set_option maxRecDepth 100000 in
set_option maxHeartbeats 1000000 in
theorem nodes_any (w : World) (hT : TabK w) : Calls Tryz.prog 11 #[] w fun e w' => e = .returned (.bool true) ∧ Gr w w' := by
  have HN : Sec (newW 1 [107] = .tuple #[.agg (witC 1 [107] (-1) 0 (sha [])), .int .i64 0]) := sec (by unfold newW; rw [if_pos ⟨by omega, by omega⟩])
  have HC : Sec (cliC (-1) 0 (sha []) = #[.slice none 0 0, .int .i64 (-1), .int .i64 0, .string (bs (sha [])), .slice none 0 0, .slice none 0 0]) := sec rfl
  have f1 : ∀ (r : ByteArray) (w : World), (Instr.field 30 (.agg #[.slice none 0 0, .int .i64 (-1), .int .i64 0, .string r, .slice none 0 0, .slice none 0 0]) 0).run Tryz.prog w = .ok (.agg #[.slice none 0 0, .int .i64 (-1)]) w := fun r w => by kernel_rfl
  have f2 : ∀ (w : World), (Instr.field 24 (.agg #[.slice none 0 0, .int .i64 (-1)]) 1).run Tryz.prog w = .ok (.int .i64 (-1)) w := fun w => by kernel_rfl
  go_enter Tryz.func11, Tryz.ntmps11
  go_wp2_with (first
    | (refine wpList_store_blk rfl 84 (.tmp 1) (.tmp 5) rfl (g := w1.heap.size) rfl rfl (Blk.new w1 _ (witC 0 [] 0 0 [])) A.wit rfl (witC_one _ _ _ _ _) ?_; intro w2 h2 hg2; have c2 : w2.cell? ⟨w1.heap.size, 0, none⟩ = some (.int .i64 1) := h2.cell 0; have gg2 : Gr w w2 := Gr.only (g1.alloc _) hg2 g1.size)
    | (go_at_call 51; refine (newWit_any 1 [107] _ hT).mono ?_; rw [HN.out]; rintro e w1 ⟨rfl, g1⟩)
    | (go_at_call 52; refine (newCli_any _ (hT.gr gg2)).mono ?_; rw [HC.out]; rintro e w3 ⟨rfl, g3⟩))
  go_ret
  exact ⟨rfl, gg2.trans g3⟩

end Go.Proofs.YtoamnifnfkgbiaaGreatDoor

namespace Go.Proofs.YtoamnifnfkgbiaaGreatDoor
set_option maxRecDepth 100000
open Go.RowKit Go.ChangeShapes Go.WideShapes
set_option linter.unusedVariables false

set_option maxHeartbeats 8000000 in
theorem nodeRises_walk (A : Option Addr) (c : Nat) (fs : List Fl) (f sz : Int) (rt : List UInt8) (B : Option Addr) (d : Nat) (es : List SA) (C : Option Addr) (e : Nat) (rs : List Rf) (A0 : Option Addr) (c0 : Nat) (B0 : Option Addr) (d0 : Nat) (need : Int) (ss ws : List (List UInt8)) (keep : Int) (W : World)
    (hC : CliIn W A c fs f sz rt B d es C e rs) (hK : StrsIn W A0 c0 ss ∧ StrsIn W B0 d0 ws) (hk : -9223372036854775808 ≤ keep ∧ keep ≤ 9223372036854775807) (hT : TabK W) :
    Calls Tryz.prog 3 #[.agg (cliA A fs.length c f sz rt B es.length d C rs.length e), .agg (keysA A0 ss.length c0 B0 ws.length d0 need), .int .i64 keep] W fun e W' => e = .returned (.bool true) ∧ Gr W W' := by
  obtain ⟨h1, h2⟩ := hK
  have hl1 := h1.len
  have hl2 := h2.len
  have hf := hC.disk.len
  have hm := hC.steps.len
  have hr := hC.refs.len
  have hfs : ∀ f ∈ fs, f.1.length ≤ 1099511627776 ∧ f.2.1.length ≤ 1099511627776 ∧ f.2.2.length ≤ 1099511627776 := fun x hx => by have := hC.disk.size x hx; omega
  have hss : ∀ x ∈ ss, x.length ≤ 1099511627776 := fun x hx => by have := h1.size x hx; omega
  have hz : ∀ e ∈ es, StSz 1099511627776 e.s := fun x hx => (hC.steps.size x hx).up (by omega)
  have hv : CliV W fs es rs A fs.length B es.length C rs.length := ⟨hC.disk.row, hC.steps.row, hC.refs.row⟩
  obtain ⟨wa, hwa⟩ : ∃ x, x = (W.alloc (.cells (cliA A fs.length c f sz rt B es.length d C rs.length e) 30)).alloc (.cells (keysA A0 ss.length c0 B0 ws.length d0 need) 33) := ⟨_, rfl⟩
  have hb : Blk wa W.heap.size 30 (cliA A fs.length c f sz rt B es.length d C rs.length e) := by rw [hwa]; exact (Blk.new W _ _).alloc _
  have hs : Blk wa (W.heap.size + 1) 33 (keysA A0 ss.length c0 B0 ws.length d0 need) := by rw [hwa]; exact Blk.new1 W _ _ _
  have hg0 : Gr W wa := by rw [hwa]; exact ((Gr.refl W).alloc _).alloc _
  obtain ⟨p, hp⟩ : ∃ p, p = W.heap.size := ⟨_, rfl⟩
  rw [← hp] at hb hs
  obtain ⟨O, hO⟩ : ∃ O, O = riseO (riseR fs f keep ss need) ⟨fs, f, sz, rt, es.map (·.s), rs⟩ := ⟨_, rfl⟩
  have hOz : O.1.l.length ≤ 1048576 ∧ (∀ s ∈ O.1.l, StSz 1099511627776 s) ∧ O.1.rs.length ≤ 1048576 := by
    rw [hO]
    exact riseR_sz ⟨by show (es.map (·.s)).length ≤ _; rw [List.length_map]; exact hm, fun s hs => by obtain ⟨x, hx, rfl⟩ := List.mem_map.1 hs; exact hz x hx, hr⟩
  have HKy : Sec (∀ w', Gr wa w' → Calls Tryz.prog 8 #[.agg (keysA A0 ss.length c0 B0 ws.length d0 need)] w' fun e w'' => ∃ A' c' B' d', e = .returned (.agg (keysA A' ss.length c' B' ws.length d' need)) ∧ StrRow w'' A' ss.length ss ∧ Gr w' w'') := sec (fun w' g => (keys_any A0 ss.length c0 B0 ws.length d0 need ss ws w' (by omega) (by omega) ((h1.row.gr hg0).gr g) h1.nil ((h2.row.gr hg0).gr g) h2.nil).mono fun e w'' ⟨A', c', B', d', he, hr1, _, hr2, _, hg⟩ => ⟨A', c', B', d', he, hr1, hg⟩)
  have HCp : Sec (∀ w', Gr wa w' → Calls Tryz.prog 7 #[.agg (cliA A fs.length c f sz rt B es.length d C rs.length e)] w' fun e0 w'' => ∃ A' c' B' d' C' e' es', e0 = .returned (.agg (cliA A' fs.length c' f sz rt B' es.length d' C' rs.length e')) ∧ (CliV w'' fs es' rs A' fs.length B' es.length C' rs.length ∧ Sames es es' ∧ (A' = none → fs.length = 0 ∧ c' = 0) ∧ (∀ e ∈ es', ∃ b, StO b w'' e)) ∧ Gr w' w'') := sec (fun w' g =>
    (copyClient_any fs f sz rt es rs A fs.length c B d C rs.length e w' ((hv.gr hg0).gr g) hC.disk.nil hC.refs.nil (by omega) (by omega) (by omega) hz).mono fun e0 w'' ⟨A', c', B', d', C', e', es', he, hv', hs', hn', _, ho', g'⟩ => ⟨A', c', B', d', C', e', es', he, ⟨hv', hs', hn', fun x hx => ⟨_, ho' x hx⟩⟩, g'⟩)
  have HRi : Sec (∀ w' A' c' B' d' C' e' es' A1 c1 B1 d1, (CliV w' fs es' rs A' fs.length B' es.length C' rs.length ∧ Sames es es' ∧ (A' = none → fs.length = 0 ∧ c' = 0) ∧ (∀ e ∈ es', ∃ b, StO b w' e)) → StrRow w' A1 ss.length ss → Gr wa w' → Calls Tryz.prog 6 #[.agg (cliA A' fs.length c' f sz rt B' es.length d' C' rs.length e'), .agg (keysA A1 ss.length c1 B1 ws.length d1 need), .int .i64 keep] w' fun e0 w'' => ∃ A2 c2 B2 n2 d2 C2 k2 e2, e0 = .returned (.tuple #[.agg (cliA A2 fs.length c2 O.1.f O.1.sz O.1.rt B2 n2 d2 C2 k2 e2), .int .i64 O.2]) ∧ Sec (∃ es2, es2.length = n2 ∧ O.1.rs.length = k2 ∧ es2.map (·.s) = O.1.l ∧ CliV w'' O.1.fs es2 O.1.rs A2 fs.length B2 n2 C2 k2 ∧ ∀ e ∈ es2, ∃ b, StO b w'' e) ∧ Gr w' w'') := sec (fun w' A' c' B' d' C' e' es' A1 c1 B1 d1 ⟨hv', hs', hn', ho'⟩ hk' g => by
    have hle : es.length = es'.length := by have := congrArg List.length hs'; simpa using this.symm
    have h := rise_any fs f sz rt A' fs.length c' B' es.length d' C' rs.length e' keep A1 ss.length c1 B1 ws.length d1 need ss w' hv'.disk hn' hf hfs hk' (by omega) hss ((hT.gr hg0).gr g)
    refine h.mono fun e0 w'' hpst => ?_
    rw [hle] at hpst hv'
    have hu := rise_u (own := True) hpst hv' (fun _ => ho')
    rw [hs', ← hO] at hu
    obtain ⟨A2, c2, B2, d2, C2, e2, es2, h3, rfl, h4, h5, g2⟩ := hu
    exact ⟨A2, c2, B2, _, d2, C2, _, e2, rfl, sec ⟨es2, rfl, rfl, h3, h4, h5 trivial⟩, g2⟩)
  have HRr : Sec (∀ w', Gr wa w' → Calls Tryz.prog 9 #[.agg (cliA A fs.length c f sz rt B es.length d C rs.length e), .agg (keysA A0 ss.length c0 B0 ws.length d0 need), .int .i64 keep] w' fun e0 w'' => ∃ A2 c2 B2 n2 d2 C2 k2 e2, e0 = .returned (.tuple #[.agg (cliA A2 fs.length c2 O.1.f O.1.sz O.1.rt B2 n2 d2 C2 k2 e2), .int .i64 O.2]) ∧ Sec (∃ es2, es2.length = n2 ∧ O.1.rs.length = k2 ∧ es2.map (·.s) = O.1.l ∧ CliV w'' O.1.fs es2 O.1.rs A2 fs.length B2 n2 C2 k2) ∧ Gr w' w'') := sec (fun w' g => by
    have h := rrise_any fs f sz rt A fs.length c B es.length d C rs.length e keep A0 ss.length c0 B0 ws.length d0 need ss w' ((hv.gr hg0).gr g).disk hC.disk.nil hf hfs ((h1.row.gr hg0).gr g) (by omega) hss ((hT.gr hg0).gr g)
    refine h.mono fun e0 w'' hpst => ?_
    have hu := rise_u (own := False) hpst ((hv.gr hg0).gr g) (fun h => h.elim)
    rw [← hO] at hu
    obtain ⟨A2, c2, B2, d2, C2, e2, es2, h3, rfl, h4, _, g2⟩ := hu
    exact ⟨A2, c2, B2, _, d2, C2, _, e2, rfl, sec ⟨es2, rfl, rfl, h3, h4⟩, g2⟩)
  have HSa : Sec (∀ w' A1 c1 B1 n1 d1 C1 k1 e1 A2 c2 B2 n2 d2 C2 k2 e2, Sec (∃ es2, es2.length = n1 ∧ O.1.rs.length = k1 ∧ es2.map (·.s) = O.1.l ∧ CliV w' O.1.fs es2 O.1.rs A1 fs.length B1 n1 C1 k1) → Sec (∃ es2, es2.length = n2 ∧ O.1.rs.length = k2 ∧ es2.map (·.s) = O.1.l ∧ CliV w' O.1.fs es2 O.1.rs A2 fs.length B2 n2 C2 k2) →
      Calls Tryz.prog 10 #[.agg (cliA A1 fs.length c1 O.1.f O.1.sz O.1.rt B1 n1 d1 C1 k1 e1), .agg (cliA A2 fs.length c2 O.1.f O.1.sz O.1.rt B2 n2 d2 C2 k2 e2)] w' fun e0 w'' => e0 = .returned (.bool true) ∧ Gr w' w'') := sec (fun w' A1 c1 B1 n1 d1 C1 k1 e1 A2 c2 B2 n2 d2 C2 k2 e2 ⟨es1, a1, a2, a3, a4⟩ ⟨es2, b1, b2, b3, b4⟩ => by
    have hle : n2 = n1 := by
      have h1 := congrArg List.length a3
      have h2 := congrArg List.length b3
      rw [List.length_map] at h1 h2
      omega
    have hke : k2 = k1 := by omega
    subst hle
    subst hke
    have hll : n2 ≤ 1048576 := by
      have h1 := congrArg List.length a3
      rw [List.length_map] at h1
      have := hOz.1
      omega
    exact sameClient_any O.1.fs O.1.f O.1.sz O.1.rt es1 es2 O.1.rs A1 fs.length c1 B1 n2 d1 C1 k2 e1 A2 c2 B2 d2 C2 e2 w' a4 b4 (show _ = _ by rw [a3, b3]) (by omega) (by omega) (by have := hOz.2.2; omega)
      (fun x hx => hOz.2.1 _ (by rw [← a3]; exact List.mem_map_of_mem hx)))
  have HNo : Sec (∀ w', Gr wa w' → Calls Tryz.prog 11 #[] w' fun e w'' => e = .returned (.bool true) ∧ Gr w' w'') := sec (fun w' g => nodes_any w' ((hT.gr hg0).gr g))
  obtain ⟨⟨ofs, ofu, osz, ort, ol, ors⟩, oe⟩ := O
  simp only at HRi HRr HSa
  have HVO : Sec (∀ A n B m C k w', Sec (∃ es2 : List SA, es2.length = m ∧ ors.length = k ∧ es2.map (·.s) = ol ∧ CliV w' ofs es2 ors A n B m C k ∧ ∀ e ∈ es2, ∃ b, StO b w' e) → Sec (∃ es2 : List SA, es2.length = m ∧ ors.length = k ∧ es2.map (·.s) = ol ∧ CliV w' ofs es2 ors A n B m C k)) := sec (fun A n B m C k w' ⟨es2, h1, h2, h3, h4, _⟩ => sec ⟨es2, h1, h2, h3, h4⟩)
  have HVA : Sec (∀ A n B m C k w' w'' b, Sec (∃ es2 : List SA, es2.length = m ∧ ors.length = k ∧ es2.map (·.s) = ol ∧ CliV w' ofs es2 ors A n B m C k ∧ ∀ e ∈ es2, ∃ b, StO b w' e) → Blk w' b 30 #[.slice none 0 0, .int .i64 0, .int .i64 0, .string (bs []), .slice none 0 0, .slice none 0 0] → w'.grownBy w'' (some b) → Sec (∃ es2 : List SA, es2.length = m ∧ ors.length = k ∧ es2.map (·.s) = ol ∧ CliV w'' ofs es2 ors A n B m C k)) := sec (fun A n B m C k w' w'' b ⟨es2, h1, h2, h3, h4, h5⟩ hb hg => sec ⟨es2, h1, h2, h3, h4.aside h5 hb hg⟩)
  have HV : Sec (∀ A n B m C k w' w'', Sec (∃ es2 : List SA, es2.length = m ∧ ors.length = k ∧ es2.map (·.s) = ol ∧ CliV w' ofs es2 ors A n B m C k) → Gr w' w'' → Sec (∃ es2 : List SA, es2.length = m ∧ ors.length = k ∧ es2.map (·.s) = ol ∧ CliV w'' ofs es2 ors A n B m C k)) := sec (fun A n B m C k w' w'' ⟨es2, h1, h2, h3, h4⟩ g => sec ⟨es2, h1, h2, h3, h4.gr g⟩)
  obtain ⟨n, hn'⟩ : ∃ n, n = ss.length := ⟨_, rfl⟩
  obtain ⟨m, hm'⟩ : ∃ m, m = ws.length := ⟨_, rfl⟩
  obtain ⟨nf, hnf⟩ : ∃ k, k = fs.length := ⟨_, rfl⟩
  obtain ⟨ne, hne⟩ : ∃ k, k = es.length := ⟨_, rfl⟩
  obtain ⟨nr, hnr⟩ : ∃ k, k = rs.length := ⟨_, rfl⟩
  rw [← hn', ← hm'] at HKy hs
  rw [← hnf, ← hne, ← hnr] at HCp hb
  rw [← hn', ← hm', ← hnf, ← hne, ← hnr] at HRi HRr hwa
  rw [← hnf] at HSa
  rw [← hn', ← hm', ← hnf, ← hne, ← hnr]
  have HSK : Sec (∀ w', Gr wa w' → (w'.cell? ⟨p, 0, none⟩ = some (.slice A nf c) ∧ w'.cell? ⟨p, 1, none⟩ = some (.int .i64 f) ∧ w'.cell? ⟨p, 2, none⟩ = some (.int .i64 sz) ∧ w'.cell? ⟨p, 3, none⟩ = some (.string (bs rt)) ∧ w'.cell? ⟨p, 4, none⟩ = some (.slice B ne d) ∧ w'.cell? ⟨p, 5, none⟩ = some (.slice C nr e)) ∧ (w'.cell? ⟨p + 1, 0, none⟩ = some (.slice A0 n c0) ∧ w'.cell? ⟨p + 1, 1, none⟩ = some (.slice B0 m d0) ∧ w'.cell? ⟨p + 1, 2, none⟩ = some (.int .i64 need)) ∧ Gr wa w') := sec (fun w' g => ⟨⟨(hb.gr g).cell 0, (hb.gr g).cell 1, (hb.gr g).cell 2, (hb.gr g).cell 3, (hb.gr g).cell 4, (hb.gr g).cell 5⟩, ⟨(hs.gr g).cell 0, (hs.gr g).cell 1, (hs.gr g).cell 2⟩, g⟩)
  have HG := sec hg0
  clear hO hOz hn' hm' hnf hne hnr hb hs hT h1 h2 hl1 hl2 hf hm hr hfs hss hz hv hC hg0 hk
  unfold cliA keysA at hwa HRi HRr
  unfold cliA at HCp HSa
  unfold keysA at HKy
  unfold cliA keysA
  go_enter Tryz.func3, Tryz.ntmps3
  go_upto_region 1 with (first
    | (rw [← hwa, ← hp]; clear hwa hp; go_upto_region 1 with fail))
  have gd : Gr wa wa.drew := (Gr.refl _).drew
  go_cut [7, 8] from 11 to 19 (fun v7 v8 wx => ∃ (q : Nat) (A3 : Option Addr) (c3 : Nat) (B3 : Option Addr) (n3 d3 : Nat) (C3 : Option Addr) (k3 e3 : Nat), v7 = .pointer (some ⟨q, 0, none⟩) ∧ v8 = .int .i64 oe ∧ Sec (Blk wx q 30 #[.slice A3 nf c3, .int .i64 ofu, .int .i64 osz, .string (bs ort), .slice B3 n3 d3, .slice C3 k3 e3]) ∧ Sec (∃ es2 : List SA, es2.length = n3 ∧ ors.length = k3 ∧ es2.map (·.s) = ol ∧ CliV wx ofs es2 ors A3 nf B3 n3 C3 k3) ∧ Gr wa wx)
  case first =>
    go_region_held3 (fun w' => (w'.cell? ⟨p, 0, none⟩ = some (.slice A nf c) ∧ w'.cell? ⟨p, 1, none⟩ = some (.int .i64 f) ∧ w'.cell? ⟨p, 2, none⟩ = some (.int .i64 sz) ∧ w'.cell? ⟨p, 3, none⟩ = some (.string (bs rt)) ∧ w'.cell? ⟨p, 4, none⟩ = some (.slice B ne d) ∧ w'.cell? ⟨p, 5, none⟩ = some (.slice C nr e)) ∧ (w'.cell? ⟨p + 1, 0, none⟩ = some (.slice A0 n c0) ∧ w'.cell? ⟨p + 1, 1, none⟩ = some (.slice B0 m d0) ∧ w'.cell? ⟨p + 1, 2, none⟩ = some (.int .i64 need)) ∧ Gr wa w')
      (first | with_reducible assumption | (refine HSK.out _ ?_; repeat' (first | with_reducible assumption | with_reducible exact Gr.refl _ | with_reducible refine Gr.alloc ?_ _ | with_reducible refine Gr.drew ?_ | with_reducible refine Gr.setCell ?_ (by first | with_reducible assumption | (dsimp only; with_reducible assumption)) _)) | fail)
      (first
      | (go_at_call 7; refine Calls.mono (HCp.out _ (by first | exact (Gr.refl _).drew | exact ((Gr.refl _).alloc _).drew)) ?_; rintro e1 w1 ⟨A1, c1, B1, d1, C1, e1', es1, rfl, v1, g1⟩; have G1 : Gr wa w1 := Gr.trans (by first | exact (Gr.refl _).drew | exact ((Gr.refl _).alloc _).drew) g1; have zs1 := Gr.size G1; have zs0 := Nat.le_refl wa.heap.size; (try (have zb : Blk _ wa.heap.size 30 #[.slice none 0 0, .int .i64 0, .int .i64 0, .string (bs []), .slice none 0 0, .slice none 0 0] := Blk.gr (Blk.drew (Blk.new wa _ _)) g1)))
      | (go_at_call 8; refine Calls.mono (HKy.out _ (by first | exact G1 | exact Gr.alloc G1 _)) ?_; rintro e2 w2 ⟨A2, c2, B2, d2, rfl, r2, g2'⟩; have g2 : Gr w1 w2 := Gr.trans (by first | exact Gr.refl _ | exact (Gr.refl _).alloc _) g2'; have G2 : Gr wa w2 := Gr.trans G1 g2; have zs2 := Gr.size G2; (try (first | have zb := Blk.gr zb g2' | have zb : Blk _ w1.heap.size 30 #[.slice none 0 0, .int .i64 0, .int .i64 0, .string (bs []), .slice none 0 0, .slice none 0 0] := Blk.gr (Blk.new w1 _ _) g2')))
      | (go_at_call 6; refine Calls.mono (HRi.out _ _ _ _ _ _ _ es1 _ _ _ _ ⟨by first | exact CliV.gr v1.1 g2 | exact CliV.gr v1.1 (Gr.alloc g2 _), v1.2.1, v1.2.2.1, fun x hx => (v1.2.2.2 x hx).imp fun b hb => by first | exact StO.gr hb g2 | exact StO.gr hb (Gr.alloc g2 _)⟩ (by first | exact r2 | exact Row.gr r2 ((Gr.refl _).alloc _)) (by first | exact G2 | exact Gr.alloc G2 _)) ?_; rintro e3 w3 ⟨A3, c3, B3, n3, d3, C3, k3, e3', rfl, v3, g3'⟩; have G3 : Gr wa w3 := Gr.trans (by first | exact G2 | exact Gr.alloc G2 _) g3'; have zs3 := Gr.size G3; (try (first | have zb := Blk.gr zb g3' | have zb : Blk _ w2.heap.size 30 #[.slice none 0 0, .int .i64 0, .int .i64 0, .string (bs []), .slice none 0 0, .slice none 0 0] := Blk.gr (Blk.new w2 _ _) g3')); (try (have zlt := zb.lt; have zn1 : w3.heap.size ≠ _ := Nat.ne_of_gt zlt; have zn2 : _ ≠ w3.heap.size := Nat.ne_of_lt zlt; have zc0 : w3.cell? ⟨_, 0, none⟩ = some (.slice none 0 0) := zb.cell 0; have zc1 : w3.cell? ⟨_, 1, none⟩ = some (.int .i64 0) := zb.cell 1; have zc2 : w3.cell? ⟨_, 2, none⟩ = some (.int .i64 0) := zb.cell 2; have zc3 : w3.cell? ⟨_, 3, none⟩ = some (.string (bs [])) := zb.cell 3; have zc4 : w3.cell? ⟨_, 4, none⟩ = some (.slice none 0 0) := zb.cell 4; have zc5 : w3.cell? ⟨_, 5, none⟩ = some (.slice none 0 0) := zb.cell 5; have zf0 : w3.frozen? ⟨_, 0, none⟩ = false := zb.frozen 0; have zf1 : w3.frozen? ⟨_, 1, none⟩ = false := zb.frozen 1; have zf2 : w3.frozen? ⟨_, 2, none⟩ = false := zb.frozen 2; have zf3 : w3.frozen? ⟨_, 3, none⟩ = false := zb.frozen 3; have zf4 : w3.frozen? ⟨_, 4, none⟩ = false := zb.frozen 4; have zf5 : w3.frozen? ⟨_, 5, none⟩ = false := zb.frozen 5)))
      | fail)
    all_goals
      go_wp2_with fail
      go_meet
      refine ⟨_, A3, c3, B3, n3, d3, C3, k3, e3', rfl, rfl, ?_⟩
      first
      | with_reducible exact ⟨sec (Blk.new w3 _ _), HV.out _ _ _ _ _ _ _ _ (HVO.out _ _ _ _ _ _ _ v3) ((Gr.refl _).alloc _), G3.alloc _⟩
      | exact ⟨sec (((((((zb.set_ 0 (.slice A3 nf c3)).set_ 1 (.int .i64 ofu)).set_ 2 (.int .i64 osz)).set_ 3 (.string (bs ort))).set_ 4 (.slice B3 n3 d3)).set_ 5 (.slice C3 k3 e3'))), HVA.out _ _ _ _ _ _ _ _ _ v3 zb (only_six _ _ _ _ _ _ _ _), (by repeat' (first | with_reducible assumption | with_reducible exact Gr.refl _ | with_reducible refine Gr.alloc ?_ _ | with_reducible refine Gr.drew ?_ | with_reducible refine Gr.setCell ?_ (by first | with_reducible assumption | (dsimp only; with_reducible assumption)) _))⟩
  case rest =>
    obtain ⟨b3, A3, c3, B3, n3, d3, C3, k3, e3', rfl, rfl, BX, V3, GX⟩ := hcut
    obtain ⟨⟨a0, a1, a2, a3, a4, a5⟩, ⟨k0, k1, k2⟩, _⟩ := HSK.out _ GX
    go_wp2_with (first
      | (go_at_call 9; (with_reducible refine Calls.mono (HRr.out _ GX) ?_); rintro e4 w4 ⟨A4, c4, B4, n4, d4, C4, k4, e4', rfl, v4, g4⟩; have g4a := g4.alloc (.cells #[.slice A4 nf c4, .int .i64 ofu, .int .i64 osz, .string (bs ort), .slice B4 n4 d4, .slice C4 k4 e4'] 30); have G4 := GX.trans g4a; have V4 := HV.out _ _ _ _ _ _ _ _ v4 ((Gr.refl w4).alloc (.cells #[.slice A4 nf c4, .int .i64 ofu, .int .i64 osz, .string (bs ort), .slice B4 n4 d4, .slice C4 k4 e4'] 30)); have V3' := HV.out _ _ _ _ _ _ _ _ V3 g4a; have BY := BX.out.gr g4a; have y0 := BY.cell 0; have y1 := BY.cell 1; have y2 := BY.cell 2; have y3 := BY.cell 3; have y4 := BY.cell 4; have y5 := BY.cell 5)
      | (go_at_call 10; (with_reducible refine Calls.mono (HSa.out _ _ _ _ _ _ _ _ _ _ _ _ _ _ _ _ _ V3' V4) ?_); rintro e5 w5 ⟨rfl, g5⟩; have G5 := G4.trans g5)
      | (go_at_call 11; (with_reducible refine Calls.mono (HNo.out _ G5) ?_); rintro e6 w6 ⟨rfl, g6⟩))
    go_ret
    exact ⟨rfl, HG.out.trans (G5.trans g6)⟩
end Go.Proofs.YtoamnifnfkgbiaaGreatDoor

namespace Go.Proofs.YtoamnifnfkgbiaaGreatDoor
open Go.RowKit Go.ChangeShapes Go.WideShapes Go.ChangeAt
set_option linter.unusedVariables false
theorem gTab : Tryz.prog.globalNamed "cartulary/sum.table" = some 0 := by kernel_rfl
theorem gTabType : (Tryz.prog.globals[0]?).map (·.type) = some 213 := by kernel_rfl
theorem cellsTab : Tryz.prog.cellsOf 213 = 64 := by kernel_rfl
theorem cellsU32 : Tryz.prog.cellsOf 134 = 1 := by kernel_rfl
def kInts : List Int := kTab.map fun x => (x.toNat : Int)
theorem table_of {W : World} {rest : List (String × DataW Unit)} (h : laidMet Tryz.prog (("cartulary/sum.table", Rows.laid_cartulary_sum_table) :: rest) W) : TabK W := by
  have ht : Lib.TabIs Tryz.prog W "cartulary/sum.table" .u32 kInts :=
    Lib.tabIs_of_head (rest := rest) gTab gTabType Tryz.underlying213 Tryz.underlying134 cellsU32 cellsTab h
  refine ⟨fun i hi => ?_⟩
  have hl : i < kInts.length := by unfold kInts; rw [List.length_map, kTab_len]; exact hi
  have := ht.cell gTab i hl
  rw [this]
  have : i < kTab.length := by rw [kTab_len]; exact hi
  simp [kInts, kAt, u32V, this]

/-- the numbers of a listed variable, flat -/
def flatW : Nat → DataW Unit → List Value
  | 0, _ => []
  | _ + 1, .lit (.int k z) => [.int k z]
  | n + 1, .agg xs => xs.flatMap (flatW n)
  | _ + 1, _ => []
noncomputable def laidHeap (l : List (String × DataW Unit)) (h : Array Obj) : Array Obj :=
  l.foldl (fun h x => match Tryz.prog.globalNamed x.1 with
    | some g => h.modify g fun
      | .cells _ t frozen => .cells (flatW 8 x.2).toArray t frozen
      | o => o
    | none => h) h
noncomputable def laidWorld (l : List (String × DataW Unit)) (os : Os) : World :=
  { World.holding Tryz.prog os ⟨#[], #[], []⟩ with heap := laidHeap l (World.holding Tryz.prog os ⟨#[], #[], []⟩).heap }
end Go.Proofs.YtoamnifnfkgbiaaGreatDoor

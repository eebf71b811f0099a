/-
  StepSignsP: contracts and plain laws joined (2 texts). No conditions but those that each states.
-/
import Derived.Test.YtkgmimmneeppgaaDoorStepS
import Derived.Test.YtkgmimmneeppgaaDoorStepBase
import Derived.Test.YtkgmimmneeppgaaDoorSignsP
namespace Go.Proofs.YtkgmimmneeppgaaDoor
set_option maxRecDepth 100000
open Go.RowKit Go.ChangeShapes Go.WideShapes
set_option linter.unusedVariables false
def n32 : List UInt8 := [48, 49, 50, 51, 52, 53, 54, 55, 56, 57, 97, 98, 99, 100, 101, 102, 48, 49, 50, 51, 52, 53, 54, 55, 56, 57, 97, 98, 99, 100, 101, 102]
def st0 : Stp := ⟨[97], [], n32, [], []⟩
def st1 (x : List UInt8) : Stp := ⟨[97], [], n32, [1], [x]⟩
theorem st0_sz : StSz 1099511627776 st0 := ⟨by decide, by decide, by decide, by decide, by decide, fun x h => by cases h⟩
theorem seal32 (key b : List UInt8) : (seal' key b).length = 32 := rfl
theorem st1_sz (x : List UInt8) (h : x.length = 32) : StSz 1099511627776 (st1 x) := ⟨st0_sz.r, st0_sz.o, st0_sz.n, by show (1 : Nat) ≤ _; omega, by show (1 : Nat) ≤ _; omega, fun y hy => by
  have : y = x := by simpa [st1] using hy
  subst this
  omega⟩
theorem st0_b : stB st0 = true := by decide
theorem st0_e : stE st0 = 0 := by decide
theorem st1_e (x : List UInt8) (h : x.length = 32) : stE (st1 x) = 0 := by
  have hb : stB (st1 x) = true := st0_b
  unfold stE
  rw [if_pos hb, if_neg (by show ¬ (8 < 1 ∨ ¬ 1 = 1); omega)]
  show stF (-1) [1] [x] = 0
  rw [stF_cons, if_neg (by omega), if_pos h]
  rfl
theorem st0_body : (bodyR 0 st0).2 = 0 := by
  unfold bodyR
  rw [if_neg (by omega), if_neg (by decide)]
theorem st1_body (x : List UInt8) : bodyR 0 (st1 x) = bodyR 0 st0 := rfl
theorem st0_sg : stSg st0 0 1 [107] = (st1 (seal' [107] (bodyR 0 st0).1), 0) := by
  unfold stSg
  rw [if_pos st0_e, if_pos st0_body, if_neg (by omega), if_neg (by decide)]
  rfl
theorem st1_rg (b x : List UInt8) (hx : x = seal' [107] b) : rgB [[], [107]] b 1 x = true := by
  have e : ([[], [107]] : List (List UInt8)).getD (1 : Int).toNat [] = [107] := rfl
  unfold rgB
  rw [e, hx, beq_self_eq_true]
  rfl
theorem st1_ck (b x : List UInt8) (hl : x.length = 32) (hb : (bodyR 0 st0).1 = b) (hx : x = seal' [107] b) : stCk [[], [107]] 1 0 (st1 x) = 0 := by
  have h1 := st1_rg b x hx
  clear hx
  unfold stCk
  rw [if_pos (st1_e _ hl), st1_body, if_pos st0_body, hb, if_pos]
  have e : rgL [[], [107]] b (st1 x) = [rgB [[], [107]] b 1 x] := rfl
  rw [e, h1]
  exact ⟨rfl, by show (1 : Int) ≤ ((1 : Nat) : Int); omega⟩
theorem row2 {W : World} {g : Nat} {T : TypeId} {u v : Value} (h : Blk W g T #[u, v]) : Row W 1 (some ⟨g, 0, none⟩) 2 [u, v] := by
  refine ⟨by simp, fun _ => ⟨g, 0, rfl, fun i v hi => ?_⟩⟩
  have := h.cell i
  rw [Nat.zero_add, this]
  simpa using hi
theorem k2_len : ∀ y ∈ ([[], [107]] : List (List UInt8)), y.length ≤ 1099511627776 := by
  intro y hy
  simp only [List.mem_cons, List.not_mem_nil, or_false] at hy
  rcases hy with rfl | rfl <;> decide
set_option maxHeartbeats 4000000 in
theorem steps_any (w : World) (hT : TabK w) : Calls Tryd.prog 27 #[] w fun e w' => e = .returned (.bool true) ∧ Gr w w' := by
  obtain ⟨x, hx⟩ : ∃ x, x = seal' [107] (bodyR 0 st0).1 := ⟨_, rfl⟩
  have hl : x.length = 32 := by rw [hx]; exact seal32 _ _
  have hck := st1_ck (bodyR 0 st0).1 x hl rfl hx
  have HSg := sec (sign_any st0 0 1 [107] none 0 none 0 w ⟨Row.nil w 1 none, Row.nil w 1 none, fun _ => ⟨rfl, rfl⟩, fun _ => ⟨rfl, rfl⟩, Nat.le_refl _, Nat.le_refl _⟩ st0_sz (fun ad h => by cases h) (fun ad h => by cases h) hT (by decide))
  rw [st0_sg, ← hx] at HSg
  have HCk : Sec (∀ (W : World) (A0 : Option Addr) (m' c0 d0 : Nat) (A : Option Addr) (c : Nat) (B : Option Addr) (d : Nat), Gr w W → StrRow W A0 2 [[], [107]] → StR W (st1 x) A c B d → Calls Tryd.prog 33 #[.agg (keysA A0 2 c0 none 0 d0 1), .int .i64 0, .agg (stepA (st1 x) A c B d)] W fun e w' => e = .returned (.int .i64 0) ∧ Gr W w') := sec (fun W A0 m' c0 d0 A c B d g hK hR => by
    have := stCheck_any A0 2 c0 none 0 d0 1 [[], [107]] 0 (st1 x) A c B d W hK (by omega) k2_len hR (st1_sz x hl) (hT.gr g)
    rwa [hck] at this)
  clear hck hx hl hT
  unfold keysA at HCk
  unfold st0 at HSg
  have e1 : ∀ A c B d, stepA (st1 x) A c B d = #[.string (bs [97]), .string (bs []), .string (bs n32), .slice A 1 c, .slice B 1 d] := fun _ _ _ _ => rfl
  go_enter Tryd.func27, Tryd.ntmps27
  go_upto_region 2 with (first
    | (go_at_call 31; refine Calls.mono HSg.out ?_; rintro e w1 ⟨A1, c1, B1, d1, rfl, R1, g1⟩)
    | (refine wpList_store_blk rfl 46 (.tmp 1) (.tmp 6) rfl (g := w1.heap.size) (cs' := stepA (st1 x) A1 c1 B1 d1) rfl rfl (Blk.new w1 _ _) aggStep rfl (stepA_one _ _ _ _ _) ?_; intro w2 h2 hg2))
  have G2 : Gr w w2 := Gr.only (g1.alloc _) hg2 g1.size
  have R2 : StR w2 (st1 x) A1 c1 B1 d1 := R1.gr (Gr.only ((Gr.refl w1).alloc _) hg2 (Nat.le_refl _))
  obtain ⟨p, hp⟩ : ∃ p, p = w1.heap.size := ⟨_, rfl⟩
  rw [← hp] at h2
  rw [← hp]
  have HSK : Sec (∀ w', Gr w2 w' → w'.cell? ⟨p, 0, none⟩ = some (.string (bs [97])) ∧ w'.cell? ⟨p, 1, none⟩ = some (.string (bs [])) ∧ w'.cell? ⟨p, 2, none⟩ = some (.string (bs n32)) ∧ w'.cell? ⟨p, 3, none⟩ = some (.slice A1 1 c1) ∧ w'.cell? ⟨p, 4, none⟩ = some (.slice B1 1 d1) ∧ Gr w2 w') := sec (fun w' g => ⟨(h2.gr g).cell 0, (h2.gr g).cell 1, (h2.gr g).cell 2, (h2.gr g).cell 3, (h2.gr g).cell 4, g⟩)
  have HC : Sec (∀ (W : World) (A0 : Option Addr) (m' c0 d0 : Nat), Gr w2 W → StrRow W A0 2 [[], [107]] → Calls Tryd.prog 33 #[.agg #[.slice A0 2 c0, .slice none 0 d0, .int .i64 1], .int .i64 0, .agg #[.string (bs [97]), .string (bs []), .string (bs n32), .slice A1 1 c1, .slice B1 1 d1]] W fun e w' => e = .returned (.int .i64 0) ∧ Gr W w') := sec (fun W A0 m' c0 d0 g hK => HCk.out W A0 m' c0 d0 A1 c1 B1 d1 (G2.trans g) hK (R2.gr g))
  have HG2 := sec G2
  have HB := sec h2
  clear h2 hg2 R1 R2 g1 hp G2 HCk HSg e1
  have gd : Gr w2 w2 := Gr.refl _
  obtain ⟨x0, x1, x2, x3, x4, _⟩ := HSK.out _ gd
  have hlt : p < w2.heap.size := HB.out.lt
  go_wp2_with (first
      | (go_at_call 33; (refine Calls.mono (HC.out _ _ 0 _ _ (gd.alloc _) (row2 (Blk.new _ _ _))) ?_); rintro e w3 ⟨rfl, g3⟩; have G3 : Gr w2 w3 := Gr.trans (gd.alloc _) g3)
      | fail)
  go_ret
  exact ⟨rfl, HG2.out.trans G3⟩
end Go.Proofs.YtkgmimmneeppgaaDoor

namespace Go.Proofs.YtkgmimmneeppgaaDoor
set_option maxRecDepth 100000
open Go.RowKit
set_option linter.unusedVariables false

theorem stSg_sz (s : Stp) (at_ x : Int) (key : List UInt8) : StSz 1099511627776 (stSg s at_ x key).1 := by
  have hz : StSz 1099511627776 stpZ := ⟨by simp [stpZ], by simp [stpZ], by simp [stpZ], by simp [stpZ], by simp [stpZ], by simp [stpZ]⟩
  unfold stSg
  split
  · rename_i h
    obtain ⟨_, h1, h2, h3, h4, h5, h6, _, _⟩ := stE_zero h
    split
    · split
      · exact hz
      · split
        · exact hz
        · refine ⟨by simp only; omega, by simp only; omega, by simp only; omega, by simp only; rw [insL_len]; omega, by simp only; rw [insL_len]; omega, fun y hy => ?_⟩
          simp only at hy
          unfold insL at hy
          rcases List.mem_append.1 hy with hy | hy
          · rcases List.mem_append.1 hy with hy | hy
            · rw [h6 y (List.mem_of_mem_take hy)]; omega
            · rw [List.mem_singleton] at hy; subst hy; rw [seal_len]; omega
          · rw [h6 y (List.mem_of_mem_drop hy)]; omega
    · exact hz
  · exact hz

set_option maxHeartbeats 8000000 in
theorem stepSigns_walk (s : Stp) (A : Option Addr) (c : Nat) (B : Option Addr) (d : Nat) (at_ x : Int) (key : List UInt8) (W : World) (hS : StepIn W s A c B d) (hkey : key.length ≤ 1048576) (hT : TabK W) :
    Calls Tryd.prog 7 #[.agg (stepA s A c B d), .int .i64 at_, .int .i64 x, .string (bs key)] W fun e W' => e = .returned (.bool true) ∧ Gr W W' := by
  obtain ⟨hR, hz⟩ := hS
  have hz := hz.up (k' := 1099511627776) (by omega)
  obtain ⟨wa, hwa⟩ : ∃ x, x = W.alloc (.cells (stepA s A c B d) 46) := ⟨_, rfl⟩
  have hb : Blk wa W.heap.size 46 (stepA s A c B d) := by rw [hwa]; exact Blk.new W _ _
  have hg0 : Gr W wa := by rw [hwa]; exact (Gr.refl W).alloc _
  obtain ⟨p, hp⟩ : ∃ p, p = W.heap.size := ⟨_, rfl⟩
  rw [← hp] at hb
  have HCp : Sec (∀ w', Gr wa w' → Calls Tryd.prog 21 #[.agg (stepA s A c B d)] w' fun e w'' => ∃ A' c' B' d', e = .returned (.agg (stepA s A' c' B' d')) ∧ StR w'' s A' c' B' d' ∧ PlainA A' ∧ PlainA B' ∧ Gr w' w'') := sec (fun w' g => copyStep_any s A c B d w' ((hR.gr hg0).gr g) hz)
  have HSi : Sec (∀ w' A' c' B' d', Gr wa w' → StR w' s A' c' B' d' → PlainA A' → PlainA B' → Calls Tryd.prog 31 #[.agg (stepA s A' c' B' d'), .int .i64 at_, .int .i64 x, .string (bs key)] w' fun e w'' => ∃ A2 c2 B2 d2, e = .returned (.tuple #[.agg (stepA (stSg s at_ x key).1 A2 c2 B2 d2), .int .i64 (stSg s at_ x key).2]) ∧ StR w'' (stSg s at_ x key).1 A2 c2 B2 d2 ∧ Gr w' w'') := sec (fun w' A' c' B' d' g h hA hB => sign_any s at_ x key A' c' B' d' w' h hz hA hB ((hT.gr hg0).gr g) (by omega))
  have HRs : Sec (∀ w', Gr wa w' → Calls Tryd.prog 32 #[.agg (stepA s A c B d), .int .i64 at_, .int .i64 x, .string (bs key)] w' fun e w'' => ∃ A2 c2 B2 d2, e = .returned (.tuple #[.agg (stepA (stSg s at_ x key).1 A2 c2 B2 d2), .int .i64 (stSg s at_ x key).2]) ∧ StR w'' (stSg s at_ x key).1 A2 c2 B2 d2 ∧ Gr w' w'') := sec (fun w' g => rsign_any s at_ x key A c B d w' ((hR.gr hg0).gr g) hz ((hT.gr hg0).gr g) (by omega))
  have HS1 : Sec (∀ w' A c B d A' c' B' d', StR w' (stSg s at_ x key).1 A c B d → StR w' (stSg s at_ x key).1 A' c' B' d' → Calls Tryd.prog 30 #[.agg (stepA (stSg s at_ x key).1 A c B d), .agg (stepA (stSg s at_ x key).1 A' c' B' d')] w' fun e w'' => e = .returned (.bool true) ∧ Gr w' w'') := sec (fun w' A c B d A' c' B' d' h h' => sameStep_any (stSg s at_ x key).1 A c B d A' c' B' d' w' h h' (stSg_sz s at_ x key))
  have HS2 : Sec (∀ w' A' c' B' d', Gr wa w' → StR w' s A' c' B' d' → Calls Tryd.prog 30 #[.agg (stepA s A' c' B' d'), .agg (stepA s A c B d)] w' fun e w'' => e = .returned (.bool true) ∧ Gr w' w'') := sec (fun w' A' c' B' d' g h => sameStep_any s A' c' B' d' A c B d w' h ((hR.gr hg0).gr g) hz)
  have HSt : Sec (∀ w', Gr wa w' → Calls Tryd.prog 27 #[] w' fun e w'' => e = .returned (.bool true) ∧ Gr w' w'') := sec (fun w' g => steps_any w' ((hT.gr hg0).gr g))
  obtain ⟨v, hv⟩ : ∃ y, y = (stSg s at_ x key).1 := ⟨_, rfl⟩
  obtain ⟨E, hE⟩ : ∃ y, y = (stSg s at_ x key).2 := ⟨_, rfl⟩
  rw [← hv, ← hE] at HSi HRs
  rw [← hv] at HS1
  have HSK : Sec (∀ w', Gr wa w' → w'.cell? ⟨p, 0, none⟩ = some (.string (bs s.r)) ∧ w'.cell? ⟨p, 1, none⟩ = some (.string (bs s.o)) ∧ w'.cell? ⟨p, 2, none⟩ = some (.string (bs s.n)) ∧ w'.cell? ⟨p, 3, none⟩ = some (.slice A s.who.length c) ∧ w'.cell? ⟨p, 4, none⟩ = some (.slice B s.seals.length d) ∧ p < w'.heap.size) := sec (fun w' g => ⟨(hb.gr g).cell 0, (hb.gr g).cell 1, (hb.gr g).cell 2, (hb.gr g).cell 3, (hb.gr g).cell 4, (hb.gr g).lt⟩)
  clear hv hE hb hR hz hT hkey
  unfold stepA at hwa
  simp only [stepA] at HCp HSi HRs HS1 HS2
  unfold stepA
  obtain ⟨r, o, n, who, seals⟩ := s
  obtain ⟨vr, vo, vn, vwho, vseals⟩ := v
  simp only at HCp HSi HRs HS1 HS2 HSK hwa
  go_enter Tryd.func7, Tryd.ntmps7
  go_upto_region 1 with fail
  rw [← hwa, ← hp]
  clear hwa hp
  obtain ⟨x0, x1, x2, x3, x4, x5⟩ := HSK.out wa (Gr.refl _)
  go_wp2_with (first
    | (go_at_call 21; (with_reducible refine Calls.mono (HCp.out _ (Gr.refl _)) ?_); rintro e w1 ⟨A1, c1, B1, d1, rfl, r1, p1, p2, g1⟩; have gA := (Gr.refl w1).alloc (.cells #[.string (bs r), .string (bs o), .string (bs n), .slice A1 who.length c1, .slice B1 seals.length d1] 46); have bA := Blk.new w1 46 #[.string (bs r), .string (bs o), .string (bs n), .slice A1 who.length c1, .slice B1 seals.length d1])
    | (go_at_call 31; (with_reducible refine Calls.mono (HSi.out _ _ _ _ _ (g1.trans gA) (r1.gr gA) p1 p2) ?_); rintro e w2 ⟨A2, c2, B2, d2, rfl, r2, g2⟩; have gB := (Gr.refl w2).alloc (.cells #[.string (bs vr), .string (bs vo), .string (bs vn), .slice A2 vwho.length c2, .slice B2 vseals.length d2] 46); have bB := Blk.new w2 46 #[.string (bs vr), .string (bs vo), .string (bs vn), .slice A2 vwho.length c2, .slice B2 vseals.length d2]; have G2 := ((g1.trans gA).trans g2).trans gB; obtain ⟨y0, y1, y2, y3, y4, y5⟩ := HSK.out _ G2; obtain ⟨yy0, yy1, yy2, yy3, yy4, yy5⟩ := HSK.out _ ((g1.trans gA).trans g2))
    | (go_at_call 32; (with_reducible refine Calls.mono (HRs.out _ G2) ?_); rintro e w3 ⟨A3, c3, B3, d3, rfl, r3, g3⟩; have gC := (Gr.refl w3).alloc (.cells #[.string (bs vr), .string (bs vo), .string (bs vn), .slice A3 vwho.length c3, .slice B3 vseals.length d3] 46); have G3 := (G2.trans g3).trans gC; have b3 := bB.gr g3; have z0 := b3.cell 0; have z1 := b3.cell 1; have z2 := b3.cell 2; have z3 := b3.cell 3; have z4 := b3.cell 4; have z5 := b3.lt)
    | (go_at_call 30; (with_reducible refine Calls.mono (HS1.out _ _ _ _ _ _ _ _ _ ((r2.gr (gB.trans g3)).gr gC) (r3.gr gC)) ?_); rintro e w4 ⟨rfl, g4⟩; have G4 := G3.trans g4; obtain ⟨t0, t1, t2, t3, t4, t5⟩ := HSK.out _ G4; have gAll := (((g2.trans gB).trans g3).trans gC).trans g4; have b4 := bA.gr gAll; have s0 := b4.cell 0; have s1 := b4.cell 1; have s2 := b4.cell 2; have s3 := b4.cell 3; have s4 := b4.cell 4; have s5 := b4.lt)
    | (go_at_call 30; (with_reducible refine Calls.mono (HS2.out _ _ _ _ _ G4 ((r1.gr gA).gr gAll)) ?_); rintro e w5 ⟨rfl, g5⟩; have G5 := G4.trans g5)
    | (go_at_call 27; (with_reducible refine Calls.mono (HSt.out _ G5) ?_); rintro e w6 ⟨rfl, g6⟩))
  go_ret
  exact ⟨rfl, hg0.trans (G5.trans g6)⟩
end Go.Proofs.YtkgmimmneeppgaaDoor

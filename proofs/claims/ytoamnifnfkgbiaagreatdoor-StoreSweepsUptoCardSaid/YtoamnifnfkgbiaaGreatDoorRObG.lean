/-
  cartularyref.GoodObject by its contract.
-/
import Derived.Test.YtoamnifnfkgbiaaGreatDoorRObS
import Derived.Test.YtoamnifnfkgbiaaGreatDoorHasL
import Derived.Test.YtoamnifnfkgbiaaGreatDoorDiskG
import Derived.Carry
import Derived.Deep.CutBlock
namespace Go.Proofs.YtoamnifnfkgbiaaGreatDoor
set_option maxRecDepth 100000
open Go.RowKit
set_option linter.unusedVariables false
theorem MB : MapE 88 9 4 Lit.bool Value.bool (fun _ => True) false :=
  mapE_bool Tryz.underlying88 Tryz.underlying9 Tryz.underlying4 (fun w => by kernel_rfl)

set_option maxHeartbeats 32000000 in
theorem robGood_any (o : Ob) (A : Option Addr) (c : Nat) (B : Option Addr) (d : Nat) (w : World) (hR : ObR w o A c B d) (hz : ObSz 1099511627776 o) :
    Calls Tryz.prog 102 #[.agg (obA o A c B d)] w fun e w' => e = .returned (.int .i64 (obE o)) ∧ Gr w w' := by
  have hel := hz.ents
  have hpl := hz.pars
  have hmm := @run_makeMap Tryz.prog
  obtain ⟨wa, hwa⟩ : ∃ x, x = w.alloc (.cells (obA o A c B d) 91) := ⟨_, rfl⟩
  have hb : Blk wa w.heap.size 91 (obA o A c B d) := by rw [hwa]; exact Blk.new w _ _
  have hg0 : Gr w wa := by rw [hwa]; exact (Gr.refl w).alloc _
  have HEN := sec (hR.ents.gr hg0)
  have HPA := sec (hR.pars.gr hg0)
  have HPC := sec hR.pc
  obtain ⟨p, hp⟩ : ∃ p, p = w.heap.size := ⟨_, rfl⟩
  rw [← hp] at hb
  have HNA : Sec (∀ (x : Ent), x ∈ o.ents → ∀ W, Calls Tryz.prog 158 #[.string (bs x.nm)] W fun e w' => e = .returned (.bool (entB x.nm)) ∧ Gr W w') := sec (fun x hx W => entName_any x.nm W (by have := (hz.each x hx).1; omega))
  have HL1 : Sec (∀ W, Calls Tryz.prog 159 #[.string (bs o.who), .int .u8 1, .int .u8 255] W fun e w' => e = .returned (.bool (lineC o.who)) ∧ Gr W w') := sec (fun W => by rw [← btw_line]; exact between_any o.who 1 255 W (by have := hz.who; omega))
  have HL2 : Sec (∀ W, Calls Tryz.prog 159 #[.string (bs o.note), .int .u8 1, .int .u8 255] W fun e w' => e = .returned (.bool (lineC o.note)) ∧ Gr W w') := sec (fun W => by rw [← btw_line]; exact between_any o.note 1 255 W (by have := hz.note; omega))
  have HEO : Sec (1 ≤ o.kind ∧ o.kind ≤ 4 → ((∃ l, l.length ≤ maxLen ∧ maySet (hasO o) (mayL o.kind) l = some true) ↔ obEmp o = false)) := sec (emp_of o)
  have HPL : Sec (∀ x ∈ o.pars, x.length ≤ maxLen) := sec (fun x hx => by have := hz.peach x hx; unfold maxLen; omega)
  obtain ⟨V, hV⟩ : ∃ V : Int, V = obE o := ⟨_, rfl⟩
  have HV := sec hV
  rw [← hV]
  clear hV hz hR
  obtain ⟨kd, dt, en, tr, pa, wh, no, ti, ta⟩ := o
  simp only at HEN HPA HPC HNA HL1 HL2 HEO HPL hel hpl
  unfold obA at hb hwa
  unfold obA
  simp only at hb hwa ⊢
  have HCELL : Sec (∀ w', Gr wa w' → w'.cell? ⟨p, 0, none⟩ = some (.int .i64 kd) ∧ w'.cell? ⟨p, 1, none⟩ = some (.string (bs dt)) ∧ w'.cell? ⟨p, 2, none⟩ = some (.slice A en.length c) ∧ w'.cell? ⟨p, 3, none⟩ = some (.string (bs tr)) ∧ w'.cell? ⟨p, 4, none⟩ = some (.slice B pa.length d) ∧ w'.cell? ⟨p, 5, none⟩ = some (.string (bs wh)) ∧ w'.cell? ⟨p, 6, none⟩ = some (.string (bs no)) ∧ w'.cell? ⟨p, 7, none⟩ = some (.int .i64 ti) ∧ w'.cell? ⟨p, 8, none⟩ = some (.string (bs ta))) := sec (fun w' g => ⟨(hb.gr g).cell 0, (hb.gr g).cell 1, (hb.gr g).cell 2, (hb.gr g).cell 3, (hb.gr g).cell 4, (hb.gr g).cell 5, (hb.gr g).cell 6, (hb.gr g).cell 7, (hb.gr g).cell 8⟩)
  clear hb
  go_enter Tryz.func102, Tryz.ntmps102
  go_upto_region 1 with fail
  rw [← hwa, ← hp]
  clear hwa hp
  obtain ⟨c0, c1, c2, c3, c4, c5, c6, c7, c8⟩ := HCELL.out wa (Gr.refl _)
  by_cases hk1 : kd < 1
  · have HX : Sec (V = 4) := sec (by rw [HV.out]; unfold obE; rw [if_pos (Or.inl hk1)])
    clear HEO
    go_wp2_with fail
    go_ret
    exact ⟨by rw [HX.out]; rfl, hg0⟩
  by_cases hk2 : 4 < kd
  · have HX : Sec (V = 4) := sec (by rw [HV.out]; unfold obE; rw [if_pos (Or.inr hk2)])
    clear HEO
    go_wp2_with fail
    go_ret
    exact ⟨by rw [HX.out]; rfl, hg0⟩
  have HKK := sec (show 1 ≤ kd ∧ kd ≤ 4 from ⟨by omega, by omega⟩)
  have HE2 := sec (HEO.out HKK.out)
  have HV1 : Sec (V = if obEmp ⟨kd, dt, en, tr, pa, wh, no, ti, ta⟩ = true then obN ⟨kd, dt, en, tr, pa, wh, no, ti, ta⟩ else 2) := sec (by rw [HV.out]; unfold obE; rw [if_neg (by simp only; omega)])
  clear HEO HV
  go_upto_region 3 with fail
  obtain ⟨g, hg⟩ : ∃ g, g = wa.heap.size := ⟨_, rfl⟩
  have hga : wa.heap.size ≤ g := by omega
  go_cut [3] from 23 to 50 (fun v3 wc => v3 = .map (some g) ∧ Sec (MapAt 9 4 Lit.bool wc g 8 (hasO ⟨kd, dt, en, tr, pa, wh, no, ti, ta⟩)) ∧ Gr wa wc)
  case first =>
    subst hg
    have HM0 : Sec (MapAt 9 4 Lit.bool (wa.alloc (.map #[] 0)) wa.heap.size 0 (fun _ => none)) := sec (MapAt.made wa _ _ _)
    have G0 : Gr wa (wa.alloc (.map #[] 0)) := (Gr.refl wa).alloc _
    clear c0 c1 c2 c3 c4 c5 c6 c7 c8
    obtain ⟨c0, c1, c2, c3, c4, c5, c6, c7, c8⟩ := HCELL.out _ G0
    obtain ⟨w0, hw0⟩ : ∃ x, x = wa.alloc (.map #[] 0) := ⟨_, rfl⟩
    rw [← hw0] at HM0 G0 c0 c1 c2 c3 c4 c5 c6 c7 c8
    have hmk : (Instr.makeMap 88 none).run Tryz.prog wa = .ok (.map (some wa.heap.size)) w0 := by rw [hw0]; rfl
    clear hmm hw0
    go_wp2_with (first
      | (refine wpList_minsert MB rfl (.tmp 23) (.const (.string (bs k_data))) (.tmp 26) rfl rfl HM0.out (by unfold maxLen; omega) (l := k_data) rfl (by decide) rfl trivial ?_; intro w1 m1 h1; have HM1 : Sec (MapAt 9 4 Lit.bool w1 wa.heap.size 1 _) := sec m1; clear m1; have G1 : Gr wa w1 := Gr.only G0 h1 hga; obtain ⟨c10, c11, c12, c13, c14, c15, c16, c17, c18⟩ := HCELL.out w1 G1)
      | (refine wpList_minsert MB rfl (.tmp 23) (.const (.string (bs k_entries))) (.tmp 30) rfl rfl HM1.out (by unfold maxLen; omega) (l := k_entries) rfl (by decide) rfl trivial ?_; intro w2 m2 h2; have HM2 : Sec (MapAt 9 4 Lit.bool w2 wa.heap.size 2 _) := sec m2; clear m2; have G2 : Gr wa w2 := Gr.only G1 h2 hga; obtain ⟨c20, c21, c22, c23, c24, c25, c26, c27, c28⟩ := HCELL.out w2 G2)
      | (refine wpList_minsert MB rfl (.tmp 23) (.const (.string (bs k_tree))) (.tmp 33) rfl rfl HM2.out (by unfold maxLen; omega) (l := k_tree) rfl (by decide) rfl trivial ?_; intro w3 m3 h3; have HM3 : Sec (MapAt 9 4 Lit.bool w3 wa.heap.size 3 _) := sec m3; clear m3; have G3 : Gr wa w3 := Gr.only G2 h3 hga; obtain ⟨c30, c31, c32, c33, c34, c35, c36, c37, c38⟩ := HCELL.out w3 G3)
      | (refine wpList_minsert MB rfl (.tmp 23) (.const (.string (bs k_parents))) (.tmp 37) rfl rfl HM3.out (by unfold maxLen; omega) (l := k_parents) rfl (by decide) rfl trivial ?_; intro w4 m4 h4; have HM4 : Sec (MapAt 9 4 Lit.bool w4 wa.heap.size 4 _) := sec m4; clear m4; have G4 : Gr wa w4 := Gr.only G3 h4 hga; obtain ⟨c40, c41, c42, c43, c44, c45, c46, c47, c48⟩ := HCELL.out w4 G4)
      | (refine wpList_minsert MB rfl (.tmp 23) (.const (.string (bs k_time))) (.tmp 40) rfl rfl HM4.out (by unfold maxLen; omega) (l := k_time) rfl (by decide) rfl trivial ?_; intro w5 m5 h5; have HM5 : Sec (MapAt 9 4 Lit.bool w5 wa.heap.size 5 _) := sec m5; clear m5; have G5 : Gr wa w5 := Gr.only G4 h5 hga; obtain ⟨c50, c51, c52, c53, c54, c55, c56, c57, c58⟩ := HCELL.out w5 G5)
      | (refine wpList_minsert MB rfl (.tmp 23) (.const (.string (bs k_target))) (.tmp 43) rfl rfl HM5.out (by unfold maxLen; omega) (l := k_target) rfl (by decide) rfl trivial ?_; intro w6 m6 h6; have HM6 : Sec (MapAt 9 4 Lit.bool w6 wa.heap.size 6 _) := sec m6; clear m6; have G6 : Gr wa w6 := Gr.only G5 h6 hga; obtain ⟨c60, c61, c62, c63, c64, c65, c66, c67, c68⟩ := HCELL.out w6 G6)
      | (refine wpList_minsert MB rfl (.tmp 23) (.const (.string (bs k_who))) (.tmp 46) rfl rfl HM6.out (by unfold maxLen; omega) (l := k_who) rfl (by decide) rfl trivial ?_; intro w7 m7 h7; have HM7 : Sec (MapAt 9 4 Lit.bool w7 wa.heap.size 7 _) := sec m7; clear m7; have G7 : Gr wa w7 := Gr.only G6 h7 hga; obtain ⟨c70, c71, c72, c73, c74, c75, c76, c77, c78⟩ := HCELL.out w7 G7)
      | (refine wpList_minsert MB rfl (.tmp 23) (.const (.string (bs k_note))) (.tmp 49) rfl rfl HM7.out (by unfold maxLen; omega) (l := k_note) rfl (by decide) rfl trivial ?_; intro w8 m8 h8; have HM8 : Sec (MapAt 9 4 Lit.bool w8 wa.heap.size 8 _) := sec m8; clear m8; have G8 : Gr wa w8 := Gr.only G7 h8 hga; obtain ⟨c80, c81, c82, c83, c84, c85, c86, c87, c88⟩ := HCELL.out w8 G8))
    go_meet
    refine ⟨rfl, sec ?_, G8⟩
    exact HM8.out.congr (fun l hl => congrFun (hasO_eq dt en tr pa ti ta wh no kd) l)
  case rest =>
    obtain ⟨rfl, HM, gc⟩ := hcut
    clear hg hmm
    clear c0 c1 c2 c3 c4 c5 c6 c7 c8
    obtain ⟨c0, c1, c2, c3, c4, c5, c6, c7, c8⟩ := HCELL.out wc gc
    have HGW := sec (HM.out.lt)
    go_upto_region 4 with fail
    go_cut [4] from 51 to 60 (fun v4 wd => Sec (∃ (b cap : Nat), v4 = .slice (some ⟨b, 0, none⟩) (mayL kd).length cap ∧ StrRow wd (some ⟨b, 0, none⟩) (mayL kd).length (mayL kd) ∧ b ≠ g) ∧ Gr wc wd)
    case first =>
      clear c0 c1 c2 c3 c4 c5 c6 c7 c8
      have G5 : Gr wc (((((wc.alloc (.cells #[.string (bs [100, 97, 116, 97])] 9)).alloc (.cells #[.string (bs [101, 110, 116, 114, 105, 101, 115])] 9)).alloc (.cells #[.string (bs [116, 114, 101, 101]), .string (bs [112, 97, 114, 101, 110, 116, 115]), .string (bs [116, 105, 109, 101]), .string (bs [119, 104, 111]), .string (bs [110, 111, 116, 101])] 9)).alloc (.cells #[.string (bs [116, 97, 114, 103, 101, 116]), .string (bs [119, 104, 111]), .string (bs [110, 111, 116, 101])] 9)).alloc (.cells #[.slice (some ⟨wc.heap.size, 0, none⟩) 1 1, .slice (some ⟨wc.heap.size + 1, 0, none⟩) 1 1, .slice (some ⟨wc.heap.size + 1 + 1, 0, none⟩) 5 5, .slice (some ⟨wc.heap.size + 1 + 1 + 1, 0, none⟩) 3 3] 31)) := ((((((Gr.refl wc).alloc _).alloc _).alloc _).alloc _).alloc _)
      obtain ⟨c0, -⟩ := HCELL.out _ (gc.trans G5)
      have B5 : Blk (((((wc.alloc (.cells #[.string (bs [100, 97, 116, 97])] 9)).alloc (.cells #[.string (bs [101, 110, 116, 114, 105, 101, 115])] 9)).alloc (.cells #[.string (bs [116, 114, 101, 101]), .string (bs [112, 97, 114, 101, 110, 116, 115]), .string (bs [116, 105, 109, 101]), .string (bs [119, 104, 111]), .string (bs [110, 111, 116, 101])] 9)).alloc (.cells #[.string (bs [116, 97, 114, 103, 101, 116]), .string (bs [119, 104, 111]), .string (bs [110, 111, 116, 101])] 9)).alloc (.cells #[.slice (some ⟨wc.heap.size, 0, none⟩) 1 1, .slice (some ⟨wc.heap.size + 1, 0, none⟩) 1 1, .slice (some ⟨wc.heap.size + 1 + 1, 0, none⟩) 5 5, .slice (some ⟨wc.heap.size + 1 + 1 + 1, 0, none⟩) 3 3] 31)) (wc.heap.size + 1 + 1 + 1 + 1) 31 #[.slice (some ⟨wc.heap.size, 0, none⟩) 1 1, .slice (some ⟨wc.heap.size + 1, 0, none⟩) 1 1, .slice (some ⟨wc.heap.size + 1 + 1, 0, none⟩) 5 5, .slice (some ⟨wc.heap.size + 1 + 1 + 1, 0, none⟩) 3 3] := by
        have := Blk.new ((((wc.alloc (.cells #[.string (bs [100, 97, 116, 97])] 9)).alloc (.cells #[.string (bs [101, 110, 116, 114, 105, 101, 115])] 9)).alloc (.cells #[.string (bs [116, 114, 101, 101]), .string (bs [112, 97, 114, 101, 110, 116, 115]), .string (bs [116, 105, 109, 101]), .string (bs [119, 104, 111]), .string (bs [110, 111, 116, 101])] 9)).alloc (.cells #[.string (bs [116, 97, 114, 103, 101, 116]), .string (bs [119, 104, 111]), .string (bs [110, 111, 116, 101])] 9)) 31 #[.slice (some ⟨wc.heap.size, 0, none⟩) 1 1, .slice (some ⟨wc.heap.size + 1, 0, none⟩) 1 1, .slice (some ⟨wc.heap.size + 1 + 1, 0, none⟩) 5 5, .slice (some ⟨wc.heap.size + 1 + 1 + 1, 0, none⟩) 3 3]
        simp only [World.size_alloc] at this
        exact this
      have a0 := B5.cell 0
      have a1 := B5.cell 1
      have a2 := B5.cell 2
      have a3 := B5.cell 3
      simp only [List.getElem?_toArray, List.getElem?_cons_zero, List.getElem?_cons_succ] at a0 a1 a2 a3
      clear B5
      rcases (by have := HKK.out; omega : kd = 1 ∨ kd = 2 ∨ kd = 3 ∨ kd = 4) with rfl | rfl | rfl | rfl
      · go_wp2_with fail
        go_meet
        exact ⟨sec ⟨_, _, rfl, strRow_blk (L := mayL 1) (((((Blk.new wc _ _).alloc _).alloc _).alloc _).alloc _) rfl, by have := HGW.out; omega⟩, G5⟩
      · go_wp2_with fail
        go_meet
        exact ⟨sec ⟨_, _, rfl, strRow_blk (L := mayL 2) ((((Blk.new1 wc _ _ _).alloc _).alloc _).alloc _) rfl, by have := HGW.out; omega⟩, G5⟩
      · go_wp2_with fail
        go_meet
        exact ⟨sec ⟨_, _, rfl, strRow_blk (L := mayL 3) (((Blk.new2 wc _ _ _ _).alloc _).alloc _) rfl, by have := HGW.out; omega⟩, G5⟩
      · go_wp2_with fail
        go_meet
        exact ⟨sec ⟨_, _, rfl, strRow_blk (L := mayL 4) ((Blk.newK3 wc _ _ _ _ _).alloc _) rfl, by have := HGW.out; omega⟩, G5⟩
    case rest =>
      obtain ⟨HS4, gd⟩ := hcut
      obtain ⟨b4, cap4, rfl, hs4, hne4⟩ := HS4.out
      have HML := sec (mayL_len kd)
      have hml5 := (mayL_len kd).1
      have HM2 := sec (HM.out.gr gd)
      have HS := sec hs4
      have HNE := sec hne4
      obtain ⟨L, hL⟩ : ∃ L, L = mayL kd := ⟨_, rfl⟩
      rw [← hL] at HML HS HE2 hml5
      rw [← hL]
      obtain ⟨f0, hf0⟩ : ∃ f, f = hasO ⟨kd, dt, en, tr, pa, wh, no, ti, ta⟩ := ⟨_, rfl⟩
      rw [← hf0] at HM2 HE2
      have g3 := gc.trans gd
      clear hL hf0 HM HS4 hs4 hne4 gc gd c0 c1 c2 c3 c4 c5 c6 c7 c8
      go_wp2_with fail
      go_loopg [63, 6] L.length (fun fuel iv _ wr => ∃ (i c' : Nat), iv = .int .i64 (i : Int) ∧ L.length ≤ i + fuel ∧ i ≤ L.length ∧ c' ≤ 8 + i ∧ Sec (MapAt 9 4 Lit.bool wr g c' (maySet f0 (L.take i)) ∧ StrRow wr (some ⟨b4, 0, none⟩) L.length L) ∧ Gr wa wr)
      case atStart => exact ⟨0, 8, rfl, by omega, by omega, by omega, sec ⟨HM2.out, HS.out⟩, g3⟩
      case round =>
        clear HM2 HS g3
        obtain ⟨i, c', rfl, hik, hi, hc', HF, gw⟩ := hrel
        by_cases hlt : i < L.length
        · have hii : (i : Int) < (L.length : Int) := by omega
          obtain ⟨b', off', he, e0⟩ := HF.out.2.cell hlt
          injection he with he; injection he with he1 he2 _
          subst he1 he2
          rw [Nat.zero_add] at e0
          have HSU := sec (maySet_succ f0 L i hlt)
          have hxl := HML.out.2 L[i] (List.getElem_mem hlt)
          obtain ⟨x, hxx⟩ : ∃ x, x = L[i] := ⟨_, rfl⟩
          rw [← hxx] at e0 HSU hxl
          have HMA := sec HF.out.1
          have HRO := sec HF.out.2
          have HLT := sec hlt
          have HXL := sec hxl
          clear hxx hlt hxl HF
          go_wp2_with (refine wpList_mput MB rfl (.tmp 67) (.tmp 68) (.const (.bool false)) rfl rfl HMA.out (by unfold maxLen; omega) (l := x) rfl HXL.out rfl trivial ?_; intro w1 m1 h1; have HM1 := sec m1; clear m1; have G1 : Gr wa w1 := Gr.only gw h1 hga; have HR1 := sec (HRO.out.only h1 (fun _ b off e => by injection e with e; injection e with e _ _; rw [← e]; exact HNE.out)))
          go_roundg (gk - 1)
          case rel => exact ⟨i + 1, mcnt (maySet f0 (L.take i)) x c', by go_num, by have := HLT.out; omega, HLT.out, by unfold mcnt; split <;> omega, sec ⟨by rw [HSU.out]; exact HM1.out, HR1.out⟩, G1⟩
          case measure => have := HLT.out; omega
        · obtain hE2 : i = L.length := by omega
          have hii : ¬ (i : Int) < (L.length : Int) := by omega
          have q : decide (i < L.length) = false := decide_eq_false hlt
          have HMA : Sec (MapAt 9 4 Lit.bool wr g c' (maySet f0 L)) := sec (by have := HF.out.1; rwa [hE2, List.take_length] at this)
          clear hlt hik HF hE2 hc' hi
          obtain ⟨f, hf⟩ : ∃ f, f = maySet f0 L := ⟨_, rfl⟩
          rw [← hf] at HMA HE2
          clear hf
          go_upto_region 11 with (refine wpList_mrange MB rfl (.tmp 70) rfl rfl HMA.out ?_; intro w1 m1 g1 z1; have HR1 := sec m1; clear m1; have G1 : Gr wa w1 := gw.trans g1)
          have HRW := sec gw.size
          obtain ⟨r, hr⟩ : ∃ r, r = wr.heap.size := ⟨_, rfl⟩
          rw [← hr] at HR1 HRW
          rw [← hr]
          clear hr z1 q hii HMA
          go_loopw [8] (fun _ wy => ∃ (left : List UInt8 → Bool) (cnt : Nat), Sec (RanAt 9 4 Lit.bool wy g r c' f left cnt ∧ ∀ l, l.length ≤ maxLen → left l = false → f l ≠ some true) ∧ Gr wa wy)
            (fun _ wy => wy.rangeLeft g r)
          case atStart => exact ⟨_, _, sec ⟨HR1.out, fun l hl h => by rw [Option.isSome_eq_false_iff, Option.isNone_iff_eq_none] at h; rw [h]; simp⟩, G1⟩
          case round =>
            obtain ⟨left, cnt, HF, gy⟩ := hrel
            have HR := sec HF.out.1
            have HI := sec HF.out.2
            clear HF HR1 G1 gw
            go_wp2_with (refine wpList_mnext MB rfl (.tmp 71) rfl rfl HR.out ?_ ?_)
            · intro hl0
              have HV2 : Sec (V = obN ⟨kd, dt, en, tr, pa, wh, no, ti, ta⟩) := sec (by
                have h1 : obEmp ⟨kd, dt, en, tr, pa, wh, no, ti, ta⟩ = true := by
                  cases h : obEmp ⟨kd, dt, en, tr, pa, wh, no, ti, ta⟩
                  · obtain ⟨l, hll, hfl⟩ := HE2.out.2 h
                    exact absurd hfl (HI.out l hll (hl0 l hll))
                  · rfl
                rw [HV1.out, if_pos h1])
              clear HV1 HE2 HI HR hl0 HNE HML hml5 HRW hga HGW
              obtain ⟨c0, c1, c2, c3, c4, c5, c6, c7, c8⟩ := HCELL.out _ gy
              go_upto_region 15 with fail
              by_cases x1 : 4096 < dt.length
              · have q : (4096 : Int) < (dt.length : Int) := by omega
                have HX : Sec (V = 1) := sec (by rw [HV2.out]; unfold obN; rw [if_pos (by simp only; omega)])
                clear HEN HPA
                go_wp2_with fail
                go_ret
                exact ⟨by rw [HX.out]; rfl, hg0.trans gy⟩
              have qx1 : ¬ (4096 : Int) < (dt.length : Int) := by omega
              by_cases x2 : 4096 < wh.length
              · have q : (4096 : Int) < (wh.length : Int) := by omega
                have HX : Sec (V = 1) := sec (by rw [HV2.out]; unfold obN; rw [if_pos (by simp only; omega)])
                clear HEN HPA
                go_wp2_with fail
                go_ret
                exact ⟨by rw [HX.out]; rfl, hg0.trans gy⟩
              have qx2 : ¬ (4096 : Int) < (wh.length : Int) := by omega
              by_cases x3 : 4096 < no.length
              · have q : (4096 : Int) < (no.length : Int) := by omega
                have HX : Sec (V = 1) := sec (by rw [HV2.out]; unfold obN; rw [if_pos (by simp only; omega)])
                clear HEN HPA
                go_wp2_with fail
                go_ret
                exact ⟨by rw [HX.out]; rfl, hg0.trans gy⟩
              have qx3 : ¬ (4096 : Int) < (no.length : Int) := by omega
              have HV3 : Sec (V = if 64 < en.length ∨ 4 < pa.length then 6 else if enF [] en = true then obP ⟨kd, dt, en, tr, pa, wh, no, ti, ta⟩ else 2) := sec (by rw [HV2.out]; unfold obN; rw [if_neg (by simp only; omega)])
              clear HV2
              by_cases y1 : 64 < en.length
              · have q : (64 : Int) < (en.length : Int) := by omega
                have HX : Sec (V = 6) := sec (by rw [HV3.out, if_pos (by omega)])
                clear HEN HPA
                go_wp2_with fail
                go_ret
                exact ⟨by rw [HX.out]; rfl, hg0.trans gy⟩
              have qy1 : ¬ (64 : Int) < (en.length : Int) := by omega
              by_cases y2 : 4 < pa.length
              · have q : (4 : Int) < (pa.length : Int) := by omega
                have HX : Sec (V = 6) := sec (by rw [HV3.out, if_pos (by omega)])
                clear HEN HPA
                go_wp2_with fail
                go_ret
                exact ⟨by rw [HX.out]; rfl, hg0.trans gy⟩
              have qy2 : ¬ (4 : Int) < (pa.length : Int) := by omega
              have HV4 : Sec (V = if enF [] en = true then obP ⟨kd, dt, en, tr, pa, wh, no, ti, ta⟩ else 2) := sec (by rw [HV3.out, if_neg (by omega)])
              clear HV3
              go_upto_region 19 with fail
              clear qx1 qx2 qx3 qy1 qy2
              go_wp2_with fail
              clear c0 c1 c2 c3 c4 c5 c6 c7 c8
              go_loopg [106, 11, 9] en.length (fun fuel iv _ lv wr => ∃ i : Nat, iv = .int .i64 (i : Int) ∧ lv = .string (bs (enLast en i)) ∧ en.length ≤ i + fuel ∧ i ≤ en.length ∧ Sec (enF [] en = enF (enLast en i) (en.drop i)) ∧ Gr wa wr)
              case atStart => exact ⟨0, rfl, rfl, by omega, by omega, sec rfl, gy⟩
              case round =>
                clear gy
                obtain ⟨i, rfl, rfl, hik, hi, HST, gw⟩ := hrel
                obtain ⟨c0, c1, c2, c3, c4, c5, c6, c7, c8⟩ := HCELL.out wr gw
                by_cases hlt : i < en.length
                · have hii : (i : Int) < (en.length : Int) := by omega
                  obtain ⟨b, off, rfl, e0, e1, e2⟩ := (HEN.out.gr gw).cell hlt
                  have HHERE := sec (HST.out.trans (enF_at en i hlt))
                  have HNXT := sec (enLast_succ en i hlt)
                  have HNi := sec (HNA.out en[i] (List.getElem_mem hlt))
                  obtain ⟨last, hlast⟩ : ∃ l, l = enLast en i := ⟨_, rfl⟩
                  rw [← hlast] at HHERE HST
                  rw [← hlast]
                  obtain ⟨x, hxx⟩ : ∃ x, x = en[i] := ⟨_, rfl⟩
                  rw [← hxx] at e0 e1 e2 HHERE HNXT HNi
                  have HLT := sec hlt
                  clear hxx hlt hlast
                  obtain ⟨nm, dr, id⟩ := x
                  simp only at e0 e1 e2 HHERE HNXT HNi
                  go_upto_region 23 with fail
                  have hFB := Blk.new wr 128 #[.string (bs nm), .bool dr, .string (bs id)]
                  have hgx := gw.alloc (.cells #[.string (bs nm), .bool dr, .string (bs id)] 128)
                  obtain ⟨wx, hwx⟩ : ∃ x, x = wr.alloc (.cells #[.string (bs nm), .bool dr, .string (bs id)] 128) := ⟨_, rfl⟩
                  obtain ⟨q, hq⟩ : ∃ q, q = wr.heap.size := ⟨_, rfl⟩
                  rw [← hwx] at hFB hgx
                  rw [← hq] at hFB
                  rw [← hwx, ← hq]
                  have HSK : Sec (∀ w', Gr wx w' → w'.cell? ⟨q, 0, none⟩ = some (.string (bs nm)) ∧ w'.cell? ⟨q, 2, none⟩ = some (.string (bs id)) ∧ Gr wx w') := sec (fun w' g => ⟨(hFB.gr g).cell 0, (hFB.gr g).cell 2, g⟩)
                  clear hwx hq hFB e0 e1 e2 gw c0 c1 c2 c3 c4 c5 c6 c7 c8
                  obtain ⟨c0, c2, -⟩ := HSK.out wx (Gr.refl _)
                  cases hnb : entB nm with
                  | false =>
                    rw [hnb] at HNi HHERE
                    have HX : Sec (V = 2) := sec (by
                      have h2 : enF [] en = false := by rw [HHERE.out]; rfl
                      rw [HV4.out, h2]; rfl)
                    clear HHERE HNXT
                    go_wp2_with (go_at_call 158; (with_reducible refine Calls.mono (HNi.out _) ?_); rintro e w1 ⟨rfl, g1⟩; obtain ⟨d0, d2, -⟩ := HSK.out w1 g1)
                    go_ret
                    exact ⟨by rw [HX.out]; rfl, hg0.trans (hgx.trans g1)⟩
                  | true =>
                    rw [hnb] at HNi HHERE
                    clear hnb
                    by_cases h32 : id.length = 32
                    · have q3 : ((id.length : Int) != 32) = false := by rw [bne_eq_false_iff_eq]; omega
                      rw [decide_eq_true h32] at HHERE
                      clear h32
                      cases hlb : ltB last nm with
                      | false =>
                        have q5 : (Op.bytesLess nm last || nm == last) = true := by
                          cases h : Op.bytesLess nm last
                          · rw [ltB_tri nm last h hlb]; simp
                          · rfl
                        rw [hlb] at HHERE
                        clear hlb
                        have HX : Sec (V = 2) := sec (by
                          have h2 : enF [] en = false := by rw [HHERE.out]; rfl
                          rw [HV4.out, h2]; rfl)
                        clear HHERE HNXT
                        go_wp2_with (go_at_call 158; (with_reducible refine Calls.mono (HNi.out _) ?_); rintro e w1 ⟨rfl, g1⟩; obtain ⟨d0, d2, -⟩ := HSK.out w1 g1)
                        go_ret
                        exact ⟨by rw [HX.out]; rfl, hg0.trans (hgx.trans g1)⟩
                      | true =>
                        have q5 : Op.bytesLess nm last = false := ltB_asym hlb
                        have q6 : (nm == last) = false := by
                          rw [beq_eq_false_iff_ne]
                          intro e; subst e; rw [ltB_irr] at hlb; cases hlb
                        rw [hlb] at HHERE
                        have HEN2 : Sec (enF [] en = enF (enLast en (i + 1)) (en.drop (i + 1))) := sec (by rw [HHERE.out]; rfl)
                        clear hlb HHERE
                        go_wp2_with (go_at_call 158; (with_reducible refine Calls.mono (HNi.out _) ?_); rintro e w1 ⟨rfl, g1⟩; obtain ⟨d0, d2, -⟩ := HSK.out w1 g1)
                        go_roundg (gk - 1)
                        case rel => exact ⟨i + 1, by go_num, by rw [HNXT.out], by have := HLT.out; omega, HLT.out, HEN2, hgx.trans g1⟩
                        case measure => have := HLT.out; omega
                    · have q3 : ((id.length : Int) != 32) = true := by rw [bne_iff_ne]; omega
                      rw [decide_eq_false h32] at HHERE
                      clear h32
                      have HX : Sec (V = 2) := sec (by
                        have h2 : enF [] en = false := by rw [HHERE.out]; rfl
                        rw [HV4.out, h2]; rfl)
                      clear HHERE HNXT
                      go_wp2_with (go_at_call 158; (with_reducible refine Calls.mono (HNi.out _) ?_); rintro e w1 ⟨rfl, g1⟩; obtain ⟨d0, d2, -⟩ := HSK.out w1 g1)
                      go_ret
                      exact ⟨by rw [HX.out]; rfl, hg0.trans (hgx.trans g1)⟩
                · have HV5 : Sec (V = obP ⟨kd, dt, en, tr, pa, wh, no, ti, ta⟩) := sec (by rw [HV4.out, HST.out, enF_end _ _ _ (by omega), if_pos rfl])
                  have hii : ¬ (i : Int) < (en.length : Int) := by omega
                  have q : decide (i < en.length) = false := decide_eq_false hlt
                  clear hlt hik HST HV4 HEN HNA hi
                  go_upto_region 27 with fail
                  have HM0 : Sec (MapAt 9 4 Lit.bool (wr.alloc (.map #[] 0)) wr.heap.size 0 (fun _ => none)) := sec (MapAt.made wr _ _ _)
                  have G0 : Gr wa (wr.alloc (.map #[] 0)) := gw.alloc _
                  clear c0 c1 c2 c3 c4 c5 c6 c7 c8
                  obtain ⟨c0, c1, c2, c3, c4, c5, c6, c7, c8⟩ := HCELL.out _ G0
                  obtain ⟨w0, hw0⟩ : ∃ x, x = wr.alloc (.map #[] 0) := ⟨_, rfl⟩
                  have hmk : (Instr.makeMap 88 none).run Tryz.prog wr = .ok (.map (some wr.heap.size)) w0 := by rw [hw0]; rfl
                  obtain ⟨g2, hg2⟩ : ∃ x, x = wr.heap.size := ⟨_, rfl⟩
                  have hgs : wa.heap.size ≤ g2 := by rw [hg2]; exact gw.size
                  rw [← hw0] at HM0 G0 c0 c1 c2 c3 c4 c5 c6 c7 c8
                  rw [← hg2] at hmk HM0
                  clear hw0 hg2 q hii
                  go_wp2_with fail
                  clear hmk c0 c1 c2 c3 c4 c5 c6 c7 c8
                  go_loopg [133, 14] pa.length (fun fuel iv _ wr => ∃ (k c' : Nat), iv = .int .i64 (k : Int) ∧ pa.length ≤ k + fuel ∧ k ≤ pa.length ∧ c' ≤ k ∧ Sec (paF [] pa = paF (pa.take k) (pa.drop k) ∧ MapAt 9 4 Lit.bool wr g2 c' (fun l => if l ∈ pa.take k then some true else none)) ∧ Gr wa wr)
                  case atStart => exact ⟨0, 0, rfl, by omega, by omega, by omega, sec ⟨rfl, HM0.out.congr (fun l _ => by simp)⟩, G0⟩
                  case round =>
                    clear gw HM0 G0
                    obtain ⟨k, c', rfl, hkk, hk, hck, HF, gw⟩ := hrel
                    obtain ⟨c0, c1, c2, c3, c4, c5, c6, c7, c8⟩ := HCELL.out wr gw
                    by_cases hlt : k < pa.length
                    · have hii : (k : Int) < (pa.length : Int) := by omega
                      obtain ⟨b, off, rfl, e0⟩ := (HPA.out.gr gw).cell hlt
                      have HHERE := sec (HF.out.1.trans (paF_at pa k hlt))
                      have HMA := sec HF.out.2
                      have HXL := sec (HPL.out pa[k] (List.getElem_mem hlt))
                      have HTK : Sec (∀ l, l ∈ pa.take (k + 1) ↔ l ∈ pa.take k ∨ l = pa[k]) := sec (fun l => by
                        rw [List.take_succ_eq_append_getElem hlt]; simp only [List.mem_append, List.mem_singleton])
                      obtain ⟨x, hxx⟩ : ∃ x, x = pa[k] := ⟨_, rfl⟩
                      rw [← hxx] at e0 HHERE HXL HTK
                      have HLT := sec hlt
                      clear hxx hlt HF
                      by_cases h32 : x.length = 32
                      · have q3 : ((x.length : Int) != 32) = false := by rw [bne_eq_false_iff_eq]; omega
                        by_cases hm : x ∈ pa.take k
                        · have HX : Sec (V = 8) := sec (by rw [HV5.out]; unfold obP; simp only; rw [HHERE.out, if_pos h32, if_pos hm]; rfl)
                          have HR1 : Sec (((if x ∈ pa.take k then some true else none : Option Bool)).getD false = true) := sec (by rw [if_pos hm]; rfl)
                          clear h32 hk hkk hm
                          go_wp2_with (refine wpList_look1 MB rfl (.tmp 140) (.tmp 141) rfl rfl HMA.out (l := x) rfl HXL.out HR1.out ?_)
                          go_ret
                          exact ⟨by rw [HX.out]; rfl, hg0.trans gw⟩
                        · have HS2 : Sec (paF [] pa = paF (pa.take (k + 1)) (pa.drop (k + 1))) := sec (by rw [HHERE.out, if_pos h32, if_neg hm])
                          have HR1 : Sec (((if x ∈ pa.take k then some true else none : Option Bool)).getD false = false) := sec (by rw [if_neg hm]; rfl)
                          clear h32 hk hm
                          go_wp2_with (first
                            | (refine wpList_look1 MB rfl (.tmp 140) (.tmp 141) rfl rfl HMA.out (l := x) rfl HXL.out HR1.out ?_)
                            | (refine wpList_mput MB rfl (.tmp 143) (.tmp 144) (.const (.bool true)) rfl rfl HMA.out (by unfold maxLen; omega) (l := x) rfl HXL.out rfl trivial ?_; intro w1 m1 h1; have HM1 := sec m1; clear m1; have G1 : Gr wa w1 := Gr.only gw h1 hgs))
                          go_roundg (gk - 1)
                          case rel => exact ⟨k + 1, _, by go_num, by omega, HLT.out, (show mcnt _ _ _ ≤ k + 1 by unfold mcnt; split <;> omega), sec ⟨HS2.out, HM1.out.congr (fun l _ => by
                            show mset _ _ _ l = (if l ∈ pa.take (k + 1) then some true else none)
                            unfold mset
                            show (if l = x then some true else if l ∈ pa.take k then some true else none) = _
                            by_cases h1 : l = x
                            · rw [if_pos h1, if_pos ((HTK.out l).2 (Or.inr h1))]
                            · rw [if_neg h1]
                              by_cases h2 : l ∈ pa.take k
                              · rw [if_pos h2, if_pos ((HTK.out l).2 (Or.inl h2))]
                              · rw [if_neg h2, if_neg (fun h => ((HTK.out l).1 h).elim h2 h1)])⟩, G1⟩
                          case measure => have := HLT.out; omega
                      · have q3 : ((x.length : Int) != 32) = true := by rw [bne_iff_ne]; omega
                        have HX : Sec (V = 2) := sec (by rw [HV5.out]; unfold obP; simp only; rw [HHERE.out, if_neg h32]; rfl)
                        clear h32 hk hkk
                        go_wp2_with fail
                        go_ret
                        exact ⟨by rw [HX.out]; rfl, hg0.trans gw⟩
                    · have HV6 : Sec (V = obL ⟨kd, dt, en, tr, pa, wh, no, ti, ta⟩) := sec (by rw [HV5.out]; unfold obP; simp only; rw [HF.out.1, paF_end _ _ _ (by omega)]; rfl)
                      have hii : ¬ (k : Int) < (pa.length : Int) := by omega
                      have q : decide (k < pa.length) = false := decide_eq_false hlt
                      clear hlt hkk HF HV5 HPA HPC hk HPL hck
                      obtain ⟨ok, hok⟩ : ∃ ok : Bool, ok = obIds ⟨kd, dt, en, tr, pa, wh, no, ti, ta⟩ := ⟨_, rfl⟩
                      have HOK := sec hok
                      clear hok
                      go_upto_region 37 with fail
                      clear q hii
                      obtain ⟨b1, hb1⟩ : ∃ b, b = lineC wh := ⟨_, rfl⟩
                      obtain ⟨b2, hb2⟩ : ∃ b, b = lineC no := ⟨_, rfl⟩
                      rw [← hb1] at HL1
                      rw [← hb2] at HL2
                      have HOK1 : Sec (ok = ((!decide (kd = 3) || decide (tr.length = 32)) && ((!decide (kd = 4) || decide (ta.length = 32)) && (b1 && b2)))) := sec (by rw [HOK.out, hb1, hb2]; rfl)
                      clear hb1 hb2
                      by_cases k3 : kd = 3
                      · subst k3
                        have z4 : ((3 : Int) == 4) = false := rfl
                        by_cases h32 : tr.length = 32
                        · have q3 : ((tr.length : Int) != 32) = false := by rw [bne_eq_false_iff_eq]; omega
                          cases b1
                          · skip
                            have HX : Sec (V = 2) := sec (by rw [HV6.out]; unfold obL; rw [← HOK.out, HOK1.out]; simp [h32])
                            clear HOK HOK1 HV6
                            go_wp2_with (go_at_call 159; (with_reducible refine Calls.mono (HL1.out _) ?_); rintro e w1 ⟨rfl, g1⟩; obtain ⟨d0, d1, d2, d3, d4, d5, d6, d7, d8⟩ := HCELL.out w1 (gw.trans g1))
                            go_ret
                            exact ⟨by rw [HX.out]; rfl, hg0.trans (gw.trans g1)⟩
                          cases b2
                          · skip
                            have HX : Sec (V = 2) := sec (by rw [HV6.out]; unfold obL; rw [← HOK.out, HOK1.out]; simp [h32])
                            clear HOK HOK1 HV6
                            go_wp2_with (first | (go_at_call 159; (with_reducible refine Calls.mono (HL1.out _) ?_); rintro e w1 ⟨rfl, g1⟩; obtain ⟨d0, d1, d2, d3, d4, d5, d6, d7, d8⟩ := HCELL.out w1 (gw.trans g1)) | (go_at_call 159; (with_reducible refine Calls.mono (HL2.out _) ?_); rintro e w2 ⟨rfl, g2⟩; obtain ⟨e0, e1, e2, e3, e4, e5, e6, e7, e8⟩ := HCELL.out w2 (gw.trans (g1.trans g2))))
                            go_ret
                            exact ⟨by rw [HX.out]; rfl, hg0.trans (gw.trans (g1.trans g2))⟩
                          have HV7 : Sec (V = if ti < 0 ∨ 1099511627776 ≤ ti then 3 else 0) := sec (by rw [HV6.out]; unfold obL; rw [← HOK.out, HOK1.out]; simp [h32])
                          clear HOK HOK1 HV6
                          by_cases t1 : ti < 0
                          · have HX : Sec (V = 3) := sec (by rw [HV7.out, if_pos (by omega)])
                            clear HV7
                            go_wp2_with (first | (go_at_call 159; (with_reducible refine Calls.mono (HL1.out _) ?_); rintro e w1 ⟨rfl, g1⟩; obtain ⟨d0, d1, d2, d3, d4, d5, d6, d7, d8⟩ := HCELL.out w1 (gw.trans g1)) | (go_at_call 159; (with_reducible refine Calls.mono (HL2.out _) ?_); rintro e w2 ⟨rfl, g2⟩; obtain ⟨e0, e1, e2, e3, e4, e5, e6, e7, e8⟩ := HCELL.out w2 (gw.trans (g1.trans g2))))
                            go_ret
                            exact ⟨by rw [HX.out]; rfl, hg0.trans (gw.trans (g1.trans g2))⟩
                          by_cases t2 : 1099511627776 ≤ ti
                          · have HX : Sec (V = 3) := sec (by rw [HV7.out, if_pos (by omega)])
                            clear HV7
                            go_wp2_with (first | (go_at_call 159; (with_reducible refine Calls.mono (HL1.out _) ?_); rintro e w1 ⟨rfl, g1⟩; obtain ⟨d0, d1, d2, d3, d4, d5, d6, d7, d8⟩ := HCELL.out w1 (gw.trans g1)) | (go_at_call 159; (with_reducible refine Calls.mono (HL2.out _) ?_); rintro e w2 ⟨rfl, g2⟩; obtain ⟨e0, e1, e2, e3, e4, e5, e6, e7, e8⟩ := HCELL.out w2 (gw.trans (g1.trans g2))))
                            go_ret
                            exact ⟨by rw [HX.out]; rfl, hg0.trans (gw.trans (g1.trans g2))⟩
                          have HX : Sec (V = 0) := sec (by rw [HV7.out, if_neg (by omega)])
                          clear HV7
                          go_wp2_with (first | (go_at_call 159; (with_reducible refine Calls.mono (HL1.out _) ?_); rintro e w1 ⟨rfl, g1⟩; obtain ⟨d0, d1, d2, d3, d4, d5, d6, d7, d8⟩ := HCELL.out w1 (gw.trans g1)) | (go_at_call 159; (with_reducible refine Calls.mono (HL2.out _) ?_); rintro e w2 ⟨rfl, g2⟩; obtain ⟨e0, e1, e2, e3, e4, e5, e6, e7, e8⟩ := HCELL.out w2 (gw.trans (g1.trans g2))))
                          go_ret
                          exact ⟨by rw [HX.out]; rfl, hg0.trans (gw.trans (g1.trans g2))⟩
                        · have q3 : ((tr.length : Int) != 32) = true := by rw [bne_iff_ne]; omega
                          have HX : Sec (V = 2) := sec (by rw [HV6.out]; unfold obL; rw [← HOK.out, HOK1.out]; simp [h32])
                          clear HOK HOK1 HV6
                          go_wp2_with fail
                          go_ret
                          exact ⟨by rw [HX.out]; rfl, hg0.trans gw⟩
                      have z3 : (kd == 3) = false := by rw [beq_eq_false_iff_ne]; exact k3
                      by_cases k4 : kd = 4
                      · subst k4
                        by_cases h32 : ta.length = 32
                        · have q3 : ((ta.length : Int) != 32) = false := by rw [bne_eq_false_iff_eq]; omega
                          cases b1
                          · skip
                            have HX : Sec (V = 2) := sec (by rw [HV6.out]; unfold obL; rw [← HOK.out, HOK1.out]; simp [h32])
                            clear HOK HOK1 HV6
                            go_wp2_with (go_at_call 159; (with_reducible refine Calls.mono (HL1.out _) ?_); rintro e w1 ⟨rfl, g1⟩; obtain ⟨d0, d1, d2, d3, d4, d5, d6, d7, d8⟩ := HCELL.out w1 (gw.trans g1))
                            go_ret
                            exact ⟨by rw [HX.out]; rfl, hg0.trans (gw.trans g1)⟩
                          cases b2
                          · skip
                            have HX : Sec (V = 2) := sec (by rw [HV6.out]; unfold obL; rw [← HOK.out, HOK1.out]; simp [h32])
                            clear HOK HOK1 HV6
                            go_wp2_with (first | (go_at_call 159; (with_reducible refine Calls.mono (HL1.out _) ?_); rintro e w1 ⟨rfl, g1⟩; obtain ⟨d0, d1, d2, d3, d4, d5, d6, d7, d8⟩ := HCELL.out w1 (gw.trans g1)) | (go_at_call 159; (with_reducible refine Calls.mono (HL2.out _) ?_); rintro e w2 ⟨rfl, g2⟩; obtain ⟨e0, e1, e2, e3, e4, e5, e6, e7, e8⟩ := HCELL.out w2 (gw.trans (g1.trans g2))))
                            go_ret
                            exact ⟨by rw [HX.out]; rfl, hg0.trans (gw.trans (g1.trans g2))⟩
                          have HV7 : Sec (V = if ti < 0 ∨ 1099511627776 ≤ ti then 3 else 0) := sec (by rw [HV6.out]; unfold obL; rw [← HOK.out, HOK1.out]; simp [h32])
                          clear HOK HOK1 HV6
                          by_cases t1 : ti < 0
                          · have HX : Sec (V = 3) := sec (by rw [HV7.out, if_pos (by omega)])
                            clear HV7
                            go_wp2_with (first | (go_at_call 159; (with_reducible refine Calls.mono (HL1.out _) ?_); rintro e w1 ⟨rfl, g1⟩; obtain ⟨d0, d1, d2, d3, d4, d5, d6, d7, d8⟩ := HCELL.out w1 (gw.trans g1)) | (go_at_call 159; (with_reducible refine Calls.mono (HL2.out _) ?_); rintro e w2 ⟨rfl, g2⟩; obtain ⟨e0, e1, e2, e3, e4, e5, e6, e7, e8⟩ := HCELL.out w2 (gw.trans (g1.trans g2))))
                            go_ret
                            exact ⟨by rw [HX.out]; rfl, hg0.trans (gw.trans (g1.trans g2))⟩
                          by_cases t2 : 1099511627776 ≤ ti
                          · have HX : Sec (V = 3) := sec (by rw [HV7.out, if_pos (by omega)])
                            clear HV7
                            go_wp2_with (first | (go_at_call 159; (with_reducible refine Calls.mono (HL1.out _) ?_); rintro e w1 ⟨rfl, g1⟩; obtain ⟨d0, d1, d2, d3, d4, d5, d6, d7, d8⟩ := HCELL.out w1 (gw.trans g1)) | (go_at_call 159; (with_reducible refine Calls.mono (HL2.out _) ?_); rintro e w2 ⟨rfl, g2⟩; obtain ⟨e0, e1, e2, e3, e4, e5, e6, e7, e8⟩ := HCELL.out w2 (gw.trans (g1.trans g2))))
                            go_ret
                            exact ⟨by rw [HX.out]; rfl, hg0.trans (gw.trans (g1.trans g2))⟩
                          have HX : Sec (V = 0) := sec (by rw [HV7.out, if_neg (by omega)])
                          clear HV7
                          go_wp2_with (first | (go_at_call 159; (with_reducible refine Calls.mono (HL1.out _) ?_); rintro e w1 ⟨rfl, g1⟩; obtain ⟨d0, d1, d2, d3, d4, d5, d6, d7, d8⟩ := HCELL.out w1 (gw.trans g1)) | (go_at_call 159; (with_reducible refine Calls.mono (HL2.out _) ?_); rintro e w2 ⟨rfl, g2⟩; obtain ⟨e0, e1, e2, e3, e4, e5, e6, e7, e8⟩ := HCELL.out w2 (gw.trans (g1.trans g2))))
                          go_ret
                          exact ⟨by rw [HX.out]; rfl, hg0.trans (gw.trans (g1.trans g2))⟩
                        · have q3 : ((ta.length : Int) != 32) = true := by rw [bne_iff_ne]; omega
                          have HX : Sec (V = 2) := sec (by rw [HV6.out]; unfold obL; rw [← HOK.out, HOK1.out]; simp [h32])
                          clear HOK HOK1 HV6
                          go_wp2_with fail
                          go_ret
                          exact ⟨by rw [HX.out]; rfl, hg0.trans gw⟩
                      have z4 : (kd == 4) = false := by rw [beq_eq_false_iff_ne]; exact k4
                      cases b1
                      · skip
                        have HX : Sec (V = 2) := sec (by rw [HV6.out]; unfold obL; rw [← HOK.out, HOK1.out]; simp [k3, k4])
                        clear HOK HOK1 HV6
                        go_wp2_with (go_at_call 159; (with_reducible refine Calls.mono (HL1.out _) ?_); rintro e w1 ⟨rfl, g1⟩; obtain ⟨d0, d1, d2, d3, d4, d5, d6, d7, d8⟩ := HCELL.out w1 (gw.trans g1))
                        go_ret
                        exact ⟨by rw [HX.out]; rfl, hg0.trans (gw.trans g1)⟩
                      cases b2
                      · skip
                        have HX : Sec (V = 2) := sec (by rw [HV6.out]; unfold obL; rw [← HOK.out, HOK1.out]; simp [k3, k4])
                        clear HOK HOK1 HV6
                        go_wp2_with (first | (go_at_call 159; (with_reducible refine Calls.mono (HL1.out _) ?_); rintro e w1 ⟨rfl, g1⟩; obtain ⟨d0, d1, d2, d3, d4, d5, d6, d7, d8⟩ := HCELL.out w1 (gw.trans g1)) | (go_at_call 159; (with_reducible refine Calls.mono (HL2.out _) ?_); rintro e w2 ⟨rfl, g2⟩; obtain ⟨e0, e1, e2, e3, e4, e5, e6, e7, e8⟩ := HCELL.out w2 (gw.trans (g1.trans g2))))
                        go_ret
                        exact ⟨by rw [HX.out]; rfl, hg0.trans (gw.trans (g1.trans g2))⟩
                      have HV7 : Sec (V = if ti < 0 ∨ 1099511627776 ≤ ti then 3 else 0) := sec (by rw [HV6.out]; unfold obL; rw [← HOK.out, HOK1.out]; simp [k3, k4])
                      clear HOK HOK1 HV6
                      by_cases t1 : ti < 0
                      · have HX : Sec (V = 3) := sec (by rw [HV7.out, if_pos (by omega)])
                        clear HV7
                        go_wp2_with (first | (go_at_call 159; (with_reducible refine Calls.mono (HL1.out _) ?_); rintro e w1 ⟨rfl, g1⟩; obtain ⟨d0, d1, d2, d3, d4, d5, d6, d7, d8⟩ := HCELL.out w1 (gw.trans g1)) | (go_at_call 159; (with_reducible refine Calls.mono (HL2.out _) ?_); rintro e w2 ⟨rfl, g2⟩; obtain ⟨e0, e1, e2, e3, e4, e5, e6, e7, e8⟩ := HCELL.out w2 (gw.trans (g1.trans g2))))
                        go_ret
                        exact ⟨by rw [HX.out]; rfl, hg0.trans (gw.trans (g1.trans g2))⟩
                      by_cases t2 : 1099511627776 ≤ ti
                      · have HX : Sec (V = 3) := sec (by rw [HV7.out, if_pos (by omega)])
                        clear HV7
                        go_wp2_with (first | (go_at_call 159; (with_reducible refine Calls.mono (HL1.out _) ?_); rintro e w1 ⟨rfl, g1⟩; obtain ⟨d0, d1, d2, d3, d4, d5, d6, d7, d8⟩ := HCELL.out w1 (gw.trans g1)) | (go_at_call 159; (with_reducible refine Calls.mono (HL2.out _) ?_); rintro e w2 ⟨rfl, g2⟩; obtain ⟨e0, e1, e2, e3, e4, e5, e6, e7, e8⟩ := HCELL.out w2 (gw.trans (g1.trans g2))))
                        go_ret
                        exact ⟨by rw [HX.out]; rfl, hg0.trans (gw.trans (g1.trans g2))⟩
                      have HX : Sec (V = 0) := sec (by rw [HV7.out, if_neg (by omega)])
                      clear HV7
                      go_wp2_with (first | (go_at_call 159; (with_reducible refine Calls.mono (HL1.out _) ?_); rintro e w1 ⟨rfl, g1⟩; obtain ⟨d0, d1, d2, d3, d4, d5, d6, d7, d8⟩ := HCELL.out w1 (gw.trans g1)) | (go_at_call 159; (with_reducible refine Calls.mono (HL2.out _) ?_); rintro e w2 ⟨rfl, g2⟩; obtain ⟨e0, e1, e2, e3, e4, e5, e6, e7, e8⟩ := HCELL.out w2 (gw.trans (g1.trans g2))))
                      go_ret
                      exact ⟨by rw [HX.out]; rfl, hg0.trans (gw.trans (g1.trans g2))⟩
            · intro l
              refine ⟨?_, ?_⟩
              · intro w1 cnt1 hll hlk hfl hr1 hlt hg1 hs1 hen
                have G2 : Gr wa w1 := Gr.only gy hg1 HRW.out
                have HI2 : Sec (∀ l', l'.length ≤ maxLen → (left l' && !(decide (l' = l))) = false → f l' ≠ some true) := sec (fun l' hl' h => by
                  by_cases he : l' = l
                  · subst he; rw [hfl]; simp
                  · rw [decide_eq_false he] at h
                    exact HI.out l' hl' (by simpa using h))
                have HR2 := sec hr1
                have HLT := sec hlt
                have HOLD : Sec (World.rangeLeft _ g r = cnt) := sec HR.out.left_eq
                clear hr1 hlk hlt HI hfl hll hs1
                go_wp2_with fail
                go_roundw
                case rel => exact ⟨_, cnt1, sec ⟨HR2.out, HI2.out⟩, G2⟩
                case measure => rw [HR2.out.left_eq, HOLD.out]; exact HLT.out
              · intro w1 cnt1 hll hlk hfl hr1 hlt hg1 hs1 hen
                have G2 : Gr wa w1 := Gr.only gy hg1 HRW.out
                have HX : Sec (V = 2) := sec (by
                  have h1 := HE2.out.1 ⟨l, hll, hfl⟩
                  rw [HV1.out, h1]; rfl)
                clear hr1 hlk hlt HI
                go_wp2_with fail
                go_ret
                exact ⟨by rw [HX.out]; rfl, hg0.trans G2⟩
end Go.Proofs.YtoamnifnfkgbiaaGreatDoor

/-
  cartularyref.Decode by its contract.
-/
import Derived.Test.YtoamnifnfkgbiaaGreatDoorRObG
import Derived.Test.YtoamnifnfkgbiaaGreatDoorObD
import Derived.Test.YtoamnifnfkgbiaaGreatDoorCurs
namespace Go.Proofs.YtoamnifnfkgbiaaGreatDoor
set_option maxRecDepth 100000
open Go.RowKit
set_option linter.unusedVariables false
/-- so far all entries are right, or a number above 1 has come, and that ends it -/
def DeOr (k n0 : Nat) (q0 : St) (i n : Nat) (q : St) (F : List Ent) : Prop := DeAt k n0 q0 i n q F ∨ (deL n0 q0 = none ∧ ¬ q.2 = 0 ∧ F.length = i ∧ i ≤ k + 2)
theorem DeOr.le {k n0 : Nat} {q0 : St} {i n : Nat} {q : St} {F : List Ent} (h : DeOr k n0 q0 i n q F) : i ≤ k + 2 := by
  rcases h with h | h
  · have := h.le; omega
  · exact h.2.2.2
set_option maxHeartbeats 64000000 in
theorem robDec_any (b : List UInt8) (w : World) (hb : b.length ≤ 1099511627775) :
    Calls Tryz.prog 59 #[.string (bs b)] w (DecPost w (obD b)) := by
  obtain ⟨wa, hwa⟩ : ∃ y, y = (w.alloc (.cells (obA obZ none 0 none 0) 91)).alloc (.cells (obA obZ none 0 none 0) 91) := ⟨_, rfl⟩
  have hz : Blk wa w.heap.size 91 (obA obZ none 0 none 0) := by rw [hwa]; exact (Blk.new w _ _).alloc _
  have hz2 : Blk wa (w.heap.size + 1) 91 (obA obZ none 0 none 0) := by rw [hwa]; exact Blk.new1 w _ _ _
  have hg0 : Gr w wa := by rw [hwa]; exact ((Gr.refl w).alloc _).alloc _
  obtain ⟨p, hp⟩ : ∃ p, p = w.heap.size := ⟨_, rfl⟩
  rw [← hp] at hz hz2
  have hwp : w.heap.size ≤ p := by omega
  obtain ⟨g, hg⟩ : ∃ g, g = wa.heap.size := ⟨_, rfl⟩
  have hpg : p < g := by rw [hg]; exact hz.lt
  have hga : wa.heap.size ≤ g := by omega
  have HT : Sec (∀ q W, RdAt 80 W g q → Calls Tryz.prog 46 #[.pointer (some ⟨g, 0, none⟩)] W fun e w' => e = .returned (.string (bs (nxtT q))) ∧ RdAt 80 w' g (aftT q) ∧ W.grownBy w' (some g)) := sec (fun q W h => ruText g q W h)
  have HN : Sec (∀ q W, RdAt 80 W g q → Calls Tryz.prog 43 #[.pointer (some ⟨g, 0, none⟩)] W fun e w' => e = .returned (.int .i64 (nxtN q : Int)) ∧ RdAt 80 w' g (aftN q) ∧ W.grownBy w' (some g)) := sec (fun q W h => ruNumber g q W h)
  have HB : Sec (∀ q W, RdAt 80 W g q → Calls Tryz.prog 44 #[.pointer (some ⟨g, 0, none⟩), .int .i64 32] W fun e w' => e = .returned (.string (bs (nxtB 32 q))) ∧ RdAt 80 w' g (aftB 32 q) ∧ W.grownBy w' (some g)) := sec (fun q W h => ruTake g q 32 W h (by omega))
  have HGo : Sec (∀ o A c B d W, ObR W o A c B d → ObSz 1099511627776 o → Calls Tryz.prog 102 #[.agg (obA o A c B d)] W fun e w' => e = .returned (.int .i64 (obE o)) ∧ Gr W w') := sec (fun o A c B d W h h' => robGood_any o A c B d W h h')
  have HDC : Sec (∀ q W, RdAt 80 W g q → W.cell? ⟨g, 0, none⟩ = some (.string (bs q.1)) ∧ W.cell? ⟨g, 1, none⟩ = some (.int .i64 (q.2 : Int))) := sec (fun q W h => ⟨h.blk.cell 0, h.blk.cell 1⟩)
  have HZ := sec hz
  have HZ2 := sec hz2
  have HD0 : Sec (RdAt 80 (wa.alloc (.cells #[.string (bs b), .int .i64 0] 80)) g (b, 0)) := sec ⟨by rw [hg]; exact Blk.new _ _ _, by simp only; omega, by simp⟩
  have G0 : Gr wa (wa.alloc (.cells #[.string (bs b), .int .i64 0] 80)) := (Gr.refl _).alloc _
  obtain ⟨V, hV⟩ : ∃ V, V = obD b := ⟨_, rfl⟩
  have HV := sec hV
  rw [← hV]
  clear hV hz hz2
  unfold obA obZ at hwa
  simp only [List.length_nil] at hwa
  by_cases h8 : 8192 < b.length
  · have q8 : (8192 : Int) < (b.length : Int) := by omega
    have HX : Sec (V = (obZ, 1)) := sec (by rw [HV.out]; unfold obD; rw [if_pos h8])
    clear h8 HD0 G0
    go_enter Tryz.func59, Tryz.ntmps59
    go_upto_region 2 with fail
    rw [← hwa, ← hp]
    clear hwa hg hp
    go_upto_region 3 with fail
    go_wp2_with (first
      | (refine wpList_load_blk rfl 91 (.tmp 4) rfl (g := p + 1) rfl HZ2.out aggOb ?_)
      | (refine wpList_store_blk rfl 91 (.tmp 2) (.tmp 18) rfl (g := p) (cs' := obA obZ none 0 none 0) rfl rfl HZ.out aggOb rfl (obA_one _ _ _ _ _) ?_; intro w9 h9 hg9))
    refine bodyPost_ret (results_blk_tmp rfl _ rfl h9 aggOb) rfl ?_
    rw [HX.out]
    exact ⟨none, 0, none, 0, rfl, ObR.z _, Gr.only hg0 hg9 hwp⟩
  have q8 : ¬ (8192 : Int) < (b.length : Int) := by omega
  obtain ⟨q1, hq1⟩ : ∃ q, q = aftN (b, 0) := ⟨_, rfl⟩
  have HQ1 : Sec (q1.1.length ≤ 8192) := sec (by rw [hq1]; have := aftN_leO (b, 0); simp only at this; omega)
  obtain ⟨K, hK⟩ : ∃ K, K = nxtN (b, 0) := ⟨_, rfl⟩
  obtain ⟨kd, hkd⟩ : ∃ kd : Int, kd = (K : Int) := ⟨_, rfl⟩
  have HN1 : Sec (∀ W, RdAt 80 W g (b, 0) → Calls Tryz.prog 43 #[.pointer (some ⟨g, 0, none⟩)] W fun e w' => e = .returned (.int .i64 kd) ∧ RdAt 80 w' g q1 ∧ W.grownBy w' (some g)) := sec (fun W h => by rw [hkd, hK, hq1]; exact ruNumber g (b, 0) W h)
  have HV1 : Sec (V = obR K q1) := sec (by rw [HV.out]; unfold obD; rw [if_neg h8, hK, hq1])
  have HKD := sec hkd
  clear h8 HV hK hq1 hkd
  go_enter Tryz.func59, Tryz.ntmps59
  go_upto_region 2 with fail
  rw [← hwa, ← hp]
  clear hwa hp
  go_upto_region 5 with fail
  rw [← hg]
  obtain ⟨w1, hw1⟩ : ∃ y, y = wa.alloc (.cells #[.string (bs b), .int .i64 0] 80) := ⟨_, rfl⟩
  rw [← hw1] at HD0 G0 ⊢
  clear hw1 hg
  go_upto_region 7 with (go_at_call 43; (with_reducible refine Calls.mono (HN1.out _ HD0.out) ?_); rintro e w2 ⟨rfl, d2, g2⟩; have G2 : Gr wa w2 := Gr.only G0 g2 hga)
  obtain ⟨k, hk⟩ : ∃ k, k = w2.heap.size := ⟨_, rfl⟩
  have hkg : k ≠ g := by have := d2.blk.lt; omega
  have hgk : g ≠ k := fun e => hkg e.symm
  have hak : wa.heap.size ≤ k := by rw [hk]; exact G2.size
  have M3 : Sec (Om wa k (k + 1) (OcA kd [] none 0 0 [] none 0 0 [] [] 0 []) (.slice none 0 0) (.slice none 0 0) 0 0 [] [] (w2.alloc (.cells #[.int .i64 kd, .string (bs []), .slice none 0 0, .string (bs []), .slice none 0 0, .string (bs []), .string (bs []), .int .i64 0, .string (bs [])] 91))) := sec (Om.new (BlkAtO hk) (G2.alloc _) (by omega) hak)
  have D3 := sec (d2.gr ((Gr.refl w2).alloc (.cells #[.int .i64 kd, .string (bs []), .slice none 0 0, .string (bs []), .slice none 0 0, .string (bs []), .string (bs []), .int .i64 0, .string (bs [])] 91)))
  rw [← hk]
  obtain ⟨w3, hw3⟩ : ∃ y, y = w2.alloc (.cells #[.int .i64 kd, .string (bs []), .slice none 0 0, .string (bs []), .slice none 0 0, .string (bs []), .string (bs []), .int .i64 0, .string (bs [])] 91) := ⟨_, rfl⟩
  rw [← hw3] at M3 D3 ⊢
  clear hk hw3 d2 g2 G2 HN1 HD0 G0
  have z3 : w3.cell? ⟨k, 0, none⟩ = some (.int .i64 kd) := M3.out.blk.cell 0
  obtain ⟨y0, y1⟩ := HDC.out _ _ D3.out
  by_cases hq : q1.2 = 0
  case neg =>
    have qq : ((q1.2 : Int) != 0) = true := by rw [bne_iff_ne]; omega
    have qe : ¬ (q1.2 : Int) = 0 := by omega
    have HX : Sec (V = (obZ, 2)) := sec (by rw [HV1.out, obR_bad hq])
    clear hq HV1
    go_upto_region 8 with fail
    go_wp2_with (first
      | (refine wpList_load_blk rfl 91 (.tmp 4) rfl (g := p + 1) rfl (HZ2.out.gr M3.out.gr) aggOb ?_)
      | (refine wpList_store_blk rfl 91 (.tmp 2) (.tmp 40) rfl (g := p) (cs' := obA obZ none 0 none 0) rfl rfl (HZ.out.gr M3.out.gr) aggOb rfl (obA_one _ _ _ _ _) ?_; intro w9 h9 hg9))
    refine bodyPost_ret (results_blk_tmp rfl _ rfl h9 aggOb) rfl ?_
    rw [HX.out]
    exact ⟨none, 0, none, 0, rfl, ObR.z _, Gr.only (hg0.trans M3.out.gr) hg9 hwp⟩
  have qq : ((q1.2 : Int) != 0) = false := by rw [bne_eq_false_iff_eq]; omega
  have qe : (q1.2 : Int) = 0 := by omega
  by_cases hko : kd < 1 ∨ 4 < kd
  · have HX : Sec (V = (obZ, 4)) := sec (by have := HKD.out; rw [HV1.out]; unfold obR; rw [if_neg (by omega), if_neg (by omega), if_neg (by omega), if_neg (by omega), if_pos hq])
    clear hq HV1
    rcases hko with hko | hko
    all_goals
      go_upto_region 10 with fail
      go_wp2_with (first
        | (refine wpList_load_blk rfl 91 (.tmp 4) rfl (g := p + 1) rfl (HZ2.out.gr M3.out.gr) aggOb ?_)
        | (refine wpList_store_blk rfl 91 (.tmp 2) (.tmp 50) rfl (g := p) (cs' := obA obZ none 0 none 0) rfl rfl (HZ.out.gr M3.out.gr) aggOb rfl (obA_one _ _ _ _ _) ?_; intro w9 h9 hg9))
      refine bodyPost_ret (results_blk_tmp rfl _ rfl h9 aggOb) rfl ?_
      rw [HX.out]
      exact ⟨none, 0, none, 0, rfl, ObR.z _, Gr.only (hg0.trans M3.out.gr) hg9 hwp⟩
  have hk14 : 1 ≤ kd ∧ kd ≤ 4 := by omega
  clear hko hq

  by_cases k1 : kd = 1
  · subst k1
    have HK1 : K = 1 := by have := HKD.out; omega
    obtain ⟨T, h_T⟩ : ∃ x, x = nxtT (q1) := ⟨_, rfl⟩
    obtain ⟨qf, h_qf⟩ : ∃ x, x = aftT (q1) := ⟨_, rfl⟩
    have HT1 : Sec (∀ W, RdAt 80 W g q1 → Calls Tryz.prog 46 #[.pointer (some ⟨g, 0, none⟩)] W fun e w' => e = .returned (.string (bs T)) ∧ RdAt 80 w' g qf ∧ W.grownBy w' (some g)) := sec (fun W h => by rw [h_T, h_qf]; exact HT.out q1 W h)
    have HVF : Sec (V = obFin ⟨1, T, [], [], [], [], [], 0, []⟩ qf) := sec (by rw [HV1.out, h_T, h_qf]; unfold obR; rw [if_pos HK1]; rfl)
    have HSZ : Sec (ObSz 1099511627776 ⟨1, T, [], [], [], [], [], 0, []⟩) := sec (by
      have h1 := nxtT_leO q1
      have h2 := HQ1.out
      rw [← h_T] at h1
      exact ⟨by simp only; omega, by simp, by simp, by simp, by simp, by simp, by simp, by simp, by simp⟩)
    clear HK1 HV1 HKD h_T h_qf hk14
    go_upto_region 32 with (go_at_call 46; (with_reducible refine Calls.mono (HT1.out _ D3.out) ?_); rintro e u4 ⟨rfl, d4, g4⟩; have N4 := M3.out.only D3.out.blk (by decide) (by decide) hkg hga g4; have f4 := N4.blk.frozen 1; have o4 : u4.cell? ⟨k, 1, none⟩ = some (.string (bs [])) := N4.blk.cell 1; have D4 := sec (RdAt.farO d4 (a := ⟨k, 1, none⟩) hgk (.string (bs T))); have M4 : Sec (Om wa k (k + 1) (OcA 1 T none 0 0 [] none 0 0 [] [] 0 []) (.slice none 0 0) (.slice none 0 0) 0 0 [] [] (u4.setCell ⟨k, 1, none⟩ (.string (bs T)))) := sec (N4.st 1 _); have z4 : (u4.setCell ⟨k, 1, none⟩ (.string (bs T))).cell? ⟨k, 0, none⟩ = some (.int .i64 1) := M4.out.blk.cell 0)
    obtain ⟨wf, hwf⟩ : ∃ x, x = (u4.setCell ⟨k, 1, none⟩ (.string (bs T))) := ⟨_, rfl⟩
    rw [← hwf] at D4 M4 z4 ⊢
    clear hwf
    obtain ⟨yy0, yy1⟩ := HDC.out _ _ D4.out
    by_cases hq : (qf).2 = 0
    · have qq : (((qf).2 : Int) != 0) = false := by rw [bne_eq_false_iff_eq]; omega
      have qe : ((qf).2 : Int) = 0 := by omega
      by_cases hl : (qf).1.length = 0
      · have hlz : (qf).1.isEmpty = true := by rw [List.isEmpty_iff]; exact List.eq_nil_of_length_eq_zero hl
        have hlz2 : ((qf).1 == []) = true := by rw [List.eq_nil_of_length_eq_zero hl]; rfl
        have HV5 : Sec (V = if obE ((⟨1, T, [], [], [], [], [], 0, []⟩ : Ob)) = 0 then ((⟨1, T, [], [], [], [], [], 0, []⟩ : Ob), 0) else (obZ, obE ((⟨1, T, [], [], [], [], [], 0, []⟩ : Ob)))) := sec (by rw [HVF.out]; exact if_pos ⟨hq, hl⟩)
        obtain ⟨E, hE⟩ : ∃ E, E = obE ((⟨1, T, [], [], [], [], [], 0, []⟩ : Ob)) := ⟨_, rfl⟩
        have HGo2 : Sec (∀ A c B d W, ObR W ((⟨1, T, [], [], [], [], [], 0, []⟩ : Ob)) A c B d → Calls Tryz.prog 102 #[.agg (obA ((⟨1, T, [], [], [], [], [], 0, []⟩ : Ob)) A c B d)] W fun e w' => e = .returned (.int .i64 E) ∧ Gr W w') := sec (fun A c B d W h => by rw [hE]; exact HGo.out _ A c B d W h HSZ.out)
        rw [← hE] at HV5
        clear hE hq hl HVF
        by_cases hE0 : E = 0
        · subst hE0
          have HX : Sec (V = ((⟨1, T, [], [], [], [], [], 0, []⟩ : Ob), 0)) := sec (by rw [HV5.out, if_pos rfl])
          go_upto_region 34 with fail
          go_upto_region 37 with (first
            | (go_at_call 102; (with_reducible refine Calls.mono (HGo2.out _ _ _ _ _ (obr_own M4.out.own1 M4.out.own2).1) ?_); rintro e w8 ⟨rfl, g8⟩; have M8 := sec (M4.out.gr' g8); have G8 : Gr wa w8 := M8.out.gr)
            | (refine wpList_load_blk rfl 91 (.tmp 6) rfl (g := k) rfl (cs := obA ((⟨1, T, [], [], [], [], [], 0, []⟩ : Ob)) none 0 none 0) ((obr_own M4.out.own1 M4.out.own2).2 ▸ M4.out.blk) aggOb ?_))
          go_wp2_with (first
            | (refine wpList_load_blk rfl 91 (.tmp 6) rfl (g := k) rfl (cs := obA ((⟨1, T, [], [], [], [], [], 0, []⟩ : Ob)) none 0 none 0) ((obr_own M8.out.own1 M8.out.own2).2 ▸ M8.out.blk) aggOb ?_)
            | (refine wpList_store_blk rfl 91 (.tmp 2) (.tmp 154) rfl (g := p) (cs' := obA ((⟨1, T, [], [], [], [], [], 0, []⟩ : Ob)) none 0 none 0) rfl rfl (HZ.out.gr G8) aggOb rfl (obA_one _ _ _ _ _) ?_; intro w9 h9 hg9))
          refine bodyPost_ret (results_blk_tmp rfl _ rfl h9 aggOb) rfl ?_
          rw [HX.out]
          have s1 := obr_own (kd := 1) (dt := ((⟨1, T, [], [], [], [], [], 0, []⟩ : Ob)).data) (tr := ((⟨1, T, [], [], [], [], [], 0, []⟩ : Ob)).tree) (wh := ((⟨1, T, [], [], [], [], [], 0, []⟩ : Ob)).who) (no := ((⟨1, T, [], [], [], [], [], 0, []⟩ : Ob)).note) (ti := ((⟨1, T, [], [], [], [], [], 0, []⟩ : Ob)).time) (ta := ((⟨1, T, [], [], [], [], [], 0, []⟩ : Ob)).target) (own_only M8.out.own1 (HZ.out.gr G8) (by decide) hg9) (own_only M8.out.own2 (HZ.out.gr G8) (by decide) hg9)
          exact ⟨none, 0, none, 0, rfl, s1.1, Gr.only (hg0.trans G8) hg9 hwp⟩
        · have HX : Sec (V = (obZ, E)) := sec (by rw [HV5.out, if_neg hE0])
          have m0 : (E != 0) = true := by simpa using hE0
          clear hE0
          go_upto_region 34 with fail
          go_upto_region 36 with (first
            | (go_at_call 102; (with_reducible refine Calls.mono (HGo2.out _ _ _ _ _ (obr_own M4.out.own1 M4.out.own2).1) ?_); rintro e w8 ⟨rfl, g8⟩; have M8 := sec (M4.out.gr' g8); have G8 : Gr wa w8 := M8.out.gr)
            | (refine wpList_load_blk rfl 91 (.tmp 6) rfl (g := k) rfl (cs := obA ((⟨1, T, [], [], [], [], [], 0, []⟩ : Ob)) none 0 none 0) ((obr_own M4.out.own1 M4.out.own2).2 ▸ M4.out.blk) aggOb ?_))
          go_wp2_with (first
            | (refine wpList_load_blk rfl 91 (.tmp 4) rfl (g := p + 1) rfl (HZ2.out.gr G8) aggOb ?_)
            | (refine wpList_store_blk rfl 91 (.tmp 2) (.tmp 152) rfl (g := p) (cs' := obA obZ none 0 none 0) rfl rfl (HZ.out.gr G8) aggOb rfl (obA_one _ _ _ _ _) ?_; intro w9 h9 hg9))
          refine bodyPost_ret (results_blk_tmp rfl _ rfl h9 aggOb) rfl ?_
          rw [HX.out]
          exact ⟨none, 0, none, 0, rfl, ObR.z _, Gr.only (hg0.trans G8) hg9 hwp⟩
      · have hlz : (qf).1.isEmpty = false := by rw [Bool.eq_false_iff]; intro h; exact hl (by rw [List.isEmpty_iff.1 h]; rfl)
        have hlz2 : ((qf).1 == []) = false := by rw [beq_eq_false_iff_ne]; intro h; exact hl (by rw [h]; rfl)
        have HX : Sec (V = (obZ, 2)) := sec (by rw [HVF.out]; exact if_neg (fun h => hl h.2))
        clear hq hl HVF
        go_upto_region 33 with fail
        go_wp2_with (first
          | (refine wpList_load_blk rfl 91 (.tmp 4) rfl (g := p + 1) rfl (HZ2.out.gr M4.out.gr) aggOb ?_)
          | (refine wpList_store_blk rfl 91 (.tmp 2) (.tmp 147) rfl (g := p) (cs' := obA obZ none 0 none 0) rfl rfl (HZ.out.gr M4.out.gr) aggOb rfl (obA_one _ _ _ _ _) ?_; intro w9 h9 hg9))
        refine bodyPost_ret (results_blk_tmp rfl _ rfl h9 aggOb) rfl ?_
        rw [HX.out]
        exact ⟨none, 0, none, 0, rfl, ObR.z _, Gr.only (hg0.trans M4.out.gr) hg9 hwp⟩
    · have qq : (((qf).2 : Int) != 0) = true := by rw [bne_iff_ne]; omega
      have qe : ¬ ((qf).2 : Int) = 0 := by omega
      have HX : Sec (V = (obZ, 2)) := sec (by rw [HVF.out]; exact if_neg (fun h => hq h.1))
      go_upto_region 33 with fail
      go_wp2_with (first
        | (refine wpList_load_blk rfl 91 (.tmp 4) rfl (g := p + 1) rfl (HZ2.out.gr M4.out.gr) aggOb ?_)
        | (refine wpList_store_blk rfl 91 (.tmp 2) (.tmp 147) rfl (g := p) (cs' := obA obZ none 0 none 0) rfl rfl (HZ.out.gr M4.out.gr) aggOb rfl (obA_one _ _ _ _ _) ?_; intro w9 h9 hg9))
      refine bodyPost_ret (results_blk_tmp rfl _ rfl h9 aggOb) rfl ?_
      rw [HX.out]
      exact ⟨none, 0, none, 0, rfl, ObR.z _, Gr.only (hg0.trans M4.out.gr) hg9 hwp⟩
  have z1 : (kd == 1) = false := by rw [beq_eq_false_iff_ne]; exact k1
  by_cases k2 : kd = 2
  · subst k2
    have HK2 : K = 2 := by have := HKD.out; omega
    obtain ⟨n0, hn0⟩ : ∃ n, n = nxtN q1 := ⟨_, rfl⟩
    obtain ⟨q2, hq2⟩ : ∃ q, q = aftN q1 := ⟨_, rfl⟩
    have HV2 : Sec (V = match deL n0 q2 with | none => (obZ, 2) | some r => obFin (ob2 r.1) r.2) := sec (by rw [HV1.out, hn0, hq2]; unfold obR; rw [if_neg (by omega), if_pos HK2]; rfl)
    have HN2 : Sec (∀ W, RdAt 80 W g q1 → Calls Tryz.prog 43 #[.pointer (some ⟨g, 0, none⟩)] W fun e w' => e = .returned (.int .i64 (n0 : Int)) ∧ RdAt 80 w' g q2 ∧ W.grownBy w' (some g)) := sec (fun W h => by rw [hn0, hq2]; exact ruNumber g q1 W h)
    have HST : Sec (DeAt 8192 n0 q2 0 n0 q2 []) := sec (DeAt.start (by rw [hq2]; have := aftN_leO q1; have := HQ1.out; omega))
    have hn0l : n0 < 4611686018427387904 := by rw [hn0]; exact nxtN_ltO q1
    clear HK2 HV1 HKD hn0 hq2 hk14
    go_upto_region 16 with (go_at_call 43; (with_reducible refine Calls.mono (HN2.out _ D3.out) ?_); rintro e u4 ⟨rfl, d4, g4⟩; have M4 := sec (M3.out.only D3.out.blk (by decide) (by decide) hkg hga g4); have D4 := sec d4; clear d4 g4)
    clear M3 D3 z3 HN2 y0 y1 qq qe
    go_loopg [8, 9, 10] n0 (fun fuel iv _ _ wr => ∃ i : Nat, iv = .int .i64 (i : Int) ∧ n0 ≤ i + fuel ∧ i ≤ n0 ∧ Sec (∃ q F A1 c1, DeOr 8192 n0 q2 i (n0 - i) q F ∧ RdAt 80 wr g q ∧ Om wa k (k + 1) (OcA 2 [] A1 c1 i [] none 0 0 [] [] 0 []) (.slice A1 i c1) (.slice none 0 0) i 0 F [] wr))
    case atStart => exact ⟨0, rfl, by omega, by omega, sec ⟨q2, [], none, 0, Or.inl HST.out, D4.out, M4.out⟩⟩
    case round =>
      clear D4 M4
      obtain ⟨i, rfl, hfu, hnn, HF⟩ := hrel
      obtain ⟨q, F, A1, c1, hDe, hD, hM⟩ := HF.out
      have HDe := sec hDe
      have HD := sec hD
      have HM := sec hM
      have HBB := sec (show i ≤ 8194 from hDe.le)
      clear HF hDe hD hM
      obtain ⟨y0, y1⟩ := HDC.out _ _ HD.out
      by_cases hn : i < n0
      · have hni : (i : Int) < (n0 : Int) := by omega
        by_cases hq : q.2 = 0
        · have hqi : ((q.2 : Int) == 0) = true := by rw [beq_iff_eq]; omega
          have HD2 : Sec (DeAt 8192 n0 q2 i (n0 - i) q F) := sec (by rcases HDe.out with h | h; exact h; exact absurd hq h.2.1)
          obtain ⟨x, hx⟩ : ∃ x, x = nxtN (aftT q) := ⟨_, rfl⟩
          obtain ⟨nm, hnm⟩ : ∃ s, s = nxtT q := ⟨_, rfl⟩
          obtain ⟨qa, hqa⟩ : ∃ s, s = aftN (aftT q) := ⟨_, rfl⟩
          have HT1 : Sec (∀ W, RdAt 80 W g q → Calls Tryz.prog 46 #[.pointer (some ⟨g, 0, none⟩)] W fun e w' => e = .returned (.string (bs nm)) ∧ RdAt 80 w' g (aftT q) ∧ W.grownBy w' (some g)) := sec (by rw [hnm]; exact HT.out q)
          have HN1 : Sec (∀ W, RdAt 80 W g (aftT q) → Calls Tryz.prog 43 #[.pointer (some ⟨g, 0, none⟩)] W fun e w' => e = .returned (.int .i64 (x : Int)) ∧ RdAt 80 w' g qa ∧ W.grownBy w' (some g)) := sec (by rw [hx, hqa]; exact HN.out (aftT q))
          have HNX : Sec (¬ 1 < x → DeAt 8192 n0 q2 (i + 1) (n0 - (i + 1)) (aftB 32 qa) (F ++ [⟨nm, decide (x = 1), nxtB 32 qa⟩])) := sec (fun h => by have h' := HD2.out; rw [show n0 - i = (n0 - (i + 1)) + 1 by omega] at h'; rw [hnm, hqa, hx]; exact h'.next hq (by rw [← hx]; exact h))
          have HHI : Sec (1 < x → deL n0 q2 = none) := sec (fun h => by have h' := HD2.out; rw [show n0 - i = (n0 - (i + 1)) + 1 by omega] at h'; exact h'.high hq (by rw [← hx]; exact h))
          have HFL : Sec (F.length = i ∧ i ≤ 8193) := sec ⟨HD2.out.fl, HD2.out.le⟩
          clear hx hnm hqa hq HDe HD2
          have hb48 : (i + 1) * 40 ≤ 140737488355328 := by have := HBB.out; omega
          have hbm : i + 1 ≤ maxLen := by have := HBB.out; unfold maxLen; omega
          go_upto_region 19 with (go_at_call 46; (with_reducible refine Calls.mono (HT1.out _ HD.out) ?_); rintro e u5 ⟨rfl, d5, g5⟩; have M5 := sec (HM.out.only HD.out.blk (by decide) (by decide) hkg hga g5))
          clear y0 y1
          obtain ⟨xb, hxb⟩ : ∃ y, y = u5.heap.size := ⟨_, rfl⟩
          have HNOT := sec (M5.out.notX (x := xb) (by omega))
          have hxg : xb ≠ g := by have := d5.blk.lt; omega
          have hgx : g ≠ xb := fun e => hxg e.symm
          have B6 : Sec (Blk (u5.alloc (.cells #[.string (bs nm), .bool false, .string (bs [])] 128)) xb 128 #[.string (bs nm), .bool false, .string (bs [])]) := sec (BlkAtO hxb)
          have M6 := sec (M5.out.al (.cells #[.string (bs nm), .bool false, .string (bs [])] 128))
          have D6 := sec (d5.gr ((Gr.refl u5).alloc (.cells #[.string (bs nm), .bool false, .string (bs [])] 128)))
          obtain ⟨w6, hw6⟩ : ∃ y, y = u5.alloc (.cells #[.string (bs nm), .bool false, .string (bs [])] 128) := ⟨_, rfl⟩
          rw [← hxb]
          rw [← hw6] at B6 M6 D6 ⊢
          clear hw6 hxb d5 g5 M5 HM HD
          by_cases hx1 : 1 < x
          · have qx : (1 : Int) < (x : Int) := by omega
            have qx1 : ((x : Int) == 1) = false := by rw [beq_eq_false_iff_ne]; omega
            have HNO := sec (HHI.out hx1)
            clear hx1 HNX HHI
            go_upto_region 21 with (go_at_call 43; (with_reducible refine Calls.mono (HN1.out _ D6.out) ?_); rintro e u7 ⟨rfl, d7, g7⟩; have M7 := sec (M6.out.only D6.out.blk (by decide) (by decide) hkg hga g7); have B7 := sec (B6.out.only g7 hxg))
            have f7 := d7.blk.frozen 1
            have o7 : u7.cell? ⟨g, 1, none⟩ = some (.int .i64 (qa.2 : Int)) := d7.blk.cell 1
            have D8 : Sec (RdAt 80 (u7.setCell ⟨g, 1, none⟩ (.int .i64 2)) g (qa.1, 2)) := sec ⟨d7.blk.set_ 1 (.int .i64 2), d7.len, by simp⟩
            have hg8 : u7.grownBy (u7.setCell ⟨g, 1, none⟩ (.int .i64 2)) (some g) := only_set1 u7 g 1 _
            have M8 := sec (M7.out.only d7.blk (by decide) (by decide) hkg hga hg8)
            have B8 := sec (B7.out.only hg8 hxg)
            go_upto_region 22 with fail
            obtain ⟨w8, hw8⟩ : ∃ y, y = u7.setCell ⟨g, 1, none⟩ (.int .i64 2) := ⟨_, rfl⟩
            rw [← hw8] at D8 M8 B8 ⊢
            clear hw8 hg8 f7 o7 M7 B7 d7
            have HB1 : Sec (∀ W, RdAt 80 W g (qa.1, 2) → Calls Tryz.prog 44 #[.pointer (some ⟨g, 0, none⟩), .int .i64 32] W fun e w' => e = .returned (.string (bs [])) ∧ RdAt 80 w' g (qa.1, 2) ∧ W.grownBy w' (some g)) := sec (fun W h => by have := HB.out (qa.1, 2) W h; rwa [aftB_badO (by simp), show nxtB 32 (qa.1, 2) = [] from by unfold nxtB; rw [if_neg (by simp)]] at this)
            obtain ⟨id, hid⟩ : ∃ s : List UInt8, s = [] := ⟨_, rfl⟩
            rw [← hid] at HB1
            obtain ⟨qz, hqz⟩ : ∃ s : St, s = (qa.1, 2) := ⟨_, rfl⟩
            have HQZ : Sec (¬ qz.2 = 0) := sec (by rw [hqz]; simp)
            rw [← hqz] at HB1 D8
            clear hid hqz
            go_upto_region 23 with (go_at_call 44; (with_reducible refine Calls.mono (HB1.out _ D8.out) ?_); rintro e u8 ⟨rfl, d8, g8⟩; have M9 := sec (M8.out.only D8.out.blk (by decide) (by decide) hkg hga g8); have B9 := sec (B8.out.only g8 hxg); have f8 := B9.out.frozen 1; have o8 : u8.cell? ⟨xb, 1, none⟩ = some (.bool false) := B9.out.cell 1; have MX := sec (M9.out.farx HNOT.out.1 HNOT.out.2.1 HNOT.out.2.2.1 HNOT.out.2.2.2 1 (.bool false)); have DX := sec (RdAt.farO d8 (a := ⟨xb, 1, none⟩) hgx (.bool false)); have BX : Sec (Blk (u8.setCell ⟨xb, 1, none⟩ (.bool false)) xb 128 #[.string (bs nm), .bool false, .string (bs [])]) := sec (B9.out.set_ 1 (.bool false)); have f9 := BX.out.frozen 2; have p9 : (u8.setCell ⟨xb, 1, none⟩ (.bool false)).cell? ⟨xb, 2, none⟩ = some (.string (bs [])) := BX.out.cell 2; have MA := sec (MX.out.farx HNOT.out.1 HNOT.out.2.1 HNOT.out.2.2.1 HNOT.out.2.2.2 2 (.string (bs id))); have DA := sec (RdAt.farO DX.out (a := ⟨xb, 2, none⟩) hgx (.string (bs id))); have BA : Sec (Blk ((u8.setCell ⟨xb, 1, none⟩ (.bool false)).setCell ⟨xb, 2, none⟩ (.string (bs id))) xb 128 #[.string (bs nm), .bool false, .string (bs id)]) := sec (BX.out.set_ 2 (.string (bs id))); have x0 : ((u8.setCell ⟨xb, 1, none⟩ (.bool false)).setCell ⟨xb, 2, none⟩ (.string (bs id))).cell? ⟨xb, 0, none⟩ = some (.string (bs nm)) := BA.out.cell 0; have x1 : ((u8.setCell ⟨xb, 1, none⟩ (.bool false)).setCell ⟨xb, 2, none⟩ (.string (bs id))).cell? ⟨xb, 1, none⟩ = some (.bool false) := BA.out.cell 1; have x2 : ((u8.setCell ⟨xb, 1, none⟩ (.bool false)).setCell ⟨xb, 2, none⟩ (.string (bs id))).cell? ⟨xb, 2, none⟩ = some (.string (bs id)) := BA.out.cell 2; have y2 : ((u8.setCell ⟨xb, 1, none⟩ (.bool false)).setCell ⟨xb, 2, none⟩ (.string (bs id))).cell? ⟨k, 2, none⟩ = some (.slice A1 i c1) := MA.out.blk.cell 2)
            go_wp2_with (refine wpList_append_row E.ent rfl (.tmp 93) (.tmp 95) rfl (B := k + 1) (A0 := A1) (n0 := i) (cap0 := c1) (xs := F.flatMap entV) rfl (MA.out.al _).own1 rfl (rowk (BlkAtO (by simp)) rfl) (fun h => by cases h) (fun u hu => by simp at hu; rcases hu with rfl | rfl | rfl <;> rfl) hb48 hbm ((MA.out.al _).size (Nat.le_refl _)) ?_; intro Ab kb wA oA hA; have oB : wA.ownsRow (k + 1) 128 3 (.slice Ab (i + 1) kb) (i + 1) ((F ++ [(⟨nm, false, id⟩ : Ent)]).flatMap entV) := (by rw [← entV_add]; exact oA); have MB := sec ((MA.out.al (.cells #[.string (bs nm), .bool false, .string (bs id)] 128)).app1 oB hA); have DB := sec ((MA.out.al (.cells #[.string (bs nm), .bool false, .string (bs id)] 128)).rdApp1 (DA.out.gr ((Gr.refl _).alloc _)) (by decide) hA); have fB := MB.out.blk.frozen 2; have yB : wA.cell? ⟨k, 2, none⟩ = some (.slice A1 i c1) := MB.out.blk.cell 2; clear oA oB hA)
            go_roundg (gk - 1)
            case rel => exact ⟨i + 1, by go_num, by omega, by omega, sec ⟨qz, F ++ [(⟨nm, false, id⟩ : Ent)], Ab, kb, Or.inr ⟨HNO.out, HQZ.out, by have := HFL.out; simp; omega, by have := HFL.out; omega⟩, RdAt.farO DB.out (a := ⟨k, 2, none⟩) hgk _, MB.out.st 2 (.slice Ab (i + 1) kb)⟩⟩
            case measure => omega
          · have qx : ¬ (1 : Int) < (x : Int) := by omega
            obtain ⟨id, hid⟩ : ∃ s, s = nxtB 32 qa := ⟨_, rfl⟩
            obtain ⟨qz, hqz⟩ : ∃ s, s = aftB 32 qa := ⟨_, rfl⟩
            have HB1 : Sec (∀ W, RdAt 80 W g qa → Calls Tryz.prog 44 #[.pointer (some ⟨g, 0, none⟩), .int .i64 32] W fun e w' => e = .returned (.string (bs id)) ∧ RdAt 80 w' g qz ∧ W.grownBy w' (some g)) := sec (by rw [hid, hqz]; exact HB.out qa)
            rw [← hid, ← hqz] at HNX
            clear hid hqz
            go_upto_region 22 with (go_at_call 43; (with_reducible refine Calls.mono (HN1.out _ D6.out) ?_); rintro e u7 ⟨rfl, d7, g7⟩; have M7 := sec (M6.out.only D6.out.blk (by decide) (by decide) hkg hga g7); have B7 := sec (B6.out.only g7 hxg))
            have D8 := sec d7
            have M8 := M7
            have B8 := B7
            clear d7 M7 B7
            by_cases hxx : x = 1
            · subst hxx
              have HN3 := sec (HNX.out (by omega))
              clear HNX HHI hx1
              go_upto_region 23 with (go_at_call 44; (with_reducible refine Calls.mono (HB1.out _ D8.out) ?_); rintro e u8 ⟨rfl, d8, g8⟩; have M9 := sec (M8.out.only D8.out.blk (by decide) (by decide) hkg hga g8); have B9 := sec (B8.out.only g8 hxg); have f8 := B9.out.frozen 1; have o8 : u8.cell? ⟨xb, 1, none⟩ = some (.bool false) := B9.out.cell 1; have MX := sec (M9.out.farx HNOT.out.1 HNOT.out.2.1 HNOT.out.2.2.1 HNOT.out.2.2.2 1 (.bool true)); have DX := sec (RdAt.farO d8 (a := ⟨xb, 1, none⟩) hgx (.bool true)); have BX : Sec (Blk (u8.setCell ⟨xb, 1, none⟩ (.bool true)) xb 128 #[.string (bs nm), .bool true, .string (bs [])]) := sec (B9.out.set_ 1 (.bool true)); have f9 := BX.out.frozen 2; have p9 : (u8.setCell ⟨xb, 1, none⟩ (.bool true)).cell? ⟨xb, 2, none⟩ = some (.string (bs [])) := BX.out.cell 2; have MA := sec (MX.out.farx HNOT.out.1 HNOT.out.2.1 HNOT.out.2.2.1 HNOT.out.2.2.2 2 (.string (bs id))); have DA := sec (RdAt.farO DX.out (a := ⟨xb, 2, none⟩) hgx (.string (bs id))); have BA : Sec (Blk ((u8.setCell ⟨xb, 1, none⟩ (.bool true)).setCell ⟨xb, 2, none⟩ (.string (bs id))) xb 128 #[.string (bs nm), .bool true, .string (bs id)]) := sec (BX.out.set_ 2 (.string (bs id))); have x0 : ((u8.setCell ⟨xb, 1, none⟩ (.bool true)).setCell ⟨xb, 2, none⟩ (.string (bs id))).cell? ⟨xb, 0, none⟩ = some (.string (bs nm)) := BA.out.cell 0; have x1 : ((u8.setCell ⟨xb, 1, none⟩ (.bool true)).setCell ⟨xb, 2, none⟩ (.string (bs id))).cell? ⟨xb, 1, none⟩ = some (.bool true) := BA.out.cell 1; have x2 : ((u8.setCell ⟨xb, 1, none⟩ (.bool true)).setCell ⟨xb, 2, none⟩ (.string (bs id))).cell? ⟨xb, 2, none⟩ = some (.string (bs id)) := BA.out.cell 2; have y2 : ((u8.setCell ⟨xb, 1, none⟩ (.bool true)).setCell ⟨xb, 2, none⟩ (.string (bs id))).cell? ⟨k, 2, none⟩ = some (.slice A1 i c1) := MA.out.blk.cell 2)
              go_wp2_with (refine wpList_append_row E.ent rfl (.tmp 93) (.tmp 95) rfl (B := k + 1) (A0 := A1) (n0 := i) (cap0 := c1) (xs := F.flatMap entV) rfl (MA.out.al _).own1 rfl (rowk (BlkAtO (by simp)) rfl) (fun h => by cases h) (fun u hu => by simp at hu; rcases hu with rfl | rfl | rfl <;> rfl) hb48 hbm ((MA.out.al _).size (Nat.le_refl _)) ?_; intro Ab kb wA oA hA; have oB : wA.ownsRow (k + 1) 128 3 (.slice Ab (i + 1) kb) (i + 1) ((F ++ [(⟨nm, true, id⟩ : Ent)]).flatMap entV) := (by rw [← entV_add]; exact oA); have MB := sec ((MA.out.al (.cells #[.string (bs nm), .bool true, .string (bs id)] 128)).app1 oB hA); have DB := sec ((MA.out.al (.cells #[.string (bs nm), .bool true, .string (bs id)] 128)).rdApp1 (DA.out.gr ((Gr.refl _).alloc _)) (by decide) hA); have fB := MB.out.blk.frozen 2; have yB : wA.cell? ⟨k, 2, none⟩ = some (.slice A1 i c1) := MB.out.blk.cell 2; clear oA oB hA)
              go_roundg (gk - 1)
              case rel => exact ⟨i + 1, by go_num, by omega, by omega, sec ⟨qz, F ++ [(⟨nm, true, id⟩ : Ent)], Ab, kb, Or.inl HN3.out, RdAt.farO DB.out (a := ⟨k, 2, none⟩) hgk _, MB.out.st 2 (.slice Ab (i + 1) kb)⟩⟩
              case measure => omega
            · obtain rfl : x = 0 := by omega
              have HN3 := sec (HNX.out (by omega))
              clear HNX HHI hx1
              go_upto_region 23 with (go_at_call 44; (with_reducible refine Calls.mono (HB1.out _ D8.out) ?_); rintro e u8 ⟨rfl, d8, g8⟩; have M9 := sec (M8.out.only D8.out.blk (by decide) (by decide) hkg hga g8); have B9 := sec (B8.out.only g8 hxg); have f8 := B9.out.frozen 1; have o8 : u8.cell? ⟨xb, 1, none⟩ = some (.bool false) := B9.out.cell 1; have MX := sec (M9.out.farx HNOT.out.1 HNOT.out.2.1 HNOT.out.2.2.1 HNOT.out.2.2.2 1 (.bool false)); have DX := sec (RdAt.farO d8 (a := ⟨xb, 1, none⟩) hgx (.bool false)); have BX : Sec (Blk (u8.setCell ⟨xb, 1, none⟩ (.bool false)) xb 128 #[.string (bs nm), .bool false, .string (bs [])]) := sec (B9.out.set_ 1 (.bool false)); have f9 := BX.out.frozen 2; have p9 : (u8.setCell ⟨xb, 1, none⟩ (.bool false)).cell? ⟨xb, 2, none⟩ = some (.string (bs [])) := BX.out.cell 2; have MA := sec (MX.out.farx HNOT.out.1 HNOT.out.2.1 HNOT.out.2.2.1 HNOT.out.2.2.2 2 (.string (bs id))); have DA := sec (RdAt.farO DX.out (a := ⟨xb, 2, none⟩) hgx (.string (bs id))); have BA : Sec (Blk ((u8.setCell ⟨xb, 1, none⟩ (.bool false)).setCell ⟨xb, 2, none⟩ (.string (bs id))) xb 128 #[.string (bs nm), .bool false, .string (bs id)]) := sec (BX.out.set_ 2 (.string (bs id))); have x0 : ((u8.setCell ⟨xb, 1, none⟩ (.bool false)).setCell ⟨xb, 2, none⟩ (.string (bs id))).cell? ⟨xb, 0, none⟩ = some (.string (bs nm)) := BA.out.cell 0; have x1 : ((u8.setCell ⟨xb, 1, none⟩ (.bool false)).setCell ⟨xb, 2, none⟩ (.string (bs id))).cell? ⟨xb, 1, none⟩ = some (.bool false) := BA.out.cell 1; have x2 : ((u8.setCell ⟨xb, 1, none⟩ (.bool false)).setCell ⟨xb, 2, none⟩ (.string (bs id))).cell? ⟨xb, 2, none⟩ = some (.string (bs id)) := BA.out.cell 2; have y2 : ((u8.setCell ⟨xb, 1, none⟩ (.bool false)).setCell ⟨xb, 2, none⟩ (.string (bs id))).cell? ⟨k, 2, none⟩ = some (.slice A1 i c1) := MA.out.blk.cell 2)
              go_wp2_with (refine wpList_append_row E.ent rfl (.tmp 93) (.tmp 95) rfl (B := k + 1) (A0 := A1) (n0 := i) (cap0 := c1) (xs := F.flatMap entV) rfl (MA.out.al _).own1 rfl (rowk (BlkAtO (by simp)) rfl) (fun h => by cases h) (fun u hu => by simp at hu; rcases hu with rfl | rfl | rfl <;> rfl) hb48 hbm ((MA.out.al _).size (Nat.le_refl _)) ?_; intro Ab kb wA oA hA; have oB : wA.ownsRow (k + 1) 128 3 (.slice Ab (i + 1) kb) (i + 1) ((F ++ [(⟨nm, false, id⟩ : Ent)]).flatMap entV) := (by rw [← entV_add]; exact oA); have MB := sec ((MA.out.al (.cells #[.string (bs nm), .bool false, .string (bs id)] 128)).app1 oB hA); have DB := sec ((MA.out.al (.cells #[.string (bs nm), .bool false, .string (bs id)] 128)).rdApp1 (DA.out.gr ((Gr.refl _).alloc _)) (by decide) hA); have fB := MB.out.blk.frozen 2; have yB : wA.cell? ⟨k, 2, none⟩ = some (.slice A1 i c1) := MB.out.blk.cell 2; clear oA oB hA)
              go_roundg (gk - 1)
              case rel => exact ⟨i + 1, by go_num, by omega, by omega, sec ⟨qz, F ++ [(⟨nm, false, id⟩ : Ent)], Ab, kb, Or.inl HN3.out, RdAt.farO DB.out (a := ⟨k, 2, none⟩) hgk _, MB.out.st 2 (.slice Ab (i + 1) kb)⟩⟩
              case measure => omega
        · have hqi : ((q.2 : Int) == 0) = false := by rw [beq_eq_false_iff_ne]; omega
          have HXN : Sec (V = (obZ, 2)) := sec (by
            rcases HDe.out with h | h
            · rw [HV2.out, h.bad hq]; exact if_neg (fun h => hq h.1)
            · rw [HV2.out, h.1])
          have zz : wr.cell? ⟨k, 0, none⟩ = some (.int .i64 2) := HM.out.blk.cell 0
          clear HDe hfu hnn HST
          go_upto_region 32 with fail
          obtain ⟨yy0, yy1⟩ := HDC.out _ _ HD.out
          · have qq : (((q).2 : Int) != 0) = true := by rw [bne_iff_ne]; omega
            have qe : ¬ ((q).2 : Int) = 0 := by omega
            have HX : Sec (V = (obZ, 2)) := sec (HXN.out)
            go_upto_region 33 with fail
            go_wp2_with (first
              | (refine wpList_load_blk rfl 91 (.tmp 4) rfl (g := p + 1) rfl (HZ2.out.gr HM.out.gr) aggOb ?_)
              | (refine wpList_store_blk rfl 91 (.tmp 2) (.tmp 147) rfl (g := p) (cs' := obA obZ none 0 none 0) rfl rfl (HZ.out.gr HM.out.gr) aggOb rfl (obA_one _ _ _ _ _) ?_; intro w9 h9 hg9))
            refine bodyPost_ret (results_blk_tmp rfl _ rfl h9 aggOb) rfl ?_
            rw [HX.out]
            exact ⟨none, 0, none, 0, rfl, ObR.z _, Gr.only (hg0.trans HM.out.gr) hg9 hwp⟩
      · have hni : ¬ (i : Int) < (n0 : Int) := by omega
        have zz : wr.cell? ⟨k, 0, none⟩ = some (.int .i64 2) := HM.out.blk.cell 0
        have hd : decide (i < n0) = false := decide_eq_false hn
        go_upto_region 32 with fail
        rcases HDe.out with hde | hde
        case inr =>
          have HXN : Sec (V = (obZ, 2)) := sec (by rw [HV2.out, hde.1])
          have hq : ¬ q.2 = 0 := hde.2.1
          clear HDe hfu hnn HST hn hde
          obtain ⟨yy0, yy1⟩ := HDC.out _ _ HD.out
          · have qq : (((q).2 : Int) != 0) = true := by rw [bne_iff_ne]; omega
            have qe : ¬ ((q).2 : Int) = 0 := by omega
            have HX : Sec (V = (obZ, 2)) := sec (HXN.out)
            go_upto_region 33 with fail
            go_wp2_with (first
              | (refine wpList_load_blk rfl 91 (.tmp 4) rfl (g := p + 1) rfl (HZ2.out.gr HM.out.gr) aggOb ?_)
              | (refine wpList_store_blk rfl 91 (.tmp 2) (.tmp 147) rfl (g := p) (cs' := obA obZ none 0 none 0) rfl rfl (HZ.out.gr HM.out.gr) aggOb rfl (obA_one _ _ _ _ _) ?_; intro w9 h9 hg9))
            refine bodyPost_ret (results_blk_tmp rfl _ rfl h9 aggOb) rfl ?_
            rw [HX.out]
            exact ⟨none, 0, none, 0, rfl, ObR.z _, Gr.only (hg0.trans HM.out.gr) hg9 hwp⟩
        have HVF : Sec (V = obFin (ob2 F) q) := sec (by have h' := hde; rw [show n0 - i = 0 by omega] at h'; rw [HV2.out, h'.done])
        have HSZ : Sec (ObSz 1099511627776 (ob2 F)) := sec (by
          have h1 := hde.fl
          have h2 := HBB.out
          exact ⟨by simp [ob2], by simp only [ob2]; omega, fun x hx => by have := hde.each x hx; omega, by simp [ob2], by simp [ob2], by simp [ob2], by simp [ob2], by simp [ob2], by simp [ob2]⟩)
        clear HDe hfu hnn HST hn hde
        obtain ⟨yy0, yy1⟩ := HDC.out _ _ HD.out
        by_cases hq : (q).2 = 0
        · have qq : (((q).2 : Int) != 0) = false := by rw [bne_eq_false_iff_eq]; omega
          have qe : ((q).2 : Int) = 0 := by omega
          by_cases hl : (q).1.length = 0
          · have hlz : (q).1.isEmpty = true := by rw [List.isEmpty_iff]; exact List.eq_nil_of_length_eq_zero hl
            have hlz2 : ((q).1 == []) = true := by rw [List.eq_nil_of_length_eq_zero hl]; rfl
            have HV5 : Sec (V = if obE ((⟨2, [], F, [], [], [], [], 0, []⟩ : Ob)) = 0 then ((⟨2, [], F, [], [], [], [], 0, []⟩ : Ob), 0) else (obZ, obE ((⟨2, [], F, [], [], [], [], 0, []⟩ : Ob)))) := sec (by rw [HVF.out]; exact if_pos ⟨hq, hl⟩)
            obtain ⟨E, hE⟩ : ∃ E, E = obE ((⟨2, [], F, [], [], [], [], 0, []⟩ : Ob)) := ⟨_, rfl⟩
            have HGo2 : Sec (∀ A c B d W, ObR W ((⟨2, [], F, [], [], [], [], 0, []⟩ : Ob)) A c B d → Calls Tryz.prog 102 #[.agg (obA ((⟨2, [], F, [], [], [], [], 0, []⟩ : Ob)) A c B d)] W fun e w' => e = .returned (.int .i64 E) ∧ Gr W w') := sec (fun A c B d W h => by rw [hE]; exact HGo.out _ A c B d W h HSZ.out)
            rw [← hE] at HV5
            clear hE hq hl HVF
            by_cases hE0 : E = 0
            · subst hE0
              have HX : Sec (V = ((⟨2, [], F, [], [], [], [], 0, []⟩ : Ob), 0)) := sec (by rw [HV5.out, if_pos rfl])
              go_upto_region 34 with fail
              go_upto_region 37 with (first
                | (go_at_call 102; (with_reducible refine Calls.mono (HGo2.out _ _ _ _ _ (obr_own HM.out.own1 HM.out.own2).1) ?_); rintro e w8 ⟨rfl, g8⟩; have M8 := sec (HM.out.gr' g8); have G8 : Gr wa w8 := M8.out.gr)
                | (refine wpList_load_blk rfl 91 (.tmp 6) rfl (g := k) rfl (cs := obA ((⟨2, [], F, [], [], [], [], 0, []⟩ : Ob)) A1 c1 none 0) ((obr_own HM.out.own1 HM.out.own2).2 ▸ HM.out.blk) aggOb ?_))
              go_wp2_with (first
                | (refine wpList_load_blk rfl 91 (.tmp 6) rfl (g := k) rfl (cs := obA ((⟨2, [], F, [], [], [], [], 0, []⟩ : Ob)) A1 c1 none 0) ((obr_own M8.out.own1 M8.out.own2).2 ▸ M8.out.blk) aggOb ?_)
                | (refine wpList_store_blk rfl 91 (.tmp 2) (.tmp 154) rfl (g := p) (cs' := obA ((⟨2, [], F, [], [], [], [], 0, []⟩ : Ob)) A1 c1 none 0) rfl rfl (HZ.out.gr G8) aggOb rfl (obA_one _ _ _ _ _) ?_; intro w9 h9 hg9))
              refine bodyPost_ret (results_blk_tmp rfl _ rfl h9 aggOb) rfl ?_
              rw [HX.out]
              have s1 := obr_own (kd := 2) (dt := ((⟨2, [], F, [], [], [], [], 0, []⟩ : Ob)).data) (tr := ((⟨2, [], F, [], [], [], [], 0, []⟩ : Ob)).tree) (wh := ((⟨2, [], F, [], [], [], [], 0, []⟩ : Ob)).who) (no := ((⟨2, [], F, [], [], [], [], 0, []⟩ : Ob)).note) (ti := ((⟨2, [], F, [], [], [], [], 0, []⟩ : Ob)).time) (ta := ((⟨2, [], F, [], [], [], [], 0, []⟩ : Ob)).target) (own_only M8.out.own1 (HZ.out.gr G8) (by decide) hg9) (own_only M8.out.own2 (HZ.out.gr G8) (by decide) hg9)
              exact ⟨A1, c1, none, 0, rfl, s1.1, Gr.only (hg0.trans G8) hg9 hwp⟩
            · have HX : Sec (V = (obZ, E)) := sec (by rw [HV5.out, if_neg hE0])
              have m0 : (E != 0) = true := by simpa using hE0
              clear hE0
              go_upto_region 34 with fail
              go_upto_region 36 with (first
                | (go_at_call 102; (with_reducible refine Calls.mono (HGo2.out _ _ _ _ _ (obr_own HM.out.own1 HM.out.own2).1) ?_); rintro e w8 ⟨rfl, g8⟩; have M8 := sec (HM.out.gr' g8); have G8 : Gr wa w8 := M8.out.gr)
                | (refine wpList_load_blk rfl 91 (.tmp 6) rfl (g := k) rfl (cs := obA ((⟨2, [], F, [], [], [], [], 0, []⟩ : Ob)) A1 c1 none 0) ((obr_own HM.out.own1 HM.out.own2).2 ▸ HM.out.blk) aggOb ?_))
              go_wp2_with (first
                | (refine wpList_load_blk rfl 91 (.tmp 4) rfl (g := p + 1) rfl (HZ2.out.gr G8) aggOb ?_)
                | (refine wpList_store_blk rfl 91 (.tmp 2) (.tmp 152) rfl (g := p) (cs' := obA obZ none 0 none 0) rfl rfl (HZ.out.gr G8) aggOb rfl (obA_one _ _ _ _ _) ?_; intro w9 h9 hg9))
              refine bodyPost_ret (results_blk_tmp rfl _ rfl h9 aggOb) rfl ?_
              rw [HX.out]
              exact ⟨none, 0, none, 0, rfl, ObR.z _, Gr.only (hg0.trans G8) hg9 hwp⟩
          · have hlz : (q).1.isEmpty = false := by rw [Bool.eq_false_iff]; intro h; exact hl (by rw [List.isEmpty_iff.1 h]; rfl)
            have hlz2 : ((q).1 == []) = false := by rw [beq_eq_false_iff_ne]; intro h; exact hl (by rw [h]; rfl)
            have HX : Sec (V = (obZ, 2)) := sec (by rw [HVF.out]; exact if_neg (fun h => hl h.2))
            clear hq hl HVF
            go_upto_region 33 with fail
            go_wp2_with (first
              | (refine wpList_load_blk rfl 91 (.tmp 4) rfl (g := p + 1) rfl (HZ2.out.gr HM.out.gr) aggOb ?_)
              | (refine wpList_store_blk rfl 91 (.tmp 2) (.tmp 147) rfl (g := p) (cs' := obA obZ none 0 none 0) rfl rfl (HZ.out.gr HM.out.gr) aggOb rfl (obA_one _ _ _ _ _) ?_; intro w9 h9 hg9))
            refine bodyPost_ret (results_blk_tmp rfl _ rfl h9 aggOb) rfl ?_
            rw [HX.out]
            exact ⟨none, 0, none, 0, rfl, ObR.z _, Gr.only (hg0.trans HM.out.gr) hg9 hwp⟩
        · have qq : (((q).2 : Int) != 0) = true := by rw [bne_iff_ne]; omega
          have qe : ¬ ((q).2 : Int) = 0 := by omega
          have HX : Sec (V = (obZ, 2)) := sec (by rw [HVF.out]; exact if_neg (fun h => hq h.1))
          go_upto_region 33 with fail
          go_wp2_with (first
            | (refine wpList_load_blk rfl 91 (.tmp 4) rfl (g := p + 1) rfl (HZ2.out.gr HM.out.gr) aggOb ?_)
            | (refine wpList_store_blk rfl 91 (.tmp 2) (.tmp 147) rfl (g := p) (cs' := obA obZ none 0 none 0) rfl rfl (HZ.out.gr HM.out.gr) aggOb rfl (obA_one _ _ _ _ _) ?_; intro w9 h9 hg9))
          refine bodyPost_ret (results_blk_tmp rfl _ rfl h9 aggOb) rfl ?_
          rw [HX.out]
          exact ⟨none, 0, none, 0, rfl, ObR.z _, Gr.only (hg0.trans HM.out.gr) hg9 hwp⟩
  have z2 : (kd == 2) = false := by rw [beq_eq_false_iff_ne]; exact k2
  by_cases k3 : kd = 3
  · subst k3
    have HK3 : K = 3 := by have := HKD.out; omega
    obtain ⟨n0, hn0⟩ : ∃ n, n = nxtN (aftB 32 q1) := ⟨_, rfl⟩
    obtain ⟨q2, hq2⟩ : ∃ q, q = aftN (aftB 32 q1) := ⟨_, rfl⟩
    have HV2 : Sec (V = obFin (ob3 q1 (dpL n0 q2).1 (dpL n0 q2).2) (aftT (aftN (aftT (dpL n0 q2).2)))) := sec (by rw [HV1.out, hn0, hq2]; unfold obR; rw [if_neg (by omega), if_neg (by omega), if_pos HK3])
    have HN2 : Sec (∀ W, RdAt 80 W g (aftB 32 q1) → Calls Tryz.prog 43 #[.pointer (some ⟨g, 0, none⟩)] W fun e w' => e = .returned (.int .i64 (n0 : Int)) ∧ RdAt 80 w' g q2 ∧ W.grownBy w' (some g)) := sec (fun W h => by rw [hn0, hq2]; exact ruNumber g (aftB 32 q1) W h)
    have HST : Sec (DpAt 8192 n0 q2 0 n0 q2 []) := sec (DpAt.start (by rw [hq2]; have := aftN_leO (aftB 32 q1); have := aftB_leO 32 q1; have := HQ1.out; omega))
    have hn0l : n0 < 4611686018427387904 := by rw [hn0]; exact nxtN_ltO (aftB 32 q1)
    obtain ⟨tr, htr⟩ : ∃ s, s = nxtB 32 q1 := ⟨_, rfl⟩
    have HTR : Sec (tr = nxtB 32 q1) := sec htr
    have HB1 : Sec (∀ W, RdAt 80 W g q1 → Calls Tryz.prog 44 #[.pointer (some ⟨g, 0, none⟩), .int .i64 32] W fun e w' => e = .returned (.string (bs tr)) ∧ RdAt 80 w' g (aftB 32 q1) ∧ W.grownBy w' (some g)) := sec (fun W h => by rw [htr]; exact HB.out q1 W h)
    clear HK3 HV1 HKD hn0 hq2 htr hk14
    go_upto_region 28 with (first
      | (go_at_call 43; (with_reducible refine Calls.mono (HN2.out _ D4.out) ?_); rintro e u5 ⟨rfl, d5, g5⟩; have M5 := sec (M4.out.only D4.out.blk (by decide) (by decide) hkg hga g5); have D5 := sec d5; clear d5 g5)
      | (go_at_call 44; (with_reducible refine Calls.mono (HB1.out _ D3.out) ?_); rintro e u4 ⟨rfl, d4, g4⟩; have N4 := M3.out.only D3.out.blk (by decide) (by decide) hkg hga g4; have f4 := N4.blk.frozen 3; have o4 : u4.cell? ⟨k, 3, none⟩ = some (.string (bs [])) := N4.blk.cell 3; have D4 := sec (RdAt.farO d4 (a := ⟨k, 3, none⟩) hgk (.string (bs tr))); have M4 : Sec (Om wa k (k + 1) (OcA 3 [] none 0 0 tr none 0 0 [] [] 0 []) (.slice none 0 0) (.slice none 0 0) 0 0 [] [] (u4.setCell ⟨k, 3, none⟩ (.string (bs tr)))) := sec (N4.st 3 _); have z4 : (u4.setCell ⟨k, 3, none⟩ (.string (bs tr))).cell? ⟨k, 0, none⟩ = some (.int .i64 3) := M4.out.blk.cell 0))
    clear M3 D3 z3 HN2 HB1 y0 y1 qq qe
    have HC : Sec (∀ B d i G W, Om wa k (k + 1) (OcA 3 [] none 0 0 tr B d i [] [] 0 []) (.slice none 0 0) (.slice B i d) 0 i [] G W → W.cell? ⟨k, 4, none⟩ = some (.slice B i d) ∧ W.frozen? ⟨k, 4, none⟩ = false) := sec (fun B d i G W h => ⟨h.blk.cell 4, h.blk.frozen 4⟩)
    go_loopg [12] n0 (fun fuel iv wr => ∃ i : Nat, iv = .int .i64 (i : Int) ∧ n0 ≤ i + fuel ∧ i ≤ n0 ∧ Sec (∃ q G B1 d1, DpAt 8192 n0 q2 i (n0 - i) q G ∧ RdAt 80 wr g q ∧ Om wa k (k + 1) (OcA 3 [] none 0 0 tr B1 d1 i [] [] 0 []) (.slice none 0 0) (.slice B1 i d1) 0 i [] G wr))
    case atStart => exact ⟨0, rfl, by omega, by omega, sec ⟨q2, [], none, 0, HST.out, D5.out, M5.out⟩⟩
    case round =>
      clear D5 M5 D4 M4
      obtain ⟨i, rfl, hfu, hnn, HF⟩ := hrel
      obtain ⟨q, G, B1, d1, hDe, hD, hM⟩ := HF.out
      have HDe := sec hDe
      have HD := sec hD
      have HM := sec hM
      have HBB := sec (show i ≤ 8193 by have := hDe.le; omega)
      clear HF hDe hD hM
      obtain ⟨r0, r1⟩ := HDC.out _ _ HD.out
      by_cases hn : i < n0
      · have hni : (i : Int) < (n0 : Int) := by omega
        by_cases hq : q.2 = 0
        · have hqi : ((q.2 : Int) == 0) = true := by rw [beq_iff_eq]; omega
          have HNX : Sec (DpAt 8192 n0 q2 (i + 1) (n0 - (i + 1)) (aftB 32 q) (G ++ [nxtB 32 q])) := sec (by have h' := HDe.out; rw [show n0 - i = (n0 - (i + 1)) + 1 by omega] at h'; exact h'.next hq)
          obtain ⟨sv, hsv⟩ : ∃ s, s = nxtB 32 q := ⟨_, rfl⟩
          have HB1 : Sec (∀ W, RdAt 80 W g q → Calls Tryz.prog 44 #[.pointer (some ⟨g, 0, none⟩), .int .i64 32] W fun e w' => e = .returned (.string (bs sv)) ∧ RdAt 80 w' g (aftB 32 q) ∧ W.grownBy w' (some g)) := sec (by rw [hsv]; exact HB.out q)
          rw [← hsv] at HNX
          clear hsv hq HDe
          have hb16 : (i + 1) * 16 ≤ 140737488355328 := by have := HBB.out; omega
          have hbm : i + 1 ≤ maxLen := by have := HBB.out; unfold maxLen; omega
          go_upto_region 30 with fail
          clear r0 r1
          obtain ⟨y0, y1⟩ := HC.out _ _ _ _ _ HM.out
          go_region_law (first
            | (go_simp; go_at_call 44; (refine Calls.mono (HB1.out _ (RdAt.gr HD.out ?gx)) ?_); (case gx => first | exact Gr.refl _ | exact (Gr.refl _).drew); rintro e w1 ⟨rfl, D1, g1⟩; have M1 : Om wa k (k + 1) (OcA 3 [] none 0 0 tr B1 d1 i [] [] 0 []) (.slice none 0 0) (.slice B1 i d1) 0 i [] G w1 := (by first | exact HM.out.rd (Gr.refl _) HD.out (by decide) (by decide) hkg hga g1 | exact HM.out.rd (Gr.refl _).drew HD.out (by decide) (by decide) hkg hga g1); obtain ⟨a0, a1⟩ := HC.out _ _ _ _ _ M1; obtain ⟨c0, c1'⟩ := HC.out _ _ _ _ _ (M1.al (.cells #[.string (bs sv)] 9)))
            | (refine step_append_row (B := k + 1) (A0 := B1) (n0 := i) (cap0 := d1) (xs := G.map strV) (A := some ⟨w1.heap.size, 0, none⟩) (n := 1) (c := 1) (vs := [.string (bs sv)]) E.str rfl (.tmp 120) (.tmp 123) rfl ?hd ?ho ?hx (rowk (T := 9) (cs := #[.string (bs sv)]) ?hr rfl) (fun h => by cases h) (fun u hu => by simp at hu; subst hu; rfl) hb16 hbm ?hB ?_; (case hd => first | (simp [Act.eval]; done) | (simp [Act.eval, Act.put]; done)); (case hx => first | (simp [Act.eval]; done) | (simp [Act.eval, Act.put]; done)); (case ho => refine Om.own2 (w0 := wa) (q := k) (K := k + 1) (cs := (OcA 3 [] none 0 0 tr B1 d1 i [] [] 0 [])) (X := .slice none 0 0) (Y := .slice B1 i d1) (N := 0) (M := i) (F := []) (G := G) ?_; (repeat (first | with_reducible exact M1 | with_reducible refine Om.drew ?_ | with_reducible refine Om.al ?_ _)); done); (case hr => (repeat (first | (with_reducible refine BlkAtO ?_; simp; done) | with_reducible refine Blk.drew ?_ | with_reducible refine Blk.alloc ?_ _)); done); (case hB => refine Om.size (w0 := wa) (q := k) (K := k + 1) (cs := (OcA 3 [] none 0 0 tr B1 d1 i [] [] 0 [])) (X := .slice none 0 0) (Y := .slice B1 i d1) (N := 0) (M := i) (F := []) (G := G) ?_ (Nat.le_refl _); (repeat (first | with_reducible exact M1 | with_reducible refine Om.drew ?_ | with_reducible refine Om.al ?_ _)); done); intro Bb kb wA oA hA; rw [sV_addO] at oA; have MA : Om wa k (k + 1) (OcA 3 [] none 0 0 tr B1 d1 i [] [] 0 []) (.slice none 0 0) (.slice Bb (i + 1) kb) 0 (i + 1) [] (G ++ [sv]) wA := (by refine Om.app2 (w0 := wa) (q := k) (K := k + 1) (cs := (OcA 3 [] none 0 0 tr B1 d1 i [] [] 0 [])) (X := .slice none 0 0) (Y := .slice B1 i d1) (N := 0) (M := i) (F := []) (G := G) ?_ oA hA; (repeat (first | with_reducible exact M1 | with_reducible refine Om.drew ?_ | with_reducible refine Om.al ?_ _))); have DA : RdAt 80 wA g (aftB 32 q) := (by refine Om.rdApp2 (w0 := wa) (q := k) (K := k + 1) (cs := (OcA 3 [] none 0 0 tr B1 d1 i [] [] 0 [])) (X := .slice none 0 0) (Y := .slice B1 i d1) (N := 0) (M := i) (F := []) (G := G) ?hm (RdAt.gr D1 ?hg) (by decide) hA; (case hm => (repeat (first | with_reducible exact M1 | with_reducible refine Om.drew ?_ | with_reducible refine Om.al ?_ _)); done); (case hg => (first | exact (Gr.refl _).alloc _ | exact ((Gr.refl _).alloc _).drew | exact ((Gr.refl _).drew.alloc _)))); obtain ⟨b0, b1⟩ := (show wA.cell? ⟨k, 4, none⟩ = some (.slice B1 i d1) ∧ wA.frozen? ⟨k, 4, none⟩ = false from ⟨MA.blk.cell 4, MA.blk.frozen 4⟩)))
          all_goals
            go_wp2_with fail
            go_roundg (gk - 1)
            case rel => exact ⟨i + 1, by go_num, by omega, by omega, sec ⟨aftB 32 q, G ++ [sv], _, _, HNX.out, RdAt.farO DA (a := ⟨k, 4, none⟩) hgk _, MA.st 4 _⟩⟩
            case measure => omega
        · have hqi : ((q.2 : Int) == 0) = false := by rw [beq_eq_false_iff_ne]; omega
          obtain ⟨wh, h_wh⟩ : ∃ x, x = nxtT (q) := ⟨_, rfl⟩
          obtain ⟨qa, h_qa⟩ : ∃ x, x = aftT (q) := ⟨_, rfl⟩
          have HT5 : Sec (∀ W, RdAt 80 W g q → Calls Tryz.prog 46 #[.pointer (some ⟨g, 0, none⟩)] W fun e w' => e = .returned (.string (bs wh)) ∧ RdAt 80 w' g qa ∧ W.grownBy w' (some g)) := sec (fun W h => by rw [h_wh, h_qa]; exact HT.out q W h)
          obtain ⟨tm, h_tm⟩ : ∃ x, x = nxtN (qa) := ⟨_, rfl⟩
          obtain ⟨qb, h_qb⟩ : ∃ x, x = aftN (qa) := ⟨_, rfl⟩
          have HN6 : Sec (∀ W, RdAt 80 W g qa → Calls Tryz.prog 43 #[.pointer (some ⟨g, 0, none⟩)] W fun e w' => e = .returned (.int .i64 (tm : Int)) ∧ RdAt 80 w' g qb ∧ W.grownBy w' (some g)) := sec (fun W h => by rw [h_tm, h_qb]; exact HN.out qa W h)
          obtain ⟨no, h_no⟩ : ∃ x, x = nxtT (qb) := ⟨_, rfl⟩
          obtain ⟨qf, h_qf⟩ : ∃ x, x = aftT (qb) := ⟨_, rfl⟩
          have HT7 : Sec (∀ W, RdAt 80 W g qb → Calls Tryz.prog 46 #[.pointer (some ⟨g, 0, none⟩)] W fun e w' => e = .returned (.string (bs no)) ∧ RdAt 80 w' g qf ∧ W.grownBy w' (some g)) := sec (fun W h => by rw [h_no, h_qf]; exact HT.out qb W h)
          have HVF : Sec (V = obFin (⟨3, [], [], tr, G, wh, no, (tm : Int), []⟩ : Ob) qf) := sec (by rw [HV2.out, HDe.out.bad hq, h_qf, h_no, h_qb, h_tm, h_qa, h_wh, HTR.out]; rfl)
          have HSZ : Sec (ObSz 1099511627776 (⟨3, [], [], tr, G, wh, no, (tm : Int), []⟩ : Ob)) := sec (by
            have h1 := HDe.out.gl
            have h2 := HBB.out
            have h3 := nxtT_leO q
            have h4 := nxtT_leO qb
            have h5 := aftN_leO qa
            have h6 := aftT_leO q
            have h7 := HDe.out.len
            have h8 := nxtB_leO q1
            have h9 := HTR.out
            rw [← h_wh] at h3
            rw [← h_no] at h4
            rw [← h_qb] at h5
            rw [← h_qa] at h6
            rw [← h9] at h8
            exact ⟨by simp, by simp, by simp, by simp only; omega, by simp only; omega, fun x hx => by have := HDe.out.each x hx; omega, by simp only; omega, by simp only; omega, by simp⟩)
          have zz : wr.cell? ⟨k, 0, none⟩ = some (.int .i64 3) := HM.out.blk.cell 0
          clear HDe hfu hnn HST HC h_qf h_no h_qb h_tm h_qa h_wh
          go_upto_region 32 with (first
            | (go_at_call 46; (with_reducible refine Calls.mono (HT5.out _ HD.out) ?_); rintro e u5 ⟨rfl, d5, g5⟩; have N5 := HM.out.only HD.out.blk (by decide) (by decide) hkg hga g5; have M5 := sec N5; have D5 := sec d5; have z5 : u5.cell? ⟨k, 0, none⟩ = some (.int .i64 3) := N5.blk.cell 0)
            | (go_at_call 43; (with_reducible refine Calls.mono (HN6.out _ D5.out) ?_); rintro e u6 ⟨rfl, d6, g6⟩; have N6 := M5.out.only D5.out.blk (by decide) (by decide) hkg hga g6; have M6 := sec N6; have D6 := sec d6; have z6 : u6.cell? ⟨k, 0, none⟩ = some (.int .i64 3) := N6.blk.cell 0)
            | (go_at_call 46; (with_reducible refine Calls.mono (HT7.out _ D6.out) ?_); rintro e u7 ⟨rfl, d7, g7⟩; have N7 := M6.out.only D6.out.blk (by decide) (by decide) hkg hga g7; have M7 := sec N7; have D7 := sec d7; have z7 : u7.cell? ⟨k, 0, none⟩ = some (.int .i64 3) := N7.blk.cell 0; have f7 := N7.blk.frozen 5; have o7 : u7.cell? ⟨k, 5, none⟩ = some (.string (bs [])) := N7.blk.cell 5; have MA : Sec (Om wa k (k + 1) (OcA 3 [] none 0 0 tr B1 d1 i wh [] 0 []) (.slice none 0 0) (.slice B1 i d1) 0 i [] G (u7.setCell ⟨k, 5, none⟩ (.string (bs wh)))) := sec (M7.out.st 5 _); have f8 := MA.out.blk.frozen 7; have o8 : (u7.setCell ⟨k, 5, none⟩ (.string (bs wh))).cell? ⟨k, 7, none⟩ = some (.int .i64 0) := MA.out.blk.cell 7; have MB : Sec (Om wa k (k + 1) (OcA 3 [] none 0 0 tr B1 d1 i wh [] (tm : Int) []) (.slice none 0 0) (.slice B1 i d1) 0 i [] G ((u7.setCell ⟨k, 5, none⟩ (.string (bs wh))).setCell ⟨k, 7, none⟩ (.int .i64 (tm : Int)))) := sec (MA.out.st 7 _); have f9 := MB.out.blk.frozen 6; have o9 : ((u7.setCell ⟨k, 5, none⟩ (.string (bs wh))).setCell ⟨k, 7, none⟩ (.int .i64 (tm : Int))).cell? ⟨k, 6, none⟩ = some (.string (bs [])) := MB.out.blk.cell 6; have MC : Sec (Om wa k (k + 1) (OcA 3 [] none 0 0 tr B1 d1 i wh no (tm : Int) []) (.slice none 0 0) (.slice B1 i d1) 0 i [] G (((u7.setCell ⟨k, 5, none⟩ (.string (bs wh))).setCell ⟨k, 7, none⟩ (.int .i64 (tm : Int))).setCell ⟨k, 6, none⟩ (.string (bs no)))) := sec (MB.out.st 6 _); have DC := sec (((d7.farO (a := ⟨k, 5, none⟩) hgk (.string (bs wh))).farO (a := ⟨k, 7, none⟩) hgk (.int .i64 (tm : Int))).farO (a := ⟨k, 6, none⟩) hgk (.string (bs no))); have zC : (((u7.setCell ⟨k, 5, none⟩ (.string (bs wh))).setCell ⟨k, 7, none⟩ (.int .i64 (tm : Int))).setCell ⟨k, 6, none⟩ (.string (bs no))).cell? ⟨k, 0, none⟩ = some (.int .i64 3) := MC.out.blk.cell 0))
          obtain ⟨wf, hwf⟩ : ∃ x, x = (((u7.setCell ⟨k, 5, none⟩ (.string (bs wh))).setCell ⟨k, 7, none⟩ (.int .i64 (tm : Int))).setCell ⟨k, 6, none⟩ (.string (bs no))) := ⟨_, rfl⟩
          rw [← hwf] at DC MC zC ⊢
          clear hwf
          obtain ⟨yy0, yy1⟩ := HDC.out _ _ DC.out
          by_cases hq : (qf).2 = 0
          · have qq : (((qf).2 : Int) != 0) = false := by rw [bne_eq_false_iff_eq]; omega
            have qe : ((qf).2 : Int) = 0 := by omega
            by_cases hl : (qf).1.length = 0
            · have hlz : (qf).1.isEmpty = true := by rw [List.isEmpty_iff]; exact List.eq_nil_of_length_eq_zero hl
              have hlz2 : ((qf).1 == []) = true := by rw [List.eq_nil_of_length_eq_zero hl]; rfl
              have HV5 : Sec (V = if obE ((⟨3, [], [], tr, G, wh, no, (tm : Int), []⟩ : Ob)) = 0 then ((⟨3, [], [], tr, G, wh, no, (tm : Int), []⟩ : Ob), 0) else (obZ, obE ((⟨3, [], [], tr, G, wh, no, (tm : Int), []⟩ : Ob)))) := sec (by rw [HVF.out]; exact if_pos ⟨hq, hl⟩)
              obtain ⟨E, hE⟩ : ∃ E, E = obE ((⟨3, [], [], tr, G, wh, no, (tm : Int), []⟩ : Ob)) := ⟨_, rfl⟩
              have HGo2 : Sec (∀ A c B d W, ObR W ((⟨3, [], [], tr, G, wh, no, (tm : Int), []⟩ : Ob)) A c B d → Calls Tryz.prog 102 #[.agg (obA ((⟨3, [], [], tr, G, wh, no, (tm : Int), []⟩ : Ob)) A c B d)] W fun e w' => e = .returned (.int .i64 E) ∧ Gr W w') := sec (fun A c B d W h => by rw [hE]; exact HGo.out _ A c B d W h HSZ.out)
              rw [← hE] at HV5
              clear hE hq hl HVF
              by_cases hE0 : E = 0
              · subst hE0
                have HX : Sec (V = ((⟨3, [], [], tr, G, wh, no, (tm : Int), []⟩ : Ob), 0)) := sec (by rw [HV5.out, if_pos rfl])
                go_upto_region 34 with fail
                go_upto_region 37 with (first
                  | (go_at_call 102; (with_reducible refine Calls.mono (HGo2.out _ _ _ _ _ (obr_own MC.out.own1 MC.out.own2).1) ?_); rintro e w8 ⟨rfl, g8⟩; have M8 := sec (MC.out.gr' g8); have G8 : Gr wa w8 := M8.out.gr)
                  | (refine wpList_load_blk rfl 91 (.tmp 6) rfl (g := k) rfl (cs := obA ((⟨3, [], [], tr, G, wh, no, (tm : Int), []⟩ : Ob)) none 0 B1 d1) ((obr_own MC.out.own1 MC.out.own2).2 ▸ MC.out.blk) aggOb ?_))
                go_wp2_with (first
                  | (refine wpList_load_blk rfl 91 (.tmp 6) rfl (g := k) rfl (cs := obA ((⟨3, [], [], tr, G, wh, no, (tm : Int), []⟩ : Ob)) none 0 B1 d1) ((obr_own M8.out.own1 M8.out.own2).2 ▸ M8.out.blk) aggOb ?_)
                  | (refine wpList_store_blk rfl 91 (.tmp 2) (.tmp 154) rfl (g := p) (cs' := obA ((⟨3, [], [], tr, G, wh, no, (tm : Int), []⟩ : Ob)) none 0 B1 d1) rfl rfl (HZ.out.gr G8) aggOb rfl (obA_one _ _ _ _ _) ?_; intro w9 h9 hg9))
                refine bodyPost_ret (results_blk_tmp rfl _ rfl h9 aggOb) rfl ?_
                rw [HX.out]
                have s1 := obr_own (kd := 3) (dt := ((⟨3, [], [], tr, G, wh, no, (tm : Int), []⟩ : Ob)).data) (tr := ((⟨3, [], [], tr, G, wh, no, (tm : Int), []⟩ : Ob)).tree) (wh := ((⟨3, [], [], tr, G, wh, no, (tm : Int), []⟩ : Ob)).who) (no := ((⟨3, [], [], tr, G, wh, no, (tm : Int), []⟩ : Ob)).note) (ti := ((⟨3, [], [], tr, G, wh, no, (tm : Int), []⟩ : Ob)).time) (ta := ((⟨3, [], [], tr, G, wh, no, (tm : Int), []⟩ : Ob)).target) (own_only M8.out.own1 (HZ.out.gr G8) (by decide) hg9) (own_only M8.out.own2 (HZ.out.gr G8) (by decide) hg9)
                exact ⟨none, 0, B1, d1, rfl, s1.1, Gr.only (hg0.trans G8) hg9 hwp⟩
              · have HX : Sec (V = (obZ, E)) := sec (by rw [HV5.out, if_neg hE0])
                have m0 : (E != 0) = true := by simpa using hE0
                clear hE0
                go_upto_region 34 with fail
                go_upto_region 36 with (first
                  | (go_at_call 102; (with_reducible refine Calls.mono (HGo2.out _ _ _ _ _ (obr_own MC.out.own1 MC.out.own2).1) ?_); rintro e w8 ⟨rfl, g8⟩; have M8 := sec (MC.out.gr' g8); have G8 : Gr wa w8 := M8.out.gr)
                  | (refine wpList_load_blk rfl 91 (.tmp 6) rfl (g := k) rfl (cs := obA ((⟨3, [], [], tr, G, wh, no, (tm : Int), []⟩ : Ob)) none 0 B1 d1) ((obr_own MC.out.own1 MC.out.own2).2 ▸ MC.out.blk) aggOb ?_))
                go_wp2_with (first
                  | (refine wpList_load_blk rfl 91 (.tmp 4) rfl (g := p + 1) rfl (HZ2.out.gr G8) aggOb ?_)
                  | (refine wpList_store_blk rfl 91 (.tmp 2) (.tmp 152) rfl (g := p) (cs' := obA obZ none 0 none 0) rfl rfl (HZ.out.gr G8) aggOb rfl (obA_one _ _ _ _ _) ?_; intro w9 h9 hg9))
                refine bodyPost_ret (results_blk_tmp rfl _ rfl h9 aggOb) rfl ?_
                rw [HX.out]
                exact ⟨none, 0, none, 0, rfl, ObR.z _, Gr.only (hg0.trans G8) hg9 hwp⟩
            · have hlz : (qf).1.isEmpty = false := by rw [Bool.eq_false_iff]; intro h; exact hl (by rw [List.isEmpty_iff.1 h]; rfl)
              have hlz2 : ((qf).1 == []) = false := by rw [beq_eq_false_iff_ne]; intro h; exact hl (by rw [h]; rfl)
              have HX : Sec (V = (obZ, 2)) := sec (by rw [HVF.out]; exact if_neg (fun h => hl h.2))
              clear hq hl HVF
              go_upto_region 33 with fail
              go_wp2_with (first
                | (refine wpList_load_blk rfl 91 (.tmp 4) rfl (g := p + 1) rfl (HZ2.out.gr MC.out.gr) aggOb ?_)
                | (refine wpList_store_blk rfl 91 (.tmp 2) (.tmp 147) rfl (g := p) (cs' := obA obZ none 0 none 0) rfl rfl (HZ.out.gr MC.out.gr) aggOb rfl (obA_one _ _ _ _ _) ?_; intro w9 h9 hg9))
              refine bodyPost_ret (results_blk_tmp rfl _ rfl h9 aggOb) rfl ?_
              rw [HX.out]
              exact ⟨none, 0, none, 0, rfl, ObR.z _, Gr.only (hg0.trans MC.out.gr) hg9 hwp⟩
          · have qq : (((qf).2 : Int) != 0) = true := by rw [bne_iff_ne]; omega
            have qe : ¬ ((qf).2 : Int) = 0 := by omega
            have HX : Sec (V = (obZ, 2)) := sec (by rw [HVF.out]; exact if_neg (fun h => hq h.1))
            go_upto_region 33 with fail
            go_wp2_with (first
              | (refine wpList_load_blk rfl 91 (.tmp 4) rfl (g := p + 1) rfl (HZ2.out.gr MC.out.gr) aggOb ?_)
              | (refine wpList_store_blk rfl 91 (.tmp 2) (.tmp 147) rfl (g := p) (cs' := obA obZ none 0 none 0) rfl rfl (HZ.out.gr MC.out.gr) aggOb rfl (obA_one _ _ _ _ _) ?_; intro w9 h9 hg9))
            refine bodyPost_ret (results_blk_tmp rfl _ rfl h9 aggOb) rfl ?_
            rw [HX.out]
            exact ⟨none, 0, none, 0, rfl, ObR.z _, Gr.only (hg0.trans MC.out.gr) hg9 hwp⟩
      · have hni : ¬ (i : Int) < (n0 : Int) := by omega
        have hd : decide (i < n0) = false := decide_eq_false hn
        have HDN : Sec (dpL n0 q2 = (G, q)) := sec (by have h' := HDe.out; rw [show n0 - i = 0 by omega] at h'; exact h'.done)
        obtain ⟨wh, h_wh⟩ : ∃ x, x = nxtT (q) := ⟨_, rfl⟩
        obtain ⟨qa, h_qa⟩ : ∃ x, x = aftT (q) := ⟨_, rfl⟩
        have HT5 : Sec (∀ W, RdAt 80 W g q → Calls Tryz.prog 46 #[.pointer (some ⟨g, 0, none⟩)] W fun e w' => e = .returned (.string (bs wh)) ∧ RdAt 80 w' g qa ∧ W.grownBy w' (some g)) := sec (fun W h => by rw [h_wh, h_qa]; exact HT.out q W h)
        obtain ⟨tm, h_tm⟩ : ∃ x, x = nxtN (qa) := ⟨_, rfl⟩
        obtain ⟨qb, h_qb⟩ : ∃ x, x = aftN (qa) := ⟨_, rfl⟩
        have HN6 : Sec (∀ W, RdAt 80 W g qa → Calls Tryz.prog 43 #[.pointer (some ⟨g, 0, none⟩)] W fun e w' => e = .returned (.int .i64 (tm : Int)) ∧ RdAt 80 w' g qb ∧ W.grownBy w' (some g)) := sec (fun W h => by rw [h_tm, h_qb]; exact HN.out qa W h)
        obtain ⟨no, h_no⟩ : ∃ x, x = nxtT (qb) := ⟨_, rfl⟩
        obtain ⟨qf, h_qf⟩ : ∃ x, x = aftT (qb) := ⟨_, rfl⟩
        have HT7 : Sec (∀ W, RdAt 80 W g qb → Calls Tryz.prog 46 #[.pointer (some ⟨g, 0, none⟩)] W fun e w' => e = .returned (.string (bs no)) ∧ RdAt 80 w' g qf ∧ W.grownBy w' (some g)) := sec (fun W h => by rw [h_no, h_qf]; exact HT.out qb W h)
        have HVF : Sec (V = obFin (⟨3, [], [], tr, G, wh, no, (tm : Int), []⟩ : Ob) qf) := sec (by rw [HV2.out, HDN.out, h_qf, h_no, h_qb, h_tm, h_qa, h_wh, HTR.out]; rfl)
        have HSZ : Sec (ObSz 1099511627776 (⟨3, [], [], tr, G, wh, no, (tm : Int), []⟩ : Ob)) := sec (by
          have h1 := HDe.out.gl
          have h2 := HBB.out
          have h3 := nxtT_leO q
          have h4 := nxtT_leO qb
          have h5 := aftN_leO qa
          have h6 := aftT_leO q
          have h7 := HDe.out.len
          have h8 := nxtB_leO q1
          have h9 := HTR.out
          rw [← h_wh] at h3
          rw [← h_no] at h4
          rw [← h_qb] at h5
          rw [← h_qa] at h6
          rw [← h9] at h8
          exact ⟨by simp, by simp, by simp, by simp only; omega, by simp only; omega, fun x hx => by have := HDe.out.each x hx; omega, by simp only; omega, by simp only; omega, by simp⟩)
        have zz : wr.cell? ⟨k, 0, none⟩ = some (.int .i64 3) := HM.out.blk.cell 0
        clear HDe hfu hnn HST HC h_qf h_no h_qb h_tm h_qa h_wh
        go_upto_region 32 with (first
          | (go_at_call 46; (with_reducible refine Calls.mono (HT5.out _ HD.out) ?_); rintro e u5 ⟨rfl, d5, g5⟩; have N5 := HM.out.only HD.out.blk (by decide) (by decide) hkg hga g5; have M5 := sec N5; have D5 := sec d5; have z5 : u5.cell? ⟨k, 0, none⟩ = some (.int .i64 3) := N5.blk.cell 0)
          | (go_at_call 43; (with_reducible refine Calls.mono (HN6.out _ D5.out) ?_); rintro e u6 ⟨rfl, d6, g6⟩; have N6 := M5.out.only D5.out.blk (by decide) (by decide) hkg hga g6; have M6 := sec N6; have D6 := sec d6; have z6 : u6.cell? ⟨k, 0, none⟩ = some (.int .i64 3) := N6.blk.cell 0)
          | (go_at_call 46; (with_reducible refine Calls.mono (HT7.out _ D6.out) ?_); rintro e u7 ⟨rfl, d7, g7⟩; have N7 := M6.out.only D6.out.blk (by decide) (by decide) hkg hga g7; have M7 := sec N7; have D7 := sec d7; have z7 : u7.cell? ⟨k, 0, none⟩ = some (.int .i64 3) := N7.blk.cell 0; have f7 := N7.blk.frozen 5; have o7 : u7.cell? ⟨k, 5, none⟩ = some (.string (bs [])) := N7.blk.cell 5; have MA : Sec (Om wa k (k + 1) (OcA 3 [] none 0 0 tr B1 d1 i wh [] 0 []) (.slice none 0 0) (.slice B1 i d1) 0 i [] G (u7.setCell ⟨k, 5, none⟩ (.string (bs wh)))) := sec (M7.out.st 5 _); have f8 := MA.out.blk.frozen 7; have o8 : (u7.setCell ⟨k, 5, none⟩ (.string (bs wh))).cell? ⟨k, 7, none⟩ = some (.int .i64 0) := MA.out.blk.cell 7; have MB : Sec (Om wa k (k + 1) (OcA 3 [] none 0 0 tr B1 d1 i wh [] (tm : Int) []) (.slice none 0 0) (.slice B1 i d1) 0 i [] G ((u7.setCell ⟨k, 5, none⟩ (.string (bs wh))).setCell ⟨k, 7, none⟩ (.int .i64 (tm : Int)))) := sec (MA.out.st 7 _); have f9 := MB.out.blk.frozen 6; have o9 : ((u7.setCell ⟨k, 5, none⟩ (.string (bs wh))).setCell ⟨k, 7, none⟩ (.int .i64 (tm : Int))).cell? ⟨k, 6, none⟩ = some (.string (bs [])) := MB.out.blk.cell 6; have MC : Sec (Om wa k (k + 1) (OcA 3 [] none 0 0 tr B1 d1 i wh no (tm : Int) []) (.slice none 0 0) (.slice B1 i d1) 0 i [] G (((u7.setCell ⟨k, 5, none⟩ (.string (bs wh))).setCell ⟨k, 7, none⟩ (.int .i64 (tm : Int))).setCell ⟨k, 6, none⟩ (.string (bs no)))) := sec (MB.out.st 6 _); have DC := sec (((d7.farO (a := ⟨k, 5, none⟩) hgk (.string (bs wh))).farO (a := ⟨k, 7, none⟩) hgk (.int .i64 (tm : Int))).farO (a := ⟨k, 6, none⟩) hgk (.string (bs no))); have zC : (((u7.setCell ⟨k, 5, none⟩ (.string (bs wh))).setCell ⟨k, 7, none⟩ (.int .i64 (tm : Int))).setCell ⟨k, 6, none⟩ (.string (bs no))).cell? ⟨k, 0, none⟩ = some (.int .i64 3) := MC.out.blk.cell 0))
        obtain ⟨wf, hwf⟩ : ∃ x, x = (((u7.setCell ⟨k, 5, none⟩ (.string (bs wh))).setCell ⟨k, 7, none⟩ (.int .i64 (tm : Int))).setCell ⟨k, 6, none⟩ (.string (bs no))) := ⟨_, rfl⟩
        rw [← hwf] at DC MC zC ⊢
        clear hwf
        obtain ⟨yy0, yy1⟩ := HDC.out _ _ DC.out
        by_cases hq : (qf).2 = 0
        · have qq : (((qf).2 : Int) != 0) = false := by rw [bne_eq_false_iff_eq]; omega
          have qe : ((qf).2 : Int) = 0 := by omega
          by_cases hl : (qf).1.length = 0
          · have hlz : (qf).1.isEmpty = true := by rw [List.isEmpty_iff]; exact List.eq_nil_of_length_eq_zero hl
            have hlz2 : ((qf).1 == []) = true := by rw [List.eq_nil_of_length_eq_zero hl]; rfl
            have HV5 : Sec (V = if obE ((⟨3, [], [], tr, G, wh, no, (tm : Int), []⟩ : Ob)) = 0 then ((⟨3, [], [], tr, G, wh, no, (tm : Int), []⟩ : Ob), 0) else (obZ, obE ((⟨3, [], [], tr, G, wh, no, (tm : Int), []⟩ : Ob)))) := sec (by rw [HVF.out]; exact if_pos ⟨hq, hl⟩)
            obtain ⟨E, hE⟩ : ∃ E, E = obE ((⟨3, [], [], tr, G, wh, no, (tm : Int), []⟩ : Ob)) := ⟨_, rfl⟩
            have HGo2 : Sec (∀ A c B d W, ObR W ((⟨3, [], [], tr, G, wh, no, (tm : Int), []⟩ : Ob)) A c B d → Calls Tryz.prog 102 #[.agg (obA ((⟨3, [], [], tr, G, wh, no, (tm : Int), []⟩ : Ob)) A c B d)] W fun e w' => e = .returned (.int .i64 E) ∧ Gr W w') := sec (fun A c B d W h => by rw [hE]; exact HGo.out _ A c B d W h HSZ.out)
            rw [← hE] at HV5
            clear hE hq hl HVF
            by_cases hE0 : E = 0
            · subst hE0
              have HX : Sec (V = ((⟨3, [], [], tr, G, wh, no, (tm : Int), []⟩ : Ob), 0)) := sec (by rw [HV5.out, if_pos rfl])
              go_upto_region 34 with fail
              go_upto_region 37 with (first
                | (go_at_call 102; (with_reducible refine Calls.mono (HGo2.out _ _ _ _ _ (obr_own MC.out.own1 MC.out.own2).1) ?_); rintro e w8 ⟨rfl, g8⟩; have M8 := sec (MC.out.gr' g8); have G8 : Gr wa w8 := M8.out.gr)
                | (refine wpList_load_blk rfl 91 (.tmp 6) rfl (g := k) rfl (cs := obA ((⟨3, [], [], tr, G, wh, no, (tm : Int), []⟩ : Ob)) none 0 B1 d1) ((obr_own MC.out.own1 MC.out.own2).2 ▸ MC.out.blk) aggOb ?_))
              go_wp2_with (first
                | (refine wpList_load_blk rfl 91 (.tmp 6) rfl (g := k) rfl (cs := obA ((⟨3, [], [], tr, G, wh, no, (tm : Int), []⟩ : Ob)) none 0 B1 d1) ((obr_own M8.out.own1 M8.out.own2).2 ▸ M8.out.blk) aggOb ?_)
                | (refine wpList_store_blk rfl 91 (.tmp 2) (.tmp 154) rfl (g := p) (cs' := obA ((⟨3, [], [], tr, G, wh, no, (tm : Int), []⟩ : Ob)) none 0 B1 d1) rfl rfl (HZ.out.gr G8) aggOb rfl (obA_one _ _ _ _ _) ?_; intro w9 h9 hg9))
              refine bodyPost_ret (results_blk_tmp rfl _ rfl h9 aggOb) rfl ?_
              rw [HX.out]
              have s1 := obr_own (kd := 3) (dt := ((⟨3, [], [], tr, G, wh, no, (tm : Int), []⟩ : Ob)).data) (tr := ((⟨3, [], [], tr, G, wh, no, (tm : Int), []⟩ : Ob)).tree) (wh := ((⟨3, [], [], tr, G, wh, no, (tm : Int), []⟩ : Ob)).who) (no := ((⟨3, [], [], tr, G, wh, no, (tm : Int), []⟩ : Ob)).note) (ti := ((⟨3, [], [], tr, G, wh, no, (tm : Int), []⟩ : Ob)).time) (ta := ((⟨3, [], [], tr, G, wh, no, (tm : Int), []⟩ : Ob)).target) (own_only M8.out.own1 (HZ.out.gr G8) (by decide) hg9) (own_only M8.out.own2 (HZ.out.gr G8) (by decide) hg9)
              exact ⟨none, 0, B1, d1, rfl, s1.1, Gr.only (hg0.trans G8) hg9 hwp⟩
            · have HX : Sec (V = (obZ, E)) := sec (by rw [HV5.out, if_neg hE0])
              have m0 : (E != 0) = true := by simpa using hE0
              clear hE0
              go_upto_region 34 with fail
              go_upto_region 36 with (first
                | (go_at_call 102; (with_reducible refine Calls.mono (HGo2.out _ _ _ _ _ (obr_own MC.out.own1 MC.out.own2).1) ?_); rintro e w8 ⟨rfl, g8⟩; have M8 := sec (MC.out.gr' g8); have G8 : Gr wa w8 := M8.out.gr)
                | (refine wpList_load_blk rfl 91 (.tmp 6) rfl (g := k) rfl (cs := obA ((⟨3, [], [], tr, G, wh, no, (tm : Int), []⟩ : Ob)) none 0 B1 d1) ((obr_own MC.out.own1 MC.out.own2).2 ▸ MC.out.blk) aggOb ?_))
              go_wp2_with (first
                | (refine wpList_load_blk rfl 91 (.tmp 4) rfl (g := p + 1) rfl (HZ2.out.gr G8) aggOb ?_)
                | (refine wpList_store_blk rfl 91 (.tmp 2) (.tmp 152) rfl (g := p) (cs' := obA obZ none 0 none 0) rfl rfl (HZ.out.gr G8) aggOb rfl (obA_one _ _ _ _ _) ?_; intro w9 h9 hg9))
              refine bodyPost_ret (results_blk_tmp rfl _ rfl h9 aggOb) rfl ?_
              rw [HX.out]
              exact ⟨none, 0, none, 0, rfl, ObR.z _, Gr.only (hg0.trans G8) hg9 hwp⟩
          · have hlz : (qf).1.isEmpty = false := by rw [Bool.eq_false_iff]; intro h; exact hl (by rw [List.isEmpty_iff.1 h]; rfl)
            have hlz2 : ((qf).1 == []) = false := by rw [beq_eq_false_iff_ne]; intro h; exact hl (by rw [h]; rfl)
            have HX : Sec (V = (obZ, 2)) := sec (by rw [HVF.out]; exact if_neg (fun h => hl h.2))
            clear hq hl HVF
            go_upto_region 33 with fail
            go_wp2_with (first
              | (refine wpList_load_blk rfl 91 (.tmp 4) rfl (g := p + 1) rfl (HZ2.out.gr MC.out.gr) aggOb ?_)
              | (refine wpList_store_blk rfl 91 (.tmp 2) (.tmp 147) rfl (g := p) (cs' := obA obZ none 0 none 0) rfl rfl (HZ.out.gr MC.out.gr) aggOb rfl (obA_one _ _ _ _ _) ?_; intro w9 h9 hg9))
            refine bodyPost_ret (results_blk_tmp rfl _ rfl h9 aggOb) rfl ?_
            rw [HX.out]
            exact ⟨none, 0, none, 0, rfl, ObR.z _, Gr.only (hg0.trans MC.out.gr) hg9 hwp⟩
        · have qq : (((qf).2 : Int) != 0) = true := by rw [bne_iff_ne]; omega
          have qe : ¬ ((qf).2 : Int) = 0 := by omega
          have HX : Sec (V = (obZ, 2)) := sec (by rw [HVF.out]; exact if_neg (fun h => hq h.1))
          go_upto_region 33 with fail
          go_wp2_with (first
            | (refine wpList_load_blk rfl 91 (.tmp 4) rfl (g := p + 1) rfl (HZ2.out.gr MC.out.gr) aggOb ?_)
            | (refine wpList_store_blk rfl 91 (.tmp 2) (.tmp 147) rfl (g := p) (cs' := obA obZ none 0 none 0) rfl rfl (HZ.out.gr MC.out.gr) aggOb rfl (obA_one _ _ _ _ _) ?_; intro w9 h9 hg9))
          refine bodyPost_ret (results_blk_tmp rfl _ rfl h9 aggOb) rfl ?_
          rw [HX.out]
          exact ⟨none, 0, none, 0, rfl, ObR.z _, Gr.only (hg0.trans MC.out.gr) hg9 hwp⟩
  have z3' : (kd == 3) = false := by rw [beq_eq_false_iff_ne]; exact k3
  obtain rfl : kd = 4 := by omega
  have HK4 : K = 4 := by have := HKD.out; omega
  obtain ⟨ta, h_ta⟩ : ∃ x, x = nxtB 32 (q1) := ⟨_, rfl⟩
  obtain ⟨qa, h_qa⟩ : ∃ x, x = aftB 32 (q1) := ⟨_, rfl⟩
  have HB4 : Sec (∀ W, RdAt 80 W g q1 → Calls Tryz.prog 44 #[.pointer (some ⟨g, 0, none⟩), .int .i64 32] W fun e w' => e = .returned (.string (bs ta)) ∧ RdAt 80 w' g qa ∧ W.grownBy w' (some g)) := sec (fun W h => by rw [h_ta, h_qa]; exact HB.out q1 W h)
  obtain ⟨wh, h_wh⟩ : ∃ x, x = nxtT (qa) := ⟨_, rfl⟩
  obtain ⟨qb, h_qb⟩ : ∃ x, x = aftT (qa) := ⟨_, rfl⟩
  have HT5 : Sec (∀ W, RdAt 80 W g qa → Calls Tryz.prog 46 #[.pointer (some ⟨g, 0, none⟩)] W fun e w' => e = .returned (.string (bs wh)) ∧ RdAt 80 w' g qb ∧ W.grownBy w' (some g)) := sec (fun W h => by rw [h_wh, h_qb]; exact HT.out qa W h)
  obtain ⟨no, h_no⟩ : ∃ x, x = nxtT (qb) := ⟨_, rfl⟩
  obtain ⟨qf, h_qf⟩ : ∃ x, x = aftT (qb) := ⟨_, rfl⟩
  have HT6 : Sec (∀ W, RdAt 80 W g qb → Calls Tryz.prog 46 #[.pointer (some ⟨g, 0, none⟩)] W fun e w' => e = .returned (.string (bs no)) ∧ RdAt 80 w' g qf ∧ W.grownBy w' (some g)) := sec (fun W h => by rw [h_no, h_qf]; exact HT.out qb W h)
  have HVF : Sec (V = obFin (⟨4, [], [], [], [], wh, no, 0, ta⟩ : Ob) qf) := sec (by rw [HV1.out]; unfold obR; rw [if_neg (by omega), if_neg (by omega), if_neg (by omega), if_pos HK4, h_qf, h_no, h_qb, h_wh, h_qa, h_ta]; rfl)
  have HSZ : Sec (ObSz 1099511627776 (⟨4, [], [], [], [], wh, no, 0, ta⟩ : Ob)) := sec (by
    have h1 := nxtT_leO qa
    have h2 := HQ1.out
    have h3 := nxtT_leO qb
    have h4 := aftT_leO qa
    have h5 := aftB_leO 32 q1
    have h6 := nxtB_leO q1
    rw [← h_wh] at h1
    rw [← h_no] at h3
    rw [← h_qb] at h4
    rw [← h_qa] at h5
    rw [← h_ta] at h6
    exact ⟨by simp, by simp, by simp, by simp, by simp, by simp, by simp only; omega, by simp only; omega, by simp only; omega⟩)
  clear HK4 HV1 HKD h_qf h_no h_qb h_wh h_qa h_ta hk14
  go_upto_region 32 with (first
    | (go_at_call 44; (with_reducible refine Calls.mono (HB4.out _ D3.out) ?_); rintro e u4 ⟨rfl, d4, g4⟩; have N4 := M3.out.only D3.out.blk (by decide) (by decide) hkg hga g4; have M4 := sec N4; have D4 := sec d4; have z4 : u4.cell? ⟨k, 0, none⟩ = some (.int .i64 4) := N4.blk.cell 0)
    | (go_at_call 46; (with_reducible refine Calls.mono (HT5.out _ D4.out) ?_); rintro e u5 ⟨rfl, d5, g5⟩; have N5 := M4.out.only D4.out.blk (by decide) (by decide) hkg hga g5; have M5 := sec N5; have D5 := sec d5; have z5 : u5.cell? ⟨k, 0, none⟩ = some (.int .i64 4) := N5.blk.cell 0)
    | (go_at_call 46; (with_reducible refine Calls.mono (HT6.out _ D5.out) ?_); rintro e u6 ⟨rfl, d6, g6⟩; have N6 := M5.out.only D5.out.blk (by decide) (by decide) hkg hga g6; have M6 := sec N6; have D6 := sec d6; have z6 : u6.cell? ⟨k, 0, none⟩ = some (.int .i64 4) := N6.blk.cell 0; have f7 := N6.blk.frozen 8; have o7 : u6.cell? ⟨k, 8, none⟩ = some (.string (bs [])) := N6.blk.cell 8; have MA : Sec (Om wa k (k + 1) (OcA 4 [] none 0 0 [] none 0 0 [] [] 0 ta) (.slice none 0 0) (.slice none 0 0) 0 0 [] [] (u6.setCell ⟨k, 8, none⟩ (.string (bs ta)))) := sec (M6.out.st 8 _); have f8 := MA.out.blk.frozen 5; have o8 : (u6.setCell ⟨k, 8, none⟩ (.string (bs ta))).cell? ⟨k, 5, none⟩ = some (.string (bs [])) := MA.out.blk.cell 5; have MB : Sec (Om wa k (k + 1) (OcA 4 [] none 0 0 [] none 0 0 wh [] 0 ta) (.slice none 0 0) (.slice none 0 0) 0 0 [] [] ((u6.setCell ⟨k, 8, none⟩ (.string (bs ta))).setCell ⟨k, 5, none⟩ (.string (bs wh)))) := sec (MA.out.st 5 _); have f9 := MB.out.blk.frozen 6; have o9 : ((u6.setCell ⟨k, 8, none⟩ (.string (bs ta))).setCell ⟨k, 5, none⟩ (.string (bs wh))).cell? ⟨k, 6, none⟩ = some (.string (bs [])) := MB.out.blk.cell 6; have MC : Sec (Om wa k (k + 1) (OcA 4 [] none 0 0 [] none 0 0 wh no 0 ta) (.slice none 0 0) (.slice none 0 0) 0 0 [] [] (((u6.setCell ⟨k, 8, none⟩ (.string (bs ta))).setCell ⟨k, 5, none⟩ (.string (bs wh))).setCell ⟨k, 6, none⟩ (.string (bs no)))) := sec (MB.out.st 6 _); have DC := sec (((d6.farO (a := ⟨k, 8, none⟩) hgk (.string (bs ta))).farO (a := ⟨k, 5, none⟩) hgk (.string (bs wh))).farO (a := ⟨k, 6, none⟩) hgk (.string (bs no))); have zC : (((u6.setCell ⟨k, 8, none⟩ (.string (bs ta))).setCell ⟨k, 5, none⟩ (.string (bs wh))).setCell ⟨k, 6, none⟩ (.string (bs no))).cell? ⟨k, 0, none⟩ = some (.int .i64 4) := MC.out.blk.cell 0))
  obtain ⟨wf, hwf⟩ : ∃ x, x = (((u6.setCell ⟨k, 8, none⟩ (.string (bs ta))).setCell ⟨k, 5, none⟩ (.string (bs wh))).setCell ⟨k, 6, none⟩ (.string (bs no))) := ⟨_, rfl⟩
  rw [← hwf] at DC MC zC ⊢
  clear hwf
  obtain ⟨yy0, yy1⟩ := HDC.out _ _ DC.out
  by_cases hq : (qf).2 = 0
  · have qq : (((qf).2 : Int) != 0) = false := by rw [bne_eq_false_iff_eq]; omega
    have qe : ((qf).2 : Int) = 0 := by omega
    by_cases hl : (qf).1.length = 0
    · have hlz : (qf).1.isEmpty = true := by rw [List.isEmpty_iff]; exact List.eq_nil_of_length_eq_zero hl
      have hlz2 : ((qf).1 == []) = true := by rw [List.eq_nil_of_length_eq_zero hl]; rfl
      have HV5 : Sec (V = if obE ((⟨4, [], [], [], [], wh, no, 0, ta⟩ : Ob)) = 0 then ((⟨4, [], [], [], [], wh, no, 0, ta⟩ : Ob), 0) else (obZ, obE ((⟨4, [], [], [], [], wh, no, 0, ta⟩ : Ob)))) := sec (by rw [HVF.out]; exact if_pos ⟨hq, hl⟩)
      obtain ⟨E, hE⟩ : ∃ E, E = obE ((⟨4, [], [], [], [], wh, no, 0, ta⟩ : Ob)) := ⟨_, rfl⟩
      have HGo2 : Sec (∀ A c B d W, ObR W ((⟨4, [], [], [], [], wh, no, 0, ta⟩ : Ob)) A c B d → Calls Tryz.prog 102 #[.agg (obA ((⟨4, [], [], [], [], wh, no, 0, ta⟩ : Ob)) A c B d)] W fun e w' => e = .returned (.int .i64 E) ∧ Gr W w') := sec (fun A c B d W h => by rw [hE]; exact HGo.out _ A c B d W h HSZ.out)
      rw [← hE] at HV5
      clear hE hq hl HVF
      by_cases hE0 : E = 0
      · subst hE0
        have HX : Sec (V = ((⟨4, [], [], [], [], wh, no, 0, ta⟩ : Ob), 0)) := sec (by rw [HV5.out, if_pos rfl])
        go_upto_region 34 with fail
        go_upto_region 37 with (first
          | (go_at_call 102; (with_reducible refine Calls.mono (HGo2.out _ _ _ _ _ (obr_own MC.out.own1 MC.out.own2).1) ?_); rintro e w8 ⟨rfl, g8⟩; have M8 := sec (MC.out.gr' g8); have G8 : Gr wa w8 := M8.out.gr)
          | (refine wpList_load_blk rfl 91 (.tmp 6) rfl (g := k) rfl (cs := obA ((⟨4, [], [], [], [], wh, no, 0, ta⟩ : Ob)) none 0 none 0) ((obr_own MC.out.own1 MC.out.own2).2 ▸ MC.out.blk) aggOb ?_))
        go_wp2_with (first
          | (refine wpList_load_blk rfl 91 (.tmp 6) rfl (g := k) rfl (cs := obA ((⟨4, [], [], [], [], wh, no, 0, ta⟩ : Ob)) none 0 none 0) ((obr_own M8.out.own1 M8.out.own2).2 ▸ M8.out.blk) aggOb ?_)
          | (refine wpList_store_blk rfl 91 (.tmp 2) (.tmp 154) rfl (g := p) (cs' := obA ((⟨4, [], [], [], [], wh, no, 0, ta⟩ : Ob)) none 0 none 0) rfl rfl (HZ.out.gr G8) aggOb rfl (obA_one _ _ _ _ _) ?_; intro w9 h9 hg9))
        refine bodyPost_ret (results_blk_tmp rfl _ rfl h9 aggOb) rfl ?_
        rw [HX.out]
        have s1 := obr_own (kd := 4) (dt := ((⟨4, [], [], [], [], wh, no, 0, ta⟩ : Ob)).data) (tr := ((⟨4, [], [], [], [], wh, no, 0, ta⟩ : Ob)).tree) (wh := ((⟨4, [], [], [], [], wh, no, 0, ta⟩ : Ob)).who) (no := ((⟨4, [], [], [], [], wh, no, 0, ta⟩ : Ob)).note) (ti := ((⟨4, [], [], [], [], wh, no, 0, ta⟩ : Ob)).time) (ta := ((⟨4, [], [], [], [], wh, no, 0, ta⟩ : Ob)).target) (own_only M8.out.own1 (HZ.out.gr G8) (by decide) hg9) (own_only M8.out.own2 (HZ.out.gr G8) (by decide) hg9)
        exact ⟨none, 0, none, 0, rfl, s1.1, Gr.only (hg0.trans G8) hg9 hwp⟩
      · have HX : Sec (V = (obZ, E)) := sec (by rw [HV5.out, if_neg hE0])
        have m0 : (E != 0) = true := by simpa using hE0
        clear hE0
        go_upto_region 34 with fail
        go_upto_region 36 with (first
          | (go_at_call 102; (with_reducible refine Calls.mono (HGo2.out _ _ _ _ _ (obr_own MC.out.own1 MC.out.own2).1) ?_); rintro e w8 ⟨rfl, g8⟩; have M8 := sec (MC.out.gr' g8); have G8 : Gr wa w8 := M8.out.gr)
          | (refine wpList_load_blk rfl 91 (.tmp 6) rfl (g := k) rfl (cs := obA ((⟨4, [], [], [], [], wh, no, 0, ta⟩ : Ob)) none 0 none 0) ((obr_own MC.out.own1 MC.out.own2).2 ▸ MC.out.blk) aggOb ?_))
        go_wp2_with (first
          | (refine wpList_load_blk rfl 91 (.tmp 4) rfl (g := p + 1) rfl (HZ2.out.gr G8) aggOb ?_)
          | (refine wpList_store_blk rfl 91 (.tmp 2) (.tmp 152) rfl (g := p) (cs' := obA obZ none 0 none 0) rfl rfl (HZ.out.gr G8) aggOb rfl (obA_one _ _ _ _ _) ?_; intro w9 h9 hg9))
        refine bodyPost_ret (results_blk_tmp rfl _ rfl h9 aggOb) rfl ?_
        rw [HX.out]
        exact ⟨none, 0, none, 0, rfl, ObR.z _, Gr.only (hg0.trans G8) hg9 hwp⟩
    · have hlz : (qf).1.isEmpty = false := by rw [Bool.eq_false_iff]; intro h; exact hl (by rw [List.isEmpty_iff.1 h]; rfl)
      have hlz2 : ((qf).1 == []) = false := by rw [beq_eq_false_iff_ne]; intro h; exact hl (by rw [h]; rfl)
      have HX : Sec (V = (obZ, 2)) := sec (by rw [HVF.out]; exact if_neg (fun h => hl h.2))
      clear hq hl HVF
      go_upto_region 33 with fail
      go_wp2_with (first
        | (refine wpList_load_blk rfl 91 (.tmp 4) rfl (g := p + 1) rfl (HZ2.out.gr MC.out.gr) aggOb ?_)
        | (refine wpList_store_blk rfl 91 (.tmp 2) (.tmp 147) rfl (g := p) (cs' := obA obZ none 0 none 0) rfl rfl (HZ.out.gr MC.out.gr) aggOb rfl (obA_one _ _ _ _ _) ?_; intro w9 h9 hg9))
      refine bodyPost_ret (results_blk_tmp rfl _ rfl h9 aggOb) rfl ?_
      rw [HX.out]
      exact ⟨none, 0, none, 0, rfl, ObR.z _, Gr.only (hg0.trans MC.out.gr) hg9 hwp⟩
  · have qq : (((qf).2 : Int) != 0) = true := by rw [bne_iff_ne]; omega
    have qe : ¬ ((qf).2 : Int) = 0 := by omega
    have HX : Sec (V = (obZ, 2)) := sec (by rw [HVF.out]; exact if_neg (fun h => hq h.1))
    go_upto_region 33 with fail
    go_wp2_with (first
      | (refine wpList_load_blk rfl 91 (.tmp 4) rfl (g := p + 1) rfl (HZ2.out.gr MC.out.gr) aggOb ?_)
      | (refine wpList_store_blk rfl 91 (.tmp 2) (.tmp 147) rfl (g := p) (cs' := obA obZ none 0 none 0) rfl rfl (HZ.out.gr MC.out.gr) aggOb rfl (obA_one _ _ _ _ _) ?_; intro w9 h9 hg9))
    refine bodyPost_ret (results_blk_tmp rfl _ rfl h9 aggOb) rfl ?_
    rw [HX.out]
    exact ⟨none, 0, none, 0, rfl, ObR.z _, Gr.only (hg0.trans MC.out.gr) hg9 hwp⟩
end Go.Proofs.YtoamnifnfkgbiaaGreatDoor

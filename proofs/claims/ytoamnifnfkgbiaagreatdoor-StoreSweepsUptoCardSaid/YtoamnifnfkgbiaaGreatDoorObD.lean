/-
  object.Decode by its contract.
-/
import Derived.Test.YtoamnifnfkgbiaaGreatDoorObG
import Derived.Test.YtoamnifnfkgbiaaGreatDoorObM
import Derived.Test.YtoamnifnfkgbiaaGreatDoorObDL
import Derived.Test.YtoamnifnfkgbiaaGreatDoorReader
import Derived.Test.YtoamnifnfkgbiaaGreatDoorDiskA
namespace Go.Proofs.YtoamnifnfkgbiaaGreatDoor
set_option maxRecDepth 100000
open Go.RowKit
set_option linter.unusedVariables false
def DecPost (w : World) (r : Ob × Int) (e : Ending) (w' : World) : Prop := ∃ A c B d, e = .returned (.tuple #[.agg (obA r.1 A c B d), .int .i64 r.2]) ∧ ObR w' r.1 A c B d ∧ Gr w w'
set_option maxHeartbeats 64000000 in
theorem obDec_any (b : List UInt8) (w : World) (hb : b.length ≤ 1099511627775) :
    Calls Tryz.prog 54 #[.string (bs b)] w (DecPost w (obD b)) := by
  obtain ⟨wa, hwa⟩ : ∃ y, y = w.alloc (.cells (obA obZ none 0 none 0) 91) := ⟨_, rfl⟩
  have hz : Blk wa w.heap.size 91 (obA obZ none 0 none 0) := by rw [hwa]; exact Blk.new w _ _
  have hg0 : Gr w wa := by rw [hwa]; exact (Gr.refl w).alloc _
  obtain ⟨p, hp⟩ : ∃ p, p = w.heap.size := ⟨_, rfl⟩
  rw [← hp] at hz
  have hwp : w.heap.size ≤ p := by omega
  obtain ⟨g, hg⟩ : ∃ g, g = wa.heap.size := ⟨_, rfl⟩
  have hpg : p < g := by rw [hg]; exact hz.lt
  have hga : wa.heap.size ≤ g := by omega
  have HRd : Sec (Calls Tryz.prog 30 #[.string (bs b)] wa fun e w' => e = .returned (.pointer (some ⟨g, 0, none⟩)) ∧ RdAt 113 w' g (b, 0) ∧ Gr wa w') := sec (by rw [hg]; exact rdRead b wa (by omega))
  have HT : Sec (∀ q W, RdAt 113 W g q → Calls Tryz.prog 36 #[.pointer (some ⟨g, 0, none⟩)] W fun e w' => e = .returned (.string (bs (nxtT q))) ∧ RdAt 113 w' g (aftT q) ∧ W.grownBy w' (some g)) := sec (fun q W h => rdText g q W h)
  have HN : Sec (∀ q W, RdAt 113 W g q → Calls Tryz.prog 31 #[.pointer (some ⟨g, 0, none⟩)] W fun e w' => e = .returned (.int .i64 (nxtN q : Int)) ∧ RdAt 113 w' g (aftN q) ∧ W.grownBy w' (some g)) := sec (fun q W h => rdNumber g q W h)
  have HB : Sec (∀ q W, RdAt 113 W g q → Calls Tryz.prog 32 #[.pointer (some ⟨g, 0, none⟩), .int .i64 32] W fun e w' => e = .returned (.string (bs (nxtB 32 q))) ∧ RdAt 113 w' g (aftB 32 q) ∧ W.grownBy w' (some g)) := sec (fun q W h => rdBytes g q 32 W h (by omega))
  have HBad : Sec (∀ q W, RdAt 113 W g q → Calls Tryz.prog 34 #[.pointer (some ⟨g, 0, none⟩)] W fun e w' => e = .returned (.int .i64 (q.2 : Int)) ∧ W = w') := sec (fun q W h => rdBad g q W h)
  have HLe : Sec (∀ q W, RdAt 113 W g q → Calls Tryz.prog 33 #[.pointer (some ⟨g, 0, none⟩)] W fun e w' => e = .returned (.int .i64 (q.1.length : Int)) ∧ W = w') := sec (fun q W h => rdLeft g q W h)
  have HGo : Sec (∀ o A c B d W, ObR W o A c B d → ObSz 1099511627776 o → Calls Tryz.prog 95 #[.agg (obA o A c B d)] W fun e w' => e = .returned (.int .i64 (obE o)) ∧ Gr W w') := sec (fun o A c B d W h h' => obGood_any o A c B d W h h')
  have HZ := sec hz
  obtain ⟨V, hV⟩ : ∃ V, V = obD b := ⟨_, rfl⟩
  have HV := sec hV
  rw [← hV]
  clear hV hz
  unfold obA obZ at hwa
  simp only [List.length_nil] at hwa
  by_cases h8 : 8192 < b.length
  · have q8 : (8192 : Int) < (b.length : Int) := by omega
    have HX : Sec (V = (obZ, 1)) := sec (by rw [HV.out]; unfold obD; rw [if_pos h8])
    clear h8
    go_enter Tryz.func54, Tryz.ntmps54
    go_upto_region 1 with fail
    rw [← hwa, ← hp]
    clear hwa hp hg
    go_wp2_with (refine wpList_store_blk rfl 91 (.tmp 2) _ rfl (g := p) (cs' := obA obZ none 0 none 0) rfl rfl HZ.out aggOb rfl (obA_one _ _ _ _ _) ?_; intro w9 h9 hg9)
    refine bodyPost_ret (results_blk_tmp rfl _ rfl h9 aggOb) rfl ?_
    rw [HX.out]
    exact ⟨none, 0, none, 0, rfl, ObR.z _, Gr.only hg0 hg9 hwp⟩
  have q8 : ¬ (8192 : Int) < (b.length : Int) := by omega
  have HLB := sec (show b.length ≤ 8192 by omega)
  obtain ⟨q1, hq1⟩ : ∃ q, q = aftN (b, 0) := ⟨_, rfl⟩
  have HQ1 : Sec (q1.1.length ≤ 8192) := sec (by rw [hq1]; have := aftN_leO (b, 0); simp only at this; omega)
  obtain ⟨K, hK⟩ : ∃ K, K = nxtN (b, 0) := ⟨_, rfl⟩
  obtain ⟨kd, hkd⟩ : ∃ kd : Int, kd = (K : Int) := ⟨_, rfl⟩
  have HN1 : Sec (∀ W, RdAt 113 W g (b, 0) → Calls Tryz.prog 31 #[.pointer (some ⟨g, 0, none⟩)] W fun e w' => e = .returned (.int .i64 kd) ∧ RdAt 113 w' g q1 ∧ W.grownBy w' (some g)) := sec (fun W h => by rw [hkd, hK, hq1]; exact rdNumber g (b, 0) W h)
  have HV1 : Sec (V = obR K q1) := sec (by rw [HV.out]; unfold obD; rw [if_neg h8, hK, hq1])
  have HKD := sec hkd
  clear h8 HV hK hq1 hkd
  go_enter Tryz.func54, Tryz.ntmps54
  go_upto_region 1 with fail
  rw [← hwa, ← hp]
  clear hwa hp hg
  go_upto_region 5 with (first
    | (go_at_call 30; (with_reducible refine Calls.mono HRd.out ?_); rintro e w1 ⟨rfl, d1, g1⟩)
    | (go_at_call 31; (with_reducible refine Calls.mono (HN1.out _ d1) ?_); rintro e w2 ⟨rfl, d2, g2⟩; have G2 : Gr wa w2 := Gr.only g1 g2 hga))
  obtain ⟨k, hk⟩ : ∃ k, k = w2.heap.size := ⟨_, rfl⟩
  have hkg : k ≠ g := by have := d2.blk.lt; omega
  have hgk : g ≠ k := fun e => hkg e.symm
  have hak : wa.heap.size ≤ k := by rw [hk]; exact G2.size
  have M3 : Sec (Om wa k (k + 1) (OcA kd [] none 0 0 [] none 0 0 [] [] 0 []) (.slice none 0 0) (.slice none 0 0) 0 0 [] [] (w2.alloc (.cells #[.int .i64 kd, .string (bs []), .slice none 0 0, .string (bs []), .slice none 0 0, .string (bs []), .string (bs []), .int .i64 0, .string (bs [])] 91))) := sec (Om.new (BlkAtO hk) (G2.alloc _) (by omega) hak)
  have D3 := sec (d2.gr ((Gr.refl w2).alloc (.cells #[.int .i64 kd, .string (bs []), .slice none 0 0, .string (bs []), .slice none 0 0, .string (bs []), .string (bs []), .int .i64 0, .string (bs [])] 91)))
  rw [← hk]
  obtain ⟨w3, hw3⟩ : ∃ y, y = w2.alloc (.cells #[.int .i64 kd, .string (bs []), .slice none 0 0, .string (bs []), .slice none 0 0, .string (bs []), .string (bs []), .int .i64 0, .string (bs [])] 91) := ⟨_, rfl⟩
  rw [← hw3] at M3 D3 ⊢
  clear hk hw3 d1 d2 g1 g2 G2 HRd HN1
  have z3 : w3.cell? ⟨k, 0, none⟩ = some (.int .i64 kd) := M3.out.blk.cell 0

  by_cases k1 : kd = 1
  · subst k1
    have HK1 : K = 1 := by have := HKD.out; omega
    obtain ⟨T, h_T⟩ : ∃ x, x = nxtT (q1) := ⟨_, rfl⟩
    obtain ⟨qf, h_qf⟩ : ∃ x, x = aftT (q1) := ⟨_, rfl⟩
    have HT1 : Sec (∀ W, RdAt 113 W g q1 → Calls Tryz.prog 36 #[.pointer (some ⟨g, 0, none⟩)] W fun e w' => e = .returned (.string (bs T)) ∧ RdAt 113 w' g qf ∧ W.grownBy w' (some g)) := sec (fun W h => by rw [h_T, h_qf]; exact HT.out q1 W h)
    have HVF : Sec (V = obFin ⟨1, T, [], [], [], [], [], 0, []⟩ qf) := sec (by rw [HV1.out, h_T, h_qf]; unfold obR; rw [if_pos HK1]; rfl)
    have HSZ : Sec (ObSz 1099511627776 ⟨1, T, [], [], [], [], [], 0, []⟩) := sec (by
      have h1 := nxtT_leO q1
      have h2 := HQ1.out
      rw [← h_T] at h1
      exact ⟨by simp only; omega, by simp, by simp, by simp, by simp, by simp, by simp, by simp, by simp⟩)
    clear HK1 HV1 HKD h_T h_qf
    go_upto_region 32 with (first
      | (go_at_call 36; (with_reducible refine Calls.mono (HT1.out _ D3.out) ?_); rintro e u4 ⟨rfl, d4, g4⟩; have N4 := M3.out.only D3.out.blk (by decide) (by decide) hkg hga g4; have f4 := N4.blk.frozen 1; have o4 : u4.cell? ⟨k, 1, none⟩ = some (.string (bs [])) := N4.blk.cell 1; have D4 := sec (RdAt.farO d4 (a := ⟨k, 1, none⟩) hgk (.string (bs T))); have M4 : Sec (Om wa k (k + 1) (OcA 1 T none 0 0 [] none 0 0 [] [] 0 []) (.slice none 0 0) (.slice none 0 0) 0 0 [] [] (u4.setCell ⟨k, 1, none⟩ (.string (bs T)))) := sec (N4.st 1 _); have z4 : (u4.setCell ⟨k, 1, none⟩ (.string (bs T))).cell? ⟨k, 0, none⟩ = some (.int .i64 1) := M4.out.blk.cell 0))
    obtain ⟨wf, hwf⟩ : ∃ x, x = (u4.setCell ⟨k, 1, none⟩ (.string (bs T))) := ⟨_, rfl⟩
    rw [← hwf] at D4 M4 z4 ⊢
    clear hwf
    by_cases hq : (qf).2 = 0
    · have qq : (((qf).2 : Int) != 0) = false := by rw [bne_eq_false_iff_eq]; omega
      have qe : ((qf).2 : Int) = 0 := by omega
      by_cases hl : (qf).1.length = 0
      · have hlz : ¬ (0 : Int) < ((qf).1.length : Int) := by omega
        have HV5 : Sec (V = if obE ((⟨1, T, [], [], [], [], [], 0, []⟩ : Ob)) = 0 then ((⟨1, T, [], [], [], [], [], 0, []⟩ : Ob), 0) else (obZ, obE ((⟨1, T, [], [], [], [], [], 0, []⟩ : Ob)))) := sec (by rw [HVF.out]; exact if_pos ⟨hq, hl⟩)
        obtain ⟨E, hE⟩ : ∃ E, E = obE ((⟨1, T, [], [], [], [], [], 0, []⟩ : Ob)) := ⟨_, rfl⟩
        have HGo2 : Sec (∀ A c B d W, ObR W ((⟨1, T, [], [], [], [], [], 0, []⟩ : Ob)) A c B d → Calls Tryz.prog 95 #[.agg (obA ((⟨1, T, [], [], [], [], [], 0, []⟩ : Ob)) A c B d)] W fun e w' => e = .returned (.int .i64 E) ∧ Gr W w') := sec (fun A c B d W h => by rw [hE]; exact HGo.out _ A c B d W h HSZ.out)
        rw [← hE] at HV5
        clear hE hq hl HVF
        by_cases hE0 : E = 0
        · subst hE0
          have HX : Sec (V = ((⟨1, T, [], [], [], [], [], 0, []⟩ : Ob), 0)) := sec (by rw [HV5.out, if_pos rfl])
          go_upto_region 34 with (first
            | (go_at_call 34; (with_reducible refine Calls.mono (HBad.out _ _ D4.out) ?_); rintro e wb ⟨rfl, rfl⟩)
            | (go_at_call 33; (with_reducible refine Calls.mono (HLe.out _ _ D4.out) ?_); rintro e wl ⟨rfl, rfl⟩))
          go_upto_region 37 with (first
            | (go_at_call 95; (with_reducible refine Calls.mono (HGo2.out _ _ _ _ _ (obr_own M4.out.own1 M4.out.own2).1) ?_); rintro e w8 ⟨rfl, g8⟩; have M8 := sec (M4.out.gr' g8); have G8 : Gr wa w8 := M8.out.gr)
            | (refine wpList_load_blk rfl 91 (.tmp 5) rfl (g := k) rfl (cs := obA ((⟨1, T, [], [], [], [], [], 0, []⟩ : Ob)) none 0 none 0) ((obr_own M4.out.own1 M4.out.own2).2 ▸ M4.out.blk) aggOb ?_))
          go_wp2_with (first
            | (refine wpList_load_blk rfl 91 (.tmp 5) rfl (g := k) rfl (cs := obA ((⟨1, T, [], [], [], [], [], 0, []⟩ : Ob)) none 0 none 0) ((obr_own M8.out.own1 M8.out.own2).2 ▸ M8.out.blk) aggOb ?_)
            | (refine wpList_store_blk rfl 91 (.tmp 2) _ rfl (g := p) (cs' := obA ((⟨1, T, [], [], [], [], [], 0, []⟩ : Ob)) none 0 none 0) rfl rfl (HZ.out.gr G8) aggOb rfl (obA_one _ _ _ _ _) ?_; intro w9 h9 hg9))
          refine bodyPost_ret (results_blk_tmp rfl _ rfl h9 aggOb) rfl ?_
          rw [HX.out]
          have s1 := obr_own (kd := 1) (dt := ((⟨1, T, [], [], [], [], [], 0, []⟩ : Ob)).data) (tr := ((⟨1, T, [], [], [], [], [], 0, []⟩ : Ob)).tree) (wh := ((⟨1, T, [], [], [], [], [], 0, []⟩ : Ob)).who) (no := ((⟨1, T, [], [], [], [], [], 0, []⟩ : Ob)).note) (ti := ((⟨1, T, [], [], [], [], [], 0, []⟩ : Ob)).time) (ta := ((⟨1, T, [], [], [], [], [], 0, []⟩ : Ob)).target) (own_only M8.out.own1 (HZ.out.gr G8) (by decide) hg9) (own_only M8.out.own2 (HZ.out.gr G8) (by decide) hg9)
          exact ⟨none, 0, none, 0, rfl, s1.1, Gr.only (hg0.trans G8) hg9 hwp⟩
        · have HX : Sec (V = (obZ, E)) := sec (by rw [HV5.out, if_neg hE0])
          have m0 : (E != 0) = true := by simpa using hE0
          clear hE0
          go_upto_region 34 with (first
            | (go_at_call 34; (with_reducible refine Calls.mono (HBad.out _ _ D4.out) ?_); rintro e wb ⟨rfl, rfl⟩)
            | (go_at_call 33; (with_reducible refine Calls.mono (HLe.out _ _ D4.out) ?_); rintro e wl ⟨rfl, rfl⟩))
          go_upto_region 36 with (first
            | (go_at_call 95; (with_reducible refine Calls.mono (HGo2.out _ _ _ _ _ (obr_own M4.out.own1 M4.out.own2).1) ?_); rintro e w8 ⟨rfl, g8⟩; have M8 := sec (M4.out.gr' g8); have G8 : Gr wa w8 := M8.out.gr)
            | (refine wpList_load_blk rfl 91 (.tmp 5) rfl (g := k) rfl (cs := obA ((⟨1, T, [], [], [], [], [], 0, []⟩ : Ob)) none 0 none 0) ((obr_own M4.out.own1 M4.out.own2).2 ▸ M4.out.blk) aggOb ?_))
          go_wp2_with (refine wpList_store_blk rfl 91 (.tmp 2) _ rfl (g := p) (cs' := obA obZ none 0 none 0) rfl rfl (HZ.out.gr G8) aggOb rfl (obA_one _ _ _ _ _) ?_; intro w9 h9 hg9)
          refine bodyPost_ret (results_blk_tmp rfl _ rfl h9 aggOb) rfl ?_
          rw [HX.out]
          exact ⟨none, 0, none, 0, rfl, ObR.z _, Gr.only (hg0.trans G8) hg9 hwp⟩
      · have hlz : (0 : Int) < ((qf).1.length : Int) := by omega
        have HX : Sec (V = (obZ, 2)) := sec (by rw [HVF.out]; exact if_neg (fun h => hl h.2))
        clear hq hl HVF
        go_upto_region 33 with (first
          | (go_at_call 34; (with_reducible refine Calls.mono (HBad.out _ _ D4.out) ?_); rintro e wb ⟨rfl, rfl⟩)
          | (go_at_call 33; (with_reducible refine Calls.mono (HLe.out _ _ D4.out) ?_); rintro e wl ⟨rfl, rfl⟩))
        go_wp2_with (refine wpList_store_blk rfl 91 (.tmp 2) _ rfl (g := p) (cs' := obA obZ none 0 none 0) rfl rfl (HZ.out.gr M4.out.gr) aggOb rfl (obA_one _ _ _ _ _) ?_; intro w9 h9 hg9)
        refine bodyPost_ret (results_blk_tmp rfl _ rfl h9 aggOb) rfl ?_
        rw [HX.out]
        exact ⟨none, 0, none, 0, rfl, ObR.z _, Gr.only (hg0.trans M4.out.gr) hg9 hwp⟩
    · have qq : (((qf).2 : Int) != 0) = true := by rw [bne_iff_ne]; omega
      have qe : ¬ ((qf).2 : Int) = 0 := by omega
      have HX : Sec (V = (obZ, 2)) := sec (by rw [HVF.out]; exact if_neg (fun h => hq h.1))
      clear hq HVF
      go_upto_region 33 with (go_at_call 34; (with_reducible refine Calls.mono (HBad.out _ _ D4.out) ?_); rintro e wb ⟨rfl, rfl⟩)
      go_wp2_with (refine wpList_store_blk rfl 91 (.tmp 2) _ rfl (g := p) (cs' := obA obZ none 0 none 0) rfl rfl (HZ.out.gr M4.out.gr) aggOb rfl (obA_one _ _ _ _ _) ?_; intro w9 h9 hg9)
      refine bodyPost_ret (results_blk_tmp rfl _ rfl h9 aggOb) rfl ?_
      rw [HX.out]
      exact ⟨none, 0, none, 0, rfl, ObR.z _, Gr.only (hg0.trans M4.out.gr) hg9 hwp⟩
  have z1 : (kd == 1) = false := by rw [beq_eq_false_iff_ne]; exact k1
  by_cases k2 : kd = 2
  · subst k2
    have HK2 : K = 2 := by have := HKD.out; omega
    obtain ⟨n0, hn0⟩ : ∃ n, n = nxtN q1 := ⟨_, rfl⟩
    obtain ⟨q2, hq2⟩ : ∃ q, q = aftN q1 := ⟨_, rfl⟩
    have HV2 : Sec (V = match deL n0 q2 with | none => (obZ, 2) | some r => obFin (ob2 r.1) r.2) := sec (by rw [HV1.out, hn0, hq2]; unfold obR; rw [if_neg (by omega), if_pos HK2]; rfl)
    have HN2 : Sec (∀ W, RdAt 113 W g q1 → Calls Tryz.prog 31 #[.pointer (some ⟨g, 0, none⟩)] W fun e w' => e = .returned (.int .i64 (n0 : Int)) ∧ RdAt 113 w' g q2 ∧ W.grownBy w' (some g)) := sec (fun W h => by rw [hn0, hq2]; exact rdNumber g q1 W h)
    have HST : Sec (DeAt 8192 n0 q2 0 n0 q2 []) := sec (DeAt.start (by rw [hq2]; have := aftN_leO q1; have := HQ1.out; omega))
    have hn0l : n0 < 4611686018427387904 := by rw [hn0]; exact nxtN_ltO q1
    clear HK2 HV1 HKD hn0 hq2
    go_upto_region 10 with (go_at_call 31; (with_reducible refine Calls.mono (HN2.out _ D3.out) ?_); rintro e u4 ⟨rfl, d4, g4⟩; have M4 := sec (M3.out.only D3.out.blk (by decide) (by decide) hkg hga g4); have D4 := sec d4; clear d4 g4)
    clear M3 D3 z3 HN2
    go_loopg [6, 7, 8] n0 (fun fuel iv _ _ wr => ∃ n : Nat, iv = .int .i64 (n : Int) ∧ n ≤ fuel ∧ n ≤ n0 ∧ Sec (∃ i q F A1 c1, DeAt 8192 n0 q2 i n q F ∧ RdAt 113 wr g q ∧ Om wa k (k + 1) (OcA 2 [] A1 c1 i [] none 0 0 [] [] 0 []) (.slice A1 i c1) (.slice none 0 0) i 0 F [] wr))
    case atStart => exact ⟨n0, rfl, by omega, by omega, sec ⟨0, q2, [], none, 0, HST.out, D4.out, M4.out⟩⟩
    case round =>
      clear D4 M4
      obtain ⟨n, rfl, hfu, hnn, HF⟩ := hrel
      obtain ⟨i, q, F, A1, c1, hDe, hD, hM⟩ := HF.out
      have HDe := sec hDe
      have HD := sec hD
      have HM := sec hM
      have HBB := sec (show i ≤ 8193 by have := hDe.le; omega)
      clear HF hDe hD hM
      by_cases hn : 0 < n
      · have hni : (0 : Int) < (n : Int) := by omega
        by_cases hq : q.2 = 0
        · have hqi : ((q.2 : Int) == 0) = true := by rw [beq_iff_eq]; omega
          obtain ⟨x, hx⟩ : ∃ x, x = nxtN (aftT q) := ⟨_, rfl⟩
          obtain ⟨nm, hnm⟩ : ∃ s, s = nxtT q := ⟨_, rfl⟩
          obtain ⟨id, hid⟩ : ∃ s, s = nxtB 32 (aftN (aftT q)) := ⟨_, rfl⟩
          have HT1 : Sec (∀ W, RdAt 113 W g q → Calls Tryz.prog 36 #[.pointer (some ⟨g, 0, none⟩)] W fun e w' => e = .returned (.string (bs nm)) ∧ RdAt 113 w' g (aftT q) ∧ W.grownBy w' (some g)) := sec (by rw [hnm]; exact HT.out q)
          have HN1 : Sec (∀ W, RdAt 113 W g (aftT q) → Calls Tryz.prog 31 #[.pointer (some ⟨g, 0, none⟩)] W fun e w' => e = .returned (.int .i64 (x : Int)) ∧ RdAt 113 w' g (aftN (aftT q)) ∧ W.grownBy w' (some g)) := sec (by rw [hx]; exact HN.out (aftT q))
          have HB1 : Sec (∀ W, RdAt 113 W g (aftN (aftT q)) → Calls Tryz.prog 32 #[.pointer (some ⟨g, 0, none⟩), .int .i64 32] W fun e w' => e = .returned (.string (bs id)) ∧ RdAt 113 w' g (aftB 32 (aftN (aftT q))) ∧ W.grownBy w' (some g)) := sec (by rw [hid]; exact HB.out (aftN (aftT q)))
          have HNX : Sec (¬ 1 < x → DeAt 8192 n0 q2 (i + 1) (n - 1) (aftB 32 (aftN (aftT q))) (F ++ [⟨nm, decide (x = 1), id⟩])) := sec (fun h => by have h' := HDe.out; rw [show n = (n - 1) + 1 by omega] at h'; rw [hnm, hid, hx]; exact h'.next hq (by rw [← hx]; exact h))
          have HHI : Sec (1 < x → V = (obZ, 2)) := sec (fun h => by have h' := HDe.out; rw [show n = (n - 1) + 1 by omega] at h'; rw [HV2.out, h'.high hq (by rw [← hx]; exact h)])
          clear hx hnm hid hq HDe
          have hb48 : (i + 1) * 40 ≤ 140737488355328 := by have := HBB.out; omega
          have hbm : i + 1 ≤ maxLen := by have := HBB.out; unfold maxLen; omega
          go_upto_region 13 with (first
            | (go_at_call 34; (with_reducible refine Calls.mono (HBad.out _ _ HD.out) ?_); rintro e wb ⟨rfl, rfl⟩)
            | (go_at_call 36; (with_reducible refine Calls.mono (HT1.out _ HD.out) ?_); rintro e u5 ⟨rfl, d5, g5⟩; have M5 := sec (HM.out.only HD.out.blk (by decide) (by decide) hkg hga g5)))
          obtain ⟨xb, hxb⟩ : ∃ y, y = u5.heap.size := ⟨_, rfl⟩
          have HNOT := sec (M5.out.notX (x := xb) (by omega))
          have hxg : xb ≠ g := by have := d5.blk.lt; omega
          have hgx : g ≠ xb := fun e => hxg e.symm
          have B6 : Sec (Blk (u5.alloc (.cells #[.string (bs nm), .bool false, .string (bs [])] 128)) xb 128 #[.string (bs nm), .bool false, .string (bs [])]) := sec (BlkAtO hxb)
          have M6 := sec (M5.out.al (.cells #[.string (bs nm), .bool false, .string (bs [])] 128))
          have D6 := sec (d5.gr ((Gr.refl u5).alloc (.cells #[.string (bs nm), .bool false, .string (bs [])] 128)))
          obtain ⟨w6, hw6⟩ : ∃ y, y = u5.alloc (.cells #[.string (bs nm), .bool false, .string (bs [])] 128) := ⟨_, rfl⟩
          rw [← hxb]
          rw [← hw6] at B6 M6 D6 ⊢
          clear hw6 hxb d5 g5 M5 HM HD
          by_cases hx1 : 1 < x
          · have qx : (1 : Int) < (x : Int) := by omega
            have HX := sec (HHI.out hx1)
            clear hx1 HNX HHI
            go_upto_region 16 with (first
              | (go_at_call 31; (with_reducible refine Calls.mono (HN1.out _ D6.out) ?_); rintro e u7 ⟨rfl, d7, g7⟩; have M7 := sec (M6.out.only D6.out.blk (by decide) (by decide) hkg hga g7); have B7 := sec (B6.out.only g7 hxg))
              | (go_at_call 32; (with_reducible refine Calls.mono (HB1.out _ d7) ?_); rintro e u8 ⟨rfl, d8, g8⟩; have M8 := sec (M7.out.only d7.blk (by decide) (by decide) hkg hga g8); have B8 := sec (B7.out.only g8 hxg); have f8 := B8.out.frozen 2; have o8 : u8.cell? ⟨xb, 2, none⟩ = some (.string (bs [])) := B8.out.cell 2; have M9 := sec (M8.out.farx HNOT.out.1 HNOT.out.2.1 HNOT.out.2.2.1 HNOT.out.2.2.2 2 (.string (bs id))); have D9 := sec (RdAt.farO d8 (a := ⟨xb, 2, none⟩) hgx (.string (bs id))); have B9 : Sec (Blk (u8.setCell ⟨xb, 2, none⟩ (.string (bs id))) xb 128 #[.string (bs nm), .bool false, .string (bs id)]) := sec (B8.out.set_ 2 (.string (bs id)))))
            go_wp2_with (refine wpList_store_blk rfl 91 (.tmp 2) _ rfl (g := p) (cs' := obA obZ none 0 none 0) rfl rfl (HZ.out.gr M9.out.gr) aggOb rfl (obA_one _ _ _ _ _) ?_; intro w9 h9 hg9)
            refine bodyPost_ret (results_blk_tmp rfl _ rfl h9 aggOb) rfl ?_
            rw [HX.out]
            exact ⟨none, 0, none, 0, rfl, ObR.z _, Gr.only (hg0.trans M9.out.gr) hg9 hwp⟩
          by_cases hxx : x = 1
          · subst hxx
            have HN3 := sec (HNX.out (by omega))
            clear HNX HHI hx1
            go_upto_region 18 with (first
              | (go_at_call 31; (with_reducible refine Calls.mono (HN1.out _ D6.out) ?_); rintro e u7 ⟨rfl, d7, g7⟩; have M7 := sec (M6.out.only D6.out.blk (by decide) (by decide) hkg hga g7); have B7 := sec (B6.out.only g7 hxg))
              | (go_at_call 32; (with_reducible refine Calls.mono (HB1.out _ d7) ?_); rintro e u8 ⟨rfl, d8, g8⟩; have M8 := sec (M7.out.only d7.blk (by decide) (by decide) hkg hga g8); have B8 := sec (B7.out.only g8 hxg); have f8 := B8.out.frozen 2; have o8 : u8.cell? ⟨xb, 2, none⟩ = some (.string (bs [])) := B8.out.cell 2; have M9 := sec (M8.out.farx HNOT.out.1 HNOT.out.2.1 HNOT.out.2.2.1 HNOT.out.2.2.2 2 (.string (bs id))); have D9 := sec (RdAt.farO d8 (a := ⟨xb, 2, none⟩) hgx (.string (bs id))); have B9 : Sec (Blk (u8.setCell ⟨xb, 2, none⟩ (.string (bs id))) xb 128 #[.string (bs nm), .bool false, .string (bs id)]) := sec (B8.out.set_ 2 (.string (bs id))); have f9 := B9.out.frozen 1; have p9 : (u8.setCell ⟨xb, 2, none⟩ (.string (bs id))).cell? ⟨xb, 1, none⟩ = some (.bool false) := B9.out.cell 1; have MA := sec (M9.out.farx HNOT.out.1 HNOT.out.2.1 HNOT.out.2.2.1 HNOT.out.2.2.2 1 (.bool true)); have DA := sec (RdAt.farO D9.out (a := ⟨xb, 1, none⟩) hgx (.bool true)); have BA : Sec (Blk ((u8.setCell ⟨xb, 2, none⟩ (.string (bs id))).setCell ⟨xb, 1, none⟩ (.bool true)) xb 128 #[.string (bs nm), .bool true, .string (bs id)]) := sec (B9.out.set_ 1 (.bool true)); have x0 : ((u8.setCell ⟨xb, 2, none⟩ (.string (bs id))).setCell ⟨xb, 1, none⟩ (.bool true)).cell? ⟨xb, 0, none⟩ = some (.string (bs nm)) := BA.out.cell 0; have x1 : ((u8.setCell ⟨xb, 2, none⟩ (.string (bs id))).setCell ⟨xb, 1, none⟩ (.bool true)).cell? ⟨xb, 1, none⟩ = some (.bool true) := BA.out.cell 1; have x2 : ((u8.setCell ⟨xb, 2, none⟩ (.string (bs id))).setCell ⟨xb, 1, none⟩ (.bool true)).cell? ⟨xb, 2, none⟩ = some (.string (bs id)) := BA.out.cell 2; have y2 : ((u8.setCell ⟨xb, 2, none⟩ (.string (bs id))).setCell ⟨xb, 1, none⟩ (.bool true)).cell? ⟨k, 2, none⟩ = some (.slice A1 i c1) := MA.out.blk.cell 2))
            go_wp2_with (refine wpList_append_row E.ent rfl (.tmp 55) (.tmp 57) rfl (B := k + 1) (A0 := A1) (n0 := i) (cap0 := c1) (xs := F.flatMap entV) rfl (MA.out.al _).own1 rfl (rowk (BlkAtO (by simp)) rfl) (fun h => by cases h) (fun u hu => by simp at hu; rcases hu with rfl | rfl | rfl <;> rfl) hb48 hbm ((MA.out.al _).size (Nat.le_refl _)) ?_; intro Ab kb wA oA hA; have oB : wA.ownsRow (k + 1) 128 3 (.slice Ab (i + 1) kb) (i + 1) ((F ++ [(⟨nm, true, id⟩ : Ent)]).flatMap entV) := (by rw [← entV_add]; exact oA); have MB := sec ((MA.out.al (.cells #[.string (bs nm), .bool true, .string (bs id)] 128)).app1 oB hA); have DB := sec ((MA.out.al (.cells #[.string (bs nm), .bool true, .string (bs id)] 128)).rdApp1 (DA.out.gr ((Gr.refl _).alloc _)) (by decide) hA); have fB := MB.out.blk.frozen 2; have yB : wA.cell? ⟨k, 2, none⟩ = some (.slice A1 i c1) := MB.out.blk.cell 2; clear oA oB hA)
            go_roundg (gk - 1)
            case rel => exact ⟨n - 1, by go_num, by omega, by omega, sec ⟨i + 1, aftB 32 (aftN (aftT q)), F ++ [(⟨nm, true, id⟩ : Ent)], Ab, kb, HN3.out, RdAt.farO DB.out (a := ⟨k, 2, none⟩) hgk _, MB.out.st 2 (.slice Ab (i + 1) kb)⟩⟩
            case measure => omega
          · obtain rfl : x = 0 := by omega
            have HN3 := sec (HNX.out (by omega))
            clear HNX HHI hx1
            go_upto_region 18 with (first
              | (go_at_call 31; (with_reducible refine Calls.mono (HN1.out _ D6.out) ?_); rintro e u7 ⟨rfl, d7, g7⟩; have M7 := sec (M6.out.only D6.out.blk (by decide) (by decide) hkg hga g7); have B7 := sec (B6.out.only g7 hxg))
              | (go_at_call 32; (with_reducible refine Calls.mono (HB1.out _ d7) ?_); rintro e u8 ⟨rfl, d8, g8⟩; have M8 := sec (M7.out.only d7.blk (by decide) (by decide) hkg hga g8); have B8 := sec (B7.out.only g8 hxg); have f8 := B8.out.frozen 2; have o8 : u8.cell? ⟨xb, 2, none⟩ = some (.string (bs [])) := B8.out.cell 2; have M9 := sec (M8.out.farx HNOT.out.1 HNOT.out.2.1 HNOT.out.2.2.1 HNOT.out.2.2.2 2 (.string (bs id))); have D9 := sec (RdAt.farO d8 (a := ⟨xb, 2, none⟩) hgx (.string (bs id))); have B9 : Sec (Blk (u8.setCell ⟨xb, 2, none⟩ (.string (bs id))) xb 128 #[.string (bs nm), .bool false, .string (bs id)]) := sec (B8.out.set_ 2 (.string (bs id))); have f9 := B9.out.frozen 1; have p9 : (u8.setCell ⟨xb, 2, none⟩ (.string (bs id))).cell? ⟨xb, 1, none⟩ = some (.bool false) := B9.out.cell 1; have MA := sec (M9.out.farx HNOT.out.1 HNOT.out.2.1 HNOT.out.2.2.1 HNOT.out.2.2.2 1 (.bool false)); have DA := sec (RdAt.farO D9.out (a := ⟨xb, 1, none⟩) hgx (.bool false)); have BA : Sec (Blk ((u8.setCell ⟨xb, 2, none⟩ (.string (bs id))).setCell ⟨xb, 1, none⟩ (.bool false)) xb 128 #[.string (bs nm), .bool false, .string (bs id)]) := sec (B9.out.set_ 1 (.bool false)); have x0 : ((u8.setCell ⟨xb, 2, none⟩ (.string (bs id))).setCell ⟨xb, 1, none⟩ (.bool false)).cell? ⟨xb, 0, none⟩ = some (.string (bs nm)) := BA.out.cell 0; have x1 : ((u8.setCell ⟨xb, 2, none⟩ (.string (bs id))).setCell ⟨xb, 1, none⟩ (.bool false)).cell? ⟨xb, 1, none⟩ = some (.bool false) := BA.out.cell 1; have x2 : ((u8.setCell ⟨xb, 2, none⟩ (.string (bs id))).setCell ⟨xb, 1, none⟩ (.bool false)).cell? ⟨xb, 2, none⟩ = some (.string (bs id)) := BA.out.cell 2; have y2 : ((u8.setCell ⟨xb, 2, none⟩ (.string (bs id))).setCell ⟨xb, 1, none⟩ (.bool false)).cell? ⟨k, 2, none⟩ = some (.slice A1 i c1) := MA.out.blk.cell 2))
            go_wp2_with (refine wpList_append_row E.ent rfl (.tmp 55) (.tmp 57) rfl (B := k + 1) (A0 := A1) (n0 := i) (cap0 := c1) (xs := F.flatMap entV) rfl (MA.out.al _).own1 rfl (rowk (BlkAtO (by simp)) rfl) (fun h => by cases h) (fun u hu => by simp at hu; rcases hu with rfl | rfl | rfl <;> rfl) hb48 hbm ((MA.out.al _).size (Nat.le_refl _)) ?_; intro Ab kb wA oA hA; have oB : wA.ownsRow (k + 1) 128 3 (.slice Ab (i + 1) kb) (i + 1) ((F ++ [(⟨nm, false, id⟩ : Ent)]).flatMap entV) := (by rw [← entV_add]; exact oA); have MB := sec ((MA.out.al (.cells #[.string (bs nm), .bool false, .string (bs id)] 128)).app1 oB hA); have DB := sec ((MA.out.al (.cells #[.string (bs nm), .bool false, .string (bs id)] 128)).rdApp1 (DA.out.gr ((Gr.refl _).alloc _)) (by decide) hA); have fB := MB.out.blk.frozen 2; have yB : wA.cell? ⟨k, 2, none⟩ = some (.slice A1 i c1) := MB.out.blk.cell 2; clear oA oB hA)
            go_roundg (gk - 1)
            case rel => exact ⟨n - 1, by go_num, by omega, by omega, sec ⟨i + 1, aftB 32 (aftN (aftT q)), F ++ [(⟨nm, false, id⟩ : Ent)], Ab, kb, HN3.out, RdAt.farO DB.out (a := ⟨k, 2, none⟩) hgk _, MB.out.st 2 (.slice Ab (i + 1) kb)⟩⟩
            case measure => omega
        · have hqi : ((q.2 : Int) == 0) = false := by rw [beq_eq_false_iff_ne]; omega
          have HVF : Sec (V = obFin (ob2 F) q) := sec (by rw [HV2.out, HDe.out.bad hq])
          have HSZ : Sec (ObSz 1099511627776 (ob2 F)) := sec (by
            have h1 := HDe.out.fl
            have h2 := HBB.out
            exact ⟨by simp [ob2], by simp only [ob2]; omega, fun x hx => by have := HDe.out.each x hx; omega, by simp [ob2], by simp [ob2], by simp [ob2], by simp [ob2], by simp [ob2], by simp [ob2]⟩)
          have zz : wr.cell? ⟨k, 0, none⟩ = some (.int .i64 2) := HM.out.blk.cell 0
          clear HDe hfu hnn HST
          · have qq : (((q).2 : Int) != 0) = true := by rw [bne_iff_ne]; omega
            have qe : ¬ ((q).2 : Int) = 0 := by omega
            have HX : Sec (V = (obZ, 2)) := sec (by rw [HVF.out]; exact if_neg (fun h => hq h.1))
            clear hq HVF
            go_upto_region 33 with (go_at_call 34; (with_reducible refine Calls.mono (HBad.out _ _ HD.out) ?_); rintro e wb ⟨rfl, rfl⟩)
            go_wp2_with (refine wpList_store_blk rfl 91 (.tmp 2) _ rfl (g := p) (cs' := obA obZ none 0 none 0) rfl rfl (HZ.out.gr HM.out.gr) aggOb rfl (obA_one _ _ _ _ _) ?_; intro w9 h9 hg9)
            refine bodyPost_ret (results_blk_tmp rfl _ rfl h9 aggOb) rfl ?_
            rw [HX.out]
            exact ⟨none, 0, none, 0, rfl, ObR.z _, Gr.only (hg0.trans HM.out.gr) hg9 hwp⟩
      · obtain rfl : n = 0 := by omega
        have HVF : Sec (V = obFin (ob2 F) q) := sec (by rw [HV2.out, HDe.out.done])
        have HSZ : Sec (ObSz 1099511627776 (ob2 F)) := sec (by
          have h1 := HDe.out.fl
          have h2 := HBB.out
          exact ⟨by simp [ob2], by simp only [ob2]; omega, fun x hx => by have := HDe.out.each x hx; omega, by simp [ob2], by simp [ob2], by simp [ob2], by simp [ob2], by simp [ob2], by simp [ob2]⟩)
        have zz : wr.cell? ⟨k, 0, none⟩ = some (.int .i64 2) := HM.out.blk.cell 0
        clear HDe hfu hnn HST hn
        by_cases hq : (q).2 = 0
        · have qq : (((q).2 : Int) != 0) = false := by rw [bne_eq_false_iff_eq]; omega
          have qe : ((q).2 : Int) = 0 := by omega
          by_cases hl : (q).1.length = 0
          · have hlz : ¬ (0 : Int) < ((q).1.length : Int) := by omega
            have HV5 : Sec (V = if obE ((⟨2, [], F, [], [], [], [], 0, []⟩ : Ob)) = 0 then ((⟨2, [], F, [], [], [], [], 0, []⟩ : Ob), 0) else (obZ, obE ((⟨2, [], F, [], [], [], [], 0, []⟩ : Ob)))) := sec (by rw [HVF.out]; exact if_pos ⟨hq, hl⟩)
            obtain ⟨E, hE⟩ : ∃ E, E = obE ((⟨2, [], F, [], [], [], [], 0, []⟩ : Ob)) := ⟨_, rfl⟩
            have HGo2 : Sec (∀ A c B d W, ObR W ((⟨2, [], F, [], [], [], [], 0, []⟩ : Ob)) A c B d → Calls Tryz.prog 95 #[.agg (obA ((⟨2, [], F, [], [], [], [], 0, []⟩ : Ob)) A c B d)] W fun e w' => e = .returned (.int .i64 E) ∧ Gr W w') := sec (fun A c B d W h => by rw [hE]; exact HGo.out _ A c B d W h HSZ.out)
            rw [← hE] at HV5
            clear hE hq hl HVF
            by_cases hE0 : E = 0
            · subst hE0
              have HX : Sec (V = ((⟨2, [], F, [], [], [], [], 0, []⟩ : Ob), 0)) := sec (by rw [HV5.out, if_pos rfl])
              go_upto_region 34 with (first
                | (go_at_call 34; (with_reducible refine Calls.mono (HBad.out _ _ HD.out) ?_); rintro e wb ⟨rfl, rfl⟩)
                | (go_at_call 33; (with_reducible refine Calls.mono (HLe.out _ _ HD.out) ?_); rintro e wl ⟨rfl, rfl⟩))
              go_upto_region 37 with (first
                | (go_at_call 95; (with_reducible refine Calls.mono (HGo2.out _ _ _ _ _ (obr_own HM.out.own1 HM.out.own2).1) ?_); rintro e w8 ⟨rfl, g8⟩; have M8 := sec (HM.out.gr' g8); have G8 : Gr wa w8 := M8.out.gr)
                | (refine wpList_load_blk rfl 91 (.tmp 5) rfl (g := k) rfl (cs := obA ((⟨2, [], F, [], [], [], [], 0, []⟩ : Ob)) A1 c1 none 0) ((obr_own HM.out.own1 HM.out.own2).2 ▸ HM.out.blk) aggOb ?_))
              go_wp2_with (first
                | (refine wpList_load_blk rfl 91 (.tmp 5) rfl (g := k) rfl (cs := obA ((⟨2, [], F, [], [], [], [], 0, []⟩ : Ob)) A1 c1 none 0) ((obr_own M8.out.own1 M8.out.own2).2 ▸ M8.out.blk) aggOb ?_)
                | (refine wpList_store_blk rfl 91 (.tmp 2) _ rfl (g := p) (cs' := obA ((⟨2, [], F, [], [], [], [], 0, []⟩ : Ob)) A1 c1 none 0) rfl rfl (HZ.out.gr G8) aggOb rfl (obA_one _ _ _ _ _) ?_; intro w9 h9 hg9))
              refine bodyPost_ret (results_blk_tmp rfl _ rfl h9 aggOb) rfl ?_
              rw [HX.out]
              have s1 := obr_own (kd := 2) (dt := ((⟨2, [], F, [], [], [], [], 0, []⟩ : Ob)).data) (tr := ((⟨2, [], F, [], [], [], [], 0, []⟩ : Ob)).tree) (wh := ((⟨2, [], F, [], [], [], [], 0, []⟩ : Ob)).who) (no := ((⟨2, [], F, [], [], [], [], 0, []⟩ : Ob)).note) (ti := ((⟨2, [], F, [], [], [], [], 0, []⟩ : Ob)).time) (ta := ((⟨2, [], F, [], [], [], [], 0, []⟩ : Ob)).target) (own_only M8.out.own1 (HZ.out.gr G8) (by decide) hg9) (own_only M8.out.own2 (HZ.out.gr G8) (by decide) hg9)
              exact ⟨A1, c1, none, 0, rfl, s1.1, Gr.only (hg0.trans G8) hg9 hwp⟩
            · have HX : Sec (V = (obZ, E)) := sec (by rw [HV5.out, if_neg hE0])
              have m0 : (E != 0) = true := by simpa using hE0
              clear hE0
              go_upto_region 34 with (first
                | (go_at_call 34; (with_reducible refine Calls.mono (HBad.out _ _ HD.out) ?_); rintro e wb ⟨rfl, rfl⟩)
                | (go_at_call 33; (with_reducible refine Calls.mono (HLe.out _ _ HD.out) ?_); rintro e wl ⟨rfl, rfl⟩))
              go_upto_region 36 with (first
                | (go_at_call 95; (with_reducible refine Calls.mono (HGo2.out _ _ _ _ _ (obr_own HM.out.own1 HM.out.own2).1) ?_); rintro e w8 ⟨rfl, g8⟩; have M8 := sec (HM.out.gr' g8); have G8 : Gr wa w8 := M8.out.gr)
                | (refine wpList_load_blk rfl 91 (.tmp 5) rfl (g := k) rfl (cs := obA ((⟨2, [], F, [], [], [], [], 0, []⟩ : Ob)) A1 c1 none 0) ((obr_own HM.out.own1 HM.out.own2).2 ▸ HM.out.blk) aggOb ?_))
              go_wp2_with (refine wpList_store_blk rfl 91 (.tmp 2) _ rfl (g := p) (cs' := obA obZ none 0 none 0) rfl rfl (HZ.out.gr G8) aggOb rfl (obA_one _ _ _ _ _) ?_; intro w9 h9 hg9)
              refine bodyPost_ret (results_blk_tmp rfl _ rfl h9 aggOb) rfl ?_
              rw [HX.out]
              exact ⟨none, 0, none, 0, rfl, ObR.z _, Gr.only (hg0.trans G8) hg9 hwp⟩
          · have hlz : (0 : Int) < ((q).1.length : Int) := by omega
            have HX : Sec (V = (obZ, 2)) := sec (by rw [HVF.out]; exact if_neg (fun h => hl h.2))
            clear hq hl HVF
            go_upto_region 33 with (first
              | (go_at_call 34; (with_reducible refine Calls.mono (HBad.out _ _ HD.out) ?_); rintro e wb ⟨rfl, rfl⟩)
              | (go_at_call 33; (with_reducible refine Calls.mono (HLe.out _ _ HD.out) ?_); rintro e wl ⟨rfl, rfl⟩))
            go_wp2_with (refine wpList_store_blk rfl 91 (.tmp 2) _ rfl (g := p) (cs' := obA obZ none 0 none 0) rfl rfl (HZ.out.gr HM.out.gr) aggOb rfl (obA_one _ _ _ _ _) ?_; intro w9 h9 hg9)
            refine bodyPost_ret (results_blk_tmp rfl _ rfl h9 aggOb) rfl ?_
            rw [HX.out]
            exact ⟨none, 0, none, 0, rfl, ObR.z _, Gr.only (hg0.trans HM.out.gr) hg9 hwp⟩
        · have qq : (((q).2 : Int) != 0) = true := by rw [bne_iff_ne]; omega
          have qe : ¬ ((q).2 : Int) = 0 := by omega
          have HX : Sec (V = (obZ, 2)) := sec (by rw [HVF.out]; exact if_neg (fun h => hq h.1))
          clear hq HVF
          go_upto_region 33 with (go_at_call 34; (with_reducible refine Calls.mono (HBad.out _ _ HD.out) ?_); rintro e wb ⟨rfl, rfl⟩)
          go_wp2_with (refine wpList_store_blk rfl 91 (.tmp 2) _ rfl (g := p) (cs' := obA obZ none 0 none 0) rfl rfl (HZ.out.gr HM.out.gr) aggOb rfl (obA_one _ _ _ _ _) ?_; intro w9 h9 hg9)
          refine bodyPost_ret (results_blk_tmp rfl _ rfl h9 aggOb) rfl ?_
          rw [HX.out]
          exact ⟨none, 0, none, 0, rfl, ObR.z _, Gr.only (hg0.trans HM.out.gr) hg9 hwp⟩
  have z2 : (kd == 2) = false := by rw [beq_eq_false_iff_ne]; exact k2
  by_cases k3 : kd = 3
  · subst k3
    have HK3 : K = 3 := by have := HKD.out; omega
    obtain ⟨n0, hn0⟩ : ∃ n, n = nxtN (aftB 32 q1) := ⟨_, rfl⟩
    obtain ⟨q2, hq2⟩ : ∃ q, q = aftN (aftB 32 q1) := ⟨_, rfl⟩
    have HV2 : Sec (V = obFin (ob3 q1 (dpL n0 q2).1 (dpL n0 q2).2) (aftT (aftN (aftT (dpL n0 q2).2)))) := sec (by rw [HV1.out, hn0, hq2]; unfold obR; rw [if_neg (by omega), if_neg (by omega), if_pos HK3])
    have HN2 : Sec (∀ W, RdAt 113 W g (aftB 32 q1) → Calls Tryz.prog 31 #[.pointer (some ⟨g, 0, none⟩)] W fun e w' => e = .returned (.int .i64 (n0 : Int)) ∧ RdAt 113 w' g q2 ∧ W.grownBy w' (some g)) := sec (fun W h => by rw [hn0, hq2]; exact rdNumber g (aftB 32 q1) W h)
    have HST : Sec (DpAt 8192 n0 q2 0 n0 q2 []) := sec (DpAt.start (by rw [hq2]; have := aftN_leO (aftB 32 q1); have := aftB_leO 32 q1; have := HQ1.out; omega))
    have hn0l : n0 < 4611686018427387904 := by rw [hn0]; exact nxtN_ltO (aftB 32 q1)
    obtain ⟨tr, htr⟩ : ∃ s, s = nxtB 32 q1 := ⟨_, rfl⟩
    have HTR : Sec (tr = nxtB 32 q1) := sec htr
    have HB1 : Sec (∀ W, RdAt 113 W g q1 → Calls Tryz.prog 32 #[.pointer (some ⟨g, 0, none⟩), .int .i64 32] W fun e w' => e = .returned (.string (bs tr)) ∧ RdAt 113 w' g (aftB 32 q1) ∧ W.grownBy w' (some g)) := sec (fun W h => by rw [htr]; exact HB.out q1 W h)
    clear HK3 HV1 HKD hn0 hq2 htr
    go_upto_region 22 with (first
      | (go_at_call 31; (with_reducible refine Calls.mono (HN2.out _ D4.out) ?_); rintro e u5 ⟨rfl, d5, g5⟩; have M5 := sec (M4.out.only D4.out.blk (by decide) (by decide) hkg hga g5); have D5 := sec d5; clear d5 g5)
      | (go_at_call 32; (with_reducible refine Calls.mono (HB1.out _ D3.out) ?_); rintro e u4 ⟨rfl, d4, g4⟩; have N4 := M3.out.only D3.out.blk (by decide) (by decide) hkg hga g4; have f4 := N4.blk.frozen 3; have o4 : u4.cell? ⟨k, 3, none⟩ = some (.string (bs [])) := N4.blk.cell 3; have D4 := sec (RdAt.farO d4 (a := ⟨k, 3, none⟩) hgk (.string (bs tr))); have M4 : Sec (Om wa k (k + 1) (OcA 3 [] none 0 0 tr none 0 0 [] [] 0 []) (.slice none 0 0) (.slice none 0 0) 0 0 [] [] (u4.setCell ⟨k, 3, none⟩ (.string (bs tr)))) := sec (N4.st 3 _); have z4 : (u4.setCell ⟨k, 3, none⟩ (.string (bs tr))).cell? ⟨k, 0, none⟩ = some (.int .i64 3) := M4.out.blk.cell 0))
    clear M3 D3 z3 HN2 HB1
    have HC : Sec (∀ B d i G W, Om wa k (k + 1) (OcA 3 [] none 0 0 tr B d i [] [] 0 []) (.slice none 0 0) (.slice B i d) 0 i [] G W → W.cell? ⟨k, 4, none⟩ = some (.slice B i d) ∧ W.frozen? ⟨k, 4, none⟩ = false) := sec (fun B d i G W h => ⟨h.blk.cell 4, h.blk.frozen 4⟩)
    go_loopg [9] n0 (fun fuel iv wr => ∃ n : Nat, iv = .int .i64 (n : Int) ∧ n ≤ fuel ∧ n ≤ n0 ∧ Sec (∃ i q G B1 d1, DpAt 8192 n0 q2 i n q G ∧ RdAt 113 wr g q ∧ Om wa k (k + 1) (OcA 3 [] none 0 0 tr B1 d1 i [] [] 0 []) (.slice none 0 0) (.slice B1 i d1) 0 i [] G wr))
    case atStart => exact ⟨n0, rfl, by omega, by omega, sec ⟨0, q2, [], none, 0, HST.out, D5.out, M5.out⟩⟩
    case round =>
      clear D5 M5 D4 M4
      obtain ⟨n, rfl, hfu, hnn, HF⟩ := hrel
      obtain ⟨i, q, G, B1, d1, hDe, hD, hM⟩ := HF.out
      have HDe := sec hDe
      have HD := sec hD
      have HM := sec hM
      have HBB := sec (show i ≤ 8193 by have := hDe.le; omega)
      clear HF hDe hD hM
      by_cases hn : 0 < n
      · have hni : (0 : Int) < (n : Int) := by omega
        by_cases hq : q.2 = 0
        · have hqi : ((q.2 : Int) == 0) = true := by rw [beq_iff_eq]; omega
          have HNX : Sec (DpAt 8192 n0 q2 (i + 1) (n - 1) (aftB 32 q) (G ++ [nxtB 32 q])) := sec (by have h' := HDe.out; rw [show n = (n - 1) + 1 by omega] at h'; exact h'.next hq)
          obtain ⟨sv, hsv⟩ : ∃ s, s = nxtB 32 q := ⟨_, rfl⟩
          have HB1 : Sec (∀ W, RdAt 113 W g q → Calls Tryz.prog 32 #[.pointer (some ⟨g, 0, none⟩), .int .i64 32] W fun e w' => e = .returned (.string (bs sv)) ∧ RdAt 113 w' g (aftB 32 q) ∧ W.grownBy w' (some g)) := sec (by rw [hsv]; exact HB.out q)
          rw [← hsv] at HNX
          clear hsv hq HDe
          have hb16 : (i + 1) * 16 ≤ 140737488355328 := by have := HBB.out; omega
          have hbm : i + 1 ≤ maxLen := by have := HBB.out; unfold maxLen; omega
          go_upto_region 24 with (go_at_call 34; (with_reducible refine Calls.mono (HBad.out _ _ HD.out) ?_); rintro e wb ⟨rfl, rfl⟩)
          obtain ⟨y0, y1⟩ := HC.out _ _ _ _ _ HM.out
          go_region_law (first
            | (go_simp; go_at_call 32; (refine Calls.mono (HB1.out _ (RdAt.gr HD.out ?gx)) ?_); (case gx => first | exact Gr.refl _ | exact (Gr.refl _).drew); rintro e w1 ⟨rfl, D1, g1⟩; have M1 : Om wa k (k + 1) (OcA 3 [] none 0 0 tr B1 d1 i [] [] 0 []) (.slice none 0 0) (.slice B1 i d1) 0 i [] G w1 := (by first | exact HM.out.rd (Gr.refl _) HD.out (by decide) (by decide) hkg hga g1 | exact HM.out.rd (Gr.refl _).drew HD.out (by decide) (by decide) hkg hga g1); obtain ⟨a0, a1⟩ := HC.out _ _ _ _ _ M1; obtain ⟨c0, c1'⟩ := HC.out _ _ _ _ _ (M1.al (.cells #[.string (bs sv)] 9)))
            | (refine step_append_row (B := k + 1) (A0 := B1) (n0 := i) (cap0 := d1) (xs := G.map strV) (A := some ⟨w1.heap.size, 0, none⟩) (n := 1) (c := 1) (vs := [.string (bs sv)]) E.str rfl (.tmp 77) (.tmp 80) rfl ?hd ?ho ?hx (rowk (T := 9) (cs := #[.string (bs sv)]) ?hr rfl) (fun h => by cases h) (fun u hu => by simp at hu; subst hu; rfl) hb16 hbm ?hB ?_; (case hd => first | (simp [Act.eval]; done) | (simp [Act.eval, Act.put]; done)); (case hx => first | (simp [Act.eval]; done) | (simp [Act.eval, Act.put]; done)); (case ho => refine Om.own2 (w0 := wa) (q := k) (K := k + 1) (cs := (OcA 3 [] none 0 0 tr B1 d1 i [] [] 0 [])) (X := .slice none 0 0) (Y := .slice B1 i d1) (N := 0) (M := i) (F := []) (G := G) ?_; (repeat (first | with_reducible exact M1 | with_reducible refine Om.drew ?_ | with_reducible refine Om.al ?_ _)); done); (case hr => (repeat (first | (with_reducible refine BlkAtO ?_; simp; done) | with_reducible refine Blk.drew ?_ | with_reducible refine Blk.alloc ?_ _)); done); (case hB => refine Om.size (w0 := wa) (q := k) (K := k + 1) (cs := (OcA 3 [] none 0 0 tr B1 d1 i [] [] 0 [])) (X := .slice none 0 0) (Y := .slice B1 i d1) (N := 0) (M := i) (F := []) (G := G) ?_ (Nat.le_refl _); (repeat (first | with_reducible exact M1 | with_reducible refine Om.drew ?_ | with_reducible refine Om.al ?_ _)); done); intro Bb kb wA oA hA; rw [sV_addO] at oA; have MA : Om wa k (k + 1) (OcA 3 [] none 0 0 tr B1 d1 i [] [] 0 []) (.slice none 0 0) (.slice Bb (i + 1) kb) 0 (i + 1) [] (G ++ [sv]) wA := (by refine Om.app2 (w0 := wa) (q := k) (K := k + 1) (cs := (OcA 3 [] none 0 0 tr B1 d1 i [] [] 0 [])) (X := .slice none 0 0) (Y := .slice B1 i d1) (N := 0) (M := i) (F := []) (G := G) ?_ oA hA; (repeat (first | with_reducible exact M1 | with_reducible refine Om.drew ?_ | with_reducible refine Om.al ?_ _))); have DA : RdAt 113 wA g (aftB 32 q) := (by refine Om.rdApp2 (w0 := wa) (q := k) (K := k + 1) (cs := (OcA 3 [] none 0 0 tr B1 d1 i [] [] 0 [])) (X := .slice none 0 0) (Y := .slice B1 i d1) (N := 0) (M := i) (F := []) (G := G) ?hm (RdAt.gr D1 ?hg) (by decide) hA; (case hm => (repeat (first | with_reducible exact M1 | with_reducible refine Om.drew ?_ | with_reducible refine Om.al ?_ _)); done); (case hg => (first | exact (Gr.refl _).alloc _ | exact ((Gr.refl _).alloc _).drew | exact ((Gr.refl _).drew.alloc _)))); obtain ⟨b0, b1⟩ := (show wA.cell? ⟨k, 4, none⟩ = some (.slice B1 i d1) ∧ wA.frozen? ⟨k, 4, none⟩ = false from ⟨MA.blk.cell 4, MA.blk.frozen 4⟩)))
          all_goals
            go_wp2_with fail
            go_roundg (gk - 1)
            case rel => exact ⟨n - 1, by go_num, by omega, by omega, sec ⟨i + 1, aftB 32 q, G ++ [sv], _, _, HNX.out, RdAt.farO DA (a := ⟨k, 4, none⟩) hgk _, MA.st 4 _⟩⟩
            case measure => omega
        · have hqi : ((q.2 : Int) == 0) = false := by rw [beq_eq_false_iff_ne]; omega
          obtain ⟨wh, h_wh⟩ : ∃ x, x = nxtT (q) := ⟨_, rfl⟩
          obtain ⟨qa, h_qa⟩ : ∃ x, x = aftT (q) := ⟨_, rfl⟩
          have HT5 : Sec (∀ W, RdAt 113 W g q → Calls Tryz.prog 36 #[.pointer (some ⟨g, 0, none⟩)] W fun e w' => e = .returned (.string (bs wh)) ∧ RdAt 113 w' g qa ∧ W.grownBy w' (some g)) := sec (fun W h => by rw [h_wh, h_qa]; exact HT.out q W h)
          obtain ⟨tm, h_tm⟩ : ∃ x, x = nxtN (qa) := ⟨_, rfl⟩
          obtain ⟨qb, h_qb⟩ : ∃ x, x = aftN (qa) := ⟨_, rfl⟩
          have HN6 : Sec (∀ W, RdAt 113 W g qa → Calls Tryz.prog 31 #[.pointer (some ⟨g, 0, none⟩)] W fun e w' => e = .returned (.int .i64 (tm : Int)) ∧ RdAt 113 w' g qb ∧ W.grownBy w' (some g)) := sec (fun W h => by rw [h_tm, h_qb]; exact HN.out qa W h)
          obtain ⟨no, h_no⟩ : ∃ x, x = nxtT (qb) := ⟨_, rfl⟩
          obtain ⟨qf, h_qf⟩ : ∃ x, x = aftT (qb) := ⟨_, rfl⟩
          have HT7 : Sec (∀ W, RdAt 113 W g qb → Calls Tryz.prog 36 #[.pointer (some ⟨g, 0, none⟩)] W fun e w' => e = .returned (.string (bs no)) ∧ RdAt 113 w' g qf ∧ W.grownBy w' (some g)) := sec (fun W h => by rw [h_no, h_qf]; exact HT.out qb W h)
          have HVF : Sec (V = obFin (⟨3, [], [], tr, G, wh, no, (tm : Int), []⟩ : Ob) qf) := sec (by rw [HV2.out, HDe.out.bad hq, h_qf, h_no, h_qb, h_tm, h_qa, h_wh, HTR.out]; rfl)
          have HSZ : Sec (ObSz 1099511627776 (⟨3, [], [], tr, G, wh, no, (tm : Int), []⟩ : Ob)) := sec (by
            have h1 := HDe.out.gl
            have h2 := HBB.out
            have h3 := nxtT_leO q
            have h4 := nxtT_leO qb
            have h5 := aftN_leO qa
            have h6 := aftT_leO q
            have h7 := HDe.out.len
            have h8 := nxtB_leO q1
            have h9 := HTR.out
            rw [← h_wh] at h3
            rw [← h_no] at h4
            rw [← h_qb] at h5
            rw [← h_qa] at h6
            rw [← h9] at h8
            exact ⟨by simp, by simp, by simp, by simp only; omega, by simp only; omega, fun x hx => by have := HDe.out.each x hx; omega, by simp only; omega, by simp only; omega, by simp⟩)
          have zz : wr.cell? ⟨k, 0, none⟩ = some (.int .i64 3) := HM.out.blk.cell 0
          clear HDe hfu hnn HST HC h_qf h_no h_qb h_tm h_qa h_wh
          go_upto_region 32 with (first
            | (go_at_call 34; (with_reducible refine Calls.mono (HBad.out _ _ HD.out) ?_); rintro e wb ⟨rfl, rfl⟩)
            | (go_at_call 36; (with_reducible refine Calls.mono (HT5.out _ HD.out) ?_); rintro e u5 ⟨rfl, d5, g5⟩; have N5 := HM.out.only HD.out.blk (by decide) (by decide) hkg hga g5; have f5 := N5.blk.frozen 5; have o5 : u5.cell? ⟨k, 5, none⟩ = some (.string (bs [])) := N5.blk.cell 5; have D5 := sec (RdAt.farO d5 (a := ⟨k, 5, none⟩) hgk (.string (bs wh))); have M5 : Sec (Om wa k (k + 1) (OcA 3 [] none 0 0 tr B1 d1 i wh [] 0 []) (.slice none 0 0) (.slice B1 i d1) 0 i [] G (u5.setCell ⟨k, 5, none⟩ (.string (bs wh)))) := sec (N5.st 5 _); have z5 : (u5.setCell ⟨k, 5, none⟩ (.string (bs wh))).cell? ⟨k, 0, none⟩ = some (.int .i64 3) := M5.out.blk.cell 0)
            | (go_at_call 31; (with_reducible refine Calls.mono (HN6.out _ D5.out) ?_); rintro e u6 ⟨rfl, d6, g6⟩; have N6 := M5.out.only D5.out.blk (by decide) (by decide) hkg hga g6; have f6 := N6.blk.frozen 7; have o6 : u6.cell? ⟨k, 7, none⟩ = some (.int .i64 0) := N6.blk.cell 7; have D6 := sec (RdAt.farO d6 (a := ⟨k, 7, none⟩) hgk (.int .i64 (tm : Int))); have M6 : Sec (Om wa k (k + 1) (OcA 3 [] none 0 0 tr B1 d1 i wh [] (tm : Int) []) (.slice none 0 0) (.slice B1 i d1) 0 i [] G (u6.setCell ⟨k, 7, none⟩ (.int .i64 (tm : Int)))) := sec (N6.st 7 _); have z6 : (u6.setCell ⟨k, 7, none⟩ (.int .i64 (tm : Int))).cell? ⟨k, 0, none⟩ = some (.int .i64 3) := M6.out.blk.cell 0)
            | (go_at_call 36; (with_reducible refine Calls.mono (HT7.out _ D6.out) ?_); rintro e u7 ⟨rfl, d7, g7⟩; have N7 := M6.out.only D6.out.blk (by decide) (by decide) hkg hga g7; have f7 := N7.blk.frozen 6; have o7 : u7.cell? ⟨k, 6, none⟩ = some (.string (bs [])) := N7.blk.cell 6; have D7 := sec (RdAt.farO d7 (a := ⟨k, 6, none⟩) hgk (.string (bs no))); have M7 : Sec (Om wa k (k + 1) (OcA 3 [] none 0 0 tr B1 d1 i wh no (tm : Int) []) (.slice none 0 0) (.slice B1 i d1) 0 i [] G (u7.setCell ⟨k, 6, none⟩ (.string (bs no)))) := sec (N7.st 6 _); have z7 : (u7.setCell ⟨k, 6, none⟩ (.string (bs no))).cell? ⟨k, 0, none⟩ = some (.int .i64 3) := M7.out.blk.cell 0))
          obtain ⟨wf, hwf⟩ : ∃ x, x = (u7.setCell ⟨k, 6, none⟩ (.string (bs no))) := ⟨_, rfl⟩
          rw [← hwf] at D7 M7 z7 ⊢
          clear hwf
          by_cases hq : (qf).2 = 0
          · have qq : (((qf).2 : Int) != 0) = false := by rw [bne_eq_false_iff_eq]; omega
            have qe : ((qf).2 : Int) = 0 := by omega
            by_cases hl : (qf).1.length = 0
            · have hlz : ¬ (0 : Int) < ((qf).1.length : Int) := by omega
              have HV5 : Sec (V = if obE ((⟨3, [], [], tr, G, wh, no, (tm : Int), []⟩ : Ob)) = 0 then ((⟨3, [], [], tr, G, wh, no, (tm : Int), []⟩ : Ob), 0) else (obZ, obE ((⟨3, [], [], tr, G, wh, no, (tm : Int), []⟩ : Ob)))) := sec (by rw [HVF.out]; exact if_pos ⟨hq, hl⟩)
              obtain ⟨E, hE⟩ : ∃ E, E = obE ((⟨3, [], [], tr, G, wh, no, (tm : Int), []⟩ : Ob)) := ⟨_, rfl⟩
              have HGo2 : Sec (∀ A c B d W, ObR W ((⟨3, [], [], tr, G, wh, no, (tm : Int), []⟩ : Ob)) A c B d → Calls Tryz.prog 95 #[.agg (obA ((⟨3, [], [], tr, G, wh, no, (tm : Int), []⟩ : Ob)) A c B d)] W fun e w' => e = .returned (.int .i64 E) ∧ Gr W w') := sec (fun A c B d W h => by rw [hE]; exact HGo.out _ A c B d W h HSZ.out)
              rw [← hE] at HV5
              clear hE hq hl HVF
              by_cases hE0 : E = 0
              · subst hE0
                have HX : Sec (V = ((⟨3, [], [], tr, G, wh, no, (tm : Int), []⟩ : Ob), 0)) := sec (by rw [HV5.out, if_pos rfl])
                go_upto_region 34 with (first
                  | (go_at_call 34; (with_reducible refine Calls.mono (HBad.out _ _ D7.out) ?_); rintro e wb ⟨rfl, rfl⟩)
                  | (go_at_call 33; (with_reducible refine Calls.mono (HLe.out _ _ D7.out) ?_); rintro e wl ⟨rfl, rfl⟩))
                go_upto_region 37 with (first
                  | (go_at_call 95; (with_reducible refine Calls.mono (HGo2.out _ _ _ _ _ (obr_own M7.out.own1 M7.out.own2).1) ?_); rintro e w8 ⟨rfl, g8⟩; have M8 := sec (M7.out.gr' g8); have G8 : Gr wa w8 := M8.out.gr)
                  | (refine wpList_load_blk rfl 91 (.tmp 5) rfl (g := k) rfl (cs := obA ((⟨3, [], [], tr, G, wh, no, (tm : Int), []⟩ : Ob)) none 0 B1 d1) ((obr_own M7.out.own1 M7.out.own2).2 ▸ M7.out.blk) aggOb ?_))
                go_wp2_with (first
                  | (refine wpList_load_blk rfl 91 (.tmp 5) rfl (g := k) rfl (cs := obA ((⟨3, [], [], tr, G, wh, no, (tm : Int), []⟩ : Ob)) none 0 B1 d1) ((obr_own M8.out.own1 M8.out.own2).2 ▸ M8.out.blk) aggOb ?_)
                  | (refine wpList_store_blk rfl 91 (.tmp 2) _ rfl (g := p) (cs' := obA ((⟨3, [], [], tr, G, wh, no, (tm : Int), []⟩ : Ob)) none 0 B1 d1) rfl rfl (HZ.out.gr G8) aggOb rfl (obA_one _ _ _ _ _) ?_; intro w9 h9 hg9))
                refine bodyPost_ret (results_blk_tmp rfl _ rfl h9 aggOb) rfl ?_
                rw [HX.out]
                have s1 := obr_own (kd := 3) (dt := ((⟨3, [], [], tr, G, wh, no, (tm : Int), []⟩ : Ob)).data) (tr := ((⟨3, [], [], tr, G, wh, no, (tm : Int), []⟩ : Ob)).tree) (wh := ((⟨3, [], [], tr, G, wh, no, (tm : Int), []⟩ : Ob)).who) (no := ((⟨3, [], [], tr, G, wh, no, (tm : Int), []⟩ : Ob)).note) (ti := ((⟨3, [], [], tr, G, wh, no, (tm : Int), []⟩ : Ob)).time) (ta := ((⟨3, [], [], tr, G, wh, no, (tm : Int), []⟩ : Ob)).target) (own_only M8.out.own1 (HZ.out.gr G8) (by decide) hg9) (own_only M8.out.own2 (HZ.out.gr G8) (by decide) hg9)
                exact ⟨none, 0, B1, d1, rfl, s1.1, Gr.only (hg0.trans G8) hg9 hwp⟩
              · have HX : Sec (V = (obZ, E)) := sec (by rw [HV5.out, if_neg hE0])
                have m0 : (E != 0) = true := by simpa using hE0
                clear hE0
                go_upto_region 34 with (first
                  | (go_at_call 34; (with_reducible refine Calls.mono (HBad.out _ _ D7.out) ?_); rintro e wb ⟨rfl, rfl⟩)
                  | (go_at_call 33; (with_reducible refine Calls.mono (HLe.out _ _ D7.out) ?_); rintro e wl ⟨rfl, rfl⟩))
                go_upto_region 36 with (first
                  | (go_at_call 95; (with_reducible refine Calls.mono (HGo2.out _ _ _ _ _ (obr_own M7.out.own1 M7.out.own2).1) ?_); rintro e w8 ⟨rfl, g8⟩; have M8 := sec (M7.out.gr' g8); have G8 : Gr wa w8 := M8.out.gr)
                  | (refine wpList_load_blk rfl 91 (.tmp 5) rfl (g := k) rfl (cs := obA ((⟨3, [], [], tr, G, wh, no, (tm : Int), []⟩ : Ob)) none 0 B1 d1) ((obr_own M7.out.own1 M7.out.own2).2 ▸ M7.out.blk) aggOb ?_))
                go_wp2_with (refine wpList_store_blk rfl 91 (.tmp 2) _ rfl (g := p) (cs' := obA obZ none 0 none 0) rfl rfl (HZ.out.gr G8) aggOb rfl (obA_one _ _ _ _ _) ?_; intro w9 h9 hg9)
                refine bodyPost_ret (results_blk_tmp rfl _ rfl h9 aggOb) rfl ?_
                rw [HX.out]
                exact ⟨none, 0, none, 0, rfl, ObR.z _, Gr.only (hg0.trans G8) hg9 hwp⟩
            · have hlz : (0 : Int) < ((qf).1.length : Int) := by omega
              have HX : Sec (V = (obZ, 2)) := sec (by rw [HVF.out]; exact if_neg (fun h => hl h.2))
              clear hq hl HVF
              go_upto_region 33 with (first
                | (go_at_call 34; (with_reducible refine Calls.mono (HBad.out _ _ D7.out) ?_); rintro e wb ⟨rfl, rfl⟩)
                | (go_at_call 33; (with_reducible refine Calls.mono (HLe.out _ _ D7.out) ?_); rintro e wl ⟨rfl, rfl⟩))
              go_wp2_with (refine wpList_store_blk rfl 91 (.tmp 2) _ rfl (g := p) (cs' := obA obZ none 0 none 0) rfl rfl (HZ.out.gr M7.out.gr) aggOb rfl (obA_one _ _ _ _ _) ?_; intro w9 h9 hg9)
              refine bodyPost_ret (results_blk_tmp rfl _ rfl h9 aggOb) rfl ?_
              rw [HX.out]
              exact ⟨none, 0, none, 0, rfl, ObR.z _, Gr.only (hg0.trans M7.out.gr) hg9 hwp⟩
          · have qq : (((qf).2 : Int) != 0) = true := by rw [bne_iff_ne]; omega
            have qe : ¬ ((qf).2 : Int) = 0 := by omega
            have HX : Sec (V = (obZ, 2)) := sec (by rw [HVF.out]; exact if_neg (fun h => hq h.1))
            clear hq HVF
            go_upto_region 33 with (go_at_call 34; (with_reducible refine Calls.mono (HBad.out _ _ D7.out) ?_); rintro e wb ⟨rfl, rfl⟩)
            go_wp2_with (refine wpList_store_blk rfl 91 (.tmp 2) _ rfl (g := p) (cs' := obA obZ none 0 none 0) rfl rfl (HZ.out.gr M7.out.gr) aggOb rfl (obA_one _ _ _ _ _) ?_; intro w9 h9 hg9)
            refine bodyPost_ret (results_blk_tmp rfl _ rfl h9 aggOb) rfl ?_
            rw [HX.out]
            exact ⟨none, 0, none, 0, rfl, ObR.z _, Gr.only (hg0.trans M7.out.gr) hg9 hwp⟩
      · obtain rfl : n = 0 := by omega
        obtain ⟨wh, h_wh⟩ : ∃ x, x = nxtT (q) := ⟨_, rfl⟩
        obtain ⟨qa, h_qa⟩ : ∃ x, x = aftT (q) := ⟨_, rfl⟩
        have HT5 : Sec (∀ W, RdAt 113 W g q → Calls Tryz.prog 36 #[.pointer (some ⟨g, 0, none⟩)] W fun e w' => e = .returned (.string (bs wh)) ∧ RdAt 113 w' g qa ∧ W.grownBy w' (some g)) := sec (fun W h => by rw [h_wh, h_qa]; exact HT.out q W h)
        obtain ⟨tm, h_tm⟩ : ∃ x, x = nxtN (qa) := ⟨_, rfl⟩
        obtain ⟨qb, h_qb⟩ : ∃ x, x = aftN (qa) := ⟨_, rfl⟩
        have HN6 : Sec (∀ W, RdAt 113 W g qa → Calls Tryz.prog 31 #[.pointer (some ⟨g, 0, none⟩)] W fun e w' => e = .returned (.int .i64 (tm : Int)) ∧ RdAt 113 w' g qb ∧ W.grownBy w' (some g)) := sec (fun W h => by rw [h_tm, h_qb]; exact HN.out qa W h)
        obtain ⟨no, h_no⟩ : ∃ x, x = nxtT (qb) := ⟨_, rfl⟩
        obtain ⟨qf, h_qf⟩ : ∃ x, x = aftT (qb) := ⟨_, rfl⟩
        have HT7 : Sec (∀ W, RdAt 113 W g qb → Calls Tryz.prog 36 #[.pointer (some ⟨g, 0, none⟩)] W fun e w' => e = .returned (.string (bs no)) ∧ RdAt 113 w' g qf ∧ W.grownBy w' (some g)) := sec (fun W h => by rw [h_no, h_qf]; exact HT.out qb W h)
        have HVF : Sec (V = obFin (⟨3, [], [], tr, G, wh, no, (tm : Int), []⟩ : Ob) qf) := sec (by rw [HV2.out, HDe.out.done, h_qf, h_no, h_qb, h_tm, h_qa, h_wh, HTR.out]; rfl)
        have HSZ : Sec (ObSz 1099511627776 (⟨3, [], [], tr, G, wh, no, (tm : Int), []⟩ : Ob)) := sec (by
          have h1 := HDe.out.gl
          have h2 := HBB.out
          have h3 := nxtT_leO q
          have h4 := nxtT_leO qb
          have h5 := aftN_leO qa
          have h6 := aftT_leO q
          have h7 := HDe.out.len
          have h8 := nxtB_leO q1
          have h9 := HTR.out
          rw [← h_wh] at h3
          rw [← h_no] at h4
          rw [← h_qb] at h5
          rw [← h_qa] at h6
          rw [← h9] at h8
          exact ⟨by simp, by simp, by simp, by simp only; omega, by simp only; omega, fun x hx => by have := HDe.out.each x hx; omega, by simp only; omega, by simp only; omega, by simp⟩)
        have zz : wr.cell? ⟨k, 0, none⟩ = some (.int .i64 3) := HM.out.blk.cell 0
        clear HDe hfu hnn HST HC h_qf h_no h_qb h_tm h_qa h_wh
        go_upto_region 32 with (first
          | (go_at_call 36; (with_reducible refine Calls.mono (HT5.out _ HD.out) ?_); rintro e u5 ⟨rfl, d5, g5⟩; have N5 := HM.out.only HD.out.blk (by decide) (by decide) hkg hga g5; have f5 := N5.blk.frozen 5; have o5 : u5.cell? ⟨k, 5, none⟩ = some (.string (bs [])) := N5.blk.cell 5; have D5 := sec (RdAt.farO d5 (a := ⟨k, 5, none⟩) hgk (.string (bs wh))); have M5 : Sec (Om wa k (k + 1) (OcA 3 [] none 0 0 tr B1 d1 i wh [] 0 []) (.slice none 0 0) (.slice B1 i d1) 0 i [] G (u5.setCell ⟨k, 5, none⟩ (.string (bs wh)))) := sec (N5.st 5 _); have z5 : (u5.setCell ⟨k, 5, none⟩ (.string (bs wh))).cell? ⟨k, 0, none⟩ = some (.int .i64 3) := M5.out.blk.cell 0)
          | (go_at_call 31; (with_reducible refine Calls.mono (HN6.out _ D5.out) ?_); rintro e u6 ⟨rfl, d6, g6⟩; have N6 := M5.out.only D5.out.blk (by decide) (by decide) hkg hga g6; have f6 := N6.blk.frozen 7; have o6 : u6.cell? ⟨k, 7, none⟩ = some (.int .i64 0) := N6.blk.cell 7; have D6 := sec (RdAt.farO d6 (a := ⟨k, 7, none⟩) hgk (.int .i64 (tm : Int))); have M6 : Sec (Om wa k (k + 1) (OcA 3 [] none 0 0 tr B1 d1 i wh [] (tm : Int) []) (.slice none 0 0) (.slice B1 i d1) 0 i [] G (u6.setCell ⟨k, 7, none⟩ (.int .i64 (tm : Int)))) := sec (N6.st 7 _); have z6 : (u6.setCell ⟨k, 7, none⟩ (.int .i64 (tm : Int))).cell? ⟨k, 0, none⟩ = some (.int .i64 3) := M6.out.blk.cell 0)
          | (go_at_call 36; (with_reducible refine Calls.mono (HT7.out _ D6.out) ?_); rintro e u7 ⟨rfl, d7, g7⟩; have N7 := M6.out.only D6.out.blk (by decide) (by decide) hkg hga g7; have f7 := N7.blk.frozen 6; have o7 : u7.cell? ⟨k, 6, none⟩ = some (.string (bs [])) := N7.blk.cell 6; have D7 := sec (RdAt.farO d7 (a := ⟨k, 6, none⟩) hgk (.string (bs no))); have M7 : Sec (Om wa k (k + 1) (OcA 3 [] none 0 0 tr B1 d1 i wh no (tm : Int) []) (.slice none 0 0) (.slice B1 i d1) 0 i [] G (u7.setCell ⟨k, 6, none⟩ (.string (bs no)))) := sec (N7.st 6 _); have z7 : (u7.setCell ⟨k, 6, none⟩ (.string (bs no))).cell? ⟨k, 0, none⟩ = some (.int .i64 3) := M7.out.blk.cell 0))
        obtain ⟨wf, hwf⟩ : ∃ x, x = (u7.setCell ⟨k, 6, none⟩ (.string (bs no))) := ⟨_, rfl⟩
        rw [← hwf] at D7 M7 z7 ⊢
        clear hwf
        by_cases hq : (qf).2 = 0
        · have qq : (((qf).2 : Int) != 0) = false := by rw [bne_eq_false_iff_eq]; omega
          have qe : ((qf).2 : Int) = 0 := by omega
          by_cases hl : (qf).1.length = 0
          · have hlz : ¬ (0 : Int) < ((qf).1.length : Int) := by omega
            have HV5 : Sec (V = if obE ((⟨3, [], [], tr, G, wh, no, (tm : Int), []⟩ : Ob)) = 0 then ((⟨3, [], [], tr, G, wh, no, (tm : Int), []⟩ : Ob), 0) else (obZ, obE ((⟨3, [], [], tr, G, wh, no, (tm : Int), []⟩ : Ob)))) := sec (by rw [HVF.out]; exact if_pos ⟨hq, hl⟩)
            obtain ⟨E, hE⟩ : ∃ E, E = obE ((⟨3, [], [], tr, G, wh, no, (tm : Int), []⟩ : Ob)) := ⟨_, rfl⟩
            have HGo2 : Sec (∀ A c B d W, ObR W ((⟨3, [], [], tr, G, wh, no, (tm : Int), []⟩ : Ob)) A c B d → Calls Tryz.prog 95 #[.agg (obA ((⟨3, [], [], tr, G, wh, no, (tm : Int), []⟩ : Ob)) A c B d)] W fun e w' => e = .returned (.int .i64 E) ∧ Gr W w') := sec (fun A c B d W h => by rw [hE]; exact HGo.out _ A c B d W h HSZ.out)
            rw [← hE] at HV5
            clear hE hq hl HVF
            by_cases hE0 : E = 0
            · subst hE0
              have HX : Sec (V = ((⟨3, [], [], tr, G, wh, no, (tm : Int), []⟩ : Ob), 0)) := sec (by rw [HV5.out, if_pos rfl])
              go_upto_region 34 with (first
                | (go_at_call 34; (with_reducible refine Calls.mono (HBad.out _ _ D7.out) ?_); rintro e wb ⟨rfl, rfl⟩)
                | (go_at_call 33; (with_reducible refine Calls.mono (HLe.out _ _ D7.out) ?_); rintro e wl ⟨rfl, rfl⟩))
              go_upto_region 37 with (first
                | (go_at_call 95; (with_reducible refine Calls.mono (HGo2.out _ _ _ _ _ (obr_own M7.out.own1 M7.out.own2).1) ?_); rintro e w8 ⟨rfl, g8⟩; have M8 := sec (M7.out.gr' g8); have G8 : Gr wa w8 := M8.out.gr)
                | (refine wpList_load_blk rfl 91 (.tmp 5) rfl (g := k) rfl (cs := obA ((⟨3, [], [], tr, G, wh, no, (tm : Int), []⟩ : Ob)) none 0 B1 d1) ((obr_own M7.out.own1 M7.out.own2).2 ▸ M7.out.blk) aggOb ?_))
              go_wp2_with (first
                | (refine wpList_load_blk rfl 91 (.tmp 5) rfl (g := k) rfl (cs := obA ((⟨3, [], [], tr, G, wh, no, (tm : Int), []⟩ : Ob)) none 0 B1 d1) ((obr_own M8.out.own1 M8.out.own2).2 ▸ M8.out.blk) aggOb ?_)
                | (refine wpList_store_blk rfl 91 (.tmp 2) _ rfl (g := p) (cs' := obA ((⟨3, [], [], tr, G, wh, no, (tm : Int), []⟩ : Ob)) none 0 B1 d1) rfl rfl (HZ.out.gr G8) aggOb rfl (obA_one _ _ _ _ _) ?_; intro w9 h9 hg9))
              refine bodyPost_ret (results_blk_tmp rfl _ rfl h9 aggOb) rfl ?_
              rw [HX.out]
              have s1 := obr_own (kd := 3) (dt := ((⟨3, [], [], tr, G, wh, no, (tm : Int), []⟩ : Ob)).data) (tr := ((⟨3, [], [], tr, G, wh, no, (tm : Int), []⟩ : Ob)).tree) (wh := ((⟨3, [], [], tr, G, wh, no, (tm : Int), []⟩ : Ob)).who) (no := ((⟨3, [], [], tr, G, wh, no, (tm : Int), []⟩ : Ob)).note) (ti := ((⟨3, [], [], tr, G, wh, no, (tm : Int), []⟩ : Ob)).time) (ta := ((⟨3, [], [], tr, G, wh, no, (tm : Int), []⟩ : Ob)).target) (own_only M8.out.own1 (HZ.out.gr G8) (by decide) hg9) (own_only M8.out.own2 (HZ.out.gr G8) (by decide) hg9)
              exact ⟨none, 0, B1, d1, rfl, s1.1, Gr.only (hg0.trans G8) hg9 hwp⟩
            · have HX : Sec (V = (obZ, E)) := sec (by rw [HV5.out, if_neg hE0])
              have m0 : (E != 0) = true := by simpa using hE0
              clear hE0
              go_upto_region 34 with (first
                | (go_at_call 34; (with_reducible refine Calls.mono (HBad.out _ _ D7.out) ?_); rintro e wb ⟨rfl, rfl⟩)
                | (go_at_call 33; (with_reducible refine Calls.mono (HLe.out _ _ D7.out) ?_); rintro e wl ⟨rfl, rfl⟩))
              go_upto_region 36 with (first
                | (go_at_call 95; (with_reducible refine Calls.mono (HGo2.out _ _ _ _ _ (obr_own M7.out.own1 M7.out.own2).1) ?_); rintro e w8 ⟨rfl, g8⟩; have M8 := sec (M7.out.gr' g8); have G8 : Gr wa w8 := M8.out.gr)
                | (refine wpList_load_blk rfl 91 (.tmp 5) rfl (g := k) rfl (cs := obA ((⟨3, [], [], tr, G, wh, no, (tm : Int), []⟩ : Ob)) none 0 B1 d1) ((obr_own M7.out.own1 M7.out.own2).2 ▸ M7.out.blk) aggOb ?_))
              go_wp2_with (refine wpList_store_blk rfl 91 (.tmp 2) _ rfl (g := p) (cs' := obA obZ none 0 none 0) rfl rfl (HZ.out.gr G8) aggOb rfl (obA_one _ _ _ _ _) ?_; intro w9 h9 hg9)
              refine bodyPost_ret (results_blk_tmp rfl _ rfl h9 aggOb) rfl ?_
              rw [HX.out]
              exact ⟨none, 0, none, 0, rfl, ObR.z _, Gr.only (hg0.trans G8) hg9 hwp⟩
          · have hlz : (0 : Int) < ((qf).1.length : Int) := by omega
            have HX : Sec (V = (obZ, 2)) := sec (by rw [HVF.out]; exact if_neg (fun h => hl h.2))
            clear hq hl HVF
            go_upto_region 33 with (first
              | (go_at_call 34; (with_reducible refine Calls.mono (HBad.out _ _ D7.out) ?_); rintro e wb ⟨rfl, rfl⟩)
              | (go_at_call 33; (with_reducible refine Calls.mono (HLe.out _ _ D7.out) ?_); rintro e wl ⟨rfl, rfl⟩))
            go_wp2_with (refine wpList_store_blk rfl 91 (.tmp 2) _ rfl (g := p) (cs' := obA obZ none 0 none 0) rfl rfl (HZ.out.gr M7.out.gr) aggOb rfl (obA_one _ _ _ _ _) ?_; intro w9 h9 hg9)
            refine bodyPost_ret (results_blk_tmp rfl _ rfl h9 aggOb) rfl ?_
            rw [HX.out]
            exact ⟨none, 0, none, 0, rfl, ObR.z _, Gr.only (hg0.trans M7.out.gr) hg9 hwp⟩
        · have qq : (((qf).2 : Int) != 0) = true := by rw [bne_iff_ne]; omega
          have qe : ¬ ((qf).2 : Int) = 0 := by omega
          have HX : Sec (V = (obZ, 2)) := sec (by rw [HVF.out]; exact if_neg (fun h => hq h.1))
          clear hq HVF
          go_upto_region 33 with (go_at_call 34; (with_reducible refine Calls.mono (HBad.out _ _ D7.out) ?_); rintro e wb ⟨rfl, rfl⟩)
          go_wp2_with (refine wpList_store_blk rfl 91 (.tmp 2) _ rfl (g := p) (cs' := obA obZ none 0 none 0) rfl rfl (HZ.out.gr M7.out.gr) aggOb rfl (obA_one _ _ _ _ _) ?_; intro w9 h9 hg9)
          refine bodyPost_ret (results_blk_tmp rfl _ rfl h9 aggOb) rfl ?_
          rw [HX.out]
          exact ⟨none, 0, none, 0, rfl, ObR.z _, Gr.only (hg0.trans M7.out.gr) hg9 hwp⟩
  have z3' : (kd == 3) = false := by rw [beq_eq_false_iff_ne]; exact k3
  by_cases k4 : kd = 4
  · subst k4
    have HK4 : K = 4 := by have := HKD.out; omega
    obtain ⟨ta, h_ta⟩ : ∃ x, x = nxtB 32 (q1) := ⟨_, rfl⟩
    obtain ⟨qa, h_qa⟩ : ∃ x, x = aftB 32 (q1) := ⟨_, rfl⟩
    have HB4 : Sec (∀ W, RdAt 113 W g q1 → Calls Tryz.prog 32 #[.pointer (some ⟨g, 0, none⟩), .int .i64 32] W fun e w' => e = .returned (.string (bs ta)) ∧ RdAt 113 w' g qa ∧ W.grownBy w' (some g)) := sec (fun W h => by rw [h_ta, h_qa]; exact HB.out q1 W h)
    obtain ⟨wh, h_wh⟩ : ∃ x, x = nxtT (qa) := ⟨_, rfl⟩
    obtain ⟨qb, h_qb⟩ : ∃ x, x = aftT (qa) := ⟨_, rfl⟩
    have HT5 : Sec (∀ W, RdAt 113 W g qa → Calls Tryz.prog 36 #[.pointer (some ⟨g, 0, none⟩)] W fun e w' => e = .returned (.string (bs wh)) ∧ RdAt 113 w' g qb ∧ W.grownBy w' (some g)) := sec (fun W h => by rw [h_wh, h_qb]; exact HT.out qa W h)
    obtain ⟨no, h_no⟩ : ∃ x, x = nxtT (qb) := ⟨_, rfl⟩
    obtain ⟨qf, h_qf⟩ : ∃ x, x = aftT (qb) := ⟨_, rfl⟩
    have HT6 : Sec (∀ W, RdAt 113 W g qb → Calls Tryz.prog 36 #[.pointer (some ⟨g, 0, none⟩)] W fun e w' => e = .returned (.string (bs no)) ∧ RdAt 113 w' g qf ∧ W.grownBy w' (some g)) := sec (fun W h => by rw [h_no, h_qf]; exact HT.out qb W h)
    have HVF : Sec (V = obFin (⟨4, [], [], [], [], wh, no, 0, ta⟩ : Ob) qf) := sec (by rw [HV1.out]; unfold obR; rw [if_neg (by omega), if_neg (by omega), if_neg (by omega), if_pos HK4, h_qf, h_no, h_qb, h_wh, h_qa, h_ta]; rfl)
    have HSZ : Sec (ObSz 1099511627776 (⟨4, [], [], [], [], wh, no, 0, ta⟩ : Ob)) := sec (by
      have h1 := nxtT_leO qa
      have h2 := HQ1.out
      have h3 := nxtT_leO qb
      have h4 := aftT_leO qa
      have h5 := aftB_leO 32 q1
      have h6 := nxtB_leO q1
      rw [← h_wh] at h1
      rw [← h_no] at h3
      rw [← h_qb] at h4
      rw [← h_qa] at h5
      rw [← h_ta] at h6
      exact ⟨by simp, by simp, by simp, by simp, by simp, by simp, by simp only; omega, by simp only; omega, by simp only; omega⟩)
    clear HK4 HV1 HKD h_qf h_no h_qb h_wh h_qa h_ta
    go_upto_region 32 with (first
      | (go_at_call 32; (with_reducible refine Calls.mono (HB4.out _ D3.out) ?_); rintro e u4 ⟨rfl, d4, g4⟩; have N4 := M3.out.only D3.out.blk (by decide) (by decide) hkg hga g4; have f4 := N4.blk.frozen 8; have o4 : u4.cell? ⟨k, 8, none⟩ = some (.string (bs [])) := N4.blk.cell 8; have D4 := sec (RdAt.farO d4 (a := ⟨k, 8, none⟩) hgk (.string (bs ta))); have M4 : Sec (Om wa k (k + 1) (OcA 4 [] none 0 0 [] none 0 0 [] [] 0 ta) (.slice none 0 0) (.slice none 0 0) 0 0 [] [] (u4.setCell ⟨k, 8, none⟩ (.string (bs ta)))) := sec (N4.st 8 _); have z4 : (u4.setCell ⟨k, 8, none⟩ (.string (bs ta))).cell? ⟨k, 0, none⟩ = some (.int .i64 4) := M4.out.blk.cell 0)
      | (go_at_call 36; (with_reducible refine Calls.mono (HT5.out _ D4.out) ?_); rintro e u5 ⟨rfl, d5, g5⟩; have N5 := M4.out.only D4.out.blk (by decide) (by decide) hkg hga g5; have f5 := N5.blk.frozen 5; have o5 : u5.cell? ⟨k, 5, none⟩ = some (.string (bs [])) := N5.blk.cell 5; have D5 := sec (RdAt.farO d5 (a := ⟨k, 5, none⟩) hgk (.string (bs wh))); have M5 : Sec (Om wa k (k + 1) (OcA 4 [] none 0 0 [] none 0 0 wh [] 0 ta) (.slice none 0 0) (.slice none 0 0) 0 0 [] [] (u5.setCell ⟨k, 5, none⟩ (.string (bs wh)))) := sec (N5.st 5 _); have z5 : (u5.setCell ⟨k, 5, none⟩ (.string (bs wh))).cell? ⟨k, 0, none⟩ = some (.int .i64 4) := M5.out.blk.cell 0)
      | (go_at_call 36; (with_reducible refine Calls.mono (HT6.out _ D5.out) ?_); rintro e u6 ⟨rfl, d6, g6⟩; have N6 := M5.out.only D5.out.blk (by decide) (by decide) hkg hga g6; have f6 := N6.blk.frozen 6; have o6 : u6.cell? ⟨k, 6, none⟩ = some (.string (bs [])) := N6.blk.cell 6; have D6 := sec (RdAt.farO d6 (a := ⟨k, 6, none⟩) hgk (.string (bs no))); have M6 : Sec (Om wa k (k + 1) (OcA 4 [] none 0 0 [] none 0 0 wh no 0 ta) (.slice none 0 0) (.slice none 0 0) 0 0 [] [] (u6.setCell ⟨k, 6, none⟩ (.string (bs no)))) := sec (N6.st 6 _); have z6 : (u6.setCell ⟨k, 6, none⟩ (.string (bs no))).cell? ⟨k, 0, none⟩ = some (.int .i64 4) := M6.out.blk.cell 0))
    obtain ⟨wf, hwf⟩ : ∃ x, x = (u6.setCell ⟨k, 6, none⟩ (.string (bs no))) := ⟨_, rfl⟩
    rw [← hwf] at D6 M6 z6 ⊢
    clear hwf
    by_cases hq : (qf).2 = 0
    · have qq : (((qf).2 : Int) != 0) = false := by rw [bne_eq_false_iff_eq]; omega
      have qe : ((qf).2 : Int) = 0 := by omega
      by_cases hl : (qf).1.length = 0
      · have hlz : ¬ (0 : Int) < ((qf).1.length : Int) := by omega
        have HV5 : Sec (V = if obE ((⟨4, [], [], [], [], wh, no, 0, ta⟩ : Ob)) = 0 then ((⟨4, [], [], [], [], wh, no, 0, ta⟩ : Ob), 0) else (obZ, obE ((⟨4, [], [], [], [], wh, no, 0, ta⟩ : Ob)))) := sec (by rw [HVF.out]; exact if_pos ⟨hq, hl⟩)
        obtain ⟨E, hE⟩ : ∃ E, E = obE ((⟨4, [], [], [], [], wh, no, 0, ta⟩ : Ob)) := ⟨_, rfl⟩
        have HGo2 : Sec (∀ A c B d W, ObR W ((⟨4, [], [], [], [], wh, no, 0, ta⟩ : Ob)) A c B d → Calls Tryz.prog 95 #[.agg (obA ((⟨4, [], [], [], [], wh, no, 0, ta⟩ : Ob)) A c B d)] W fun e w' => e = .returned (.int .i64 E) ∧ Gr W w') := sec (fun A c B d W h => by rw [hE]; exact HGo.out _ A c B d W h HSZ.out)
        rw [← hE] at HV5
        clear hE hq hl HVF
        by_cases hE0 : E = 0
        · subst hE0
          have HX : Sec (V = ((⟨4, [], [], [], [], wh, no, 0, ta⟩ : Ob), 0)) := sec (by rw [HV5.out, if_pos rfl])
          go_upto_region 34 with (first
            | (go_at_call 34; (with_reducible refine Calls.mono (HBad.out _ _ D6.out) ?_); rintro e wb ⟨rfl, rfl⟩)
            | (go_at_call 33; (with_reducible refine Calls.mono (HLe.out _ _ D6.out) ?_); rintro e wl ⟨rfl, rfl⟩))
          go_upto_region 37 with (first
            | (go_at_call 95; (with_reducible refine Calls.mono (HGo2.out _ _ _ _ _ (obr_own M6.out.own1 M6.out.own2).1) ?_); rintro e w8 ⟨rfl, g8⟩; have M8 := sec (M6.out.gr' g8); have G8 : Gr wa w8 := M8.out.gr)
            | (refine wpList_load_blk rfl 91 (.tmp 5) rfl (g := k) rfl (cs := obA ((⟨4, [], [], [], [], wh, no, 0, ta⟩ : Ob)) none 0 none 0) ((obr_own M6.out.own1 M6.out.own2).2 ▸ M6.out.blk) aggOb ?_))
          go_wp2_with (first
            | (refine wpList_load_blk rfl 91 (.tmp 5) rfl (g := k) rfl (cs := obA ((⟨4, [], [], [], [], wh, no, 0, ta⟩ : Ob)) none 0 none 0) ((obr_own M8.out.own1 M8.out.own2).2 ▸ M8.out.blk) aggOb ?_)
            | (refine wpList_store_blk rfl 91 (.tmp 2) _ rfl (g := p) (cs' := obA ((⟨4, [], [], [], [], wh, no, 0, ta⟩ : Ob)) none 0 none 0) rfl rfl (HZ.out.gr G8) aggOb rfl (obA_one _ _ _ _ _) ?_; intro w9 h9 hg9))
          refine bodyPost_ret (results_blk_tmp rfl _ rfl h9 aggOb) rfl ?_
          rw [HX.out]
          have s1 := obr_own (kd := 4) (dt := ((⟨4, [], [], [], [], wh, no, 0, ta⟩ : Ob)).data) (tr := ((⟨4, [], [], [], [], wh, no, 0, ta⟩ : Ob)).tree) (wh := ((⟨4, [], [], [], [], wh, no, 0, ta⟩ : Ob)).who) (no := ((⟨4, [], [], [], [], wh, no, 0, ta⟩ : Ob)).note) (ti := ((⟨4, [], [], [], [], wh, no, 0, ta⟩ : Ob)).time) (ta := ((⟨4, [], [], [], [], wh, no, 0, ta⟩ : Ob)).target) (own_only M8.out.own1 (HZ.out.gr G8) (by decide) hg9) (own_only M8.out.own2 (HZ.out.gr G8) (by decide) hg9)
          exact ⟨none, 0, none, 0, rfl, s1.1, Gr.only (hg0.trans G8) hg9 hwp⟩
        · have HX : Sec (V = (obZ, E)) := sec (by rw [HV5.out, if_neg hE0])
          have m0 : (E != 0) = true := by simpa using hE0
          clear hE0
          go_upto_region 34 with (first
            | (go_at_call 34; (with_reducible refine Calls.mono (HBad.out _ _ D6.out) ?_); rintro e wb ⟨rfl, rfl⟩)
            | (go_at_call 33; (with_reducible refine Calls.mono (HLe.out _ _ D6.out) ?_); rintro e wl ⟨rfl, rfl⟩))
          go_upto_region 36 with (first
            | (go_at_call 95; (with_reducible refine Calls.mono (HGo2.out _ _ _ _ _ (obr_own M6.out.own1 M6.out.own2).1) ?_); rintro e w8 ⟨rfl, g8⟩; have M8 := sec (M6.out.gr' g8); have G8 : Gr wa w8 := M8.out.gr)
            | (refine wpList_load_blk rfl 91 (.tmp 5) rfl (g := k) rfl (cs := obA ((⟨4, [], [], [], [], wh, no, 0, ta⟩ : Ob)) none 0 none 0) ((obr_own M6.out.own1 M6.out.own2).2 ▸ M6.out.blk) aggOb ?_))
          go_wp2_with (refine wpList_store_blk rfl 91 (.tmp 2) _ rfl (g := p) (cs' := obA obZ none 0 none 0) rfl rfl (HZ.out.gr G8) aggOb rfl (obA_one _ _ _ _ _) ?_; intro w9 h9 hg9)
          refine bodyPost_ret (results_blk_tmp rfl _ rfl h9 aggOb) rfl ?_
          rw [HX.out]
          exact ⟨none, 0, none, 0, rfl, ObR.z _, Gr.only (hg0.trans G8) hg9 hwp⟩
      · have hlz : (0 : Int) < ((qf).1.length : Int) := by omega
        have HX : Sec (V = (obZ, 2)) := sec (by rw [HVF.out]; exact if_neg (fun h => hl h.2))
        clear hq hl HVF
        go_upto_region 33 with (first
          | (go_at_call 34; (with_reducible refine Calls.mono (HBad.out _ _ D6.out) ?_); rintro e wb ⟨rfl, rfl⟩)
          | (go_at_call 33; (with_reducible refine Calls.mono (HLe.out _ _ D6.out) ?_); rintro e wl ⟨rfl, rfl⟩))
        go_wp2_with (refine wpList_store_blk rfl 91 (.tmp 2) _ rfl (g := p) (cs' := obA obZ none 0 none 0) rfl rfl (HZ.out.gr M6.out.gr) aggOb rfl (obA_one _ _ _ _ _) ?_; intro w9 h9 hg9)
        refine bodyPost_ret (results_blk_tmp rfl _ rfl h9 aggOb) rfl ?_
        rw [HX.out]
        exact ⟨none, 0, none, 0, rfl, ObR.z _, Gr.only (hg0.trans M6.out.gr) hg9 hwp⟩
    · have qq : (((qf).2 : Int) != 0) = true := by rw [bne_iff_ne]; omega
      have qe : ¬ ((qf).2 : Int) = 0 := by omega
      have HX : Sec (V = (obZ, 2)) := sec (by rw [HVF.out]; exact if_neg (fun h => hq h.1))
      clear hq HVF
      go_upto_region 33 with (go_at_call 34; (with_reducible refine Calls.mono (HBad.out _ _ D6.out) ?_); rintro e wb ⟨rfl, rfl⟩)
      go_wp2_with (refine wpList_store_blk rfl 91 (.tmp 2) _ rfl (g := p) (cs' := obA obZ none 0 none 0) rfl rfl (HZ.out.gr M6.out.gr) aggOb rfl (obA_one _ _ _ _ _) ?_; intro w9 h9 hg9)
      refine bodyPost_ret (results_blk_tmp rfl _ rfl h9 aggOb) rfl ?_
      rw [HX.out]
      exact ⟨none, 0, none, 0, rfl, ObR.z _, Gr.only (hg0.trans M6.out.gr) hg9 hwp⟩
  have z4 : (kd == 4) = false := by rw [beq_eq_false_iff_ne]; exact k4
  have HKN : ¬ (1 ≤ K ∧ K ≤ 4) := by have := HKD.out; omega
  have HV2 : Sec (V = if q1.2 = 0 then (obZ, 4) else (obZ, 2)) := sec (by rw [HV1.out]; unfold obR; rw [if_neg (by omega), if_neg (by omega), if_neg (by omega), if_neg (by omega)])
  have HGo2 : Sec (∀ W, ObR W (ob5 K) none 0 none 0 → Calls Tryz.prog 95 #[.agg (obA (ob5 K) none 0 none 0)] W fun e w' => e = .returned (.int .i64 4) ∧ Gr W w') := sec (fun W h => by have := HGo.out (ob5 K) none 0 none 0 W h ⟨by simp [ob5], by simp [ob5], by simp [ob5], by simp [ob5], by simp [ob5], by simp [ob5], by simp [ob5], by simp [ob5], by simp [ob5]⟩; rwa [obE_kind HKN] at this)
  have E5 : Sec (OcA kd [] none 0 0 [] none 0 0 [] [] 0 [] = obA (ob5 K) none 0 none 0) := sec (by rw [HKD.out]; rfl)
  have S5 : Sec (ObR w3 (ob5 K) none 0 none 0) := sec ⟨Row.nil _ _ _, Row.nil _ _ _, fun _ => ⟨rfl, rfl⟩, fun _ => ⟨rfl, rfl⟩, Nat.le_refl _, Nat.le_refl _⟩
  have B3 : Sec (Blk w3 k 91 (obA (ob5 K) none 0 none 0)) := sec (by have := M3.out.blk; rwa [E5.out] at this)
  have hko : kd < 1 ∨ 4 < kd := by have := HKD.out; omega
  by_cases hq : q1.2 = 0
  · have qq : ((q1.2 : Int) != 0) = false := by rw [bne_eq_false_iff_eq]; omega
    have qe : (q1.2 : Int) = 0 := by omega
    have HX : Sec (V = (obZ, 4)) := sec (by rw [HV2.out, if_pos hq])
    clear hq HV2 HV1 HKN
    rcases hko with hko | hko
    all_goals
      go_upto_region 34 with (go_at_call 34; (with_reducible refine Calls.mono (HBad.out _ _ D3.out) ?_); rintro e wb ⟨rfl, rfl⟩)
      go_upto_region 36 with (first
        | (go_at_call 95; (with_reducible refine Calls.mono (HGo2.out _ S5.out) ?_); rintro e w8 ⟨rfl, g8⟩; have G8 : Gr wa w8 := M3.out.gr.trans g8)
        | (refine wpList_load_blk rfl 91 (.tmp 5) rfl (g := k) rfl B3.out aggOb ?_))
      go_wp2_with (refine wpList_store_blk rfl 91 (.tmp 2) _ rfl (g := p) (cs' := obA obZ none 0 none 0) rfl rfl (HZ.out.gr G8) aggOb rfl (obA_one _ _ _ _ _) ?_; intro w9 h9 hg9)
      refine bodyPost_ret (results_blk_tmp rfl _ rfl h9 aggOb) rfl ?_
      rw [HX.out]
      exact ⟨none, 0, none, 0, rfl, ObR.z _, Gr.only (hg0.trans G8) hg9 hwp⟩
  · have qq : ((q1.2 : Int) != 0) = true := by rw [bne_iff_ne]; omega
    have qe : ¬ (q1.2 : Int) = 0 := by omega
    have HX : Sec (V = (obZ, 2)) := sec (by rw [HV2.out, if_neg hq])
    clear hq HV2 HV1 HKN hko
    go_upto_region 33 with (go_at_call 34; (with_reducible refine Calls.mono (HBad.out _ _ D3.out) ?_); rintro e wb ⟨rfl, rfl⟩)
    go_wp2_with (refine wpList_store_blk rfl 91 (.tmp 2) _ rfl (g := p) (cs' := obA obZ none 0 none 0) rfl rfl (HZ.out.gr M3.out.gr) aggOb rfl (obA_one _ _ _ _ _) ?_; intro w9 h9 hg9)
    refine bodyPost_ret (results_blk_tmp rfl _ rfl h9 aggOb) rfl ?_
    rw [HX.out]
    exact ⟨none, 0, none, 0, rfl, ObR.z _, Gr.only (hg0.trans M3.out.gr) hg9 hwp⟩
end Go.Proofs.YtoamnifnfkgbiaaGreatDoor

/-
  law.ObjectEncodes: the walk.
-/
import Derived.Test.YtmgpllakpgjicaaObjects
import Derived.Test.YtmgpllakpgjicaaRObE
import Derived.Test.YtmgpllakpgjicaaRObK
import Derived.Test.YtmgpllakpgjicaaObO
import Derived.Test.YtmgpllakpgjicaaObIn
import Derived.Test.YtmgpllakpgjicaaRows2
import Derived.Deep.RegionHeld3
namespace Go.Proofs.Ytmgpllakpgjicaa
set_option maxRecDepth 100000
open Go.RowKit
set_option linter.unusedVariables false
theorem obLk_len {k : Nat} {o : Ob} (h : ObSz k o) : (obLk o).length ≤ k + 1 := by
  unfold obLk
  split
  · rw [List.length_map]; have := h.ents; omega
  · split
    · have := h.pars; simp only [List.length_cons]; omega
    · split
      · simp
      · simp
set_option maxHeartbeats 16000000 in
theorem objectEncodes_walk (o : Ob) (A : Option Addr) (c : Nat) (B : Option Addr) (d : Nat) (W : World) (hO : ObIn W o A c B d) :
    Calls Try.prog 3 #[.agg (obA o A c B d)] W fun e W' => e = .returned (.bool true) ∧ Gr W W' := by
  obtain ⟨hR, hz0, hki, hti⟩ := hO
  have hz := hz0.up (k' := 1099511627776) (by omega)
  have hll := obLk_len hz0
  obtain ⟨wa, hwa⟩ : ∃ x, x = W.alloc (.cells (obA o A c B d) 25) := ⟨_, rfl⟩
  have hb : Blk wa W.heap.size 25 (obA o A c B d) := by rw [hwa]; exact Blk.new W _ _
  have hg0 : Gr W wa := by rw [hwa]; exact (Gr.refl W).alloc _
  obtain ⟨p, hp⟩ : ∃ p, p = W.heap.size := ⟨_, rfl⟩
  rw [← hp] at hb
  have HCp : Sec (∀ w', Gr wa w' → Calls Try.prog 5 #[.agg (obA o A c B d)] w' fun e w'' => ∃ A' c' B' d', e = .returned (.agg (obA o A' c' B' d')) ∧ ObR w'' o A' c' B' d' ∧ Gr w' w'') := sec (fun w' g => obOwned_any o A c B d w' ((hR.gr hg0).gr g) hz)
  have HEn : Sec (∀ w' A' c' B' d', ObR w' o A' c' B' d' → Calls Try.prog 4 #[.agg (obA o A' c' B' d')] w' fun e w'' => e = .returned (.tuple #[.string (bs (obEnc o).1), .int .i64 (obEnc o).2]) ∧ Gr w' w'') := sec (fun w' A' c' B' d' h => obEncode_any o A' c' B' d' w' h hz)
  have HRe : Sec (∀ w', Gr wa w' → Calls Try.prog 6 #[.agg (obA o A c B d)] w' fun e w'' => e = .returned (.tuple #[.string (bs (obEnc o).1), .int .i64 (obEnc o).2]) ∧ Gr w' w'') := sec (fun w' g => robEncode_any o A c B d w' ((hR.gr hg0).gr g) hz)
  have HGo : Sec (∀ w' A' c' B' d', ObR w' o A' c' B' d' → Calls Try.prog 7 #[.agg (obA o A' c' B' d')] w' fun e w'' => e = .returned (.int .i64 (obE o)) ∧ Gr w' w'') := sec (fun w' A' c' B' d' h => obGood_any o A' c' B' d' w' h hz)
  have HRg : Sec (∀ w', Gr wa w' → Calls Try.prog 8 #[.agg (obA o A c B d)] w' fun e w'' => e = .returned (.int .i64 (obE o)) ∧ Gr w' w'') := sec (fun w' g => robGood_any o A c B d w' ((hR.gr hg0).gr g) hz)
  have HLk : Sec (∀ w' A' c' B' d', ObR w' o A' c' B' d' → Calls Try.prog 10 #[.agg (obA o A' c' B' d')] w' fun e w'' => ∃ A n c, n = (obLk o).length ∧ e = .returned (.slice A n c) ∧ StrRow w'' A n (obLk o) ∧ Gr w' w'') := sec (fun w' A' c' B' d' h => (obLinks_any o A' c' B' d' w' h hz).mono fun e w'' ⟨A, c, n, h1, h2, h3, _, _, h4⟩ => ⟨A, n, c, h1, h2, h3, h4⟩)
  have HRl : Sec (∀ w', Gr wa w' → Calls Try.prog 11 #[.agg (obA o A c B d)] w' fun e w'' => ∃ A n c, n = (obLk o).length ∧ e = .returned (.slice A n c) ∧ StrRow w'' A n (obLk o) ∧ Gr w' w'') := sec (fun w' g => (robLinks_any o A c B d w' ((hR.gr hg0).gr g) hz).mono fun e w'' ⟨A, c, n, h1, h2, h3, _, _, h4⟩ => ⟨A, n, c, h1, h2, h3, h4⟩)
  have HSs : Sec (∀ w' A1 n1 c1 A2 n2 c2, n1 = (obLk o).length → n2 = (obLk o).length → StrRow w' A1 n1 (obLk o) → StrRow w' A2 n2 (obLk o) → Calls Try.prog 9 #[.slice A1 n1 c1, .slice A2 n2 c2] w' fun e w'' => e = .returned (.bool true) ∧ Gr w' w'') := sec (fun w' A1 n1 c1 A2 n2 c2 e1 e2 h1 h2 => by
    have := sameStrings_any A1 A2 n1 n2 c1 c2 (obLk o) (obLk o) w' h1 h2 (by omega) (by omega)
    rwa [decide_eq_true rfl] at this)
  have HOb : Sec (∀ w', Calls Try.prog 12 #[] w' fun e w'' => e = .returned (.bool true) ∧ Gr w' w'') := sec objects_any
  obtain ⟨eb, heb⟩ : ∃ x, x = (obEnc o).1 := ⟨_, rfl⟩
  obtain ⟨ee, hee⟩ : ∃ x, x = (obEnc o).2 := ⟨_, rfl⟩
  obtain ⟨E, hE⟩ : ∃ x, x = obE o := ⟨_, rfl⟩
  obtain ⟨L, hL⟩ : ∃ x, x = obLk o := ⟨_, rfl⟩
  rw [← heb, ← hee] at HEn HRe
  rw [← hE] at HGo HRg
  rw [← hL] at HLk HRl HSs
  obtain ⟨kd, dt, en, tr, pa, wh, no, ti, ta⟩ := o
  have HSK : Sec (∀ w', Gr wa w' → w'.cell? ⟨p, 0, none⟩ = some (.int .i64 kd) ∧ w'.cell? ⟨p, 1, none⟩ = some (.string (bs dt)) ∧ w'.cell? ⟨p, 2, none⟩ = some (.slice A en.length c) ∧ w'.cell? ⟨p, 3, none⟩ = some (.string (bs tr)) ∧ w'.cell? ⟨p, 4, none⟩ = some (.slice B pa.length d) ∧ w'.cell? ⟨p, 5, none⟩ = some (.string (bs wh)) ∧ w'.cell? ⟨p, 6, none⟩ = some (.string (bs no)) ∧ w'.cell? ⟨p, 7, none⟩ = some (.int .i64 ti) ∧ w'.cell? ⟨p, 8, none⟩ = some (.string (bs ta)) ∧ Gr wa w') := sec (fun w' g => ⟨(hb.gr g).cell 0, (hb.gr g).cell 1, (hb.gr g).cell 2, (hb.gr g).cell 3, (hb.gr g).cell 4, (hb.gr g).cell 5, (hb.gr g).cell 6, (hb.gr g).cell 7, (hb.gr g).cell 8, g⟩)
  clear heb hee hE hL hb hR hz hz0 hki hti hll
  unfold obA at hwa HCp HEn HRe HGo HRg HLk HRl
  unfold obA
  simp only at hwa HCp HEn HRe HGo HRg HLk HRl ⊢
  go_enter Try.func3, Try.ntmps3
  go_upto_region 1 with fail
  rw [← hwa, ← hp]
  clear hwa hp
  obtain ⟨x0, x1, x2, x3, x4, x5, x6, x7, x8, g0⟩ := HSK.out wa (Gr.refl _)
  go_upto_region 3 with (first
    | (go_at_call 5; (with_reducible refine Calls.mono (HCp.out _ g0) ?_); rintro e w1 ⟨A1, c1, B1, d1, rfl, r1, g1'⟩; have g1 : Gr wa w1 := Gr.trans g0 g1')
    | (go_at_call 4; (with_reducible refine Calls.mono (HEn.out _ _ _ _ _ r1) ?_); rintro e w2 ⟨rfl, g2'⟩; have g2 : Gr wa w2 := Gr.trans g1 g2'; obtain ⟨y0, y1, y2, y3, y4, y5, y6, y7, y8, -⟩ := HSK.out w2 g2)
    | (go_at_call 6; (with_reducible refine Calls.mono (HRe.out _ g2) ?_); rintro e w3 ⟨rfl, g3'⟩; have g3 : Gr wa w3 := Gr.trans g2 g3'))
  clear x0 x1 x2 x3 x4 x5 x6 x7 x8 y0 y1 y2 y3 y4 y5 y6 y7 y8
  have gd : Gr wa w3.drew := g3.drew
  go_region_held3 (fun w' => w'.cell? ⟨p, 0, none⟩ = some (.int .i64 kd) ∧ w'.cell? ⟨p, 1, none⟩ = some (.string (bs dt)) ∧ w'.cell? ⟨p, 2, none⟩ = some (.slice A en.length c) ∧ w'.cell? ⟨p, 3, none⟩ = some (.string (bs tr)) ∧ w'.cell? ⟨p, 4, none⟩ = some (.slice B pa.length d) ∧ w'.cell? ⟨p, 5, none⟩ = some (.string (bs wh)) ∧ w'.cell? ⟨p, 6, none⟩ = some (.string (bs no)) ∧ w'.cell? ⟨p, 7, none⟩ = some (.int .i64 ti) ∧ w'.cell? ⟨p, 8, none⟩ = some (.string (bs ta)) ∧ Gr wa w')
    (first | with_reducible assumption | with_reducible exact HSK.out _ gd | with_reducible exact HSK.out _ G1 | with_reducible exact HSK.out _ G2 | with_reducible exact HSK.out _ G3 | with_reducible exact HSK.out _ G4 | with_reducible exact HSK.out _ G5 | with_reducible exact HSK.out _ G6 | with_reducible exact HSK.out _ G7 | with_reducible exact HSK.out _ G8 | fail)
    (first
      | (go_at_call 5; (with_reducible refine Calls.mono (HCp.out _ gd) ?_); rintro e v1 ⟨A5, c5, B5, d5, rfl, r5, f1⟩; have G1 : Gr wa v1 := Gr.trans gd f1)
      | (go_at_call 7; (with_reducible refine Calls.mono (HGo.out _ _ _ _ _ r5) ?_); rintro e v2 ⟨rfl, f2⟩; have G2 : Gr wa v2 := Gr.trans G1 f2)
      | (go_at_call 8; (with_reducible refine Calls.mono (HRg.out _ G2) ?_); rintro e v3 ⟨rfl, f3⟩; have G3 : Gr wa v3 := Gr.trans G2 f3)
      | (go_at_call 5; (with_reducible refine Calls.mono (HCp.out _ G3) ?_); rintro e v4 ⟨A6, c6, B6, d6, rfl, r6, f4⟩; have G4 : Gr wa v4 := Gr.trans G3 f4)
      | (go_at_call 10; (with_reducible refine Calls.mono (HLk.out _ _ _ _ _ r6) ?_); rintro e v5 ⟨A7, n7, c7', hn7, rfl, r7, f5⟩; have HN7 := sec hn7; clear hn7; have G5 : Gr wa v5 := Gr.trans G4 f5)
      | (go_at_call 11; (with_reducible refine Calls.mono (HRl.out _ G5) ?_); rintro e v6 ⟨A8, n8, c8', hn8, rfl, r8, f6⟩; have HN8 := sec hn8; clear hn8; have G6 : Gr wa v6 := Gr.trans G5 f6)
      | (go_at_call 9; (with_reducible refine Calls.mono (HSs.out _ _ _ _ _ _ _ HN7.out HN8.out (r7.gr f6) r8) ?_); rintro e v7 ⟨rfl, f7⟩; have G7 : Gr wa v7 := Gr.trans G6 f7)
      | (go_at_call 12; (with_reducible refine Calls.mono (HOb.out _) ?_); rintro e v8 ⟨rfl, f8⟩; have G8 : Gr wa v8 := Gr.trans G7 f8)
      | fail)
  all_goals (go_wp2_with fail; go_ret; exact ⟨rfl, hg0.trans G8⟩)
end Go.Proofs.Ytmgpllakpgjicaa

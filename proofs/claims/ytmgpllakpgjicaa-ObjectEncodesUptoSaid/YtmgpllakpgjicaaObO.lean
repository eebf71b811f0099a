/-
  cartularylaw.owned by its contract.
-/
import Derived.Test.YtmgpllakpgjicaaObL
import Derived.Test.YtmgpllakpgjicaaDiskA
import Derived.Test.YtmgpllakpgjicaaStrings
namespace Go.Proofs.Ytmgpllakpgjicaa
set_option maxRecDepth 100000
open Go.RowKit
set_option linter.unusedVariables false
theorem own_nilQ {w : World} {k e n cap size : Nat} {A : Option Addr} {xs : List Value} (h : w.ownsRow k e size (.slice A n cap) n xs) : A = none → n = 0 ∧ cap = 0 := by
  intro e
  rcases h.2 with ⟨h, h0⟩ | ⟨g, _, _, h, _⟩
  · injection h with _ h2 h3
    exact ⟨h0, h3⟩
  · injection h with h2 _ _
    rw [e] at h2; cases h2
theorem own_capQ {w : World} {k e n cap size : Nat} {A : Option Addr} {xs : List Value} (h : w.ownsRow k e size (.slice A n cap) n xs) : n ≤ cap := by
  rcases h.2 with ⟨h, h0⟩ | ⟨g, cap', cur, h, _, _, hle, _⟩
  · omega
  · injection h with _ _ h3
    subst h3
    exact hle
set_option maxHeartbeats 16000000 in
theorem obOwned_any (o : Ob) (A : Option Addr) (c : Nat) (B : Option Addr) (d : Nat) (w : World) (hR : ObR w o A c B d) (hz : ObSz 1099511627776 o) :
    Calls Try.prog 5 #[.agg (obA o A c B d)] w fun e w' => ∃ A' c' B' d', e = .returned (.agg (obA o A' c' B' d')) ∧ ObR w' o A' c' B' d' ∧ Gr w w' := by
  have hel := hz.ents
  have hpl := hz.pars
  have hb1 : (0 + o.ents.length) * 40 ≤ 140737488355328 := by omega
  have hb2 : 0 + o.ents.length ≤ maxLen := by unfold maxLen; omega
  have hb3 : (0 + o.pars.length) * 16 ≤ 140737488355328 := by omega
  have hb4 : 0 + o.pars.length ≤ maxLen := by unfold maxLen; omega
  obtain ⟨wa, hwa⟩ : ∃ x, x = (w.alloc (.cells (obA o A c B d) 25)).alloc (.cells (obA obZ none 0 none 0) 25) := ⟨_, rfl⟩
  have hb : Blk wa w.heap.size 25 (obA o A c B d) := by rw [hwa]; exact (Blk.new w _ _).alloc _
  have hr : Blk wa (w.heap.size + 1) 25 (obA obZ none 0 none 0) := by rw [hwa]; exact Blk.new1 w _ _ _
  have hg0 : Gr w wa := by rw [hwa]; exact ((Gr.refl w).alloc _).alloc _
  obtain ⟨p, hp⟩ : ∃ p, p = w.heap.size := ⟨_, rfl⟩
  rw [← hp] at hb hr
  have hwp : w.heap.size ≤ p := by omega
  have HB := sec hb
  have HRR := sec hr
  have HRW := sec (hR.gr hg0)
  have HSK : Sec (∀ w', Gr wa w' → w'.cell? ⟨p, 2, none⟩ = some (.slice A o.ents.length c) ∧ w'.cell? ⟨p, 4, none⟩ = some (.slice B o.pars.length d) ∧ w'.frozen? ⟨p, 2, none⟩ = false ∧ w'.frozen? ⟨p, 4, none⟩ = false) := sec (fun w' g => ⟨(hb.gr g).cell 2, (hb.gr g).cell 4, (hb.gr g).frozen 2, (hb.gr g).frozen 4⟩)
  have HSZ : Sec (∀ w', Gr wa w' → p + 1 < w'.heap.size) := sec (fun w' g => (hr.gr g).lt)
  clear hb hr hR hz
  unfold obA obZ at hwa
  simp only [List.length_nil] at hwa
  unfold obA
  go_enter Try.func5, Try.ntmps5
  go_upto_region 1 with fail
  rw [← hwa, ← hp]
  clear hwa hp
  have gd : Gr wa wa.drew := (Gr.refl _).drew
  obtain ⟨a0, a1, a2, a3⟩ := HSK.out wa (Gr.refl _)
  go_region_law (first
    | (refine step_append_row E.ent rfl (.const (.slice none 0 0)) (.tmp 4) rfl (B := p + 1 + 1) rfl (World.ownsRow_nil _ _ _ _) rfl (Row.gr HRW.out.ents (by first | with_reducible assumption)) HRW.out.en entV_one hb1 hb2 (HSZ.out _ (by first | with_reducible assumption)) ?_; intro A1 k1 x1 o1 h1; have G1 : Gr wa x1 := Gr.grown (by first | with_reducible assumption) h1 (by rintro k hk; cases hk); obtain ⟨m0, m1, m2, m3⟩ := HSK.out x1 G1)
    | (refine step_append_row E.str rfl (.const (.slice none 0 0)) (.tmp 7) rfl (B := p + 1 + 1) rfl (World.ownsRow_nil _ _ _ _) rfl (Row.gr HRW.out.pars (by first | with_reducible assumption)) HRW.out.pn strV_oneCell hb3 hb4 (HSZ.out _ (by first | with_reducible assumption)) ?_; intro A2 k2 x2 o2 h2; have G2 : Gr wa x2 := Gr.grown (by first | with_reducible assumption) h2 (by rintro k hk; cases hk); obtain ⟨n0, n1, n2, n3⟩ := HSK.out x2 G2))
  all_goals
    rw [Nat.zero_add, List.nil_append] at o1 o2
    have g12 : Gr x1 x2 := Gr.grown (Gr.refl _) h2 (by rintro k hk; cases hk)
    have o3 := own_gr o1 g12
    have f1 : ∀ {e n cap size : Nat} {X : Option Addr} {xs : List Value}, x2.ownsRow (p + 1 + 1) e size (.slice X n cap) n xs → ((x2.setCell ⟨p, 2, none⟩ (.slice A1 o.ents.length k1)).setCell ⟨p, 4, none⟩ (.slice A2 o.pars.length k2)).ownsRow (p + 1 + 1) e size (.slice X n cap) n xs := fun h =>
      ownsRow_setCell_other (ownsRow_setCell_other h (a := ⟨p, 2, none⟩) (fun e => by have := (h.lt p e).1; omega) _) (a := ⟨p, 4, none⟩) (fun e => by have := (h.lt p e).1; omega) _
    have q1 := f1 o3
    have q2 := f1 o2
    have BX : Blk ((x2.setCell ⟨p, 2, none⟩ (.slice A1 o.ents.length k1)).setCell ⟨p, 4, none⟩ (.slice A2 o.pars.length k2)) p 25 (obA o A1 k1 A2 k2) := ((HB.out.gr G2).set_ 2 _).set_ 4 _
    have ZX := ((HRR.out.gr G2).far (p := ⟨p, 2, none⟩) (by show p + 1 ≠ p; omega) (.slice A1 o.ents.length k1)).far (p := ⟨p, 4, none⟩) (by show p + 1 ≠ p; omega) (.slice A2 o.pars.length k2)
    have GX := ((hg0.trans G2).setCell (p := ⟨p, 2, none⟩) hwp (.slice A1 o.ents.length k1)).setCell (p := ⟨p, 4, none⟩) hwp (.slice A2 o.pars.length k2)
    clear m0 m1 m2 m3 n0 n1 n2 n3 a0 a1 a2 a3 f1 o1 o2 o3
    go_wp2_with (first
      | (refine wpList_load_blk rfl 25 (.tmp 1) rfl (g := p) rfl BX aggOb ?_)
      | (refine wpList_store_blk rfl 25 (.tmp 2) (.tmp 11) rfl (g := p + 1) (cs' := obA o A1 k1 A2 k2) rfl rfl ZX aggOb rfl (obA_one _ _ _ _ _) ?_; intro w9 h9 hg9))
    refine bodyPost_ret (results_blk rfl _ rfl h9 aggOb) rfl ?_
    have r1 : EnRow w9 A1 o.ents.length o.ents := Row.only (Row.own q1) hg9 (fun h0 b off e => by have := (q1.lt b (by rw [e]; rfl)).1; omega)
    have r2 : StrRow w9 A2 o.pars.length o.pars := Row.only (Row.own q2) hg9 (fun h0 b off e => by have := (q2.lt b (by rw [e]; rfl)).1; omega)
    exact ⟨A1, k1, A2, k2, rfl, ⟨r1, r2, own_nilQ q1, own_nilQ q2, own_capQ q1, own_capQ q2⟩, Gr.only GX hg9 (by omega)⟩
end Go.Proofs.Ytmgpllakpgjicaa

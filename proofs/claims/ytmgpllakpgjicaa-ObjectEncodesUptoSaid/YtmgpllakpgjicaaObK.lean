/-
  object.Links by its contract.
-/
import Derived.Test.YtmgpllakpgjicaaObL
import Derived.Test.YtmgpllakpgjicaaDiskA
import Derived.Test.YtmgpllakpgjicaaStrings
import Derived.Test.YtmgpllakpgjicaaHasL
namespace Go.Proofs.Ytmgpllakpgjicaa
set_option maxRecDepth 100000
open Go.RowKit
set_option linter.unusedVariables false
/-- where an object leads, as a slice of strings -/
def LkPost (w : World) (L : List (List UInt8)) (e : Ending) (w' : World) : Prop := ∃ A c n, n = L.length ∧ e = .returned (.slice A n c) ∧ StrRow w' A n L ∧ (A = none → n = 0 ∧ c = 0) ∧ n ≤ c ∧ Gr w w'
theorem own_nilK {w : World} {k e n cap : Nat} {A : Option Addr} {xs : List Value} (h : w.ownsRow k e 1 (.slice A n cap) n xs) : A = none → n = 0 ∧ cap = 0 := by
  intro e
  rcases h.2 with ⟨h, h0⟩ | ⟨g, _, _, h, _⟩
  · injection h with _ h2 h3
    exact ⟨h0, h3⟩
  · injection h with h2 _ _
    rw [e] at h2; cases h2
theorem own_capK {w : World} {k e n cap : Nat} {A : Option Addr} {xs : List Value} (h : w.ownsRow k e 1 (.slice A n cap) n xs) : n ≤ cap := by
  rcases h.2 with ⟨h, h0⟩ | ⟨g, cap', cur, h, _, _, hle, _⟩
  · omega
  · injection h with _ _ h3
    subst h3
    exact hle
theorem rowkK {W : World} {g : Nat} {T : TypeId} {cs : Array Value} {k : Nat} (h : Blk W g T cs) (hk : cs.size = k) : Row W k (some ⟨g, 0, none⟩) 1 cs.toList := by
  refine ⟨by rw [Nat.one_mul]; simpa using hk, fun _ => ⟨g, 0, rfl, fun i v hv => ?_⟩⟩
  rw [Nat.zero_add, h.cell]
  simpa using hv
theorem BlkAtK {w : World} {g : Nat} {t : TypeId} {cs : Array Value} (h : g = w.heap.size) : Blk (w.alloc (.cells cs t)) g t cs := by subst h; exact Blk.new w t cs
theorem lk_post {w w' : World} {B : Nat} {A : Option Addr} {n cap : Nat} {L : List (List UInt8)} (h : w'.ownsRow B 9 1 (.slice A n cap) n (L.map strV)) (g : Gr w w') : LkPost w L (.returned (.slice A n cap)) w' :=
  ⟨A, cap, n, by have := h.1; simpa using this.symm, rfl, Row.own h, own_nilK h, own_capK h, g⟩

set_option maxHeartbeats 16000000 in
theorem obLinks_any (o : Ob) (A : Option Addr) (c : Nat) (B : Option Addr) (d : Nat) (w : World) (hR : ObR w o A c B d) (hz : ObSz 1099511627776 o) :
    Calls Try.prog 10 #[.agg (obA o A c B d)] w (LkPost w (obLk o)) := by
  have hel := hz.ents
  have hpl := hz.pars
  obtain ⟨wa, hwa⟩ : ∃ x, x = w.alloc (.cells (obA o A c B d) 25) := ⟨_, rfl⟩
  have hb : Blk wa w.heap.size 25 (obA o A c B d) := by rw [hwa]; exact Blk.new w _ _
  have hg0 : Gr w wa := by rw [hwa]; exact (Gr.refl w).alloc _
  have HEN := sec (hR.ents.gr hg0)
  have HPA := sec (hR.pars.gr hg0)
  have HPN := sec hR.pn
  obtain ⟨p, hp⟩ : ∃ p, p = w.heap.size := ⟨_, rfl⟩
  rw [← hp] at hb
  obtain ⟨V, hV⟩ : ∃ V, V = obLk o := ⟨_, rfl⟩
  have HV := sec hV
  rw [← hV]
  clear hV hz hR
  obtain ⟨kd, dt, en, tr, pa, wh, no, ti, ta⟩ := o
  simp only at HEN HPA HPN hel hpl
  unfold obA at hb hwa
  unfold obA
  simp only at hb hwa ⊢
  have HCELL : Sec (∀ w', Gr wa w' → w'.cell? ⟨p, 0, none⟩ = some (.int .i64 kd) ∧ w'.cell? ⟨p, 1, none⟩ = some (.string (bs dt)) ∧ w'.cell? ⟨p, 2, none⟩ = some (.slice A en.length c) ∧ w'.cell? ⟨p, 3, none⟩ = some (.string (bs tr)) ∧ w'.cell? ⟨p, 4, none⟩ = some (.slice B pa.length d) ∧ w'.cell? ⟨p, 5, none⟩ = some (.string (bs wh)) ∧ w'.cell? ⟨p, 6, none⟩ = some (.string (bs no)) ∧ w'.cell? ⟨p, 7, none⟩ = some (.int .i64 ti) ∧ w'.cell? ⟨p, 8, none⟩ = some (.string (bs ta))) := sec (fun w' g => ⟨(hb.gr g).cell 0, (hb.gr g).cell 1, (hb.gr g).cell 2, (hb.gr g).cell 3, (hb.gr g).cell 4, (hb.gr g).cell 5, (hb.gr g).cell 6, (hb.gr g).cell 7, (hb.gr g).cell 8⟩)
  clear hb
  have HSZ : Sec (∀ w', Gr wa w' → wa.heap.size ≤ w'.heap.size) := sec (fun w' g => g.size)
  have hb1 : (0 + 1) * 16 ≤ 140737488355328 := by omega
  have hb2 : 0 + 1 ≤ maxLen := by unfold maxLen; omega
  have hb3 : (0 + 1 + pa.length) * 16 ≤ 140737488355328 := by omega
  have hb4 : 0 + 1 + pa.length ≤ maxLen := by unfold maxLen; omega
  obtain ⟨q0, hq0⟩ : ∃ q, q = wa.heap.size := ⟨_, rfl⟩
  have HQ := sec hq0
  go_enter Try.func10, Try.ntmps10
  go_upto_region 1 with fail
  rw [← hwa, ← hp]
  clear hwa hp hq0
  obtain ⟨c0, c1, c2, c3, c4, c5, c6, c7, c8⟩ := HCELL.out wa (Gr.refl _)
  by_cases k2 : kd = 2
  · subst k2
    have HV2 : Sec (V = en.map (·.id)) := sec (by rw [HV.out]; unfold obLk; rw [if_pos rfl])
    clear HV HPA HPN hb1 hb2 hb3 hb4
    go_upto_region 4 with fail
    go_wp2_with fail
    clear c0 c1 c2 c3 c4 c5 c6 c7 c8
    go_loopg [13, 3, 5] en.length (fun fuel iv lv _ wr => ∃ (i : Nat) (A1 : Option Addr) (c1 : Nat), iv = .int .i64 (i : Int) ∧ lv = .slice A1 i c1 ∧ en.length ≤ i + fuel ∧ i ≤ en.length ∧ Sec (wr.ownsRow wa.heap.size 9 1 (.slice A1 i c1) i (((en.take i).map (·.id)).map strV)) ∧ Gr wa wr)
    case atStart => exact ⟨0, none, 0, rfl, rfl, by omega, by omega, sec (World.ownsRow_nil _ _ _ _), Gr.refl _⟩
    case round =>
      obtain ⟨i, A1, k1, rfl, rfl, hik, hi, HO, gw⟩ := hrel
      obtain ⟨c0, c1, c2, c3, c4, c5, c6, c7, c8⟩ := HCELL.out wr gw
      by_cases hlt : i < en.length
      · have hii : (i : Int) < (en.length : Int) := by omega
        obtain ⟨b, off, rfl, e0, e1, e2⟩ := (HEN.out.gr gw).cell hlt
        have HSU : Sec (((en.take (i + 1)).map (·.id)).map strV = ((en.take i).map (·.id)).map strV ++ [.string (bs en[i].id)]) := sec (by
          rw [List.take_succ_eq_append_getElem hlt, List.map_append, List.map_append]; rfl)
        obtain ⟨x, hxx⟩ : ∃ x, x = en[i] := ⟨_, rfl⟩
        rw [← hxx] at e0 e1 e2 HSU
        have HLT := sec hlt
        clear hxx hlt
        obtain ⟨nm, dr, id⟩ := x
        simp only at e0 e1 e2 HSU
        have HOx : Sec ((wr.alloc (.cells #[.string (bs nm), .bool dr, .string (bs id)] 42)).ownsRow wa.heap.size 9 1 (.slice A1 i k1) i (((en.take i).map (·.id)).map strV)) := sec (own_gr HO.out ((Gr.refl wr).alloc _))
        have gx := gw.alloc (.cells #[.string (bs nm), .bool dr, .string (bs id)] 42)
        have hbi : (i + 1) * 16 ≤ 140737488355328 := by have := HLT.out; omega
        have hbm : i + 1 ≤ maxLen := by have := HLT.out; unfold maxLen; omega
        go_wp2_with (refine wpList_append_row E.str rfl (.tmp 17) (.tmp 20) rfl rfl (own_gr HOx.out ((Gr.refl _).alloc _)) rfl (rowkK (BlkAtK (by simp)) rfl) (fun h => by cases h) (fun u hu => by simp at hu; subst hu; rfl) hbi hbm ((gx.alloc _).size) ?_; intro A2 k2 w2 o2 h2; have HO2 := sec o2; clear o2; have g2 : Gr wa w2 := Gr.grown (gx.alloc (.cells #[.string (bs id)] 9)) h2 (fun k hk => (HOx.out.lt k hk).1))
        go_roundg (gk - 1)
        case rel => exact ⟨i + 1, A2, k2, by go_num, rfl, by have := HLT.out; omega, HLT.out, sec (by rw [HSU.out]; exact HO2.out), g2⟩
        case measure => have := HLT.out; omega
      · have hE : i = en.length := by omega
        have hii : ¬ (i : Int) < (en.length : Int) := by omega
        have q : decide (i < en.length) = false := decide_eq_false hlt
        have HF : Sec (wr.ownsRow wa.heap.size 9 1 (.slice A1 i k1) i (V.map strV)) := sec (by rw [HV2.out]; have := HO.out; rwa [List.take_of_length_le (by omega)] at this)
        clear hlt hik hi hE
        go_wp2_with fail
        go_ret
        exact lk_post HF.out (hg0.trans gw)
  have z2 : (kd == 2) = false := by rw [beq_eq_false_iff_ne]; exact k2
  by_cases k3 : kd = 3
  · subst k3
    have HV2 : Sec (V = tr :: pa) := sec (by rw [HV.out]; unfold obLk; rw [if_neg (by simp only; omega), if_pos rfl])
    clear HV HEN
    go_upto_region 10 with fail
    have gd : Gr wa wa.drew := (Gr.refl _).drew
    obtain ⟨e0, e1, e2, e3, e4, -⟩ := HCELL.out (wa.alloc (.cells #[.string (bs tr)] 9)) ((Gr.refl _).alloc _)
    go_region_law (first
      | (refine step_append_row E.str rfl (.tmp 25) (.tmp 28) rfl (B := q0) rfl (World.ownsRow_nil _ _ _ _) rfl (rowkK (BlkAtK (by simp)) rfl) (fun h => by cases h) (fun u hu => by simp at hu; subst hu; rfl) hb1 hb2 (by rw [HQ.out]; simp) ?_; intro A1 k1 x1 o1 h1; have G1 : Gr wa x1 := Gr.grown ((Gr.refl _).drew.alloc _) h1 (by rintro k hk; cases hk); obtain ⟨m0, m1, m2, m3, m4, -⟩ := HCELL.out x1 G1)
      | (refine step_append_row E.str rfl (.tmp 29) (.tmp 31) rfl rfl o1 rfl (Row.gr HPA.out (by first | with_reducible assumption)) HPN.out strV_oneCell hb3 hb4 (by rw [HQ.out]; exact HSZ.out _ (by first | with_reducible assumption)) ?_; intro A2 k2 x2 o2 h2; have G2 : Gr wa x2 := Gr.grown (by first | with_reducible assumption) h2 (fun k hk => by rw [← HQ.out]; exact (o1.lt k hk).1)))
    all_goals
      have HF : Sec (x2.ownsRow q0 9 1 (.slice A2 (0 + 1 + pa.length) k2) (0 + 1 + pa.length) (V.map strV)) := sec (by rw [HV2.out]; exact o2)
      clear o1 o2 h1 h2
      go_wp2_with fail
      go_ret
      exact lk_post HF.out (hg0.trans G2)
  have z3 : (kd == 3) = false := by rw [beq_eq_false_iff_ne]; exact k3
  by_cases k4 : kd = 4
  · subst k4
    have HV2 : Sec (V = [ta]) := sec (by rw [HV.out]; unfold obLk; rw [if_neg (by simp only; omega), if_neg (by simp only; omega), if_pos rfl])
    clear HV HEN HPA
    go_wp2_with (refine wpList_append_row E.str rfl (.tmp 35) (.tmp 38) rfl (B := wa.heap.size) rfl (World.ownsRow_nil _ _ _ _) rfl (rowkK (BlkAtK (by simp)) rfl) (fun h => by cases h) (fun u hu => by simp at hu; subst hu; rfl) hb1 hb2 (((Gr.refl wa).alloc _).size) ?_; intro A2 k2 w2 o2 h2; have HO2 := sec o2; clear o2; have g2 : Gr wa w2 := Gr.grown ((Gr.refl wa).alloc (.cells #[.string (bs ta)] 9)) h2 (by rintro k hk; cases hk))
    go_ret
    exact lk_post (by rw [HV2.out]; exact HO2.out) (hg0.trans g2)
  have z4 : (kd == 4) = false := by rw [beq_eq_false_iff_ne]; exact k4
  have HV2 : Sec (V = []) := sec (by rw [HV.out]; unfold obLk; rw [if_neg (by simp only; omega), if_neg (by simp only; omega), if_neg (by simp only; omega)])
  clear HV HEN HPA
  go_wp2_with fail
  go_ret
  exact lk_post (B := q0) (by rw [HV2.out]; exact World.ownsRow_nil _ _ _ _) hg0

end Go.Proofs.Ytmgpllakpgjicaa

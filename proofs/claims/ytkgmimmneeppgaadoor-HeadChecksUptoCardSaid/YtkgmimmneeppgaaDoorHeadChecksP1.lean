/-
  What cartularylaw.HeadChecks leans on last: contracts and the walk. No conditions but those that each states.
-/
import Derived.Test.YtkgmimmneeppgaaDoorChkL
import Derived.Deep.RegionHeld3
import Derived.Test.YtkgmimmneeppgaaDoorRSeal
namespace Go.Proofs.YtkgmimmneeppgaaDoor
set_option maxRecDepth 100000
open Go.RowKit
set_option linter.unusedVariables false

theorem aggSealed : AggOk 29 3 := ⟨⟨_, Tryd.underlying29, rfl⟩, by kernel_rfl⟩
theorem aggKeys : AggOk 24 3 := ⟨⟨_, Tryd.underlying24, rfl⟩, by kernel_rfl⟩

set_option maxHeartbeats 4000000 in
theorem marks_any (n : Int) (r : List UInt8) (A : Option Addr) (k cap : Nat) (ms : List (Int × List UInt8)) (w : World) (hn : k ≤ 1099511627776) (hx : MRow w A k ms) (hA : A = none → k = 0 ∧ cap = 0) :
    Calls Tryd.prog 11 #[.agg (sealA n r A k cap)] w fun e w' => ∃ A' cap', e = .returned (.agg (sealA n r A' k cap')) ∧ MRow w' A' k ms ∧ (A' = none → k = 0 ∧ cap' = 0) ∧ Gr w w' := by
  unfold sealA
  have hb1 : (0 + k) * 24 ≤ 140737488355328 := by omega
  have hb2 : 0 + k ≤ maxLen := by unfold maxLen; omega
  go_enter Tryd.func11, Tryd.ntmps11
  go_wp2_with fail
  have hg0 : Gr w ((w.alloc (.cells #[.int .i64 n, .string (bs r), .slice A k cap] 29)).alloc (.cells #[.int .i64 0, .string (bs []), .slice none 0 0] 29)) := ((Gr.refl w).alloc _).alloc _
  have hb1' : Blk ((w.alloc (.cells #[.int .i64 n, .string (bs r), .slice A k cap] 29)).alloc (.cells #[.int .i64 0, .string (bs []), .slice none 0 0] 29)) w.heap.size 29 #[.int .i64 n, .string (bs r), .slice A k cap] := (Blk.new w _ _).alloc _
  have hb2' := Blk.new1 w (.cells #[.int .i64 n, .string (bs r), .slice A k cap] 29) 29 #[.int .i64 0, .string (bs []), .slice none 0 0]
  obtain ⟨wa, hwa⟩ : ∃ x, x = (w.alloc (.cells #[.int .i64 n, .string (bs r), .slice A k cap] 29)).alloc (.cells #[.int .i64 0, .string (bs []), .slice none 0 0] 29) := ⟨_, rfl⟩
  rw [← hwa] at hg0 hb1' hb2'
  rw [← hwa]
  obtain ⟨p1, hp1⟩ : ∃ p1, p1 = w.heap.size := ⟨_, rfl⟩
  have hp1le : w.heap.size ≤ p1 := by omega
  rw [← hp1] at hb1' hb2'
  rw [← hp1]
  clear hwa hp1
  have c10 : wa.cell? ⟨p1, 0, none⟩ = some (.int .i64 n) := hb1'.cell 0
  have c11 : wa.cell? ⟨p1, 1, none⟩ = some (.string (bs r)) := hb1'.cell 1
  have c12 : wa.cell? ⟨p1, 2, none⟩ = some (.slice A k cap) := hb1'.cell 2
  have HX := sec (hx.gr hg0)
  clear hx
  go_region_law ((refine step_append_row E.mark rfl (.const (.slice none 0 0)) (.tmp 6) rfl (w := wa.drew) (B := w.heap.size) rfl (World.ownsRow_nil _ _ _ _) rfl (Row.gr HX.out (Gr.refl _).drew) hA markL_one hb1 hb2 (hg0.drew).size ?_; intro A' c' w' hown hgn; have b1w := hb1'.drew.grown hgn (by simp [Value.ownBlock]); have b2w := hb2'.drew.grown hgn (by simp [Value.ownBlock]); have c10w : w'.cell? ⟨p1, 0, none⟩ = some (.int .i64 n) := b1w.cell 0; have c11w : w'.cell? ⟨p1, 1, none⟩ = some (.string (bs r)) := b1w.cell 1; have c20w : w'.cell? ⟨p1 + 1, 0, none⟩ = some (.int .i64 0) := b2w.cell 0; have c21w : w'.cell? ⟨p1 + 1, 1, none⟩ = some (.string (bs [])) := b2w.cell 1; have c22w : w'.cell? ⟨p1 + 1, 2, none⟩ = some (.slice none 0 0) := b2w.cell 2; have f20w := b2w.frozen 0; have f21w := b2w.frozen 1; have f22w := b2w.frozen 2; have gw : Gr w w' := hg0.drew.grown hgn (by rintro k hk; cases hk)))
  all_goals
    rw [Nat.zero_add, List.nil_append] at hown
    have hne := own_blk_ne hown b2w (by decide)
    have hown2 := ((hown.kept (grown_setCell w' ⟨p1 + 1, 0, none⟩ (.int .i64 n)) (.inr hne)).kept (grown_setCell _ ⟨p1 + 1, 1, none⟩ (.string (bs r))) (.inr hne)).kept (grown_setCell _ ⟨p1 + 1, 2, none⟩ (.slice A' k c')) (.inr hne)
    have hB2 := ((b2w.set_ 0 (.int .i64 n)).set_ 1 (.string (bs r))).set_ 2 (.slice A' k c')
    have hG2 := ((gw.setCell (p := ⟨p1 + 1, 0, none⟩) (Nat.le_succ_of_le hp1le) (.int .i64 n)).setCell (p := ⟨p1 + 1, 1, none⟩) (Nat.le_succ_of_le hp1le) (.string (bs r))).setCell (p := ⟨p1 + 1, 2, none⟩) (Nat.le_succ_of_le hp1le) (.slice A' k c')
    go_wp2_with fail
    refine bodyPost_ret (results_blk rfl _ rfl hB2 aggSealed) rfl ?_
    refine ⟨A', c', rfl, Row.own hown2, fun e => ?_, hG2⟩
    rcases hown.2 with ⟨h, h0⟩ | ⟨g, _, _, h, _⟩
    · injection h with _ h2 h3
      exact ⟨h0, h3⟩
    · injection h with h2 _ _
      rw [e] at h2; cases h2

/-- a row of strings of the call's own, in a block behind p -/
def FarStr (p : Nat) (w : World) (A : Option Addr) (n cap : Nat) (ss : List (List UInt8)) : Prop := ∃ B, p < B ∧ w.ownsRow B 9 1 (.slice A n cap) n (ss.map strV)
theorem FarStr.nil {p : Nat} {w : World} {A : Option Addr} {n cap : Nat} {ss : List (List UInt8)} (h : FarStr p w A n cap ss) : A = none → n = 0 ∧ cap = 0 := by
  intro e
  obtain ⟨B, _, h⟩ := h
  rcases h.2 with ⟨h, h0⟩ | ⟨g, _, _, h, _⟩
  · injection h with _ h2 h3
    exact ⟨h0, h3⟩
  · injection h with h2 _ _
    rw [e] at h2; cases h2
theorem FarStr.gr {p : Nat} {w w' : World} {A : Option Addr} {n cap : Nat} {ss : List (List UInt8)} (h : FarStr p w A n cap ss) (g : Gr w w') : FarStr p w' A n cap ss := by
  obtain ⟨B, hB, h⟩ := h
  exact ⟨B, hB, own_gr h g⟩
theorem FarStr.row {p : Nat} {w : World} {A : Option Addr} {n cap : Nat} {ss : List (List UInt8)} (h : FarStr p w A n cap ss) : StrRow w A n ss := by
  obtain ⟨B, hB, h⟩ := h
  exact Row.own h
theorem FarStr.set_ {p : Nat} {w : World} {A : Option Addr} {n cap : Nat} {ss : List (List UInt8)} (h : FarStr p w A n cap ss) {a : Addr} (ha : a.block ≤ p) (u : Value) : FarStr p (w.setCell a u) A n cap ss := by
  obtain ⟨B, hB, h⟩ := h
  exact ⟨B, hB, ownsRow_setCell_other h (fun e => by have := (h.lt _ e).1; omega) u⟩

set_option maxHeartbeats 4000000 in
theorem keys_any (A : Option Addr) (n c : Nat) (B : Option Addr) (m d : Nat) (need : Int) (ss ws : List (List UInt8)) (w : World) (hn : n ≤ 1099511627776) (hm : m ≤ 1099511627776)
    (hx : StrRow w A n ss) (hA : A = none → n = 0 ∧ c = 0) (hy : StrRow w B m ws) (hB : B = none → m = 0 ∧ d = 0) :
    Calls Tryd.prog 10 #[.agg (keysA A n c B m d need)] w fun e w' => ∃ A' c' B' d', e = .returned (.agg (keysA A' n c' B' m d' need)) ∧ StrRow w' A' n ss ∧ (A' = none → n = 0 ∧ c' = 0) ∧ StrRow w' B' m ws ∧ (B' = none → m = 0 ∧ d' = 0) ∧ Gr w w' := by
  unfold keysA
  go_enter Tryd.func10, Tryd.ntmps10
  go_wp2_with fail
  have hg0 : Gr w ((w.alloc (.cells #[.slice A n c, .slice B m d, .int .i64 need] 24)).alloc (.cells #[.slice none 0 0, .slice none 0 0, .int .i64 0] 24)) := ((Gr.refl w).alloc _).alloc _
  have hb1' : Blk ((w.alloc (.cells #[.slice A n c, .slice B m d, .int .i64 need] 24)).alloc (.cells #[.slice none 0 0, .slice none 0 0, .int .i64 0] 24)) w.heap.size 24 #[.slice A n c, .slice B m d, .int .i64 need] := (Blk.new w _ _).alloc _
  have hb2' := Blk.new1 w (.cells #[.slice A n c, .slice B m d, .int .i64 need] 24) 24 #[.slice none 0 0, .slice none 0 0, .int .i64 0]
  obtain ⟨wa, hwa⟩ : ∃ x, x = (w.alloc (.cells #[.slice A n c, .slice B m d, .int .i64 need] 24)).alloc (.cells #[.slice none 0 0, .slice none 0 0, .int .i64 0] 24) := ⟨_, rfl⟩
  rw [← hwa] at hg0 hb1' hb2'
  rw [← hwa]
  obtain ⟨p1, hp1⟩ : ∃ p1, p1 = w.heap.size := ⟨_, rfl⟩
  have hp1le : w.heap.size ≤ p1 + 1 := by omega
  rw [← hp1] at hb1' hb2'
  rw [← hp1]
  clear hwa hp1
  have HS1 : Sec (∀ W, Gr wa W → Calls Tryd.prog 37 #[.slice A n c] W fun e w' => ∃ A' cap', e = .returned (.slice A' n cap') ∧ FarStr (p1 + 1) w' A' n cap' ss ∧ Gr W w') := sec (fun W g => (strings_any ss n A c W hn ((hx.gr hg0).gr g) hA).mono fun e w' ⟨A', c', he, ho, hg⟩ => ⟨A', c', he, ⟨_, (hb2'.gr g).lt, ho⟩, hg⟩)
  have HS2 : Sec (∀ W, Gr wa W → Calls Tryd.prog 37 #[.slice B m d] W fun e w' => ∃ A' cap', e = .returned (.slice A' m cap') ∧ FarStr (p1 + 1) w' A' m cap' ws ∧ Gr W w') := sec (fun W g => (strings_any ws m B d W hm ((hy.gr hg0).gr g) hB).mono fun e w' ⟨A', c', he, ho, hg⟩ => ⟨A', c', he, ⟨_, (hb2'.gr g).lt, ho⟩, hg⟩)
  have HB1 := sec hb1'
  have HB2 := sec hb2'
  have HG0 := sec hg0
  have HSK : Sec (∀ w', Gr wa w' → w'.cell? ⟨p1, 0, none⟩ = some (.slice A n c) ∧ w'.cell? ⟨p1, 1, none⟩ = some (.slice B m d) ∧ w'.cell? ⟨p1, 2, none⟩ = some (.int .i64 need) ∧ w'.cell? ⟨p1 + 1, 0, none⟩ = some (.slice none 0 0) ∧ w'.cell? ⟨p1 + 1, 1, none⟩ = some (.slice none 0 0) ∧ w'.cell? ⟨p1 + 1, 2, none⟩ = some (.int .i64 0) ∧ w'.frozen? ⟨p1 + 1, 0, none⟩ = false ∧ w'.frozen? ⟨p1 + 1, 1, none⟩ = false ∧ w'.frozen? ⟨p1 + 1, 2, none⟩ = false) := sec (fun w' g => ⟨(HB1.out.gr g).cell 0, (HB1.out.gr g).cell 1, (HB1.out.gr g).cell 2, (HB2.out.gr g).cell 0, (HB2.out.gr g).cell 1, (HB2.out.gr g).cell 2, (HB2.out.gr g).frozen 0, (HB2.out.gr g).frozen 1, (HB2.out.gr g).frozen 2⟩)
  have HST : Sec (∀ w' u v x, Gr wa w' → (((w'.setCell ⟨p1 + 1, 0, none⟩ u).setCell ⟨p1 + 1, 1, none⟩ v).setCell ⟨p1 + 1, 2, none⟩ x).cell? ⟨p1, 0, none⟩ = some (.slice A n c) ∧ (((w'.setCell ⟨p1 + 1, 0, none⟩ u).setCell ⟨p1 + 1, 1, none⟩ v).setCell ⟨p1 + 1, 2, none⟩ x).cell? ⟨p1, 1, none⟩ = some (.slice B m d) ∧ (((w'.setCell ⟨p1 + 1, 0, none⟩ u).setCell ⟨p1 + 1, 1, none⟩ v).setCell ⟨p1 + 1, 2, none⟩ x).cell? ⟨p1, 2, none⟩ = some (.int .i64 need)) := sec (fun w' u v x g => by
    have h := (((HB1.out.gr g).far (p := ⟨p1 + 1, 0, none⟩) (by show p1 ≠ p1 + 1; omega) u).far (p := ⟨p1 + 1, 1, none⟩) (by show p1 ≠ p1 + 1; omega) v).far (p := ⟨p1 + 1, 2, none⟩) (by show p1 ≠ p1 + 1; omega) x
    exact ⟨h.cell 0, h.cell 1, h.cell 2⟩)
  clear hx hy hA hB hb1' hb2' hg0
  have gd : Gr wa wa.drew := (Gr.refl _).drew
  have HSD := HSK.out wa.drew gd
  go_region_held3 (fun w' => w'.cell? ⟨p1, 0, none⟩ = some (.slice A n c) ∧ w'.cell? ⟨p1, 1, none⟩ = some (.slice B m d) ∧ w'.cell? ⟨p1, 2, none⟩ = some (.int .i64 need))
    (first | with_reducible assumption | exact ⟨HSD.1, HSD.2.1, HSD.2.2.1⟩ | exact ⟨k0, k1, k2⟩ | exact ⟨l0, l1, l2⟩ | exact HST.out _ _ _ _ G5 | exact HST.out _ _ _ _ G4 | fail)
    (first
      | (go_at_call 37; (with_reducible refine Calls.mono (HS1.out _ (by first | with_reducible assumption)) ?_); rintro e w4 ⟨A1, c1, rfl, r1, g4⟩; have G4 : Gr wa w4 := Gr.trans (by with_reducible assumption) g4; obtain ⟨k0, k1, k2, k3, k4, k5, k6, k7, k8⟩ := HSK.out w4 G4)
      | (go_at_call 37; (with_reducible refine Calls.mono (HS2.out _ (by first | with_reducible assumption)) ?_); rintro e w5 ⟨B1, d1, rfl, r2, g5⟩; have G5 : Gr wa w5 := Gr.trans (by with_reducible assumption) g5; obtain ⟨l0, l1, l2, l3, l4, l5, l6, l7, l8⟩ := HSK.out w5 G5)
      | fail)
  all_goals
    have f1 := (((r1.gr g5).set_ (a := ⟨p1 + 1, 0, none⟩) (Nat.le_refl _) (.slice A1 n c1)).set_ (a := ⟨p1 + 1, 1, none⟩) (Nat.le_refl _) (.slice B1 m d1)).set_ (a := ⟨p1 + 1, 2, none⟩) (Nat.le_refl _) (.int .i64 need)
    have f2 := ((r2.set_ (a := ⟨p1 + 1, 0, none⟩) (Nat.le_refl _) (.slice A1 n c1)).set_ (a := ⟨p1 + 1, 1, none⟩) (Nat.le_refl _) (.slice B1 m d1)).set_ (a := ⟨p1 + 1, 2, none⟩) (Nat.le_refl _) (.int .i64 need)
    have hB2 := (((HB2.out.gr G5).set_ 0 (.slice A1 n c1)).set_ 1 (.slice B1 m d1)).set_ 2 (.int .i64 need)
    have hG2 := (((HG0.out.trans G5).setCell (p := ⟨p1 + 1, 0, none⟩) hp1le (.slice A1 n c1)).setCell (p := ⟨p1 + 1, 1, none⟩) hp1le (.slice B1 m d1)).setCell (p := ⟨p1 + 1, 2, none⟩) hp1le (.int .i64 need)
    clear k0 k1 k2 k3 k4 k5 k6 k7 k8 l0 l1 l2 l3 l4 l5 l6 l7 l8 HSD
    go_wp2_with fail
    refine bodyPost_ret (results_blk rfl _ rfl hB2 aggKeys) rfl ?_
    exact ⟨A1, _, B1, _, rfl, f1.row, f1.nil, f2.row, f2.nil, hG2⟩
end Go.Proofs.YtkgmimmneeppgaaDoor

namespace Go.Proofs.YtkgmimmneeppgaaDoor
set_option maxRecDepth 100000
open Go.RowKit
set_option linter.unusedVariables false

set_option maxHeartbeats 8000000 in
theorem hcheck_any (A : Option Addr) (n c : Nat) (B : Option Addr) (m d : Nat) (need : Int) (ws : List (List UInt8)) (hn : Int) (r : List UInt8) (M : Option Addr) (k cap : Nat) (ms : List (Int × List UInt8)) (w : World)
    (hm : m ≤ 1099511627776) (hk : k ≤ 1099511627776) (hy : StrRow w B m ws) (hws : ∀ x ∈ ws, x.length ≤ 1099511627776) (hx : MRow w M k ms) (hr : r.length ≤ 1099511627776) (hT : TabK w) :
    Calls Tryd.prog 9 #[.agg (keysA A n c B m d need), .agg (sealA hn r M k cap)] w fun e w' => e = .returned (.int .i64 (ckH ws hn r ms)) ∧ Gr w w' := by
  have hxl := hdTxt_len hn r
  have HTx := sec (fun w => htext_any hn r w hr)
  have HSe : Sec (∀ key : List UInt8, key.length ≤ 1099511627776 → ∀ w', Gr w w' → Calls Tryd.prog 36 #[.string (bs key), .string (bs (hd4 ++ (hdTxt hn r).1))] w' fun e w'' => e = .returned (.string (bs (seal' key (hd4 ++ (hdTxt hn r).1)))) ∧ Gr w' w'') := sec (fun key hkey w' g => seal_any key _ w' (hT.gr g) (by omega) (by simp only [List.length_append, hd4, List.length_cons, List.length_nil]; omega))
  obtain ⟨wa, hwa⟩ : ∃ x, x = (w.alloc (.cells (keysA A n c B m d need) 24)).alloc (.cells (sealA hn r M k cap) 29) := ⟨_, rfl⟩
  have hb : Blk wa w.heap.size 24 (keysA A n c B m d need) := by rw [hwa]; exact (Blk.new w _ _).alloc _
  have hs : Blk wa (w.heap.size + 1) 29 (sealA hn r M k cap) := by rw [hwa]; exact Blk.new1 w _ _ _
  have hg0 : Gr w wa := by rw [hwa]; exact ((Gr.refl w).alloc _).alloc _
  obtain ⟨p, hp⟩ : ∃ p, p = w.heap.size := ⟨_, rfl⟩
  rw [← hp] at hb hs
  have hml := StrRow.len hy
  have hkl := MRow.len hx
  have HY := sec (hy.gr hg0)
  have HX := sec (hx.gr hg0)
  have HW := sec hws
  unfold ckH
  obtain ⟨tx, htx⟩ : ∃ t, t = (hdTxt hn r).1 := ⟨_, rfl⟩
  obtain ⟨te, hte⟩ : ∃ t, t = (hdTxt hn r).2 := ⟨_, rfl⟩
  rw [← htx, ← hte] at HTx
  rw [← htx] at HSe hxl
  rw [← htx, ← hte]
  have HB := sec hb
  have HS := sec hs
  have c0 : wa.cell? ⟨p + 1, 0, none⟩ = some (.int .i64 hn) := hs.cell 0
  have c1 : wa.cell? ⟨p + 1, 1, none⟩ = some (.string (bs r)) := hs.cell 1
  have HCELL : Sec (∀ w', Gr wa w' → w'.cell? ⟨p, 1, none⟩ = some (.slice B m d) ∧ w'.cell? ⟨p + 1, 2, none⟩ = some (.slice M k cap)) := sec (fun w' g => ⟨(HB.out.gr g).cell 1, (HS.out.gr g).cell 2⟩)
  have HC4 : Sec ((bs (hd4 ++ tx)) = { data := #[104, 101, 97, 100] } ++ bs tx) := sec (bs_append hd4 tx).symm
  have hcat : ¬ 9223372036854775807 < 4 + tx.length := by omega
  have HML := sec hml
  have HKL := sec hkl
  clear hb hs hx hy hws htx hte hT hr hml hkl
  unfold headC at HTx
  unfold keysA sealA at hwa
  unfold keysA sealA
  by_cases h0 : te = 0
  · rw [if_pos h0]
    subst h0
    obtain ⟨b4, hb4⟩ : ∃ b, b = hd4 ++ tx := ⟨_, rfl⟩
    rw [← hb4] at HSe HC4
    rw [← hb4]
    clear hb4
    obtain ⟨E, hE⟩ : ∃ E, E = ckM ws b4 (-1) ms := ⟨_, rfl⟩
    rw [← hE]
    have HE := sec hE
    clear hE
    obtain ⟨V, hV⟩ : ∃ V : Int, V = if E = 0 then (if ms.length < 3 then 13 else 0) else E := ⟨_, rfl⟩
    rw [← hV]
    have HV := sec hV
    clear hV
    go_enter Tryd.func9, Tryd.ntmps9
    go_wp2_with (first
      | (rw [← hwa, ← hp]; clear hwa hp; go_wp2_with fail)
      | (go_at_call 35; refine Calls.mono (HTx.out _) ?_; rintro e w1 ⟨rfl, g1⟩; obtain ⟨y0, y1⟩ := HCELL.out w1 g1))
    clear y0 c0 c1 HTx
    go_loopg [21, 7, 8] k (fun fuel iv _ _ wr => ∃ (i : Nat) (last : Int), iv = .int .i64 (i : Int) ∧ k ≤ i + fuel ∧ i ≤ k ∧ Sec (ckSeen ws b4 ms i last) ∧ Gr wa wr)
    case atStart => exact ⟨0, -1, rfl, by omega, by omega, sec (ckSeen0 ..), g1⟩
    case round =>
      obtain ⟨i, last, rfl, hik, hi, HCK, hg⟩ := hrel
      clear y1 g1
      by_cases hlt : i < k
      · have hif : i < ms.length := by have := HKL.out; omega
        have hii : (i : Int) < (k : Int) := by omega
        obtain ⟨b, off, rfl, e0, e1⟩ := (HX.out.gr hg).cell hif
        have hhere := HCK.out.here hif
        have HNEXT := sec (fun h1 h2 => HCK.out.next hif h1 h2)
        have hlow := HCK.out.low (by omega)
        have HPREV : Sec (∀ j, i = j + 1 → wr.cell? ⟨b, off + j * 2, none⟩ = some (.int .i64 last)) := sec (fun j hj => by
          obtain ⟨b', off', e, h0, _⟩ := (HX.out.gr hg).cell (i := j) (by omega)
          injection e with e; injection e with e3 e4 _
          subst e3 e4
          have := (HCK.out.2.2 ⟨by omega, by omega⟩).1
          subst hj
          rw [this]; exact h0)
        have HZERO : Sec (i = 0 → last = -1) := sec HCK.out.2.1
        obtain ⟨x, hx⟩ : ∃ x, x = ms[i] := ⟨_, rfl⟩
        rw [← hx] at e0 e1 hhere HNEXT
        clear hx
        obtain ⟨mw, sl⟩ := x
        simp only at e0 e1 hhere HNEXT
        have HHERE := sec hhere
        have HII := sec (And.intro hif hlt)
        clear hhere hif
        go_upto_region 7 with fail
        have hgx := hg.alloc (.cells #[.int .i64 mw, .string (bs sl)] 63)
        have hMB := Blk.new wr 63 #[.int .i64 mw, .string (bs sl)]
        have HPX := sec (fun j (hj : i = j + 1) => (World.cell?_alloc_lt wr (.cells #[.int .i64 mw, .string (bs sl)] 63) ⟨b, off + j * 2, none⟩ (World.block_lt_of_cell? wr _ (HPREV.out j hj))).trans (HPREV.out j hj))
        obtain ⟨wx, hwx⟩ : ∃ x, x = wr.alloc (.cells #[.int .i64 mw, .string (bs sl)] 63) := ⟨_, rfl⟩
        obtain ⟨q, hq⟩ : ∃ q, q = wr.heap.size := ⟨_, rfl⟩
        rw [← hwx] at hgx hMB HPX
        rw [← hq] at hMB
        rw [← hwx, ← hq]
        clear hwx hq e0 e1 HPREV hg
        have HMB := sec hMB
        obtain ⟨y0, y1⟩ := HCELL.out wx hgx
        have c0 : wx.cell? ⟨q, 0, none⟩ = some (.int .i64 mw) := hMB.cell 0
        have c1 : wx.cell? ⟨q, 1, none⟩ = some (.string (bs sl)) := hMB.cell 1
        clear hMB
        obtain ⟨bad, hbad⟩ : ∃ bad : Bool, bad = decide (mw ≤ last ∨ 3 < mw ∨ (ws.length : Int) ≤ mw) := ⟨_, rfl⟩
        have HBAD := sec hbad
        clear hbad
        go_cut [53] (fun v53 wc => v53 = .bool bad ∧ Gr wx wc)
        case first =>
          by_cases g0 : mw < 0
          · have q0 : decide (mw < 0) = true := decide_eq_true g0
            have HB0 : Sec (bad = true) := sec (by rw [HBAD.out]; exact decide_eq_true (Or.inl (by omega)))
            go_quiet (fail)
            go_wp2_with fail
            go_meet
            exact ⟨by rw [HB0.out], Gr.drewN (Gr.refl _) _⟩
          · obtain ⟨a, rfl⟩ : ∃ a : Nat, mw = (a : Int) := ⟨mw.toNat, by omega⟩
            have q0 : decide ((a : Int) < 0) = false := decide_eq_false g0
            by_cases g1 : 4 ≤ a ∨ m ≤ a
            · have HB0 : Sec (bad = true) := sec (by rw [HBAD.out]; exact decide_eq_true (Or.inr (by have := HML.out; omega)))
              by_cases g2 : (4 : Int) < (m : Int)
              · have q1 : decide ((4 : Int) ≤ (a : Int)) = true := decide_eq_true (by omega)
                go_quiet (fail)
                go_wp2_with fail
                go_meet
                exact ⟨by rw [HB0.out], Gr.drewN (Gr.refl _) _⟩
              · have q1 : decide (m ≤ a) = true := decide_eq_true (by omega)
                go_quiet (fail)
                go_wp2_with fail
                go_meet
                exact ⟨by rw [HB0.out], Gr.drewN (Gr.refl _) _⟩
            · have q1 : decide ((4 : Int) ≤ (a : Int)) = false := decide_eq_false (by omega)
              have q2 : decide (m ≤ a) = false := decide_eq_false (by omega)
              by_cases hi0 : i = 0
              · have HB0 : Sec (bad = false) := sec (by
                  rw [HBAD.out, HZERO.out hi0]
                  exact decide_eq_false (by have := HML.out; omega))
                subst hi0
                by_cases g2 : (4 : Int) < (m : Int)
                · go_quiet (fail)
                  go_wp2_with fail
                  go_meet
                  exact ⟨by rw [HB0.out], Gr.drewN (Gr.refl _) _⟩
                · go_quiet (fail)
                  go_wp2_with fail
                  go_meet
                  exact ⟨by rw [HB0.out], Gr.drewN (Gr.refl _) _⟩
              · obtain ⟨j, hj⟩ : ∃ j, i = j + 1 := ⟨i - 1, by omega⟩
                have p0 := HPX.out j hj
                have hij : (i : Int) - 1 = (j : Int) := by omega
                have hi1 : 0 < i := by omega
                have hjk : (j : Int) < (k : Int) := by omega
                by_cases g3 : (a : Int) ≤ last
                · have HB0 : Sec (bad = true) := sec (by rw [HBAD.out]; exact decide_eq_true (Or.inl g3))
                  have q3 : decide ((a : Int) ≤ last) = true := decide_eq_true g3
                  clear hj hi0
                  by_cases g2 : (4 : Int) < (m : Int)
                  · go_quiet (fail)
                    go_wp2_with fail
                    go_meet
                    exact ⟨by rw [HB0.out], Gr.drewN (Gr.refl _) _⟩
                  · go_quiet (fail)
                    go_wp2_with fail
                    go_meet
                    exact ⟨by rw [HB0.out], Gr.drewN (Gr.refl _) _⟩
                · have HB0 : Sec (bad = false) := sec (by rw [HBAD.out]; exact decide_eq_false (by have := HML.out; omega))
                  have q3 : decide ((a : Int) ≤ last) = false := decide_eq_false g3
                  clear hj hi0
                  by_cases g2 : (4 : Int) < (m : Int)
                  · go_quiet (fail)
                    go_wp2_with fail
                    go_meet
                    exact ⟨by rw [HB0.out], Gr.drewN (Gr.refl _) _⟩
                  · go_quiet (fail)
                    go_wp2_with fail
                    go_meet
                    exact ⟨by rw [HB0.out], Gr.drewN (Gr.refl _) _⟩
        case rest =>
          obtain ⟨rfl, gc⟩ := hcut
          clear y0 y1 c0 c1
          obtain ⟨y0, y1⟩ := HCELL.out wc (hgx.trans gc)
          have c0 : wc.cell? ⟨q, 0, none⟩ = some (.int .i64 mw) := (HMB.out.gr gc).cell 0
          have c1 : wc.cell? ⟨q, 1, none⟩ = some (.string (bs sl)) := (HMB.out.gr gc).cell 1
          cases bad
          · have hnb := of_decide_eq_false HBAD.out.symm
            obtain ⟨a, rfl⟩ : ∃ a : Nat, mw = (a : Int) := ⟨mw.toNat, by omega⟩
            have ham : a < m := by have := HML.out; omega
            have haw : a < ws.length := by have := HML.out; omega
            obtain ⟨b', off', rfl, w0⟩ := (HY.out.gr (hgx.trans gc)).cell haw
            have hwsz := HW.out ws[a] (List.getElem_mem haw)
            have hgd : ws.getD (a : Int).toNat [] = ws[a] := by rw [Int.toNat_natCast, List.getD_eq_getElem?_getD, List.getElem?_eq_getElem haw]; rfl
            have hhere := HHERE.out
            rw [if_neg hnb, hgd, ← HE.out] at hhere
            have HNX := sec (HNEXT.out hnb)
            rw [hgd] at HNX
            obtain ⟨key, hkey⟩ : ∃ key, key = ws[a] := ⟨_, rfl⟩
            rw [← hkey] at hwsz hhere HNX w0
            have HSk := sec (fun W (g : Gr wa W) => HSe.out key hwsz W (hg0.trans g))
            obtain ⟨sv, hsv⟩ : ∃ sv, sv = seal' key b4 := ⟨_, rfl⟩
            rw [← hsv] at HSk hhere HNX
            rw [HC4.out] at HSk
            have HHX := sec hhere
            have HNB := sec hnb
            have ham' : (a : Int) < (m : Int) := by omega
            clear hkey hsv hwsz hgd hhere hnb HHERE HNEXT HBAD HZERO HPX haw ham
            have gcd : Gr wc wc.drew := (Gr.refl _).drew
            have HKP : Sec (∀ W, Gr wc W → W.cell? ⟨p, 1, none⟩ = some (.slice (some ⟨b', off', none⟩) m d) ∧ W.cell? ⟨q, 0, none⟩ = some (.int .i64 (a : Int)) ∧ W.cell? ⟨q, 1, none⟩ = some (.string (bs sl)) ∧ W.cell? ⟨b', off' + a, none⟩ = some (.string (bs key))) := sec (fun W g => ⟨(HCELL.out W ((hgx.trans gc).trans g)).1, ((HMB.out.gr gc).gr g).cell 0, ((HMB.out.gr gc).gr g).cell 1, (g.cells.1 b' _ (World.block_lt_of_cell? wc _ w0)).trans w0⟩)
            by_cases hsl : sv = sl
            · have HSQ := sec hsl
              have HEN : Sec (ckSeen ws b4 ms (i + 1) (a : Int)) := sec (HNX.out hsl)
              subst hsl
              go_wp2_with fail
              go_region_held3 (fun W => W.cell? ⟨p, 1, none⟩ = some (.slice (some ⟨b', off', none⟩) m d) ∧ W.cell? ⟨q, 0, none⟩ = some (.int .i64 (a : Int)) ∧ W.cell? ⟨q, 1, none⟩ = some (.string (bs sv)) ∧ W.cell? ⟨b', off' + a, none⟩ = some (.string (bs key)))
                (first | with_reducible assumption | with_reducible exact HKP.out _ gcd | with_reducible exact HKP.out _ g4 | fail)
                (first
                  | (go_at_call 36; (refine Calls.mono (HSk.out wc.drew ((hgx.trans gc).trans gcd)) ?_); rintro e w4 ⟨rfl, g4'⟩; have g4 : Gr wc w4 := Gr.trans gcd g4')
                  | fail)
              all_goals
                go_wp2_with fail
                go_roundg (gk - 1)
                case rel => exact ⟨i + 1, (a : Int), by go_num, by omega, by have := HII.out.2; omega, HEN, ((hgx.trans gc).trans g4)⟩
                case measure => have := HII.out.2; omega
            · have hne : (sv == sl) = false := by rw [beq_eq_false_iff_ne]; exact hsl
              have hne2 : (sv != sl) = true := by rw [bne_iff_ne]; exact hsl
              have HV13 : Sec (V = 13) := sec (by
                have hh := HHX.out
                rw [if_neg hsl] at hh
                rw [HV.out, hh]; rfl)
              clear hsl
              go_wp2_with fail
              go_region_held3 (fun W => W.cell? ⟨p, 1, none⟩ = some (.slice (some ⟨b', off', none⟩) m d) ∧ W.cell? ⟨q, 0, none⟩ = some (.int .i64 (a : Int)) ∧ W.cell? ⟨q, 1, none⟩ = some (.string (bs sl)) ∧ W.cell? ⟨b', off' + a, none⟩ = some (.string (bs key)))
                (first | with_reducible assumption | with_reducible exact HKP.out _ gcd | with_reducible exact HKP.out _ g4 | fail)
                (first
                  | (go_at_call 36; (refine Calls.mono (HSk.out wc.drew ((hgx.trans gc).trans gcd)) ?_); rintro e w4 ⟨rfl, g4'⟩; have g4 : Gr wc w4 := Gr.trans gcd g4')
                  | fail)
              all_goals
                go_wp2_with fail
                go_ret
                exact ⟨by rw [HV13.out]; rfl, hg0.trans ((hgx.trans gc).trans g4)⟩
          · have hyb := of_decide_eq_true HBAD.out.symm
            have HV3 : Sec (V = 3) := sec (by
              have hh := HHERE.out
              rw [if_pos hyb, ← HE.out] at hh
              rw [HV.out, hh]; rfl)
            clear hyb
            go_wp2_with fail
            go_ret
            exact ⟨by rw [HV3.out]; rfl, hg0.trans (hgx.trans gc)⟩
      · obtain rfl : i = k := by omega
        have HE0 : Sec (E = 0) := sec (by rw [HE.out]; exact HCK.out.done (by have := HKL.out; omega))
        obtain ⟨y0, y1⟩ := HCELL.out wr hg
        clear hlt hik
        by_cases h3 : i < 3
        · have q3 : decide ((i : Int) < 3) = true := decide_eq_true (by omega)
          go_wp2_with fail
          go_ret
          exact ⟨by rw [HV.out, HE0.out, if_pos rfl, if_pos (by rw [HKL.out]; exact h3)]; rfl, hg0.trans hg⟩
        · have q3 : decide ((i : Int) < 3) = false := decide_eq_false (by omega)
          go_wp2_with fail
          go_ret
          exact ⟨by rw [HV.out, HE0.out, if_pos rfl, if_neg (by rw [HKL.out]; exact h3)]; rfl, hg0.trans hg⟩
  · rw [if_neg h0]
    have m0 : (te != 0) = true := by simpa using h0
    go_enter Tryd.func9, Tryd.ntmps9
    go_wp2_with (first
      | (rw [← hwa, ← hp]; clear hwa hp; go_wp2_with fail)
      | (go_at_call 35; refine Calls.mono (HTx.out _) ?_; rintro e w1 ⟨rfl, g1⟩))
    go_ret
    exact ⟨rfl, hg0.trans g1⟩
end Go.Proofs.YtkgmimmneeppgaaDoor

namespace Go.Proofs.YtkgmimmneeppgaaDoor
set_option maxRecDepth 100000
open Go.RowKit
set_option linter.unusedVariables false

set_option maxHeartbeats 8000000 in
theorem rhcheck_any (A : Option Addr) (n c : Nat) (B : Option Addr) (m d : Nat) (need : Int) (ws : List (List UInt8)) (hn : Int) (r : List UInt8) (M : Option Addr) (k cap : Nat) (ms : List (Int × List UInt8)) (w : World)
    (hm : m ≤ 1099511627776) (hk : k ≤ 1099511627776) (hy : StrRow w B m ws) (hws : ∀ x ∈ ws, x.length ≤ 1099511627776) (hx : MRow w M k ms) (hr : r.length ≤ 1099511627776) (hT : TabK w) :
    Calls Tryd.prog 12 #[.agg (keysA A n c B m d need), .agg (sealA hn r M k cap)] w fun e w' => e = .returned (.int .i64 (ckH ws hn r ms)) ∧ Gr w w' := by
  have hxl := hdTxt_len hn r
  have HTx := sec (fun w => rhtext_any hn r w hr)
  have HSe : Sec (∀ key : List UInt8, key.length ≤ 1099511627776 → ∀ w', Gr w w' → Calls Tryd.prog 39 #[.string (bs key), .string (bs (hd4 ++ (hdTxt hn r).1))] w' fun e w'' => e = .returned (.string (bs (seal' key (hd4 ++ (hdTxt hn r).1)))) ∧ Gr w' w'') := sec (fun key hkey w' g => rseal_any key _ w' (by omega) (by simp only [List.length_append, hd4, List.length_cons, List.length_nil]; omega))
  obtain ⟨wa, hwa⟩ : ∃ x, x = (w.alloc (.cells (keysA A n c B m d need) 24)).alloc (.cells (sealA hn r M k cap) 29) := ⟨_, rfl⟩
  have hb : Blk wa w.heap.size 24 (keysA A n c B m d need) := by rw [hwa]; exact (Blk.new w _ _).alloc _
  have hs : Blk wa (w.heap.size + 1) 29 (sealA hn r M k cap) := by rw [hwa]; exact Blk.new1 w _ _ _
  have hg0 : Gr w wa := by rw [hwa]; exact ((Gr.refl w).alloc _).alloc _
  obtain ⟨p, hp⟩ : ∃ p, p = w.heap.size := ⟨_, rfl⟩
  rw [← hp] at hb hs
  have hml := StrRow.len hy
  have hkl := MRow.len hx
  have HY := sec (hy.gr hg0)
  have HX := sec (hx.gr hg0)
  have HW := sec hws
  unfold ckH
  obtain ⟨tx, htx⟩ : ∃ t, t = (hdTxt hn r).1 := ⟨_, rfl⟩
  obtain ⟨te, hte⟩ : ∃ t, t = (hdTxt hn r).2 := ⟨_, rfl⟩
  rw [← htx, ← hte] at HTx
  rw [← htx] at HSe hxl
  rw [← htx, ← hte]
  have HB := sec hb
  have HS := sec hs
  have c0 : wa.cell? ⟨p + 1, 0, none⟩ = some (.int .i64 hn) := hs.cell 0
  have c1 : wa.cell? ⟨p + 1, 1, none⟩ = some (.string (bs r)) := hs.cell 1
  have HCELL : Sec (∀ w', Gr wa w' → w'.cell? ⟨p, 1, none⟩ = some (.slice B m d) ∧ w'.cell? ⟨p + 1, 2, none⟩ = some (.slice M k cap)) := sec (fun w' g => ⟨(HB.out.gr g).cell 1, (HS.out.gr g).cell 2⟩)
  have HC4 : Sec ((bs (hd4 ++ tx)) = { data := #[104, 101, 97, 100] } ++ bs tx) := sec (bs_append hd4 tx).symm
  have hcat : ¬ 9223372036854775807 < 4 + tx.length := by omega
  have HML := sec hml
  have HKL := sec hkl
  clear hb hs hx hy hws htx hte hT hr hml hkl
  unfold headC at HTx
  unfold keysA sealA at hwa
  unfold keysA sealA
  by_cases h0 : te = 0
  · rw [if_pos h0]
    subst h0
    obtain ⟨b4, hb4⟩ : ∃ b, b = hd4 ++ tx := ⟨_, rfl⟩
    rw [← hb4] at HSe HC4
    rw [← hb4]
    clear hb4
    obtain ⟨E, hE⟩ : ∃ E, E = ckM ws b4 (-1) ms := ⟨_, rfl⟩
    rw [← hE]
    have HE := sec hE
    clear hE
    obtain ⟨V, hV⟩ : ∃ V : Int, V = if E = 0 then (if ms.length < 3 then 13 else 0) else E := ⟨_, rfl⟩
    rw [← hV]
    have HV := sec hV
    clear hV
    go_enter Tryd.func12, Tryd.ntmps12
    go_wp2_with (first
      | (rw [← hwa, ← hp]; clear hwa hp; go_wp2_with fail)
      | (go_at_call 38; refine Calls.mono (HTx.out _) ?_; rintro e w1 ⟨rfl, g1⟩; obtain ⟨y0, y1⟩ := HCELL.out w1 g1))
    clear y0 c0 c1 HTx
    go_loopg [22, 7, 9] k (fun fuel iv lv _ wr => ∃ (i : Nat) (last : Int), iv = .int .i64 (i : Int) ∧ lv = .int .i64 last ∧ k ≤ i + fuel ∧ i ≤ k ∧ Sec (ckSeen ws b4 ms i last) ∧ Gr wa wr)
    case atStart => exact ⟨0, -1, rfl, rfl, by omega, by omega, sec (ckSeen0 ..), g1⟩
    case round =>
      obtain ⟨i, last, rfl, rfl, hik, hi, HCK, hg⟩ := hrel
      clear y1 g1
      by_cases hlt : i < k
      · have hif : i < ms.length := by have := HKL.out; omega
        have hii : (i : Int) < (k : Int) := by omega
        obtain ⟨b, off, rfl, e0, e1⟩ := (HX.out.gr hg).cell hif
        have hhere := HCK.out.here hif
        have HNEXT := sec (fun h1 h2 => HCK.out.next hif h1 h2)
        have hlow := HCK.out.low (by omega)
        obtain ⟨x, hx⟩ : ∃ x, x = ms[i] := ⟨_, rfl⟩
        rw [← hx] at e0 e1 hhere HNEXT
        clear hx
        obtain ⟨mw, sl⟩ := x
        simp only at e0 e1 hhere HNEXT
        have HHERE := sec hhere
        have HII := sec (And.intro hif hlt)
        clear hhere hif
        go_upto_region 8 with fail
        have hgx := hg.alloc (.cells #[.int .i64 mw, .string (bs sl)] 63)
        have hMB := Blk.new wr 63 #[.int .i64 mw, .string (bs sl)]
        obtain ⟨wx, hwx⟩ : ∃ x, x = wr.alloc (.cells #[.int .i64 mw, .string (bs sl)] 63) := ⟨_, rfl⟩
        obtain ⟨q, hq⟩ : ∃ q, q = wr.heap.size := ⟨_, rfl⟩
        rw [← hwx] at hgx hMB
        rw [← hq] at hMB
        rw [← hwx, ← hq]
        clear hwx hq e0 e1 hg
        have HMB := sec hMB
        obtain ⟨y0, y1⟩ := HCELL.out wx hgx
        have c0 : wx.cell? ⟨q, 0, none⟩ = some (.int .i64 mw) := hMB.cell 0
        have c1 : wx.cell? ⟨q, 1, none⟩ = some (.string (bs sl)) := hMB.cell 1
        clear hMB
        by_cases hbad : mw ≤ last ∨ 3 < mw ∨ (ws.length : Int) ≤ mw
        · have HV3 : Sec (V = 3) := sec (by
            have hh := HHERE.out
            rw [if_pos hbad, ← HE.out] at hh
            rw [HV.out, hh]; rfl)
          rw [HML.out] at hbad
          by_cases g1 : mw ≤ last
          · have q1 : decide (mw ≤ last) = true := decide_eq_true g1
            clear hbad
            go_wp2_with fail
            go_ret
            exact ⟨by rw [HV3.out]; rfl, hg0.trans hgx⟩
          · have q1 : decide (mw ≤ last) = false := decide_eq_false g1
            obtain ⟨a, rfl⟩ : ∃ a : Nat, mw = (a : Int) := ⟨mw.toNat, by omega⟩
            by_cases g2 : (3 : Int) < (a : Int)
            · have q2 : decide ((3 : Int) < (a : Int)) = true := decide_eq_true g2
              clear hbad
              go_wp2_with fail
              go_ret
              exact ⟨by rw [HV3.out]; rfl, hg0.trans hgx⟩
            · have q2 : decide ((3 : Int) < (a : Int)) = false := decide_eq_false g2
              have q3 : decide (m ≤ a) = true := decide_eq_true (by omega)
              clear hbad
              go_wp2_with fail
              go_ret
              exact ⟨by rw [HV3.out]; rfl, hg0.trans hgx⟩
        · have hnb := hbad
          rw [HML.out] at hbad
          obtain ⟨a, rfl⟩ : ∃ a : Nat, mw = (a : Int) := ⟨mw.toNat, by omega⟩
          have q1 : decide ((a : Int) ≤ last) = false := decide_eq_false (by omega)
          have q2 : decide ((3 : Int) < (a : Int)) = false := decide_eq_false (by omega)
          have q3 : decide (m ≤ a) = false := decide_eq_false (by omega)
          have ham : a < m := by omega
          have haw : a < ws.length := by have := HML.out; omega
          obtain ⟨b', off', rfl, w0⟩ := (HY.out.gr hgx).cell haw
          have hwsz := HW.out ws[a] (List.getElem_mem haw)
          have hgd : ws.getD (a : Int).toNat [] = ws[a] := by rw [Int.toNat_natCast, List.getD_eq_getElem?_getD, List.getElem?_eq_getElem haw]; rfl
          have hhere := HHERE.out
          rw [if_neg hnb, hgd, ← HE.out] at hhere
          have HNX := sec (HNEXT.out hnb)
          rw [hgd] at HNX
          obtain ⟨key, hkey⟩ : ∃ key, key = ws[a] := ⟨_, rfl⟩
          rw [← hkey] at hwsz hhere HNX w0
          have HSk := sec (fun W (g : Gr wa W) => HSe.out key hwsz W (hg0.trans g))
          obtain ⟨sv, hsv⟩ : ∃ sv, sv = seal' key b4 := ⟨_, rfl⟩
          rw [← hsv] at HSk hhere HNX
          rw [HC4.out] at HSk
          have HHX := sec hhere
          have ham' : (a : Int) < (m : Int) := by omega
          clear hkey hsv hwsz hgd hhere hnb HHERE HNEXT haw ham hbad
          have gcd : Gr wx wx.drew := (Gr.refl _).drew
          have HKP : Sec (∀ W, Gr wx W → W.cell? ⟨p, 1, none⟩ = some (.slice (some ⟨b', off', none⟩) m d) ∧ W.cell? ⟨q, 0, none⟩ = some (.int .i64 (a : Int)) ∧ W.cell? ⟨q, 1, none⟩ = some (.string (bs sl)) ∧ W.cell? ⟨b', off' + a, none⟩ = some (.string (bs key))) := sec (fun W g => ⟨(HCELL.out W (hgx.trans g)).1, (HMB.out.gr g).cell 0, (HMB.out.gr g).cell 1, (g.cells.1 b' _ (World.block_lt_of_cell? wx _ w0)).trans w0⟩)
          by_cases hsl : sv = sl
          · have HEN : Sec (ckSeen ws b4 ms (i + 1) (a : Int)) := sec (HNX.out hsl)
            subst hsl
            go_wp2_with fail
            go_region_held3 (fun W => W.cell? ⟨p, 1, none⟩ = some (.slice (some ⟨b', off', none⟩) m d) ∧ W.cell? ⟨q, 0, none⟩ = some (.int .i64 (a : Int)) ∧ W.cell? ⟨q, 1, none⟩ = some (.string (bs sv)) ∧ W.cell? ⟨b', off' + a, none⟩ = some (.string (bs key)))
              (first | with_reducible assumption | with_reducible exact HKP.out _ gcd | with_reducible exact HKP.out _ g4 | fail)
              (first
                | (go_at_call 39; (refine Calls.mono (HSk.out wx.drew (hgx.trans gcd)) ?_); rintro e w4 ⟨rfl, g4'⟩; have g4 : Gr wx w4 := Gr.trans gcd g4')
                | fail)
            all_goals
              go_wp2_with fail
              go_roundg (gk - 1)
              case rel => exact ⟨i + 1, (a : Int), by go_num, rfl, by omega, by have := HII.out.2; omega, HEN, (hgx.trans g4)⟩
              case measure => have := HII.out.2; omega
          · have hne : (sv == sl) = false := by rw [beq_eq_false_iff_ne]; exact hsl
            have hne2 : (sv != sl) = true := by rw [bne_iff_ne]; exact hsl
            have HV13 : Sec (V = 13) := sec (by
              have hh := HHX.out
              rw [if_neg hsl] at hh
              rw [HV.out, hh]; rfl)
            clear hsl
            go_wp2_with fail
            go_region_held3 (fun W => W.cell? ⟨p, 1, none⟩ = some (.slice (some ⟨b', off', none⟩) m d) ∧ W.cell? ⟨q, 0, none⟩ = some (.int .i64 (a : Int)) ∧ W.cell? ⟨q, 1, none⟩ = some (.string (bs sl)) ∧ W.cell? ⟨b', off' + a, none⟩ = some (.string (bs key)))
              (first | with_reducible assumption | with_reducible exact HKP.out _ gcd | with_reducible exact HKP.out _ g4 | fail)
              (first
                | (go_at_call 39; (refine Calls.mono (HSk.out wx.drew (hgx.trans gcd)) ?_); rintro e w4 ⟨rfl, g4'⟩; have g4 : Gr wx w4 := Gr.trans gcd g4')
                | fail)
            all_goals
              go_wp2_with fail
              go_ret
              exact ⟨by rw [HV13.out]; rfl, hg0.trans (hgx.trans g4)⟩
      · obtain rfl : i = k := by omega
        have HE0 : Sec (E = 0) := sec (by rw [HE.out]; exact HCK.out.done (by have := HKL.out; omega))
        obtain ⟨y0, y1⟩ := HCELL.out wr hg
        clear hlt hik
        by_cases h3 : i < 3
        · have q3 : decide ((i : Int) < 3) = true := decide_eq_true (by omega)
          go_wp2_with fail
          go_ret
          exact ⟨by rw [HV.out, HE0.out, if_pos rfl, if_pos (by rw [HKL.out]; exact h3)]; rfl, hg0.trans hg⟩
        · have q3 : decide ((i : Int) < 3) = false := decide_eq_false (by omega)
          go_wp2_with fail
          go_ret
          exact ⟨by rw [HV.out, HE0.out, if_pos rfl, if_neg (by rw [HKL.out]; exact h3)]; rfl, hg0.trans hg⟩
  · rw [if_neg h0]
    have m0 : (te != 0) = true := by simpa using h0
    go_enter Tryd.func12, Tryd.ntmps12
    go_wp2_with (first
      | (rw [← hwa, ← hp]; clear hwa hp; go_wp2_with fail)
      | (go_at_call 38; refine Calls.mono (HTx.out _) ?_; rintro e w1 ⟨rfl, g1⟩))
    go_ret
    exact ⟨rfl, hg0.trans g1⟩
end Go.Proofs.YtkgmimmneeppgaaDoor

namespace Go.Proofs.YtkgmimmneeppgaaDoor
set_option maxRecDepth 100000
open Go.RowKit Go.ChangeShapes Go.WideShapes
set_option linter.unusedVariables false

set_option maxHeartbeats 8000000 in
theorem headChecks_walk (A : Option Addr) (c : Nat) (B : Option Addr) (d : Nat) (need : Int) (ss ws : List (List UInt8)) (hn : Int) (r : List UInt8) (M : Option Addr) (cap : Nat) (ms : List (Int × List UInt8)) (W : World)
    (hK : StrsIn W A c ss ∧ StrsIn W B d ws) (hS : MarksIn W M cap ms ∧ r.length ≤ 1048576) (hT : TabK W) :
    Calls Tryd.prog 3 #[.agg (keysA A ss.length c B ws.length d need), .agg (sealA hn r M ms.length cap)] W fun e W' => e = .returned (.bool true) ∧ Gr W W' := by
  obtain ⟨h1, h2⟩ := hK
  obtain ⟨h3, hr⟩ := hS
  have hl1 := h1.len
  have hl2 := h2.len
  have hl3 := h3.len
  obtain ⟨wa, hwa⟩ : ∃ x, x = (W.alloc (.cells (keysA A ss.length c B ws.length d need) 24)).alloc (.cells (sealA hn r M ms.length cap) 29) := ⟨_, rfl⟩
  have hb : Blk wa W.heap.size 24 (keysA A ss.length c B ws.length d need) := by rw [hwa]; exact (Blk.new W _ _).alloc _
  have hs : Blk wa (W.heap.size + 1) 29 (sealA hn r M ms.length cap) := by rw [hwa]; exact Blk.new1 W _ _ _
  have hg0 : Gr W wa := by rw [hwa]; exact ((Gr.refl W).alloc _).alloc _
  obtain ⟨p, hp⟩ : ∃ p, p = W.heap.size := ⟨_, rfl⟩
  rw [← hp] at hb hs
  have HKy : Sec (∀ w', Gr wa w' → Calls Tryd.prog 10 #[.agg (keysA A ss.length c B ws.length d need)] w' fun e w'' => ∃ A' c' B' d', e = .returned (.agg (keysA A' ss.length c' B' ws.length d' need)) ∧ StrRow w'' B' ws.length ws ∧ Gr w' w'') := sec (fun w' g => (keys_any A ss.length c B ws.length d need ss ws w' (by omega) (by omega) ((h1.row.gr hg0).gr g) h1.nil ((h2.row.gr hg0).gr g) h2.nil).mono fun e w'' ⟨A', c', B', d', he, _, _, hr2, _, hg⟩ => ⟨A', c', B', d', he, hr2, hg⟩)
  have HMk : Sec (∀ w', Gr wa w' → Calls Tryd.prog 11 #[.agg (sealA hn r M ms.length cap)] w' fun e w'' => ∃ M' k', e = .returned (.agg (sealA hn r M' ms.length k')) ∧ MRow w'' M' ms.length ms ∧ Gr w' w'') := sec (fun w' g => (marks_any hn r M ms.length cap ms w' (by omega) ((h3.row.gr hg0).gr g) h3.nil).mono fun e w'' ⟨M', k', he, hr2, _, hg⟩ => ⟨M', k', he, hr2, hg⟩)
  have HCk : Sec (∀ w' A' c' B' d' M' k', Gr wa w' → StrRow w' B' ws.length ws → MRow w' M' ms.length ms → Calls Tryd.prog 9 #[.agg (keysA A' ss.length c' B' ws.length d' need), .agg (sealA hn r M' ms.length k')] w' fun e w'' => e = .returned (.int .i64 (ckH ws hn r ms)) ∧ Gr w' w'') := sec (fun w' A' c' B' d' M' k' g hy hx => hcheck_any A' ss.length c' B' ws.length d' need ws hn r M' ms.length k' ms w' (by omega) (by omega) hy (fun x hx => by have := h2.size x hx; omega) hx (by omega) ((hT.gr hg0).gr g))
  have HRk : Sec (∀ w', Gr wa w' → Calls Tryd.prog 12 #[.agg (keysA A ss.length c B ws.length d need), .agg (sealA hn r M ms.length cap)] w' fun e w'' => e = .returned (.int .i64 (ckH ws hn r ms)) ∧ Gr w' w'') := sec (fun w' g => rhcheck_any A ss.length c B ws.length d need ws hn r M ms.length cap ms w' (by omega) (by omega) ((h2.row.gr hg0).gr g) (fun x hx => by have := h2.size x hx; omega) ((h3.row.gr hg0).gr g) (by omega) ((hT.gr hg0).gr g))
  have HHs : Sec (∀ w', Gr wa w' → Calls Tryd.prog 13 #[] w' fun e w'' => e = .returned (.bool true) ∧ Gr w' w'') := sec (fun w' g => heads_any w' ((hT.gr hg0).gr g))
  obtain ⟨E, hE⟩ : ∃ E, E = ckH ws hn r ms := ⟨_, rfl⟩
  rw [← hE] at HCk HRk
  obtain ⟨n, hn'⟩ : ∃ n, n = ss.length := ⟨_, rfl⟩
  obtain ⟨m, hm'⟩ : ∃ m, m = ws.length := ⟨_, rfl⟩
  obtain ⟨k, hk'⟩ : ∃ k, k = ms.length := ⟨_, rfl⟩
  rw [← hn', ← hm', ← hk'] at HCk
  rw [← hn', ← hm', ← hk'] at HRk
  rw [← hn', ← hm'] at HKy hb
  rw [← hk'] at HMk hs
  rw [← hn', ← hm', ← hk'] at hwa
  rw [← hn', ← hm', ← hk']
  have HSK : Sec (∀ w', Gr wa w' → w'.cell? ⟨p, 0, none⟩ = some (.slice A n c) ∧ w'.cell? ⟨p, 1, none⟩ = some (.slice B m d) ∧ w'.cell? ⟨p, 2, none⟩ = some (.int .i64 need) ∧ w'.cell? ⟨p + 1, 0, none⟩ = some (.int .i64 hn) ∧ w'.cell? ⟨p + 1, 1, none⟩ = some (.string (bs r)) ∧ w'.cell? ⟨p + 1, 2, none⟩ = some (.slice M k cap) ∧ Gr wa w') := sec (fun w' g => ⟨(hb.gr g).cell 0, (hb.gr g).cell 1, (hb.gr g).cell 2, (hs.gr g).cell 0, (hs.gr g).cell 1, (hs.gr g).cell 2, g⟩)
  clear hE hn' hm' hk' hb hs hT h1 h2 h3 hl1 hl2 hl3 hr
  unfold keysA sealA at hwa HCk HRk
  unfold keysA at HKy
  unfold sealA at HMk
  unfold keysA sealA
  go_enter Tryd.func3, Tryd.ntmps3
  go_wp2_with (first
    | (rw [← hwa, ← hp]; clear hwa hp; go_wp2_with fail))
  have gd : Gr wa wa.drew := (Gr.refl _).drew
  go_region_held3 (fun w' => w'.cell? ⟨p, 0, none⟩ = some (.slice A n c) ∧ w'.cell? ⟨p, 1, none⟩ = some (.slice B m d) ∧ w'.cell? ⟨p, 2, none⟩ = some (.int .i64 need) ∧ w'.cell? ⟨p + 1, 0, none⟩ = some (.int .i64 hn) ∧ w'.cell? ⟨p + 1, 1, none⟩ = some (.string (bs r)) ∧ w'.cell? ⟨p + 1, 2, none⟩ = some (.slice M k cap) ∧ Gr wa w')
    (first | with_reducible assumption | with_reducible exact HSK.out _ gd | with_reducible exact HSK.out _ G1 | with_reducible exact HSK.out _ G2 | with_reducible exact HSK.out _ G3 | with_reducible exact HSK.out _ G4 | with_reducible exact HSK.out _ G5 | fail)
    (first
      | (go_at_call 10; (with_reducible refine Calls.mono (HKy.out _ gd) ?_); rintro e w1 ⟨A1, c1, B1, d1, rfl, r1, g1⟩; have G1 : Gr wa w1 := Gr.trans gd g1)
      | (go_at_call 11; (with_reducible refine Calls.mono (HMk.out _ G1) ?_); rintro e w2 ⟨M1, k1, rfl, r2, g2⟩; have G2 : Gr wa w2 := Gr.trans G1 g2)
      | (go_at_call 9; (with_reducible refine Calls.mono (HCk.out _ _ _ _ _ _ _ G2 (r1.gr g2) r2) ?_); rintro e w3 ⟨rfl, g3⟩; have G3 : Gr wa w3 := Gr.trans G2 g3)
      | (go_at_call 12; (with_reducible refine Calls.mono (HRk.out _ G3) ?_); rintro e w4 ⟨rfl, g4⟩; have G4 : Gr wa w4 := Gr.trans G3 g4)
      | (go_at_call 13; (with_reducible refine Calls.mono (HHs.out _ G4) ?_); rintro e w5 ⟨rfl, g5⟩; have G5 : Gr wa w5 := Gr.trans G4 g5)
      | fail)
  all_goals (go_wp2_with fail; go_ret; exact ⟨rfl, hg0.trans G5⟩)
end Go.Proofs.YtkgmimmneeppgaaDoor

/-
  What the walk of cartularylaw.NodeMarks leans on, part 8 of 8: contracts and plain laws. No conditions.
-/
import Derived.Test.YtbhpglhmnpcnkaaDoorNodeMarksP7
import Derived.Test.YtbhpglhmnpcnkaaDoorOpen
import Derived.Test.YtbhpglhmnpcnkaaDoorNodeMarksP3
import Derived.Test.YtbhpglhmnpcnkaaDoorNodeMarksP4
import Derived.Test.YtbhpglhmnpcnkaaDoorBlock
import Derived.Test.YtbhpglhmnpcnkaaDoorCards
import Derived.Test.YtbhpglhmnpcnkaaDoorTie
import Derived.ProofKit
import Derived.Deep.DeepHandedRow
import Derived.Lib.LaidTab
namespace Go.Proofs.YtbhpglhmnpcnkaaDoor
set_option maxRecDepth 100000
open Go.RowKit Go.ChangeShapes Go.WideShapes
set_option linter.unusedVariables false

set_option maxHeartbeats 4000000 in
theorem copyWitC_any (fs : List Fl) (who : Int) (key : List UInt8) (A : Option Addr) (n cap : Nat) (f sz : Int) (r : List UInt8) (w : World) (hn : n ≤ 1099511627776) (hx : FRow w A n fs) (hA : A = none → n = 0 ∧ cap = 0) :
    Calls Tryd.prog 8 #[.agg (witA who key A n cap f sz r)] w fun e w' => ∃ A' cap', e = .returned (.agg (witA who key A' n cap' f sz r)) ∧ w'.ownsRow w.heap.size 87 3 (.slice A' n cap') n (fs.flatMap fileC) ∧ (A' = none → n = 0 ∧ cap' = 0) ∧ Gr w w' := by
  have hg0 := ((Gr.refl w).alloc (.cells (witA who key A n cap f sz r) 28)).alloc (.cells (witA 0 [] none 0 0 0 0 []) 28)
  have hb1 := (Blk.new w 28 (witA who key A n cap f sz r)).alloc (.cells (witA 0 [] none 0 0 0 0 []) 28)
  have hb2 := Blk.new1 w (.cells (witA who key A n cap f sz r) 28) 28 (witA 0 [] none 0 0 0 0 [])
  have hx1 := hx.gr hg0
  obtain ⟨wa, hwa⟩ : ∃ x, x = (w.alloc (.cells (witA who key A n cap f sz r) 28)).alloc (.cells (witA 0 [] none 0 0 0 0 []) 28) := ⟨_, rfl⟩
  rw [← hwa] at hg0 hb1 hb2 hx1
  obtain ⟨p, hp⟩ : ∃ p, p = w.heap.size := ⟨_, rfl⟩
  have hwp : w.heap.size ≤ p + 1 := by omega
  have hpw : w.heap.size ≤ p := by omega
  rw [← hp] at hb1 hb2
  have HCP := sec (copyDisk_any fs A n cap f wa hn hx1 hA)
  have HB := sec hb1
  have HR2 := sec hb2
  have HG0 := sec hg0
  have c2 : wa.cell? ⟨p, 2, none⟩ = some (.slice A n cap) := hb1.cell 2
  have c3 : wa.cell? ⟨p, 3, none⟩ = some (.int .i64 f) := hb1.cell 3
  have hpa : p + 1 < wa.heap.size := hb2.lt
  clear hx hx1 hA hb1 hb2 hg0
  unfold diskV at HCP
  unfold witA at hwa
  unfold witA
  go_enter Tryd.func8, Tryd.ntmps8
  go_wp2_with (first
  | (rw [← hwa, ← hp]; clear hwa hp; go_wp2_with fail)
  | (go_at_call 28; refine Calls.mono HCP.out ?_; rintro e w4 ⟨A1, cap1, rfl, ho, hA1, g4⟩; have B4 : Blk w4 p 28 #[.int .i64 who, .string (bs key), .slice A n cap, .int .i64 f, .int .i64 sz, .string (bs r)] := HB.out.gr g4; have Z4 := HR2.out.gr g4; have p2 : w4.cell? ⟨p, 2, none⟩ = some (.slice A n cap) := B4.cell 2; have p3 : w4.cell? ⟨p, 3, none⟩ = some (.int .i64 f) := B4.cell 3; have z2 : w4.frozen? ⟨p, 2, none⟩ = false := B4.frozen 2; have z3 : w4.frozen? ⟨p, 3, none⟩ = false := B4.frozen 3; have BX : Blk ((w4.setCell ⟨p, 2, none⟩ (.slice A1 n cap1)).setCell ⟨p, 3, none⟩ (.int .i64 f)) p 28 (witA who key A1 n cap1 f sz r) := (B4.set_ 2 _).set_ 3 _; have ZX := (Z4.far (p := ⟨p, 2, none⟩) (by show p + 1 ≠ p; omega) (.slice A1 n cap1)).far (p := ⟨p, 3, none⟩) (by show p + 1 ≠ p; omega) (.int .i64 f))
  | (refine wpList_load_blk rfl 28 (.tmp 1) rfl (g := p) rfl BX aggWit ?_)
  | (refine wpList_store_blk rfl 28 (.tmp 2) (.tmp 7) rfl (g := p + 1) (cs' := witA who key A1 n cap1 f sz r) rfl rfl ZX aggWit rfl (witA_one _ _ _ _ _ _ _ _) ?_; intro w9 h9 hg9))
  refine bodyPost_ret (results_blk rfl _ rfl h9 aggWit) rfl ?_
  have hne : ∀ q, q < wa.heap.size → (Value.slice A1 n cap1).ownBlock ≠ some q := fun q hq e => by have := (ho.lt _ e).1; omega
  have ho2 := ownsRow_setCell_other (ownsRow_setCell_other ho (a := ⟨p, 2, none⟩) (hne p (by omega)) (.slice A1 n cap1)) (a := ⟨p, 3, none⟩) (hne p (by omega)) (.int .i64 f)
  exact ⟨A1, cap1, rfl, own_low (own_only ho2 ZX (by decide) hg9) HG0.out.size, hA1, Gr.only (((HG0.out.trans g4).setCell (p := ⟨p, 2, none⟩) hpw _).setCell (p := ⟨p, 3, none⟩) hpw _) hg9 hwp⟩

theorem nmidR {w w4 w5 : World} {B0 p q m cap n' cap' : Nat} {who : Int} {key ro hr ms : List UInt8} {A A' : Option Addr} {f u so hn mw : Int} {fs gs : List Fl}
    (hg : Gr w w4) (hg5 : Gr w4 w5) (hwp : w.heap.size ≤ p) (hpq : p + 1 + 1 + 1 < q) (hB : q < B0) (ho : w4.ownsRow B0 87 3 (.slice A m cap) m (fs.flatMap fileC))
    (B : Blk w4 p 28 (witA who key A m cap f so ro)) (H : Blk w4 (p + 1) 26 (headC hn hr)) (Z : Blk w4 (p + 1 + 1) 28 (witA 0 [] none 0 0 0 0 []))
    (Y : Blk w4 (p + 1 + 1 + 1) 37 (markC 0 [])) (M : Blk w4 q 37 (markC mw ms))
    (h : (A' = A ∧ n' = m ∧ cap' = cap ∧ gs = fs) ∨ w5.ownsRow w4.heap.size 87 3 (.slice A' n' cap') n' (gs.flatMap fileC)) :
    NMid w p q none 0 0 [] who key A' n' cap' u so ro hn hr mw ms gs ((w5.setCell ⟨p, 2, none⟩ (.slice A' n' cap')).setCell ⟨p, 3, none⟩ (.int .i64 u)) :=
  ⟨((B.gr hg5).set_ 2 (.slice A' n' cap')).set_ 3 (.int .i64 u), far2 (H.gr hg5) (by omega) 2 3 _ _, far2 (Z.gr hg5) (by omega) 2 3 _ _, far2 (Y.gr hg5) (by omega) 2 3 _ _, far2 (M.gr hg5) (by omega) 2 3 _ _, (by
    rcases h with ⟨rfl, rfl, rfl, rfl⟩ | h
    · exact .inr ⟨B0, hB, own_far2 (own_gr ho hg5) (by omega) 2 3 _ _⟩
    · exact .inr ⟨_, M.lt, own_far2 h B.lt 2 3 _ _⟩), gr2 (hg.trans hg5) hwp 2 3 _ _⟩
theorem nalt_new {w : World} : FRow w none 0 [] := Row.own (B := 0) (e := 87) (cap := 0) (World.ownsRow_nil _ _ _ _)

set_option maxHeartbeats 8000000 in
theorem rmarkby_any (fs : List Fl) (who : Int) (key : List UInt8) (A : Option Addr) (m cap : Nat) (f so : Int) (ro : List UInt8) (n : Int) (r : List UInt8) (ps : List (List UInt8)) (k : Nat) (P : Option Addr) (cp : Nat) (w : World)
    (hx : FRow w A m fs) (hmc : m ≤ cap) (hA : A = none → m = 0 ∧ cap = 0) (hz : Sz fs) (hf : -9223372036854775808 ≤ f ∧ f ≤ 9223372036854775807) (hkey : key.length ≤ 1099511627776) (hro : ro.length ≤ 1099511627776) (hr : r.length ≤ 1099511627776)
    (hk : k ≤ 1099511627776) (hcp : k ≤ cp) (hP : P = none → k = 0 ∧ cp = 0) (hrow : StrRow w P k ps) (hs : Short ps) (hT : TabK w) :
    Calls Tryd.prog 25 #[.agg (witA who key A m cap f so ro), .agg (headC n r), .slice P k cp] w (NPost (nmkR fs f who key so ro n r ps) who key w) := by
  have hxl := hdTxt_len n r
  obtain ⟨wa, hwa⟩ : ∃ x, x = (((w.alloc (.cells (witA who key A m cap f so ro) 28)).alloc (.cells (headC n r) 26)).alloc (.cells (witA 0 [] none 0 0 0 0 []) 28)).alloc (.cells (markC 0 []) 37) := ⟨_, rfl⟩
  have hb : Blk wa w.heap.size 28 (witA who key A m cap f so ro) := by rw [hwa]; exact (((Blk.new w _ _).alloc _).alloc _).alloc _
  have hh : Blk wa (w.heap.size + 1) 26 (headC n r) := by rw [hwa]; exact ((Blk.new1 w _ _ _).alloc _).alloc _
  have hzz : Blk wa (w.heap.size + 1 + 1) 28 (witA 0 [] none 0 0 0 0 []) := by rw [hwa]; exact (Blk.new2 w _ _ _ _).alloc _
  have hy : Blk wa (w.heap.size + 1 + 1 + 1) 37 (markC 0 []) := by rw [hwa]; exact Blk.new3 w _ _ _ _ _
  have hg0 : Gr w wa := by rw [hwa]; exact ((((Gr.refl w).alloc _).alloc _).alloc _).alloc _
  have HTx := sec (fun w => rhtext_any n r w hr)
  have HFo : Sec (∀ w', Gr wa w' → Calls Tryd.prog 52 #[.agg (headC so ro), .agg (headC n r), .slice P k cp] w' fun e w'' => e = .returned (.int .i64 (folE so ro n r ps)) ∧ Gr w' w'') := sec (fun w' g => rfollows_any so ro n r ps k P cp w' hro hk hcp hP (hrow.gr (hg0.trans g)) hs (hT.gr (hg0.trans g)))
  have HMk : Sec (∀ w', Gr wa w' → Calls Tryd.prog 13 #[.int .i64 who, .string (bs key), .agg (headC n r)] w' fun e w'' => e = .returned (.tuple #[.agg (markC (hdMk who key n r).1 (hdMk who key n r).2.1), .int .i64 (hdMk who key n r).2.2]) ∧ Gr w' w'') := sec (fun w' g => rhmark_any who key n r w' (hT.gr (hg0.trans g)) hkey hr)
  have HSu : Sec (∀ w', Calls Tryd.prog 48 #[.string (bs (hdTxt n r).1)] w' fun e w'' => e = .returned (.string (bs (sha (hdTxt n r).1))) ∧ Gr w' w'') := sec (fun w' => rsum_any _ w' (by omega))
  have HSv : Sec (∀ w' A1 cap1, FRow w' A1 m fs → m ≤ cap1 → (A1 = none → m = 0 ∧ cap1 = 0) → Calls Tryd.prog 53 #[diskV A1 m cap1 f, .string (bs seenB), .string (bs ((hdTxt n r).1 ++ sha (hdTxt n r).1))] w' (StepPost (saveR fs f seenB ((hdTxt n r).1 ++ sha (hdTxt n r).1)) A1 m cap1 fs w')) := sec (fun w' A1 cap1 h1 h2 h3 =>
    rsave_any seenB _ fs A1 m cap1 f w' h1 h2 h3 hz hf (by decide) (by rw [List.length_append, sha_len]; omega))
  have HCp : Sec (∀ w', Gr w w' → Calls Tryd.prog 8 #[.agg (witA who key A m cap f so ro)] w' fun e w'' => ∃ A' cap', e = .returned (.agg (witA who key A' m cap' f so ro)) ∧ w''.ownsRow w'.heap.size 87 3 (.slice A' m cap') m (fs.flatMap fileC) ∧ (A' = none → m = 0 ∧ cap' = 0) ∧ Gr w' w'') := sec (fun w' g =>
    copyWitC_any fs who key A m cap f so ro w' (by have := hx.len; have := hz.1; omega) (hx.gr g) hA)
  obtain ⟨p, hp⟩ : ∃ p, p = w.heap.size := ⟨_, rfl⟩
  have hwp : w.heap.size ≤ p := by omega
  rw [← hp] at hb hh hzz hy
  unfold nmkR
  obtain ⟨tx, htx⟩ : ∃ t, t = (hdTxt n r).1 := ⟨_, rfl⟩
  obtain ⟨te, hte⟩ : ∃ t, t = (hdTxt n r).2 := ⟨_, rfl⟩
  obtain ⟨sx, hsx⟩ : ∃ t, t = sha tx := ⟨_, rfl⟩
  have hsl : sx.length = 32 := by rw [hsx]; exact sha_len tx
  rw [← htx, ← hte] at HTx
  rw [← htx, ← hsx] at HSu HSv
  rw [← htx] at hxl
  rw [← htx, ← hte, ← hsx]
  obtain ⟨fe, hfe⟩ : ∃ t, t = folE so ro n r ps := ⟨_, rfl⟩
  rw [← hfe] at HFo
  rw [← hfe]
  obtain ⟨M, hM⟩ : ∃ t, t = hdMk who key n r := ⟨_, rfl⟩
  rw [← hM] at HMk
  rw [← hM]
  obtain ⟨S, hS⟩ : ∃ t, t = saveR fs f seenB (tx ++ sx) := ⟨_, rfl⟩
  rw [← hS] at HSv
  rw [← hS]
  obtain ⟨mw, ms, me⟩ := M
  obtain ⟨gs, u, ee⟩ := S
  have hseen : bs seenB = bs [115, 101, 101, 110] := rfl
  rw [hseen] at HSv
  have hcat : ¬ 9223372036854775807 < tx.length + sx.length := by omega
  have HX := sec hx
  have HB := sec hb
  have HH := sec hh
  have HZ := sec hzz
  have HY := sec hy
  have HC : Sec (∀ w', Gr wa w' → w'.cell? ⟨p, 4, none⟩ = some (.int .i64 so) ∧ w'.cell? ⟨p, 5, none⟩ = some (.string (bs ro)) ∧ w'.cell? ⟨p + 1, 0, none⟩ = some (.int .i64 n) ∧ w'.cell? ⟨p + 1, 1, none⟩ = some (.string (bs r))) := sec (fun w' g => ⟨(HB.out.gr g).cell 4, (HB.out.gr g).cell 5, (HH.out.gr g).cell 0, (HH.out.gr g).cell 1⟩)
  have HC2 : Sec (∀ w', Gr wa w' → w'.cell? ⟨p, 0, none⟩ = some (.int .i64 who) ∧ w'.cell? ⟨p, 1, none⟩ = some (.string (bs key)) ∧ w'.cell? ⟨p + 1, 0, none⟩ = some (.int .i64 n) ∧ w'.cell? ⟨p + 1, 1, none⟩ = some (.string (bs r))) := sec (fun w' g => ⟨(HB.out.gr g).cell 0, (HB.out.gr g).cell 1, (HH.out.gr g).cell 0, (HH.out.gr g).cell 1⟩)
  have c0 : wa.cell? ⟨p + 1, 0, none⟩ = some (.int .i64 n) := hh.cell 0
  have c1 : wa.cell? ⟨p + 1, 1, none⟩ = some (.string (bs r)) := hh.cell 1
  clear hb hh hzz hy hxl htx hte hsx hfe hM hS hT hrow hs hk hcp hP hx hmc hA hz hf hkey hro hr
  simp only at HMk
  unfold headC at HTx HFo HMk
  unfold markC at HMk
  unfold headC witA markC at hwa
  unfold headC witA
  have HSv2 : Sec (∀ w' A1 cap1, FRow w' A1 m fs → m ≤ cap1 → (A1 = none → m = 0 ∧ cap1 = 0) → Calls Tryd.prog 53 #[.agg #[.slice A1 m cap1, .int .i64 f], .string (bs [115, 101, 101, 110]), .string (bs (tx ++ sx))] w' fun e w'' => ∃ A' n' cap', e = .returned (.tuple #[.agg #[.slice A' n' cap', .int .i64 u], .int .i64 ee]) ∧ Gr w' w'' ∧ ((A' = A1 ∧ n' = m ∧ cap' = cap1 ∧ gs = fs) ∨ w''.ownsRow w'.heap.size 87 3 (.slice A' n' cap') n' (gs.flatMap fileC))) := sec (fun w' A1 cap1 h1 h2 h3 => by
    refine (HSv.out w' A1 cap1 h1 h2 h3).mono ?_
    rintro e w'' ⟨A', n', cap', rfl, g', _, ha⟩
    exact ⟨A', n', cap', rfl, g', ha⟩)
  clear HSv hseen
  by_cases h1 : te = 0
  · rw [if_pos h1]
    subst h1
    by_cases h2 : fe = 0
    · rw [if_pos h2]
      subst h2
      by_cases h3 : me = 0
      · rw [if_pos h3]
        subst h3
        obtain ⟨R, hR⟩ : ∃ R : NMk, R = (if ee = 0 then ⟨gs, u, n, r, mw, ms, 0⟩ else ⟨gs, u, so, ro, 0, [], ee⟩) := ⟨_, rfl⟩
        rw [← hR]
        have HR := sec hR
        clear hR
        go_enter Tryd.func25, Tryd.ntmps25
        go_upto_region 9 with (first
          | (rw [← hwa, ← hp]; clear hwa hp; go_upto_region 9 with fail)
          | (go_at_call 16; refine Calls.mono (HTx.out _) ?_; rintro e w1 ⟨rfl, g1⟩; have gn1 := g1.alloc (.cells #[.int .i64 0, .string (bs [])] 37); have B1 := HB.out.gr gn1; have Z1 := HZ.out.gr gn1; have Y1 := HY.out.gr gn1; have gg1 := hg0.trans gn1; obtain ⟨e4, e5, d0, d1⟩ := HC.out w1 g1)
          | (go_at_call 52; refine Calls.mono (HFo.out _ g1) ?_; rintro e w2 ⟨rfl, g2'⟩; have g2 := g1.trans g2'; have gn2 := g2.alloc (.cells #[.int .i64 0, .string (bs [])] 37); have B2 := HB.out.gr gn2; have Z2 := HZ.out.gr gn2; have Y2 := HY.out.gr gn2; have gg2 := hg0.trans gn2; obtain ⟨a0, a1, b0, b1⟩ := HC2.out _ gn2; have hq2 := Blk.new w2 37 (markC 0 []); have hq1 := (HY.out.gr g2).lt)
          | (go_at_call 13; refine Calls.mono (HMk.out _ gn2) ?_; rintro e w3 ⟨rfl, g3'⟩; have g3 := gn2.trans g3'; have hq3 := hq2.gr g3')
          | (refine wpList_store_blk rfl 37 (.tmp 11) _ rfl (g := w2.heap.size) (cs' := markC mw ms) rfl rfl hq3 aggMark rfl (markC_one _ _) ?_; intro x1 hx1 hxg1; have B3 := (HB.out.gr g3).only hxg1 (by omega); have Z3 := (HZ.out.gr g3).only hxg1 (by omega); have Y3 := (HY.out.gr g3).only hxg1 (by omega); have gg3 : Gr w x1 := Gr.only (hg0.trans g3) hxg1 (by omega))
          | (refine wpList_load_blk rfl 28 (.tmp 3) rfl (g := p) rfl B3 aggWit ?_)
          | (go_at_call 8; refine Calls.mono (HCp.out _ gg3) ?_; rintro e w4 ⟨A1, cap1, rfl, ho4, hA1, g4⟩)
          | (refine wpList_store_blk rfl 28 (.tmp 3) _ rfl (g := p) (cs' := witA who key A1 m cap1 f so ro) rfl rfl (B3.gr g4) aggWit rfl (witA_one _ _ _ _ _ _ _ _) ?_; intro x5 hx5 hxg5))
        go_simp
        obtain ⟨q, hq⟩ : ∃ x, x = w2.heap.size := ⟨_, rfl⟩
        rw [← hq] at hq1 hx1 hxg1
        rw [← hq]
        have gg5 : Gr w x5 := Gr.only (gg3.trans g4) hxg5 hwp
        have HB3 := sec hx5
        have HZ3 := sec ((Z3.gr g4).only hxg5 (by omega))
        have HY3 := sec ((Y3.gr g4).only hxg5 (by omega))
        have HH3 := sec ((((HH.out.gr g3).only hxg1 (by omega)).gr g4).only hxg5 (by omega))
        have HM3 := sec ((hx1.gr g4).only hxg5 (by omega))
        have HO3 := sec (own_only ho4 (B3.gr g4) (by decide) hxg5)
        have hqx : q < x1.heap.size := hx1.lt
        have hpq : p + 1 + 1 + 1 < q := hq1
        have c2 : x5.cell? ⟨p, 2, none⟩ = some (.slice A1 m cap1) := HB3.out.cell 2
        have c3 : x5.cell? ⟨p, 3, none⟩ = some (.int .i64 f) := HB3.out.cell 3
        have g4d : Gr x5 x5.drew := (Gr.refl _).drew
        have HSK : Sec (∀ w', Gr x5 w' → w'.cell? ⟨p, 2, none⟩ = some (.slice A1 m cap1) ∧ w'.cell? ⟨p, 3, none⟩ = some (.int .i64 f) ∧ w'.frozen? ⟨p, 2, none⟩ = false ∧ w'.frozen? ⟨p, 3, none⟩ = false) := sec (fun w' g => ⟨(HB3.out.gr g).cell 2, (HB3.out.gr g).cell 3, (HB3.out.gr g).frozen 2, (HB3.out.gr g).frozen 3⟩)
        have HMID : Sec (∀ w5 w6 A' n' cap', Gr x5 w5 → Gr w5 w6 → ((A' = A1 ∧ n' = m ∧ cap' = cap1 ∧ gs = fs) ∨ w6.ownsRow w5.heap.size 87 3 (.slice A' n' cap') n' (gs.flatMap fileC)) → NMid w p q none 0 0 [] who key A' n' cap' u so ro n r mw ms gs ((w6.setCell ⟨p, 2, none⟩ (.slice A' n' cap')).setCell ⟨p, 3, none⟩ (.int .i64 u))) := sec (fun w5 w6 A' n' cap' k5 k6 h =>
          nmidR (gg5.trans k5) k6 hwp hpq hqx (own_gr HO3.out k5) (HB3.out.gr k5) (HH3.out.gr k5) (HZ3.out.gr k5) (HY3.out.gr k5) (HM3.out.gr k5) h)
        have hfr : Sec (∀ w', Gr x5 w' → FRow w' A1 m fs) := sec (fun w' g => Row.own (own_gr HO3.out g))
        have hcap1 : Sec (m ≤ cap1) := sec (own_ncap ho4)
        have HA1 := sec hA1
        clear hq hqx B1 Z1 Y1 gg1 e4 e5 d0 d1 B2 Z2 Y2 gg2 a0 a1 b0 b1 B3 Z3 Y3 hq1 hq2 hq3 gn1 gn2 g1 g2' g2 g3' g3 c0 c1 hx5 hxg5 hx1 hxg1 ho4 hA1
        go_cut [10] from 12 to 59 (fun v10 wx => ∃ (A' : Option Addr) (n' cap' : Nat), v10 = .int .i64 ee ∧ Sec (NMid w p q none 0 0 [] who key A' n' cap' u so ro n r mw ms gs wx))
        case first =>
          go_region_with (first
            | (go_at_call 48; (with_reducible refine Calls.mono (HSu.out x5.drew) ?_); rintro e w5 ⟨rfl, g5'⟩; have g5 : Gr x5 w5 := Gr.trans g4d g5'; obtain ⟨x2, x3, _, _⟩ := HSK.out w5 g5)
            | (go_at_call 53; (with_reducible refine Calls.mono (HSv2.out w5 A1 cap1 (hfr.out w5 g5) hcap1.out HA1.out) ?_); rintro e w6 ⟨A', n', cap', rfl, g6', ha⟩; obtain ⟨y2, y3, y2f, y3f⟩ := HSK.out w6 (g5.trans g6')))
          all_goals (go_wp2_with fail; go_meet; exact ⟨A', n', cap', rfl, sec (HMID.out w5 w6 A' n' cap' g5 g6' ha)⟩)
        case rest =>
          obtain ⟨A', n', cap', rfl, HN⟩ := hcut
          by_cases h4 : ee = 0
          · rw [if_pos h4] at HR
            subst h4
            have k4 : wc.cell? ⟨p, 4, none⟩ = some (.int .i64 so) := HN.out.wit.cell 4
            have k5 : wc.cell? ⟨p, 5, none⟩ = some (.string (bs ro)) := HN.out.wit.cell 5
            have k4f : wc.frozen? ⟨p, 4, none⟩ = false := HN.out.wit.frozen 4
            have k5f : wc.frozen? ⟨p, 5, none⟩ = false := HN.out.wit.frozen 5
            have j0 : wc.cell? ⟨p + 1, 0, none⟩ = some (.int .i64 n) := HN.out.hd.cell 0
            have j1 : wc.cell? ⟨p + 1, 1, none⟩ = some (.string (bs r)) := HN.out.hd.cell 1
            go_wp2_with fail
            have XB : Blk ((wc.setCell ⟨p, 4, none⟩ (.int .i64 n)).setCell ⟨p, 5, none⟩ (.string (bs r))) p 28 (witA who key A' n' cap' u n r) := (HN.out.wit.set_ 4 (.int .i64 n)).set_ 5 (.string (bs r))
            have XZ := far2 HN.out.zw (show p + 1 + 1 ≠ p by omega) 4 5 (.int .i64 n) (.string (bs r))
            have XY := far2 HN.out.zm (show p + 1 + 1 + 1 ≠ p by omega) 4 5 (.int .i64 n) (.string (bs r))
            have XM := far2 HN.out.mb (show q ≠ p by omega) 4 5 (.int .i64 n) (.string (bs r))
            have XG := gr2 HN.out.gr hwp 4 5 (.int .i64 n) (.string (bs r))
            have XR : Sec (∀ i0 i1 i2 i3 i4 i5 i6 i7, Gr w ((((((((((wc.setCell ⟨p, 4, none⟩ (.int .i64 n)).setCell ⟨p, 5, none⟩ (.string (bs r))).setCell ⟨p + 1 + 1, 0, none⟩ i0).setCell ⟨p + 1 + 1, 1, none⟩ i1).setCell ⟨p + 1 + 1, 2, none⟩ i2).setCell ⟨p + 1 + 1, 3, none⟩ i3).setCell ⟨p + 1 + 1, 4, none⟩ i4).setCell ⟨p + 1 + 1, 5, none⟩ i5).setCell ⟨p + 1 + 1 + 1, 0, none⟩ i6).setCell ⟨p + 1 + 1 + 1, 1, none⟩ i7).drew → FRow ((((((((((wc.setCell ⟨p, 4, none⟩ (.int .i64 n)).setCell ⟨p, 5, none⟩ (.string (bs r))).setCell ⟨p + 1 + 1, 0, none⟩ i0).setCell ⟨p + 1 + 1, 1, none⟩ i1).setCell ⟨p + 1 + 1, 2, none⟩ i2).setCell ⟨p + 1 + 1, 3, none⟩ i3).setCell ⟨p + 1 + 1, 4, none⟩ i4).setCell ⟨p + 1 + 1, 5, none⟩ i5).setCell ⟨p + 1 + 1 + 1, 0, none⟩ i6).setCell ⟨p + 1 + 1 + 1, 1, none⟩ i7).drew A' n' gs) := sec (fun _ _ _ _ _ _ _ _ g => nalt_set HN.out.alt nalt_new (by omega) (by omega) (by omega) g)
            obtain ⟨wy, hwy⟩ : ∃ x, x = (wc.setCell ⟨p, 4, none⟩ (.int .i64 n)).setCell ⟨p, 5, none⟩ (.string (bs r)) := ⟨_, rfl⟩
            rw [← hwy] at XB XZ XY XM XG XR
            rw [← hwy]
            have p0 : wy.cell? ⟨p, 0, none⟩ = some (.int .i64 who) := XB.cell 0
            have p1 : wy.cell? ⟨p, 1, none⟩ = some (.string (bs key)) := XB.cell 1
            have p2 : wy.cell? ⟨p, 2, none⟩ = some (.slice A' n' cap') := XB.cell 2
            have p3 : wy.cell? ⟨p, 3, none⟩ = some (.int .i64 u) := XB.cell 3
            have p4 : wy.cell? ⟨p, 4, none⟩ = some (.int .i64 n) := XB.cell 4
            have p5 : wy.cell? ⟨p, 5, none⟩ = some (.string (bs r)) := XB.cell 5
            have q0 : wy.cell? ⟨q, 0, none⟩ = some (.int .i64 mw) := XM.cell 0
            have q1 : wy.cell? ⟨q, 1, none⟩ = some (.string (bs ms)) := XM.cell 1
            have z0 : wy.frozen? ⟨p + 1 + 1, 0, none⟩ = false := XZ.frozen 0
            have z1 : wy.frozen? ⟨p + 1 + 1, 1, none⟩ = false := XZ.frozen 1
            have z2 : wy.frozen? ⟨p + 1 + 1, 2, none⟩ = false := XZ.frozen 2
            have z3 : wy.frozen? ⟨p + 1 + 1, 3, none⟩ = false := XZ.frozen 3
            have z4 : wy.frozen? ⟨p + 1 + 1, 4, none⟩ = false := XZ.frozen 4
            have z5 : wy.frozen? ⟨p + 1 + 1, 5, none⟩ = false := XZ.frozen 5
            have y0 : wy.frozen? ⟨p + 1 + 1 + 1, 0, none⟩ = false := XY.frozen 0
            have y1 : wy.frozen? ⟨p + 1 + 1 + 1, 1, none⟩ = false := XY.frozen 1
            have zc0 : wy.cell? ⟨p + 1 + 1, 0, none⟩ = some (.int .i64 0) := XZ.cell 0
            have zc1 : wy.cell? ⟨p + 1 + 1, 1, none⟩ = some (.string (bs [])) := XZ.cell 1
            have zc2 : wy.cell? ⟨p + 1 + 1, 2, none⟩ = some (.slice none 0 0) := XZ.cell 2
            have zc3 : wy.cell? ⟨p + 1 + 1, 3, none⟩ = some (.int .i64 0) := XZ.cell 3
            have zc4 : wy.cell? ⟨p + 1 + 1, 4, none⟩ = some (.int .i64 0) := XZ.cell 4
            have zc5 : wy.cell? ⟨p + 1 + 1, 5, none⟩ = some (.string (bs [])) := XZ.cell 5
            have yc0 : wy.cell? ⟨p + 1 + 1 + 1, 0, none⟩ = some (.int .i64 0) := XY.cell 0
            have yc1 : wy.cell? ⟨p + 1 + 1 + 1, 1, none⟩ = some (.string (bs [])) := XY.cell 1
            clear hwy k4 k5 k4f k5f j0 j1
            go_region
            go_wp2_with fail
            obtain ⟨E1, E2, E3⟩ := nmk_set (who := who) (key := key) (n := n') (cap := cap') (A := A') (f := u) (sz := n) (r := r) (mw := mw) (ms := ms) rfl rfl (show p + 1 + 1 ≠ p + 1 + 1 + 1 by omega) XZ XY
            refine bodyPost_ret (results_blk_blk_tmp rfl _ rfl rfl E1 aggWit E2 aggMark) rfl ?_
            have E4 := E3 w XG (by omega) (by omega)
            rw [HR.out]
            exact ⟨A', n', cap', rfl, XR.out _ _ _ _ _ _ _ _ E4, E4⟩
          · rw [if_neg h4] at HR
            have m0 : (ee != 0) = true := by simpa using h4
            go_wp2_with (first
              | (refine wpList_load_blk rfl 28 (.tmp 3) rfl (g := p) rfl HN.out.wit aggWit ?_)
              | (refine wpList_store_blk rfl 28 (.tmp 6) _ rfl (g := p + 1 + 1) rfl rfl HN.out.zw aggWit rfl (witA_one _ _ _ _ _ _ _ _) ?_; intro x2 hx2 hxg2)
              | (refine wpList_store_blk rfl 37 (.tmp 7) _ rfl (g := p + 1 + 1 + 1) (cs' := markC 0 []) rfl rfl (HN.out.zm.only hxg2 (by omega)) aggMark rfl (markC_one _ _) ?_; intro x3 hx3 hxg3))
            refine bodyPost_ret (results_blk_blk_tmp rfl _ rfl rfl (hx2.only hxg3 (by omega)) aggWit hx3 aggMark) rfl ?_
            have G3 : Gr w x3 := Gr.only (Gr.only HN.out.gr hxg2 (by omega)) hxg3 (by omega)
            rw [HR.out]
            exact ⟨A', n', cap', rfl, nalt_only HN.out.alt nalt_new G3 hxg2 hxg3 (by omega) (by omega), G3⟩
      · rw [if_neg h3]
        have m0 : (me != 0) = true := by simpa using h3
        have m1 : (me == 0) = false := by simpa using h3
        clear HSu HSv2 HCp hcat
        go_enter Tryd.func25, Tryd.ntmps25
        go_wp2_with (first
          | (rw [← hwa, ← hp]; clear hwa hp; go_wp2_with fail)
          | (go_at_call 16; refine Calls.mono (HTx.out _) ?_; rintro e w1 ⟨rfl, g1⟩; have gn1 := g1.alloc (.cells #[.int .i64 0, .string (bs [])] 37); have B1 := HB.out.gr gn1; have Z1 := HZ.out.gr gn1; have Y1 := HY.out.gr gn1; have gg1 := hg0.trans gn1; obtain ⟨e4, e5, d0, d1⟩ := HC.out w1 g1)
          | (go_at_call 52; refine Calls.mono (HFo.out _ g1) ?_; rintro e w2 ⟨rfl, g2'⟩; have g2 := g1.trans g2'; have gn2 := g2.alloc (.cells #[.int .i64 0, .string (bs [])] 37); have B2 := HB.out.gr gn2; have Z2 := HZ.out.gr gn2; have Y2 := HY.out.gr gn2; have gg2 := hg0.trans gn2; obtain ⟨a0, a1, b0, b1⟩ := HC2.out _ gn2; have hq2 := Blk.new w2 37 (markC 0 []); have hq1 := (HY.out.gr g2).lt)
          | (go_at_call 13; refine Calls.mono (HMk.out _ gn2) ?_; rintro e w3 ⟨rfl, g3'⟩; have g3 := gn2.trans g3'; have hq3 := hq2.gr g3')
          | (refine wpList_store_blk rfl 37 (.tmp 11) _ rfl (g := w2.heap.size) (cs' := markC mw ms) rfl rfl hq3 aggMark rfl (markC_one _ _) ?_; intro x1 hx1 hxg1; have B3 := (HB.out.gr g3).only hxg1 (by omega); have Z3 := (HZ.out.gr g3).only hxg1 (by omega); have Y3 := (HY.out.gr g3).only hxg1 (by omega); have gg3 : Gr w x1 := Gr.only (hg0.trans g3) hxg1 (by omega))
          | (refine wpList_load_blk rfl 28 (.tmp 3) rfl (g := p) rfl B3 aggWit ?_)
          | (refine wpList_store_blk rfl 28 (.tmp 6) _ rfl (g := p + 1 + 1) rfl rfl Z3 aggWit rfl (witA_one _ _ _ _ _ _ _ _) ?_; intro x2 hx2 hxg2)
          | (refine wpList_store_blk rfl 37 (.tmp 7) _ rfl (g := p + 1 + 1 + 1) (cs' := markC 0 []) rfl rfl (Y3.only hxg2 (by omega)) aggMark rfl (markC_one _ _) ?_; intro x3 hx3 hxg3))
        refine bodyPost_ret (results_blk_blk_tmp rfl _ rfl rfl (hx2.only hxg3 (by omega)) aggWit hx3 aggMark) rfl ?_
        have G3 : Gr w x3 := Gr.only (Gr.only gg3 hxg2 (by omega)) hxg3 (by omega)
        exact ⟨A, m, cap, rfl, HX.out.gr G3, G3⟩
    · rw [if_neg h2]
      have m0 : (fe != 0) = true := by simpa using h2
      have m1 : (fe == 0) = false := by simpa using h2
      clear HSu HSv2 HCp hcat HMk
      go_enter Tryd.func25, Tryd.ntmps25
      go_wp2_with (first
        | (rw [← hwa, ← hp]; clear hwa hp; go_wp2_with fail)
        | (go_at_call 16; refine Calls.mono (HTx.out _) ?_; rintro e w1 ⟨rfl, g1⟩; have gn1 := g1.alloc (.cells #[.int .i64 0, .string (bs [])] 37); have B1 := HB.out.gr gn1; have Z1 := HZ.out.gr gn1; have Y1 := HY.out.gr gn1; have gg1 := hg0.trans gn1; obtain ⟨e4, e5, d0, d1⟩ := HC.out w1 g1)
        | (go_at_call 52; refine Calls.mono (HFo.out _ g1) ?_; rintro e w2 ⟨rfl, g2'⟩; have g2 := g1.trans g2'; have gn2 := g2.alloc (.cells #[.int .i64 0, .string (bs [])] 37); have B2 := HB.out.gr gn2; have Z2 := HZ.out.gr gn2; have Y2 := HY.out.gr gn2; have gg2 := hg0.trans gn2; obtain ⟨a0, a1, b0, b1⟩ := HC2.out _ gn2; have hq2 := Blk.new w2 37 (markC 0 []); have hq1 := (HY.out.gr g2).lt)
        | (refine wpList_load_blk rfl 28 (.tmp 3) rfl (g := p) rfl B2 aggWit ?_)
        | (refine wpList_store_blk rfl 28 (.tmp 6) _ rfl (g := p + 1 + 1) rfl rfl Z2 aggWit rfl (witA_one _ _ _ _ _ _ _ _) ?_; intro x2 hx2 hxg2)
        | (refine wpList_store_blk rfl 37 (.tmp 7) _ rfl (g := p + 1 + 1 + 1) (cs' := markC 0 []) rfl rfl (Y2.only hxg2 (by omega)) aggMark rfl (markC_one _ _) ?_; intro x3 hx3 hxg3))
      refine bodyPost_ret (results_blk_blk_tmp rfl _ rfl rfl (hx2.only hxg3 (by omega)) aggWit hx3 aggMark) rfl ?_
      have G3 : Gr w x3 := Gr.only (Gr.only gg2 hxg2 (by omega)) hxg3 (by omega)
      exact ⟨A, m, cap, rfl, HX.out.gr G3, G3⟩
  · rw [if_neg h1]
    have m0 : (te != 0) = true := by simpa using h1
    have m1 : (te == 0) = false := by simpa using h1
    clear HSu HSv2 HCp hcat HFo HMk
    go_enter Tryd.func25, Tryd.ntmps25
    go_wp2_with (first
      | (rw [← hwa, ← hp]; clear hwa hp; go_wp2_with fail)
      | (go_at_call 16; refine Calls.mono (HTx.out _) ?_; rintro e w1 ⟨rfl, g1⟩; have gn1 := g1.alloc (.cells #[.int .i64 0, .string (bs [])] 37); have B1 := HB.out.gr gn1; have Z1 := HZ.out.gr gn1; have Y1 := HY.out.gr gn1; have gg1 := hg0.trans gn1; obtain ⟨e4, e5, d0, d1⟩ := HC.out w1 g1)
      | (refine wpList_load_blk rfl 28 (.tmp 3) rfl (g := p) rfl B1 aggWit ?_)
      | (refine wpList_store_blk rfl 28 (.tmp 6) _ rfl (g := p + 1 + 1) rfl rfl Z1 aggWit rfl (witA_one _ _ _ _ _ _ _ _) ?_; intro x2 hx2 hxg2)
      | (refine wpList_store_blk rfl 37 (.tmp 7) _ rfl (g := p + 1 + 1 + 1) (cs' := markC 0 []) rfl rfl (Y1.only hxg2 (by omega)) aggMark rfl (markC_one _ _) ?_; intro x3 hx3 hxg3))
    refine bodyPost_ret (results_blk_blk_tmp rfl _ rfl rfl (hx2.only hxg3 (by omega)) aggWit hx3 aggMark) rfl ?_
    have G3 : Gr w x3 := Gr.only (Gr.only gg1 hxg2 (by omega)) hxg3 (by omega)
    exact ⟨A, m, cap, rfl, HX.out.gr G3, G3⟩
end Go.Proofs.YtbhpglhmnpcnkaaDoor

namespace Go.Proofs.YtbhpglhmnpcnkaaDoor
open Go.RowKit
set_option linter.unusedVariables false

theorem saveR_sz (fs : List Fl) (f : Int) (name s : List UInt8) (hl : name.length ≤ 1048576) (hz : Sz fs) : Sz (saveR fs f name s).1 := by
  have hd : (name ++ dotNew).length ≤ 1099511627776 := by rw [List.length_append]; simp only [dotNew, List.length_cons, List.length_nil]; omega
  have h0 : Sz (save0 fs f name).1 := by
    unfold save0
    split
    · exact stepR_sz (rmF_sz _) _ hz
    · exact hz
  have h1 : Sz (save1 fs f name s).1 := by
    unfold save1
    split
    · exact stepR_sz (wrF_sz _ _ hd) _ h0
    · exact h0
  have h2 : Sz (save2 fs f name s).1 := by
    unfold save2
    split
    · exact stepR_sz (syF_sz _) _ h1
    · exact h1
  have h3 : Sz (save3 fs f name s).1 := by
    unfold save3
    split
    · exact stepR_sz (rnF_sz _ _ (by omega)) _ h2
    · exact h2
  unfold saveR
  split
  · split
    · exact h3
    · exact hz
  · exact hz

end Go.Proofs.YtbhpglhmnpcnkaaDoor

namespace Go.Proofs.YtbhpglhmnpcnkaaDoor
set_option maxRecDepth 100000
open Go.RowKit Go.ChangeShapes Go.WideShapes

theorem flat_single {α β : Type} (f : α → β) : ∀ xs : List α, xs.flatMap (fun l => [f l]) = xs.map f
  | [] => rfl
  | x :: r => by rw [List.flatMap_cons, flat_single f r]; rfl
theorem open_strs {w : World} {r : Reach} {base : Nat} {H : Type} {enc : TypeId × Value → H} {v : Value} {d : DataW H} {p : List MemPlace}
    (hv : Value.okWide Tryd.prog w r base 48 v) (hd : DataW.Trod enc Tryd.prog w 0 (fun _ => true) true 48 v d p) (hb : Rows.uptoBulk d ≤ 1048576) :
    ∃ A c l, v = .slice A l.length c ∧ StrRow w A l.length l ∧ l.length ≤ 1048576 ∧ (∀ x ∈ l, x.length ≤ 1048576) ∧ l.length ≤ c ∧ c ≤ maxLen ∧ (A = none → c = 0) := by
  obtain ⟨A, c, xs, e, hR, hs⟩ := open_slice_arg Tryd.underlying48 (opens_slice Tryd.underlying48 (by kernel_rfl) (opens_string Tryd.underlying9 (by kernel_rfl) w) (by omega)) hv hd
  obtain ⟨A', c', e', h1, h2, hrow⟩ := sliceR_row (k := 1) (fun l => [strV l]) (fun _ => rfl) (by omega) (fun ci x h => h) hR
  simp only [List.cons.injEq, and_true, Value.slice.injEq, true_and] at e'
  obtain ⟨rfl, rfl⟩ := e'
  obtain ⟨A2, c2, e2, _, h3, _⟩ := hR
  simp only [List.cons.injEq, and_true, Value.slice.injEq, true_and] at e2
  obtain ⟨rfl, rfl⟩ := e2
  have hl := szs_len (fun l : List UInt8 => l.length + 1) (fun x => Nat.succ_le_succ (Nat.zero_le _)) xs
  rw [flat_single] at hrow
  refine ⟨A, c, xs, e, hrow, by omega, fun x hx => ?_, h1, h2, h3.2⟩
  have h5 : x.length + 1 ≤ _ := szs_mem (fun l : List UInt8 => l.length + 1) hx
  omega
end Go.Proofs.YtbhpglhmnpcnkaaDoor

namespace Go.Proofs.YtbhpglhmnpcnkaaDoor
set_option maxRecDepth 100000
open Go.RowKit Go.ChangeShapes Go.WideShapes
set_option linter.unusedVariables false

theorem open_head {w : World} {r : Reach} {base : Nat} {H : Type} {enc : TypeId × Value → H} {v : Value} {d : DataW H} {p : List MemPlace}
    (hv : Value.okWide Tryd.prog w r base 26 v) (hd : DataW.Trod enc Tryd.prog w 0 (fun _ => true) true 26 v d p) (hb : Rows.uptoBulk d ≤ 1048576) :
    ∃ n rt, v = .agg (headC n rt) ∧ rt.length ≤ 1048576 := by
  obtain ⟨cs, ⟨n, rt⟩, rfl, ⟨hc, _⟩, hs⟩ := open_structD_arg Tryd.underlying26 (opens_headD w) hv hd
  simp only at hc hs
  refine ⟨n, rt, ?_, by omega⟩
  unfold headC
  congr 1
  exact Array.toList_inj.1 hc
set_option maxHeartbeats 4000000 in
theorem headTexts_walk (n : Int) (r : List UInt8) (b : List UInt8) (W : World) (hr : r.length ≤ 1048576) (hbl : b.length ≤ 1048576) (hT : TabK W) :
    Calls Tryd.prog 5 #[.agg (headC n r), .string (bs b)] W fun e W' => e = .returned (.bool true) ∧ Gr W W' := by
  have hg0 := (Gr.refl W).alloc (.cells (headC n r) 26)
  have hb1 := Blk.new W 26 (headC n r)
  have hT1 := hT.gr hg0
  obtain ⟨wa, hwa⟩ : ∃ x, x = W.alloc (.cells (headC n r) 26) := ⟨_, rfl⟩
  rw [← hwa] at hg0 hb1 hT1
  obtain ⟨p, hp⟩ : ∃ p, p = W.heap.size := ⟨_, rfl⟩
  rw [← hp] at hb1
  have HT1 := sec (fun w => htext_any n r w (by omega))
  have HT2 := sec (fun w => rhtext_any n r w (by omega))
  have HR1 := sec (fun w => hread_any b w (by omega))
  have HR2 := sec (fun w => rhread_any b w (by omega))
  have HG1 := sec (fun w => hgood_any n r w (by omega))
  have HG2 := sec (fun w => rhgood_any n r w (by omega))
  have HEm : Sec (∀ w, Gr wa w → Calls Tryd.prog 21 #[] w fun e w' => e = .returned (.agg (headC 0 (sha []))) ∧ Gr w w') := sec (fun w g => empty_any w (hT1.gr g))
  have HNo : Sec (∀ w, Calls Tryd.prog 22 #[] w fun e w' => e = .returned (.agg (headC 0 (sha []))) ∧ Gr w w') := sec (fun w => nohead_any w)
  have HHs : Sec (∀ w, Gr wa w → Calls Tryd.prog 14 #[] w fun e w' => e = .returned (.bool true) ∧ Gr w w') := sec (fun w g => heads_any w (hT1.gr g))
  obtain ⟨Z, hZ⟩ : ∃ Z, Z = sha [] := ⟨_, rfl⟩
  rw [← hZ] at HEm HNo
  obtain ⟨T, hTT⟩ : ∃ T, T = hdTxt n r := ⟨_, rfl⟩
  rw [← hTT] at HT1 HT2
  obtain ⟨D, hD⟩ : ∃ D, D = hdRd b := ⟨_, rfl⟩
  rw [← hD] at HR1 HR2
  obtain ⟨E, hE⟩ : ∃ E, E = hdE n r := ⟨_, rfl⟩
  rw [← hE] at HG1 HG2
  obtain ⟨hz, hr2, he⟩ := D
  obtain ⟨tx, te⟩ := T
  have HB : Sec (Blk wa p 26 #[.int .i64 n, .string (bs r)]) := sec hb1
  have c0 : wa.cell? ⟨p, 0, none⟩ = some (.int .i64 n) := HB.out.cell 0
  have c1 : wa.cell? ⟨p, 1, none⟩ = some (.string (bs r)) := HB.out.cell 1
  clear hZ hTT hD hE hb1 hT hT1 hr hbl
  unfold headC at HT1 HT2 HR1 HR2 HG1 HG2 HEm HNo hwa
  unfold headC
  go_enter Tryd.func5, Tryd.ntmps5
  go_wp2_with (first
    | (rw [← hwa, ← hp]; clear hwa hp; go_wp2_with fail)
    | (go_at_call 15; refine Calls.mono (HT1.out _) ?_; rintro e w1 ⟨rfl, g1⟩; have d0 : w1.cell? ⟨p, 0, none⟩ = some (.int .i64 n) := (HB.out.gr g1).cell 0; have d1 : w1.cell? ⟨p, 1, none⟩ = some (.string (bs r)) := (HB.out.gr g1).cell 1)
    | (go_at_call 16; refine Calls.mono (HT2.out _) ?_; rintro e w2 ⟨rfl, g2⟩)
    | (go_at_call 17; refine Calls.mono (HR1.out _) ?_; rintro e w3 ⟨rfl, g3⟩; have hq3 := Blk.new w3 26 #[.int .i64 hz, .string (bs hr2)])
    | (go_at_call 18; refine Calls.mono (HR2.out _) ?_; rintro e w4 ⟨rfl, g4⟩))
  have HG7 := sec ((((g1.trans g2).trans g3).alloc (.cells #[.int .i64 hz, .string (bs hr2)] 26)).trans g4 |>.alloc (.cells #[.int .i64 hz, .string (bs hr2)] 26))
  have K1 := sec ((hq3.gr g4).alloc (.cells #[.int .i64 hz, .string (bs hr2)] 26))
  have K2 := sec (Blk.new w4 26 #[.int .i64 hz, .string (bs hr2)])
  obtain ⟨w7, hw7⟩ : ∃ x, x = w4.alloc (.cells #[.int .i64 hz, .string (bs hr2)] 26) := ⟨_, rfl⟩
  obtain ⟨pa, hpa⟩ : ∃ x, x = w3.heap.size := ⟨_, rfl⟩
  obtain ⟨pb, hpb⟩ : ∃ x, x = w4.heap.size := ⟨_, rfl⟩
  rw [← hw7] at HG7 K1 K2
  rw [← hpa] at K1
  rw [← hpb] at K2
  rw [← hw7, ← hpa, ← hpb]
  clear hw7 hpa hpb hq3 g4 g3 g2 g1 d0 d1 c0 c1
  have HSK : Sec (∀ w', Gr w7 w' → w'.cell? ⟨pa, 0, none⟩ = some (.int .i64 hz) ∧ w'.cell? ⟨pa, 1, none⟩ = some (.string (bs hr2)) ∧ w'.cell? ⟨pb, 0, none⟩ = some (.int .i64 hz) ∧ w'.cell? ⟨pb, 1, none⟩ = some (.string (bs hr2)) ∧ w'.cell? ⟨p, 0, none⟩ = some (.int .i64 n) ∧ w'.cell? ⟨p, 1, none⟩ = some (.string (bs r)) ∧ Gr w7 w') := sec (fun w' g => ⟨(K1.out.gr g).cell 0, (K1.out.gr g).cell 1, (K2.out.gr g).cell 0, (K2.out.gr g).cell 1, (HB.out.gr (HG7.out.trans g)).cell 0, (HB.out.gr (HG7.out.trans g)).cell 1, g⟩)
  clear K1 K2
  have g7 : Gr w7 w7.drew := (Gr.refl _).drew
  go_region_held3 (fun w' => w'.cell? ⟨pa, 0, none⟩ = some (.int .i64 hz) ∧ w'.cell? ⟨pa, 1, none⟩ = some (.string (bs hr2)) ∧ w'.cell? ⟨pb, 0, none⟩ = some (.int .i64 hz) ∧ w'.cell? ⟨pb, 1, none⟩ = some (.string (bs hr2)) ∧ w'.cell? ⟨p, 0, none⟩ = some (.int .i64 n) ∧ w'.cell? ⟨p, 1, none⟩ = some (.string (bs r)) ∧ Gr w7 w')
    (first | with_reducible assumption | with_reducible exact HSK.out _ g7 | with_reducible exact HSK.out _ g8 | with_reducible exact HSK.out _ g9 | with_reducible exact HSK.out _ g10 | with_reducible exact HSK.out _ g11 | with_reducible exact HSK.out _ g12 | fail)
    (first
      | (go_at_call 19; (with_reducible refine Calls.mono (HG1.out w7.drew) ?_); rintro e w8 ⟨rfl, g8'⟩; have g8 : Gr w7 w8 := Gr.trans g7 g8')
      | (go_at_call 20; (with_reducible refine Calls.mono (HG2.out w8) ?_); rintro e w9 ⟨rfl, g9'⟩; have g9 : Gr w7 w9 := Gr.trans g8 g9')
      | (go_at_call 21; (with_reducible refine Calls.mono (HEm.out w9 (HG7.out.trans g9)) ?_); rintro e w10 ⟨rfl, g10'⟩; have g10 : Gr w7 w10 := Gr.trans g9 g10')
      | (go_at_call 22; (with_reducible refine Calls.mono (HNo.out w10) ?_); rintro e w11 ⟨rfl, g11'⟩; have g11 : Gr w7 w11 := Gr.trans g10 g11')
      | (go_at_call 14; (with_reducible refine Calls.mono (HHs.out w11 (HG7.out.trans g11)) ?_); rintro e w12 ⟨rfl, g12'⟩; have g12 : Gr w7 w12 := Gr.trans g11 g12')
      | fail)
  all_goals (go_wp2_with fail; go_ret; exact ⟨rfl, hg0.trans (HG7.out.trans g12)⟩)
end Go.Proofs.YtbhpglhmnpcnkaaDoor

namespace Go.Proofs.YtbhpglhmnpcnkaaDoor
set_option maxRecDepth 100000
open Go.RowKit Go.ChangeShapes Go.WideShapes
set_option linter.unusedVariables false

/-- what is known of a witness that came in, its key and seen root too -/
theorem open_witnessk {w : World} {r : Reach} {base : Nat} {H : Type} {enc : TypeId × Value → H} {v : Value} {d : DataW H} {p : List MemPlace}
    (hv : Value.okWide Tryd.prog w r base 28 v) (hd : DataW.Trod enc Tryd.prog w 0 (fun _ => true) true 28 v d p) (hb : Rows.uptoBulk d ≤ 1048576) :
    ∃ who key A c fs f sz rt, v = .agg (witA who key A fs.length c f sz rt) ∧ DiskIn w A c fs f ∧ key.length ≤ 1048576 ∧ rt.length ≤ 1048576 := by
  obtain ⟨cs, ⟨who, key, ⟨fs, f⟩, sz, rt⟩, rfl, ⟨A, c, hc, hR, hf⟩, hs⟩ := open_structD_arg Tryd.underlying28 (opens_witness w) hv hd
  simp only at hc hR hf hs
  obtain ⟨A', c', e', h1, h2, hrow⟩ := sliceR_row fileC (fun _ => rfl) (by omega) (fun ci x h => h) hR
  simp only [List.cons.injEq, and_true, Value.slice.injEq, true_and] at e'
  obtain ⟨rfl, rfl⟩ := e'
  obtain ⟨A2, c2, e2, _, h3, _⟩ := hR
  simp only [List.cons.injEq, and_true, Value.slice.injEq, true_and] at e2
  obtain ⟨rfl, rfl⟩ := e2
  have hl := szs_len szFile (fun x => by unfold szFile; omega) fs
  refine ⟨who, key, A, c, fs, f, sz, rt, ?_, ⟨hrow, by omega, fun x hx => ?_, fun h => ?_, hf, h1⟩, by omega, by omega⟩
  · unfold witA
    congr 1
    exact Array.toList_inj.1 hc
  · have := szs_mem szFile hx
    unfold szFile at this hs
    refine ⟨?_, ?_, ?_⟩ <;> omega
  · have := h3.2 h
    omega
theorem nmkR_sz (fs : List Fl) (f : Int) (who : Int) (key : List UInt8) (so : Int) (ro : List UInt8) (n : Int) (r : List UInt8) (ps : List (List UInt8)) (hz : Sz fs) : Sz (nmkR fs f who key so ro n r ps).fs := by
  have h := saveR_sz fs f seenB ((hdTxt n r).1 ++ sha (hdTxt n r).1) (by decide) hz
  unfold nmkR
  split
  · split
    · split
      · split
        · exact h
        · exact h
      · exact hz
    · exact hz
  · exact hz

theorem blk_ne {w : World} {g g' : Nat} {t t' : TypeId} {cs cs' : Array Value} (h : Blk w g t cs) (h' : Blk w g' t' cs') (ht : t ≠ t') : g ≠ g' := by
  rintro rfl
  have e := Option.some.inj (h.symm.trans h')
  injection e with _ e2 _
  exact ht e2

theorem row_ne_wit {w : World} {q n : Nat} {A : Option Addr} {gs : List Fl} (h : FRow w A n gs) (zb : Blk w q 28 #[.int .i64 0, .string (bs []), .slice none 0 0, .int .i64 0, .int .i64 0, .string (bs [])]) : 0 < n → ∀ b off, A = some ⟨b, off, none⟩ → b ≠ q := by
  rintro hn b off rfl rfl
  have hl := h.len
  obtain ⟨b', off', e, c0, c1, c2⟩ := h.cell (i := 0) (by omega)
  injection e with e
  injection e with e1 e2
  subst e1
  subst e2
  rw [zb.cell] at c0 c1
  match off, c0, c1 with
  | 0, c0, _ => simp at c0
  | 1, _, c1 => simp at c1
  | 2, c0, _ => simp at c0
  | 3, c0, _ => simp at c0
  | 4, c0, _ => simp at c0
  | 5, _, c1 => simp at c1
  | k + 6, c0, _ => simp at c0
theorem row_ne_mark {w : World} {q n : Nat} {A : Option Addr} {gs : List Fl} (h : FRow w A n gs) (zb : Blk w q 37 #[.int .i64 0, .string (bs [])]) : 0 < n → ∀ b off, A = some ⟨b, off, none⟩ → b ≠ q := by
  rintro hn b off rfl rfl
  have hl := h.len
  obtain ⟨b', off', e, c0, c1, c2⟩ := h.cell (i := 0) (by omega)
  injection e with e
  injection e with e1 e2
  subst e1
  subst e2
  rw [zb.cell] at c0 c1
  match off, c0, c1 with
  | 0, c0, _ => simp at c0
  | 1, _, c1 => simp at c1
  | k + 2, c0, _ => simp at c0
theorem keep6 {w : World} {q n3 : Nat} {A3 : Option Addr} {gs : List Fl} {a b c d e f : Value} (h : FRow w A3 n3 gs) (hne : 0 < n3 → ∀ b off, A3 = some ⟨b, off, none⟩ → b ≠ q) :
    FRow ((((((w.setCell ⟨q, 0, none⟩ a).setCell ⟨q, 1, none⟩ b).setCell ⟨q, 2, none⟩ c).setCell ⟨q, 3, none⟩ d).setCell ⟨q, 4, none⟩ e).setCell ⟨q, 5, none⟩ f) A3 n3 gs :=
  wake_keep (wake_keep (wake_keep (wake_keep (wake_keep (wake_keep h hne 0 _) hne 1 _) hne 2 _) hne 3 _) hne 4 _) hne 5 _
theorem nfin3 {w : World} {q n3 cap3 : Nat} {A3 : Option Addr} {who u so2 mw : Int} {key ro2 ms : List UInt8} {gs : List Fl} (zb : Blk w q 28 #[.int .i64 0, .string (bs []), .slice none 0 0, .int .i64 0, .int .i64 0, .string (bs [])]) (h3 : FRow w A3 n3 gs) :
    Blk (((((((w.setCell ⟨q, 0, none⟩ (.int .i64 who)).setCell ⟨q, 1, none⟩ (.string (bs key))).setCell ⟨q, 2, none⟩ (.slice A3 n3 cap3)).setCell ⟨q, 3, none⟩ (.int .i64 u)).setCell ⟨q, 4, none⟩ (.int .i64 so2)).setCell ⟨q, 5, none⟩ (.string (bs ro2))).alloc (.cells #[.int .i64 mw, .string (bs ms)] 37)) q 28 #[.int .i64 who, .string (bs key), .slice A3 n3 cap3, .int .i64 u, .int .i64 so2, .string (bs ro2)] ∧ Blk (((((((w.setCell ⟨q, 0, none⟩ (.int .i64 who)).setCell ⟨q, 1, none⟩ (.string (bs key))).setCell ⟨q, 2, none⟩ (.slice A3 n3 cap3)).setCell ⟨q, 3, none⟩ (.int .i64 u)).setCell ⟨q, 4, none⟩ (.int .i64 so2)).setCell ⟨q, 5, none⟩ (.string (bs ro2))).alloc (.cells #[.int .i64 mw, .string (bs ms)] 37)) w.heap.size 37 #[.int .i64 mw, .string (bs ms)] ∧ FRow (((((((w.setCell ⟨q, 0, none⟩ (.int .i64 who)).setCell ⟨q, 1, none⟩ (.string (bs key))).setCell ⟨q, 2, none⟩ (.slice A3 n3 cap3)).setCell ⟨q, 3, none⟩ (.int .i64 u)).setCell ⟨q, 4, none⟩ (.int .i64 so2)).setCell ⟨q, 5, none⟩ (.string (bs ro2))).alloc (.cells #[.int .i64 mw, .string (bs ms)] 37)) A3 n3 gs :=
  ⟨((((((zb.set_ 0 (.int .i64 who)).set_ 1 (.string (bs key))).set_ 2 (.slice A3 n3 cap3)).set_ 3 (.int .i64 u)).set_ 4 (.int .i64 so2)).set_ 5 (.string (bs ro2))).alloc _, Blk.newAt (by simp) _ _, FRow.gr (keep6 h3 (row_ne_wit h3 zb)) ((Gr.refl _).alloc _)⟩
theorem nfin4 {w : World} {q n3 cap3 : Nat} {A3 : Option Addr} {who u so2 mw : Int} {key ro2 ms : List UInt8} {gs : List Fl} (mb : Blk w q 37 #[.int .i64 0, .string (bs [])]) (h3 : FRow w A3 n3 gs) :
    Blk (((w.setCell ⟨q, 0, none⟩ (.int .i64 mw)).setCell ⟨q, 1, none⟩ (.string (bs ms))).alloc (.cells #[.int .i64 who, .string (bs key), .slice A3 n3 cap3, .int .i64 u, .int .i64 so2, .string (bs ro2)] 28)) w.heap.size 28 #[.int .i64 who, .string (bs key), .slice A3 n3 cap3, .int .i64 u, .int .i64 so2, .string (bs ro2)] ∧ Blk (((w.setCell ⟨q, 0, none⟩ (.int .i64 mw)).setCell ⟨q, 1, none⟩ (.string (bs ms))).alloc (.cells #[.int .i64 who, .string (bs key), .slice A3 n3 cap3, .int .i64 u, .int .i64 so2, .string (bs ro2)] 28)) q 37 #[.int .i64 mw, .string (bs ms)] ∧ FRow (((w.setCell ⟨q, 0, none⟩ (.int .i64 mw)).setCell ⟨q, 1, none⟩ (.string (bs ms))).alloc (.cells #[.int .i64 who, .string (bs key), .slice A3 n3 cap3, .int .i64 u, .int .i64 so2, .string (bs ro2)] 28)) A3 n3 gs :=
  ⟨Blk.newAt (by simp) _ _, ((mb.set_ 0 (.int .i64 mw)).set_ 1 (.string (bs ms))).alloc _, FRow.gr (wake_keep (wake_keep h3 (row_ne_mark h3 mb) 0 _) (row_ne_mark h3 mb) 1 _) ((Gr.refl _).alloc _)⟩
theorem nfin5 {w : World} {q q2 n3 cap3 : Nat} {A3 : Option Addr} {who u so2 mw : Int} {key ro2 ms : List UInt8} {gs : List Fl} (zb : Blk w q 28 #[.int .i64 0, .string (bs []), .slice none 0 0, .int .i64 0, .int .i64 0, .string (bs [])]) (mb : Blk w q2 37 #[.int .i64 0, .string (bs [])]) (h3 : FRow w A3 n3 gs) :
    Blk ((((((((w.setCell ⟨q, 0, none⟩ (.int .i64 who)).setCell ⟨q, 1, none⟩ (.string (bs key))).setCell ⟨q, 2, none⟩ (.slice A3 n3 cap3)).setCell ⟨q, 3, none⟩ (.int .i64 u)).setCell ⟨q, 4, none⟩ (.int .i64 so2)).setCell ⟨q, 5, none⟩ (.string (bs ro2))).setCell ⟨q2, 0, none⟩ (.int .i64 mw)).setCell ⟨q2, 1, none⟩ (.string (bs ms))) q 28 #[.int .i64 who, .string (bs key), .slice A3 n3 cap3, .int .i64 u, .int .i64 so2, .string (bs ro2)] ∧ Blk ((((((((w.setCell ⟨q, 0, none⟩ (.int .i64 who)).setCell ⟨q, 1, none⟩ (.string (bs key))).setCell ⟨q, 2, none⟩ (.slice A3 n3 cap3)).setCell ⟨q, 3, none⟩ (.int .i64 u)).setCell ⟨q, 4, none⟩ (.int .i64 so2)).setCell ⟨q, 5, none⟩ (.string (bs ro2))).setCell ⟨q2, 0, none⟩ (.int .i64 mw)).setCell ⟨q2, 1, none⟩ (.string (bs ms))) q2 37 #[.int .i64 mw, .string (bs ms)] ∧ FRow ((((((((w.setCell ⟨q, 0, none⟩ (.int .i64 who)).setCell ⟨q, 1, none⟩ (.string (bs key))).setCell ⟨q, 2, none⟩ (.slice A3 n3 cap3)).setCell ⟨q, 3, none⟩ (.int .i64 u)).setCell ⟨q, 4, none⟩ (.int .i64 so2)).setCell ⟨q, 5, none⟩ (.string (bs ro2))).setCell ⟨q2, 0, none⟩ (.int .i64 mw)).setCell ⟨q2, 1, none⟩ (.string (bs ms))) A3 n3 gs := by
  have hne : q ≠ q2 := blk_ne zb mb (by decide)
  refine ⟨far2 ((((((zb.set_ 0 (.int .i64 who)).set_ 1 (.string (bs key))).set_ 2 (.slice A3 n3 cap3)).set_ 3 (.int .i64 u)).set_ 4 (.int .i64 so2)).set_ 5 (.string (bs ro2))) hne 0 1 _ _, ?_, wake_keep (wake_keep (keep6 h3 (row_ne_wit h3 zb)) (row_ne_mark h3 mb) 0 _) (row_ne_mark h3 mb) 1 _⟩
  have m1 := far2 (far2 (far2 mb hne.symm 0 1 (.int .i64 who) (.string (bs key))) hne.symm 2 3 (.slice A3 n3 cap3) (.int .i64 u)) hne.symm 4 5 (.int .i64 so2) (.string (bs ro2))
  exact ((m1.set_ 0 (.int .i64 mw)).set_ 1 (.string (bs ms)))

set_option maxHeartbeats 8000000 in
theorem nodeMarks_walk (who : Int) (key : List UInt8) (A : Option Addr) (cap : Nat) (fs : List Fl) (f so : Int) (ro : List UInt8) (n : Int) (r : List UInt8) (P : Option Addr) (cp : Nat) (ps : List (List UInt8)) (W : World)
    (hd : DiskIn W A cap fs f ∧ key.length ≤ 1048576 ∧ ro.length ≤ 1048576) (hr : r.length ≤ 1048576) (hps : StrRow W P ps.length ps ∧ ps.length ≤ 1048576 ∧ (∀ x ∈ ps, x.length ≤ 1048576) ∧ ps.length ≤ cp ∧ cp ≤ maxLen ∧ (P = none → cp = 0)) (hT : TabK W) :
    Calls Tryd.prog 6 #[.agg (witA who key A fs.length cap f so ro), .agg (headC n r), .slice P ps.length cp] W fun e W' => e = .returned (.bool true) ∧ Gr W W' := by
  obtain ⟨⟨hrow, hlen, hsize, hnil, hfuse, hcap⟩, hkey, hro⟩ := hd
  obtain ⟨hprow, hpl, hpx, hpc, _, hpA⟩ := hps
  have hsh : Short ps := fun s h => Nat.le_trans (hpx s h) (by omega)
  have hz : Sz fs := ⟨hlen, fun x hx => by have := hsize x hx; omega⟩
  obtain ⟨m, hm⟩ : ∃ n, n = fs.length := ⟨_, rfl⟩
  obtain ⟨k, hk⟩ : ∃ n, n = ps.length := ⟨_, rfl⟩
  rw [← hm] at hrow hlen hnil hcap
  rw [← hk] at hprow hpl hpc
  rw [← hm, ← hk]
  have hP : P = none → k = 0 ∧ cp = 0 := fun e => by have := hpA e; omega
  obtain ⟨wa, hwa⟩ : ∃ x, x = (W.alloc (.cells (witA who key A m cap f so ro) 28)).alloc (.cells (headC n r) 26) := ⟨_, rfl⟩
  have hb : Blk wa W.heap.size 28 (witA who key A m cap f so ro) := by rw [hwa]; exact (Blk.new W _ _).alloc _
  have hh : Blk wa (W.heap.size + 1) 26 (headC n r) := by rw [hwa]; exact Blk.new1 W _ _ _
  have hg0 : Gr W wa := by rw [hwa]; exact ((Gr.refl W).alloc _).alloc _
  obtain ⟨p, hp⟩ : ∃ p, p = W.heap.size := ⟨_, rfl⟩
  rw [← hp] at hb hh
  have hrow1 := hrow.gr hg0
  have hprow1 := hprow.gr hg0
  have hT1 := hT.gr hg0
  have hRz := (nmkR_sz fs f who key so ro n r ps hz).1
  have HCp : Sec (∀ w, Gr wa w → Calls Tryd.prog 8 #[.agg (witA who key A m cap f so ro)] w fun e w' => ∃ A' cap', e = .returned (.agg (witA who key A' m cap' f so ro)) ∧ FRow w' A' m fs ∧ m ≤ cap' ∧ (A' = none → m = 0 ∧ cap' = 0) ∧ Gr w w') := sec (fun w g => by
    refine (copyWitC_any fs who key A m cap f so ro w (by omega) (hrow1.gr g) hnil).mono ?_
    rintro e w' ⟨A', cap', rfl, ho, hA', g'⟩
    exact ⟨A', cap', rfl, Row.own ho, own_ncap ho, hA', g'⟩)
  have HSt : Sec (∀ w, Gr wa w → Calls Tryd.prog 24 #[.slice P k cp] w fun e w' => ∃ A' cap', e = .returned (.slice A' k cap') ∧ StrRow w' A' k ps ∧ k ≤ cap' ∧ (A' = none → k = 0 ∧ cap' = 0) ∧ Gr w w') := sec (fun w g => by
    refine (strings_any ps k P cp w (by omega) (hprow1.gr g) hP).mono ?_
    rintro e w' ⟨A', cap', rfl, ho, g'⟩
    refine ⟨A', cap', rfl, Row.own ho, ?_, fun e => ?_, g'⟩
    · rcases ho.2 with ⟨_, h0⟩ | ⟨g, c, cur, e, _, _, h, _⟩
      · omega
      · injection e with _ _ e; omega
    · subst e
      rcases ho.2 with ⟨e0, h0⟩ | ⟨g, c, cur, e, _, _, h, _⟩
      · injection e0 with _ e1 e2
        exact ⟨e1, e2⟩
      · cases e)
  obtain ⟨R, hR⟩ : ∃ R, R = nmkR fs f who key so ro n r ps := ⟨_, rfl⟩
  have HMk : Sec (∀ w A1 cap1 P1 cp1, Gr wa w → FRow w A1 m fs → m ≤ cap1 → (A1 = none → m = 0 ∧ cap1 = 0) → StrRow w P1 k ps → k ≤ cp1 → (P1 = none → k = 0 ∧ cp1 = 0) → Calls Tryd.prog 23 #[.agg (witA who key A1 m cap1 f so ro), .agg (headC n r), .slice P1 k cp1] w fun e w' =>
      ∃ A' n' cap', e = .returned (.tuple #[.agg (witA who key A' n' cap' R.u R.so R.ro), .agg (markC R.mw R.ms), .int .i64 R.e]) ∧ FRow w' A' n' R.fs ∧ Gr w w') := sec (fun w A1 cap1 P1 cp1 g h1 h2 h3 h4 h5 h6 => by
    rw [hR]; exact nmark_any fs who key A1 m cap1 f so ro n r ps k P1 cp1 w h1 h2 h3 hz hfuse (by omega) (by omega) (by omega) (by omega) h5 h6 h4 hsh (hT1.gr g))
  have HRb : Sec (∀ w, Gr wa w → Calls Tryd.prog 25 #[.agg (witA who key A m cap f so ro), .agg (headC n r), .slice P k cp] w fun e w' =>
      ∃ A' n' cap', e = .returned (.tuple #[.agg (witA who key A' n' cap' R.u R.so R.ro), .agg (markC R.mw R.ms), .int .i64 R.e]) ∧ FRow w' A' n' R.fs ∧ Gr w w') := sec (fun w g => by
    rw [hR]; exact rmarkby_any fs who key A m cap f so ro n r ps k P cp w (hrow1.gr g) hcap hnil hz hfuse (by omega) (by omega) (by omega) (by omega) hpc hP (hprow1.gr g) hsh (hT1.gr g))
  rw [← hR] at hRz
  have HSw : Sec (∀ w A1 n1 cap1 A2 n2 cap2, FRow w A1 n1 R.fs → FRow w A2 n2 R.fs → Calls Tryd.prog 10 #[.agg (witA who key A1 n1 cap1 R.u R.so R.ro), .agg (witA who key A2 n2 cap2 R.u R.so R.ro)] w fun e w' => e = .returned (.bool true) ∧ Gr w w') := sec (fun w A1 n1 cap1 A2 n2 cap2 h1 h2 => by
    have e1 := h1.len
    have e2 := h2.len
    obtain rfl : n1 = n2 := by omega
    exact sameWitG_any R.fs who key A1 A2 n1 cap1 cap2 R.u R.so R.ro w (by omega) h1 h2)
  have HNd : Sec (∀ w, Gr wa w → Calls Tryd.prog 11 #[] w fun e w' => e = .returned (.bool true) ∧ Gr w w') := sec (fun w g => nodes_any w (hT1.gr g))
  obtain ⟨gs, u, so2, ro2, mw, ms, er⟩ := R
  simp only at HMk HRb HSw
  have HB : Sec (Blk wa p 28 #[.int .i64 who, .string (bs key), .slice A m cap, .int .i64 f, .int .i64 so, .string (bs ro)]) := sec hb
  have HH : Sec (Blk wa (p + 1) 26 #[.int .i64 n, .string (bs r)]) := sec hh
  have HSK : Sec (∀ w', Gr wa w' → w'.cell? ⟨p + 1, 0, none⟩ = some (.int .i64 n) ∧ w'.cell? ⟨p + 1, 1, none⟩ = some (.string (bs r)) ∧ w'.cell? ⟨p, 0, none⟩ = some (.int .i64 who) ∧ w'.cell? ⟨p, 1, none⟩ = some (.string (bs key)) ∧ w'.cell? ⟨p, 2, none⟩ = some (.slice A m cap) ∧ w'.cell? ⟨p, 3, none⟩ = some (.int .i64 f) ∧ w'.cell? ⟨p, 4, none⟩ = some (.int .i64 so) ∧ w'.cell? ⟨p, 5, none⟩ = some (.string (bs ro))) := sec (fun w' g => ⟨(HH.out.gr g).cell 0, (HH.out.gr g).cell 1, (HB.out.gr g).cell 0, (HB.out.gr g).cell 1, (HB.out.gr g).cell 2, (HB.out.gr g).cell 3, (HB.out.gr g).cell 4, (HB.out.gr g).cell 5⟩)
  obtain ⟨b0, b1, c0, c1, c2, c3, c4, c5⟩ := HSK.out wa (Gr.refl _)
  have g0d : Gr wa wa.drew := (Gr.refl _).drew
  clear hrow hlen hsize hnil hfuse hcap hkey hro hprow hpl hpx hpc hpA hsh hz hm hk hP hrow1 hprow1 hT hT1 hRz hR hr hb hh
  unfold headC markC witA at HMk HRb
  unfold witA at HCp HSw
  unfold headC witA at hwa
  unfold headC witA
  go_enter Tryd.func6, Tryd.ntmps6
  go_upto_region 1 with (first
    | (rw [← hwa, ← hp]; clear hwa hp; go_upto_region 1 with fail))
  go_cut [7, 8, 9] from 13 to 47 (fun v7 v8 v9 wx => ∃ (q1 q2 : Nat) (A1 : Option Addr) (n1 cap1 : Nat), v7 = .pointer (some ⟨q1, 0, none⟩) ∧ v8 = .pointer (some ⟨q2, 0, none⟩) ∧ v9 = .int .i64 er ∧ Sec (Blk wx q1 28 #[.int .i64 who, .string (bs key), .slice A1 n1 cap1, .int .i64 u, .int .i64 so2, .string (bs ro2)]) ∧ Sec (Blk wx q2 37 #[.int .i64 mw, .string (bs ms)]) ∧ Sec (FRow wx A1 n1 gs) ∧ Gr wa wx)
  case first =>
    go_region_held3 (fun w' => w'.cell? ⟨p + 1, 0, none⟩ = some (.int .i64 n) ∧ w'.cell? ⟨p + 1, 1, none⟩ = some (.string (bs r)) ∧ w'.cell? ⟨p, 0, none⟩ = some (.int .i64 who) ∧ w'.cell? ⟨p, 1, none⟩ = some (.string (bs key)) ∧ w'.cell? ⟨p, 2, none⟩ = some (.slice A m cap) ∧ w'.cell? ⟨p, 3, none⟩ = some (.int .i64 f) ∧ w'.cell? ⟨p, 4, none⟩ = some (.int .i64 so) ∧ w'.cell? ⟨p, 5, none⟩ = some (.string (bs ro)))
      (first | with_reducible assumption | (refine HSK.out _ ?_; repeat' (first | with_reducible assumption | with_reducible exact Gr.refl _ | with_reducible refine Gr.alloc ?_ _ | with_reducible refine Gr.drew ?_ | with_reducible refine Gr.setCell ?_ (by first | with_reducible assumption | (dsimp only; with_reducible assumption)) _)) | fail)
      (first
      | (go_at_call 8; refine Calls.mono (HCp.out _ (by first | exact (Gr.refl _).drew | exact ((Gr.refl _).alloc _).drew | exact (((Gr.refl _).alloc _).alloc _).drew)) ?_; rintro e w1 ⟨A1, cap1, rfl, h1, hc1, hA1, g1'⟩; have g1 : Gr wa w1 := Gr.trans (by first | exact (Gr.refl _).drew | exact ((Gr.refl _).alloc _).drew | exact (((Gr.refl _).alloc _).alloc _).drew) g1'; have zs1 := Gr.size g1; have zt1 := Nat.le_succ_of_le zs1; have zs0 := Nat.le_refl wa.heap.size; have zt0 := Nat.le_succ wa.heap.size; (try (first | have zb : Blk _ wa.heap.size 28 #[.int .i64 0, .string (bs []), .slice none 0 0, .int .i64 0, .int .i64 0, .string (bs [])] := Blk.gr (Blk.drew (Blk.new wa _ _)) g1' | have zb : Blk _ wa.heap.size 28 #[.int .i64 0, .string (bs []), .slice none 0 0, .int .i64 0, .int .i64 0, .string (bs [])] := Blk.gr (Blk.drew (Blk.alloc (Blk.new wa _ _) _)) g1' | have zb : Blk _ (wa.heap.size + 1) 28 #[.int .i64 0, .string (bs []), .slice none 0 0, .int .i64 0, .int .i64 0, .string (bs [])] := Blk.gr (Blk.drew (Blk.new1 wa _ _ _)) g1')); (try (first | have mb : Blk _ wa.heap.size 37 #[.int .i64 0, .string (bs [])] := Blk.gr (Blk.drew (Blk.new wa _ _)) g1' | have mb : Blk _ wa.heap.size 37 #[.int .i64 0, .string (bs [])] := Blk.gr (Blk.drew (Blk.alloc (Blk.new wa _ _) _)) g1' | have mb : Blk _ (wa.heap.size + 1) 37 #[.int .i64 0, .string (bs [])] := Blk.gr (Blk.drew (Blk.new1 wa _ _ _)) g1')))
      | (go_at_call 24; refine Calls.mono (HSt.out _ (by first | exact g1 | exact Gr.alloc g1 _ | exact Gr.alloc (Gr.alloc g1 _) _)) ?_; rintro e w2 ⟨P2, cp2, rfl, h2, hc2, hP2, g2'⟩; have g12 : Gr w1 w2 := Gr.trans (by first | exact Gr.refl _ | exact (Gr.refl _).alloc _ | exact ((Gr.refl _).alloc _).alloc _) g2'; have g2 : Gr wa w2 := Gr.trans g1 g12; have zs2 := Gr.size g2; have zt2 := Nat.le_succ_of_le zs2; (try (first | have zb := Blk.gr zb g2' | have zb := Blk.gr (Blk.alloc zb _) g2' | have zb : Blk _ w1.heap.size 28 #[.int .i64 0, .string (bs []), .slice none 0 0, .int .i64 0, .int .i64 0, .string (bs [])] := Blk.gr (Blk.new w1 _ _) g2' | have zb : Blk _ w1.heap.size 28 #[.int .i64 0, .string (bs []), .slice none 0 0, .int .i64 0, .int .i64 0, .string (bs [])] := Blk.gr (Blk.alloc (Blk.new w1 _ _) _) g2' | have zb : Blk _ (w1.heap.size + 1) 28 #[.int .i64 0, .string (bs []), .slice none 0 0, .int .i64 0, .int .i64 0, .string (bs [])] := Blk.gr (Blk.new1 w1 _ _ _) g2')); (try (first | have mb := Blk.gr mb g2' | have mb := Blk.gr (Blk.alloc mb _) g2' | have mb : Blk _ w1.heap.size 37 #[.int .i64 0, .string (bs [])] := Blk.gr (Blk.new w1 _ _) g2' | have mb : Blk _ w1.heap.size 37 #[.int .i64 0, .string (bs [])] := Blk.gr (Blk.alloc (Blk.new w1 _ _) _) g2' | have mb : Blk _ (w1.heap.size + 1) 37 #[.int .i64 0, .string (bs [])] := Blk.gr (Blk.new1 w1 _ _ _) g2')))
      | (go_at_call 23; refine Calls.mono (HMk.out _ A1 cap1 P2 cp2 (by first | exact g2 | exact Gr.alloc g2 _ | exact Gr.alloc (Gr.alloc g2 _) _) (by first | exact FRow.gr h1 g12 | exact FRow.gr h1 (Gr.alloc g12 _) | exact FRow.gr h1 (Gr.alloc (Gr.alloc g12 _) _)) hc1 hA1 (by first | exact h2 | exact Row.gr h2 ((Gr.refl _).alloc _) | exact Row.gr h2 (((Gr.refl _).alloc _).alloc _)) hc2 hP2) ?_; rintro e w3 ⟨A3, n3, cap3, rfl, h3, g3'⟩; have g3 : Gr wa w3 := Gr.trans (by first | exact g2 | exact Gr.alloc g2 _ | exact Gr.alloc (Gr.alloc g2 _) _) g3'; have zs3 := Gr.size g3; have zt3 := Nat.le_succ_of_le zs3; (try (first | have zb := Blk.gr zb g3' | have zb := Blk.gr (Blk.alloc zb _) g3' | have zb : Blk _ w2.heap.size 28 #[.int .i64 0, .string (bs []), .slice none 0 0, .int .i64 0, .int .i64 0, .string (bs [])] := Blk.gr (Blk.new w2 _ _) g3' | have zb : Blk _ w2.heap.size 28 #[.int .i64 0, .string (bs []), .slice none 0 0, .int .i64 0, .int .i64 0, .string (bs [])] := Blk.gr (Blk.alloc (Blk.new w2 _ _) _) g3' | have zb : Blk _ (w2.heap.size + 1) 28 #[.int .i64 0, .string (bs []), .slice none 0 0, .int .i64 0, .int .i64 0, .string (bs [])] := Blk.gr (Blk.new1 w2 _ _ _) g3')); (try (first | have mb := Blk.gr mb g3' | have mb := Blk.gr (Blk.alloc mb _) g3' | have mb : Blk _ w2.heap.size 37 #[.int .i64 0, .string (bs [])] := Blk.gr (Blk.new w2 _ _) g3' | have mb : Blk _ w2.heap.size 37 #[.int .i64 0, .string (bs [])] := Blk.gr (Blk.alloc (Blk.new w2 _ _) _) g3' | have mb : Blk _ (w2.heap.size + 1) 37 #[.int .i64 0, .string (bs [])] := Blk.gr (Blk.new1 w2 _ _ _) g3')); (try (have zlt := zb.lt; have zn1 : w3.heap.size ≠ _ := Nat.ne_of_gt zlt; have zn2 : _ ≠ w3.heap.size := Nat.ne_of_lt zlt; have zc0 : w3.cell? ⟨_, 0, none⟩ = some (.int .i64 0) := zb.cell 0; have zc1 : w3.cell? ⟨_, 1, none⟩ = some (.string (bs [])) := zb.cell 1; have zc2 : w3.cell? ⟨_, 2, none⟩ = some (.slice none 0 0) := zb.cell 2; have zc3 : w3.cell? ⟨_, 3, none⟩ = some (.int .i64 0) := zb.cell 3; have zc4 : w3.cell? ⟨_, 4, none⟩ = some (.int .i64 0) := zb.cell 4; have zc5 : w3.cell? ⟨_, 5, none⟩ = some (.string (bs [])) := zb.cell 5; have zf0 : w3.frozen? ⟨_, 0, none⟩ = false := zb.frozen 0; have zf1 : w3.frozen? ⟨_, 1, none⟩ = false := zb.frozen 1; have zf2 : w3.frozen? ⟨_, 2, none⟩ = false := zb.frozen 2; have zf3 : w3.frozen? ⟨_, 3, none⟩ = false := zb.frozen 3; have zf4 : w3.frozen? ⟨_, 4, none⟩ = false := zb.frozen 4; have zf5 : w3.frozen? ⟨_, 5, none⟩ = false := zb.frozen 5; have zbA := zb.alloc (.cells #[.int .i64 0, .string (bs [])] 37); have yc0 : (w3.alloc (.cells #[.int .i64 0, .string (bs [])] 37)).cell? ⟨_, 0, none⟩ = some (.int .i64 0) := zbA.cell 0; have yc1 : (w3.alloc (.cells #[.int .i64 0, .string (bs [])] 37)).cell? ⟨_, 1, none⟩ = some (.string (bs [])) := zbA.cell 1; have yc2 : (w3.alloc (.cells #[.int .i64 0, .string (bs [])] 37)).cell? ⟨_, 2, none⟩ = some (.slice none 0 0) := zbA.cell 2; have yc3 : (w3.alloc (.cells #[.int .i64 0, .string (bs [])] 37)).cell? ⟨_, 3, none⟩ = some (.int .i64 0) := zbA.cell 3; have yc4 : (w3.alloc (.cells #[.int .i64 0, .string (bs [])] 37)).cell? ⟨_, 4, none⟩ = some (.int .i64 0) := zbA.cell 4; have yc5 : (w3.alloc (.cells #[.int .i64 0, .string (bs [])] 37)).cell? ⟨_, 5, none⟩ = some (.string (bs [])) := zbA.cell 5; have yf0 : (w3.alloc (.cells #[.int .i64 0, .string (bs [])] 37)).frozen? ⟨_, 0, none⟩ = false := zbA.frozen 0; have yf1 : (w3.alloc (.cells #[.int .i64 0, .string (bs [])] 37)).frozen? ⟨_, 1, none⟩ = false := zbA.frozen 1; have yf2 : (w3.alloc (.cells #[.int .i64 0, .string (bs [])] 37)).frozen? ⟨_, 2, none⟩ = false := zbA.frozen 2; have yf3 : (w3.alloc (.cells #[.int .i64 0, .string (bs [])] 37)).frozen? ⟨_, 3, none⟩ = false := zbA.frozen 3; have yf4 : (w3.alloc (.cells #[.int .i64 0, .string (bs [])] 37)).frozen? ⟨_, 4, none⟩ = false := zbA.frozen 4; have yf5 : (w3.alloc (.cells #[.int .i64 0, .string (bs [])] 37)).frozen? ⟨_, 5, none⟩ = false := zbA.frozen 5)); (try (have mlt := mb.lt; have mn1 : w3.heap.size ≠ _ := Nat.ne_of_gt mlt; have mn2 : _ ≠ w3.heap.size := Nat.ne_of_lt mlt; have mc0 : w3.cell? ⟨_, 0, none⟩ = some (.int .i64 0) := mb.cell 0; have mc1 : w3.cell? ⟨_, 1, none⟩ = some (.string (bs [])) := mb.cell 1; have mf0 : w3.frozen? ⟨_, 0, none⟩ = false := mb.frozen 0; have mf1 : w3.frozen? ⟨_, 1, none⟩ = false := mb.frozen 1; have mbA := mb.alloc (.cells #[.int .i64 0, .string (bs []), .slice none 0 0, .int .i64 0, .int .i64 0, .string (bs [])] 28); have nc0 : (w3.alloc (.cells #[.int .i64 0, .string (bs []), .slice none 0 0, .int .i64 0, .int .i64 0, .string (bs [])] 28)).cell? ⟨_, 0, none⟩ = some (.int .i64 0) := mbA.cell 0; have nc1 : (w3.alloc (.cells #[.int .i64 0, .string (bs []), .slice none 0 0, .int .i64 0, .int .i64 0, .string (bs [])] 28)).cell? ⟨_, 1, none⟩ = some (.string (bs [])) := mbA.cell 1; have nf0 : (w3.alloc (.cells #[.int .i64 0, .string (bs []), .slice none 0 0, .int .i64 0, .int .i64 0, .string (bs [])] 28)).frozen? ⟨_, 0, none⟩ = false := mbA.frozen 0; have nf1 : (w3.alloc (.cells #[.int .i64 0, .string (bs []), .slice none 0 0, .int .i64 0, .int .i64 0, .string (bs [])] 28)).frozen? ⟨_, 1, none⟩ = false := mbA.frozen 1; have mbB := mb.alloc (.cells #[.int .i64 who, .string (bs key), .slice A3 n3 cap3, .int .i64 u, .int .i64 so2, .string (bs ro2)] 28); have oc0 : (w3.alloc (.cells #[.int .i64 who, .string (bs key), .slice A3 n3 cap3, .int .i64 u, .int .i64 so2, .string (bs ro2)] 28)).cell? ⟨_, 0, none⟩ = some (.int .i64 0) := mbB.cell 0; have oc1 : (w3.alloc (.cells #[.int .i64 who, .string (bs key), .slice A3 n3 cap3, .int .i64 u, .int .i64 so2, .string (bs ro2)] 28)).cell? ⟨_, 1, none⟩ = some (.string (bs [])) := mbB.cell 1; have of0 : (w3.alloc (.cells #[.int .i64 who, .string (bs key), .slice A3 n3 cap3, .int .i64 u, .int .i64 so2, .string (bs ro2)] 28)).frozen? ⟨_, 0, none⟩ = false := mbB.frozen 0; have of1 : (w3.alloc (.cells #[.int .i64 who, .string (bs key), .slice A3 n3 cap3, .int .i64 u, .int .i64 so2, .string (bs ro2)] 28)).frozen? ⟨_, 1, none⟩ = false := mbB.frozen 1)); (try (have zm1 := blk_ne zb mb (by decide); have zm2 := Ne.symm zm1))))
    all_goals (go_wp2_with fail; go_meet; refine ⟨_, _, A3, n3, cap3, rfl, rfl, rfl, ?_⟩; first
      | with_reducible exact ⟨sec ((Blk.new w3 _ _).alloc _), sec (Blk.new1 w3 _ _ _), sec (FRow.gr h3 (((Gr.refl _).alloc _).alloc _)), (g3.alloc _).alloc _⟩
      | with_reducible exact ⟨sec (Blk.new1 w3 _ _ _), sec ((Blk.new w3 _ _).alloc _), sec (FRow.gr h3 (((Gr.refl _).alloc _).alloc _)), (g3.alloc _).alloc _⟩
      | with_reducible exact ⟨sec (nfin3 zb h3).1, sec (nfin3 zb h3).2.1, sec (nfin3 zb h3).2.2, (by repeat' (first | with_reducible assumption | with_reducible exact Gr.refl _ | with_reducible refine Gr.alloc ?_ _ | with_reducible refine Gr.drew ?_ | with_reducible refine Gr.setCell ?_ (by first | with_reducible assumption | (dsimp only; with_reducible assumption)) _))⟩
      | with_reducible exact ⟨sec (nfin4 mb h3).1, sec (nfin4 mb h3).2.1, sec (nfin4 mb h3).2.2, (by repeat' (first | with_reducible assumption | with_reducible exact Gr.refl _ | with_reducible refine Gr.alloc ?_ _ | with_reducible refine Gr.drew ?_ | with_reducible refine Gr.setCell ?_ (by first | with_reducible assumption | (dsimp only; with_reducible assumption)) _))⟩
      | with_reducible exact ⟨sec (nfin5 zb mb h3).1, sec (nfin5 zb mb h3).2.1, sec (nfin5 zb mb h3).2.2, (by repeat' (first | with_reducible assumption | with_reducible exact Gr.refl _ | with_reducible refine Gr.alloc ?_ _ | with_reducible refine Gr.drew ?_ | with_reducible refine Gr.setCell ?_ (by first | with_reducible assumption | (dsimp only; with_reducible assumption)) _))⟩)
  case rest =>
    obtain ⟨q1, q2, A1, n1, cap1, rfl, rfl, rfl, K1, K2, K3, gc⟩ := hcut
    clear b0 b1 c0 c1 c2 c3 c4 c5
    obtain ⟨b0, b1, c0, c1, c2, c3, c4, c5⟩ := HSK.out wc gc
    go_wp2_with (first
      | (go_at_call 25; refine Calls.mono (HRb.out _ gc) ?_; rintro e w6 ⟨A6, n6, cap6, rfl, h6, g6⟩; have N1 := ((K1.out.gr g6).alloc (.cells #[.int .i64 who, .string (bs key), .slice A6 n6 cap6, .int .i64 u, .int .i64 so2, .string (bs ro2)] 28)).alloc (.cells #[.int .i64 mw, .string (bs ms)] 37); have N2 := ((K2.out.gr g6).alloc (.cells #[.int .i64 who, .string (bs key), .slice A6 n6 cap6, .int .i64 u, .int .i64 so2, .string (bs ro2)] 28)).alloc (.cells #[.int .i64 mw, .string (bs ms)] 37); have M1 := (Blk.new w6 28 #[.int .i64 who, .string (bs key), .slice A6 n6 cap6, .int .i64 u, .int .i64 so2, .string (bs ro2)]).alloc (.cells #[.int .i64 mw, .string (bs ms)] 37); have M2 := Blk.new1 w6 (.cells #[.int .i64 who, .string (bs key), .slice A6 n6 cap6, .int .i64 u, .int .i64 so2, .string (bs ro2)] 28) 37 #[.int .i64 mw, .string (bs ms)]; have gg7 : Gr w6 ((w6.alloc (.cells #[.int .i64 who, .string (bs key), .slice A6 n6 cap6, .int .i64 u, .int .i64 so2, .string (bs ro2)] 28)).alloc (.cells #[.int .i64 mw, .string (bs ms)] 37)) := ((Gr.refl _).alloc _).alloc _; have k3 := (K3.out.gr g6).gr gg7; have k6 := h6.gr gg7; have gg6 : Gr wa ((w6.alloc (.cells #[.int .i64 who, .string (bs key), .slice A6 n6 cap6, .int .i64 u, .int .i64 so2, .string (bs ro2)] 28)).alloc (.cells #[.int .i64 mw, .string (bs ms)] 37)) := (gc.trans g6).trans gg7; have x0 : ((w6.alloc (.cells #[.int .i64 who, .string (bs key), .slice A6 n6 cap6, .int .i64 u, .int .i64 so2, .string (bs ro2)] 28)).alloc (.cells #[.int .i64 mw, .string (bs ms)] 37)).cell? ⟨q1, 0, none⟩ = some (.int .i64 who) := N1.cell 0; have x1 : ((w6.alloc (.cells #[.int .i64 who, .string (bs key), .slice A6 n6 cap6, .int .i64 u, .int .i64 so2, .string (bs ro2)] 28)).alloc (.cells #[.int .i64 mw, .string (bs ms)] 37)).cell? ⟨q1, 1, none⟩ = some (.string (bs key)) := N1.cell 1; have x2 : ((w6.alloc (.cells #[.int .i64 who, .string (bs key), .slice A6 n6 cap6, .int .i64 u, .int .i64 so2, .string (bs ro2)] 28)).alloc (.cells #[.int .i64 mw, .string (bs ms)] 37)).cell? ⟨q1, 2, none⟩ = some (.slice A1 n1 cap1) := N1.cell 2; have x3 : ((w6.alloc (.cells #[.int .i64 who, .string (bs key), .slice A6 n6 cap6, .int .i64 u, .int .i64 so2, .string (bs ro2)] 28)).alloc (.cells #[.int .i64 mw, .string (bs ms)] 37)).cell? ⟨q1, 3, none⟩ = some (.int .i64 u) := N1.cell 3; have x4 : ((w6.alloc (.cells #[.int .i64 who, .string (bs key), .slice A6 n6 cap6, .int .i64 u, .int .i64 so2, .string (bs ro2)] 28)).alloc (.cells #[.int .i64 mw, .string (bs ms)] 37)).cell? ⟨q1, 4, none⟩ = some (.int .i64 so2) := N1.cell 4; have x5 : ((w6.alloc (.cells #[.int .i64 who, .string (bs key), .slice A6 n6 cap6, .int .i64 u, .int .i64 so2, .string (bs ro2)] 28)).alloc (.cells #[.int .i64 mw, .string (bs ms)] 37)).cell? ⟨q1, 5, none⟩ = some (.string (bs ro2)) := N1.cell 5; have y0 : ((w6.alloc (.cells #[.int .i64 who, .string (bs key), .slice A6 n6 cap6, .int .i64 u, .int .i64 so2, .string (bs ro2)] 28)).alloc (.cells #[.int .i64 mw, .string (bs ms)] 37)).cell? ⟨q2, 0, none⟩ = some (.int .i64 mw) := N2.cell 0; have y1 : ((w6.alloc (.cells #[.int .i64 who, .string (bs key), .slice A6 n6 cap6, .int .i64 u, .int .i64 so2, .string (bs ro2)] 28)).alloc (.cells #[.int .i64 mw, .string (bs ms)] 37)).cell? ⟨q2, 1, none⟩ = some (.string (bs ms)) := N2.cell 1; have s0 : ((w6.alloc (.cells #[.int .i64 who, .string (bs key), .slice A6 n6 cap6, .int .i64 u, .int .i64 so2, .string (bs ro2)] 28)).alloc (.cells #[.int .i64 mw, .string (bs ms)] 37)).cell? ⟨w6.heap.size, 0, none⟩ = some (.int .i64 who) := M1.cell 0; have s1 : ((w6.alloc (.cells #[.int .i64 who, .string (bs key), .slice A6 n6 cap6, .int .i64 u, .int .i64 so2, .string (bs ro2)] 28)).alloc (.cells #[.int .i64 mw, .string (bs ms)] 37)).cell? ⟨w6.heap.size, 1, none⟩ = some (.string (bs key)) := M1.cell 1; have s2 : ((w6.alloc (.cells #[.int .i64 who, .string (bs key), .slice A6 n6 cap6, .int .i64 u, .int .i64 so2, .string (bs ro2)] 28)).alloc (.cells #[.int .i64 mw, .string (bs ms)] 37)).cell? ⟨w6.heap.size, 2, none⟩ = some (.slice A6 n6 cap6) := M1.cell 2; have s3 : ((w6.alloc (.cells #[.int .i64 who, .string (bs key), .slice A6 n6 cap6, .int .i64 u, .int .i64 so2, .string (bs ro2)] 28)).alloc (.cells #[.int .i64 mw, .string (bs ms)] 37)).cell? ⟨w6.heap.size, 3, none⟩ = some (.int .i64 u) := M1.cell 3; have s4 : ((w6.alloc (.cells #[.int .i64 who, .string (bs key), .slice A6 n6 cap6, .int .i64 u, .int .i64 so2, .string (bs ro2)] 28)).alloc (.cells #[.int .i64 mw, .string (bs ms)] 37)).cell? ⟨w6.heap.size, 4, none⟩ = some (.int .i64 so2) := M1.cell 4; have s5 : ((w6.alloc (.cells #[.int .i64 who, .string (bs key), .slice A6 n6 cap6, .int .i64 u, .int .i64 so2, .string (bs ro2)] 28)).alloc (.cells #[.int .i64 mw, .string (bs ms)] 37)).cell? ⟨w6.heap.size, 5, none⟩ = some (.string (bs ro2)) := M1.cell 5; have t0 : ((w6.alloc (.cells #[.int .i64 who, .string (bs key), .slice A6 n6 cap6, .int .i64 u, .int .i64 so2, .string (bs ro2)] 28)).alloc (.cells #[.int .i64 mw, .string (bs ms)] 37)).cell? ⟨w6.heap.size + 1, 0, none⟩ = some (.int .i64 mw) := M2.cell 0; have t1 : ((w6.alloc (.cells #[.int .i64 who, .string (bs key), .slice A6 n6 cap6, .int .i64 u, .int .i64 so2, .string (bs ro2)] 28)).alloc (.cells #[.int .i64 mw, .string (bs ms)] 37)).cell? ⟨w6.heap.size + 1, 1, none⟩ = some (.string (bs ms)) := M2.cell 1)
      | (go_at_call 10; refine Calls.mono (HSw.out _ _ _ _ _ _ _ k3 k6) ?_; rintro e w8 ⟨rfl, g8⟩)
      | (go_at_call 11; refine Calls.mono (HNd.out _ (gg6.trans g8)) ?_; rintro e w9 ⟨rfl, g9⟩))
    go_ret
    exact ⟨rfl, hg0.trans (gg6.trans (g8.trans g9))⟩
end Go.Proofs.YtbhpglhmnpcnkaaDoor

namespace Go.Proofs.YtbhpglhmnpcnkaaDoor
open Go.RowKit Go.ChangeShapes Go.WideShapes Go.ChangeAt
set_option linter.unusedVariables false

theorem gTab : Tryd.prog.globalNamed "cartulary/sum.table" = some 0 := by kernel_rfl
theorem gTabType : (Tryd.prog.globals[0]?).map (·.type) = some 139 := by kernel_rfl
theorem cellsTab : Tryd.prog.cellsOf 139 = 64 := by kernel_rfl
theorem cellsU32 : Tryd.prog.cellsOf 98 = 1 := by kernel_rfl
def kInts : List Int := kTab.map fun x => (x.toNat : Int)
theorem table_of {W : World} {rest : List (String × DataW Unit)} (h : laidMet Tryd.prog (("cartulary/sum.table", Rows.laid_cartulary_sum_table) :: rest) W) : TabK W := by
  have ht : Lib.TabIs Tryd.prog W "cartulary/sum.table" .u32 kInts :=
    Lib.tabIs_of_head (rest := rest) gTab gTabType Tryd.underlying139 Tryd.underlying98 cellsU32 cellsTab h
  refine ⟨fun i hi => ?_⟩
  have hl : i < kInts.length := by unfold kInts; rw [List.length_map, kTab_len]; exact hi
  have := ht.cell gTab i hl
  rw [this]
  have : i < kTab.length := by rw [kTab_len]; exact hi
  simp [kInts, kAt, u32V, this]

/-- the numbers of a listed variable, flat -/
def flatW : Nat → DataW Unit → List Value
  | 0, _ => []
  | _ + 1, .lit (.int k z) => [.int k z]
  | n + 1, .agg xs => xs.flatMap (flatW n)
  | _ + 1, _ => []
/-- a heap in which each listed variable holds what its initialiser lays -/
noncomputable def laidHeap (l : List (String × DataW Unit)) (h : Array Obj) : Array Obj :=
  l.foldl (fun h x => match Tryd.prog.globalNamed x.1 with
    | some g => h.modify g fun
      | .cells _ t frozen => .cells (flatW 8 x.2).toArray t frozen
      | o => o
    | none => h) h
/-- a world for a witness: the settled one, the listed variables holding what their initialisers lay -/
noncomputable def laidWorld (l : List (String × DataW Unit)) (os : Os) : World :=
  { World.holding Tryd.prog os ⟨#[], #[], []⟩ with heap := laidHeap l (World.holding Tryd.prog os ⟨#[], #[], []⟩).heap }
end Go.Proofs.YtbhpglhmnpcnkaaDoor

/-
  disk.step by its contract: a closure upon a disk of its own memory.
-/
import Derived.Test.YtoamnifnfkgbiaaGreatDoorDiskDel
import Derived.Test.YtoamnifnfkgbiaaGreatDoorDiskRCrash
import Derived.Deep.RegionWith
import Derived.Deep.CutRange
namespace Go.Proofs.YtoamnifnfkgbiaaGreatDoor
open Go.RowKit
set_option linter.unusedVariables false
structure DOwn (w : World) (B q : Nat) (A : Option Addr) (n cap : Nat) (u : Int) (fs : List Fl) : Prop where
  blk : Blk w q 24 #[.slice A n cap, .int .i64 u]
  own : w.ownsRow B 105 3 (.slice A n cap) n (fs.flatMap fileC)
  base : B ≤ q
theorem DOwn.gr {w w' : World} {B q n cap : Nat} {A : Option Addr} {u : Int} {fs : List Fl} (h : DOwn w B q A n cap u fs) (g : Gr w w') : DOwn w' B q A n cap u fs :=
  ⟨h.blk.gr g, own_gr h.own g, h.base⟩
theorem DOwn.ne {w : World} {B q n cap : Nat} {A : Option Addr} {u : Int} {fs : List Fl} (h : DOwn w B q A n cap u fs) : (Value.slice A n cap).ownBlock ≠ some q := own_blk_ne h.own h.blk (by decide)
/-- a closure that turns the disk at its pointer -/
def Steps (g : Nat) (caps : Array Value) (F : List Fl → List Fl × Int) (w0 : World) : Prop :=
  ∀ (wc w : World) (q : Nat) (A : Option Addr) (n cap : Nat) (u : Int) (fs : List Fl), Gr w0 wc → Gr wc w → DOwn w wc.heap.size q A n cap u fs → goodFs fs = true →
    Calls Tryz.prog g (#[.pointer (some ⟨q, 0, none⟩)] ++ caps) w fun e w' => e = .returned (.int .i64 (F fs).2) ∧ Gr wc w' ∧ ((F fs).2 = 0 → ∃ A' n' cap', DOwn w' wc.heap.size q A' n' cap' u (F fs).1)
/-- a step: the disk, its fuse, the error -/
def stepR (F : List Fl → List Fl × Int) (fs : List Fl) (f : Int) : List Fl × Int × Int :=
  if goodFs fs then (if f = 0 then (fs, f, 12) else if (F fs).2 = 0 then ((F fs).1, (if 0 < f then f - 1 else f), 0) else (fs, f, (F fs).2)) else (fs, f, 3)

/-- what a step hands back -/
def StepPost (r : List Fl × Int × Int) (A : Option Addr) (n cap : Nat) (fs : List Fl) (w : World) (e : Ending) (w' : World) : Prop :=
  ∃ A' n' cap', e = .returned (.tuple #[diskV A' n' cap' r.2.1, .int .i64 r.2.2]) ∧ Gr w w' ∧ (A' = none → n' = 0 ∧ cap' = 0) ∧
    ((A' = A ∧ n' = n ∧ cap' = cap ∧ r.1 = fs) ∨ w'.ownsRow w.heap.size 105 3 (.slice A' n' cap') n' (r.1.flatMap fileC))
theorem StepPost.row {r : List Fl × Int × Int} {A A' : Option Addr} {n n' cap cap' : Nat} {fs : List Fl} {w w' : World} (hx : FRow w A n fs) (hg : Gr w w')
    (h : (A' = A ∧ n' = n ∧ cap' = cap ∧ r.1 = fs) ∨ w'.ownsRow w.heap.size 105 3 (.slice A' n' cap') n' (r.1.flatMap fileC)) : FRow w' A' n' r.1 := by
  rcases h with ⟨rfl, rfl, _, h⟩ | h
  · rw [h]; exact hx.gr hg
  · exact Row.own h
theorem own_ncap {w : World} {B e size n cap m : Nat} {A : Option Addr} {xs : List Value} (h : w.ownsRow B e size (.slice A n cap) m xs) : n ≤ cap := by
  rcases h.2 with ⟨e, h0⟩ | ⟨g, c, cur, e, _, _, h, _⟩
  · injection e with _ e1 e2; omega
  · injection e with _ e1 e2; omega
theorem StepPost.cap {r : List Fl × Int × Int} {A A' : Option Addr} {n n' cap cap' : Nat} {fs : List Fl} {w w' : World} (hc : n ≤ cap)
    (h : (A' = A ∧ n' = n ∧ cap' = cap ∧ r.1 = fs) ∨ w'.ownsRow w.heap.size 105 3 (.slice A' n' cap') n' (r.1.flatMap fileC)) : n' ≤ cap' := by
  rcases h with ⟨_, rfl, rfl, _⟩ | h
  · exact hc
  · exact own_ncap h
/-- a result's cell, stored -/
theorem StepPost.set2 {r : List Fl × Int × Int} {A A' : Option Addr} {n n' cap cap' p : Nat} {fs : List Fl} {w w0 w' : World} (hw : Gr w w0) (hp : p < w0.heap.size) (hwp : w.heap.size ≤ p) (hg : Gr w0 w') (u v : Value)
    (h : (A' = A ∧ n' = n ∧ cap' = cap ∧ r.1 = fs) ∨ w'.ownsRow w0.heap.size 105 3 (.slice A' n' cap') n' (r.1.flatMap fileC)) :
    Gr w ((w'.setCell ⟨p, 0, none⟩ u).setCell ⟨p, 1, none⟩ v) ∧ ((A' = A ∧ n' = n ∧ cap' = cap ∧ r.1 = fs) ∨ ((w'.setCell ⟨p, 0, none⟩ u).setCell ⟨p, 1, none⟩ v).ownsRow w.heap.size 105 3 (.slice A' n' cap') n' (r.1.flatMap fileC)) := by
  refine ⟨((hw.trans hg).setCell (p := ⟨p, 0, none⟩) hwp _).setCell (p := ⟨p, 1, none⟩) hwp _, ?_⟩
  rcases h with h | h
  · exact .inl h
  · have hne : (Value.slice A' n' cap').ownBlock ≠ some p := fun e => by have := (h.lt _ e).1; omega
    exact .inr (own_low (ownsRow_setCell_other (ownsRow_setCell_other h (a := ⟨p, 0, none⟩) hne _) (a := ⟨p, 1, none⟩) hne _) hw.size)
theorem own_none {w : World} {B e size n cap m : Nat} {A : Option Addr} {xs : List Value} (h : w.ownsRow B e size (.slice A n cap) m xs) (hA : A = none) : n = 0 ∧ cap = 0 := by
  rcases h.2 with ⟨e, h0⟩ | ⟨g, c, cur, e, _⟩
  · injection e with _ e1 e2; exact ⟨e1, e2⟩
  · injection e with e0; rw [hA] at e0; cases e0
theorem down_a {w1 w2 : World} {A' : Option Addr} {n cap' : Nat} {f : Int} {fs : List Fl} (hown : w2.ownsRow w1.drew.heap.size 105 3 (.slice A' n cap') n (fs.flatMap fileC)) (g2 : Gr w1.drew w2) :
    ∃ (q : Nat) (A1 : Option Addr) (cap1 : Nat), Value.pointer (some ⟨w2.heap.size, 0, none⟩) = .pointer (some ⟨q, 0, none⟩) ∧ Sec (DOwn (w2.alloc (.cells #[.slice A' n cap', .int .i64 f] 24)) w1.heap.size q A1 n cap1 f fs) ∧ Gr w1 (w2.alloc (.cells #[.slice A' n cap', .int .i64 f] 24)) :=
  ⟨w2.heap.size, A', cap', rfl, sec ⟨Blk.new w2 _ _, own_gr hown ((Gr.refl w2).alloc _), g2.size⟩, (Gr.trans (Gr.refl w1).drew g2).alloc _⟩
theorem down_b {w1 w2 : World} {A' : Option Addr} {n cap' : Nat} {f : Int} {fs : List Fl} {o : Obj} (hown : w2.ownsRow (w1.alloc o).drew.heap.size 105 3 (.slice A' n cap') n (fs.flatMap fileC)) (g2 : Gr (w1.alloc o).drew w2)
    (hq2 : Blk w2 w1.heap.size 24 #[.slice none 0 0, .int .i64 0]) :
    ∃ (q : Nat) (A1 : Option Addr) (cap1 : Nat), Value.pointer (some ⟨w1.heap.size, 0, none⟩) = .pointer (some ⟨q, 0, none⟩) ∧ Sec (DOwn ((w2.setCell ⟨w1.heap.size, 0, none⟩ (.slice A' n cap')).setCell ⟨w1.heap.size, 1, none⟩ (.int .i64 f)) w1.heap.size q A1 n cap1 f fs) ∧ Gr w1 ((w2.setCell ⟨w1.heap.size, 0, none⟩ (.slice A' n cap')).setCell ⟨w1.heap.size, 1, none⟩ (.int .i64 f)) := by
  have hne := own_blk_ne hown hq2 (by decide)
  have hg : Gr w1 w2 := Gr.trans ((Gr.refl w1).alloc o).drew g2
  refine ⟨w1.heap.size, A', cap', rfl, sec ⟨(hq2.set_ 0 _).set_ 1 _, own_low (ownsRow_setCell_other (ownsRow_setCell_other hown (a := ⟨w1.heap.size, 0, none⟩) hne _) (a := ⟨w1.heap.size, 1, none⟩) hne _) (by simp [World.drew]), Nat.le_refl _⟩, (hg.setCell (p := ⟨w1.heap.size, 0, none⟩) (Nat.le_refl _) _).setCell (p := ⟨w1.heap.size, 1, none⟩) (Nat.le_refl _) _⟩

set_option maxRecDepth 100000 in
set_option maxHeartbeats 4000000 in
theorem step_any (g : Nat) (caps : Array Value) (F : List Fl → List Fl × Int) (eg : ∀ args w, (callFunc g args).run Tryz.prog w = .ok (.enter g args) w) (fs : List Fl) (A : Option Addr) (n cap : Nat) (f : Int) (w : World) (hn : n ≤ 1099511627776) (hx : FRow w A n fs) (hA : A = none → n = 0 ∧ cap = 0) (hs : ∀ f ∈ fs, f.1.length ≤ 1099511627776 ∧ f.2.1.length ≤ 1099511627776 ∧ f.2.2.length ≤ 1099511627776)
    (hf : -9223372036854775808 ≤ f ∧ f ≤ 9223372036854775807) (hF : Steps g caps F w) :
    Calls Tryz.prog 109 #[diskV A n cap f, .func (.func g) #[] caps] w (StepPost (stepR F fs f) A n cap fs w) := by
  have hg0 := ((Gr.refl w).alloc (.cells #[.slice A n cap, .int .i64 f] 24)).alloc (.cells #[.slice none 0 0, .int .i64 0] 24)
  have hb1 := (Blk.new w 24 #[.slice A n cap, .int .i64 f]).alloc (.cells #[.slice none 0 0, .int .i64 0] 24)
  have hb2 := Blk.new1 w (.cells #[.slice A n cap, .int .i64 f] 24) 24 #[.slice none 0 0, .int .i64 0]
  have HG := sec (dgood_any fs A n cap f _ hn (hx.gr hg0) hs)
  have hl := hx.len
  have HX := sec (hx.gr hg0)
  obtain ⟨wa, hwa⟩ : ∃ x, x = (w.alloc (.cells #[.slice A n cap, .int .i64 f] 24)).alloc (.cells #[.slice none 0 0, .int .i64 0] 24) := ⟨_, rfl⟩
  rw [← hwa] at hg0 hb1 hb2 HG HX
  obtain ⟨p, hp⟩ : ∃ p, p = w.heap.size := ⟨_, rfl⟩
  have hwp : w.heap.size ≤ p := by omega
  rw [← hp] at hb1 hb2
  have c0 : wa.cell? ⟨p, 0, none⟩ = some (.slice A n cap) := hb1.cell 0
  have c1 : wa.cell? ⟨p, 1, none⟩ = some (.int .i64 f) := hb1.cell 1
  have HB := sec hb1
  have HR2 := sec hb2
  have HX0 := sec hx
  have HFF := sec hF
  have HA := sec hA
  clear hb1 hb2 hs hx hF
  unfold diskV at HG
  unfold diskV
  have HW : Sec (∀ w1, Gr wa w1 → Blk ((w1.setCell ⟨p + 1, 0, none⟩ (.slice A n cap)).setCell ⟨p + 1, 1, none⟩ (.int .i64 f)) (p + 1) 24 #[.slice A n cap, .int .i64 f]) := sec fun w1 g1 => ((HR2.out.gr g1).set_ 0 (.slice A n cap)).set_ 1 (.int .i64 f)
  have HV : Sec (∀ w1, Gr wa w1 → Gr w ((w1.setCell ⟨p + 1, 0, none⟩ (.slice A n cap)).setCell ⟨p + 1, 1, none⟩ (.int .i64 f))) := sec fun w1 g1 => ((hg0.trans g1).setCell (p := ⟨p + 1, 0, none⟩) (by show w.heap.size ≤ p + 1; omega) _).setCell (p := ⟨p + 1, 1, none⟩) (by show w.heap.size ≤ p + 1; omega) _
  cases hgf : goodFs fs with
  | false =>
    have HR : Sec (stepR F fs f = (fs, f, 3)) := sec (by unfold stepR; rw [hgf]; rfl)
    rw [HR.out]
    rw [hgf] at HG
    clear hgf
    go_enter Tryz.func109, Tryz.ntmps109
    go_wp2_with (first | (rw [← hwa, ← hp]; clear hwa hp; go_wp2_with fail) | (go_at_call 75; refine Calls.mono HG.out ?_; rintro e w1 ⟨rfl, g1⟩; have c0y : w1.cell? ⟨p, 0, none⟩ = some (.slice A n cap) := (HB.out.gr g1).cell 0; have c1y : w1.cell? ⟨p, 1, none⟩ = some (.int .i64 f) := (HB.out.gr g1).cell 1; have d20 : w1.cell? ⟨p + 1, 0, none⟩ = some (.slice none 0 0) := (HR2.out.gr g1).cell 0; have d21 : w1.cell? ⟨p + 1, 1, none⟩ = some (.int .i64 0) := (HR2.out.gr g1).cell 1; have f20 : w1.frozen? ⟨p + 1, 0, none⟩ = false := (HR2.out.gr g1).frozen 0; have f21 : w1.frozen? ⟨p + 1, 1, none⟩ = false := (HR2.out.gr g1).frozen 1))
    refine bodyPost_ret (results_blk_tmp rfl _ rfl (HW.out w1 g1) aggDisk) rfl ?_
    exact ⟨A, n, cap, rfl, HV.out w1 g1, HA.out, .inl ⟨rfl, rfl, rfl, rfl⟩⟩
  | true =>
    rw [hgf] at HG
    by_cases hf0 : f = 0
    · have HR : Sec (stepR F fs f = (fs, f, 12)) := sec (by unfold stepR; rw [hgf, hf0]; rfl)
      rw [HR.out]
      clear hgf
      subst hf0
      go_enter Tryz.func109, Tryz.ntmps109
      go_wp2_with (first | (rw [← hwa, ← hp]; clear hwa hp; go_wp2_with fail) | (go_at_call 75; refine Calls.mono HG.out ?_; rintro e w1 ⟨rfl, g1⟩; have c0y : w1.cell? ⟨p, 0, none⟩ = some (.slice A n cap) := (HB.out.gr g1).cell 0; have c1y : w1.cell? ⟨p, 1, none⟩ = some (.int .i64 0) := (HB.out.gr g1).cell 1; have d20 : w1.cell? ⟨p + 1, 0, none⟩ = some (.slice none 0 0) := (HR2.out.gr g1).cell 0; have d21 : w1.cell? ⟨p + 1, 1, none⟩ = some (.int .i64 0) := (HR2.out.gr g1).cell 1; have f20 : w1.frozen? ⟨p + 1, 0, none⟩ = false := (HR2.out.gr g1).frozen 0; have f21 : w1.frozen? ⟨p + 1, 1, none⟩ = false := (HR2.out.gr g1).frozen 1))
      refine bodyPost_ret (results_blk_tmp rfl _ rfl (HW.out w1 g1) aggDisk) rfl ?_
      exact ⟨A, n, cap, rfl, HV.out w1 g1, HA.out, .inl ⟨rfl, rfl, rfl, rfl⟩⟩
    · have HGF := sec hgf
      clear hgf
      go_enter Tryz.func109, Tryz.ntmps109
      go_wp2_with (first | (rw [← hwa, ← hp]; clear hwa hp; go_upto_region 5 with fail) | (go_at_call 75; refine Calls.mono HG.out ?_; rintro e w1 ⟨rfl, g1⟩; have c0y : w1.cell? ⟨p, 0, none⟩ = some (.slice A n cap) := (HB.out.gr g1).cell 0; have c1y : w1.cell? ⟨p, 1, none⟩ = some (.int .i64 f) := (HB.out.gr g1).cell 1))
      have HC1 : Sec (∀ W, Gr wa W → W.cell? ⟨p, 1, none⟩ = some (.int .i64 f)) := sec (fun W g => (HB.out.gr g).cell 1)
      have HG1 := sec g1
      have c0y2 : (w1.alloc (.cells #[.slice none 0 0, .int .i64 0] 24)).cell? ⟨p, 0, none⟩ = some (.slice A n cap) := (HB.out.gr (g1.alloc _)).cell 0
      have c1y2 : (w1.alloc (.cells #[.slice none 0 0, .int .i64 0] 24)).cell? ⟨p, 1, none⟩ = some (.int .i64 f) := (HB.out.gr (g1.alloc _)).cell 1
      go_cut [6] from 8 to 35 (fun v6 wx => ∃ (q : Nat) (A' : Option Addr) (cap' : Nat), v6 = .pointer (some ⟨q, 0, none⟩) ∧ Sec (DOwn wx w1.heap.size q A' n cap' f fs) ∧ Gr w1 wx)
      case first =>
        go_region_with (first
          | (go_at_call 64; refine Calls.mono (clone_any fs A n cap w1.drew hn (HX.out.gr HG1.out.drew) HA.out) ?_; rintro e w2 ⟨A', cap', rfl, hown, g2⟩; have c1z : w2.cell? ⟨p, 1, none⟩ = some (.int .i64 f) := HC1.out w2 (HG1.out.drew.trans g2); have c1z2 : (w2.alloc (.cells #[.slice none 0 0, .int .i64 0] 24)).cell? ⟨p, 1, none⟩ = some (.int .i64 f) := HC1.out _ ((HG1.out.drew.trans g2).alloc _))
          | (go_at_call 64; refine Calls.mono (clone_any fs A n cap (w1.alloc (.cells #[.slice none 0 0, .int .i64 0] 24)).drew hn (HX.out.gr (HG1.out.alloc _).drew) HA.out) ?_; rintro e w2 ⟨A', cap', rfl, hown, g2⟩; have c1z : w2.cell? ⟨p, 1, none⟩ = some (.int .i64 f) := HC1.out w2 ((HG1.out.alloc _).drew.trans g2); have hq2 : Blk w2 w1.heap.size 24 #[.slice none 0 0, .int .i64 0] := (Blk.new w1 _ _).gr (Gr.trans (Gr.refl _).drew g2); have dq0 : w2.cell? ⟨w1.heap.size, 0, none⟩ = some (.slice none 0 0) := hq2.cell 0; have dq1 : w2.cell? ⟨w1.heap.size, 1, none⟩ = some (.int .i64 0) := hq2.cell 1; have fq0 : w2.frozen? ⟨w1.heap.size, 0, none⟩ = false := hq2.frozen 0; have fq1 : w2.frozen? ⟨w1.heap.size, 1, none⟩ = false := hq2.frozen 1))
        all_goals (go_wp2_with fail; go_meet; first | exact down_a hown g2 | exact down_b hown g2 hq2)
      case rest =>
        obtain ⟨q, A1, cap1, rfl, HD, gc⟩ := hcut
        have hpq : p + 1 < q := by have := (HR2.out.gr HG1.out).lt; have := HD.out.base; omega
        have dq0 : wc.cell? ⟨q, 0, none⟩ = some (.slice A1 n cap1) := HD.out.blk.cell 0
        have dq1 : wc.cell? ⟨q, 1, none⟩ = some (.int .i64 f) := HD.out.blk.cell 1
        have fq1 : wc.frozen? ⟨q, 1, none⟩ = false := HD.out.blk.frozen 1
        obtain ⟨⟨R, E⟩, hR⟩ : ∃ x, x = F fs := ⟨_, rfl⟩
        have HC : Sec (∀ W u, Gr w1 W ∧ DOwn W w1.heap.size q A1 n cap1 u fs → Calls Tryz.prog g (#[.pointer (some ⟨q, 0, none⟩)] ++ caps) W fun e w' => e = .returned (.int .i64 E) ∧ Gr w1 w' ∧ (E = 0 → ∃ A' n' cap', DOwn w' w1.heap.size q A' n' cap' u R)) := sec (fun W u d => by
          have := HFF.out w1 W q A1 n cap1 u fs (hg0.trans HG1.out) d.1 d.2 HGF.out
          rwa [← hR] at this)
        have HRR := sec hR
        clear hR
        by_cases hpos : 0 < f
        · have hwr : IntKind.i64.wrap (f - 1) = f - 1 := IntWalk.i64_in _ (by omega)
          have HPOS := sec hpos
          have HD2 : Sec (Gr w1 (wc.setCell ⟨q, 1, none⟩ (.int .i64 (f - 1))) ∧ DOwn (wc.setCell ⟨q, 1, none⟩ (.int .i64 (f - 1))) w1.heap.size q A1 n cap1 (f - 1) fs) := sec ⟨gc.setCell (p := ⟨q, 1, none⟩) HD.out.base _, HD.out.blk.set_ 1 _, ownsRow_setCell_other HD.out.own (a := ⟨q, 1, none⟩) HD.out.ne _, HD.out.base⟩
          by_cases hE : E = 0
          · subst hE
            have HS : Sec (stepR F fs f = (R, (f - 1), 0)) := sec (by unfold stepR; rw [HGF.out, if_pos rfl, if_neg hf0, ← HRR.out, if_pos rfl]; simp [HPOS.out])
            go_wp2_with (refine Calls.mono (HC.out _ (f - 1) HD2.out) ?_; rintro e w3 ⟨rfl, g3, h3⟩; obtain ⟨A3, n3, cap3, hd3⟩ := h3 rfl; have hb30 : w3.cell? ⟨q, 0, none⟩ = some (.slice A3 n3 cap3) := hd3.blk.cell 0; have hb31 : w3.cell? ⟨q, 1, none⟩ = some (.int .i64 ((f - 1))) := hd3.blk.cell 1; have c0y3 : w3.cell? ⟨p, 0, none⟩ = some (.slice A n cap) := (HB.out.gr (HG1.out.trans g3)).cell 0; have c1y3 : w3.cell? ⟨p, 1, none⟩ = some (.int .i64 f) := (HB.out.gr (HG1.out.trans g3)).cell 1; have d20 : w3.cell? ⟨p + 1, 0, none⟩ = some (.slice none 0 0) := (HR2.out.gr (HG1.out.trans g3)).cell 0; have d21 : w3.cell? ⟨p + 1, 1, none⟩ = some (.int .i64 0) := (HR2.out.gr (HG1.out.trans g3)).cell 1; have f20 : w3.frozen? ⟨p + 1, 0, none⟩ = false := (HR2.out.gr (HG1.out.trans g3)).frozen 0; have f21 : w3.frozen? ⟨p + 1, 1, none⟩ = false := (HR2.out.gr (HG1.out.trans g3)).frozen 1)
            have hbb := (HR2.out.gr (HG1.out.trans g3))
            have hne := own_blk_ne hd3.own hbb (by decide)
            refine bodyPost_ret (results_blk_tmp rfl _ rfl ((hbb.set_ 0 (.slice A3 n3 cap3)).set_ 1 (.int .i64 ((f - 1)))) aggDisk) rfl ?_
            rw [HS.out]
            exact ⟨A3, n3, cap3, rfl, ((hg0.trans (HG1.out.trans g3)).setCell (p := ⟨p + 1, 0, none⟩) (by show w.heap.size ≤ p + 1; omega) _).setCell (p := ⟨p + 1, 1, none⟩) (by show w.heap.size ≤ p + 1; omega) _, own_none hd3.own, .inr (own_low (ownsRow_setCell_other (ownsRow_setCell_other hd3.own (a := ⟨p + 1, 0, none⟩) hne _) (a := ⟨p + 1, 1, none⟩) hne _) (hg0.trans HG1.out).size)⟩
          · have HS : Sec (stepR F fs f = (fs, f, E)) := sec (by unfold stepR; rw [HGF.out, if_pos rfl, if_neg hf0, ← HRR.out, if_neg hE])
            go_wp2_with (refine Calls.mono (HC.out _ (f - 1) HD2.out) ?_; rintro e w3 ⟨rfl, g3, _⟩; have c0y3 : w3.cell? ⟨p, 0, none⟩ = some (.slice A n cap) := (HB.out.gr (HG1.out.trans g3)).cell 0; have c1y3 : w3.cell? ⟨p, 1, none⟩ = some (.int .i64 f) := (HB.out.gr (HG1.out.trans g3)).cell 1; have d20 : w3.cell? ⟨p + 1, 0, none⟩ = some (.slice none 0 0) := (HR2.out.gr (HG1.out.trans g3)).cell 0; have d21 : w3.cell? ⟨p + 1, 1, none⟩ = some (.int .i64 0) := (HR2.out.gr (HG1.out.trans g3)).cell 1; have f20 : w3.frozen? ⟨p + 1, 0, none⟩ = false := (HR2.out.gr (HG1.out.trans g3)).frozen 0; have f21 : w3.frozen? ⟨p + 1, 1, none⟩ = false := (HR2.out.gr (HG1.out.trans g3)).frozen 1)
            refine bodyPost_ret (results_blk_tmp rfl _ rfl (HW.out w3 (HG1.out.trans g3)) aggDisk) rfl ?_
            rw [HS.out]
            exact ⟨A, n, cap, rfl, HV.out w3 (HG1.out.trans g3), HA.out, .inl ⟨rfl, rfl, rfl, rfl⟩⟩
        · have HPOS := sec hpos
          have HD2 : Sec (Gr w1 wc ∧ DOwn wc w1.heap.size q A1 n cap1 f fs) := sec ⟨gc, HD.out⟩
          by_cases hE : E = 0
          · subst hE
            have HS : Sec (stepR F fs f = (R, f, 0)) := sec (by unfold stepR; rw [HGF.out, if_pos rfl, if_neg hf0, ← HRR.out, if_pos rfl]; simp [HPOS.out])
            go_wp2_with (refine Calls.mono (HC.out _ f HD2.out) ?_; rintro e w3 ⟨rfl, g3, h3⟩; obtain ⟨A3, n3, cap3, hd3⟩ := h3 rfl; have hb30 : w3.cell? ⟨q, 0, none⟩ = some (.slice A3 n3 cap3) := hd3.blk.cell 0; have hb31 : w3.cell? ⟨q, 1, none⟩ = some (.int .i64 (f)) := hd3.blk.cell 1; have c0y3 : w3.cell? ⟨p, 0, none⟩ = some (.slice A n cap) := (HB.out.gr (HG1.out.trans g3)).cell 0; have c1y3 : w3.cell? ⟨p, 1, none⟩ = some (.int .i64 f) := (HB.out.gr (HG1.out.trans g3)).cell 1; have d20 : w3.cell? ⟨p + 1, 0, none⟩ = some (.slice none 0 0) := (HR2.out.gr (HG1.out.trans g3)).cell 0; have d21 : w3.cell? ⟨p + 1, 1, none⟩ = some (.int .i64 0) := (HR2.out.gr (HG1.out.trans g3)).cell 1; have f20 : w3.frozen? ⟨p + 1, 0, none⟩ = false := (HR2.out.gr (HG1.out.trans g3)).frozen 0; have f21 : w3.frozen? ⟨p + 1, 1, none⟩ = false := (HR2.out.gr (HG1.out.trans g3)).frozen 1)
            have hbb := (HR2.out.gr (HG1.out.trans g3))
            have hne := own_blk_ne hd3.own hbb (by decide)
            refine bodyPost_ret (results_blk_tmp rfl _ rfl ((hbb.set_ 0 (.slice A3 n3 cap3)).set_ 1 (.int .i64 (f))) aggDisk) rfl ?_
            rw [HS.out]
            exact ⟨A3, n3, cap3, rfl, ((hg0.trans (HG1.out.trans g3)).setCell (p := ⟨p + 1, 0, none⟩) (by show w.heap.size ≤ p + 1; omega) _).setCell (p := ⟨p + 1, 1, none⟩) (by show w.heap.size ≤ p + 1; omega) _, own_none hd3.own, .inr (own_low (ownsRow_setCell_other (ownsRow_setCell_other hd3.own (a := ⟨p + 1, 0, none⟩) hne _) (a := ⟨p + 1, 1, none⟩) hne _) (hg0.trans HG1.out).size)⟩
          · have HS : Sec (stepR F fs f = (fs, f, E)) := sec (by unfold stepR; rw [HGF.out, if_pos rfl, if_neg hf0, ← HRR.out, if_neg hE])
            go_wp2_with (refine Calls.mono (HC.out _ f HD2.out) ?_; rintro e w3 ⟨rfl, g3, _⟩; have c0y3 : w3.cell? ⟨p, 0, none⟩ = some (.slice A n cap) := (HB.out.gr (HG1.out.trans g3)).cell 0; have c1y3 : w3.cell? ⟨p, 1, none⟩ = some (.int .i64 f) := (HB.out.gr (HG1.out.trans g3)).cell 1; have d20 : w3.cell? ⟨p + 1, 0, none⟩ = some (.slice none 0 0) := (HR2.out.gr (HG1.out.trans g3)).cell 0; have d21 : w3.cell? ⟨p + 1, 1, none⟩ = some (.int .i64 0) := (HR2.out.gr (HG1.out.trans g3)).cell 1; have f20 : w3.frozen? ⟨p + 1, 0, none⟩ = false := (HR2.out.gr (HG1.out.trans g3)).frozen 0; have f21 : w3.frozen? ⟨p + 1, 1, none⟩ = false := (HR2.out.gr (HG1.out.trans g3)).frozen 1)
            refine bodyPost_ret (results_blk_tmp rfl _ rfl (HW.out w3 (HG1.out.trans g3)) aggDisk) rfl ?_
            rw [HS.out]
            exact ⟨A, n, cap, rfl, HV.out w3 (HG1.out.trans g3), HA.out, .inl ⟨rfl, rfl, rfl, rfl⟩⟩
end Go.Proofs.YtoamnifnfkgbiaaGreatDoor

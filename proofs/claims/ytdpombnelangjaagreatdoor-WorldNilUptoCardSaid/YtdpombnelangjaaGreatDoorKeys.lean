/-
  world.Keys by its contract.
-/
import Derived.Test.YtdpombnelangjaaGreatDoorRKeys
import Derived.Test.YtdpombnelangjaaGreatDoorSumS
import Derived.Test.YtdpombnelangjaaGreatDoorDiskA
import Derived.Deep.RegionLaw
namespace Go.Proofs.YtdpombnelangjaaGreatDoor
set_option maxRecDepth 100000
open Go.RowKit
set_option linter.unusedVariables false

/-- keys under construction -/
structure KSt (w : World) (p bt : Nat) (A : Option Addr) (n c : Nat) (S : List (List UInt8)) (B : Option Addr) (m d : Nat) (T : List (List UInt8)) (wr : World) : Prop where
  blk : Blk wr (p + 1) 53 #[.slice A n c, .slice B m d, .int .i64 2]
  res : Blk wr p 53 #[.slice none 0 0, .slice none 0 0, .int .i64 0]
  s : wr.ownsRow (p + 2) 9 1 (.slice A n c) n (S.map strV)
  t : wr.ownsRow bt 9 1 (.slice B m d) m (T.map strV)
  hb : p + 2 ≤ bt
  gr : Gr w wr
theorem KSt.gr' {w wr wx : World} {p bt n c m d : Nat} {A B : Option Addr} {S T : List (List UInt8)} (h : KSt w p bt A n c S B m d T wr) (g : Gr wr wx) : KSt w p bt A n c S B m d T wx :=
  ⟨h.blk.gr g, h.res.gr g, own_gr h.s g, own_gr h.t g, h.hb, h.gr.trans g⟩
theorem dig_wrap : ∀ i : Nat, i < 4 → IntKind.u8.wrap (IntKind.i64.wrap (48 + (i : Int))) = ((UInt8.ofNat (48 + i)).toNat : Int) := by
  intro i h
  have : i = 0 ∨ i = 1 ∨ i = 2 ∨ i = 3 := by omega
  rcases this with rfl | rfl | rfl | rfl <;> decide
theorem KSt.app1 {w wr wx : World} {p bt n c m d : Nat} {A B : Option Addr} {S T : List (List UInt8)} (h : KSt w p bt A n c S B m d T wr) (g : wr.grownBy wx (Value.slice A n c).ownBlock) (hT : ∀ k, (Value.slice B m d).ownBlock = some k → (Value.slice A n c).ownBlock ≠ some k) (hw : w.heap.size ≤ p + 2) :
    Blk wx (p + 1) 53 #[.slice A n c, .slice B m d, .int .i64 2] ∧ Blk wx p 53 #[.slice none 0 0, .slice none 0 0, .int .i64 0] ∧ wx.ownsRow bt 9 1 (.slice B m d) m (T.map strV) ∧ Gr w wx :=
  ⟨h.blk.grown g (fun e => by have := (h.s.lt _ e.symm).1; omega), h.res.grown g (fun e => by have := (h.s.lt _ e.symm).1; omega),
   own_mod (M := fun k => (Value.slice A n c).ownBlock = some k) h.t (Mod.grown g (fun k e => e)) (fun k e e' => hT k e e'), h.gr.grown g (fun k e => by have := (h.s.lt _ e).1; omega)⟩
theorem KSt.app2 {w wr wx : World} {p bt n c m d : Nat} {A B : Option Addr} {S T : List (List UInt8)} (h : KSt w p bt A n c S B m d T wr) (g : wr.grownBy wx (Value.slice B m d).ownBlock) (hT : ∀ k, (Value.slice B m d).ownBlock = some k → (Value.slice A n c).ownBlock ≠ some k) (hw : w.heap.size ≤ p + 2) :
    Blk wx (p + 1) 53 #[.slice A n c, .slice B m d, .int .i64 2] ∧ Blk wx p 53 #[.slice none 0 0, .slice none 0 0, .int .i64 0] ∧ wx.ownsRow (p + 2) 9 1 (.slice A n c) n (S.map strV) ∧ Gr w wx :=
  ⟨h.blk.grown g (fun e => by have := (h.t.lt _ e.symm).1; have := h.hb; omega), h.res.grown g (fun e => by have := (h.t.lt _ e.symm).1; have := h.hb; omega),
   own_mod (M := fun k => (Value.slice B m d).ownBlock = some k) h.s (Mod.grown g (fun k e => e)) (fun k e e' => hT k e' e), h.gr.grown g (fun k e => by have := (h.t.lt _ e).1; have := h.hb; omega)⟩
theorem kst_set2 {w wx : World} {p bt i c m d c2 : Nat} {A A2 B : Option Addr} {S T : List (List UInt8)} {X : List UInt8} {T' : List (List UInt8)} (hT : T' = T ++ [X]) (b : Blk wx (p + 1) 53 #[.slice A m c, .slice B i d, .int .i64 2]) (r : Blk wx p 53 #[.slice none 0 0, .slice none 0 0, .int .i64 0])
    (o : wx.ownsRow bt 9 1 (.slice A2 (i + 1) c2) (i + 1) (T.map strV ++ [.string (bs X)])) (t : wx.ownsRow (p + 2) 9 1 (.slice A m c) m (S.map strV)) (hbt : p + 2 ≤ bt) (g : Gr w wx) (hp : w.heap.size ≤ p) : KSt w p bt A m c S A2 (i + 1) c2 T' (wx.setCell ⟨p + 1, 1, none⟩ (.slice A2 (i + 1) c2)) :=
  ⟨b.set_ 1 _, r.far (p := ⟨p + 1, 1, none⟩) (by show p ≠ p + 1; omega) _, ownsRow_setCell_other t (a := ⟨p + 1, 1, none⟩) (fun e => by have h1 : p + 2 ≤ p + 1 := (t.lt _ e).1; omega) _, by
    rw [hT, List.map_append]
    exact ownsRow_setCell_other o (a := ⟨p + 1, 1, none⟩) (fun e => by have h1 : bt ≤ p + 1 := (o.lt _ e).1; omega) _, hbt, g.setCell (p := ⟨p + 1, 1, none⟩) (by show w.heap.size ≤ p + 1; omega) _⟩
theorem conv_oneD {w : World} (x : UInt8) : (convert 105 9 (.slice (some ⟨w.heap.size, 0, none⟩) 1 1)).run Tryz.prog ((w.alloc (.cells #[.int .u8 (x.toNat : Int)] 5)).drew) = .ok (.string (bs [x])) ((w.alloc (.cells #[.int .u8 (x.toNat : Int)] 5)).drew) := by
  refine run_conv_own (B := w.heap.size) Tryz.underlying105 Tryz.underlying5 Tryz.underlying9 (l := [x]) ?_
  refine ⟨rfl, .inr ⟨w.heap.size, 1, #[.int .u8 (x.toNat : Int)], rfl, Nat.le_refl _, heap_alloc_new w _, Nat.le_refl _, by decide, rfl, rfl⟩⟩
theorem kst_set1 {w wx : World} {p bt i c m d c2 : Nat} {A A2 B : Option Addr} {S T : List (List UInt8)} {X : List UInt8} {S' : List (List UInt8)} (hS : S' = S ++ [X]) (b : Blk wx (p + 1) 53 #[.slice A i c, .slice B m d, .int .i64 2]) (r : Blk wx p 53 #[.slice none 0 0, .slice none 0 0, .int .i64 0])
    (o : wx.ownsRow (p + 2) 9 1 (.slice A2 (i + 1) c2) (i + 1) (S.map strV ++ [.string (bs X)])) (t : wx.ownsRow bt 9 1 (.slice B m d) m (T.map strV)) (hbt : p + 2 ≤ bt) (g : Gr w wx) (hp : w.heap.size ≤ p) : KSt w p bt A2 (i + 1) c2 S' B m d T (wx.setCell ⟨p + 1, 0, none⟩ (.slice A2 (i + 1) c2)) :=
  ⟨b.set_ 0 _, r.far (p := ⟨p + 1, 0, none⟩) (by show p ≠ p + 1; omega) _, by
    rw [hS, List.map_append]
    exact ownsRow_setCell_other o (a := ⟨p + 1, 0, none⟩) (fun e => by have h1 : p + 2 ≤ p + 1 := (o.lt _ e).1; omega) _, ownsRow_setCell_other t (a := ⟨p + 1, 0, none⟩) (fun e => by have h1 : bt ≤ p + 1 := (t.lt _ e).1; omega) _, hbt, g.setCell (p := ⟨p + 1, 0, none⟩) (by show w.heap.size ≤ p + 1; omega) _⟩
set_option maxHeartbeats 8000000 in
theorem keys_w (w : World) (hT : TabK w) :
    Calls Tryz.prog 20 #[] w fun e w' => ∃ A c B d, e = .returned (.agg #[.slice A 3 c, .slice B 4 d, .int .i64 2]) ∧ (w'.ownsRow w.heap.size 9 1 (.slice A 3 c) 3 (sgnK.map strV) ∧ w'.ownsRow w.heap.size 9 1 (.slice B 4 d) 4 (witK.map strV)) ∧ Gr w w' := by
  have HS : Sec (∀ (l : List UInt8) W, Gr w W → l.length ≤ 100 → Calls Tryz.prog 44 #[.string (bs l)] W fun e w' => e = .returned (.string (bs (sha l))) ∧ Gr W w') := sec (fun l W g hl => sum_any l W (hT.gr g) (by omega))
  obtain ⟨wa, hwa⟩ : ∃ x, x = w.alloc (.cells #[.slice none 0 0, .slice none 0 0, .int .i64 0] 53) := ⟨_, rfl⟩
  have hb : Blk wa w.heap.size 53 #[.slice none 0 0, .slice none 0 0, .int .i64 0] := by rw [hwa]; exact Blk.new w _ _
  have g0 : Gr w wa := by rw [hwa]; exact (Gr.refl w).alloc _
  have hsz : wa.heap.size = w.heap.size + 1 := by rw [hwa]; simp
  obtain ⟨p, hp⟩ : ∃ p, p = w.heap.size := ⟨_, rfl⟩
  rw [← hp] at hb hsz
  have HP := sec (show w.heap.size ≤ p by omega)
  have HK0 : Sec (KSt w p (p + 2) none 0 0 [] none 0 0 [] (wa.alloc (.cells #[.slice none 0 0, .slice none 0 0, .int .i64 2] 53))) := sec ⟨by rw [← hsz]; exact Blk.new wa _ _, hb.alloc _, World.ownsRow_nil _ _ _ _, World.ownsRow_nil _ _ _ _, Nat.le_refl _, g0.alloc _⟩
  clear hb hT
  have HSZ := sec hsz
  go_enter Tryz.func20, Tryz.ntmps20
  go_upto_region 1 with fail
  rw [← hwa, ← hp]
  clear hwa hp g0
  go_wp2_with fail
  clear hsz
  obtain ⟨wb, hwb⟩ : ∃ x, x = wa.alloc (.cells #[.slice none 0 0, .slice none 0 0, .int .i64 2] 53) := ⟨_, rfl⟩
  rw [← hwb] at HK0 ⊢
  clear hwb
  go_loopg [5, 2] 3 (fun fuel iv _ wr => ∃ (i : Nat) (A : Option Addr) (c : Nat), iv = .int .i64 (i : Int) ∧ 3 ≤ i + fuel ∧ i ≤ 3 ∧ Sec (KSt w p (p + 2) A i c (sgnK.take i) none 0 0 [] wr))
  case atStart => exact ⟨0, none, 0, rfl, by omega, by omega, HK0⟩
  case round =>
    clear HK0
    obtain ⟨i, A, c, rfl, hfu, hi, HK⟩ := hrel
    by_cases hlt : i < 3
    · have hii : (i : Int) < 3 := by omega
      have hdw := dig_wrap i (by omega)
      obtain ⟨X, hX⟩ : ∃ X, X = sha (signerN i) := ⟨_, rfl⟩
      obtain ⟨x8, hx8⟩ : ∃ x, x = UInt8.ofNat (48 + i) := ⟨_, rfl⟩
      have HXX := sec hX
      have HTK : Sec (sgnK.take (i + 1) = sgnK.take i ++ [X]) := sec (by
        rw [hX]
        have : i = 0 ∨ i = 1 ∨ i = 2 := by omega
        rcases this with rfl | rfl | rfl <;> rfl)
      have HS1 : Sec (∀ W, Gr w W → Calls Tryz.prog 44 #[.string (bs [115, 105, 103, 110, 101, 114, x8])] W fun e w' => e = .returned (.string (bs X)) ∧ Gr W w') := sec (fun W g => by rw [hX, hx8]; exact HS.out (signerN i) W g (by show 1 + 1 + 1 + 1 + 1 + 1 + 1 ≤ 100; omega))
      have hcv : (convert 105 9 (.slice (some ⟨wr.heap.size, 0, none⟩) 1 1)).run Tryz.prog ((wr.alloc (.cells #[.int .u8 (IntKind.u8.wrap (IntKind.i64.wrap (48 + (i : Int))))] 5)).drew) = .ok (.string (bs [x8])) ((wr.alloc (.cells #[.int .u8 (IntKind.u8.wrap (IntKind.i64.wrap (48 + (i : Int))))] 5)).drew) := by
        rw [hdw, ← hx8]; exact conv_oneD x8
      have KA : KSt w p (p + 2) A i c (sgnK.take i) none 0 0 [] ((wr.alloc (.cells #[.int .u8 (IntKind.u8.wrap (IntKind.i64.wrap (48 + (i : Int))))] 5)).drew) := HK.out.gr' ((Gr.refl wr).alloc _).drew
      have a0 : wr.cell? ⟨p + 1, 0, none⟩ = some (.slice A i c) := HK.out.blk.cell 0
      have a0d : wr.drew.cell? ⟨p + 1, 0, none⟩ = some (.slice A i c) := a0
      have a1 : ((wr.alloc (.cells #[.int .u8 (IntKind.u8.wrap (IntKind.i64.wrap (48 + (i : Int))))] 5)).drew).cell? ⟨p + 1, 0, none⟩ = some (.slice A i c) := KA.blk.cell 0
      have hb16 : (i + 1) * 16 ≤ 140737488355328 := by omega
      have hbm : i + 1 ≤ maxLen := by unfold maxLen; omega
      have HLT := sec hlt
      clear hX hx8 hdw hlt
      go_upto_region 5 with fail
      go_region_law (first
        | (go_simp; go_at_call 44; (with_reducible refine Calls.mono (HS1.out _ KA.gr) ?_); rintro e w1 ⟨rfl, g1⟩; have K1 := KA.gr' g1; have a2 : w1.cell? ⟨p + 1, 0, none⟩ = some (.slice A i c) := K1.blk.cell 0; have K2 := K1.gr' ((Gr.refl w1).alloc (.cells #[.string (bs X)] 9)); have a3 : (w1.alloc (.cells #[.string (bs X)] 9)).cell? ⟨p + 1, 0, none⟩ = some (.slice A i c) := K2.blk.cell 0)
        | (refine step_append_row (B := p + 2) (A0 := A) (n0 := i) (cap0 := c) (xs := (sgnK.take i).map strV) (A := some ⟨w1.heap.size, 0, none⟩) (n := 1) (c := 1) (vs := [.string (bs X)]) E.str rfl (.tmp 9) (.tmp 17) rfl ?hd ?ho ?hx (row1F (T := 9) ?hr) (fun h => by cases h) (fun u hu => by simp at hu; subst hu; rfl) hb16 hbm ?hB ?_; (case hd => first | (simp [Act.eval]; done) | (simp [Act.eval, Act.put]; done)); (case hx => first | (simp [Act.eval]; done) | (simp [Act.eval, Act.put]; done)); (case ho => exact K2.s); (case hr => exact Blk.new _ _ _); (case hB => exact K2.blk.lt); intro A2 c2 w2 o2 h2; obtain ⟨b2, r2, t2, g2⟩ := K2.app1 h2 (fun k e => by cases e) (by have := HP.out; omega); have f2 : w2.frozen? ⟨p + 1, 0, none⟩ = false := b2.frozen 0; have a4 : w2.cell? ⟨p + 1, 0, none⟩ = some (.slice A i c) := b2.cell 0)
        | fail)
      all_goals
        go_wp2_with fail
        go_roundg (gk - 1)
        case rel => exact ⟨i + 1, A2, c2, by go_num, by omega, HLT.out, sec (kst_set1 HTK.out b2 r2 o2 t2 K2.hb g2 HP.out)⟩
        case measure => omega
    · have q1 : decide (i < 3) = false := decide_eq_false hlt
      obtain rfl : i = 3 := by omega
      clear hlt hi hfu
      go_wp2_with fail
      obtain ⟨bt, hbt⟩ : ∃ x, x = wr.heap.size := ⟨_, rfl⟩
      have HLOW : Sec (∀ k, (Value.slice A 3 c).ownBlock = some k → k < bt) := sec (fun k e => by rw [hbt]; exact (HK.out.s.lt k e).2)
      have HK1 : Sec (KSt w p bt A 3 c sgnK none 0 0 [] wr) := sec ⟨HK.out.blk, HK.out.res, HK.out.s, World.ownsRow_nil _ _ _ _, by rw [hbt]; exact HK.out.blk.lt, HK.out.gr⟩
      have HBT : Sec (bt ≤ wr.heap.size) := sec (by omega)
      go_loopg [21, 3] 4 (fun fuel iv _ wr => ∃ (i : Nat) (B : Option Addr) (d : Nat), iv = .int .i64 (i : Int) ∧ 4 ≤ i + fuel ∧ i ≤ 4 ∧ Sec (bt ≤ wr.heap.size) ∧ Sec (KSt w p bt A 3 c sgnK B i d (witK.take i) wr))
      case atStart => exact ⟨0, none, 0, rfl, by omega, by omega, HBT, HK1⟩
      case round =>
        clear HK HK1 hbt HBT
        obtain ⟨i, B, d, rfl, hfu, hi, HD, HK⟩ := hrel
        by_cases hlt : i < 4
        · have hii : (i : Int) < 4 := by omega
          have hdw := dig_wrap i (by omega)
          obtain ⟨X, hX⟩ : ∃ X, X = sha (witnessN i) := ⟨_, rfl⟩
          obtain ⟨x8, hx8⟩ : ∃ x, x = UInt8.ofNat (48 + i) := ⟨_, rfl⟩
          have HXX := sec hX
          have HTK : Sec (witK.take (i + 1) = witK.take i ++ [X]) := sec (by
            rw [hX]
            have : i = 0 ∨ i = 1 ∨ i = 2 ∨ i = 3 := by omega
            rcases this with rfl | rfl | rfl | rfl <;> rfl)
          have HS1 : Sec (∀ W, Gr w W → Calls Tryz.prog 44 #[.string (bs [119, 105, 116, 110, 101, 115, 115, x8])] W fun e w' => e = .returned (.string (bs X)) ∧ Gr W w') := sec (fun W g => by rw [hX, hx8]; exact HS.out (witnessN i) W g (by show 1 + 1 + 1 + 1 + 1 + 1 + 1 + 1 ≤ 100; omega))
          have hcv : (convert 105 9 (.slice (some ⟨wr.heap.size, 0, none⟩) 1 1)).run Tryz.prog ((wr.alloc (.cells #[.int .u8 (IntKind.u8.wrap (IntKind.i64.wrap (48 + (i : Int))))] 5)).drew) = .ok (.string (bs [x8])) ((wr.alloc (.cells #[.int .u8 (IntKind.u8.wrap (IntKind.i64.wrap (48 + (i : Int))))] 5)).drew) := by
            rw [hdw, ← hx8]; exact conv_oneD x8
          have KA : KSt w p bt A 3 c sgnK B i d (witK.take i) ((wr.alloc (.cells #[.int .u8 (IntKind.u8.wrap (IntKind.i64.wrap (48 + (i : Int))))] 5)).drew) := HK.out.gr' ((Gr.refl wr).alloc _).drew
          have a0 : wr.cell? ⟨p + 1, 1, none⟩ = some (.slice B i d) := HK.out.blk.cell 1
          have a0d : wr.drew.cell? ⟨p + 1, 1, none⟩ = some (.slice B i d) := a0
          have a1 : ((wr.alloc (.cells #[.int .u8 (IntKind.u8.wrap (IntKind.i64.wrap (48 + (i : Int))))] 5)).drew).cell? ⟨p + 1, 1, none⟩ = some (.slice B i d) := KA.blk.cell 1
          have HGW : Sec (∀ w1, Gr ((wr.alloc (.cells #[.int .u8 (IntKind.u8.wrap (IntKind.i64.wrap (48 + (i : Int))))] 5)).drew) w1 → wr.heap.size ≤ (w1.alloc (.cells #[.string (bs X)] 9)).heap.size) := sec (fun w1 g => Nat.le_trans (Gr.size (((Gr.refl wr).alloc _).drew.trans g)) (Gr.size ((Gr.refl w1).alloc _)))
          have hb16 : (i + 1) * 16 ≤ 140737488355328 := by omega
          have hbm : i + 1 ≤ maxLen := by unfold maxLen; omega
          have HLT := sec hlt
          clear hX hx8 hdw hlt
          go_upto_region 10 with fail
          go_region_law (first
            | (go_simp; go_at_call 44; (with_reducible refine Calls.mono (HS1.out _ KA.gr) ?_); rintro e w1 ⟨rfl, g1⟩; have K1 := KA.gr' g1; have a2 : w1.cell? ⟨p + 1, 1, none⟩ = some (.slice B i d) := K1.blk.cell 1; have K2 := K1.gr' ((Gr.refl w1).alloc (.cells #[.string (bs X)] 9)); have a3 : (w1.alloc (.cells #[.string (bs X)] 9)).cell? ⟨p + 1, 1, none⟩ = some (.slice B i d) := K2.blk.cell 1)
            | (refine step_append_row (B := bt) (A0 := B) (n0 := i) (cap0 := d) (xs := (witK.take i).map strV) (A := some ⟨w1.heap.size, 0, none⟩) (n := 1) (c := 1) (vs := [.string (bs X)]) E.str rfl (.tmp 25) (.tmp 33) rfl ?hd ?ho ?hx (row1F (T := 9) ?hr) (fun h => by cases h) (fun u hu => by simp at hu; subst hu; rfl) hb16 hbm ?hB ?_; (case hd => first | (simp [Act.eval]; done) | (simp [Act.eval, Act.put]; done)); (case hx => first | (simp [Act.eval]; done) | (simp [Act.eval, Act.put]; done)); (case ho => exact K2.t); (case hr => exact Blk.new _ _ _); (case hB => exact Nat.le_trans HD.out (HGW.out _ g1)); intro A2 c2 w2 o2 h2; obtain ⟨b2, r2, t2, g2⟩ := K2.app2 h2 (fun k e e' => by have h1 := (K2.t.lt k e).1; have h2 := HLOW.out k e'; omega) (by have := HP.out; omega); have f2 : w2.frozen? ⟨p + 1, 1, none⟩ = false := b2.frozen 1; have a4 : w2.cell? ⟨p + 1, 1, none⟩ = some (.slice B i d) := b2.cell 1)
            | fail)
          all_goals
            go_wp2_with fail
            go_roundg (gk - 1)
            case rel => exact ⟨i + 1, A2, c2, by go_num, by omega, HLT.out, sec (by have h1 := Nat.le_trans HD.out (HGW.out _ g1); have h3 := h2.size; simp only [World.setCell, Array.size_modify]; omega), sec (kst_set2 HTK.out b2 r2 o2 t2 K2.hb g2 HP.out)⟩
            case measure => omega
        · have q1 : decide (i < 4) = false := decide_eq_false hlt
          obtain rfl : i = 4 := by omega
          clear hlt hi hfu
          have hbk := HK.out.blk
          have hrs := HK.out.res
          go_wp2_with (first
            | (refine wpList_load_blk rfl 53 (.tmp 1) rfl (g := p + 1) rfl hbk aggKeysW ?_)
            | (refine wpList_store_blk rfl 53 (.tmp 0) (.tmp 37) rfl (g := p) (cs' := #[.slice A 3 c, .slice B 4 d, .int .i64 2]) rfl rfl hrs aggKeysW rfl (keysA_one _ _ _ _ _ _ _) ?_; intro w9 h9 hg9))
          refine bodyPost_ret (results_blk rfl _ rfl h9 aggKeysW) rfl ?_
          have e1 : witK.take 4 = witK := rfl
          have o1 := own_lowF (own_only HK.out.s hrs (by decide) hg9) (show w.heap.size ≤ p + 2 by have := HP.out; omega)
          have o2 := own_lowF (own_only HK.out.t hrs (by decide) hg9) (show w.heap.size ≤ bt by have := HP.out; have := HK.out.hb; omega)
          exact ⟨A, c, B, d, rfl, ⟨o1, o2⟩, Gr.only HK.out.gr hg9 HP.out⟩
end Go.Proofs.YtdpombnelangjaaGreatDoor

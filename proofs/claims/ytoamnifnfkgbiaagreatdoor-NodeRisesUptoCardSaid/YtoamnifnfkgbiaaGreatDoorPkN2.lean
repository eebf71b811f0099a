/-
  PkN2: contracts and plain laws joined (30 texts). No conditions but those that each states.
-/
import Derived.Test.YtoamnifnfkgbiaaGreatDoorElems
import Derived.Test.YtoamnifnfkgbiaaGreatDoorStepL
import Derived.Test.YtoamnifnfkgbiaaGreatDoorDiskA
import Derived.Test.YtoamnifnfkgbiaaGreatDoorPkN3
import Derived.Test.YtoamnifnfkgbiaaGreatDoorWrtC
import Derived.Laws.AppendOwnNone
import Derived.Deep.RegionHeld3
import Derived.Deep.AppendLies
import Derived.Test.YtoamnifnfkgbiaaGreatDoorRefNL
import Derived.Test.YtoamnifnfkgbiaaGreatDoorDiskL
import Derived.Test.YtoamnifnfkgbiaaGreatDoorBRow
import Derived.Test.YtoamnifnfkgbiaaGreatDoorRefN
import Derived.Test.YtoamnifnfkgbiaaGreatDoorHeadStill
import Derived.Test.YtoamnifnfkgbiaaGreatDoorDiskDel
import Derived.Test.YtoamnifnfkgbiaaGreatDoorDiskCrash
import Derived.Deep.CutBlock
namespace Go.Proofs.YtoamnifnfkgbiaaGreatDoor
open Go.RowKit
set_option maxRecDepth 100000 in
set_option maxHeartbeats 1000000 in
theorem sameStrings_any (A A' : Option Addr) (n n' c c' : Nat) (xs ys : List (List UInt8)) (w : World) (hx : StrRow w A n xs) (hy : StrRow w A' n' ys) (hn : n ≤ 140737488355328) (hn' : n' ≤ 140737488355328) :
    Calls Tryz.prog 16 #[.slice A n c, .slice A' n' c'] w fun e w' => e = .returned (.bool (decide (xs = ys))) ∧ Gr w w' := by
  have hlx := hx.len
  have hly := hy.len
  subst hlx hly
  by_cases hne : xs.length = ys.length
  · have hb1 : ((xs.length : Int) != (ys.length : Int)) = false := by simp [hne]
    have HN := sec hne
    clear hne
    go_enter Tryz.func16, Tryz.ntmps16
    go_wp2_with fail
    go_loopw [5, 13] (fun _ iv wr => ∃ i : Nat, iv = .int .i64 i ∧ i ≤ xs.length ∧ Sec (xs.take i = ys.take i) ∧ Gr w wr)
      (fun _ iv _ => xs.length - (intOf iv).toNat)
    case atStart => exact ⟨0, rfl, by omega, ⟨by simp⟩, Gr.refl _⟩
    case round =>
      obtain ⟨i, rfl, hi, he, hg⟩ := hrel
      by_cases hlt : i < xs.length
      · have hlty : i < ys.length := by have := HN.out; omega
        obtain ⟨b, off, rfl, hc⟩ := (hx.gr hg).cell hlt
        obtain ⟨b', off', rfl, hc'⟩ := (hy.gr hg).cell hlty
        obtain ⟨x, hxe⟩ : ∃ x, x = xs[i] := ⟨_, rfl⟩
        obtain ⟨y, hye⟩ : ∃ y, y = ys[i] := ⟨_, rfl⟩
        rw [← hxe] at hc
        rw [← hye] at hc'
        have HX := sec hxe
        have HY := sec hye
        clear hxe hye
        have q1 : (i : Int) < (xs.length : Int) := by omega
        have q2 : (i : Int) < (ys.length : Int) := by omega
        by_cases hxy : x = y
        · subst hxy
          go_wp2
          go_quiet (fail)
          go_wp2
          go_roundw
          case rel =>
            refine ⟨i + 1, by go_num, by omega, ⟨?_⟩, hg.drewN _⟩
            rw [List.take_succ_eq_append_getElem hlt, List.take_succ_eq_append_getElem hlty, he.out, ← HX.out, ← HY.out]
          case measure => simp [intOf]; omega
        · have hxy' : (x == y) = false := by simpa using hxy
          have HXY := sec hxy
          clear hxy
          go_wp2
          go_quiet (fail)
          go_wp2
          go_ret
          refine ⟨?_, hg.drewN _⟩
          have : ¬ (xs = ys) := by
            intro e
            apply HXY.out
            rw [HX.out, HY.out]
            simp [e]
          simp [this]
      · go_wp2
        go_ret
        refine ⟨?_, hg⟩
        have : xs = ys := by
          have h1 := he.out
          rw [List.take_of_length_le (by omega), List.take_of_length_le (by have := HN.out; omega)] at h1
          exact h1
        simp [this]
  · have hb1 : ((xs.length : Int) != (ys.length : Int)) = true := by rw [bne_iff_ne]; omega
    have : ¬ (xs = ys) := fun e => hne (by rw [e])
    have HN := sec this
    clear this hne
    go_enter Tryz.func16, Tryz.ntmps16
    go_wp2
    go_ret
    exact ⟨by simp [HN.out], Gr.refl _⟩
end Go.Proofs.YtoamnifnfkgbiaaGreatDoor

namespace Go.Proofs.YtoamnifnfkgbiaaGreatDoor
set_option maxRecDepth 100000
open Go.RowKit
set_option linter.unusedVariables false
theorem E.ints : ElemOk 67 3 (.int .i64 0) 1 8 := ⟨Tryz.underlying67, by kernel_rfl, rfl, by omega⟩
theorem iV_one {l : List Int} : ∀ u ∈ l.map iV, u.oneCell' = true := by
  intro u hu
  obtain ⟨x, _, rfl⟩ := List.mem_map.1 hu
  rfl
theorem sV_one {l : List (List UInt8)} : ∀ u ∈ l.map strV, u.oneCell' = true := by
  intro u hu
  obtain ⟨x, _, rfl⟩ := List.mem_map.1 hu
  rfl
theorem stepA_one (s : Stp) (A : Option Addr) (c : Nat) (B : Option Addr) (d : Nat) : (stepA s A c B d).all (·.oneCell') = true := by simp [stepA, Value.oneCell']
/-- a copy's two rows, in blocks behind b -/
structure StOwn (b : Nat) (w : World) (s : Stp) (A : Option Addr) (c : Nat) (B : Option Addr) (d : Nat) : Prop where
  who : ∃ k, b < k ∧ w.ownsRow k 3 1 (.slice A s.who.length c) s.who.length (s.who.map iV)
  seals : ∃ k, b < k ∧ w.ownsRow k 9 1 (.slice B s.seals.length d) s.seals.length (s.seals.map strV)
theorem own_nil {w : World} {k e n cap : Nat} {A : Option Addr} {xs : List Value} (h : w.ownsRow k e 1 (.slice A n cap) n xs) : A = none → n = 0 ∧ cap = 0 := by
  intro e
  rcases h.2 with ⟨h, h0⟩ | ⟨g, _, _, h, _⟩
  · injection h with _ h2 h3
    exact ⟨h0, h3⟩
  · injection h with h2 _ _
    rw [e] at h2; cases h2
/-- a slice's address is one of a row's cells -/
def PlainA (A : Option Addr) : Prop := ∀ ad, A = some ad → ∃ b off, ad = ⟨b, off, none⟩
theorem own_plain {w : World} {k e n cap : Nat} {A : Option Addr} {xs : List Value} (h : w.ownsRow k e 1 (.slice A n cap) n xs) : PlainA A := by
  intro ad ha
  rcases h.2 with ⟨h, h0⟩ | ⟨g, cap', cur, h, _⟩
  · injection h with h1 _ _
    rw [h1] at ha; cases ha
  · injection h with h1 _ _
    rw [h1] at ha; injection ha with ha
    exact ⟨g, 0, ha.symm⟩
theorem own_cap {w : World} {k e n cap : Nat} {A : Option Addr} {xs : List Value} (h : w.ownsRow k e 1 (.slice A n cap) n xs) : n ≤ cap := by
  rcases h.2 with ⟨h, h0⟩ | ⟨g, cap', cur, h, _, _, hle, _⟩
  · omega
  · injection h with _ _ h3
    subst h3
    exact hle
set_option maxHeartbeats 8000000 in
theorem copyStep_any (s : Stp) (A : Option Addr) (c : Nat) (B : Option Addr) (d : Nat) (w : World) (hR : StR w s A c B d) (hz : StSz 1099511627776 s) :
    Calls Tryz.prog 85 #[.agg (stepA s A c B d)] w fun e w' => ∃ A' c' B' d', e = .returned (.agg (stepA s A' c' B' d')) ∧ StR w' s A' c' B' d' ∧ PlainA A' ∧ PlainA B' ∧ Gr w w' := by
  have hwl := hz.who
  have hsl := hz.seals
  have hb1 : (0 + s.who.length) * 8 ≤ 140737488355328 := by omega
  have hb2 : 0 + s.who.length ≤ maxLen := by unfold maxLen; omega
  have hb3 : (0 + s.seals.length) * 16 ≤ 140737488355328 := by omega
  have hb4 : 0 + s.seals.length ≤ maxLen := by unfold maxLen; omega
  obtain ⟨wa, hwa⟩ : ∃ x, x = (w.alloc (.cells (stepA s A c B d) 69)).alloc (.cells #[.string (bs []), .string (bs []), .string (bs []), .slice none 0 0, .slice none 0 0] 69) := ⟨_, rfl⟩
  have hb : Blk wa w.heap.size 69 (stepA s A c B d) := by rw [hwa]; exact (Blk.new w _ _).alloc _
  have hr : Blk wa (w.heap.size + 1) 69 #[.string (bs []), .string (bs []), .string (bs []), .slice none 0 0, .slice none 0 0] := by rw [hwa]; exact Blk.new1 w _ _ _
  have hg0 : Gr w wa := by rw [hwa]; exact ((Gr.refl w).alloc _).alloc _
  obtain ⟨p, hp⟩ : ∃ p, p = w.heap.size := ⟨_, rfl⟩
  rw [← hp] at hb hr
  have hwp : w.heap.size ≤ p := by omega
  have HB := sec hb
  have HRR := sec hr
  have HRW := sec (hR.gr hg0)
  have HSK : Sec (∀ w', Gr wa w' → w'.cell? ⟨p, 3, none⟩ = some (.slice A s.who.length c) ∧ w'.cell? ⟨p, 4, none⟩ = some (.slice B s.seals.length d) ∧ w'.frozen? ⟨p, 3, none⟩ = false ∧ w'.frozen? ⟨p, 4, none⟩ = false) := sec (fun w' g => ⟨(hb.gr g).cell 3, (hb.gr g).cell 4, (hb.gr g).frozen 3, (hb.gr g).frozen 4⟩)
  have HSZ : Sec (∀ w', Gr wa w' → p + 1 < w'.heap.size) := sec (fun w' g => (hr.gr g).lt)
  clear hb hr hR hz
  unfold stepA at hwa
  unfold stepA
  go_enter Tryz.func85, Tryz.ntmps85
  go_upto_region 1 with fail
  rw [← hwa, ← hp]
  clear hwa hp
  have gd : Gr wa wa.drew := (Gr.refl _).drew
  obtain ⟨a0, a1, a2, a3⟩ := HSK.out wa (Gr.refl _)
  go_region_law (first
    | (refine step_append_row E.ints rfl (.const (.slice none 0 0)) (.tmp 4) rfl (B := p + 1 + 1) rfl (World.ownsRow_nil _ _ _ _) rfl (Row.gr HRW.out.who (by first | with_reducible assumption)) HRW.out.wn iV_one hb1 hb2 (HSZ.out _ (by first | with_reducible assumption)) ?_; intro A1 k1 x1 o1 h1; have G1 : Gr wa x1 := Gr.grown (by first | with_reducible assumption) h1 (by rintro k hk; cases hk); obtain ⟨m0, m1, m2, m3⟩ := HSK.out x1 G1)
    | (refine step_append_row E.str rfl (.const (.slice none 0 0)) (.tmp 7) rfl (B := p + 1 + 1) rfl (World.ownsRow_nil _ _ _ _) rfl (Row.gr HRW.out.seals (by first | with_reducible assumption)) HRW.out.sn sV_one hb3 hb4 (HSZ.out _ (by first | with_reducible assumption)) ?_; intro A2 k2 x2 o2 h2; have G2 : Gr wa x2 := Gr.grown (by first | with_reducible assumption) h2 (by rintro k hk; cases hk); obtain ⟨n0, n1, n2, n3⟩ := HSK.out x2 G2))
  all_goals
    rw [Nat.zero_add, List.nil_append] at o1 o2
    have g12 : Gr x1 x2 := Gr.grown (Gr.refl _) h2 (by rintro k hk; cases hk)
    have o3 := own_gr o1 g12
    have f1 : ∀ {e n cap : Nat} {X : Option Addr} {xs : List Value}, x2.ownsRow (p + 1 + 1) e 1 (.slice X n cap) n xs → ((x2.setCell ⟨p, 3, none⟩ (.slice A1 s.who.length k1)).setCell ⟨p, 4, none⟩ (.slice A2 s.seals.length k2)).ownsRow (p + 1 + 1) e 1 (.slice X n cap) n xs := fun h =>
      ownsRow_setCell_other (ownsRow_setCell_other h (a := ⟨p, 3, none⟩) (fun e => by have := (h.lt p e).1; omega) _) (a := ⟨p, 4, none⟩) (fun e => by have := (h.lt p e).1; omega) _
    have q1 := f1 o3
    have q2 := f1 o2
    have BX : Blk ((x2.setCell ⟨p, 3, none⟩ (.slice A1 s.who.length k1)).setCell ⟨p, 4, none⟩ (.slice A2 s.seals.length k2)) p 69 (stepA s A1 k1 A2 k2) := ((HB.out.gr G2).set_ 3 _).set_ 4 _
    have ZX := ((HRR.out.gr G2).far (p := ⟨p, 3, none⟩) (by show p + 1 ≠ p; omega) (.slice A1 s.who.length k1)).far (p := ⟨p, 4, none⟩) (by show p + 1 ≠ p; omega) (.slice A2 s.seals.length k2)
    have GX := ((hg0.trans G2).setCell (p := ⟨p, 3, none⟩) hwp (.slice A1 s.who.length k1)).setCell (p := ⟨p, 4, none⟩) hwp (.slice A2 s.seals.length k2)
    clear m0 m1 m2 m3 n0 n1 n2 n3 a0 a1 a2 a3 f1 o1 o2 o3
    go_wp2_with (first
      | (refine wpList_load_blk rfl 69 (.tmp 1) rfl (g := p) rfl BX aggStep ?_)
      | (refine wpList_store_blk rfl 69 (.tmp 2) (.tmp 11) rfl (g := p + 1) (cs' := stepA s A1 k1 A2 k2) rfl rfl ZX aggStep rfl (stepA_one _ _ _ _ _) ?_; intro w9 h9 hg9))
    refine bodyPost_ret (results_blk rfl _ rfl h9 aggStep) rfl ?_
    have r1 : IntRow w9 A1 s.who.length s.who := Row.only (Row.own q1) hg9 (fun h0 b off e => by have := (q1.lt b (by rw [e]; rfl)).1; omega)
    have r2 : StrRow w9 A2 s.seals.length s.seals := Row.only (Row.own q2) hg9 (fun h0 b off e => by have := (q2.lt b (by rw [e]; rfl)).1; omega)
    exact ⟨A1, k1, A2, k2, rfl, ⟨r1, r2, own_nil q1, own_nil q2, own_cap q1, own_cap q2⟩, own_plain q1, own_plain q2, Gr.only GX hg9 (by omega)⟩

set_option maxHeartbeats 8000000 in
theorem sameStep_any (s : Stp) (A : Option Addr) (c : Nat) (B : Option Addr) (d : Nat) (A' : Option Addr) (c' : Nat) (B' : Option Addr) (d' : Nat) (w : World) (hR : StR w s A c B d) (hR' : StR w s A' c' B' d') (hz : StSz 1099511627776 s) :
    Calls Tryz.prog 94 #[.agg (stepA s A c B d), .agg (stepA s A' c' B' d')] w fun e w' => e = .returned (.bool true) ∧ Gr w w' := by
  have hwl := hz.who
  have hsl := hz.seals
  obtain ⟨wa, hwa⟩ : ∃ x, x = (w.alloc (.cells (stepA s A c B d) 69)).alloc (.cells (stepA s A' c' B' d') 69) := ⟨_, rfl⟩
  have hb : Blk wa w.heap.size 69 (stepA s A c B d) := by rw [hwa]; exact (Blk.new w _ _).alloc _
  have hr : Blk wa (w.heap.size + 1) 69 (stepA s A' c' B' d') := by rw [hwa]; exact Blk.new1 w _ _ _
  have hg0 : Gr w wa := by rw [hwa]; exact ((Gr.refl w).alloc _).alloc _
  obtain ⟨p, hp⟩ : ∃ p, p = w.heap.size := ⟨_, rfl⟩
  rw [← hp] at hb hr
  have HX := sec (hR.who.gr hg0)
  have HY := sec (hR'.who.gr hg0)
  have HSS : Sec (∀ w', Gr wa w' → Calls Tryz.prog 16 #[.slice B s.seals.length d, .slice B' s.seals.length d'] w' fun e w'' => e = .returned (.bool true) ∧ Gr w' w'') := sec (fun w' g => by
    have := sameStrings_any B B' s.seals.length s.seals.length d d' s.seals s.seals w' ((hR.seals.gr hg0).gr g) ((hR'.seals.gr hg0).gr g) (by omega) (by omega)
    rwa [decide_eq_true rfl] at this)
  have HSK : Sec (∀ w', Gr wa w' → w'.cell? ⟨p, 0, none⟩ = some (.string (bs s.r)) ∧ w'.cell? ⟨p, 1, none⟩ = some (.string (bs s.o)) ∧ w'.cell? ⟨p, 2, none⟩ = some (.string (bs s.n)) ∧ w'.cell? ⟨p, 3, none⟩ = some (.slice A s.who.length c) ∧ w'.cell? ⟨p, 4, none⟩ = some (.slice B s.seals.length d) ∧ w'.cell? ⟨p + 1, 0, none⟩ = some (.string (bs s.r)) ∧ w'.cell? ⟨p + 1, 1, none⟩ = some (.string (bs s.o)) ∧ w'.cell? ⟨p + 1, 2, none⟩ = some (.string (bs s.n)) ∧ w'.cell? ⟨p + 1, 3, none⟩ = some (.slice A' s.who.length c') ∧ w'.cell? ⟨p + 1, 4, none⟩ = some (.slice B' s.seals.length d')) := sec (fun w' g => ⟨(hb.gr g).cell 0, (hb.gr g).cell 1, (hb.gr g).cell 2, (hb.gr g).cell 3, (hb.gr g).cell 4, (hr.gr g).cell 0, (hr.gr g).cell 1, (hr.gr g).cell 2, (hr.gr g).cell 3, (hr.gr g).cell 4⟩)
  clear hb hr hR hR' hz
  unfold stepA at hwa
  unfold stepA
  obtain ⟨a0, a1, a2, a3, a4, b0, b1, b2, b3, b4⟩ := HSK.out wa (Gr.refl _)
  go_enter Tryz.func94, Tryz.ntmps94
  go_upto_region 1 with fail
  rw [← hwa, ← hp]
  clear hwa hp
  go_wp2_with fail
  clear a0 a1 a2 a3 a4 b0 b1 b2 b3 b4
  go_loopg [16, 5] s.who.length (fun fuel iv _ wr => ∃ i : Nat, iv = .int .i64 (i : Int) ∧ s.who.length ≤ i + fuel ∧ i ≤ s.who.length ∧ Gr wa wr)
  case atStart => exact ⟨0, rfl, by omega, by omega, Gr.refl _⟩
  case round =>
    obtain ⟨i, rfl, hik, hi, gw⟩ := hrel
    obtain ⟨a0, a1, a2, a3, a4, b0, b1, b2, b3, b4⟩ := HSK.out wr gw
    by_cases hlt : i < s.who.length
    · have hii : (i : Int) < (s.who.length : Int) := by omega
      obtain ⟨b, off, rfl, x0⟩ := (HX.out.gr gw).cell hlt
      obtain ⟨b', off', rfl, y0⟩ := (HY.out.gr gw).cell hlt
      obtain ⟨mw, hmw⟩ : ∃ x, x = s.who[i] := ⟨_, rfl⟩
      rw [← hmw] at x0 y0
      have HII := sec hlt
      clear hmw hlt
      go_wp2_with fail
      go_quiet (fail)
      go_wp2_with fail
      go_roundg (gk - 1)
      case rel => exact ⟨i + 1, by go_num, by omega, HII.out, Gr.drewN gw _⟩
      case measure => have := HII.out; omega
    · obtain hE2 : i = s.who.length := by omega
      have hii : ¬ (i : Int) < (s.who.length : Int) := by omega
      have q : decide (i < s.who.length) = false := decide_eq_false hlt
      clear hE2 hlt hik
      go_wp2_with (go_at_call 16; refine Calls.mono (HSS.out _ gw) ?_; rintro e w1 ⟨rfl, g1⟩)
      go_ret
      exact ⟨rfl, hg0.trans (gw.trans g1)⟩
end Go.Proofs.YtoamnifnfkgbiaaGreatDoor

namespace Go.Proofs.YtoamnifnfkgbiaaGreatDoor
set_option maxRecDepth 100000
open Go.RowKit Go.ChangeShapes Go.WideShapes
theorem open_structD_arg {w : World} {r : Reach} {base : Nat} {t : TypeId} {fs : Array Field} (ht : Tryz.prog.underlying t = some (.struct fs)) {k : Nat} {α : Type} {R : List Value → α → Prop} {sz : α → Nat} (h : Opens w t k R sz) {H : Type} {enc : TypeId × Value → H} {v : Value} {d : DataW H} {p : List MemPlace}
    (hv : Value.okWide Tryz.prog w r base t v) (hd : DataW.Trod enc Tryz.prog w 0 (fun _ => true) true t v d p) : ∃ cs a, v = .agg cs ∧ R cs.toList a ∧ sz a ≤ Rows.uptoBulk d := by
  obtain ⟨cs, rfl, _⟩ := okWide_struct ht hv
  obtain ⟨a, ha, hs, _⟩ := open_arg h hd
  exact ⟨cs, a, rfl, by simpa [Value.cells] using ha, hs⟩
def szFile (f : Fl) : Nat := f.1.length + 1 + (f.2.1.length + 1 + (f.2.2.length + 1))
theorem opens_file (w : World) : Opens w 105 3 (fun cs (x : Fl) => cs = fileC x) szFile :=
  (opens_struct Tryz.underlying105 (by kernel_rfl) (opensF_cons rfl (opens_string Tryz.underlying9 (by kernel_rfl) w) (opensF_cons rfl (opens_string Tryz.underlying9 (by kernel_rfl) w) (opensF_cons rfl (opens_string Tryz.underlying9 (by kernel_rfl) w) (opensF_nil w 3))))).map
    (fun a => (a.1, a.2.1, a.2.2.1)) (by
      rintro cs ⟨a, b, c, _⟩ ⟨c1, c2, rfl, _, h1, d1, d2, rfl, _, h2, e1, e2, rfl, _, h3, h4⟩
      simp only [strR] at h1 h2 h3
      subst h1
      subst h2
      subst h3
      subst h4
      rfl) (by intro a; simp only [szFile]; omega)
theorem opens_disk (w : World) : Opens w 24 2 (fun cs (x : List Fl × Int) => ∃ A c, cs = [.slice A x.1.length c, .int .i64 x.2] ∧ sliceR w 3 (fun cs (x : Fl) => cs = fileC x) [.slice A x.1.length c] x.1 ∧ -9223372036854775808 ≤ x.2 ∧ x.2 ≤ 9223372036854775807) (fun x => szs szFile x.1) :=
  (opens_struct Tryz.underlying24 (by kernel_rfl) (opensF_cons rfl (opens_slice Tryz.underlying22 (by kernel_rfl) (opens_file w) (by omega)) (opensF_cons rfl (opens_int Tryz.underlying3 (by kernel_rfl) w) (opensF_nil w 2)))).map
    (fun a => (a.1, a.2.1)) (by
      rintro cs ⟨fs, f, _⟩ ⟨c1, c2, rfl, _, h1, d1, d2, rfl, _, h2, h3⟩
      have h1' := h1
      obtain ⟨A, c, hc, _⟩ := h1
      simp only at hc
      subst hc
      obtain ⟨h4, h5⟩ := h2
      simp only at h4
      subst h4
      simp only [nilR] at h3
      subst h3
      exact ⟨A, c, rfl, h1', h5⟩) (by intro a; simp only; omega)
/-- what is known of a disk that came in -/
structure DiskIn (w : World) (A : Option Addr) (c : Nat) (fs : List Fl) (f : Int) : Prop where
  row : FRow w A fs.length fs
  len : fs.length ≤ 1048576
  size : ∀ x ∈ fs, x.1.length ≤ 1048576 ∧ x.2.1.length ≤ 1048576 ∧ x.2.2.length ≤ 1048576
  nil : A = none → fs.length = 0 ∧ c = 0
  fuse : -9223372036854775808 ≤ f ∧ f ≤ 9223372036854775807
  cap : fs.length ≤ c
theorem open_disk {w : World} {r : Reach} {base : Nat} {H : Type} {enc : TypeId × Value → H} {v : Value} {d : DataW H} {p : List MemPlace}
    (hv : Value.okWide Tryz.prog w r base 24 v) (hd : DataW.Trod enc Tryz.prog w 0 (fun _ => true) true 24 v d p) (hb : Rows.uptoBulk d ≤ 1048576) :
    ∃ A c fs f, v = diskV A fs.length c f ∧ DiskIn w A c fs f := by
  obtain ⟨cs, ⟨fs, f⟩, rfl, ⟨A, c, hc, hR, hf⟩, hs⟩ := open_structD_arg Tryz.underlying24 (opens_disk w) hv hd
  simp only at hc hR hf hs
  obtain ⟨A', c', e', h1, h2, hrow⟩ := sliceR_row fileC (fun _ => rfl) (by omega) (fun ci x h => h) hR
  simp only [List.cons.injEq, and_true, Value.slice.injEq, true_and] at e'
  obtain ⟨rfl, rfl⟩ := e'
  obtain ⟨A2, c2, e2, _, h3, _⟩ := hR
  simp only [List.cons.injEq, and_true, Value.slice.injEq, true_and] at e2
  obtain ⟨rfl, rfl⟩ := e2
  have hl := szs_len szFile (fun x => by unfold szFile; omega) fs
  refine ⟨A, c, fs, f, ?_, ⟨hrow, by omega, fun x hx => ?_, fun h => ?_, hf, h1⟩⟩
  · unfold diskV
    congr 1
    exact Array.toList_inj.1 hc
  · have := szs_mem szFile hx
    unfold szFile at this hs
    refine ⟨?_, ?_, ?_⟩ <;> omega
  · have := h3.2 h
    omega
end Go.Proofs.YtoamnifnfkgbiaaGreatDoor

namespace Go.Proofs.YtoamnifnfkgbiaaGreatDoor
set_option maxRecDepth 100000
open Go.RowKit Go.ChangeShapes Go.WideShapes
set_option linter.unusedVariables false
theorem opens_headD (w : World) : Opens w 26 2 (fun cs (x : Int × List UInt8) => cs = [.int .i64 x.1, .string (bs x.2)] ∧ -9223372036854775808 ≤ x.1 ∧ x.1 ≤ 9223372036854775807) (fun x => x.2.length) :=
  (opens_struct Tryz.underlying26 (by kernel_rfl) (opensF_cons rfl (opens_int Tryz.underlying3 (by kernel_rfl) w) (opensF_cons rfl (opens_string Tryz.underlying9 (by kernel_rfl) w) (opensF_nil w 2)))).map
    (fun a => (a.1, a.2.1)) (by
      rintro cs ⟨n, r, _⟩ ⟨c1, c2, rfl, _, h1, d1, d2, rfl, _, h2, h3⟩
      obtain ⟨h1, h1'⟩ := h1
      simp only [strR] at h1 h2
      simp only [nilR] at h3
      subst h1
      subst h2
      subst h3
      exact ⟨rfl, h1'⟩) (by intro a; simp only; omega)
theorem opens_witness (w : World) : Opens w 84 6 (fun cs (x : Int × List UInt8 × (List Fl × Int) × (Int × List UInt8)) => ∃ A c, cs = [.int .i64 x.1, .string (bs x.2.1), .slice A x.2.2.1.1.length c, .int .i64 x.2.2.1.2, .int .i64 x.2.2.2.1, .string (bs x.2.2.2.2)] ∧ sliceR w 3 (fun cs (x : Fl) => cs = fileC x) [.slice A x.2.2.1.1.length c] x.2.2.1.1 ∧ -9223372036854775808 ≤ x.2.2.1.2 ∧ x.2.2.1.2 ≤ 9223372036854775807) (fun x => x.2.1.length + szs szFile x.2.2.1.1 + x.2.2.2.2.length) :=
  (opens_struct Tryz.underlying84 (by kernel_rfl) (opensF_cons rfl (opens_int Tryz.underlying3 (by kernel_rfl) w) (opensF_cons rfl (opens_string Tryz.underlying9 (by kernel_rfl) w) (opensF_cons rfl (opens_disk w) (opensF_cons rfl (opens_headD w) (opensF_nil w 6)))))).map
    (fun a => (a.1, a.2.1, a.2.2.1, a.2.2.2.1)) (by
      rintro cs ⟨n, k, ⟨fs, f⟩, ⟨sz, r⟩, _⟩ ⟨c1, c2, rfl, _, h1, d1, d2, rfl, _, h2, e1, e2, rfl, _, h3, f1, f2, rfl, _, h4, h5⟩
      obtain ⟨h1, h1'⟩ := h1
      obtain ⟨A, c, h3, hR, hf⟩ := h3
      obtain ⟨h4, h4'⟩ := h4
      simp only [strR] at h1 h2 h3 h4
      simp only [nilR] at h5
      subst h1
      subst h2
      subst h3
      subst h4
      subst h5
      exact ⟨A, c, rfl, hR, hf⟩) (by intro a; simp only; omega)
/-- what is known of a witness that came in -/
theorem open_witness {w : World} {r : Reach} {base : Nat} {H : Type} {enc : TypeId × Value → H} {v : Value} {d : DataW H} {p : List MemPlace}
    (hv : Value.okWide Tryz.prog w r base 84 v) (hd : DataW.Trod enc Tryz.prog w 0 (fun _ => true) true 84 v d p) (hb : Rows.uptoBulk d ≤ 1048576) :
    ∃ who key A c fs f sz rt, v = .agg (witA who key A fs.length c f sz rt) ∧ DiskIn w A c fs f := by
  obtain ⟨cs, ⟨who, key, ⟨fs, f⟩, sz, rt⟩, rfl, ⟨A, c, hc, hR, hf⟩, hs⟩ := open_structD_arg Tryz.underlying84 (opens_witness w) hv hd
  simp only at hc hR hf hs
  obtain ⟨A', c', e', h1, h2, hrow⟩ := sliceR_row fileC (fun _ => rfl) (by omega) (fun ci x h => h) hR
  simp only [List.cons.injEq, and_true, Value.slice.injEq, true_and] at e'
  obtain ⟨rfl, rfl⟩ := e'
  obtain ⟨A2, c2, e2, _, h3, _⟩ := hR
  simp only [List.cons.injEq, and_true, Value.slice.injEq, true_and] at e2
  obtain ⟨rfl, rfl⟩ := e2
  have hl := szs_len szFile (fun x => by unfold szFile; omega) fs
  refine ⟨who, key, A, c, fs, f, sz, rt, ?_, ⟨hrow, by omega, fun x hx => ?_, fun h => ?_, hf, h1⟩⟩
  · unfold witA
    congr 1
    exact Array.toList_inj.1 hc
  · have := szs_mem szFile hx
    unfold szFile at this hs
    refine ⟨?_, ?_, ?_⟩ <;> omega
  · have := h3.2 h
    omega
end Go.Proofs.YtoamnifnfkgbiaaGreatDoor

namespace Go.Proofs.YtoamnifnfkgbiaaGreatDoor
set_option maxRecDepth 100000
open Go.RowKit
set_option linter.unusedVariables false
/-- a head's bytes -/
def hdTxt (n : Int) (r : List UInt8) : List UInt8 × Int := if hdE n r = 0 then (numS n ++ r, 0) else ([], hdE n r)
theorem hdE_zero {n : Int} {r : List UInt8} (h : hdE n r = 0) : 0 ≤ n ∧ n ≤ 200 ∧ r.length = 32 := by
  unfold hdE at h
  split at h
  · cases h
  · rename_i h1
    split at h
    · rename_i h2; exact ⟨by omega, by omega, h2⟩
    · cases h

end Go.Proofs.YtoamnifnfkgbiaaGreatDoor

namespace Go.Proofs.YtoamnifnfkgbiaaGreatDoor
set_option maxRecDepth 100000
open Go.RowKit
set_option linter.unusedVariables false
theorem aggHead : AggOk 26 2 := A.head
theorem hdTxt0 (R : List UInt8) (h : R.length = 32) : (hdTxt 0 R).2 = 0 ∧ (hdTxt 0 R).1.length = 33 := by
  have hE : hdE 0 R = 0 := by
    unfold hdE
    rw [if_neg (by decide), if_pos h]
  unfold hdTxt
  rw [if_pos hE]
  refine ⟨rfl, ?_⟩
  have h1 : (numS 0).length = 1 := by
    rw [numS_in (by omega) (by omega)]
    have a := num_pos 0
    have b := num_len 0 0 (by decide)
    have e : (0 : Int).toNat = 0 := rfl
    rw [e]
    omega
  rw [List.length_append, h1, h]
set_option maxHeartbeats 1000000 in
theorem leaves0_any (w : World) : Calls Tryz.prog 82 #[.slice none 0 0] w fun e w' => e = .returned (.tuple #[.slice none 0 0, .int .i64 0]) ∧ w' = w := by
  go_enter Tryz.func82, Tryz.ntmps82
  go_wp2_with fail
  go_loopw [11, 4, 6, 7, 8] (fun iv v4 _ _ _ wr => iv = .int .i64 0 ∧ v4 = .slice none 0 0 ∧ wr = w) (fun _ _ _ _ _ _ => 0)
  case atStart => exact ⟨rfl, rfl, rfl⟩
  case round =>
    obtain ⟨rfl, rfl, rfl⟩ := hrel
    go_wp2_with fail
    go_ret2
    exact ⟨rfl, rfl⟩

set_option maxHeartbeats 1000000 in
theorem of0_any (w : World) (hT : TabK w) : Calls Tryz.prog 37 #[.slice none 0 0] w fun e w' => e = .returned (.tuple #[.agg (headC 0 (sha [])), .int .i64 0]) ∧ Gr w w' := by
  have HR : Sec (∀ W, Gr w W → Calls Tryz.prog 78 #[.slice none 0 0] W fun e w' => e = .returned (.string (bs (sha []))) ∧ Gr W w') := sec (fun W g => by
    have := root_any 0 [] none 0 0 W (by simp) (by omega) (by omega) ⟨rfl, fun h => absurd h (by omega)⟩ (by intro s h; cases h) (hT.gr g)
    rw [rootL_nil] at this
    exact this)
  clear hT
  go_enter Tryz.func37, Tryz.ntmps37
  go_wp2_with (first
    | (refine wpList_store_blk rfl 26 (.tmp 2) (.tmp 23) rfl (g := w.heap.size) (cs' := headC 0 (sha [])) rfl rfl hB A.head rfl (headC_one _ _) ?_; intro w2 h2 hg2)
    | (go_at_call 82; refine Calls.mono (leaves0_any _) ?_; rintro e w3 ⟨rfl, rfl⟩)
    | (go_at_call 78; refine Calls.mono (HR.out _ ((Gr.refl w).alloc _)) ?_; rintro e w1 ⟨rfl, g1⟩; have hB := (Blk.new w 26 (headC 0 [])).gr g1; have gg1 : Gr w w1 := Gr.trans ((Gr.refl w).alloc _) g1))
  refine bodyPost_ret (results_blk_tmp rfl _ rfl h2 A.head) rfl ?_
  exact ⟨rfl, Gr.only gg1 hg2 (Nat.le_refl _)⟩
end Go.Proofs.YtoamnifnfkgbiaaGreatDoor

namespace Go.Proofs.YtoamnifnfkgbiaaGreatDoor
set_option maxRecDepth 100000
open Go.RowKit
set_option linter.unusedVariables false
def markC (n : Int) (r : List UInt8) : Array Value := #[.int .i64 n, .string (bs r)]
theorem markC_one (n : Int) (r : List UInt8) : (markC n r).all (·.oneCell') = true := by simp [markC, Value.oneCell']
def hd4 : List UInt8 := [104, 101, 97, 100]
/-- P11.4: who, the seal, the error -/
def hdMk (who : Int) (key : List UInt8) (n : Int) (r : List UInt8) : Int × List UInt8 × Int :=
  if (hdTxt n r).2 = 0 then (if who < 0 ∨ 4 ≤ who then (0, [], 3) else (who, seal' key (hd4 ++ (hdTxt n r).1), 0)) else (0, [], (hdTxt n r).2)
theorem hdTxt_len (n : Int) (r : List UInt8) : (hdTxt n r).1.length ≤ 64 := by
  unfold hdTxt
  split
  · rename_i hE
    obtain ⟨h0, h1, h2⟩ := hdE_zero hE
    have hnl : (numS n).length ≤ 9 := by rw [numS_in h0 (by omega)]; exact num_len9 (by omega)
    simp only [List.length_append]
    omega
  · simp

end Go.Proofs.YtoamnifnfkgbiaaGreatDoor

namespace Go.Proofs.YtoamnifnfkgbiaaGreatDoor
set_option maxRecDepth 100000
open Go.RowKit Go.ChangeShapes Go.WideShapes
theorem flat_single {α β : Type} (f : α → β) : ∀ xs : List α, xs.flatMap (fun l => [f l]) = xs.map f
  | [] => rfl
  | x :: r => by rw [List.flatMap_cons, flat_single f r]; rfl
theorem open_strs {w : World} {r : Reach} {base : Nat} {H : Type} {enc : TypeId × Value → H} {v : Value} {d : DataW H} {p : List MemPlace}
    (hv : Value.okWide Tryz.prog w r base 31 v) (hd : DataW.Trod enc Tryz.prog w 0 (fun _ => true) true 31 v d p) (hb : Rows.uptoBulk d ≤ 1048576) :
    ∃ A c l, v = .slice A l.length c ∧ StrRow w A l.length l ∧ l.length ≤ 1048576 ∧ (∀ x ∈ l, x.length ≤ 1048576) ∧ l.length ≤ c ∧ c ≤ maxLen ∧ (A = none → c = 0) := by
  obtain ⟨A, c, xs, e, hR, hs⟩ := open_slice_arg Tryz.underlying31 (opens_slice Tryz.underlying31 (by kernel_rfl) (opens_string Tryz.underlying9 (by kernel_rfl) w) (by omega)) hv hd
  obtain ⟨A', c', e', h1, h2, hrow⟩ := sliceR_row (k := 1) (fun l => [strV l]) (fun _ => rfl) (by omega) (fun ci x h => h) hR
  simp only [List.cons.injEq, and_true, Value.slice.injEq, true_and] at e'
  obtain ⟨rfl, rfl⟩ := e'
  obtain ⟨A2, c2, e2, _, h3, _⟩ := hR
  simp only [List.cons.injEq, and_true, Value.slice.injEq, true_and] at e2
  obtain ⟨rfl, rfl⟩ := e2
  have hl := szs_len (fun l : List UInt8 => l.length + 1) (fun x => Nat.succ_le_succ (Nat.zero_le _)) xs
  rw [flat_single] at hrow
  refine ⟨A, c, xs, e, hrow, by omega, fun x hx => ?_, h1, h2, h3.2⟩
  have h5 : x.length + 1 ≤ _ := szs_mem (fun l : List UInt8 => l.length + 1) hx
  omega
end Go.Proofs.YtoamnifnfkgbiaaGreatDoor

namespace Go.Proofs.YtoamnifnfkgbiaaGreatDoor
set_option maxRecDepth 100000
open Go.RowKit Go.ChangeShapes Go.WideShapes
set_option linter.unusedVariables false
structure StrsIn (w : World) (A : Option Addr) (c : Nat) (l : List (List UInt8)) : Prop where
  row : StrRow w A l.length l
  len : l.length ≤ 1048576
  size : ∀ x ∈ l, x.length ≤ 1048576
  cap : l.length ≤ c
  nil : A = none → l.length = 0 ∧ c = 0
def szStr (l : List UInt8) : Nat := l.length + 1
theorem strs_in {w : World} {A : Option Addr} {c : Nat} {l : List (List UInt8)} (hR : sliceR w 1 strR [.slice A l.length c] l) (hb : szs szStr l ≤ 1048576) : StrsIn w A c l := by
  obtain ⟨A', c', e', h1, h2, hrow⟩ := sliceR_row (k := 1) (fun l => [strV l]) (fun _ => rfl) (by omega) (fun ci x h => h) hR
  simp only [List.cons.injEq, and_true, Value.slice.injEq, true_and] at e'
  obtain ⟨rfl, rfl⟩ := e'
  obtain ⟨A2, c2, e2, _, h3, _⟩ := hR
  simp only [List.cons.injEq, and_true, Value.slice.injEq, true_and] at e2
  obtain ⟨rfl, rfl⟩ := e2
  have hl := szs_len szStr (fun x => Nat.succ_le_succ (Nat.zero_le _)) l
  rw [flat_single] at hrow
  refine ⟨hrow, by omega, fun x hx => ?_, h1, fun h => ?_⟩
  · have h5 := szs_mem szStr hx
    unfold szStr at h5 hb
    omega
  · have := h3.2 h
    omega
end Go.Proofs.YtoamnifnfkgbiaaGreatDoor

namespace Go.Proofs.YtoamnifnfkgbiaaGreatDoor
set_option maxRecDepth 100000
open Go.RowKit Go.ChangeShapes Go.WideShapes
set_option linter.unusedVariables false
theorem open_head {w : World} {r : Reach} {base : Nat} {H : Type} {enc : TypeId × Value → H} {v : Value} {d : DataW H} {p : List MemPlace}
    (hv : Value.okWide Tryz.prog w r base 26 v) (hd : DataW.Trod enc Tryz.prog w 0 (fun _ => true) true 26 v d p) (hb : Rows.uptoBulk d ≤ 1048576) :
    ∃ n rt, v = .agg (headC n rt) ∧ rt.length ≤ 1048576 := by
  obtain ⟨cs, ⟨n, rt⟩, rfl, ⟨hc, _⟩, hs⟩ := open_structD_arg Tryz.underlying26 (opens_headD w) hv hd
  simp only at hc hs
  refine ⟨n, rt, ?_, by omega⟩
  unfold headC
  congr 1
  exact Array.toList_inj.1 hc
end Go.Proofs.YtoamnifnfkgbiaaGreatDoor

namespace Go.Proofs.YtoamnifnfkgbiaaGreatDoor
open Go.RowKit
set_option linter.unusedVariables false
theorem strV_oneCell {ss : List (List UInt8)} : ∀ u ∈ ss.map strV, u.oneCell' = true := by
  intro u hu
  obtain ⟨c, _, rfl⟩ := List.mem_map.1 hu
  rfl
set_option maxRecDepth 100000 in
set_option maxHeartbeats 1000000 in
theorem strings_any (ss : List (List UInt8)) (m : Nat) (A : Option Addr) (cap : Nat) (w : World) (hm : m ≤ 1099511627776) (hrow : StrRow w A m ss) (hA : A = none → m = 0 ∧ cap = 0) :
    Calls Tryz.prog 14 #[.slice A m cap] w fun e w' => ∃ A' cap', e = .returned (.slice A' m cap') ∧ w'.ownsRow w.heap.size 9 1 (.slice A' m cap') m (ss.map strV) ∧ Gr w w' := by
  obtain ⟨i0, hi0, hz0, hz1, hz2⟩ := info_parts E.str.info
  have hlen := hrow.len
  cases A with
  | none =>
    obtain ⟨rfl, rfl⟩ := hA rfl
    obtain rfl : ss = [] := List.eq_nil_of_length_eq_zero hlen
    go_enter Tryz.func14, Tryz.ntmps14
    go_wp2_with (refine wpList_append_own_none rfl (.const (.slice none 0 0)) (.tmp 3) 31 rfl w.heap.size 9 i0 1 E.str.under hi0 _ 0 [] rfl (World.ownsRow_nil _ _ _ _) rfl ?_)
    go_ret
    exact ⟨none, 0, rfl, World.ownsRow_nil _ _ _ _, Gr.refl _⟩
  | some ad =>
    have hnews : ∀ j u, (ss.map strV)[j]? = some u → w.cell? (ad.add j) = some u := by
      intro j u hu
      have hj : j < ss.length := by have := (List.getElem?_eq_some_iff.1 hu).1; simpa using this
      obtain ⟨b, off, e, hc⟩ := Row.at_ hrow (by omega)
      injection e with e
      subst e
      have : (⟨b, off, none⟩ : Addr).add j = ⟨b, off + j, none⟩ := by unfold Addr.add; split <;> simp_all
      rw [this]
      exact hc j u hu
    have HN := sec hnews
    have HL := sec hlen
    clear hnews hrow
    go_enter Tryz.func14, Tryz.ntmps14
    go_wp2_with (refine wpList_append_own _ rfl (.const (.slice none 0 0)) (.tmp 3) 31 rfl w.heap.size 9 i0 (.string (bs [])) 1 16 E.str.under hi0 hz0 hz1 hz2 E.str.zcells (by omega) _ 0 [] rfl (World.ownsRow_nil _ _ _ _) ad m cap (ss.map strV) rfl (by rw [List.length_map, HL.out, Nat.mul_one]) HN.out strV_oneCell (by unfold maxLen; omega) (by omega) (Nat.le_refl _) ?_; intro v' w' hown hgr hnil)
    go_ret
    rw [Nat.zero_add, List.nil_append] at hown
    have hg : Gr w w' := (Gr.refl w).grown hgr (by rintro k hk; cases hk)
    rcases hown.2 with ⟨rfl, h0⟩ | ⟨g, cap', cur, rfl, _⟩
    · subst h0
      exact ⟨none, 0, rfl, hown, hg⟩
    · exact ⟨some ⟨g, 0, none⟩, cap', rfl, hown, hg⟩
end Go.Proofs.YtoamnifnfkgbiaaGreatDoor

namespace Go.Proofs.YtoamnifnfkgbiaaGreatDoor
set_option maxRecDepth 100000
open Go.RowKit Go.ChangeShapes Go.WideShapes
set_option linter.unusedVariables false
/-! ### marks in a row -/
def markL (x : Int × List UInt8) : List Value := [.int .i64 x.1, .string (bs x.2)]
theorem markL_one {fs : List (Int × List UInt8)} : ∀ u ∈ fs.flatMap markL, u.oneCell' = true := by
  intro u hu
  obtain ⟨f, _, h⟩ := List.mem_flatMap.1 hu
  simp only [markL, List.mem_cons, List.not_mem_nil, or_false] at h
  rcases h with rfl | rfl <;> rfl
def MRow (w : World) (A : Option Addr) (n : Nat) (ms : List (Int × List UInt8)) : Prop := Row w 2 A n (ms.flatMap markL)
theorem MRow.gr {w w' : World} {A : Option Addr} {n : Nat} {ms : List (Int × List UInt8)} (h : MRow w A n ms) (g : Gr w w') : MRow w' A n ms := Row.gr h g
theorem MRow.len {w : World} {A : Option Addr} {n : Nat} {ms : List (Int × List UInt8)} (h : MRow w A n ms) : ms.length = n := Row.flen markL (fun _ => rfl) (by omega) h
theorem MRow.cell {w : World} {A : Option Addr} {n : Nat} {ms : List (Int × List UInt8)} (h : MRow w A n ms) {i : Nat} (hi : i < ms.length) :
    ∃ b off, A = some ⟨b, off, none⟩ ∧ w.cell? ⟨b, off + i * 2, none⟩ = some (.int .i64 ms[i].1) ∧ w.cell? ⟨b, off + i * 2 + 1, none⟩ = some (.string (bs ms[i].2)) := by
  obtain ⟨b, off, e, _, hc⟩ := Row.fcell markL (fun _ => rfl) (by omega) h hi
  exact ⟨b, off, e, hc 0 _ rfl, hc 1 _ rfl⟩

/-! ### keys and a sealed head as arguments -/
def szMark (x : Int × List UInt8) : Nat := x.2.length + 1
structure MarksIn (w : World) (A : Option Addr) (c : Nat) (l : List (Int × List UInt8)) : Prop where
  row : MRow w A l.length l
  len : l.length ≤ 1048576
  size : ∀ x ∈ l, x.2.length ≤ 1048576
  cap : l.length ≤ c
  nil : A = none → l.length = 0 ∧ c = 0
theorem marks_in {w : World} {A : Option Addr} {c : Nat} {l : List (Int × List UInt8)} (hR : sliceR w 2 (fun cs (x : Int × List UInt8) => cs = markL x) [.slice A l.length c] l) (hb : szs szMark l ≤ 1048576) : MarksIn w A c l := by
  obtain ⟨A', c', e', h1, h2, hrow⟩ := sliceR_row markL (fun _ => rfl) (by omega) (fun ci x h => h) hR
  simp only [List.cons.injEq, and_true, Value.slice.injEq, true_and] at e'
  obtain ⟨rfl, rfl⟩ := e'
  obtain ⟨A2, c2, e2, _, h3, _⟩ := hR
  simp only [List.cons.injEq, and_true, Value.slice.injEq, true_and] at e2
  obtain ⟨rfl, rfl⟩ := e2
  have hl := szs_len szMark (fun x => Nat.succ_le_succ (Nat.zero_le _)) l
  refine ⟨hrow, by omega, fun x hx => ?_, h1, fun h => ?_⟩
  · have h5 := szs_mem szMark hx
    unfold szMark at h5 hb
    omega
  · have := h3.2 h
    omega
def keysA (A : Option Addr) (n c : Nat) (B : Option Addr) (m d : Nat) (need : Int) : Array Value := #[.slice A n c, .slice B m d, .int .i64 need]
def sealA (n : Int) (r : List UInt8) (A : Option Addr) (k c : Nat) : Array Value := #[.int .i64 n, .string (bs r), .slice A k c]
theorem opens_keys (w : World) : Opens w 33 3 (fun cs (x : List (List UInt8) × List (List UInt8) × Int) => ∃ A c B d, cs = [.slice A x.1.length c, .slice B x.2.1.length d, .int .i64 x.2.2] ∧ sliceR w 1 strR [.slice A x.1.length c] x.1 ∧ sliceR w 1 strR [.slice B x.2.1.length d] x.2.1) (fun x => szs szStr x.1 + szs szStr x.2.1) :=
  (opens_struct Tryz.underlying33 (by kernel_rfl) (opensF_cons rfl (opens_slice Tryz.underlying31 (by kernel_rfl) (opens_string Tryz.underlying9 (by kernel_rfl) w) (by omega)) (opensF_cons rfl (opens_slice Tryz.underlying31 (by kernel_rfl) (opens_string Tryz.underlying9 (by kernel_rfl) w) (by omega)) (opensF_cons rfl (opens_int Tryz.underlying3 (by kernel_rfl) w) (opensF_nil w 3))))).map
    (fun a => (a.1, a.2.1, a.2.2.1)) (by
      rintro cs ⟨ss, ws, n, _⟩ ⟨c1, c2, rfl, _, h1, d1, d2, rfl, _, h2, e1, e2, rfl, _, h3, h4⟩
      have h1' := h1
      have h2' := h2
      obtain ⟨A, c, hc, _⟩ := h1
      obtain ⟨B, d, hd, _⟩ := h2
      simp only at hc hd
      subst hc
      subst hd
      obtain ⟨h5, _⟩ := h3
      simp only at h5
      subst h5
      simp only [nilR] at h4
      subst h4
      exact ⟨A, c, B, d, rfl, h1', h2'⟩) (by intro a; simp only; unfold szStr; omega)
theorem open_keys {w : World} {r : Reach} {base : Nat} {H : Type} {enc : TypeId × Value → H} {v : Value} {d : DataW H} {p : List MemPlace}
    (hv : Value.okWide Tryz.prog w r base 33 v) (hd : DataW.Trod enc Tryz.prog w 0 (fun _ => true) true 33 v d p) (hb : Rows.uptoBulk d ≤ 1048576) :
    ∃ A c B e need ss ws, v = .agg (keysA A (List.length ss) c B (List.length ws) e need) ∧ StrsIn w A c ss ∧ StrsIn w B e ws := by
  obtain ⟨cs, ⟨ss, ws, need⟩, rfl, ⟨A, c, B, e, hc, h1, h2⟩, hs⟩ := open_structD_arg Tryz.underlying33 (opens_keys w) hv hd
  simp only at hc h1 h2 hs
  refine ⟨A, c, B, e, need, ss, ws, ?_, strs_in h1 (by omega), strs_in h2 (by omega)⟩
  unfold keysA
  congr 1
  exact Array.toList_inj.1 hc
/-! ### P11.5 -/
/-- the marks behind a last one: the error -/
def ckM (ws : List (List UInt8)) (b : List UInt8) : Int → List (Int × List UInt8) → Int
  | _, [] => 0
  | last, (w, s) :: r => if w ≤ last ∨ 3 < w ∨ (ws.length : Int) ≤ w then 3 else if seal' (ws.getD w.toNat []) b = s then ckM ws b w r else 13
/-- P11.5: the error -/
def ckH (ws : List (List UInt8)) (n : Int) (r : List UInt8) (ms : List (Int × List UInt8)) : Int :=
  if (hdTxt n r).2 = 0 then (if ckM ws (hd4 ++ (hdTxt n r).1) (-1) ms = 0 then (if ms.length < 3 then 13 else 0) else ckM ws (hd4 ++ (hdTxt n r).1) (-1) ms) else (hdTxt n r).2
/-- where the loop stands: i marks seen, all of them right; the last one's number -/
def ckSeen (ws : List (List UInt8)) (b : List UInt8) (ms : List (Int × List UInt8)) (i : Nat) (last : Int) : Prop :=
  ckM ws b (-1) ms = ckM ws b last (ms.drop i) ∧ (i = 0 → last = -1) ∧ (∀ h : 0 < i ∧ i ≤ ms.length, last = (ms[i - 1]'(by omega)).1 ∧ 0 ≤ last)
theorem ckSeen0 (ws : List (List UInt8)) (b : List UInt8) (ms : List (Int × List UInt8)) : ckSeen ws b ms 0 (-1) := ⟨rfl, fun _ => rfl, fun h => absurd h.1 (by omega)⟩
theorem ckM_cons (ws : List (List UInt8)) (b : List UInt8) (last w : Int) (s : List UInt8) (r : List (Int × List UInt8)) :
    ckM ws b last ((w, s) :: r) = if w ≤ last ∨ 3 < w ∨ (ws.length : Int) ≤ w then 3 else if seal' (ws.getD w.toNat []) b = s then ckM ws b w r else 13 := rfl
theorem ckSeen.here {ws : List (List UInt8)} {b : List UInt8} {ms : List (Int × List UInt8)} {i : Nat} {last : Int} (h : ckSeen ws b ms i last) (hi : i < ms.length) :
    ckM ws b (-1) ms = if ms[i].1 ≤ last ∨ 3 < ms[i].1 ∨ (ws.length : Int) ≤ ms[i].1 then 3 else if seal' (ws.getD ms[i].1.toNat []) b = ms[i].2 then ckM ws b ms[i].1 (ms.drop (i + 1)) else 13 := by
  rw [h.1, List.drop_eq_getElem_cons hi]
  exact ckM_cons ..
theorem ckSeen.next {ws : List (List UInt8)} {b : List UInt8} {ms : List (Int × List UInt8)} {i : Nat} {last : Int} (h : ckSeen ws b ms i last) (hi : i < ms.length)
    (h1 : ¬ (ms[i].1 ≤ last ∨ 3 < ms[i].1 ∨ (ws.length : Int) ≤ ms[i].1)) (h2 : seal' (ws.getD ms[i].1.toNat []) b = ms[i].2) : ckSeen ws b ms (i + 1) ms[i].1 := by
  refine ⟨?_, fun e => absurd e (by omega), fun _ => ⟨rfl, ?_⟩⟩
  · rw [h.here hi, if_neg h1, if_pos h2]
  · have hl : -1 ≤ last := by
      by_cases e : i = 0
      · have := h.2.1 e; omega
      · have := (h.2.2 ⟨by omega, by omega⟩).2; omega
    omega
theorem ckSeen.done {ws : List (List UInt8)} {b : List UInt8} {ms : List (Int × List UInt8)} {i : Nat} {last : Int} (h : ckSeen ws b ms i last) (hi : ms.length ≤ i) : ckM ws b (-1) ms = 0 := by
  rw [h.1, List.drop_eq_nil_of_le hi]
  rfl
theorem ckSeen.low {ws : List (List UInt8)} {b : List UInt8} {ms : List (Int × List UInt8)} {i : Nat} {last : Int} (h : ckSeen ws b ms i last) (hi : i ≤ ms.length) : -1 ≤ last := by
  by_cases e : i = 0
  · have := h.2.1 e; omega
  · have := (h.2.2 ⟨by omega, by omega⟩).2; omega
end Go.Proofs.YtoamnifnfkgbiaaGreatDoor

namespace Go.Proofs.YtoamnifnfkgbiaaGreatDoor
set_option maxRecDepth 100000
open Go.RowKit
set_option linter.unusedVariables false
/-- P10.5: is a seal right -/
def rgB (ss : List (List UInt8)) (b : List UInt8) (w : Int) (sl : List UInt8) : Bool := decide (w < (ss.length : Int)) && (seal' (ss.getD w.toNat []) b == sl)
def rgL (ss : List (List UInt8)) (b : List UInt8) (s : Stp) : List Bool := List.zipWith (rgB ss b) s.who s.seals
/-- P10.5: the error -/
def stCk (ss : List (List UInt8)) (need at_ : Int) (s : Stp) : Int :=
  if stE s = 0 then (if (bodyR at_ s).2 = 0 then (if (rgL ss (bodyR at_ s).1 s).all id = true ∧ need ≤ (s.who.length : Int) then 0 else 13) else (bodyR at_ s).2) else stE s
theorem rgL_len {ss : List (List UInt8)} {b : List UInt8} {s : Stp} (h : s.seals.length = s.who.length) : (rgL ss b s).length = s.who.length := by
  unfold rgL; rw [List.length_zipWith, h, Nat.min_self]
theorem rgL_get {ss : List (List UInt8)} {b : List UInt8} {s : Stp} {i : Nat} (hi : i < s.who.length) (hs : i < s.seals.length) (h : i < (rgL ss b s).length) : (rgL ss b s)[i] = rgB ss b s.who[i] s.seals[i] := by
  exact List.getElem_zipWith (h := h)
theorem all_take (l : List Bool) (i : Nat) (h : i < l.length) (ha : (l.take i).all id = true) : (l.take (i + 1)).all id = l[i] := by
  rw [List.take_succ_eq_append_getElem h, List.all_append, ha]; simp
theorem all_bad (l : List Bool) (i : Nat) (h : i < l.length) (hb : l[i] = false) : l.all id = false := by
  rw [List.all_eq_false]
  exact ⟨l[i], List.getElem_mem h, by simp [hb]⟩
theorem count_take (l : List Bool) (i : Nat) (h : i < l.length) : (l.take (i + 1)).count true = (l.take i).count true + (if l[i] = true then 1 else 0) := by
  rw [List.take_succ_eq_append_getElem h, List.count_append]
  cases l[i] <;> rfl
theorem count_all (l : List Bool) : (l.count true < l.length ↔ l.all id = false) := by
  induction l with
  | nil => simp
  | cons b r ih =>
    have hle := List.count_le_length (a := true) (l := r)
    cases b
    · rw [List.count_cons_of_ne (by simp)]
      simp only [List.length_cons, List.all_cons, id, Bool.false_and, iff_true]
      omega
    · rw [List.count_cons_self]
      simp only [List.length_cons, List.all_cons, id, Bool.true_and]
      rw [← ih]
      omega

set_option maxHeartbeats 8000000 in
theorem stCheck_any (A0 : Option Addr) (m c0 : Nat) (B0 : Option Addr) (m' d0 : Nat) (need : Int) (ss : List (List UInt8)) (at_ : Int) (s : Stp) (A : Option Addr) (c : Nat) (B : Option Addr) (d : Nat) (w : World)
    (hK : StrRow w A0 m ss) (hm : m ≤ 1099511627776) (hss : ∀ x ∈ ss, x.length ≤ 1099511627776) (hR : StR w s A c B d) (hz : StSz 1099511627776 s) (hT : TabK w) :
    Calls Tryz.prog 83 #[.agg (keysA A0 m c0 B0 m' d0 need), .int .i64 at_, .agg (stepA s A c B d)] w fun e w' => e = .returned (.int .i64 (stCk ss need at_ s)) ∧ Gr w w' := by
  obtain ⟨wa, hwa⟩ : ∃ x, x = (w.alloc (.cells (keysA A0 m c0 B0 m' d0 need) 33)).alloc (.cells (stepA s A c B d) 69) := ⟨_, rfl⟩
  have hk : Blk wa w.heap.size 33 (keysA A0 m c0 B0 m' d0 need) := by rw [hwa]; exact (Blk.new w _ _).alloc _
  have hb : Blk wa (w.heap.size + 1) 69 (stepA s A c B d) := by rw [hwa]; exact Blk.new1 w _ _ _
  have hg0 : Gr w wa := by rw [hwa]; exact ((Gr.refl w).alloc _).alloc _
  obtain ⟨p, hp⟩ : ∃ p, p = w.heap.size := ⟨_, rfl⟩
  rw [← hp] at hk hb
  have HGo : Sec (Calls Tryz.prog 80 #[.agg (stepA s A c B d)] wa fun e w' => e = .returned (.int .i64 (stE s)) ∧ Gr wa w') := sec (stGood_any s A c B d wa (hR.gr hg0) hz)
  have HBo : Sec (∀ W, Calls Tryz.prog 125 #[.int .i64 at_, .agg (stepA s A c B d)] W fun e w' => e = .returned (.tuple #[.string (bs (bodyR at_ s).1), .int .i64 (bodyR at_ s).2]) ∧ Gr W w') := sec (fun W => stBody_any at_ s A c B d W hz)
  have HBL := sec (bodyR_len at_ s)
  have HSe : Sec (∀ key : List UInt8, key.length ≤ 1099511627776 → ∀ w', Gr wa w' → Calls Tryz.prog 126 #[.string (bs key), .string (bs (bodyR at_ s).1)] w' fun e w'' => e = .returned (.string (bs (seal' key (bodyR at_ s).1))) ∧ Gr w' w'') := sec (fun key hkey w' g => seal_any key _ w' (hT.gr (hg0.trans g)) (by omega) (by have := HBL.out; omega))
  have HW := sec (hR.who.gr hg0)
  have HS := sec (hR.seals.gr hg0)
  have HKR := sec (hK.gr hg0)
  have HKL := sec (StrRow.len hK)
  have HSS := sec hss
  have hwl := hz.who
  have hsl := hz.seals
  have HSE := sec (fun h => stE_zero (s := s) h)
  obtain ⟨V, hV⟩ : ∃ V : Int, V = stCk ss need at_ s := ⟨_, rfl⟩
  rw [← hV]
  have HV := sec hV
  obtain ⟨E, hE⟩ : ∃ E, E = stE s := ⟨_, rfl⟩
  rw [← hE] at HGo HSE
  have HE := sec hE
  obtain ⟨b, hbb⟩ : ∃ b, b = (bodyR at_ s).1 := ⟨_, rfl⟩
  obtain ⟨be, hbe⟩ : ∃ b, b = (bodyR at_ s).2 := ⟨_, rfl⟩
  rw [← hbb, ← hbe] at HBo
  rw [← hbb] at HSe
  have HVV : Sec (V = if E = 0 then (if be = 0 then (if (rgL ss b s).all id = true ∧ need ≤ (s.who.length : Int) then 0 else 13) else be) else E) := sec (by rw [HV.out, hbb, hbe, hE]; rfl)
  clear hV hE hbb hbe HV HE HBL
  obtain ⟨r, o, n, who, seals⟩ := s
  unfold stepA at hb hwa HGo HBo
  unfold keysA at hk hwa
  unfold stepA keysA
  simp only at hb hwa hwl hsl HW HS HGo HBo HVV HSE ⊢
  have HCELL : Sec (∀ w', Gr wa w' → w'.cell? ⟨p, 0, none⟩ = some (.slice A0 m c0) ∧ w'.cell? ⟨p, 2, none⟩ = some (.int .i64 need) ∧ w'.cell? ⟨p + 1, 0, none⟩ = some (.string (bs r)) ∧ w'.cell? ⟨p + 1, 1, none⟩ = some (.string (bs o)) ∧ w'.cell? ⟨p + 1, 2, none⟩ = some (.string (bs n)) ∧ w'.cell? ⟨p + 1, 3, none⟩ = some (.slice A who.length c) ∧ w'.cell? ⟨p + 1, 4, none⟩ = some (.slice B seals.length d)) := sec (fun w' g => ⟨(hk.gr g).cell 0, (hk.gr g).cell 2, (hb.gr g).cell 0, (hb.gr g).cell 1, (hb.gr g).cell 2, (hb.gr g).cell 3, (hb.gr g).cell 4⟩)
  clear hb hk hK hss hR hz hT
  obtain ⟨u0, u1, u2, u3, u4, u5, u6⟩ := HCELL.out wa (Gr.refl _)
  by_cases h0 : E = 0
  · obtain ⟨-, -, -, -, z4, z5, z6, z7, -⟩ := HSE.out h0
    try simp only at z4 z5 z6 z7
    have HV1 : Sec (V = if be = 0 then (if (rgL ss b ⟨r, o, n, who, seals⟩).all id = true ∧ need ≤ (who.length : Int) then 0 else 13) else be) := sec (by rw [HVV.out, if_pos h0])
    subst h0
    by_cases h1 : be = 0
    · have HV2 : Sec (V = if (rgL ss b ⟨r, o, n, who, seals⟩).all id = true ∧ need ≤ (who.length : Int) then 0 else 13) := sec (by rw [HV1.out, if_pos h1])
      have HSL := sec z5
      have HZ7 := sec z7
      have HRL : Sec ((rgL ss b ⟨r, o, n, who, seals⟩).length = who.length) := sec (rgL_len (s := ⟨r, o, n, who, seals⟩) z5)
      subst h1
      clear HVV HV1 HSE z5 z6 z7
      go_enter Tryz.func83, Tryz.ntmps83
      go_upto_region 1 with fail
      rw [← hwa, ← hp]
      clear hwa hp
      go_wp2_with (first
        | (go_at_call 80; refine Calls.mono HGo.out ?_; rintro e w1 ⟨rfl, g1⟩; obtain ⟨v0, v1, v2, v3, v4, v5, v6⟩ := HCELL.out w1 g1)
        | (go_at_call 125; refine Calls.mono (HBo.out _) ?_; rintro e w2 ⟨rfl, g2'⟩; have g2 : Gr wa w2 := Gr.trans g1 g2'; obtain ⟨t0, t1, t2, t3, t4, t5, t6⟩ := HCELL.out w2 g2))
      clear u0 u1 u2 u3 u4 u5 u6 v0 v1 v2 v3 v4 v5 v6 t0 t1 t2 t3 t4 t5 t6
      go_loopg [29, 10, 11] who.length (fun fuel iv _ _ wr => ∃ i : Nat, iv = .int .i64 (i : Int) ∧ who.length ≤ i + fuel ∧ i ≤ who.length ∧ Sec (((rgL ss b ⟨r, o, n, who, seals⟩).take i).all id = true) ∧ Gr wa wr)
      case atStart => exact ⟨0, rfl, by omega, by omega, sec rfl, g2⟩
      case round =>
        clear g1 g2 g2'
        obtain ⟨i, rfl, hik, hi, HAL, gw⟩ := hrel
        by_cases hlt : i < who.length
        · have hsl2 : i < seals.length := by have := HSL.out; omega
          have hii : (i : Int) < (who.length : Int) := by omega
          have hjj : (i : Int) < (seals.length : Int) := by omega
          have hrl : i < (rgL ss b ⟨r, o, n, who, seals⟩).length := by rw [HRL.out]; exact hlt
          have HGET := sec (rgL_get (ss := ss) (b := b) (s := ⟨r, o, n, who, seals⟩) hlt hsl2 hrl)
          have HAT := sec (all_take _ i hrl HAL.out)
          have HBAD := sec (all_bad _ i hrl)
          have hwz := HZ7.out _ (List.getElem_mem hlt)
          obtain ⟨bk, off, rfl, e0⟩ := (HW.out.gr gw).cell hlt
          obtain ⟨bk2, off2, rfl, -⟩ := (HS.out.gr gw).cell hsl2
          have HX1 : Sec (∀ W, Gr wa W → W.cell? ⟨p, 0, none⟩ = some (.slice A0 m c0) ∧ W.cell? ⟨p + 1, 4, none⟩ = some (.slice (some ⟨bk2, off2, none⟩) seals.length d) ∧ W.cell? ⟨bk2, off2 + i, none⟩ = some (.string (bs seals[i])) ∧ Gr wa W) := sec (fun W g => by
            obtain ⟨b', o', e', h'⟩ := (HS.out.gr g).cell hsl2
            injection e' with e'; injection e' with e3 e4 _
            subst e3 e4
            exact ⟨(HCELL.out W g).1, (HCELL.out W g).2.2.2.2.2.2, h', g⟩)
          obtain ⟨mw, hmw⟩ : ∃ x, x = who[i] := ⟨_, rfl⟩
          obtain ⟨sl, hslx⟩ : ∃ x, x = seals[i] := ⟨_, rfl⟩
          try simp only at HGET
          rw [← hmw, ← hslx] at HGET
          rw [← hmw] at e0 hwz
          rw [← hslx] at HX1
          obtain ⟨a, rfl⟩ : ∃ a : Nat, mw = (a : Int) := ⟨mw.toNat, by omega⟩
          have HII := sec hlt
          have hkl := HKL.out
          clear hmw hslx hsl2 hwz
          obtain ⟨y0, y1, y2, -⟩ := HX1.out wr gw
          by_cases ham : a < m
          · have haw : a < ss.length := by omega
            have hgd : ss.getD (a : Int).toNat [] = ss[a] := by rw [Int.toNat_natCast, List.getD_eq_getElem?_getD, List.getElem?_eq_getElem haw]; rfl
            have HRG : Sec (rgB ss b (a : Int) sl = (seal' ss[a] b == sl)) := sec (by unfold rgB; rw [decide_eq_true (show (a : Int) < (ss.length : Int) by omega), hgd]; rfl)
            obtain ⟨bk3, off3, rfl, -⟩ := (HKR.out.gr gw).cell haw
            have hwsz := HSS.out ss[a] (List.getElem_mem haw)
            have HKP0 : Sec (∀ W, Gr wa W → W.cell? ⟨bk3, off3 + a, none⟩ = some (.string (bs ss[a]))) := sec (fun W g => by
              obtain ⟨b', o', e', h'⟩ := (HKR.out.gr g).cell haw
              injection e' with e'; injection e' with e3 e4 _
              subst e3 e4
              exact h')
            obtain ⟨key, hkey⟩ : ∃ key, key = ss[a] := ⟨_, rfl⟩
            rw [← hkey] at hwsz HRG HKP0
            have HSk := sec (fun W (g : Gr wa W) => HSe.out key hwsz W g)
            obtain ⟨sv, hsv⟩ : ∃ sv, sv = seal' key b := ⟨_, rfl⟩
            rw [← hsv] at HSk HRG
            have q0 : decide (m ≤ a) = false := decide_eq_false (by omega)
            have ham' : (a : Int) < (m : Int) := by omega
            have HKP : Sec (∀ W, Gr wa W → W.cell? ⟨p, 0, none⟩ = some (.slice (some ⟨bk3, off3, none⟩) m c0) ∧ W.cell? ⟨p + 1, 4, none⟩ = some (.slice (some ⟨bk2, off2, none⟩) seals.length d) ∧ W.cell? ⟨bk2, off2 + i, none⟩ = some (.string (bs sl)) ∧ W.cell? ⟨bk3, off3 + a, none⟩ = some (.string (bs key)) ∧ Gr wa W) := sec (fun W g => ⟨(HX1.out W g).1, (HX1.out W g).2.1, (HX1.out W g).2.2.1, HKP0.out W g, g⟩)
            have gd : Gr wa wr.drew := gw.drew
            clear hkey hsv hwsz hgd haw ham hkl
            by_cases hsl3 : sv = sl
            · have HNX : Sec (((rgL ss b ⟨r, o, n, who, seals⟩).take (i + 1)).all id = true) := sec (by rw [HAT.out, HGET.out, HRG.out, hsl3]; simp)
              subst hsl3
              go_wp2_with fail
              go_region_held3 (fun W => W.cell? ⟨p, 0, none⟩ = some (.slice (some ⟨bk3, off3, none⟩) m c0) ∧ W.cell? ⟨p + 1, 4, none⟩ = some (.slice (some ⟨bk2, off2, none⟩) seals.length d) ∧ W.cell? ⟨bk2, off2 + i, none⟩ = some (.string (bs sv)) ∧ W.cell? ⟨bk3, off3 + a, none⟩ = some (.string (bs key)) ∧ Gr wa W)
                (first | with_reducible assumption | with_reducible exact HKP.out _ gd | with_reducible exact HKP.out _ g4 | fail)
                (first
                  | (go_at_call 126; (with_reducible refine Calls.mono (HSk.out wr.drew gd) ?_); rintro e w4 ⟨rfl, g4'⟩; have g4 : Gr wa w4 := Gr.trans gd g4')
                  | fail)
              all_goals
                go_wp2_with fail
                go_roundg (gk - 1)
                case rel => exact ⟨i + 1, by go_num, by omega, HII.out, HNX, g4⟩
                case measure => have := HII.out; omega
            · have HV13 : Sec (V = 13) := sec (by
                have hx : (sv == sl) = false := by rw [beq_eq_false_iff_ne]; exact hsl3
                rw [HV2.out, HBAD.out (by rw [HGET.out, HRG.out, hx]), if_neg (by simp)])
              have hne : (sv == sl) = false := by rw [beq_eq_false_iff_ne]; exact hsl3
              have hne2 : (sv != sl) = true := by rw [bne_iff_ne]; exact hsl3
              clear hsl3
              go_wp2_with fail
              go_region_held3 (fun W => W.cell? ⟨p, 0, none⟩ = some (.slice (some ⟨bk3, off3, none⟩) m c0) ∧ W.cell? ⟨p + 1, 4, none⟩ = some (.slice (some ⟨bk2, off2, none⟩) seals.length d) ∧ W.cell? ⟨bk2, off2 + i, none⟩ = some (.string (bs sl)) ∧ W.cell? ⟨bk3, off3 + a, none⟩ = some (.string (bs key)) ∧ Gr wa W)
                (first | with_reducible assumption | with_reducible exact HKP.out _ gd | with_reducible exact HKP.out _ g4 | fail)
                (first
                  | (go_at_call 126; (with_reducible refine Calls.mono (HSk.out wr.drew gd) ?_); rintro e w4 ⟨rfl, g4'⟩; have g4 : Gr wa w4 := Gr.trans gd g4')
                  | fail)
              all_goals
                go_wp2_with fail
                go_ret
                exact ⟨by rw [HV13.out]; rfl, hg0.trans g4⟩
          · have HRG : Sec (rgB ss b (a : Int) sl = false) := sec (by unfold rgB; rw [decide_eq_false (show ¬ (a : Int) < (ss.length : Int) by omega)]; rfl)
            have HV13 : Sec (V = 13) := sec (by rw [HV2.out, HBAD.out (by rw [HGET.out, HRG.out]), if_neg (by simp)])
            have q0 : decide (m ≤ a) = true := decide_eq_true (by omega)
            clear ham hkl
            go_wp2_with fail
            go_quiet (fail)
            go_wp2_with fail
            go_ret
            exact ⟨by rw [HV13.out]; rfl, hg0.trans (Gr.drewN gw _)⟩
        · have HALL : Sec ((rgL ss b ⟨r, o, n, who, seals⟩).all id = true) := sec (by
            have h := HAL.out
            rwa [List.take_of_length_le (by rw [HRL.out]; omega)] at h)
          obtain hE2 : i = who.length := by omega
          obtain ⟨y0, y1, y2, y3, y4, y5, y6⟩ := HCELL.out wr gw
          have q : decide (i < who.length) = false := decide_eq_false hlt
          clear hE2 hlt hik
          by_cases hn : need ≤ (who.length : Int)
          · have q1 : decide ((who.length : Int) < need) = false := decide_eq_false (by omega)
            have HV0 : Sec (V = 0) := sec (by rw [HV2.out, if_pos ⟨HALL.out, hn⟩])
            clear hn
            go_wp2_with fail
            go_ret
            exact ⟨by rw [HV0.out]; rfl, hg0.trans gw⟩
          · have q1 : decide ((who.length : Int) < need) = true := decide_eq_true (by omega)
            have HV0 : Sec (V = 13) := sec (by rw [HV2.out, if_neg (fun h => hn h.2)])
            clear hn
            go_wp2_with fail
            go_ret
            exact ⟨by rw [HV0.out]; rfl, hg0.trans gw⟩
    · have HV0 : Sec (V = be) := sec (by rw [HV1.out, if_neg h1])
      have m0 : (be != 0) = true := by simpa using h1
      clear HVV HV1 HSE z4 z5 z6 z7
      go_enter Tryz.func83, Tryz.ntmps83
      go_upto_region 1 with fail
      rw [← hwa, ← hp]
      clear hwa hp
      go_wp2_with (first
        | (go_at_call 80; refine Calls.mono HGo.out ?_; rintro e w1 ⟨rfl, g1⟩; obtain ⟨v0, v1, v2, v3, v4, v5, v6⟩ := HCELL.out w1 g1)
        | (go_at_call 125; refine Calls.mono (HBo.out _) ?_; rintro e w2 ⟨rfl, g2'⟩))
      go_ret
      exact ⟨by rw [HV0.out]; rfl, hg0.trans (g1.trans g2')⟩
  · have HV0 : Sec (V = E) := sec (by rw [HVV.out, if_neg h0])
    have m0 : (E != 0) = true := by simpa using h0
    clear HVV HSE
    go_enter Tryz.func83, Tryz.ntmps83
    go_upto_region 1 with fail
    rw [← hwa, ← hp]
    clear hwa hp
    go_wp2_with (go_at_call 80; refine Calls.mono HGo.out ?_; rintro e w1 ⟨rfl, g1⟩)
    go_ret
    exact ⟨by rw [HV0.out]; rfl, hg0.trans g1⟩
end Go.Proofs.YtoamnifnfkgbiaaGreatDoor

namespace Go.Proofs.YtoamnifnfkgbiaaGreatDoor
set_option maxRecDepth 100000
open Go.RowKit
set_option linter.unusedVariables false
/-- where x comes to stand -/
def kx (who : List Int) (x : Int) : Nat := (who.takeWhile fun y => decide (y < x)).length
theorem kx_le (who : List Int) (x : Int) : kx who x ≤ who.length := by
  unfold kx
  induction who with
  | nil => simp
  | cons y r ih =>
    rw [List.takeWhile_cons]
    split
    · simp only [List.length_cons]; omega
    · simp
theorem kx_of (x : Int) : ∀ (who : List Int) (k : Nat), k ≤ who.length → (∀ j (h : j < who.length), j < k → who[j] < x) → (∀ h : k < who.length, ¬ who[k] < x) → kx who x = k
  | [], k, hk, _, _ => by simp at hk; subst hk; rfl
  | y :: r, 0, _, _, h2 => by
    have := h2 (by simp)
    unfold kx
    rw [List.takeWhile_cons, if_neg (by simpa using this)]
    rfl
  | y :: r, k + 1, hk, h1, h2 => by
    have hy := h1 0 (by simp) (by omega)
    have ih := kx_of x r k (by simpa using hk) (fun j hj hjk => by have := h1 (j + 1) (by simpa using hj) (by omega); simpa using this) (fun h => by have := h2 (by simpa using h); simpa using this)
    unfold kx at ih ⊢
    rw [List.takeWhile_cons, if_pos (by simpa using hy), List.length_cons, ih]
/-- the list with x at its place -/
def insL {α : Type} (k : Nat) (x : α) (l : List α) : List α := l.take k ++ [x] ++ l.drop k
theorem insL_len {α : Type} (k : Nat) (x : α) (l : List α) : (insL k x l).length = l.length + 1 := by
  unfold insL
  simp only [List.length_append, List.length_take, List.length_cons, List.length_nil, List.length_drop]
  omega
def stpZ : Stp := ⟨[], [], [], [], []⟩
/-- P10.4 -/
def stSg (s : Stp) (at_ x : Int) (key : List UInt8) : Stp × Int :=
  if stE s = 0 then
    (if (bodyR at_ s).2 = 0 then
      (if x < 0 ∨ 7 < x then (stpZ, 3)
      else if s.who[kx s.who x]? = some x then (stpZ, 8)
      else (⟨s.r, s.o, s.n, insL (kx s.who x) x s.who, insL (kx s.who x) (seal' key (bodyR at_ s).1) s.seals⟩, 0))
    else (stpZ, (bodyR at_ s).2))
  else (stpZ, stE s)
theorem row1 {W : World} {g : Nat} {T : TypeId} {u : Value} (h : Blk W g T #[u]) : Row W 1 (some ⟨g, 0, none⟩) 1 [u] := by
  refine ⟨by simp, fun _ => ⟨g, 0, rfl, fun i v hi => ?_⟩⟩
  have := h.cell i
  rw [Nat.zero_add, this]
  simpa using hi
/-- the first k of a row -/
theorem Row.take1 {w : World} {n : Nat} {A : Option Addr} {vs : List Value} (h : Row w 1 A n vs) (k : Nat) (hk : k ≤ n) : Row w 1 A k (vs.take k) := by
  have hl := h.len
  refine ⟨by rw [List.length_take]; omega, fun h0 => ?_⟩
  obtain ⟨b, off, e, hc⟩ := h.at_ (by omega)
  refine ⟨b, off, e, fun i v hi => hc i v ?_⟩
  rw [List.getElem?_take] at hi
  split at hi
  · exact hi
  · cases hi
/-- what is behind the first k of a row -/
theorem Row.drop1 {w : World} {n b off : Nat} {vs : List Value} (h : Row w 1 (some ⟨b, off, none⟩) n vs) (k : Nat) (hk : k ≤ n) : Row w 1 (some ⟨b, off + k, none⟩) (n - k) (vs.drop k) := by
  have hl := h.len
  refine ⟨by rw [List.length_drop]; omega, fun h0 => ?_⟩
  obtain ⟨b', off', e, hc⟩ := h.at_ (by omega)
  injection e with e; injection e with e1 e2 _
  subst e1 e2
  refine ⟨b, off + k, rfl, fun i v hi => ?_⟩
  rw [List.getElem?_drop] at hi
  have := hc (k + i) v hi
  rwa [← Nat.add_assoc] at this
theorem Row.none1 {w : World} {A : Option Addr} {vs : List Value} (n : Nat) (h : vs.length ≤ n) : Row w 1 A 0 (vs.drop n) := by
  rw [List.drop_eq_nil_of_le h]
  exact Row.nil w 1 A
/-- append of one piece that was just built, one cell, at a step of a region that draws its order -/
theorem step_append_oneS {ops : Array Oper} {o : Oper} {a : Act} {K : Act → World → Prop} {Q : Exit → Act → World → Prop} {X : Prop} {w : World} {t e : TypeId} {z : Value} {bytes : Nat}
    (E : ElemOk t e z 1 bytes) (hgd : o.guard = none) (s x : Operand) (ho : o.op = .call { callee := .builtin .append, args := #[s, x], argTypes := #[t, t] })
    {A : Option Addr} {B n cap : Nat} {xs : List Value} (hs : a.eval s = .slice A n cap) (hown : w.ownsRow B e 1 (.slice A n cap) n xs)
    {u : Value} {c : Nat} (hx : a.eval x = .slice (some ⟨w.heap.size, 0, none⟩) 1 c) (h1 : u.oneCell' = true)
    (hbytes : (n + 1) * bytes ≤ 140737488355328) (h63 : n + 1 ≤ maxLen) (hB : B ≤ w.heap.size)
    (h : ∀ g cap' w', w'.ownsRow B e 1 (.slice (some ⟨g, 0, none⟩) (n + 1) cap') (n + 1) (xs ++ [u]) → w.grownBy w' (Value.ownBlock (.slice A n cap)) → K (a.put o.dst (.slice (some ⟨g, 0, none⟩) (n + 1) cap')) w') :
    if Region.wanted o (yielded ops a.tmps) = true then Oper.wp Tryz.prog o a (w.alloc (.cells #[u] e)) K Q else X := by
  obtain ⟨i0, hi0, hz0, hz1, hz2⟩ := info_parts E.info
  refine step_append_lies _ hgd s x t ho B e i0 z 1 bytes E.under hi0 hz0 hz1 hz2 E.zcells E.pos _ n xs hs (hown.alloc _) ⟨w.heap.size, 0, none⟩ 1 c [u] hx (by simp) ?_ (by intro v hv; simp at hv; subst hv; exact h1) (by omega) h63 hbytes (by simp; omega) _ rfl ?_
  · intro j v hv
    have hc : (w.alloc (.cells #[u] e)).cell? ⟨w.heap.size, j, none⟩ = (#[u] : Array Value)[j]? := World.cell?_alloc_mark w #[u] e (0, 0) j
    rw [add_zero_block, hc]
    simpa using hv
  · intro g cap' w' hown' hg hat _
    exact h g cap' w' hown' ⟨hg.os, hg.tape, hg.output, by have := hg.size; simp at this; omega, fun k hk hne => (hg.block k (by simp; omega) hne).trans (Below.heap_alloc w _ k hk)⟩
theorem own_lowS {w : World} {B B' e size n : Nat} {v : Value} {xs : List Value} (h : w.ownsRow B e size v n xs) (hle : B' ≤ B) : w.ownsRow B' e size v n xs := by
  refine ⟨h.1, ?_⟩
  rcases h.2 with h0 | ⟨g, cap, cur, hv, hB, r⟩
  · exact .inl h0
  · exact .inr ⟨g, cap, cur, hv, Nat.le_trans hle hB, r⟩
theorem StR.zero (w : World) : StR w stpZ none 0 none 0 := ⟨Row.nil w 1 none, Row.nil w 1 none, fun _ => ⟨rfl, rfl⟩, fun _ => ⟨rfl, rfl⟩, Nat.le_refl _, Nat.le_refl _⟩
/-- behind the first field's turn -/
structure SgMid (w : World) (p : Nat) (r o n : List UInt8) (N : Nat) (who' : List Int) (B : Option Addr) (m d : Nat) (wx : World) : Prop where
  ex : ∃ A1 c1, Blk wx p 69 #[.string (bs r), .string (bs o), .string (bs n), .slice A1 N c1, .slice B m d] ∧ wx.ownsRow (p + 1 + 1) 3 1 (.slice A1 N c1) N (who'.map iV)
  z : Blk wx (p + 1) 69 #[.string (bs []), .string (bs []), .string (bs []), .slice none 0 0, .slice none 0 0]
  gr : Gr w wx
theorem sgMid_set {w W : World} {p N c1 : Nat} {r o n : List UInt8} {A A1 B : Option Addr} {c m d nn : Nat} {who' : List Int} (hb : Blk W p 69 #[.string (bs r), .string (bs o), .string (bs n), .slice A nn c, .slice B m d])
    (hz : Blk W (p + 1) 69 #[.string (bs []), .string (bs []), .string (bs []), .slice none 0 0, .slice none 0 0]) (g : Gr w W) (hp : w.heap.size ≤ p)
    (ho : W.ownsRow (p + 1 + 1) 3 1 (.slice A1 N c1) N (who'.map iV)) : SgMid w p r o n N who' B m d (W.setCell ⟨p, 3, none⟩ (.slice A1 N c1)) :=
  ⟨⟨A1, c1, hb.set_ 3 _, ownsRow_setCell_other ho (a := ⟨p, 3, none⟩) (fun e => by have h1 := (ho.lt p e).1; omega) _⟩, hz.far (p := ⟨p, 3, none⟩) (by show p + 1 ≠ p; omega) _, g.setCell (p := ⟨p, 3, none⟩) hp _⟩
/-- behind both -/
structure SgEnd (w : World) (p : Nat) (r o n : List UInt8) (N : Nat) (who' : List Int) (seals' : List (List UInt8)) (wx : World) : Prop where
  ex : ∃ A1 c1 B1 d1, Blk wx p 69 #[.string (bs r), .string (bs o), .string (bs n), .slice A1 N c1, .slice B1 N d1] ∧ wx.ownsRow (p + 1 + 1) 3 1 (.slice A1 N c1) N (who'.map iV) ∧ wx.ownsRow (p + 1 + 1) 9 1 (.slice B1 N d1) N (seals'.map strV)
  z : Blk wx (p + 1) 69 #[.string (bs []), .string (bs []), .string (bs []), .slice none 0 0, .slice none 0 0]
  gr : Gr w wx
theorem sgEnd_set {w W : World} {p N c1 d1 : Nat} {r o n : List UInt8} {A1 B B1 : Option Addr} {m d : Nat} {who' : List Int} {seals' : List (List UInt8)} (hb : Blk W p 69 #[.string (bs r), .string (bs o), .string (bs n), .slice A1 N c1, .slice B m d])
    (hz : Blk W (p + 1) 69 #[.string (bs []), .string (bs []), .string (bs []), .slice none 0 0, .slice none 0 0]) (g : Gr w W) (hp : w.heap.size ≤ p)
    (ho : W.ownsRow (p + 1 + 1) 3 1 (.slice A1 N c1) N (who'.map iV)) (ho2 : W.ownsRow (p + 1 + 1) 9 1 (.slice B1 N d1) N (seals'.map strV)) : SgEnd w p r o n N who' seals' (W.setCell ⟨p, 4, none⟩ (.slice B1 N d1)) :=
  ⟨⟨A1, c1, B1, d1, hb.set_ 4 _, ownsRow_setCell_other ho (a := ⟨p, 4, none⟩) (fun e => by have h1 := (ho.lt p e).1; omega) _, ownsRow_setCell_other ho2 (a := ⟨p, 4, none⟩) (fun e => by have h1 := (ho2.lt p e).1; omega) _⟩, hz.far (p := ⟨p, 4, none⟩) (by show p + 1 ≠ p; omega) _, g.setCell (p := ⟨p, 4, none⟩) hp _⟩
theorem ins_map {α β : Type} (f : α → β) (k : Nat) (x : α) (l : List α) : (insL k x l).map f = (l.map f).take k ++ [f x] ++ (l.map f).drop k := by
  unfold insL
  simp [List.map_take, List.map_drop]
end Go.Proofs.YtoamnifnfkgbiaaGreatDoor

namespace Go.Proofs.YtoamnifnfkgbiaaGreatDoor
set_option maxRecDepth 100000
open Go.RowKit
set_option linter.unusedVariables false
theorem gKp {l : List UInt8} (h : gE l = 0) : 0 < gK l := by
  unfold gE at h
  unfold gK
  rcases hg : get l with _ | ⟨n, k⟩
  · rw [hg] at h; cases h
  · exact (get_le hg).2.1
theorem nxtN_ltD (q : St) : nxtN q < 4611686018427387904 := by
  unfold nxtN
  split
  · exact gN_lt _
  · omega
theorem aftN_le (q : St) : (aftN q).1.length ≤ q.1.length := by
  unfold aftN; split
  · simp
  · exact Nat.le_refl _
theorem aftN_less {q : St} (h : q.2 = 0) (h2 : (aftN q).2 = 0) : (aftN q).1.length < q.1.length := by
  unfold aftN at h2 ⊢
  rw [if_pos h] at h2 ⊢
  have := gKp h2
  have := (gK_le q.1).1
  simp; omega
theorem aftB_le (n : Int) (q : St) : (aftB n q).1.length ≤ q.1.length := by
  unfold aftB
  split
  · split
    · simp
    · exact Nat.le_refl _
  · exact Nat.le_refl _
theorem aftB_okD {n : Int} {q : St} (h : (aftB n q).2 = 0) : q.2 = 0 := by
  unfold aftB at h
  split at h
  · assumption
  · exact h
theorem nxtB_le (q : St) : (nxtB 32 q).length ≤ 32 := by
  unfold nxtB
  split
  · rw [List.length_take]; exact Nat.min_le_left _ _
  · simp
theorem aftT_le (q : St) : (aftT q).1.length ≤ q.1.length := by
  unfold aftT; split
  · simp
  · exact Nat.le_refl _
theorem nxtT_le (q : St) : (nxtT q).length ≤ q.1.length := by
  unfold nxtT
  split
  · unfold tS
    split
    · unfold sub; simp only [List.length_take, List.length_drop]; omega
    · simp
  · simp
/-- so many pairs of a number and 32 bytes, as long as nothing went wrong -/
def dcL : Nat → St → List Int × List (List UInt8) × St
  | 0, q => ([], [], q)
  | n + 1, q => if q.2 = 0 then ((nxtN q : Int) :: (dcL n (aftB 32 (aftN q))).1, nxtB 32 (aftN q) :: (dcL n (aftB 32 (aftN q))).2.1, (dcL n (aftB 32 (aftN q))).2.2) else ([], [], q)
/-- i pairs are read, n are to come -/
structure DcAt (k n0 : Nat) (q0 : St) (i n : Nat) (q : St) (W : List Int) (S : List (List UInt8)) : Prop where
  all : dcL n0 q0 = (W ++ (dcL n q).1, S ++ (dcL n q).2.1, (dcL n q).2.2)
  sum : i + n = n0
  wl : W.length = i
  sl : S.length = i
  le : i ≤ k + 1
  left : q.2 = 0 → q.1.length + i ≤ k
  len : q.1.length ≤ k
  each : ∀ x ∈ S, x.length ≤ 32
theorem DcAt.start {k n0 : Nat} {q0 : St} (h : q0.1.length ≤ k) : DcAt k n0 q0 0 n0 q0 [] [] :=
  ⟨rfl, by omega, rfl, rfl, by omega, fun _ => by omega, h, by simp⟩
theorem DcAt.next {k n0 : Nat} {q0 : St} {i n : Nat} {q : St} {W : List Int} {S : List (List UInt8)} (h : DcAt k n0 q0 i (n + 1) q W S) (h0 : q.2 = 0) :
    DcAt k n0 q0 (i + 1) n (aftB 32 (aftN q)) (W ++ [(nxtN q : Int)]) (S ++ [nxtB 32 (aftN q)]) := by
  have hl := h.left h0
  have h1 := aftB_le 32 (aftN q)
  have h2 := aftN_le q
  refine ⟨?_, by have := h.sum; omega, by rw [List.length_append, h.wl]; rfl, by rw [List.length_append, h.sl]; rfl, by omega, fun e => ?_, by omega, fun x hx => ?_⟩
  · have := h.all
    rw [dcL, if_pos h0] at this
    rw [this]
    simp
  · have := aftN_less h0 (aftB_okD e)
    omega
  · rcases List.mem_append.1 hx with hx | hx
    · exact h.each x hx
    · simp at hx; subst hx; exact nxtB_le _
theorem DcAt.bad {k n0 : Nat} {q0 : St} {i n : Nat} {q : St} {W : List Int} {S : List (List UInt8)} (h : DcAt k n0 q0 i n q W S) (h0 : ¬ q.2 = 0) : dcL n0 q0 = (W, S, q) := by
  have := h.all
  cases n with
  | zero => simpa [dcL] using this
  | succ n => rw [dcL, if_neg h0] at this; simpa using this
theorem DcAt.done {k n0 : Nat} {q0 : St} {i : Nat} {q : St} {W : List Int} {S : List (List UInt8)} (h : DcAt k n0 q0 i 0 q W S) : dcL n0 q0 = (W, S, q) := by
  have := h.all
  simpa [dcL] using this
/-- behind the three texts -/
def dc3 (b : List UInt8) : St := aftT (aftT (aftT (b, 0)))
def dcLs (b : List UInt8) : List Int × List (List UInt8) × St := dcL (nxtN (dc3 b)) (aftN (dc3 b))
/-- the step as it is read -/
def dcS (b : List UInt8) : Stp := ⟨nxtT (b, 0), nxtT (aftT (b, 0)), nxtT (aftT (aftT (b, 0))), (dcLs b).1, (dcLs b).2.1⟩
/-- P10.3: what is read, and the error -/
def dcR (b : List UInt8) : Stp × Int := if (dcLs b).2.2.2 = 0 ∧ (dcLs b).2.2.1.length = 0 then (if stE (dcS b) = 0 then (dcS b, 0) else (stpZ, stE (dcS b))) else (stpZ, 2)
theorem dc3_le (b : List UInt8) : (dc3 b).1.length ≤ b.length := by
  unfold dc3
  have h1 := aftT_le (aftT (aftT (b, 0)))
  have h2 := aftT_le (aftT (b, 0))
  have h3 := aftT_le (b, 0)
  simp only at h3
  omega
end Go.Proofs.YtoamnifnfkgbiaaGreatDoor

namespace Go.Proofs.YtoamnifnfkgbiaaGreatDoor
set_option maxRecDepth 100000
open Go.RowKit
set_option linter.unusedVariables false
abbrev Rf := List UInt8 × List UInt8
def refV (f : Rf) : List Value := [.string (bs f.1), .string (bs f.2)]
theorem E.ref : ElemOk 28 126 (.agg #[.string (bs []), .string (bs [])]) 2 32 := ⟨Tryz.underlying28, by kernel_rfl, rfl, by omega⟩
def RfRow (w : World) (A : Option Addr) (n : Nat) (fs : List Rf) : Prop := Row w 2 A n (fs.flatMap refV)
theorem RfRow.gr {w w' : World} {A : Option Addr} {n : Nat} {fs : List Rf} (h : RfRow w A n fs) (g : Gr w w') : RfRow w' A n fs := Row.gr h g
theorem RfRow.len {w : World} {A : Option Addr} {n : Nat} {fs : List Rf} (h : RfRow w A n fs) : fs.length = n := Row.flen refV (fun _ => rfl) (by omega) h
theorem RfRow.cell {w : World} {A : Option Addr} {n : Nat} {fs : List Rf} (h : RfRow w A n fs) {i : Nat} (hi : i < fs.length) :
    ∃ b off, A = some ⟨b, off, none⟩ ∧ w.cell? ⟨b, off + i * 2, none⟩ = some (.string (bs fs[i].1)) ∧ w.cell? ⟨b, off + i * 2 + 1, none⟩ = some (.string (bs fs[i].2)) := by
  obtain ⟨b, off, e, _, hc⟩ := Row.fcell refV (fun _ => rfl) (by omega) h hi
  exact ⟨b, off, e, hc 0 _ rfl, hc 1 _ rfl⟩
theorem refV_one {fs : List Rf} : ∀ u ∈ fs.flatMap refV, u.oneCell' = true := by
  intro u hu
  obtain ⟨f, _, h⟩ := List.mem_flatMap.1 hu
  simp only [refV, List.mem_cons, List.not_mem_nil, or_false] at h
  rcases h with rfl | rfl <;> rfl

/-- P8.2: one ref -/
def rfOk (f : Rf) : Bool := refB f.1 && decide (f.2.length = 32)
def rgFrom : List UInt8 → List Rf → Bool
  | _, [] => true
  | last, f :: r => rfOk f && ltB last f.1 && rgFrom f.1 r
/-- P8.2 -/
def goodR (fs : List Rf) : Bool := decide (fs.length ≤ 32) && rgFrom [] fs
theorem refB_ne {s : List UInt8} (h : refB s = true) : s ≠ [] := by
  rintro rfl
  exact absurd h (by decide)
theorem rgFrom_cons (last : List UInt8) (f : Rf) (r : List Rf) : rgFrom last (f :: r) = (rfOk f && ltB last f.1 && rgFrom f.1 r) := rfl
theorem rgFrom_sorted : ∀ (fs : List Rf) (last : List UInt8), rgFrom last fs = true → (∀ f ∈ fs, ltB last f.1 = true ∧ rfOk f = true) ∧ fs.Pairwise (fun f g => ltB f.1 g.1 = true)
  | [], _, _ => ⟨fun f hf => by simp at hf, List.Pairwise.nil⟩
  | f :: r, last, h => by
    rw [rgFrom_cons, Bool.and_eq_true, Bool.and_eq_true] at h
    obtain ⟨⟨h1, h2⟩, h3⟩ := h
    have ih := rgFrom_sorted r f.1 h3
    refine ⟨fun g hg => ?_, List.Pairwise.cons (fun g hg => (ih.1 g hg).1) ih.2⟩
    rcases List.mem_cons.1 hg with rfl | hg
    · exact ⟨h2, h1⟩
    · exact ⟨ltB_trans _ _ _ h2 (ih.1 g hg).1, (ih.1 g hg).2⟩
theorem goodR_sorted {fs : List Rf} (h : goodR fs = true) : fs.length ≤ 32 ∧ (∀ f ∈ fs, refB f.1 = true ∧ f.2.length = 32) ∧ fs.Pairwise (fun f g => ltB f.1 g.1 = true) := by
  unfold goodR at h
  rw [Bool.and_eq_true, decide_eq_true_eq] at h
  obtain ⟨a, b⟩ := rgFrom_sorted fs [] h.2
  refine ⟨h.1, fun f hf => ?_, b⟩
  have := (a f hf).2
  unfold rfOk at this
  rw [Bool.and_eq_true, decide_eq_true_eq] at this
  exact this
/-- where the loop stands: i seen, all of them right; the last one's name -/
def rgSeen (fs : List Rf) (i : Nat) (last : List UInt8) : Prop := rgFrom [] fs = rgFrom last (fs.drop i) ∧ (i = 0 → last = []) ∧ ∀ h : 0 < i ∧ i ≤ fs.length, last = (fs[i - 1]'(by omega)).1
theorem rgSeen0 (fs : List Rf) : rgSeen fs 0 [] := ⟨rfl, fun _ => rfl, fun h => absurd h.1 (by omega)⟩
theorem rgSeen.here {fs : List Rf} {i : Nat} {last : List UInt8} (h : rgSeen fs i last) (hi : i < fs.length) : rgFrom [] fs = (rfOk fs[i] && ltB last fs[i].1 && rgFrom fs[i].1 (fs.drop (i + 1))) := by
  rw [h.1, List.drop_eq_getElem_cons hi]
  rfl
theorem rgSeen.next {fs : List Rf} {i : Nat} {last : List UInt8} (h : rgSeen fs i last) (hi : i < fs.length) (h1 : rfOk fs[i] = true) (h2 : ltB last fs[i].1 = true) : rgSeen fs (i + 1) fs[i].1 := by
  refine ⟨?_, fun e => absurd e (by omega), fun _ => rfl⟩
  rw [h.here hi, h1, h2]
  rfl
theorem rgSeen.done {fs : List Rf} {i : Nat} {last : List UInt8} (h : rgSeen fs i last) (hi : fs.length ≤ i) : rgFrom [] fs = true := by
  rw [h.1, List.drop_eq_nil_of_le hi]
  rfl
theorem ltB_nil' {s : List UInt8} (h : s ≠ []) : ltB [] s = true := by
  cases s with
  | nil => exact absurd rfl h
  | cons => rfl

/-! ### by name -/
/-- where a name stands or would -/
def lbR (name : List UInt8) (fs : List Rf) : Nat := (fs.takeWhile (fun f => ltB f.1 name)).length
def hasR (name : List UInt8) (fs : List Rf) : Bool := fs.any (fun f => f.1 == name)
/-- what a name stands for: the first -/
def getR (fs : List Rf) (name : List UInt8) : List UInt8 := ((fs.find? (fun f => f.1 == name)).map (·.2)).getD []
def insR (i : Nat) (f : Rf) (fs : List Rf) : List Rf := fs.take i ++ f :: fs.drop i
/-- P8.3 -/
def setR (fs : List Rf) (name old id : List UInt8) : List Rf × Int :=
  if goodR fs = true then
    (if refB name = true ∧ mayB old = true ∧ mayB id = true then
      (if getR fs name = old then
        (if hasR name fs = true then (if id = [] then (fs.eraseIdx (lbR name fs), 0) else (fs.set (lbR name fs) (name, id), 0))
        else if id = [] then (fs, 0) else if 32 ≤ fs.length then ([], 6) else (insR (lbR name fs) (name, id) fs, 0))
      else ([], 9))
    else ([], 2))
  else ([], 3)
end Go.Proofs.YtoamnifnfkgbiaaGreatDoor

namespace Go.Proofs.YtoamnifnfkgbiaaGreatDoor
open Go.RowKit
set_option linter.unusedVariables false
abbrev SortedR (fs : List Rf) : Prop := fs.Pairwise (fun f g => ltB f.1 g.1 = true)
theorem lbR_le (name : List UInt8) (fs : List Rf) : lbR name fs ≤ fs.length := by
  unfold lbR
  exact (List.takeWhile_sublist _).length_le
theorem lbR_of (name : List UInt8) : ∀ (fs : List Rf) (i : Nat), i ≤ fs.length → (∀ m (hm : m < fs.length), m < i → ltB fs[m].1 name = true) → (∀ hm : i < fs.length, ltB fs[i].1 name = false) → lbR name fs = i
  | [], i, hi, _, _ => by
    have : i = 0 := by simpa using hi
    subst this; rfl
  | f :: r, 0, hi, _, h2 => by
    have := h2 (by simp)
    simp only [List.getElem_cons_zero] at this
    unfold lbR
    rw [List.takeWhile_cons, this]; rfl
  | f :: r, i + 1, hi, h1, h2 => by
    have h0 := h1 0 (by simp) (by omega)
    simp only [List.getElem_cons_zero] at h0
    have ih := lbR_of name r i (by simpa using hi) (fun m hm hl => by have := h1 (m + 1) (by simp; omega) (by omega); simpa using this)
      (fun hm => by have := h2 (by simp; omega); simpa using this)
    unfold lbR at ih ⊢
    rw [List.takeWhile_cons, h0]
    simp [ih]
theorem SortedR.get {fs : List Rf} (h : SortedR fs) {i j : Nat} (hj : j < fs.length) (hij : i < j) : ltB (fs[i]'(by omega)).1 fs[j].1 = true :=
  List.pairwise_iff_getElem.1 h i j (by omega) hj hij
theorem SortedR.below {fs : List Rf} (h : SortedR fs) {name : List UInt8} {i j : Nat} (hj : j < fs.length) (hij : i ≤ j) (hl : ltB fs[j].1 name = true) : ltB (fs[i]'(by omega)).1 name = true := by
  rcases Nat.lt_or_eq_of_le hij with h1 | rfl
  · exact ltB_trans _ _ _ (h.get hj h1) hl
  · exact hl
theorem SortedR.above {fs : List Rf} (h : SortedR fs) {name : List UInt8} {i j : Nat} (hj : j < fs.length) (hij : i ≤ j) (hl : ltB (fs[i]'(by omega)).1 name = false) : ltB fs[j].1 name = false := by
  cases h2 : ltB fs[j].1 name with
  | false => rfl
  | true => rw [h.below hj hij h2] at hl; cases hl
/-- the name is there iff it stands at the place -/
theorem hasr_of {fs : List Rf} (h : SortedR fs) {name : List UInt8} {i : Nat} (h1 : ∀ m (hm : m < fs.length), m < i → ltB fs[m].1 name = true) (hi : i < fs.length) (h2 : ltB fs[i].1 name = false) :
    hasR name fs = (fs[i].1 == name) := by
  unfold hasR
  cases he : fs[i].1 == name with
  | true => exact List.any_eq_true.2 ⟨fs[i], List.getElem_mem hi, he⟩
  | false =>
    refine List.any_eq_false.2 fun f hf => ?_
    obtain ⟨m, hm, rfl⟩ := List.getElem_of_mem hf
    intro hmn
    have hmn : fs[m].1 = name := by simpa using hmn
    rcases Nat.lt_trichotomy m i with h3 | rfl | h3
    · have := h1 m hm h3
      rw [hmn, ltB_irr] at this; cases this
    · rw [hmn] at he; simp at he
    · have := h.get hm h3
      rw [hmn, h2] at this; cases this
theorem hasr_of_end {fs : List Rf} {name : List UInt8} {i : Nat} (h1 : ∀ m (hm : m < fs.length), m < i → ltB fs[m].1 name = true) (hi : fs.length ≤ i) : hasR name fs = false := by
  unfold hasR
  refine List.any_eq_false.2 fun f hf => ?_
  obtain ⟨m, hm, rfl⟩ := List.getElem_of_mem hf
  intro hmn
  have hmn : fs[m].1 = name := by simpa using hmn
  have := h1 m hm (by omega)
  rw [hmn, ltB_irr] at this; cases this
theorem hasR_lt {fs : List Rf} {name : List UInt8} (h : SortedR fs) (hh : hasR name fs = true) : ∃ hi : lbR name fs < fs.length, fs[lbR name fs].1 = name := by
  obtain ⟨f, hf, hn⟩ := List.any_eq_true.1 hh
  obtain ⟨m, hm, rfl⟩ := List.getElem_of_mem hf
  have hmn : fs[m].1 = name := by simpa using hn
  have : lbR name fs = m := lbR_of name fs m (by omega) (fun k hk hl => by rw [← hmn]; exact h.get hm hl) (fun _ => by rw [hmn]; exact ltB_irr _)
  refine ⟨by omega, ?_⟩
  simp only [this]; exact hmn

def cmpR (a b : List UInt8) : Int := Lib.compareBytes a b

set_option maxRecDepth 100000 in
set_option maxHeartbeats 1000000 in
theorem rfindCl_any (nm sf name : List UInt8) (w : World) :
    Calls Tryz.prog 179 #[.agg #[.string (bs nm), .string (bs sf)], .string (bs name)] w fun e w' => e = .returned (.int .i64 (cmpR nm name)) ∧ Gr w w' := by
  go_enter Tryz.func179, Tryz.ntmps179
  go_wp2_with (go_at_call 167; refine Calls.mono (compare_any nm name _) ?_; rintro e w1 ⟨rfl, rfl⟩)
  go_ret
  exact ⟨rfl, (Gr.refl w).alloc _⟩

set_option maxRecDepth 100000 in
set_option maxHeartbeats 4000000 in
theorem rbsearch_any (fs : List Rf) (name : List UInt8) (A : Option Addr) (n cap : Nat) (w : World) (hn : n ≤ 1099511627776) (hx : RfRow w A n fs) (hso : SortedR fs) :
    Calls Tryz.prog 178 #[.slice A n cap, .string (bs name), .func (.func 179) #[] #[]] w
      fun e w' => e = .returned (.tuple #[.int .i64 (lbR name fs : Int), .bool (hasR name fs)]) ∧ Gr w w' := by
  have hl := hx.len
  have HX := sec hx
  have HS := sec hso
  have eg : ∀ args w, (callFunc 179 args).run Tryz.prog w = .ok (.enter 179 args) w := enters_own Tryz.func179 (by kernel_rfl) rfl
  clear hx hso
  go_enter Tryz.func178, Tryz.ntmps178
  go_wp2_with fail
  go_loopw [9, 10, 11] (fun iv jv _ wr => ∃ i j : Nat, iv = .int .i64 (i : Int) ∧ jv = .int .i64 (j : Int) ∧ i ≤ j ∧ j ≤ n ∧ Sec (∀ m (hm : m < fs.length), m < i → ltB fs[m].1 name = true) ∧ Sec (∀ m (hm : m < fs.length), j ≤ m → ltB fs[m].1 name = false) ∧ Gr w wr)
    (fun iv jv _ _ => (intOf jv).toNat - (intOf iv).toNat)
  case atStart => exact ⟨0, n, rfl, rfl, by omega, by omega, sec (fun m hm h => by omega), sec (fun m hm h => by omega), Gr.refl _⟩
  case round =>
    obtain ⟨i, j, rfl, rfl, hij, hj, H1, H2, hg⟩ := hrel
    by_cases hlt : i < j
    · have hii : (i : Int) < (j : Int) := by omega
      obtain ⟨h, hh⟩ : ∃ h, h = (i + j) / 2 := ⟨_, rfl⟩
      have q1 : ((i : Int) + (j : Int)) / 2 = (h : Int) := by omega
      have hih : i ≤ h := by omega
      have hhj : h < j := by omega
      have hhn : (h : Int) < (n : Int) := by omega
      have hhf : h < fs.length := by omega
      obtain ⟨b, off, rfl, e0, e1⟩ := (HX.out.gr hg).cell hhf
      have HH : Sec (fs[h] = fs[h]) := sec rfl
      have HLT : Sec (ltB fs[h].1 name = true → ∀ m (hm : m < fs.length), m < h + 1 → ltB fs[m].1 name = true) := sec (fun hb m hm hl => HS.out.below hhf (by omega) hb)
      have HGE : Sec (ltB fs[h].1 name = false → ∀ m (hm : m < fs.length), h ≤ m → ltB fs[m].1 name = false) := sec (fun hb m hm hl => HS.out.above hm hl hb)
      obtain ⟨x, hxx⟩ : ∃ x, x = fs[h] := ⟨_, rfl⟩
      rw [← hxx] at e0 e1 HLT HGE
      clear hxx HH hh hhf
      obtain ⟨nm, sf⟩ := x
      simp only at e0 e1 HLT HGE
      have HC := sec (fun w => rfindCl_any nm sf name w)
      have hcm := (cmp_lt nm name).1
      cases hb : ltB nm name with
      | true =>
        have q2 : cmpR nm name < 0 := hcm.2 hb
        have H1' := sec (HLT.out hb)
        clear HLT HGE hcm hb
        go_wp2_with (refine Calls.mono (HC.out _) ?_; rintro e w1 ⟨rfl, g1⟩)
        go_roundw
        case rel => exact ⟨h + 1, j, by go_num, rfl, by omega, by omega, H1', H2, hg.trans g1⟩
        case measure => simp [intOf]; omega
      | false =>
        have q2 : ¬ cmpR nm name < 0 := fun h => by rw [hcm.1 h] at hb; cases hb
        have H2' := sec (HGE.out hb)
        clear HLT HGE hcm hb
        go_wp2_with (refine Calls.mono (HC.out _) ?_; rintro e w1 ⟨rfl, g1⟩)
        go_roundw
        case rel => exact ⟨i, h, rfl, by go_num, by omega, by omega, H1, H2', hg.trans g1⟩
        case measure => simp [intOf]; omega
    · obtain rfl : i = j := by omega
      by_cases hin : i < n
      · have hif : i < fs.length := by omega
        have hii : (i : Int) < (n : Int) := by omega
        have HL : Sec (lbR name fs = i) := sec (lbR_of name fs i (by omega) H1.out (fun h => H2.out i h (Nat.le_refl _)))
        have HE : Sec (hasR name fs = (fs[i].1 == name)) := sec (hasr_of HS.out H1.out hif (H2.out i hif (Nat.le_refl _)))
        obtain ⟨b, off, rfl, e0, e1⟩ := (HX.out.gr hg).cell hif
        obtain ⟨x, hxx⟩ : ∃ x, x = fs[i] := ⟨_, rfl⟩
        rw [← hxx] at e0 e1 HE
        clear hxx hif hlt
        obtain ⟨nm, sf⟩ := x
        simp only at e0 e1 HE
        have HC := sec (fun w => rfindCl_any nm sf name w)
        have hcm := (cmp_lt nm name).2
        cases hb : nm == name with
        | true =>
          have q2 : cmpR nm name = 0 := hcm.2 (by simpa using hb)
          rw [hb] at HE
          clear hcm hb
          go_wp2_with (refine Calls.mono (HC.out _) ?_; rintro e w1 ⟨rfl, g1⟩)
          go_ret2
          exact ⟨by rw [HL.out, HE.out]; rfl, hg.trans g1⟩
        | false =>
          have q2 : (cmpR nm name == 0) = false := beq_eq_false_iff_ne.2 (fun h => by rw [hcm.1 h] at hb; simp at hb)
          rw [hb] at HE
          clear hcm hb
          go_wp2_with (refine Calls.mono (HC.out _) ?_; rintro e w1 ⟨rfl, g1⟩)
          go_ret2
          exact ⟨by rw [HL.out, HE.out]; rfl, hg.trans g1⟩
      · obtain rfl : i = n := by omega
        have HL : Sec (lbR name fs = i) := sec (lbR_of name fs i (by omega) H1.out (fun h => by omega))
        have HE : Sec (hasR name fs = false) := sec (hasr_of_end H1.out (by omega))
        clear hlt hin hj
        go_wp2_with fail
        go_ret2
        exact ⟨by rw [HL.out, HE.out]; rfl, hg⟩

set_option maxRecDepth 100000 in
set_option maxHeartbeats 2000000 in
theorem rfind_any (fs : List Rf) (name : List UInt8) (A : Option Addr) (n cap : Nat) (w : World) (hn : n ≤ 1099511627776) (hx : RfRow w A n fs) (hso : SortedR fs) :
    Calls Tryz.prog 129 #[.slice A n cap, .string (bs name)] w
      fun e w' => e = .returned (.tuple #[.int .i64 (lbR name fs : Int), .bool (hasR name fs)]) ∧ Gr w w' := by
  have HC := sec (rbsearch_any fs name A n cap w hn hx hso)
  clear hx hso
  go_enter Tryz.func129, Tryz.ntmps129
  go_wp2_with (go_at_call 178; refine Calls.mono HC.out ?_; rintro e w1 ⟨rfl, g1⟩)
  go_ret2
  exact ⟨rfl, g1⟩
theorem getR_has {fs : List Rf} (h : SortedR fs) {name : List UInt8} (hh : hasR name fs = true) : ∃ hi : lbR name fs < fs.length, fs[lbR name fs].1 = name ∧ getR fs name = fs[lbR name fs].2 := by
  obtain ⟨hi, h1⟩ := hasR_lt h hh
  refine ⟨hi, h1, ?_⟩
  have : fs.find? (fun f => f.1 == name) = some fs[lbR name fs] := by
    rw [List.find?_eq_some_iff_getElem]
    refine ⟨by simpa using h1, lbR name fs, hi, rfl, fun j hj => ?_⟩
    have := h.get hi hj
    rw [h1] at this
    simp only [Bool.not_eq_true', beq_eq_false_iff_ne, ne_eq]
    intro e
    rw [e, ltB_irr] at this
    cases this
  unfold getR
  rw [this]
  rfl
theorem getR_no {fs : List Rf} {name : List UInt8} (hh : hasR name fs = false) : getR fs name = [] := by
  have : fs.find? (fun f => f.1 == name) = none := by
    rw [List.find?_eq_none]
    intro f hf
    have := List.any_eq_false.1 hh f hf
    simpa using this
  unfold getR
  rw [this]
  rfl
set_option maxRecDepth 100000 in
set_option maxHeartbeats 2000000 in
theorem rfget_any (fs : List Rf) (name : List UInt8) (A : Option Addr) (n cap : Nat) (w : World) (hn : n ≤ 1099511627776) (hx : RfRow w A n fs) (hso : SortedR fs) :
    Calls Tryz.prog 128 #[.slice A n cap, .string (bs name)] w
      fun e w' => e = .returned (.string (bs (getR fs name))) ∧ Gr w w' := by
  have HC := sec (rfind_any fs name A n cap w hn hx hso)
  have hl := hx.len
  have HX := sec hx
  cases hh : hasR name fs with
  | true =>
    obtain ⟨hi, h1, h2⟩ := getR_has hso hh
    rw [hh] at HC
    obtain ⟨k, hk, hkl, HG⟩ : ∃ k, k = lbR name fs ∧ ∃ h : k < fs.length, Sec (getR fs name = fs[k].2) := ⟨_, rfl, hi, sec h2⟩
    rw [← hk] at HC
    clear h2 h1 hi
    clear hk hh hx hso
    obtain ⟨V, hV⟩ : ∃ V, V = getR fs name := ⟨_, rfl⟩
    rw [← hV]
    have hkn : (k : Int) < (n : Int) := by omega
    go_enter Tryz.func128, Tryz.ntmps128
    go_upto_region 2 with (go_at_call 129; refine Calls.mono HC.out ?_; rintro e w1 ⟨rfl, g1⟩)
    obtain ⟨b, off, rfl, e0, e1⟩ := (HX.out.gr g1).cell hkl
    rw [← HG.out, hV.symm] at e1
    clear e0 hV
    clear HG hkl
    go_wp2_with fail
    go_ret
    exact ⟨rfl, g1⟩
  | false =>
    have h2 := sec (getR_no hh)
    rw [hh] at HC
    clear hx hso hh
    go_enter Tryz.func128, Tryz.ntmps128
    go_wp2_with (go_at_call 129; refine Calls.mono HC.out ?_; rintro e w1 ⟨rfl, g1⟩)
    go_ret
    exact ⟨by rw [h2.out]; rfl, g1⟩
end Go.Proofs.YtoamnifnfkgbiaaGreatDoor

namespace Go.Proofs.YtoamnifnfkgbiaaGreatDoor
open Go.RowKit
set_option linter.unusedVariables false
set_option maxRecDepth 100000 in
set_option maxHeartbeats 1000000 in
theorem maybe_any (l : List UInt8) (w : World) : Calls Tryz.prog 135 #[.string (bs l)] w fun e w' => e = .returned (.bool (mayB l)) ∧ w = w' := by
  by_cases h0 : l.length = 0
  · have q0 : ((l.length : Int) == 0) = true := by rw [beq_iff_eq]; omega
    have HM : Sec (mayB l = true) := sec (by unfold mayB; rw [decide_eq_true h0]; rfl)
    clear h0
    rw [HM.out]
    go_enter Tryz.func135, Tryz.ntmps135
    go_wp2_with fail
    go_ret
    exact ⟨rfl, rfl⟩
  · have q0 : ((l.length : Int) == 0) = false := by rw [beq_eq_false_iff_ne]; omega
    by_cases h1 : l.length = 32
    · have q1 : ((l.length : Int) == 32) = true := by rw [beq_iff_eq]; omega
      have HM : Sec (mayB l = true) := sec (by unfold mayB; rw [decide_eq_true h1]; simp)
      clear h0 h1
      rw [HM.out]
      go_enter Tryz.func135, Tryz.ntmps135
      go_wp2_with fail
      go_ret
      exact ⟨rfl, rfl⟩
    · have q1 : ((l.length : Int) == 32) = false := by rw [beq_eq_false_iff_ne]; omega
      have HM : Sec (mayB l = false) := sec (by unfold mayB; rw [decide_eq_false h0, decide_eq_false h1]; rfl)
      clear h0 h1
      rw [HM.out]
      go_enter Tryz.func135, Tryz.ntmps135
      go_wp2_with fail
      go_ret
      exact ⟨rfl, rfl⟩

/-- the cases of a byte in a ref's name -/
theorem ref_cases (n : Nat) : (n = 47) ∨ (n ≠ 47 ∧ 97 ≤ n ∧ n ≤ 122) ∨ (n ≠ 47 ∧ ¬ 97 ≤ n ∧ 48 ≤ n ∧ n ≤ 57) ∨ (n ≠ 47 ∧ ¬ 97 ≤ n ∧ n = 45) ∨ (n ≠ 47 ∧ ¬ 97 ≤ n ∧ n = 95) ∨ (n ≠ 47 ∧ (97 ≤ n → ¬ n ≤ 122) ∧ (48 ≤ n → ¬ n ≤ 57) ∧ n ≠ 45 ∧ n ≠ 95) := by omega

set_option maxRecDepth 100000 in
set_option maxHeartbeats 4000000 in
theorem refName_any (s : List UInt8) (w : World) (hs : s.length ≤ 1099511627776) :
    Calls Tryz.prog 134 #[.string (bs s)] w fun e w' => e = .returned (.bool (refB s)) ∧ Gr w w' := by
  obtain ⟨w2, cap, hcv, hg2, hB⟩ := conv_brow Tryz.underlying9 Tryz.underlying140 Tryz.underlying5 w (s ++ [47]) (by simp only [List.length_append, List.length_cons, List.length_nil]; unfold maxLen; omega)
  have hcat : ¬ 9223372036854775807 < s.length + 1 := by omega
  obtain ⟨z, hz⟩ : ∃ z, z = s ++ [47] := ⟨_, rfl⟩
  have hzl : z.length = s.length + 1 := by rw [hz]; simp
  have HR : Sec (refB s = (rnGo 0 z && decide (s.length ≤ 60))) := sec (by rw [hz]; rfl)
  simp only [List.length_append, List.length_cons, List.length_nil, Nat.zero_add] at hcv
  rw [← hz] at hB
  have HZL := sec hzl
  clear hz hzl
  go_enter Tryz.func134, Tryz.ntmps134
  go_wp2_with fail
  go_loopw [10, 3, 5, 14, 21, 24] (fun iv pv _ _ _ _ wr => ∃ (i p : Nat), iv = .int .i64 (i : Int) ∧ pv = .int .i64 (p : Int) ∧ i ≤ s.length + 1 ∧ p ≤ i ∧ Sec (rnGo 0 z = rnGo p (z.drop i)) ∧ wr = w2)
    (fun iv _ _ _ _ _ _ => s.length + 1 - (intOf iv).toNat)
  case atStart => exact ⟨0, 0, rfl, rfl, by omega, by omega, sec rfl, rfl⟩
  case round =>
    clear hcv
    obtain ⟨i, p, rfl, rfl, hi, hp, HA, rfl⟩ := hrel
    have hpb : p ≤ 2199023255552 := by omega
    by_cases hlt : i < s.length + 1
    · have hiz : i < z.length := by rw [HZL.out]; exact hlt
      have hli : (i : Int) < (s.length : Int) + 1 := by omega
      have hcl := hB.at_ i (byteV z[i]) (by rw [List.getElem?_map, List.getElem?_eq_getElem hiz]; rfl)
      have hgo := HA.out
      rw [List.drop_eq_getElem_cons hiz, rn_step] at hgo
      obtain ⟨c, hc⟩ : ∃ c, c = z[i] := ⟨_, rfl⟩
      rw [← hc] at hcl hgo
      unfold byteV at hcl
      have h47 : (c = 47) ↔ c.toNat = 47 := ⟨fun e => by rw [e]; rfl, fun e => UInt8.toNat_inj.1 e⟩
      simp only [h47] at hgo
      clear hc h47
      obtain ⟨n, hn⟩ : ∃ n, n = c.toNat := ⟨_, rfl⟩
      rw [← hn] at hcl hgo
      have HLT := sec (And.intro hlt hp)
      clear hn hlt hiz
      have HGO := sec hgo
      clear hgo
      rcases ref_cases n with h1 | ⟨h0, h1, h2⟩ | ⟨h0, h1, h2, h3⟩ | ⟨h0, h1, h2⟩ | ⟨h0, h1, h2⟩ | ⟨h0, h1, h2, h3, h4⟩
      · by_cases hp0 : p = 0
        · have t1 : ((n : Int) == 47) = true := by rw [beq_iff_eq]; omega
          have t2 : ((p : Int) == 0) = true := by rw [beq_iff_eq]; omega
          have HF : Sec (refB s = false) := sec (by rw [HR.out, HGO.out, if_pos h1, if_pos hp0]; rfl)
          clear h1 hp0 hp
          go_wp2_with fail
          go_ret
          exact ⟨by rw [HF.out]; rfl, hg2⟩
        · have t1 : ((n : Int) == 47) = true := by rw [beq_iff_eq]; omega
          have t2 : ((p : Int) == 0) = false := by rw [beq_eq_false_iff_ne]; omega
          have HN : Sec (rnGo 0 z = rnGo 0 (z.drop (i + 1))) := sec (by rw [HGO.out, if_pos h1, if_neg hp0])
          clear h1 hp0 hp
          go_wp2_with fail
          go_roundw
          case rel => exact ⟨i + 1, 0, by go_num, rfl, HLT.out.1, by omega, HN, by trivial⟩
          case measure => simp [intOf]; have := HLT.out.1; omega
      · have t1 : ((n : Int) == 47) = false := by rw [beq_eq_false_iff_ne]; omega
        have q1 : (97 : Int) ≤ (n : Int) := by omega
        have q2 : (n : Int) ≤ 122 := by omega
        have HN : Sec (rnGo 0 z = rnGo (p + 1) (z.drop (i + 1))) := sec (by rw [HGO.out, if_neg h0, if_pos (by simp [refC]; omega)])
        clear h0 h1 h2 hp
        go_wp2_with fail
        go_roundw
        case rel => exact ⟨i + 1, p + 1, by go_num, by go_num, HLT.out.1, by have := HLT.out.2; omega, HN, by trivial⟩
        case measure => simp [intOf]; have := HLT.out.1; omega
      · have t1 : ((n : Int) == 47) = false := by rw [beq_eq_false_iff_ne]; omega
        have q1 : ¬ (97 : Int) ≤ (n : Int) := by omega
        have q3 : (48 : Int) ≤ (n : Int) := by omega
        have q4 : (n : Int) ≤ 57 := by omega
        have HN : Sec (rnGo 0 z = rnGo (p + 1) (z.drop (i + 1))) := sec (by rw [HGO.out, if_neg h0, if_pos (by simp [refC]; omega)])
        clear h0 h1 h2 h3 hp
        go_wp2_with fail
        go_roundw
        case rel => exact ⟨i + 1, p + 1, by go_num, by go_num, HLT.out.1, by have := HLT.out.2; omega, HN, by trivial⟩
        case measure => simp [intOf]; have := HLT.out.1; omega
      · have t1 : ((n : Int) == 47) = false := by rw [beq_eq_false_iff_ne]; omega
        have q1 : ¬ (97 : Int) ≤ (n : Int) := by omega
        have q3 : ¬ (48 : Int) ≤ (n : Int) := by omega
        have t2 : ((n : Int) == 45) = true := by rw [beq_iff_eq]; omega
        have HN : Sec (rnGo 0 z = rnGo (p + 1) (z.drop (i + 1))) := sec (by rw [HGO.out, if_neg h0, if_pos (by simp [refC]; omega)])
        clear h0 h1 h2 hp
        go_wp2_with fail
        go_roundw
        case rel => exact ⟨i + 1, p + 1, by go_num, by go_num, HLT.out.1, by have := HLT.out.2; omega, HN, by trivial⟩
        case measure => simp [intOf]; have := HLT.out.1; omega
      · have t1 : ((n : Int) == 47) = false := by rw [beq_eq_false_iff_ne]; omega
        have q1 : ¬ (97 : Int) ≤ (n : Int) := by omega
        have q3 : (48 : Int) ≤ (n : Int) := by omega
        have q4 : ¬ (n : Int) ≤ 57 := by omega
        have t2 : ((n : Int) == 45) = false := by rw [beq_eq_false_iff_ne]; omega
        have t3 : ((n : Int) == 95) = true := by rw [beq_iff_eq]; omega
        have HN : Sec (rnGo 0 z = rnGo (p + 1) (z.drop (i + 1))) := sec (by rw [HGO.out, if_neg h0, if_pos (by simp [refC]; omega)])
        clear h0 h1 h2 hp
        go_wp2_with fail
        go_roundw
        case rel => exact ⟨i + 1, p + 1, by go_num, by go_num, HLT.out.1, by have := HLT.out.2; omega, HN, by trivial⟩
        case measure => simp [intOf]; have := HLT.out.1; omega
      · by_cases g1 : 97 ≤ n
        · have t1 : ((n : Int) == 47) = false := by rw [beq_eq_false_iff_ne]; omega
          have q1 : (97 : Int) ≤ (n : Int) := by omega
          have q2 : ¬ (n : Int) ≤ 122 := by omega
          have q3 : (48 : Int) ≤ (n : Int) := by omega
          have q4 : ¬ (n : Int) ≤ 57 := by omega
          have t2 : ((n : Int) == 45) = false := by rw [beq_eq_false_iff_ne]; omega
          have t3 : ((n : Int) == 95) = false := by rw [beq_eq_false_iff_ne]; omega
          have HF : Sec (refB s = false) := sec (by rw [HR.out, HGO.out, if_neg h0, if_neg (by simp [refC]; omega)]; rfl)
          clear h0 h1 h2 h3 h4 g1 hp
          go_wp2_with fail
          go_ret
          exact ⟨by rw [HF.out]; rfl, hg2⟩
        · by_cases g2 : 48 ≤ n
          · have t1 : ((n : Int) == 47) = false := by rw [beq_eq_false_iff_ne]; omega
            have q1 : ¬ (97 : Int) ≤ (n : Int) := by omega
            have q3 : (48 : Int) ≤ (n : Int) := by omega
            have q4 : ¬ (n : Int) ≤ 57 := by omega
            have t2 : ((n : Int) == 45) = false := by rw [beq_eq_false_iff_ne]; omega
            have t3 : ((n : Int) == 95) = false := by rw [beq_eq_false_iff_ne]; omega
            have HF : Sec (refB s = false) := sec (by rw [HR.out, HGO.out, if_neg h0, if_neg (by simp [refC]; omega)]; rfl)
            clear h0 h1 h2 h3 h4 g1 g2 hp
            go_wp2_with fail
            go_ret
            exact ⟨by rw [HF.out]; rfl, hg2⟩
          · have t1 : ((n : Int) == 47) = false := by rw [beq_eq_false_iff_ne]; omega
            have q1 : ¬ (97 : Int) ≤ (n : Int) := by omega
            have q3 : ¬ (48 : Int) ≤ (n : Int) := by omega
            have t2 : ((n : Int) == 45) = false := by rw [beq_eq_false_iff_ne]; omega
            have t3 : ((n : Int) == 95) = false := by rw [beq_eq_false_iff_ne]; omega
            have HF : Sec (refB s = false) := sec (by rw [HR.out, HGO.out, if_neg h0, if_neg (by simp [refC]; omega)]; rfl)
            clear h0 h1 h2 h3 h4 g1 g2 hp
            go_wp2_with fail
            go_ret
            exact ⟨by rw [HF.out]; rfl, hg2⟩
    · obtain rfl : i = s.length + 1 := by omega
      have HE : Sec (rnGo 0 z = true) := sec (by rw [HA.out, List.drop_eq_nil_of_le (by rw [HZL.out]; omega)]; cases p <;> rfl)
      clear hlt
      by_cases h60 : s.length ≤ 60
      · have q1 : (s.length : Int) ≤ 60 := by omega
        have HF : Sec (refB s = true) := sec (by rw [HR.out, HE.out, decide_eq_true h60]; rfl)
        clear h60
        go_wp2_with fail
        go_ret
        exact ⟨by rw [HF.out]; rfl, hg2⟩
      · have q1 : ¬ (s.length : Int) ≤ 60 := by omega
        have HF : Sec (refB s = false) := sec (by rw [HR.out, HE.out, decide_eq_false h60]; rfl)
        clear h60
        go_wp2_with fail
        go_ret
        exact ⟨by rw [HF.out]; rfl, hg2⟩
end Go.Proofs.YtoamnifnfkgbiaaGreatDoor

namespace Go.Proofs.YtoamnifnfkgbiaaGreatDoor
set_option maxRecDepth 100000
open Go.RowKit
set_option linter.unusedVariables false
theorem ltB_no {a b : List UInt8} (h : ltB a b = true) : ltB b a = false := by
  cases hb : ltB b a
  · rfl
  · have := ltB_trans a b a h hb
    rw [ltB_irr] at this
    cases this
theorem goodR_of (fs : List Rf) (b : Bool) (h : rgFrom [] fs = b) : goodR fs = (decide (fs.length ≤ 32) && b) := by
  unfold goodR; rw [h]
set_option maxHeartbeats 8000000 in
theorem rgoodL_any (fs : List Rf) (A : Option Addr) (n cap : Nat) (w : World) (hn : n ≤ 1099511627776) (hx : RfRow w A n fs) (hs : ∀ f ∈ fs, f.1.length ≤ 1099511627776 ∧ f.2.length ≤ 1099511627776) :
    Calls Tryz.prog 127 #[.slice A n cap] w fun e w' => e = .returned (.bool (goodR fs)) ∧ Gr w w' := by
  have hl := hx.len
  have HX := sec hx
  have HSZ := sec hs
  obtain ⟨V, hV⟩ : ∃ V, V = goodR fs := ⟨_, rfl⟩
  rw [← hV]
  have HV := sec hV
  clear hx hs hV
  go_enter Tryz.func127, Tryz.ntmps127
  go_wp2_with fail
  go_loopg [7, 3, 4] n (fun fuel iv _ _ wr => ∃ (i : Nat) (last : List UInt8), iv = .int .i64 (i : Int) ∧ n ≤ i + fuel ∧ i ≤ n ∧ Sec (rgSeen fs i last) ∧ Gr w wr)
  case atStart => exact ⟨0, [], rfl, by omega, by omega, sec (rgSeen0 _), Gr.refl _⟩
  case round =>
    obtain ⟨i, last, rfl, hik, hi, HST, hg⟩ := hrel
    by_cases hlt : i < n
    · have hif : i < fs.length := by omega
      have hii : (i : Int) < (n : Int) := by omega
      obtain ⟨b, off, rfl, e0, e1⟩ := (HX.out.gr hg).cell hif
      have HHERE := sec (HST.out.here hif)
      have HNEXT := sec (fun h1 h2 => HST.out.next hif h1 h2)
      have HPREV : Sec (∀ w', Gr w w' → ∀ j, i = j + 1 → w'.cell? ⟨b, off + j * 2, none⟩ = some (.string (bs last))) := sec (fun w' g j hj => by
        obtain ⟨b', off', e, h0, _⟩ := (HX.out.gr g).cell (i := j) (by omega)
        injection e with e; injection e with e3 e4 _
        subst e3 e4
        have := HST.out.2.2 ⟨by omega, Nat.le_of_lt hif⟩
        subst hj
        rw [this]; exact h0)
      have HZERO : Sec (i = 0 → last = []) := sec HST.out.2.1
      have hsz := HSZ.out fs[i] (List.getElem_mem hif)
      obtain ⟨x, hxx⟩ : ∃ x, x = fs[i] := ⟨_, rfl⟩
      rw [← hxx] at e0 e1 HHERE HNEXT hsz
      have HIF := sec hif
      clear hxx hif
      obtain ⟨nm, id⟩ := x
      simp only at e0 e1 HHERE HNEXT hsz
      have HN := sec (fun w => refNamed_any nm w hsz.1)
      have hidl := hsz.2
      clear hsz
      go_upto_region 4 with fail
      have hFB := Blk.new wr 126 #[.string (bs nm), .string (bs id)]
      have hgx := hg.alloc (.cells #[.string (bs nm), .string (bs id)] 126)
      obtain ⟨wx, hwx⟩ : ∃ x, x = wr.alloc (.cells #[.string (bs nm), .string (bs id)] 126) := ⟨_, rfl⟩
      obtain ⟨q, hq⟩ : ∃ q, q = wr.heap.size := ⟨_, rfl⟩
      rw [← hwx] at hFB hgx
      rw [← hq] at hFB
      rw [← hwx, ← hq]
      have HSK : Sec (∀ w', Gr wx w' → w'.cell? ⟨q, 0, none⟩ = some (.string (bs nm)) ∧ w'.cell? ⟨q, 1, none⟩ = some (.string (bs id)) ∧ Gr wx w') := sec (fun w' g => ⟨(hFB.gr g).cell 0, (hFB.gr g).cell 1, g⟩)
      clear hwx hq hFB e0 e1 hg
      obtain ⟨ok, hok⟩ : ∃ ok : Bool, ok = (rfOk (nm, id) && ltB last nm) := ⟨_, rfl⟩
      go_cut [36] from 12 to 36 (fun v wc => v = .bool (!ok) ∧ Gr wx wc)
      case first =>
        have HOK : Sec (ok = (refB nm && decide (id.length = 32) && ltB last nm)) := sec hok
        clear hok HHERE HNEXT
        cases hnb : refB nm with
        | false =>
          have HXX : Sec (ok = false) := sec (by rw [HOK.out, hnb]; rfl)
          rw [hnb] at HN
          clear hnb hii hlt
          refine region_head_quiet 3 (by kernel_rfl) (by decide) (by kernel_rfl) (fun wd hwd => ?_)
          simp only [List.take_succ_cons, List.take_zero, List.drop_succ_cons, List.drop_zero]
          have gd : Gr wx wd := by rw [hwd]; exact (Gr.refl _).drew
          clear hwd
          have c0d := (HSK.out wd gd).1
          go_wp2_with (go_at_call 123; refine (HN.out _).mono ?_; rintro e w1 ⟨rfl, g1⟩; have gg1 : Gr wx w1 := gd.trans g1)
          obtain ⟨c0y, c1y, -⟩ := HSK.out w1 gg1
          simp only [OnQ]
          clear g1 gd c0d
          repeat (go_big_quiet_step (fail))
          refine wpQuiet_nil ?_
          intro _ hw'
          obtain ⟨nq, hw''⟩ := hw'
          subst hw''
          have gg2 : Gr wx (w1.drewN nq) := Gr.drewN gg1 nq
          go_wp2_with fail
          go_meet
          exact ⟨by rw [HXX.out]; rfl, gg2⟩
        | true =>
          have hne := refB_ne hnb
          have hbn : ltB [] nm = true := ltB_nil' hne
          rw [hnb] at HN HOK
          clear hne hnb
          by_cases h32 : id.length = 32
          · have q3 : ((id.length : Int) != 32) = false := by rw [bne_eq_false_iff_eq]; omega
            have HOK2 : Sec (ok = ltB last nm) := sec (by rw [HOK.out, decide_eq_true h32]; rfl)
            clear h32 HOK
            by_cases hi0 : i = 0
            · have HXX : Sec (ok = true) := sec (by rw [HOK2.out, HZERO.out hi0]; exact hbn)
              have hi1 : ¬ 0 < i := by omega
              clear hi0 hbn
              refine region_head_quiet 3 (by kernel_rfl) (by decide) (by kernel_rfl) (fun wd hwd => ?_)
              simp only [List.take_succ_cons, List.take_zero, List.drop_succ_cons, List.drop_zero]
              have gd : Gr wx wd := by rw [hwd]; exact (Gr.refl _).drew
              clear hwd
              have c0d := (HSK.out wd gd).1
              go_wp2_with (go_at_call 123; refine (HN.out _).mono ?_; rintro e w1 ⟨rfl, g1⟩; have gg1 : Gr wx w1 := gd.trans g1)
              obtain ⟨c0y, c1y, -⟩ := HSK.out w1 gg1
              simp only [OnQ]
              clear g1 gd c0d
              repeat (go_big_quiet_step (fail))
              refine wpQuiet_nil ?_
              intro _ hw'
              obtain ⟨nq, hw''⟩ := hw'
              subst hw''
              have gg2 : Gr wx (w1.drewN nq) := Gr.drewN gg1 nq
              go_wp2_with fail
              go_meet
              exact ⟨by rw [HXX.out]; rfl, gg2⟩
            · obtain ⟨j, hj⟩ : ∃ j, i = j + 1 := ⟨i - 1, by omega⟩
              have HSJ : Sec (∀ w', Gr wx w' → w'.cell? ⟨q, 0, none⟩ = some (.string (bs nm)) ∧ w'.cell? ⟨q, 1, none⟩ = some (.string (bs id)) ∧ w'.cell? ⟨b, off + j * 2, none⟩ = some (.string (bs last)) ∧ Gr wx w') := sec (fun w' g => ⟨(HSK.out w' g).1, (HSK.out w' g).2.1, HPREV.out w' (hgx.trans g) j hj, g⟩)
              have hij : (i : Int) - 1 = (j : Int) := by omega
              have hi1 : 0 < i := by omega
              have hjk : (j : Int) < (n : Int) := by omega
              clear hi0 hbn hj
              cases hlb : ltB last nm with
              | false =>
                have HXX : Sec (ok = false) := sec (by rw [HOK2.out, hlb])
                have q5 : Op.bytesLess last nm = false := hlb
                clear hlb
                refine region_head_quiet 3 (by kernel_rfl) (by decide) (by kernel_rfl) (fun wd hwd => ?_)
                simp only [List.take_succ_cons, List.take_zero, List.drop_succ_cons, List.drop_zero]
                have gd : Gr wx wd := by rw [hwd]; exact (Gr.refl _).drew
                clear hwd
                have c0d := (HSK.out wd gd).1
                go_wp2_with (go_at_call 123; refine (HN.out _).mono ?_; rintro e w1 ⟨rfl, g1⟩; have gg1 : Gr wx w1 := gd.trans g1)
                obtain ⟨c0y, c1y, c2y, -⟩ := HSJ.out w1 gg1
                simp only [OnQ]
                clear g1 gd c0d
                repeat (go_big_quiet_step (fail))
                refine wpQuiet_nil ?_
                intro _ hw'
                obtain ⟨nq, hw''⟩ := hw'
                subst hw''
                have gg2 : Gr wx (w1.drewN nq) := Gr.drewN gg1 nq
                go_wp2_with fail
                go_meet
                exact ⟨by rw [HXX.out]; rfl, gg2⟩
              | true =>
                have HXX : Sec (ok = true) := sec (by rw [HOK2.out, hlb])
                have q5 : Op.bytesLess last nm = true := hlb
                clear hlb
                refine region_head_quiet 3 (by kernel_rfl) (by decide) (by kernel_rfl) (fun wd hwd => ?_)
                simp only [List.take_succ_cons, List.take_zero, List.drop_succ_cons, List.drop_zero]
                have gd : Gr wx wd := by rw [hwd]; exact (Gr.refl _).drew
                clear hwd
                have c0d := (HSK.out wd gd).1
                go_wp2_with (go_at_call 123; refine (HN.out _).mono ?_; rintro e w1 ⟨rfl, g1⟩; have gg1 : Gr wx w1 := gd.trans g1)
                obtain ⟨c0y, c1y, c2y, -⟩ := HSJ.out w1 gg1
                simp only [OnQ]
                clear g1 gd c0d
                repeat (go_big_quiet_step (fail))
                refine wpQuiet_nil ?_
                intro _ hw'
                obtain ⟨nq, hw''⟩ := hw'
                subst hw''
                have gg2 : Gr wx (w1.drewN nq) := Gr.drewN gg1 nq
                go_wp2_with fail
                go_meet
                exact ⟨by rw [HXX.out]; rfl, gg2⟩
          · have q3 : ((id.length : Int) != 32) = true := by rw [bne_iff_ne]; omega
            have HXX : Sec (ok = false) := sec (by rw [HOK.out, decide_eq_false h32]; rfl)
            clear h32 hbn
            refine region_head_quiet 3 (by kernel_rfl) (by decide) (by kernel_rfl) (fun wd hwd => ?_)
            simp only [List.take_succ_cons, List.take_zero, List.drop_succ_cons, List.drop_zero]
            have gd : Gr wx wd := by rw [hwd]; exact (Gr.refl _).drew
            clear hwd
            have c0d := (HSK.out wd gd).1
            go_wp2_with (go_at_call 123; refine (HN.out _).mono ?_; rintro e w1 ⟨rfl, g1⟩; have gg1 : Gr wx w1 := gd.trans g1)
            obtain ⟨c0y, c1y, -⟩ := HSK.out w1 gg1
            simp only [OnQ]
            clear g1 gd c0d
            repeat (go_big_quiet_step (fail))
            refine wpQuiet_nil ?_
            intro _ hw'
            obtain ⟨nq, hw''⟩ := hw'
            subst hw''
            have gg2 : Gr wx (w1.drewN nq) := Gr.drewN gg1 nq
            go_wp2_with fail
            go_meet
            exact ⟨by rw [HXX.out]; rfl, gg2⟩
      case rest =>
        obtain ⟨rfl, gc⟩ := hcut
        cases ok with
        | true =>
          have h1 := hok.symm
          rw [Bool.and_eq_true] at h1
          have HEN := sec (HNEXT.out h1.1 h1.2)
          clear h1 hok hii
          go_wp2_with fail
          go_roundg (gk - 1)
          case rel => exact ⟨i + 1, nm, by go_num, by omega, by omega, HEN, hgx.trans gc⟩
          case measure => omega
        | false =>
          have HF : Sec (V = false) := sec (by rw [HV.out, goodR_of fs false (by rw [HHERE.out, ← hok]; rfl), Bool.and_false])
          clear hok hii
          go_wp2_with fail
          go_ret
          exact ⟨by rw [HF.out]; rfl, hgx.trans gc⟩
    · have HF : Sec (V = decide ((i : Int) ≤ 32)) := sec (by
        rw [HV.out, goodR_of fs true (HST.out.done (by omega)), Bool.and_true]
        exact decide_eq_decide.2 (by omega))
      obtain rfl : i = n := by omega
      clear hlt hi hik
      go_wp2_with fail
      all_goals
        go_ret
        exact ⟨by rw [HF.out]; simp, hg⟩
set_option maxHeartbeats 8000000 in
theorem rrgoodL_any (fs : List Rf) (A : Option Addr) (n cap : Nat) (w : World) (hn : n ≤ 1099511627776) (hx : RfRow w A n fs) (hs : ∀ f ∈ fs, f.1.length ≤ 1099511627776 ∧ f.2.length ≤ 1099511627776) :
    Calls Tryz.prog 141 #[.slice A n cap] w fun e w' => e = .returned (.bool (goodR fs)) ∧ Gr w w' := by
  have hl := hx.len
  have HX := sec hx
  have HSZ := sec hs
  obtain ⟨V, hV⟩ : ∃ V, V = goodR fs := ⟨_, rfl⟩
  rw [← hV]
  have HV := sec hV
  clear hx hs hV
  go_enter Tryz.func141, Tryz.ntmps141
  go_wp2_with fail
  try rw [show ({ data := #[] } : ByteArray) = bs [] from rfl]
  go_loopg [3, 8, 5] n (fun fuel v iv _ wr => ∃ (i : Nat) (last : List UInt8), v = .string (bs last) ∧ iv = .int .i64 (i : Int) ∧ n ≤ i + fuel ∧ i ≤ n ∧ Sec (rgSeen fs i last) ∧ Gr w wr)
  case atStart => exact ⟨0, [], rfl, rfl, by omega, by omega, sec (rgSeen0 _), Gr.refl _⟩
  case round =>
    obtain ⟨i, last, rfl, rfl, hik, hi, HST, hg⟩ := hrel
    by_cases hlt : i < n
    · have hif : i < fs.length := by omega
      have hii : (i : Int) < (n : Int) := by omega
      obtain ⟨b, off, rfl, e0, e1⟩ := (HX.out.gr hg).cell hif
      have HHERE := sec (HST.out.here hif)
      have HNEXT := sec (fun h1 h2 => HST.out.next hif h1 h2)
      have hsz := HSZ.out fs[i] (List.getElem_mem hif)
      obtain ⟨x, hxx⟩ : ∃ x, x = fs[i] := ⟨_, rfl⟩
      rw [← hxx] at e0 e1 HHERE HNEXT hsz
      have HIF := sec hif
      clear hxx hif
      obtain ⟨nm, id⟩ := x
      simp only at e0 e1 HHERE HNEXT hsz
      have HN := sec (fun w => refName_any nm w hsz.1)
      have hidl := hsz.2
      have hgx := hg.alloc (.cells #[.string (bs nm), .string (bs id)] 126)
      have HFB := sec (Blk.new wr 126 #[.string (bs nm), .string (bs id)])
      clear hsz
      cases hnb : refB nm with
      | false =>
        have HF : Sec (V = false) := sec (by rw [HV.out, goodR_of fs false (by rw [HHERE.out]; unfold rfOk; rw [hnb]; rfl), Bool.and_false])
        rw [hnb] at HN
        clear hnb
        go_wp2_with (go_at_call 134; refine Calls.mono (HN.out _) ?_; rintro e w1 ⟨rfl, g1⟩)
        go_ret
        exact ⟨by rw [HF.out]; rfl, hgx.trans g1⟩
      | true =>
        rw [hnb] at HN
        by_cases h32 : id.length = 32
        · have q3 : ((id.length : Int) != 32) = false := by rw [bne_eq_false_iff_eq]; omega
          have hok : rfOk (nm, id) = true := by unfold rfOk; rw [hnb]; simpa using h32
          clear hnb h32
          cases hlb : ltB last nm with
          | false =>
            have q1 : (Op.bytesLess nm last || nm == last) = true := by
              cases h : Op.bytesLess nm last
              · rw [ltB_tri nm last h hlb]; simp
              · rfl
            have HF : Sec (V = false) := sec (by rw [HV.out, goodR_of fs false (by rw [HHERE.out, hlb]; simp), Bool.and_false])
            clear hlb hok
            go_wp2_with (go_at_call 134; refine Calls.mono (HN.out _) ?_; rintro e w1 ⟨rfl, g1⟩; have c0 := (HFB.out.gr g1).cell 0; have c1 := (HFB.out.gr g1).cell 1; simp at c0 c1)
            go_ret
            exact ⟨by rw [HF.out]; rfl, hgx.trans g1⟩
          | true =>
            have q1 : Op.bytesLess nm last = false := ltB_no hlb
            have q2 : (nm == last) = false := by
              rw [beq_eq_false_iff_ne]
              intro e; subst e; rw [ltB_irr] at hlb; cases hlb
            have HEN := sec (HNEXT.out hok hlb)
            clear hlb hok
            go_wp2_with (go_at_call 134; refine Calls.mono (HN.out _) ?_; rintro e w1 ⟨rfl, g1⟩; have c0 := (HFB.out.gr g1).cell 0; have c1 := (HFB.out.gr g1).cell 1; simp at c0 c1)
            go_roundg (gk - 1)
            case rel => exact ⟨i + 1, nm, rfl, by go_num, by omega, by omega, HEN, hgx.trans g1⟩
            case measure => omega
        · have q3 : ((id.length : Int) != 32) = true := by rw [bne_iff_ne]; omega
          have HF : Sec (V = false) := sec (by rw [HV.out, goodR_of fs false (by rw [HHERE.out]; unfold rfOk; rw [decide_eq_false h32]; simp), Bool.and_false])
          clear hnb h32
          go_wp2_with (go_at_call 134; refine Calls.mono (HN.out _) ?_; rintro e w1 ⟨rfl, g1⟩; have c0 := (HFB.out.gr g1).cell 0; have c1 := (HFB.out.gr g1).cell 1; simp at c0 c1)
          go_ret
          exact ⟨by rw [HF.out]; rfl, hgx.trans g1⟩
    · have HF : Sec (V = decide ((i : Int) ≤ 32)) := sec (by
        rw [HV.out, goodR_of fs true (HST.out.done (by omega)), Bool.and_true]
        exact decide_eq_decide.2 (by omega))
      obtain rfl : i = n := by omega
      clear hlt hi hik
      go_wp2_with fail
      all_goals
        go_ret
        exact ⟨by rw [HF.out]; simp, hg⟩
end Go.Proofs.YtoamnifnfkgbiaaGreatDoor

namespace Go.Proofs.YtoamnifnfkgbiaaGreatDoor
set_option maxRecDepth 100000
open Go.RowKit
set_option linter.unusedVariables false
theorem refSize : (Tryz.prog.info? 126).map (·.size) = some 2 := by
  obtain ⟨i0, hi0, _, h1, _⟩ := info_parts E.ref.info
  rw [hi0]; simp [h1]
theorem sizeOfRef : ∀ w, (Go.sizeOf 126).run Tryz.prog w = .ok 2 w := by
  intro w
  obtain ⟨i0, hi0, _, h1, _⟩ := info_parts E.ref.info
  simp [sizeOf, typeInfo, hi0, h1]

set_option maxHeartbeats 4000000 in
set_option maxRecDepth 100000 in
/-- there is room, i < n: in place -/
theorem rins_shift (g cap n i gv vc : Nat) (cur x : List Value) (w : World) (hi : i < n) (hroom : n + 1 ≤ cap) (hcap : cap ≤ maxLen) (hgv : gv ≠ g) (hg : Blk w g 126 cur.toArray) (hs : cur.length = cap * 2)
    (hv : Blk w gv 126 x.toArray) (hx : x.length = 2) (h1 : ∀ v ∈ cur.take (n * 2), v.oneCell' = true) (h1v : ∀ v ∈ x, v.oneCell' = true) :
    Calls Tryz.prog 132 #[.slice (some ⟨g, 0, none⟩) n cap, .int .i64 (i : Int), .slice (some ⟨gv, 0, none⟩) 1 vc] w fun e w' =>
      e = .returned (.slice (some ⟨g, 0, none⟩) (n + 1) cap) ∧ Blk w' g 126 (Go.splice (Go.splice cur (i * 2 + 2) ((cur.take (n * 2)).drop (i * 2))) (i * 2) x).toArray ∧ w.grownBy w' (some g) := by
  have hcs : (cur.take (n * 2)).length = n * 2 := by rw [List.length_take]; omega
  obtain ⟨xs, hxs⟩ : ∃ xs, xs = cur.take (n * 2) := ⟨_, rfl⟩
  have hov : ∀ lb cb, (callFunc 180 #[.slice (some ⟨gv, 0, none⟩) 1 vc, .slice (some ⟨g, (i + 1) * 2, none⟩) lb cb]).run Tryz.prog w = .ok (.value (.bool false)) w := fun lb cb => by
    rw [run_callFunc_extern Tryz.func180 (by kernel_rfl) (by kernel_rfl) (by kernel_rfl) (e := Extern.SlicesOverlaps.overlaps #[28, 28] #[4]) (by kernel_rfl),
      Lib.run_overlaps_apart w 28 4 126 E.ref.under 2 sizeOfRef ⟨gv, 0, none⟩ ⟨g, (i + 1) * 2, none⟩ 1 vc lb cb hgv 126 126 2 (cap * 2)
        (by unfold World.shape?; rw [hv]; simp [hx]) (by unfold World.shape?; rw [hg]; simp [hs]) (by omega) (hv.frozen 0) (hv.frozen 2)]
    rfl
  have hdl : ((cur.take (n * 2)).drop (i * 2)).length = n * 2 - i * 2 := by rw [List.length_drop, hcs]
  have hcp1 : ∀ ty dc sc, (Builtin.copy_ #[28, 28] ty #[.slice (some ⟨g, (i + 1) * 2, none⟩) (n - i) dc, .slice (some ⟨g, i * 2, none⟩) (n + 1 - i) sc]).run Tryz.prog w.drew = .ok (goInt ((n - i : Nat) : Int)) (w.drew.setRow g (Go.splice cur ((i + 1) * 2) ((cur.take (n * 2)).drop (i * 2))).toArray) := fun ty dc sc => by
    have := run_copy_rowN (P := Tryz.prog) w.drew 28 28 ty 126 g ((i + 1) * 2) (n - i) dc ⟨g, i * 2, none⟩ (n + 1 - i) sc 2 cur.toArray 126 ((cur.take (n * 2)).drop (i * 2)) E.ref.under refSize hg.drew
      (by rw [hdl, show Nat.min (n + 1 - i) (n - i) = n - i by simp only [Nat.min_def]; split <;> omega, Nat.sub_mul])
      (fun j v hj => by
        rw [Addr.add_lit]
        rw [List.getElem?_drop, List.getElem?_take] at hj
        split at hj
        · exact (hg.drew.cell _).trans (by simpa using hj)
        · cases hj)
      (by rw [hdl, List.size_toArray, hs]; omega) (fun v hv => h1 v (List.mem_of_mem_drop hv))
    rw [show Nat.min (n + 1 - i) (n - i) = n - i by simp only [Nat.min_def]; split <;> omega] at this
    exact this
  obtain ⟨c1, hc1⟩ : ∃ c1, c1 = Go.splice cur ((i + 1) * 2) ((cur.take (n * 2)).drop (i * 2)) := ⟨_, rfl⟩
  rw [← hc1] at hcp1
  have hc1l : c1.length = cap * 2 := by rw [hc1, Go.length_splice _ _ _ (by rw [hdl, hs]; omega), hs]
  have hg1 : Blk (w.drew.setRow g c1.toArray) g 126 c1.toArray := hg.drew.of_setRow _
  have hv1 : Blk (w.drew.setRow g c1.toArray) gv 126 x.toArray := hv.drew.only (grown_setRow w.drew g _) hgv
  have hcp2 : ∀ ty dc, (Builtin.copy_ #[28, 28] ty #[.slice (some ⟨g, i * 2, none⟩) (n + 1 - i) dc, .slice (some ⟨gv, 0, none⟩) 1 vc]).run Tryz.prog (w.drew.setRow g c1.toArray) = .ok (goInt 1) ((w.drew.setRow g c1.toArray).setRow g (Go.splice c1 (i * 2) x).toArray) := fun ty dc => by
    have := run_copy_rowN (P := Tryz.prog) (w.drew.setRow g c1.toArray) 28 28 ty 126 g (i * 2) (n + 1 - i) dc ⟨gv, 0, none⟩ 1 vc 2 c1.toArray 126 x E.ref.under refSize hg1
      (by rw [hx, show Nat.min 1 (n + 1 - i) = 1 by simp only [Nat.min_def]; split <;> omega])
      (fun j v hj => by rw [Addr.add_lit, Nat.zero_add]; exact (hv1.cell _).trans (by simpa using hj))
      (by rw [hx, List.size_toArray, hc1l]; omega) h1v
    rw [show Nat.min 1 (n + 1 - i) = 1 by simp only [Nat.min_def]; split <;> omega] at this
    exact this
  have HE : Sec (Go.splice (Go.splice cur (i * 2 + 2) ((cur.take (n * 2)).drop (i * 2))) (i * 2) x = Go.splice c1 (i * 2) x) := sec (by rw [hc1, show (i + 1) * 2 = i * 2 + 2 by omega])
  have HB : Sec (Blk ((w.drew.setRow g c1.toArray).setRow g (Go.splice c1 (i * 2) x).toArray) g 126 (Go.splice c1 (i * 2) x).toArray) := sec (hg1.of_setRow _)
  have HGW : Sec (w.grownBy ((w.drew.setRow g c1.toArray).setRow g (Go.splice c1 (i * 2) x).toArray) (some g)) := sec ⟨rfl, rfl, rfl, by simp [World.setRow], fun k hk hne => by
    rw [setRow_other _ g k _ (fun e => hne (by rw [e])), setRow_other _ g k _ (fun e => hne (by rw [e]))]; rfl⟩
  have hz2 : ¬ ((i : Int) = (n : Int)) := by omega
  have hw1 : IntKind.i64.wrap ((i : Int) + 1) = (i : Int) + 1 := by rw [IntKind.wrap_i64]; unfold maxLen at hcap; omega
  have htn : ((i : Int) + 1).toNat = i + 1 := by omega
  have hb1 : (0 : Int) ≤ (i : Int) + 1 := by omega
  have hb3 : (i : Int) ≤ (n : Int) := by omega
  have hb6 : (i : Int) ≤ (n : Int) + 1 := by omega
  have hb2 : ¬ (cap = i + 1) := by omega
  have hb4 : ¬ (cap = i) := by omega
  have hb5 : ¬ (cap < n + 1) := by omega
  have hm : cap ≤ 9223372036854775807 := by have := hcap; unfold maxLen at this; omega
  clear hc1 hc1l hg1 hv1 hdl hxs h1 h1v hg hv hs hcs
  go_enter Tryz.func132, Tryz.ntmps132
  go_wp2_with (simp only [hov])
  go_region_law (refine step_copy_run rfl _ _ 28 28 rfl _ _ (by simp [Act.eval, Act.put]) (by simp [Act.eval, Act.put]) (hcp1 _ _ _) ?_)
  go_wp2_with (at_builtin; refine wpList_copy_run _ rfl _ _ 28 28 rfl _ _ rfl rfl (hcp2 _ _) ?_)
  go_ret
  exact ⟨rfl, by rw [HE.out]; exact HB.out, HGW.out⟩

set_option maxHeartbeats 4000000 in
set_option maxRecDepth 100000 in
/-- at the end -/
theorem rins_end (A : Option Addr) (n cap gv vc B : Nat) (xs x : List Value) (w : World) (hown : w.ownsRow B 126 2 (.slice A n cap) n xs) (hv : Blk w gv 126 x.toArray) (hx : x.length = 2) (h1v : ∀ v ∈ x, v.oneCell' = true) (hn : n ≤ 1099511627776) (hB : B ≤ w.heap.size) :
    Calls Tryz.prog 132 #[.slice A n cap, .int .i64 (n : Int), .slice (some ⟨gv, 0, none⟩) 1 vc] w fun e w' =>
      ∃ A' cap', e = .returned (.slice A' (n + 1) cap') ∧ w'.ownsRow B 126 2 (.slice A' (n + 1) cap') (n + 1) (xs ++ x) ∧ w.grownBy w' (Value.ownBlock (.slice A n cap)) := by
  have hb1 : (n + 1) * 32 ≤ 140737488355328 := by omega
  have hb2 : n + 1 ≤ maxLen := by unfold maxLen; omega
  have hrow : Row w 2 (some ⟨gv, 0, none⟩) 1 x := by have := Row.lit hv; simp [hx] at this; exact this
  have hnc : n ≤ cap := by
    rcases hown.2 with ⟨h, h0⟩ | ⟨_, _, _, h, _, _, h1, _⟩
    · omega
    · injection h with _ _ h; omega
  have HO := sec hown
  have HR := sec hrow
  have H1 := sec h1v
  clear hown hrow hv h1v
  cases A with
  | none =>
    have : n = 0 ∧ cap = 0 := by
      rcases HO.out.2 with ⟨h, h0⟩ | ⟨_, _, _, h, _⟩
      · injection h with _ _ h; exact ⟨h0, h⟩
      · injection h with h; cases h
    obtain ⟨rfl, rfl⟩ := this
    go_enter Tryz.func132, Tryz.ntmps132
    go_wp2_with (refine wpList_append_row E.ref rfl (.tmp 23) (.tmp 24) rfl (B := B) (A0 := none) (n0 := 0) (cap0 := 0) (xs := xs) rfl HO.out rfl HR.out (by intro h; cases h) H1.out hb1 hb2 hB ?_; intro A' c' w' hown' hgn)
    go_ret
    exact ⟨A', c', rfl, hown', hgn⟩
  | some ad =>
    obtain ⟨g, hg⟩ : ∃ g, ad = ⟨g, 0, none⟩ := by
      rcases HO.out.2 with ⟨h, h0⟩ | ⟨g, _, _, h, _⟩
      · injection h with h; cases h
      · injection h with h; injection h with h; exact ⟨g, h⟩
    subst hg
    go_enter Tryz.func132, Tryz.ntmps132
    go_wp2_with (refine wpList_append_row E.ref rfl (.tmp 23) (.tmp 24) rfl (B := B) (A0 := some ⟨g, 0, none⟩) (n0 := n) (cap0 := cap) (xs := xs) rfl HO.out rfl HR.out (by intro h; cases h) H1.out hb1 hb2 hB ?_; intro A' c' w' hown' hgn)
    all_goals
      go_ret
      exact ⟨A', c', rfl, hown', hgn⟩

set_option maxHeartbeats 4000000 in
set_option maxRecDepth 100000 in
/-- there is no room, i < n: a new row -/
theorem rins_grown (g cap n i gv vc : Nat) (cur x : List Value) (w : World) (hi : i < n) (hroom : cap < n + 1) (hnc : n ≤ cap) (hn : n ≤ 1099511627776) (hg : Blk w g 126 cur.toArray) (hs : cur.length = cap * 2)
    (hv : Blk w gv 126 x.toArray) (hx : x.length = 2) (h1 : ∀ v ∈ cur.take (n * 2), v.oneCell' = true) (h1v : ∀ v ∈ x, v.oneCell' = true) :
    Calls Tryz.prog 132 #[.slice (some ⟨g, 0, none⟩) n cap, .int .i64 (i : Int), .slice (some ⟨gv, 0, none⟩) 1 vc] w fun e w' =>
      ∃ (G : Nat) (R : List Value), e = .returned (.slice (some ⟨w.heap.size, 0, none⟩) (n + 1) G) ∧ n + 1 ≤ G ∧ G ≤ maxLen ∧ R.length = G * 2 ∧ R.take (i * 2) = (cur.take (n * 2)).take (i * 2) ∧
        Blk w' w.heap.size 126 (Go.splice (Go.splice R (i * 2) x) (i * 2 + 2) ((cur.take (n * 2)).drop (i * 2))).toArray ∧ w.grownBy w' none := by
  have hcs : (cur.take (n * 2)).length = n * 2 := by rw [List.length_take]; omega
  obtain ⟨xs, hxs⟩ : ∃ xs, xs = cur.take (n * 2) := ⟨_, rfl⟩
  rw [← hxs] at hcs h1
  rw [← hxs]
  obtain ⟨i0, hi0, hz0, hz1, hz2⟩ := info_parts E.ref.info
  obtain ⟨k, hk⟩ : ∃ k, k = n + 1 - i := ⟨_, rfl⟩
  have hik : i + k = n + 1 := by omega
  obtain ⟨G, hG⟩ : ∃ G, G = grownCap w (n + 1) cap 126 := ⟨_, rfl⟩
  have hG1 : n + 1 ≤ G := by rw [hG]; exact grownCap_ge _ _ _ _
  have hG2 : G ≤ maxLen := by rw [hG]; exact grownCap_le_maxLen _ _ _ _ (by unfold maxLen; omega)
  have hcell : ∀ j v, xs[j]? = some v → w.cell? ⟨g, j, none⟩ = some v := fun j v hj => by
    rw [hxs, List.getElem?_take] at hj
    split at hj
    · exact (hg.cell _).trans (by simpa using hj)
    · cases hj
  have hold : (Builtin.firstCells i0.size i (.slice (some ⟨g, 0, none⟩) i cap)).run Tryz.prog w.drew = .ok (xs.take (i * 2)).toArray w.drew := by
    rw [hz1]
    exact run_firstCells_some w.drew 2 i ⟨g, 0, none⟩ i cap (xs.take (i * 2)) (by rw [List.length_take]; omega) (fun j v hj => by
      rw [Addr.add_lit, Nat.zero_add]
      rw [List.getElem?_take] at hj
      split at hj
      · exact hcell j v hj
      · cases hj)
  obtain ⟨R, hR⟩ : ∃ R : List Value, R = ((xs.take (i * 2)).toArray ++ Builtin.zeroCells (Value.agg #[.string (bs []), .string (bs [])]).cells k ++ Builtin.zeroCells (Value.agg #[.string (bs []), .string (bs [])]).cells (G - (i + k))).toList := ⟨_, rfl⟩
  have hrun : ∀ ty, (Builtin.append_ #[28, 3] ty #[.slice (some ⟨g, 0, none⟩) i cap, .int .i64 (k : Int)]).run Tryz.prog w = .ok (.slice (some ⟨w.heap.size, 0, none⟩) (n + 1) G) (w.drew.alloc (.cells R.toArray 126)) := fun ty => by
    have := Lib.run_append_grow_zeros (P := Tryz.prog) w 28 3 ty 126 i0 _ .i64 .i64 E.ref.under Tryz.underlying3 hi0 hz0 (some ⟨g, 0, none⟩) i cap (xs.take (i * 2)) hold k (by omega) (by omega) (by omega) (by omega) (by rw [hz2]; omega)
      (by rw [hz2]; exact growslice_fits (by omega) (by omega))
    rw [this, hik, ← hG, hR, hik, Array.toArray_toList]
  have hRl : R.length = G * 2 := by
    rw [hR]
    have hz3 : (Value.agg #[.string (bs []), .string (bs [])]).cells.size = 2 := E.ref.zcells
    rw [Array.length_toList, Array.size_append, Array.size_append, size_zeroCells, size_zeroCells, hz3, List.size_toArray, List.length_take, hcs, Nat.min_eq_left (by omega)]
    omega
  have hRt : R.take (i * 2) = xs.take (i * 2) := by
    rw [hR]
    simp only [Array.toList_append, List.append_assoc]
    rw [List.take_append_of_le_length (by rw [List.length_take, hcs]; omega), List.take_take, Nat.min_self]
  have hgl := hg.lt
  have hvl := hv.lt
  obtain ⟨W0, hW0⟩ : ∃ W0, W0 = w.drew.alloc (.cells R.toArray 126) := ⟨_, rfl⟩
  have hRB : Blk W0 w.heap.size 126 R.toArray := by rw [hW0]; exact Blk.new w.drew _ _
  have hg0 : Blk W0 g 126 cur.toArray := by rw [hW0]; exact hg.drew.alloc _
  have hv0 : Blk W0 gv 126 x.toArray := by rw [hW0]; exact hv.drew.alloc _
  have hgr0 : w.grownBy W0 none := by rw [hW0]; exact ⟨rfl, rfl, rfl, by simp, fun k hk _ => Below.heap_alloc w.drew _ k hk⟩
  rw [← hW0] at hrun
  obtain ⟨g2, hg2⟩ : ∃ g2, g2 = w.heap.size := ⟨_, rfl⟩
  rw [← hg2] at hrun hRB hgl hvl
  rw [← hg2]
  have hcp1 : ∀ ty dc, (Builtin.copy_ #[28, 28] ty #[.slice (some ⟨g2, i * 2, none⟩) (n + 1 - i) dc, .slice (some ⟨gv, 0, none⟩) 1 vc]).run Tryz.prog W0 = .ok (goInt 1) (W0.setRow g2 (Go.splice R (i * 2) x).toArray) := fun ty dc => by
    have := run_copy_rowN (P := Tryz.prog) W0 28 28 ty 126 g2 (i * 2) (n + 1 - i) dc ⟨gv, 0, none⟩ 1 vc 2 R.toArray 126 x E.ref.under refSize hRB
      (by rw [hx, show Nat.min 1 (n + 1 - i) = 1 by simp only [Nat.min_def]; split <;> omega])
      (fun j v hj => by rw [Addr.add_lit, Nat.zero_add]; exact (hv0.cell _).trans (by simpa using hj))
      (by rw [hx, List.size_toArray, hRl]; omega) h1v
    rw [show Nat.min 1 (n + 1 - i) = 1 by simp only [Nat.min_def]; split <;> omega] at this
    exact this
  obtain ⟨c1, hc1⟩ : ∃ c1, c1 = Go.splice R (i * 2) x := ⟨_, rfl⟩
  rw [← hc1] at hcp1
  have hc1l : c1.length = G * 2 := by rw [hc1, Go.length_splice _ _ _ (by rw [hx, hRl]; omega), hRl]
  obtain ⟨W1, hW1⟩ : ∃ W1, W1 = W0.setRow g2 c1.toArray := ⟨_, rfl⟩
  have hRB1 : Blk W1 g2 126 c1.toArray := by rw [hW1]; exact hRB.of_setRow _
  have hgg1 : Blk W1 g 126 cur.toArray := by rw [hW1]; exact hg0.only (grown_setRow W0 g2 _) (by omega)
  have hgr1 : w.grownBy W1 none := by
    rw [hW1]
    exact ⟨hgr0.os, hgr0.tape, hgr0.output, by simpa [World.setRow] using hgr0.size, fun k hk hne => by rw [setRow_other _ g2 k _ (by omega)]; exact hgr0.block k hk hne⟩
  rw [← hW1] at hcp1
  have hdl : (xs.drop (i * 2)).length = n * 2 - i * 2 := by rw [List.length_drop, hcs]
  have hcp2 : ∀ ty dc sc, (Builtin.copy_ #[28, 28] ty #[.slice (some ⟨g2, (i + 1) * 2, none⟩) (n - i) dc, .slice (some ⟨g, i * 2, none⟩) (n - i) sc]).run Tryz.prog W1.drew = .ok (goInt ((n - i : Nat) : Int)) (W1.drew.setRow g2 (Go.splice c1 ((i + 1) * 2) (xs.drop (i * 2))).toArray) := fun ty dc sc => by
    have := run_copy_rowN (P := Tryz.prog) W1.drew 28 28 ty 126 g2 ((i + 1) * 2) (n - i) dc ⟨g, i * 2, none⟩ (n - i) sc 2 c1.toArray 126 (xs.drop (i * 2)) E.ref.under refSize hRB1.drew
      (by rw [hdl, show Nat.min (n - i) (n - i) = n - i by simp only [Nat.min_def]; split <;> omega, Nat.sub_mul])
      (fun j v hj => by
        rw [Addr.add_lit]
        rw [List.getElem?_drop, hxs, List.getElem?_take] at hj
        split at hj
        · exact (hgg1.drew.cell _).trans (by simpa using hj)
        · cases hj)
      (by rw [hdl, List.size_toArray, hc1l]; omega) (fun v hv => h1 v (List.mem_of_mem_drop hv))
    rw [show Nat.min (n - i) (n - i) = n - i by simp only [Nat.min_def]; split <;> omega] at this
    exact this
  have HB : Sec (Blk (W1.drew.setRow g2 (Go.splice c1 ((i + 1) * 2) (xs.drop (i * 2))).toArray) g2 126 (Go.splice (Go.splice R (i * 2) x) (i * 2 + 2) (xs.drop (i * 2))).toArray) := sec (by
    rw [← hc1, show i * 2 + 2 = (i + 1) * 2 by omega]; exact hRB1.drew.of_setRow _)
  have HGW : Sec (w.grownBy (W1.drew.setRow g2 (Go.splice c1 ((i + 1) * 2) (xs.drop (i * 2))).toArray) none) := sec
    ⟨hgr1.os, hgr1.tape, hgr1.output, by simpa [World.setRow] using hgr1.size, fun k hk hne => by rw [setRow_other _ g2 k _ (by omega)]; exact hgr1.block k hk hne⟩
  have HRL := sec hRl
  have HRT := sec hRt
  have hkk : (n : Int) + 1 - (i : Int) = (k : Int) := by omega
  have hz2' : ¬ ((i : Int) = (n : Int)) := by omega
  have hw1 : IntKind.i64.wrap ((i : Int) + 1) = (i : Int) + 1 := by rw [IntKind.wrap_i64]; omega
  have htn : ((i : Int) + 1).toNat = i + 1 := by omega
  have hb1 : (0 : Int) ≤ (i : Int) + 1 := by omega
  have hb3 : (i : Int) ≤ (n : Int) := by omega
  have hb6 : (i : Int) ≤ (n : Int) + 1 := by omega
  have hb2 : ¬ (G = i + 1) := by omega
  have hb4 : ¬ (G = i) := by omega
  have hb5 : ¬ (cap = i) := by omega
  clear hc1 hc1l hRB1 hgg1 hgr1 hdl hxs h1 h1v hg hv hs hcs hRB hg0 hv0 hgr0 hRt hRl hW1 hW0 hR hold hcell hG hz0 hz1 hz2 hi0 hgl hvl hg2 hk hik
  go_enter Tryz.func132, Tryz.ntmps132
  go_wp2_with (first | (at_builtin; refine wpList_append_runA _ rfl (.tmp 34) (.tmp 39) 28 3 rfl _ _ rfl rfl (hrun _) ?_) | (at_builtin; refine wpList_copy_run _ rfl (.tmp 43) (.tmp 44) 28 28 rfl _ _ rfl rfl (hcp1 _ _) ?_))
  go_region_law (refine step_copy_run rfl _ _ 28 28 rfl _ _ (by simp [Act.eval, Act.put]) (by simp [Act.eval, Act.put]) (hcp2 _ _ _) ?_)
  go_wp2_with fail
  go_ret
  exact ⟨G, R, rfl, hG1, hG2, HRL.out, HRT.out, HB.out, HGW.out⟩
theorem rflat_take (fs : List Rf) : ∀ i, (fs.flatMap refV).take (i * 2) = (fs.take i).flatMap refV := by
  induction fs with
  | nil => intro i; simp
  | cons f r ih =>
    intro i
    cases i with
    | zero => simp
    | succ i =>
      have e : (i + 1) * 2 = (refV f).length + i * 2 := by simp [refV]; omega
      rw [List.take_succ_cons, List.flatMap_cons, List.flatMap_cons, e, List.take_length_add_append, ih]
theorem rflat_drop (fs : List Rf) : ∀ i, (fs.flatMap refV).drop (i * 2) = (fs.drop i).flatMap refV := by
  induction fs with
  | nil => intro i; simp
  | cons f r ih =>
    intro i
    cases i with
    | zero => simp
    | succ i =>
      have e : (i + 1) * 2 = (refV f).length + i * 2 := by simp [refV]; omega
      rw [List.drop_succ_cons, List.flatMap_cons, e, List.drop_length_add_append, ih]
theorem rflat_ins (fs : List Rf) (i : Nat) (f : Rf) : (fs.flatMap refV).take (i * 2) ++ (refV f ++ (fs.flatMap refV).drop (i * 2)) = (insR i f fs).flatMap refV := by
  rw [rflat_take, rflat_drop, insR, List.flatMap_append, List.flatMap_cons]
theorem rflat_del (fs : List Rf) (i : Nat) : (fs.flatMap refV).take (i * 2) ++ (fs.flatMap refV).drop (i * 2 + 2) = (fs.eraseIdx i).flatMap refV := by
  rw [rflat_take, show i * 2 + 2 = (i + 1) * 2 by omega, rflat_drop, List.eraseIdx_eq_take_drop_succ, List.flatMap_append]

theorem rinsert_any (A : Option Addr) (n cap i gv vc B : Nat) (fs : List Rf) (f : Rf) (w : World) (hown : w.ownsRow B 126 2 (.slice A n cap) n (fs.flatMap refV)) (hi : i ≤ n) (hn : n ≤ 1099511627776)
    (hv : Blk w gv 126 (refV f).toArray) (hne : (Value.slice A n cap).ownBlock ≠ some gv) (hB : B ≤ w.heap.size) :
    Calls Tryz.prog 132 #[.slice A n cap, .int .i64 (i : Int), .slice (some ⟨gv, 0, none⟩) 1 vc] w fun e w' =>
      ∃ A' cap', e = .returned (.slice A' (n + 1) cap') ∧ w'.ownsRow B 126 2 (.slice A' (n + 1) cap') (n + 1) ((insR i f fs).flatMap refV) ∧ w.grownBy w' (Value.ownBlock (.slice A n cap)) := by
  have h1v : ∀ v ∈ refV f, v.oneCell' = true := by intro v hv; simp [refV] at hv; rcases hv with rfl | rfl <;> rfl
  have hl : (fs.flatMap refV).length = n * 2 := hown.1
  have hfl : fs.length = n := by have := flat_len refV 2 (fun _ => rfl) fs; omega
  rcases Nat.lt_or_eq_of_le hi with hlt | rfl
  · rcases hown.2 with ⟨_, h0⟩ | ⟨g, cap', cur, hvv, hBg, hg, hnc, hcm, hcs, ht⟩
    · omega
    · injection hvv with hA _ hc
      subst hA hc
      have hgv : gv ≠ g := fun e => hne (by rw [e]; rfl)
      have hg' : Blk w g 126 cur.toList.toArray := by rw [Array.toArray_toList]; exact hg
      have hcl : cur.toList.length = cap * 2 := by simpa using hcs
      have h1 : ∀ v ∈ cur.toList.take (n * 2), v.oneCell' = true := by rw [ht]; exact refV_one
      by_cases hroom : n + 1 ≤ cap
      · refine (rins_shift g cap n i gv vc cur.toList (refV f) w hlt hroom hcm hgv hg' hcl hv rfl h1 h1v).mono ?_
        rintro e w' ⟨rfl, hb, hgr⟩
        refine ⟨_, _, rfl, ⟨?_, .inr ⟨g, cap, _, rfl, hBg, hb, hroom, hcm, ?_, ?_⟩⟩, hgr⟩
        · rw [flat_len refV 2 (fun _ => rfl)]; simp [insR]; omega
        · rw [ht, List.size_toArray]
          have hd : ((fs.flatMap refV).drop (i * 2)).length = n * 2 - i * 2 := by rw [List.length_drop, hl]
          have h3 : (refV f).length = 2 := rfl
          have h4 := Go.length_splice cur.toList (i * 2 + 2) ((fs.flatMap refV).drop (i * 2)) (by rw [hd, hcl]; omega)
          rw [Go.length_splice _ _ _ (by rw [h4, h3, hcl]; omega), h4, hcl]
        · rw [ht, List.toList_toArray, show (n + 1) * 2 = n * 2 + 2 by omega, ins_room cur.toList _ (refV f) (i * 2) (n * 2) 2 ht hl (by omega) rfl (by rw [hcl]; omega), rflat_ins]
      · refine (rins_grown g cap n i gv vc cur.toList (refV f) w hlt (by omega) hnc hn hg' hcl hv rfl h1 h1v).mono ?_
        rintro e w' ⟨G, R, rfl, hG1, hG2, hRl, hRt, hb, hgr⟩
        refine ⟨_, _, rfl, ⟨?_, .inr ⟨w.heap.size, G, _, rfl, hB, hb, hG1, hG2, ?_, ?_⟩⟩, ⟨hgr.os, hgr.tape, hgr.output, hgr.size, fun k hk _ => hgr.block k hk (by simp)⟩⟩
        · rw [flat_len refV 2 (fun _ => rfl)]; simp [insR]; omega
        · rw [ht, List.size_toArray]
          have hd : ((fs.flatMap refV).drop (i * 2)).length = n * 2 - i * 2 := by rw [List.length_drop, hl]
          have h3 : (refV f).length = 2 := rfl
          have h4 := Go.length_splice R (i * 2) (refV f) (by rw [h3, hRl]; omega)
          rw [Go.length_splice _ _ _ (by rw [h4, hd, hRl]; omega), h4, hRl]
        · rw [ht] at hRt
          rw [ht, List.toList_toArray, show (n + 1) * 2 = n * 2 + 2 by omega, ins_grow R _ (refV f) (i * 2) (n * 2) 2 hRt hl (by omega) rfl (by rw [hRl]; omega), rflat_ins]
  · refine (rins_end A i cap gv vc B _ (refV f) w hown hv rfl h1v hn hB).mono ?_
    rintro e w' ⟨A', cap', rfl, ho, hgr⟩
    refine ⟨A', cap', rfl, ?_, hgr⟩
    rw [← rflat_ins, List.take_of_length_le (by omega), List.drop_eq_nil_of_le (by omega), List.append_nil]
    exact ho

theorem zeroRef : ∀ w, (zeroValue 126).run Tryz.prog w = .ok (.agg #[.string (bs []), .string (bs [])]) w := by
  intro w
  obtain ⟨i0, hi0, h0, h1, _⟩ := info_parts E.ref.info
  simp [zeroValue, typeInfo, hi0, h0]

set_option maxHeartbeats 4000000 in
set_option maxRecDepth 100000 in
theorem rdel_walk (g cap n i : Nat) (cur : List Value) (w : World) (hi : i < n) (hnc : n ≤ cap) (hcap : cap ≤ maxLen) (hn : n ≤ 1099511627776) (hg : Blk w g 126 cur.toArray) (hs : cur.length = cap * 2)
    (h1 : ∀ v ∈ cur.take (n * 2), v.oneCell' = true) :
    Calls Tryz.prog 131 #[.slice (some ⟨g, 0, none⟩) n cap, .int .i64 (i : Int), .int .i64 ((i : Int) + 1)] w fun e w' =>
      e = .returned (.slice (some ⟨g, 0, none⟩) (n - 1) cap) ∧ Blk w' g 126 (Go.splice (Go.splice cur (i * 2) ((cur.take (n * 2)).drop (i * 2 + 2))) (n * 2 - 2) [.string (bs []), .string (bs [])]).toArray ∧ w.grownBy w' (some g) := by
  have hcs : (cur.take (n * 2)).length = n * 2 := by rw [List.length_take]; omega
  obtain ⟨i0, hi0, hz0, hz1, hz2⟩ := info_parts E.ref.info
  obtain ⟨news, hnews⟩ : ∃ news, news = (cur.take (n * 2)).drop (i * 2 + 2) := ⟨_, rfl⟩
  have hnl : news.length = (n - (i + 1)) * 2 := by rw [hnews, List.length_drop, hcs]; omega
  have hnc1 : ∀ v ∈ news, v.oneCell' = true := fun v hv => h1 v (by rw [hnews] at hv; exact List.mem_of_mem_drop hv)
  have hncell : ∀ j v, news[j]? = some v → w.cell? ⟨g, i * 2 + 2 + j, none⟩ = some v := fun j v hj => by
    rw [hnews, List.getElem?_drop, List.getElem?_take] at hj
    split at hj
    · exact (hg.cell _).trans (by simpa using hj)
    · cases hj
  rw [← hnews]
  obtain ⟨c1, hc1⟩ : ∃ c1, c1 = Go.splice cur (i * 2) news := ⟨_, rfl⟩
  have hc1l : c1.length = cap * 2 := by rw [hc1, Go.length_splice _ _ _ (by rw [hnl, hs]; omega), hs]
  have happ : ∀ ad ty c, (0 < n - (i + 1) → ad = ⟨g, (i + 1) * 2, none⟩) → (Builtin.append_ #[28, 28] ty #[.slice (some ⟨g, 0, none⟩) i cap, .slice (some ad) (n - (i + 1)) c]).run Tryz.prog w.drew = .ok (.slice (some ⟨g, 0, none⟩) (n - 1) cap) (w.drew.setRow g c1.toArray) := fun ad ty c had => by
    have := run_append_room (P := Tryz.prog) w.drew 28 ty 126 i0 E.ref.under hi0 g i cap cur.toArray hg.drew ad (n - (i + 1)) c news (by rw [hz1]; exact hnl)
      (fun j u hu => by
        have h0 : 0 < n - (i + 1) := by
          have := (List.getElem?_eq_some_iff.1 hu).1
          rw [hnl] at this; omega
        rw [had h0, Addr.add_lit]
        exact (by simpa using hncell j u hu : w.drew.cell? ⟨g, i * 2 + 2 + j, none⟩ = some u) |> fun h => by rw [show (i + 1) * 2 + j = i * 2 + 2 + j by omega]; exact h)
      hnc1 (by omega) (by rw [hz1, hnl, List.size_toArray, hs]; omega)
    rw [this, hz1, hc1, splice_eq, show i + (n - (i + 1)) = n - 1 by omega]
    simp only [List.append_assoc]
  have hg1 : Blk (w.drew.setRow g c1.toArray) g 126 c1.toArray := hg.drew.of_setRow _
  obtain ⟨W1, hW1⟩ : ∃ W1, W1 = w.drew.setRow g c1.toArray := ⟨_, rfl⟩
  have hgr1 : w.grownBy W1 (some g) := by
    rw [hW1]
    exact ⟨rfl, rfl, rfl, by simp [World.setRow], fun k hk hne => by rw [setRow_other _ g k _ (fun e => hne (by rw [e]))]; rfl⟩
  rw [← hW1] at happ hg1
  have hcl : ∀ ty c, (Builtin.clear_ #[28] ty #[.slice (some ⟨g, (n - 1) * 2, none⟩) 1 c]).run Tryz.prog W1 = .ok (.tuple #[]) (W1.setRow g (Go.splice c1 (n * 2 - 2) [.string (bs []), .string (bs [])]).toArray) := fun ty c => by
    have := run_clear_rowN (P := Tryz.prog) W1 28 126 ty _ E.ref.under zeroRef g ((n - 1) * 2) c c1.toArray 126 hg1 (by
      have : (Value.agg #[.string (bs []), .string (bs [])]).cells.size = 2 := E.ref.zcells
      rw [this, List.size_toArray, hc1l]; omega) (by intro v hv; simp [Value.cells] at hv; subst hv; rfl)
    rw [this, show (n - 1) * 2 = n * 2 - 2 by omega]
    rfl
  have HB : Sec (Blk (W1.setRow g (Go.splice c1 (n * 2 - 2) [.string (bs []), .string (bs [])]).toArray) g 126 (Go.splice (Go.splice cur (i * 2) news) (n * 2 - 2) [.string (bs []), .string (bs [])]).toArray) := sec (by
    rw [← hc1]; exact hg1.of_setRow _)
  have HGW : Sec (w.grownBy (W1.setRow g (Go.splice c1 (n * 2 - 2) [.string (bs []), .string (bs [])]).toArray) (some g)) := sec
    ⟨hgr1.os, hgr1.tape, hgr1.output, by simpa [World.setRow] using hgr1.size, fun k hk hne => by rw [setRow_other _ g k _ (fun e => hne (by rw [e]))]; exact hgr1.block k hk hne⟩
  have hz2' : ¬ ((i : Int) = (i : Int) + 1) := by omega
  have htn : ((i : Int) + 1).toNat = i + 1 := by omega
  have hb1 : (0 : Int) ≤ (i : Int) + 1 := by omega
  have hb3 : (i : Int) + 1 ≤ (n : Int) := by omega
  have hb4 : ¬ (cap = i) := by omega
  have hb5 : ¬ (cap = n - 1) := by omega
  have hb6 : (i : Int) ≤ (n : Int) := by omega
  have hb7 : (i : Int) ≤ (cap : Int) := by omega
  have hb8 : (n : Int) ≤ (cap : Int) := by omega
  have hb9 : n - (n - 1) = 1 := by omega
  have hb10 : (i : Int) ≤ (i : Int) + 1 := by omega
  clear hc1 hc1l hg1 h1 hg hs hcs hW1 hz0 hz1 hz2 hi0 hgr1 hnews hnl hnc1 hncell
  by_cases hce : cap = i + 1
  · subst hce
    go_enter Tryz.func131, Tryz.ntmps131
    go_wp2_with fail
    go_region_law (refine step_append_run (v := .slice (some ⟨g, 0, none⟩) i (i + 1)) (u := .slice (some ⟨g, 0, none⟩) (n - (i + 1)) 0) rfl (.tmp 22) (.tmp 25) 28 28 rfl ?hd ?hx (happ ⟨g, 0, none⟩ _ _ ?had) ?_; (case hd => simp [Act.eval, Act.put]); (case hx => simp [Act.eval, Act.put]; try omega); (case had => intro h; omega))
    go_wp2_with (at_builtin; refine wpList_clear_run _ rfl (.tmp 31) 28 rfl _ rfl (hcl _ _) ?_)
    go_ret
    exact ⟨rfl, HB.out, HGW.out⟩
  · go_enter Tryz.func131, Tryz.ntmps131
    go_wp2_with fail
    go_region_law (refine step_append_run (v := .slice (some ⟨g, 0, none⟩) i cap) (u := .slice (some ⟨g, (i + 1) * 2, none⟩) (n - (i + 1)) (cap - (i + 1))) rfl (.tmp 22) (.tmp 25) 28 28 rfl ?hd ?hx (happ ⟨g, (i + 1) * 2, none⟩ _ _ ?had) ?_; (case hd => simp [Act.eval, Act.put]); (case hx => simp [Act.eval, Act.put]; try omega); (case had => intro h; rfl))
    go_wp2_with (at_builtin; refine wpList_clear_run _ rfl (.tmp 31) 28 rfl _ rfl (hcl _ _) ?_)
    go_ret
    exact ⟨rfl, HB.out, HGW.out⟩

theorem rdelete_any (A : Option Addr) (n cap i B : Nat) (fs : List Rf) (w : World) (hown : w.ownsRow B 126 2 (.slice A n cap) n (fs.flatMap refV)) (hi : i < n) (hn : n ≤ 1099511627776) :
    Calls Tryz.prog 131 #[.slice A n cap, .int .i64 (i : Int), .int .i64 ((i : Int) + 1)] w fun e w' =>
      e = .returned (.slice A (n - 1) cap) ∧ w'.ownsRow B 126 2 (.slice A (n - 1) cap) (n - 1) ((fs.eraseIdx i).flatMap refV) ∧ w.grownBy w' (Value.ownBlock (.slice A n cap)) := by
  have hl : (fs.flatMap refV).length = n * 2 := hown.1
  have hfl : fs.length = n := by have := flat_len refV 2 (fun _ => rfl) fs; omega
  rcases hown.2 with ⟨_, h0⟩ | ⟨g, cap', cur, hvv, hBg, hg, hnc, hcm, hcs, ht⟩
  · omega
  · injection hvv with hA _ hc
    subst hA hc
    have hg' : Blk w g 126 cur.toList.toArray := by rw [Array.toArray_toList]; exact hg
    have hcl : cur.toList.length = cap * 2 := by simpa using hcs
    have h1 : ∀ v ∈ cur.toList.take (n * 2), v.oneCell' = true := by rw [ht]; exact refV_one
    refine (rdel_walk g cap n i cur.toList w hi hnc hcm hn hg' hcl h1).mono ?_
    rintro e w' ⟨rfl, hb, hgr⟩
    have hd : ((fs.flatMap refV).drop (i * 2 + 2)).length = n * 2 - (i * 2 + 2) := by rw [List.length_drop, hl]
    refine ⟨rfl, ⟨?_, .inr ⟨g, cap, _, rfl, hBg, hb, by omega, hcm, ?_, ?_⟩⟩, hgr⟩
    · rw [flat_len refV 2 (fun _ => rfl), List.length_eraseIdx_of_lt (by omega)]; omega
    · rw [ht, List.size_toArray]
      have h4 := Go.length_splice cur.toList (i * 2) ((fs.flatMap refV).drop (i * 2 + 2)) (by rw [hd, hcl]; omega)
      rw [Go.length_splice _ _ _ (by rw [h4, hcl]; simp; omega), h4, hcl]
    · rw [ht, List.toList_toArray, show (n - 1) * 2 = n * 2 - 2 by omega, del_room cur.toList _ (i * 2) (n * 2) 2 ht hl (by omega) (by rw [hcl]; omega) _ rfl, rflat_del]
set_option maxRecDepth 100000 in
set_option maxHeartbeats 2000000 in
theorem rclone_any (fs : List Rf) (A : Option Addr) (n cap : Nat) (w : World) (hn : n ≤ 1099511627776) (hx : RfRow w A n fs) (hA : A = none → n = 0 ∧ cap = 0) :
    Calls Tryz.prog 130 #[.slice A n cap] w fun e w' => ∃ A' cap', e = .returned (.slice A' n cap') ∧ w'.ownsRow w.heap.size 126 2 (.slice A' n cap') n (fs.flatMap refV) ∧ Gr w w' := by
  cases A with
  | none =>
    obtain ⟨rfl, rfl⟩ := hA rfl
    have hl := hx.len
    obtain rfl : fs = [] := List.eq_nil_of_length_eq_zero hl
    have hq : ∀ w, (eqGuard .eql 28 (.tmp 3) (.const (.slice none 0 0)) (.slice none 0 0) (.slice none 0 0)).run Tryz.prog w = .ok () w := by
      intro w; rfl
    have hz : ∀ w, (binOp .eql 28 (.slice none 0 0) (.slice none 0 0)).run Tryz.prog w = .ok (.bool true) w := fun w => Lib.run_eql_slice_nil w _ _ none 0 0 0 0 Tryz.underlying28
    go_enter Tryz.func130, Tryz.ntmps130
    go_wp2_with fail
    go_ret
    exact ⟨none, 0, rfl, World.ownsRow_nil _ _ _ _, Gr.refl _⟩
  | some ad =>
    have hq : ∀ w, (eqGuard .eql 28 (.tmp 3) (.const (.slice none 0 0)) (.slice (some ad) n cap) (.slice none 0 0)).run Tryz.prog w = .ok () w := by
      intro w; rfl
    have hz : ∀ w, (binOp .eql 28 (.slice (some ad) n cap) (.slice none 0 0)).run Tryz.prog w = .ok (.bool false) w := fun w => Lib.run_eql_slice_nil w _ _ (some ad) n cap 0 0 Tryz.underlying28
    have hb1 : (0 + n) * 32 ≤ 140737488355328 := by omega
    have hb2 : 0 + n ≤ maxLen := by unfold maxLen; omega
    have HX := sec hx
    clear hx
    go_enter Tryz.func130, Tryz.ntmps130
    go_wp2_with (refine wpList_append_row E.ref rfl (.tmp 5) (.tmp 6) rfl (B := w.heap.size) (A0 := some ⟨w.heap.size, 0, none⟩) (n0 := 0) (cap0 := 0) (xs := []) rfl (World.ownsRow_lit w #[] 0 (Nat.le_refl _) (by simp) rfl) rfl (RfRow.gr HX.out ((Gr.refl w).alloc _)) hA refV_one hb1 hb2 (by simp) ?_; intro A' c' w' hown hgn)
    go_ret
    rw [Nat.zero_add, List.nil_append] at hown
    exact ⟨A', c', rfl, hown, Gr.grown ((Gr.refl w).alloc _) hgn (fun k hk => by simp [Value.ownBlock] at hk; omega)⟩
end Go.Proofs.YtoamnifnfkgbiaaGreatDoor

namespace Go.Proofs.YtoamnifnfkgbiaaGreatDoor
set_option maxRecDepth 100000
open Go.RowKit
set_option linter.unusedVariables false
theorem rflat_set (fs : List Rf) : ∀ (i : Nat) (h : i < fs.length) (j : Nat) (u : Value) (f' : Rf), j < 2 → refV f' = (refV fs[i]).set j u → (fs.flatMap refV).set (i * 2 + j) u = (fs.set i f').flatMap refV := by
  induction fs with
  | nil => intro i h; simp at h
  | cons f r ih =>
    intro i h j u f' hj he
    cases i with
    | zero =>
      simp only [List.getElem_cons_zero] at he
      rw [List.flatMap_cons, List.set_append_left _ _ (by simp [refV]; omega), Nat.zero_mul, Nat.zero_add, ← he]
      rfl
    | succ i =>
      simp only [List.getElem_cons_succ] at he
      have := ih i (by simpa using h) j u f' hj he
      rw [List.flatMap_cons, List.set_append_right _ _ (by simp [refV]; omega), List.set_cons_succ, List.flatMap_cons, ← this]
      congr 2
      simp [refV]; omega
theorem rown_set {w : World} {B e n cap g : Nat} {fs : List Rf} (h : w.ownsRow B e 2 (.slice (some ⟨g, 0, none⟩) n cap) n (fs.flatMap refV)) (i : Nat) (hi : i < fs.length) (name id : List UInt8) (hn : fs[i].1 = name) :
    (w.setCell ⟨g, i * 2 + 1, none⟩ (.string (bs id))).ownsRow B e 2 (.slice (some ⟨g, 0, none⟩) n cap) n ((fs.set i (name, id)).flatMap refV) := by
  have hfl : (fs.flatMap refV).length = fs.length * 2 := flat_len refV 2 (fun _ => rfl) fs
  have o1 := own_set h (i * 2 + 1) (by rw [hfl]; omega) (.string (bs id))
  rw [rflat_set fs i hi 1 (.string (bs id)) (name, id) (by omega) (by rw [← hn]; rfl)] at o1
  exact o1
theorem row_of_own {w : World} {B n cap : Nat} {A : Option Addr} {fs : List Rf} (h : w.ownsRow B 126 2 (.slice A n cap) n (fs.flatMap refV)) : RfRow w A n fs := Row.own h
theorem own_nil2 {w : World} {k e n cap : Nat} {A : Option Addr} {xs : List Value} (h : w.ownsRow k e 2 (.slice A n cap) n xs) : A = none → n = 0 ∧ cap = 0 := by
  intro e
  rcases h.2 with ⟨h, h0⟩ | ⟨g, _, _, h, _⟩
  · injection h with _ h2 h3
    exact ⟨h0, h3⟩
  · injection h with h2 _ _
    rw [e] at h2; cases h2
/-- what a call of Set gives -/
structure SetPost (w : World) (V : List Rf × Int) (e : Ending) (w' : World) : Prop where
  ex : ∃ A c n, n = V.1.length ∧ e = .returned (.tuple #[.slice A n c, .int .i64 V.2]) ∧ RfRow w' A n V.1 ∧ (A = none → n = 0 ∧ c = 0) ∧ Gr w w'
theorem SetPost.bad {w w' : World} {V : List Rf × Int} {k : Int} (h : V = ([], k)) (g : Gr w w') : SetPost w V (.returned (.tuple #[.slice none 0 0, .int .i64 k])) w' := by
  subst h
  exact ⟨none, 0, 0, rfl, rfl, Row.nil _ _ _, fun _ => ⟨rfl, rfl⟩, g⟩
theorem SetPost.own {w w' : World} {V : List Rf × Int} {fs : List Rf} {A : Option Addr} {n c : Nat} (h : V = (fs, 0)) (o : w'.ownsRow w.heap.size 126 2 (.slice A n c) n (fs.flatMap refV)) (g : Gr w w') : SetPost w V (.returned (.tuple #[.slice A n c, .int .i64 0])) w' := by
  subst h
  exact ⟨A, c, n, (RfRow.len (row_of_own o)).symm, rfl, row_of_own o, own_nil2 o, g⟩
set_option maxHeartbeats 8000000 in
theorem rset_any (fs : List Rf) (name old id : List UInt8) (A : Option Addr) (n cap : Nat) (w : World) (hn : n ≤ 1099511627776) (hx : RfRow w A n fs) (hA : A = none → n = 0 ∧ cap = 0)
    (hs : ∀ f ∈ fs, f.1.length ≤ 1099511627776 ∧ f.2.length ≤ 1099511627776) (hnm : name.length ≤ 1099511627776) (hod : old.length ≤ 1099511627776) (hid : id.length ≤ 1099511627776) :
    Calls Tryz.prog 84 #[.slice A n cap, .string (bs name), .string (bs old), .string (bs id)] w fun e w' => SetPost w (setR fs name old id) e w' := by
  have HGo := sec (rgoodL_any fs A n cap w hn hx hs)
  have HNa := sec (fun w => refNamed_any name w hnm)
  have HX := sec hx
  have HA := sec hA
  have hl := hx.len
  obtain ⟨V, hV⟩ : ∃ V, V = setR fs name old id := ⟨_, rfl⟩
  rw [← hV]
  have HV : Sec (V = setR fs name old id) := sec hV
  clear hV hx hA hs
  cases hG : goodR fs with
  | false =>
    have HV3 : Sec (V = ([], 3)) := sec (by rw [HV.out]; unfold setR; rw [hG]; rfl)
    rw [hG] at HGo
    clear hG
    go_enter Tryz.func84, Tryz.ntmps84
    go_wp2_with (go_at_call 127; refine Calls.mono HGo.out ?_; rintro e w1 ⟨rfl, g1⟩)
    go_ret2
    exact SetPost.bad HV3.out g1
  | true =>
    obtain ⟨h32, hsz, hso⟩ := goodR_sorted hG
    have HSO : Sec (SortedR fs) := sec hso
    have HV1 : Sec (V = if refB name = true ∧ mayB old = true ∧ mayB id = true then
      (if getR fs name = old then
        (if hasR name fs = true then (if id = [] then (fs.eraseIdx (lbR name fs), 0) else (fs.set (lbR name fs) (name, id), 0))
        else if id = [] then (fs, 0) else if 32 ≤ fs.length then ([], 6) else (insR (lbR name fs) (name, id) fs, 0))
      else ([], 9)) else ([], 2)) := sec (by rw [HV.out]; unfold setR; rw [hG]; rfl)
    rw [hG] at HGo
    clear hG hso hsz
    obtain ⟨ok, hok⟩ : ∃ ok : Bool, ok = (refB name && (mayB old && mayB id)) := ⟨_, rfl⟩
    have HOK := sec hok
    clear hok
    go_enter Tryz.func84, Tryz.ntmps84
    go_upto_region 3 with (go_at_call 127; refine Calls.mono HGo.out ?_; rintro e w1 ⟨rfl, g1⟩)
    go_cut [17] from 18 to 40 (fun v wc => v = .bool (!ok) ∧ Gr w wc)
    case first =>
      obtain ⟨rb, hrb⟩ : ∃ b, b = refB name := ⟨_, rfl⟩
      rw [← hrb] at HNa
      have hok : ok = (rb && (mayB old && mayB id)) := by rw [HOK.out, hrb]
      clear hrb
      cases rb
      · have HX : Sec (ok = false) := sec (by rw [hok]; rfl)
        clear hok
        go_wp2_with (go_at_call 123; refine Calls.mono (HNa.out _) ?_; rintro e w2 ⟨rfl, g2⟩)
        go_meet
        exact ⟨by rw [HX.out]; rfl, g1.trans g2⟩
      · rcases may_cases old with ⟨a1, a2⟩ | ⟨a1, a2, a3⟩ | ⟨a1, a2, a3⟩
        · rw [a2] at hok
          clear a2
          rcases may_cases id with ⟨b1, b2⟩ | ⟨b1, b2, b3⟩ | ⟨b1, b2, b3⟩
          · rw [b2] at hok
            clear b2
            have HX : Sec (ok = true) := sec (by rw [hok]; rfl)
            clear hok
            go_wp2_with (go_at_call 123; refine Calls.mono (HNa.out _) ?_; rintro e w2 ⟨rfl, g2⟩)
            go_meet
            exact ⟨by rw [HX.out]; rfl, g1.trans g2⟩
          · rw [b3] at hok
            clear b3
            have HX : Sec (ok = true) := sec (by rw [hok]; rfl)
            clear hok
            go_wp2_with (go_at_call 123; refine Calls.mono (HNa.out _) ?_; rintro e w2 ⟨rfl, g2⟩)
            go_meet
            exact ⟨by rw [HX.out]; rfl, g1.trans g2⟩
          · rw [b3] at hok
            clear b3
            have HX : Sec (ok = false) := sec (by rw [hok]; rfl)
            clear hok
            go_wp2_with (go_at_call 123; refine Calls.mono (HNa.out _) ?_; rintro e w2 ⟨rfl, g2⟩)
            go_meet
            exact ⟨by rw [HX.out]; rfl, g1.trans g2⟩
        · rw [a3] at hok
          clear a3
          rcases may_cases id with ⟨b1, b2⟩ | ⟨b1, b2, b3⟩ | ⟨b1, b2, b3⟩
          · rw [b2] at hok
            clear b2
            have HX : Sec (ok = true) := sec (by rw [hok]; rfl)
            clear hok
            go_wp2_with (go_at_call 123; refine Calls.mono (HNa.out _) ?_; rintro e w2 ⟨rfl, g2⟩)
            go_meet
            exact ⟨by rw [HX.out]; rfl, g1.trans g2⟩
          · rw [b3] at hok
            clear b3
            have HX : Sec (ok = true) := sec (by rw [hok]; rfl)
            clear hok
            go_wp2_with (go_at_call 123; refine Calls.mono (HNa.out _) ?_; rintro e w2 ⟨rfl, g2⟩)
            go_meet
            exact ⟨by rw [HX.out]; rfl, g1.trans g2⟩
          · rw [b3] at hok
            clear b3
            have HX : Sec (ok = false) := sec (by rw [hok]; rfl)
            clear hok
            go_wp2_with (go_at_call 123; refine Calls.mono (HNa.out _) ?_; rintro e w2 ⟨rfl, g2⟩)
            go_meet
            exact ⟨by rw [HX.out]; rfl, g1.trans g2⟩
        · rw [a3] at hok
          clear a3
          have hok : ok = false := by rw [hok]; simp
          have HX : Sec (ok = false) := sec hok
          clear hok
          go_wp2_with (go_at_call 123; refine Calls.mono (HNa.out _) ?_; rintro e w2 ⟨rfl, g2⟩)
          go_meet
          exact ⟨by rw [HX.out]; rfl, g1.trans g2⟩
    case rest =>
      clear g1
      obtain ⟨rfl, g2⟩ := hcut
      cases ok with
      | false =>
        have HV2 : Sec (V = ([], 2)) := sec (by
          rw [HV1.out, if_neg]
          rintro ⟨h1, h2, h3⟩
          have := HOK.out
          rw [h1, h2, h3] at this
          cases this)
        go_wp2_with fail
        go_ret2
        exact SetPost.bad HV2.out g2
      | true =>
        have HV2 : Sec (V = if getR fs name = old then
          (if hasR name fs = true then (if id = [] then (fs.eraseIdx (lbR name fs), 0) else (fs.set (lbR name fs) (name, id), 0))
          else if id = [] then (fs, 0) else if 32 ≤ fs.length then ([], 6) else (insR (lbR name fs) (name, id) fs, 0))
        else ([], 9)) := sec (by
          have := HOK.out.symm
          simp only [Bool.and_eq_true] at this
          rw [HV1.out, if_pos this])
        have HGt : Sec (∀ w', Gr w w' → Calls Tryz.prog 128 #[.slice A n cap, .string (bs name)] w' fun e w'' => e = .returned (.string (bs (getR fs name))) ∧ Gr w' w'') := sec (fun w' g => rfget_any fs name A n cap w' hn (HX.out.gr g) HSO.out)
        have HFi : Sec (∀ w', Gr w w' → Calls Tryz.prog 129 #[.slice A n cap, .string (bs name)] w' fun e w'' => e = .returned (.tuple #[.int .i64 (lbR name fs : Int), .bool (hasR name fs)]) ∧ Gr w' w'') := sec (fun w' g => rfind_any fs name A n cap w' hn (HX.out.gr g) HSO.out)
        have HCl : Sec (∀ w', Gr w w' → Calls Tryz.prog 130 #[.slice A n cap] w' fun e w'' => ∃ A' cap', e = .returned (.slice A' n cap') ∧ w''.ownsRow w'.heap.size 126 2 (.slice A' n cap') n (fs.flatMap refV) ∧ Gr w' w'') := sec (fun w' g => rclone_any fs A n cap w' hn (HX.out.gr g) HA.out)
        have HLB : Sec (lbR name fs ≤ fs.length) := sec (by unfold lbR; exact (List.takeWhile_sublist _).length_le)
        have HAS : Sec (hasR name fs = true → ∃ hi : lbR name fs < fs.length, fs[lbR name fs].1 = name) := sec (fun h => by obtain ⟨h1, h2, _⟩ := getR_has HSO.out h; exact ⟨h1, h2⟩)
        obtain ⟨gt, hgt⟩ : ∃ g, g = getR fs name := ⟨_, rfl⟩
        obtain ⟨k, hk⟩ : ∃ k, k = lbR name fs := ⟨_, rfl⟩
        obtain ⟨hh, hhh⟩ : ∃ b, b = hasR name fs := ⟨_, rfl⟩
        rw [← hgt, ← hk, ← hhh] at HV2
        rw [← hgt] at HGt
        rw [← hk, ← hhh] at HFi HAS
        rw [← hk] at HLB
        have hkl := HLB.out
        clear hgt hk hhh HV HV1 HOK
        by_cases hgo : gt = old
        · have q0 : (gt == old) = true := by rw [beq_iff_eq]; exact hgo
          have HV3 : Sec (V = if hh = true then (if id = [] then (fs.eraseIdx k, 0) else (fs.set k (name, id), 0))
            else if id = [] then (fs, 0) else if 32 ≤ fs.length then ([], 6) else (insR k (name, id) fs, 0)) := sec (by rw [HV2.out, if_pos hgo])
          clear hgo HV2
          go_upto_region 9 with (first
            | (go_at_call 128; (with_reducible refine Calls.mono (HGt.out _ g2) ?_); rintro e w3 ⟨rfl, g3'⟩; have g3 := Gr.trans g2 g3')
            | (go_at_call 129; (with_reducible refine Calls.mono (HFi.out _ g3) ?_); rintro e w4 ⟨rfl, g4'⟩; have g4 := Gr.trans g3 g4')
            | (go_at_call 130; (with_reducible refine Calls.mono (HCl.out _ g4) ?_); rintro e w5 ⟨A5, c5, rfl, o5, g5'⟩; have g5 := Gr.trans g4 g5'))
          have O5 := sec (own_low o5 g4.size)
          clear o5 g3' g4' g5' g3 q0
          by_cases hi0 : id = []
          · have q1 : (id == []) = true := by rw [beq_iff_eq]; exact hi0
            cases hh with
            | true =>
              obtain ⟨hi, h1⟩ := HAS.out rfl
              have HV4 : Sec (V = (fs.eraseIdx k, 0)) := sec (by rw [HV3.out, if_pos rfl, if_pos hi0])
              have hkn : k < n := by omega
              have HDe := sec (rdelete_any A5 n c5 k w.heap.size fs w5 O5.out hkn hn)
              clear hi0 HV3 h1 hi
              go_wp2_with (go_at_call 131; refine Calls.mono HDe.out ?_; rintro e w6 ⟨rfl, o6, g6⟩)
              go_ret2
              exact SetPost.own HV4.out o6 (Gr.grown g5 g6 (fun k hk => (O5.out.lt k hk).1))
            | false =>
              have HV4 : Sec (V = (fs, 0)) := sec (by rw [HV3.out, if_neg (by simp), if_pos hi0])
              clear hi0 HV3
              go_wp2_with fail
              go_ret2
              exact SetPost.own HV4.out O5.out g5
          · have q1 : (id == []) = false := by rw [beq_eq_false_iff_ne]; exact hi0
            cases hh with
            | true =>
              obtain ⟨hi, h1⟩ := HAS.out rfl
              have HV4 : Sec (V = (fs.set k (name, id), 0)) := sec (by rw [HV3.out, if_pos rfl, if_neg hi0])
              have hkn : (k : Int) < (n : Int) := by omega
              have HH1 := sec (And.intro hi h1)
              obtain ⟨g, rfl, hfz⟩ : ∃ g, A5 = some ⟨g, 0, none⟩ ∧ w5.frozen? ⟨g, k * 2 + 1, none⟩ = false := by
                rcases O5.out.2 with ⟨_, h0⟩ | ⟨g, cap', cur, hv, _, hb, _⟩
                · omega
                · injection hv with hv _ _
                  have hb' : Blk w5 g 126 cur := hb
                  exact ⟨g, hv, hb'.frozen _⟩
              have hce : w5.cell? ⟨g, k * 2 + 1, none⟩ = some (.string (bs (fs[k]'hi).2)) := by
                obtain ⟨b, off, e, _, h3⟩ := (row_of_own O5.out).cell hi
                injection e with e; injection e with e1 e2 _
                subst e1 e2
                rw [Nat.zero_add] at h3
                exact h3
              obtain ⟨y, hy⟩ : ∃ y, y = fs[k]'hi := ⟨_, rfl⟩
              rw [← hy] at hce
              clear hi0 HV3 hy
              go_wp2_with fail
              go_ret2
              have o7 := rown_set O5.out k HH1.out.1 name id HH1.out.2
              exact SetPost.own HV4.out o7 (g5.setCell (p := ⟨g, k * 2 + 1, none⟩) (O5.out.lt g rfl).1 _)
            | false =>
              by_cases h32 : 32 ≤ fs.length
              · have q2 : decide ((32 : Int) ≤ (n : Int)) = true := decide_eq_true (by omega)
                have HV4 : Sec (V = ([], 6)) := sec (by rw [HV3.out, if_neg (by simp), if_neg hi0, if_pos h32])
                clear hi0 HV3
                go_wp2_with fail
                go_ret2
                exact SetPost.bad HV4.out g5
              · have q2 : decide ((32 : Int) ≤ (n : Int)) = false := decide_eq_false (by omega)
                have HV4 : Sec (V = (insR k (name, id) fs, 0)) := sec (by rw [HV3.out, if_neg (by simp), if_neg hi0, if_neg h32])
                have hkn : k ≤ n := by omega
                have HIn := sec (rinsert_any A5 n c5 k w5.heap.size 1 w.heap.size fs (name, id) (w5.alloc (.cells #[.string (bs name), .string (bs id)] 126)) (O5.out.alloc _) hkn hn (Blk.new _ _ _) (fun e => by have := (O5.out.lt _ e).2; omega) (by have := g5.size; simp; omega))
                clear hi0 HV3 h32
                go_wp2_with (go_at_call 132; refine Calls.mono HIn.out ?_; rintro e w6 ⟨A6, c6, rfl, o6, g6⟩)
                go_ret2
                exact SetPost.own HV4.out o6 (Gr.grown (g5.alloc _) g6 (fun k hk => (O5.out.lt k hk).1))
        · have q0 : (gt == old) = false := by rw [beq_eq_false_iff_ne]; exact hgo
          have HV3 : Sec (V = ([], 9)) := sec (by rw [HV2.out, if_neg hgo])
          clear hgo
          go_wp2_with (go_at_call 128; (with_reducible refine Calls.mono (HGt.out _ g2) ?_); rintro e w3 ⟨rfl, g3'⟩; have g3 := Gr.trans g2 g3')
          go_ret2
          exact SetPost.bad HV3.out g3
end Go.Proofs.YtoamnifnfkgbiaaGreatDoor

namespace Go.Proofs.YtoamnifnfkgbiaaGreatDoor
set_option maxRecDepth 100000
open Go.RowKit
set_option linter.unusedVariables false
/-! ### plain: a good list parted at a name -/
theorem getR_drop {fs : List Rf} {name : List UInt8} {i : Nat} (hi : i < fs.length) : getR (fs.drop i) name = if fs[i].1 = name then fs[i].2 else getR (fs.drop (i + 1)) name := by
  rw [List.drop_eq_getElem_cons hi]
  unfold getR
  rw [List.find?_cons]
  by_cases h : fs[i].1 = name
  · rw [if_pos h]; simp [h]
  · rw [if_neg h]
    have : (fs[i].1 == name) = false := by simpa using h
    rw [this]
theorem getR_nil (name : List UInt8) : getR [] name = [] := rfl
def lowR (name : List UInt8) (fs : List Rf) : List Rf := fs.filter fun f => ltB f.1 name
def upRf (name : List UInt8) (fs : List Rf) : List Rf := fs.filter fun f => ltB name f.1
theorem filter_take_succ {α : Type} (p : α → Bool) (l : List α) (i : Nat) (h : i < l.length) : (l.take (i + 1)).filter p = (l.take i).filter p ++ (if p l[i] = true then [l[i]] else []) := by
  rw [List.take_succ_eq_append_getElem h, List.filter_append]
  congr 1
  by_cases hp : p l[i] = true
  · rw [if_pos hp]; simp [hp]
  · rw [if_neg hp]; simp [hp]
theorem low_eq (name : List UInt8) : ∀ fs : List Rf, SortedR fs → lowR name fs = fs.take (lbR name fs)
  | [], _ => rfl
  | f :: r, h => by
    have hr : SortedR r := (List.pairwise_cons.1 h).2
    have ih := low_eq name r hr
    unfold lowR lbR at *
    rw [List.filter_cons, List.takeWhile_cons]
    by_cases hf : ltB f.1 name = true
    · rw [if_pos hf, if_pos hf, ih]; rfl
    · rw [if_neg hf, if_neg hf]
      simp only [List.length_nil, List.take_zero]
      rw [List.filter_eq_nil_iff]
      intro g hg hgn
      exact hf (ltB_trans _ _ _ ((List.pairwise_cons.1 h).1 g hg) hgn)
theorem up_all {name : List UInt8} : ∀ fs : List Rf, (∀ f ∈ fs, ltB name f.1 = true) → upRf name fs = fs := fun fs h => List.filter_eq_self.2 h
theorem up_eq (name : List UInt8) : ∀ fs : List Rf, SortedR fs → upRf name fs = fs.drop (lbR name fs + if hasR name fs = true then 1 else 0)
  | [], _ => by simp [upRf]
  | f :: r, h => by
    have hr : SortedR r := (List.pairwise_cons.1 h).2
    have ih := up_eq name r hr
    have hlt := (List.pairwise_cons.1 h).1
    by_cases hf : ltB f.1 name = true
    · have h1 : ltB name f.1 = false := ltB_no hf
      have h2 : (f.1 == name) = false := by
        rw [beq_eq_false_iff_ne]; intro e; rw [e, ltB_irr] at hf; cases hf
      have h3 : lbR name (f :: r) = lbR name r + 1 := by unfold lbR; rw [List.takeWhile_cons, if_pos hf]; rfl
      have h4 : hasR name (f :: r) = hasR name r := by unfold hasR; rw [List.any_cons, h2]; rfl
      have h5 : upRf name (f :: r) = upRf name r := by unfold upRf; rw [List.filter_cons, h1]; rfl
      rw [h3, h4, h5, ih, show lbR name r + 1 + (if hasR name r = true then 1 else 0) = (lbR name r + if hasR name r = true then 1 else 0) + 1 by omega, List.drop_succ_cons]
    · have h3 : lbR name (f :: r) = 0 := by unfold lbR; rw [List.takeWhile_cons, if_neg hf]; rfl
      by_cases he : f.1 = name
      · have h4 : hasR name (f :: r) = true := by unfold hasR; rw [List.any_cons, beq_iff_eq.2 he]; rfl
        have h1 : ltB name f.1 = false := by rw [he]; exact ltB_irr _
        have h5 : upRf name (f :: r) = upRf name r := by unfold upRf; rw [List.filter_cons, h1]; rfl
        rw [h3, h4, h5, up_all r (fun g hg => by rw [← he]; exact hlt g hg)]
        rfl
      · have h1 : ltB name f.1 = true := by
          cases hb : ltB name f.1 with
          | true => rfl
          | false => exact absurd (ltB_tri f.1 name (by simpa using hf) hb) he
        have h4 : hasR name (f :: r) = false := by
          unfold hasR
          rw [List.any_eq_false]
          intro g hg
          rcases List.mem_cons.1 hg with rfl | hg
          · simpa using he
          · have := ltB_trans _ _ _ h1 (hlt g hg)
            intro e
            have e : g.1 = name := by simpa using e
            rw [e, ltB_irr] at this
            cases this
        rw [h3, h4, up_all (f :: r) (fun g hg => by
          rcases List.mem_cons.1 hg with rfl | hg
          · exact h1
          · exact ltB_trans _ _ _ h1 (hlt g hg))]
        rfl
/-- P8.3 as the document's answer builds it -/
def refSet (name id : List UInt8) (fs : List Rf) : List Rf := lowR name fs ++ ((if id = [] then [] else [(name, id)]) ++ upRf name fs)
theorem refSet_has {name id : List UInt8} {fs : List Rf} (h : SortedR fs) (hh : hasR name fs = true) : refSet name id fs = if id = [] then fs.eraseIdx (lbR name fs) else fs.set (lbR name fs) (name, id) := by
  obtain ⟨hi, h1, _⟩ := getR_has h hh
  unfold refSet
  rw [low_eq name fs h, up_eq name fs h, hh, if_pos rfl]
  by_cases hid : id = []
  · rw [if_pos hid, if_pos hid, List.eraseIdx_eq_take_drop_succ]; rfl
  · rw [if_neg hid, if_neg hid, List.set_eq_take_append_cons_drop, if_pos hi]; rfl
theorem refSet_no {name id : List UInt8} {fs : List Rf} (h : SortedR fs) (hh : hasR name fs = false) : refSet name id fs = if id = [] then fs else insR (lbR name fs) (name, id) fs := by
  unfold refSet insR
  rw [low_eq name fs h, up_eq name fs h, hh]
  by_cases hid : id = []
  · rw [if_pos hid, if_pos hid]; simp
  · rw [if_neg hid, if_neg hid]; rfl
/-- with ids of 32 bytes: none stands for the name iff it answers none -/
theorem getR_empty {fs : List Rf} (h : SortedR fs) (hs : ∀ f ∈ fs, f.2.length = 32) {name : List UInt8} : (getR fs name = []) ↔ hasR name fs = false := by
  constructor
  · intro hg
    cases hh : hasR name fs with
    | false => rfl
    | true =>
      obtain ⟨hi, _, h2⟩ := getR_has h hh
      have := hs _ (List.getElem_mem hi)
      rw [← h2, hg] at this
      cases this
  · exact getR_no
/-- the document's way to the same answer -/
theorem setR_ref {fs : List Rf} (hG : goodR fs = true) (name old id : List UInt8) : setR fs name old id =
    if (refB name && (mayB old && mayB id)) = true then (if getR fs name = old then (if old = [] ∧ id ≠ [] ∧ fs.length = 32 then ([], 6) else (refSet name id fs, 0)) else ([], 9)) else ([], 2) := by
  obtain ⟨h32, hsz, hso⟩ := goodR_sorted hG
  unfold setR
  rw [if_pos hG]
  simp only [Bool.and_eq_true]
  split
  · split
    · rename_i hgo
      have he := getR_empty hso (fun f hf => (hsz f hf).2) (name := name)
      rw [hgo] at he
      cases hh : hasR name fs with
      | true =>
        have ho : ¬ old = [] := fun h => by rw [he.1 h] at hh; cases hh
        have hc : ¬ (old = [] ∧ id ≠ [] ∧ fs.length = 32) := fun h => ho h.1
        rw [if_pos rfl, refSet_has hso hh, if_neg hc]
        by_cases hid : id = []
        · rw [if_pos hid, if_pos hid]
        · rw [if_neg hid, if_neg hid]
      | false =>
        have ho : old = [] := he.2 hh
        rw [if_neg (by simp), refSet_no hso hh]
        by_cases hid : id = []
        · rw [if_pos hid, if_neg (fun h => h.2.1 hid), if_pos hid]
        · rw [if_neg hid]
          by_cases hl : 32 ≤ fs.length
          · rw [if_pos hl, if_pos ⟨ho, hid, by omega⟩]
          · rw [if_neg hl, if_neg (fun h => hl (by omega)), if_neg hid]
    · rfl
  · rfl
end Go.Proofs.YtoamnifnfkgbiaaGreatDoor

namespace Go.Proofs.YtoamnifnfkgbiaaGreatDoor
set_option maxRecDepth 100000
open Go.RowKit
set_option linter.unusedVariables false
set_option maxHeartbeats 4000000 in
theorem rrget_any (fs : List Rf) (name : List UInt8) (A : Option Addr) (n cap : Nat) (w : World) (hn : n ≤ 1099511627776) (hx : RfRow w A n fs) :
    Calls Tryz.prog 142 #[.slice A n cap, .string (bs name)] w fun e w' => e = .returned (.string (bs (getR fs name))) ∧ Gr w w' := by
  have hl := hx.len
  have HX := sec hx
  obtain ⟨V, hV⟩ : ∃ V, V = getR fs name := ⟨_, rfl⟩
  rw [← hV]
  have HV := sec hV
  clear hx hV
  go_enter Tryz.func142, Tryz.ntmps142
  go_wp2_with fail
  go_loopg [9, 6] n (fun fuel iv _ wr => ∃ i : Nat, iv = .int .i64 (i : Int) ∧ n ≤ i + fuel ∧ i ≤ n ∧ Sec (V = getR (fs.drop i) name) ∧ Gr w wr)
  case atStart => exact ⟨0, rfl, by omega, by omega, HV, Gr.refl _⟩
  case round =>
    obtain ⟨i, rfl, hik, hi, HG, hg⟩ := hrel
    by_cases hlt : i < n
    · have hif : i < fs.length := by omega
      have hii : (i : Int) < (n : Int) := by omega
      obtain ⟨b, off, rfl, e0, e1⟩ := (HX.out.gr hg).cell hif
      have hgo := HG.out
      rw [getR_drop hif] at hgo
      obtain ⟨x, hxx⟩ : ∃ x, x = fs[i] := ⟨_, rfl⟩
      rw [← hxx] at e0 e1 hgo
      clear hxx hif
      obtain ⟨nm, id⟩ := x
      simp only at e0 e1 hgo
      have HGO := sec hgo
      clear hgo
      have hgx := hg.alloc (.cells #[.string (bs nm), .string (bs id)] 126)
      by_cases he : nm = name
      · have q0 : (nm == name) = true := by rw [beq_iff_eq]; exact he
        have HF : Sec (V = id) := sec (by rw [HGO.out, if_pos he])
        clear he
        go_wp2_with fail
        go_ret
        exact ⟨by rw [HF.out]; rfl, hgx⟩
      · have q0 : (nm == name) = false := by rw [beq_eq_false_iff_ne]; exact he
        have HN : Sec (V = getR (fs.drop (i + 1)) name) := sec (by rw [HGO.out, if_neg he])
        clear he
        go_wp2_with fail
        go_roundg (gk - 1)
        case rel => exact ⟨i + 1, by go_num, by omega, by omega, HN, hgx⟩
        case measure => omega
    · have HF : Sec (V = []) := sec (by rw [HG.out, List.drop_eq_nil_of_le (by omega)]; rfl)
      obtain rfl : i = n := by omega
      clear hlt hik
      go_wp2_with fail
      go_ret
      exact ⟨by rw [HF.out]; rfl, hg⟩
set_option maxHeartbeats 4000000 in
theorem sameRefs_any (fs : List Rf) (A A' : Option Addr) (n cap cap' : Nat) (w : World) (hn : n ≤ 1099511627776) (hx : RfRow w A n fs) (hy : RfRow w A' n fs) :
    Calls Tryz.prog 50 #[.slice A n cap, .slice A' n cap'] w fun e w' => e = .returned (.bool true) ∧ Gr w w' := by
  have hl := hx.len
  have HX := sec hx
  have HY := sec hy
  clear hx hy
  go_enter Tryz.func50, Tryz.ntmps50
  go_wp2_with fail
  go_loopg [13, 5] n (fun fuel iv _ wr => ∃ i : Nat, iv = .int .i64 (i : Int) ∧ n ≤ i + fuel ∧ i ≤ n ∧ Gr w wr)
  case atStart => exact ⟨0, rfl, by omega, by omega, Gr.refl _⟩
  case round =>
    obtain ⟨i, rfl, hik, hi, hg⟩ := hrel
    by_cases hlt : i < n
    · have hif : i < fs.length := by omega
      have hii : (i : Int) < (n : Int) := by omega
      obtain ⟨b, off, rfl, e0, e1⟩ := (HX.out.gr hg).cell hif
      obtain ⟨b2, off2, rfl, x0, x1⟩ := (HY.out.gr hg).cell hif
      obtain ⟨x, hxx⟩ : ∃ x, x = fs[i] := ⟨_, rfl⟩
      rw [← hxx] at e0 e1 x0 x1
      clear hxx hif
      obtain ⟨nm, id⟩ := x
      simp only at e0 e1 x0 x1
      go_upto_region 6 with fail
      go_quiet (fail)
      go_wp2_with fail
      go_roundg (gk - 1)
      case rel => exact ⟨i + 1, by go_num, by omega, by omega, Gr.drewN hg _⟩
      case measure => omega
    · obtain rfl : i = n := by omega
      clear hlt hik
      go_wp2_with fail
      go_ret
      exact ⟨rfl, hg⟩
end Go.Proofs.YtoamnifnfkgbiaaGreatDoor

namespace Go.Proofs.YtoamnifnfkgbiaaGreatDoor
set_option maxRecDepth 100000
open Go.RowKit
set_option linter.unusedVariables false
theorem own_app {w : World} {B n c : Nat} {A : Option Addr} {L : List Rf} {nm id : List UInt8} (h : w.ownsRow B 126 2 (.slice A (n + 1) c) (n + 1) (L.flatMap refV ++ #[.string (bs nm), .string (bs id)].toList)) :
    w.ownsRow B 126 2 (.slice A (n + 1) c) (n + 1) ((L ++ [(nm, id)]).flatMap refV) := by
  rw [List.flatMap_append, List.flatMap_singleton]
  exact h
theorem two_one {nm id : List UInt8} : ∀ u ∈ (#[.string (bs nm), .string (bs id)] : Array Value).toList, u.oneCell' = true := by
  intro u hu
  simp at hu
  rcases hu with rfl | rfl <;> rfl
theorem row_two {w : World} {g : Nat} {nm id : List UInt8} (h : Blk w g 126 #[.string (bs nm), .string (bs id)]) : Row w 2 (some ⟨g, 0, none⟩) 1 (#[.string (bs nm), .string (bs id)] : Array Value).toList := Row.lit h
set_option maxHeartbeats 8000000 in
theorem rrset_any (fs : List Rf) (name old id : List UInt8) (A : Option Addr) (n cap : Nat) (w : World) (hn : n ≤ 1099511627776) (hx : RfRow w A n fs)
    (hs : ∀ f ∈ fs, f.1.length ≤ 1099511627776 ∧ f.2.length ≤ 1099511627776) (hnm : name.length ≤ 1099511627776) (hod : old.length ≤ 1099511627776) (hid : id.length ≤ 1099511627776) :
    Calls Tryz.prog 93 #[.slice A n cap, .string (bs name), .string (bs old), .string (bs id)] w fun e w' => SetPost w (setR fs name old id) e w' := by
  have HGo := sec (rrgoodL_any fs A n cap w hn hx hs)
  have HNa := sec (fun w => refName_any name w hnm)
  have HMo := sec (fun w => maybe_any old w)
  have HMi := sec (fun w => maybe_any id w)
  have HX := sec hx
  have hl := hx.len
  obtain ⟨V, hV⟩ : ∃ V, V = setR fs name old id := ⟨_, rfl⟩
  rw [← hV]
  have HV : Sec (V = setR fs name old id) := sec hV
  clear hV hx hs
  cases hG : goodR fs with
  | false =>
    have HV3 : Sec (V = ([], 3)) := sec (by rw [HV.out]; unfold setR; rw [hG]; rfl)
    rw [hG] at HGo
    clear hG
    go_enter Tryz.func93, Tryz.ntmps93
    go_wp2_with (go_at_call 141; refine Calls.mono HGo.out ?_; rintro e w1 ⟨rfl, g1⟩)
    go_ret2
    exact SetPost.bad HV3.out g1
  | true =>
    have HV1 : Sec (V = if (refB name && (mayB old && mayB id)) = true then (if getR fs name = old then (if old = [] ∧ id ≠ [] ∧ fs.length = 32 then ([], 6) else (refSet name id fs, 0)) else ([], 9)) else ([], 2)) := sec (by rw [HV.out, setR_ref hG])
    have h32 := (goodR_sorted hG).1
    rw [hG] at HGo
    clear hG HV
    obtain ⟨rb, hrb⟩ : ∃ b, b = refB name := ⟨_, rfl⟩
    obtain ⟨mo, hmo⟩ : ∃ b, b = mayB old := ⟨_, rfl⟩
    obtain ⟨mi, hmi⟩ : ∃ b, b = mayB id := ⟨_, rfl⟩
    obtain ⟨gt, hgt⟩ : ∃ g, g = getR fs name := ⟨_, rfl⟩
    rw [← hrb, ← hmo, ← hmi, ← hgt] at HV1
    rw [← hrb] at HNa
    rw [← hmo] at HMo
    rw [← hmi] at HMi
    have HGt : Sec (∀ w', Gr w w' → Calls Tryz.prog 142 #[.slice A n cap, .string (bs name)] w' fun e w'' => e = .returned (.string (bs gt)) ∧ Gr w' w'') := sec (fun w' g => by rw [hgt]; exact rrget_any fs name A n cap w' hn (HX.out.gr g))
    clear hrb hmo hmi hgt
    go_enter Tryz.func93, Tryz.ntmps93
    go_upto_region 3 with (go_at_call 141; refine Calls.mono HGo.out ?_; rintro e w1 ⟨rfl, g1⟩)
    go_cut [30] from 18 to 30 (fun v wc => v = .bool (!(rb && (mo && mi))) ∧ Gr w wc)
    case first =>
      cases rb
      · go_wp2_with (go_at_call 134; refine Calls.mono (HNa.out _) ?_; rintro e w2 ⟨rfl, g2⟩)
        go_meet
        exact ⟨rfl, g1.trans g2⟩
      · cases mo
        · go_wp2_with (first
            | (go_at_call 134; refine Calls.mono (HNa.out _) ?_; rintro e w2 ⟨rfl, g2⟩)
            | (go_at_call 135; refine Calls.mono (HMo.out _) ?_; rintro e w3 ⟨rfl, rfl⟩))
          go_meet
          exact ⟨rfl, g1.trans g2⟩
        · go_wp2_with (first
            | (go_at_call 134; refine Calls.mono (HNa.out _) ?_; rintro e w2 ⟨rfl, g2⟩)
            | (go_at_call 135; (with_reducible refine Calls.mono (HMo.out w2) ?_); rintro e w3 ⟨rfl, rfl⟩)
            | (go_at_call 135; (with_reducible refine Calls.mono (HMi.out w2) ?_); rintro e w4 ⟨rfl, rfl⟩))
          go_meet
          exact ⟨by cases mi <;> rfl, g1.trans g2⟩
    case rest =>
      clear g1
      obtain ⟨rfl, g2⟩ := hcut
      cases hok : rb && (mo && mi) with
      | false =>
        have HV2 : Sec (V = ([], 2)) := sec (by rw [HV1.out, hok]; rfl)
        clear hok
        go_wp2_with fail
        go_ret2
        exact SetPost.bad HV2.out g2
      | true =>
        have HV2 : Sec (V = if gt = old then (if old = [] ∧ id ≠ [] ∧ fs.length = 32 then ([], 6) else (refSet name id fs, 0)) else ([], 9)) := sec (by rw [HV1.out, if_pos hok])
        clear hok HV1
        by_cases hgo : gt = old
        · have q0 : (gt == old) = true := by rw [beq_iff_eq]; exact hgo
          have HV3 : Sec (V = if old = [] ∧ id ≠ [] ∧ fs.length = 32 then ([], 6) else (refSet name id fs, 0)) := sec (by rw [HV2.out, if_pos hgo])
          clear hgo HV2
          go_upto_region 7 with (go_at_call 142; (with_reducible refine Calls.mono (HGt.out _ g2) ?_); rintro e w3 ⟨rfl, g3'⟩; have g3 := Gr.trans g2 g3')
          clear q0
          obtain ⟨full, hfull⟩ : ∃ b, b = decide (old = [] ∧ id ≠ [] ∧ fs.length = 32) := ⟨_, rfl⟩
          go_cut [46] from 36 to 46 (fun v wc => v = .bool full ∧ Gr w wc)
          case first =>
            have HFU := sec hfull
            clear hfull
            by_cases ho : old = []
            · have q1 : (old == []) = true := by rw [beq_iff_eq]; exact ho
              by_cases hi0 : id = []
              · have q2 : (id == []) = true := by rw [beq_iff_eq]; exact hi0
                have HF : Sec (full = false) := sec (by rw [HFU.out]; exact decide_eq_false (fun h => h.2.1 hi0))
                clear ho hi0
                go_wp2_with fail
                go_meet
                exact ⟨by rw [HF.out], g3⟩
              · have q2 : (id == []) = false := by rw [beq_eq_false_iff_ne]; exact hi0
                by_cases hf : fs.length = 32
                · have q3 : ((n : Int) == 32) = true := by rw [beq_iff_eq]; omega
                  have HF : Sec (full = true) := sec (by rw [HFU.out]; exact decide_eq_true ⟨ho, hi0, hf⟩)
                  clear ho hi0
                  go_wp2_with fail
                  go_meet
                  exact ⟨by rw [HF.out], g3⟩
                · have q3 : ((n : Int) == 32) = false := by rw [beq_eq_false_iff_ne]; omega
                  have HF : Sec (full = false) := sec (by rw [HFU.out]; exact decide_eq_false (fun h => hf h.2.2))
                  clear ho hi0
                  go_wp2_with fail
                  go_meet
                  exact ⟨by rw [HF.out], g3⟩
            · have q1 : (old == []) = false := by rw [beq_eq_false_iff_ne]; exact ho
              have HF : Sec (full = false) := sec (by rw [HFU.out]; exact decide_eq_false (fun h => ho h.1))
              clear ho
              go_wp2_with fail
              go_meet
              exact ⟨by rw [HF.out], g3⟩
          case rest =>
            clear g2 g3
            obtain ⟨rfl, g4⟩ := hcut
            cases full with
            | true =>
              have HV4 : Sec (V = ([], 6)) := sec (by rw [HV3.out, if_pos (of_decide_eq_true hfull.symm)])
              clear hfull
              go_wp2_with fail
              go_ret2
              exact SetPost.bad HV4.out g4
            | false =>
              have HV4 : Sec (V = (refSet name id fs, 0)) := sec (by rw [HV3.out, if_neg (of_decide_eq_false hfull.symm)])
              clear hfull HV3
              go_upto_region 11 with fail
              have HW0 : Sec (w.heap.size ≤ wc.heap.size) := sec g4.size
              go_loopg [49, 10, 12] n (fun fuel iv ov _ wr => ∃ (i m c0 : Nat) (A0 : Option Addr), iv = .int .i64 (i : Int) ∧ ov = .slice A0 m c0 ∧ n ≤ i + fuel ∧ i ≤ n ∧ m ≤ i ∧ Sec (wr.ownsRow w.heap.size 126 2 (.slice A0 m c0) m ((lowR name (fs.take i)).flatMap refV)) ∧ Gr w wr)
              case atStart => exact ⟨0, 0, 0, none, rfl, rfl, by omega, by omega, by omega, sec (World.ownsRow_nil _ _ _ _), g4⟩
              case round =>
                clear g4
                obtain ⟨i, m, c0, A0, rfl, rfl, hik, hi, hm, HO, hg⟩ := hrel
                by_cases hlt : i < n
                · have hif : i < fs.length := by omega
                  have hii : (i : Int) < (n : Int) := by omega
                  obtain ⟨b, off, rfl, e0, e1⟩ := (HX.out.gr hg).cell hif
                  have HFT := sec (filter_take_succ (fun f : Rf => ltB f.1 name) fs i hif)
                  obtain ⟨x, hxx⟩ : ∃ x, x = fs[i] := ⟨_, rfl⟩
                  rw [← hxx] at e0 e1 HFT
                  clear hxx hif
                  obtain ⟨nm, id'⟩ := x
                  simp only at e0 e1 HFT
                  have hgx := hg.alloc (.cells #[.string (bs nm), .string (bs id')] 126)
                  cases hb : ltB nm name with
                  | true =>
                    have q1 : Op.bytesLess nm name = true := hb
                    have HL : Sec (lowR name (fs.take (i + 1)) = lowR name (fs.take i) ++ [(nm, id')]) := sec (by unfold lowR; rw [HFT.out, if_pos hb])
                    have hb1 : (m + 1) * 32 ≤ 140737488355328 := by omega
                    have hb2 : m + 1 ≤ maxLen := by unfold maxLen; omega
                    clear hb HFT
                    go_wp2_with (refine wpList_append_row E.ref rfl (.tmp 57) (.tmp 59) rfl (B := w.heap.size) (A0 := A0) (n0 := m) (cap0 := c0) (xs := (lowR name (fs.take i)).flatMap refV) rfl ((HO.out.alloc _).alloc _) rfl (row_two (Blk.new1 wr _ _ _)) (by intro h; cases h) two_one hb1 hb2 (hgx.alloc _).size ?_; intro A' c' w' hown' hgn)
                    have o2 := sec (own_app hown')
                    go_roundg (gk - 1)
                    case rel => exact ⟨i + 1, m + 1, c', A', by go_num, rfl, by omega, by omega, by omega, sec (by rw [HL.out]; exact o2.out), Gr.grown (hgx.alloc _) hgn (fun k hk => (HO.out.lt k hk).1)⟩
                    case measure => omega
                  | false =>
                    have q1 : Op.bytesLess nm name = false := hb
                    have HL : Sec (lowR name (fs.take (i + 1)) = lowR name (fs.take i)) := sec (by unfold lowR; rw [HFT.out, if_neg (by rw [hb]; simp), List.append_nil])
                    clear hb HFT
                    go_wp2_with fail
                    go_roundg (gk - 1)
                    case rel => exact ⟨i + 1, m, c0, A0, by go_num, rfl, by omega, by omega, by omega, sec (by rw [HL.out]; exact HO.out.alloc _), hgx⟩
                    case measure => omega
                · obtain rfl : i = n := by omega
                  have HO2 : Sec (wr.ownsRow w.heap.size 126 2 (.slice A0 m c0) m ((lowR name fs).flatMap refV)) := sec (by have := HO.out; rwa [List.take_of_length_le (by omega)] at this)
                  clear hlt hik HO
                  by_cases hi0 : id = []
                  · have q2 : (id == []) = true := by rw [beq_iff_eq]; exact hi0
                    have HV5 : Sec (V = (lowR name fs ++ upRf name fs, 0)) := sec (by rw [HV4.out]; unfold refSet; rw [if_pos hi0, List.nil_append])
                    clear hi0 HV4
                    go_wp2_with fail
                    have HO1 := HO2
                    have g6 := hg
                    have hm1 : m ≤ i + 1 := by omega
                    obtain ⟨L, hL⟩ : ∃ L, L = lowR name fs := ⟨_, rfl⟩
                    rw [← hL] at HO1 HV5
                    clear hL hg HO2
                    go_loopg [72, 10, 14] i (fun fuel iv ov _ wr => ∃ (j m c0 : Nat) (A0 : Option Addr), iv = .int .i64 (j : Int) ∧ ov = .slice A0 m c0 ∧ i ≤ j + fuel ∧ j ≤ i ∧ m ≤ i + 1 + j ∧ Sec (wr.ownsRow w.heap.size 126 2 (.slice A0 m c0) m ((L ++ upRf name (fs.take j)).flatMap refV)) ∧ Gr w wr)
                    case atStart => exact ⟨0, m, c0, A0, rfl, rfl, by omega, by omega, by omega, sec (by have := HO1.out; rwa [← List.append_nil L] at this), g6⟩
                    case round =>
                      clear g6 HO1
                      obtain ⟨j, m', c', A0', rfl, rfl, hjk, hj, hm', HO, hg⟩ := hrel
                      by_cases hlt : j < i
                      · have hif : j < fs.length := by omega
                        have hii : (j : Int) < (i : Int) := by omega
                        obtain ⟨b, off, rfl, e0, e1⟩ := (HX.out.gr hg).cell hif
                        have HFT := sec (filter_take_succ (fun f : Rf => ltB name f.1) fs j hif)
                        obtain ⟨x, hxx⟩ : ∃ x, x = fs[j] := ⟨_, rfl⟩
                        rw [← hxx] at e0 e1 HFT
                        clear hxx hif
                        obtain ⟨nm, id'⟩ := x
                        simp only at e0 e1 HFT
                        have hgx := hg.alloc (.cells #[.string (bs nm), .string (bs id')] 126)
                        cases hb : ltB name nm with
                        | true =>
                          have q1 : Op.bytesLess nm name = false := ltB_no hb
                          have q1' : (nm == name) = false := by rw [beq_eq_false_iff_ne]; intro e; rw [e, ltB_irr] at hb; cases hb
                          have HL : Sec (L ++ upRf name (fs.take (j + 1)) = L ++ upRf name (fs.take j) ++ [(nm, id')]) := sec (by unfold upRf; rw [HFT.out, if_pos hb, List.append_assoc])
                          have hb1 : (m' + 1) * 32 ≤ 140737488355328 := by omega
                          have hb2 : m' + 1 ≤ maxLen := by unfold maxLen; omega
                          clear hb HFT
                          go_wp2_with (refine wpList_append_row E.ref rfl (.tmp 80) (.tmp 82) rfl (B := w.heap.size) (A0 := A0') (n0 := m') (cap0 := c') (xs := (L ++ upRf name (fs.take j)).flatMap refV) rfl ((HO.out.alloc _).alloc _) rfl (row_two (Blk.new1 wr _ _ _)) (by intro h; cases h) two_one hb1 hb2 (hgx.alloc _).size ?_; intro A9 c9 w9 hown' hgn)
                          have o2 := sec (own_app hown')
                          go_roundg (gk - 1)
                          case rel => exact ⟨j + 1, m' + 1, c9, A9, by go_num, rfl, by omega, by omega, by omega, sec (by rw [HL.out]; exact o2.out), Gr.grown (hgx.alloc _) hgn (fun k hk => (HO.out.lt k hk).1)⟩
                          case measure => omega
                        | false =>
                          have HL : Sec (L ++ upRf name (fs.take (j + 1)) = L ++ upRf name (fs.take j)) := sec (by unfold upRf; rw [HFT.out, if_neg (by rw [hb]; simp), List.append_nil])
                          cases hb2 : ltB nm name with
                          | true =>
                            have q1 : Op.bytesLess nm name = true := hb2
                            clear hb2
                            clear hb HFT
                            go_wp2_with fail
                            go_roundg (gk - 1)
                            case rel => exact ⟨j + 1, m', c', A0', by go_num, rfl, by omega, by omega, by omega, sec (by rw [HL.out]; exact HO.out.alloc _), hgx⟩
                            case measure => omega
                          | false =>
                            have q1 : Op.bytesLess nm name = false := hb2
                            have q1' : (nm == name) = true := by rw [beq_iff_eq]; exact ltB_tri nm name hb2 hb
                            clear hb2
                            clear hb HFT
                            go_wp2_with fail
                            go_roundg (gk - 1)
                            case rel => exact ⟨j + 1, m', c', A0', by go_num, rfl, by omega, by omega, by omega, sec (by rw [HL.out]; exact HO.out.alloc _), hgx⟩
                            case measure => omega
                      · obtain rfl : j = i := by omega
                        have HO2 : Sec (wr.ownsRow w.heap.size 126 2 (.slice A0' m' c') m' ((L ++ upRf name fs).flatMap refV)) := sec (by have := HO.out; rwa [List.take_of_length_le (by omega)] at this)
                        clear hlt hjk HO
                        go_wp2_with fail
                        go_ret2
                        exact SetPost.own HV5.out HO2.out hg
                  · have q2 : (id == []) = false := by rw [beq_eq_false_iff_ne]; exact hi0
                    have HV5 : Sec (V = (lowR name fs ++ [(name, id)] ++ upRf name fs, 0)) := sec (by rw [HV4.out]; unfold refSet; rw [if_neg hi0, List.append_assoc])
                    have hb1 : (m + 1) * 32 ≤ 140737488355328 := by omega
                    have hb2 : m + 1 ≤ maxLen := by unfold maxLen; omega
                    clear hi0 HV4
                    go_wp2_with (refine wpList_append_row E.ref rfl (.tmp 64) (.tmp 68) rfl (B := w.heap.size) (A0 := A0) (n0 := m) (cap0 := c0) (xs := (lowR name fs).flatMap refV) rfl (HO2.out.alloc _) rfl (row_two (Blk.new _ _ _)) (by intro h; cases h) two_one hb1 hb2 (hg.alloc _).size ?_; intro A' c' w' hown' hgn)
                    have HO1 := sec (own_app hown')
                    have g6 : Gr w w' := Gr.grown (hg.alloc _) hgn (fun k hk => (HO2.out.lt k hk).1)
                    have hm1 : m + 1 ≤ i + 1 := by omega
                    obtain ⟨L, hL⟩ : ∃ L, L = lowR name fs ++ [(name, id)] := ⟨_, rfl⟩
                    rw [← hL] at HO1 HV5
                    clear hL hg HO2 hown' hgn hb1 hb2
                    go_loopg [72, 10, 14] i (fun fuel iv ov _ wr => ∃ (j m c0 : Nat) (A0 : Option Addr), iv = .int .i64 (j : Int) ∧ ov = .slice A0 m c0 ∧ i ≤ j + fuel ∧ j ≤ i ∧ m ≤ i + 1 + j ∧ Sec (wr.ownsRow w.heap.size 126 2 (.slice A0 m c0) m ((L ++ upRf name (fs.take j)).flatMap refV)) ∧ Gr w wr)
                    case atStart => exact ⟨0, m + 1, c', A', rfl, rfl, by omega, by omega, by omega, sec (by have := HO1.out; rwa [← List.append_nil L] at this), g6⟩
                    case round =>
                      clear g6 HO1
                      obtain ⟨j, m', c'', A0', rfl, rfl, hjk, hj, hm', HO, hg⟩ := hrel
                      by_cases hlt : j < i
                      · have hif : j < fs.length := by omega
                        have hii : (j : Int) < (i : Int) := by omega
                        obtain ⟨b, off, rfl, e0, e1⟩ := (HX.out.gr hg).cell hif
                        have HFT := sec (filter_take_succ (fun f : Rf => ltB name f.1) fs j hif)
                        obtain ⟨x, hxx⟩ : ∃ x, x = fs[j] := ⟨_, rfl⟩
                        rw [← hxx] at e0 e1 HFT
                        clear hxx hif
                        obtain ⟨nm, id'⟩ := x
                        simp only at e0 e1 HFT
                        have hgx := hg.alloc (.cells #[.string (bs nm), .string (bs id')] 126)
                        cases hb : ltB name nm with
                        | true =>
                          have q1 : Op.bytesLess nm name = false := ltB_no hb
                          have q1' : (nm == name) = false := by rw [beq_eq_false_iff_ne]; intro e; rw [e, ltB_irr] at hb; cases hb
                          have HL : Sec (L ++ upRf name (fs.take (j + 1)) = L ++ upRf name (fs.take j) ++ [(nm, id')]) := sec (by unfold upRf; rw [HFT.out, if_pos hb, List.append_assoc])
                          have hb1 : (m' + 1) * 32 ≤ 140737488355328 := by omega
                          have hb2 : m' + 1 ≤ maxLen := by unfold maxLen; omega
                          clear hb HFT
                          go_wp2_with (refine wpList_append_row E.ref rfl (.tmp 80) (.tmp 82) rfl (B := w.heap.size) (A0 := A0') (n0 := m') (cap0 := c'') (xs := (L ++ upRf name (fs.take j)).flatMap refV) rfl ((HO.out.alloc _).alloc _) rfl (row_two (Blk.new1 wr _ _ _)) (by intro h; cases h) two_one hb1 hb2 (hgx.alloc _).size ?_; intro A9 c9 w9 hown' hgn)
                          have o2 := sec (own_app hown')
                          go_roundg (gk - 1)
                          case rel => exact ⟨j + 1, m' + 1, c9, A9, by go_num, rfl, by omega, by omega, by omega, sec (by rw [HL.out]; exact o2.out), Gr.grown (hgx.alloc _) hgn (fun k hk => (HO.out.lt k hk).1)⟩
                          case measure => omega
                        | false =>
                          have HL : Sec (L ++ upRf name (fs.take (j + 1)) = L ++ upRf name (fs.take j)) := sec (by unfold upRf; rw [HFT.out, if_neg (by rw [hb]; simp), List.append_nil])
                          cases hb2 : ltB nm name with
                          | true =>
                            have q1 : Op.bytesLess nm name = true := hb2
                            clear hb2
                            clear hb HFT
                            go_wp2_with fail
                            go_roundg (gk - 1)
                            case rel => exact ⟨j + 1, m', c'', A0', by go_num, rfl, by omega, by omega, by omega, sec (by rw [HL.out]; exact HO.out.alloc _), hgx⟩
                            case measure => omega
                          | false =>
                            have q1 : Op.bytesLess nm name = false := hb2
                            have q1' : (nm == name) = true := by rw [beq_iff_eq]; exact ltB_tri nm name hb2 hb
                            clear hb2
                            clear hb HFT
                            go_wp2_with fail
                            go_roundg (gk - 1)
                            case rel => exact ⟨j + 1, m', c'', A0', by go_num, rfl, by omega, by omega, by omega, sec (by rw [HL.out]; exact HO.out.alloc _), hgx⟩
                            case measure => omega
                      · obtain rfl : j = i := by omega
                        have HO2 : Sec (wr.ownsRow w.heap.size 126 2 (.slice A0' m' c'') m' ((L ++ upRf name fs).flatMap refV)) := sec (by have := HO.out; rwa [List.take_of_length_le (by omega)] at this)
                        clear hlt hjk HO
                        go_wp2_with fail
                        go_ret2
                        exact SetPost.own HV5.out HO2.out hg
        · have q0 : (gt == old) = false := by rw [beq_eq_false_iff_ne]; exact hgo
          have HV3 : Sec (V = ([], 9)) := sec (by rw [HV2.out, if_neg hgo])
          clear hgo
          go_wp2_with (go_at_call 142; (with_reducible refine Calls.mono (HGt.out _ g2) ?_); rintro e w3 ⟨rfl, g3'⟩; have g3 := Gr.trans g2 g3')
          go_ret2
          exact SetPost.bad HV3.out g3
end Go.Proofs.YtoamnifnfkgbiaaGreatDoor

namespace Go.Proofs.YtoamnifnfkgbiaaGreatDoor
set_option maxRecDepth 100000
open Go.RowKit
set_option linter.unusedVariables false
/-- the block q, the rows X and Y; the block need not yet name the rows -/
structure Md (w0 : World) (q K : Nat) (cs : Array Value) (X Y : Value) (N M : Nat) (F : List Int) (G : List (List UInt8)) (w : World) : Prop where
  blk : Blk w q 69 cs
  own1 : w.ownsRow K 3 1 X N (F.map iV)
  own2 : w.ownsRow K 9 1 Y M (G.map strV)
  gr : Gr w0 w
  lt : q < K
  le : w0.heap.size ≤ q
section
variable {w0 : World} {q K : Nat} {cs : Array Value} {X Y : Value} {N M : Nat} {F : List Int} {G : List (List UInt8)} {w w' : World}
theorem Md.gr' (h : Md w0 q K cs X Y N M F G w) (g : Gr w w') : Md w0 q K cs X Y N M F G w' := ⟨h.blk.gr g, own_gr h.own1 g, own_gr h.own2 g, h.gr.trans g, h.lt, h.le⟩
theorem Md.al (h : Md w0 q K cs X Y N M F G w) (o : Obj) : Md w0 q K cs X Y N M F G (w.alloc o) := h.gr' ((Gr.refl _).alloc _)
theorem Md.drew (h : Md w0 q K cs X Y N M F G w) : Md w0 q K cs X Y N M F G w.drew := h.gr' (Gr.refl _).drew
/-- another block, of neither kind, has turned -/
theorem Md.only {g : Nat} {T : TypeId} {cs' : Array Value} (h : Md w0 q K cs X Y N M F G w) (hb : Blk w g T cs') (h1 : 3 ≠ T) (h2 : 9 ≠ T) (hq : q ≠ g) (hg : w0.heap.size ≤ g) (k : w.grownBy w' (some g)) : Md w0 q K cs X Y N M F G w' :=
  ⟨h.blk.only k hq, own_only h.own1 hb h1 k, own_only h.own2 hb h2 k, h.gr.only k hg, h.lt, h.le⟩
theorem Md.app1 {X' : Value} {N' : Nat} {F' : List Int} (h : Md w0 q K cs X Y N M F G w) (ho : w'.ownsRow K 3 1 X' N' (F'.map iV)) (k : w.grownBy w' X.ownBlock) : Md w0 q K cs X' Y N' M F' G w' :=
  ⟨blk_own h.blk h.own1 (by decide) k, ho, own_other h.own2 h.own1 (by decide) k, h.gr.grown k (fun i hi => by have := (h.own1.lt i hi).1; have := h.lt; have := h.le; omega), h.lt, h.le⟩
theorem Md.app2 {Y' : Value} {M' : Nat} {G' : List (List UInt8)} (h : Md w0 q K cs X Y N M F G w) (ho : w'.ownsRow K 9 1 Y' M' (G'.map strV)) (k : w.grownBy w' Y.ownBlock) : Md w0 q K cs X Y' N M' F G' w' :=
  ⟨blk_own h.blk h.own2 (by decide) k, own_other h.own1 h.own2 (by decide) k, ho, h.gr.grown k (fun i hi => by have := (h.own2.lt i hi).1; have := h.lt; have := h.le; omega), h.lt, h.le⟩
theorem Md.st (h : Md w0 q K cs X Y N M F G w) (i : Nat) (u : Value) : Md w0 q K (cs.setIfInBounds i u) X Y N M F G (w.setCell ⟨q, i, none⟩ u) :=
  ⟨h.blk.set_ i u, ownsRow_setCell_other h.own1 (a := ⟨q, i, none⟩) (fun e => by have := (h.own1.lt q e).1; have := h.lt; omega) u, ownsRow_setCell_other h.own2 (a := ⟨q, i, none⟩) (fun e => by have := (h.own2.lt q e).1; have := h.lt; omega) u, h.gr.setCell (p := ⟨q, i, none⟩) h.le u, h.lt, h.le⟩
theorem BlkAt {w : World} {g : Nat} {t : TypeId} {cs : Array Value} (h : g = w.heap.size) : Blk (w.alloc (.cells cs t)) g t cs := by subst h; exact Blk.new w t cs
theorem Md.size (h : Md w0 q K cs X Y N M F G w) (hK : K ≤ q + 1) : K ≤ w.heap.size := by have := h.blk.lt; omega
/-- a piece of the other kind stays where it is -/
theorem Md.keep1 {g : Nat} {T : TypeId} {cs' : Array Value} (h : Md w0 q K cs X Y N M F G w) (hb : Blk w g T cs') (h1 : 3 ≠ T) (k : w.grownBy w' X.ownBlock) : Blk w' g T cs' := blk_own hb h.own1 h1 k
theorem Md.keep2 {g : Nat} {T : TypeId} {cs' : Array Value} (h : Md w0 q K cs X Y N M F G w) (hb : Blk w g T cs') (h1 : 9 ≠ T) (k : w.grownBy w' Y.ownBlock) : Blk w' g T cs' := blk_own hb h.own2 h1 k
end
/-- a step's block that names its two rows -/
def TwA (r o n : List UInt8) (A : Option Addr) (c N : Nat) (B : Option Addr) (d M : Nat) : Array Value := #[.string (bs r), .string (bs o), .string (bs n), .slice A N c, .slice B M d]
/-- both rows have N pieces -/
def Tw (w0 : World) (q K : Nat) (r o n : List UInt8) (N : Nat) (F : List Int) (G : List (List UInt8)) (w : World) : Prop :=
  ∃ A c B d, Md w0 q K (TwA r o n A c N B d N) (.slice A N c) (.slice B N d) N N F G w
theorem Tw.new {w0 w : World} {q K : Nat} {r o n : List UInt8} (h : Blk w q 69 (TwA r o n none 0 0 none 0 0)) (g : Gr w0 w) (lt : q < K) (le : w0.heap.size ≤ q) : Tw w0 q K r o n 0 [] [] w :=
  ⟨none, 0, none, 0, h, World.ownsRow_nil _ _ _ _, World.ownsRow_nil _ _ _ _, g, lt, le⟩
theorem Tw.only {w0 w w' : World} {q K N g : Nat} {r o n : List UInt8} {F : List Int} {G : List (List UInt8)} {T : TypeId} {cs' : Array Value} (h : Tw w0 q K r o n N F G w) (hb : Blk w g T cs') (h1 : 3 ≠ T) (h2 : 9 ≠ T) (hq : q ≠ g) (hg : w0.heap.size ≤ g) (k : w.grownBy w' (some g)) : Tw w0 q K r o n N F G w' := by
  obtain ⟨A, c, B, d, h⟩ := h
  exact ⟨A, c, B, d, h.only hb h1 h2 hq hg k⟩
theorem Tw.gr' {w0 w w' : World} {q K N : Nat} {r o n : List UInt8} {F : List Int} {G : List (List UInt8)} (h : Tw w0 q K r o n N F G w) (g : Gr w w') : Tw w0 q K r o n N F G w' := by
  obtain ⟨A, c, B, d, h⟩ := h
  exact ⟨A, c, B, d, h.gr' g⟩
theorem Md.lenF {w0 : World} {q K : Nat} {cs : Array Value} {X Y : Value} {N M : Nat} {F : List Int} {G : List (List UInt8)} {w : World} (h : Md w0 q K cs X Y N M F G w) : F.length = N := by
  have := h.own1.1
  simpa using this
theorem Md.lenG {w0 : World} {q K : Nat} {cs : Array Value} {X Y : Value} {N M : Nat} {F : List Int} {G : List (List UInt8)} {w : World} (h : Md w0 q K cs X Y N M F G w) : G.length = M := by
  have := h.own2.1
  simpa using this
/-- what stands in the block, and the step as a value -/
theorem str_own {w : World} {K K' N : Nat} {r o n : List UInt8} {F : List Int} {G : List (List UInt8)} {A B : Option Addr} {c d : Nat} (h : w.ownsRow K 3 1 (.slice A N c) N (F.map iV)) (h' : w.ownsRow K' 9 1 (.slice B N d) N (G.map strV)) : StR w ⟨r, o, n, F, G⟩ A c B d ∧ TwA r o n A c N B d N = stepA ⟨r, o, n, F, G⟩ A c B d := by
  have h1 : F.length = N := by have := h.1; simpa using this
  have h2 : G.length = N := by have := h'.1; simpa using this
  subst h1
  unfold TwA stepA
  simp only
  rw [h2]
  exact ⟨⟨Row.own h, by simp only; rw [h2]; exact Row.own h', own_nil h, fun e => by simp only; rw [h2]; exact own_nil h' e, own_cap h, by simp only; rw [h2]; exact own_cap h'⟩, rfl⟩
theorem Md.str {w0 w : World} {q K N : Nat} {r o n : List UInt8} {F : List Int} {G : List (List UInt8)} {A B : Option Addr} {c d : Nat} (h : Md w0 q K (TwA r o n A c N B d N) (.slice A N c) (.slice B N d) N N F G w) : StR w ⟨r, o, n, F, G⟩ A c B d ∧ TwA r o n A c N B d N = stepA ⟨r, o, n, F, G⟩ A c B d := str_own h.own1 h.own2
theorem twA_one (r o n : List UInt8) (A : Option Addr) (c N : Nat) (B : Option Addr) (d M : Nat) : (TwA r o n A c N B d M).all (·.oneCell') = true := by simp [TwA, Value.oneCell']
theorem iV_add (F : List Int) (x : Int) : F.map iV ++ [Value.int .i64 x] = (F ++ [x]).map iV := by simp [iV]
theorem sV_add (G : List (List UInt8)) (x : List UInt8) : G.map strV ++ [Value.string (bs x)] = (G ++ [x]).map strV := by simp [strV]
end Go.Proofs.YtoamnifnfkgbiaaGreatDoor

namespace Go.Proofs.YtoamnifnfkgbiaaGreatDoor
open Go.RowKit
set_option maxRecDepth 100000 in
theorem wgett_any (l : List UInt8) (w : World) (hl : l.length ≤ 1152921504606846976) :
    Calls Tryz.prog 81 #[.string (bs l)] w fun e w' => e = .returned (.tuple #[.string (bs (tS l)), .int .i64 (tK l : Int), .int .i64 (tE l : Int)]) ∧ w = w' := by
  have hk := gK_le l
  have hn := gN_lt l
  rcases gE_or l with he | he
  · by_cases h1 : 4096 < gN l
    · have ht : tS l = [] ∧ tK l = 0 := t_no (fun h => by have := h.2.1; omega)
      have hte : tE l = 1 := by unfold tE; rw [if_neg (by omega), if_pos h1]
      go_enter Tryz.func81, Tryz.ntmps81
      go_wp2_with (go_at_call 79; refine (wget_any _ _ hl).mono ?_; rintro e w1 ⟨rfl, rfl⟩)
      go_ret3
      exact ⟨by rw [ht.1, ht.2, hte]; rfl, rfl⟩
    · by_cases h2 : l.length - gK l < gN l
      · have ht : tS l = [] ∧ tK l = 0 := t_no (fun h => by have := h.2.2; omega)
        have hte : tE l = 2 := by unfold tE; rw [if_neg (by omega), if_neg h1, if_pos h2]
        have h2' : (l.length : Int) - gK l < gN l := by omega
        go_enter Tryz.func81, Tryz.ntmps81
        go_wp2_with (go_at_call 79; refine (wget_any _ _ hl).mono ?_; rintro e w1 ⟨rfl, rfl⟩)
        go_ret3
        exact ⟨by rw [ht.1, ht.2, hte]; rfl, rfl⟩
      · have ht := t_ok (l := l) ⟨he, by omega, by omega⟩
        have HT := sec ht
        clear ht
        go_enter Tryz.func81, Tryz.ntmps81
        go_wp2_with (go_at_call 79; refine (wget_any _ _ hl).mono ?_; rintro e w1 ⟨rfl, rfl⟩)
        go_ret3
        exact ⟨by rw [HT.out.1, HT.out.2.1, HT.out.2.2]; simp, rfl⟩
  · have ht : tS l = [] ∧ tK l = 0 := t_no (fun h => by have := h.1; omega)
    have hte : tE l = 2 := by unfold tE; rw [if_pos (by omega), he]
    go_enter Tryz.func81, Tryz.ntmps81
    go_wp2_with (go_at_call 79; refine (wget_any _ _ hl).mono ?_; rintro e w1 ⟨rfl, rfl⟩)
    go_ret3
    exact ⟨by rw [ht.1, ht.2, hte]; rfl, rfl⟩
set_option maxRecDepth 100000 in
theorem rgett_any (l : List UInt8) (w : World) (hl : l.length ≤ 1152921504606846976) :
    Calls Tryz.prog 89 #[.string (bs l)] w fun e w' => e = .returned (.tuple #[.string (bs (tS l)), .int .i64 (tK l : Int), .int .i64 (tE l : Int)]) ∧ Gr w w' := by
  have hk := gK_le l
  have hn := gN_lt l
  rcases gE_or l with he | he
  · by_cases h1 : 4096 < gN l
    · have ht : tS l = [] ∧ tK l = 0 := t_no (fun h => by have := h.2.1; omega)
      have hte : tE l = 1 := by unfold tE; rw [if_neg (by omega), if_pos h1]
      go_enter Tryz.func89, Tryz.ntmps89
      go_wp2_with (go_at_call 87; refine (rget_any _ _ hl).mono ?_; rintro e w1 ⟨rfl, g1⟩)
      go_ret3
      exact ⟨by rw [ht.1, ht.2, hte]; rfl, g1⟩
    · by_cases h2 : l.length - gK l < gN l
      · have ht : tS l = [] ∧ tK l = 0 := t_no (fun h => by have := h.2.2; omega)
        have hte : tE l = 2 := by unfold tE; rw [if_neg (by omega), if_neg h1, if_pos h2]
        have h2' : (l.length : Int) - gK l < gN l := by omega
        go_enter Tryz.func89, Tryz.ntmps89
        go_wp2_with (go_at_call 87; refine (rget_any _ _ hl).mono ?_; rintro e w1 ⟨rfl, g1⟩)
        go_ret3
        exact ⟨by rw [ht.1, ht.2, hte]; rfl, g1⟩
      · have ht := t_ok (l := l) ⟨he, by omega, by omega⟩
        have HT := sec ht
        clear ht
        go_enter Tryz.func89, Tryz.ntmps89
        go_wp2_with (go_at_call 87; refine (rget_any _ _ hl).mono ?_; rintro e w1 ⟨rfl, g1⟩)
        go_ret3
        exact ⟨by rw [HT.out.1, HT.out.2.1, HT.out.2.2]; simp, g1⟩
  · have ht : tS l = [] ∧ tK l = 0 := t_no (fun h => by have := h.1; omega)
    have hte : tE l = 2 := by unfold tE; rw [if_pos (by omega), he]
    go_enter Tryz.func89, Tryz.ntmps89
    go_wp2_with (go_at_call 87; refine (rget_any _ _ hl).mono ?_; rintro e w1 ⟨rfl, g1⟩)
    go_ret3
    exact ⟨by rw [ht.1, ht.2, hte]; rfl, g1⟩

end Go.Proofs.YtoamnifnfkgbiaaGreatDoor

namespace Go.Proofs.YtoamnifnfkgbiaaGreatDoor
open Go.RowKit
set_option maxRecDepth 100000 in
theorem rdText (g : Nat) (q : St) (w : World) (h : RdAt 113 w g q) :
    Calls Tryz.prog 36 #[.pointer (some ⟨g, 0, none⟩)] w fun e w' => e = .returned (.string (bs (nxtT q))) ∧ RdAt 113 w' g (aftT q) ∧ w.grownBy w' (some g) := by
  obtain ⟨s, er⟩ := q
  have hlen := h.len
  have hc0 : w.cell? ⟨g, 0, none⟩ = some (.string (bs s)) := h.blk.cell 0
  have hc1 : w.cell? ⟨g, 1, none⟩ = some (.int .i64 (er : Int)) := h.blk.cell 1
  have hf0 := h.blk.frozen 0
  have hf1 := h.blk.frozen 1
  simp only at hlen
  have hk := tK_le s
  by_cases he : er = 0
  · subst he
    go_enter Tryz.func36, Tryz.ntmps36
    go_wp2_with (go_at_call 81; refine (wgett_any _ _ hlen).mono ?_; rintro e w1 ⟨rfl, rfl⟩)
    go_ret
    refine ⟨by simp [nxtT], ⟨?_, ?_, ?_⟩, only_set2 _ _ _ _⟩
    · have := (h.blk.set_ 0 (.string (bs (s.drop (tK s))))).set_ 1 (.int .i64 (tE s : Int))
      simpa [aftT] using this
    · simp [aftT]; omega
    · simp [aftT]; have := tE_or s; omega
  · have he' : ((er : Int) == 0) = false := by simpa using he
    have he2 : ((er : Int) != 0) = true := by simpa using he
    go_enter Tryz.func36, Tryz.ntmps36
    go_wp2
    go_ret
    exact ⟨by simp [nxtT, he]; rfl, by simpa [aftT, he] using h, only_refl _ _⟩

set_option maxRecDepth 100000 in
theorem cuNumber (g : Nat) (q : St) (w : World) (h : RdAt 80 w g q) :
    Calls Tryz.prog 43 #[.pointer (some ⟨g, 0, none⟩)] w fun e w' => e = .returned (.int .i64 (nxtN q : Int)) ∧ RdAt 80 w' g (aftN q) ∧ w.grownBy w' (some g) := by
  obtain ⟨s, er⟩ := q
  have hlen := h.len
  have hc0 : w.cell? ⟨g, 0, none⟩ = some (.string (bs s)) := h.blk.cell 0
  have hc1 : w.cell? ⟨g, 1, none⟩ = some (.int .i64 (er : Int)) := h.blk.cell 1
  have hf0 := h.blk.frozen 0
  have hf1 := h.blk.frozen 1
  simp only at hlen
  have hk := gK_le s
  by_cases he : er = 0
  · subst he
    go_enter Tryz.func43, Tryz.ntmps43
    go_wp2_with (go_at_call 87; refine (rget_any _ _ hlen).mono ?_; rintro e w1 ⟨rfl, g1⟩; have hb1 := h.blk.below g1.below h.blk.lt; have hd0 : w1.cell? ⟨g, 0, none⟩ = some (.string (bs s)) := hb1.cell 0; have hd1 : w1.cell? ⟨g, 1, none⟩ = some (.int .i64 ((0 : Nat) : Int)) := hb1.cell 1; have he0 := hb1.frozen 0; have he1 := hb1.frozen 1)
    go_ret
    refine ⟨by simp [nxtN], ⟨?_, ?_, ?_⟩, only_trans (only_gr g1 _) (only_set2 _ _ _ _)⟩
    · have := (hb1.set_ 0 (.string (bs (s.drop (gK s))))).set_ 1 (.int .i64 (gE s : Int))
      simpa [aftN] using this
    · simp [aftN]; omega
    · simp [aftN]; have := gE_or s; omega
  · have he' : ((er : Int) == 0) = false := by simpa using he
    have he2 : ((er : Int) != 0) = true := by simpa using he
    go_enter Tryz.func43, Tryz.ntmps43
    go_wp2
    go_ret
    exact ⟨by simp [nxtN, he], by simpa [aftN, he] using h, only_refl _ _⟩

set_option maxRecDepth 100000 in
theorem cuText (g : Nat) (q : St) (w : World) (h : RdAt 80 w g q) :
    Calls Tryz.prog 46 #[.pointer (some ⟨g, 0, none⟩)] w fun e w' => e = .returned (.string (bs (nxtT q))) ∧ RdAt 80 w' g (aftT q) ∧ w.grownBy w' (some g) := by
  obtain ⟨s, er⟩ := q
  have hlen := h.len
  have hc0 : w.cell? ⟨g, 0, none⟩ = some (.string (bs s)) := h.blk.cell 0
  have hc1 : w.cell? ⟨g, 1, none⟩ = some (.int .i64 (er : Int)) := h.blk.cell 1
  have hf0 := h.blk.frozen 0
  have hf1 := h.blk.frozen 1
  simp only at hlen
  have hk := tK_le s
  by_cases he : er = 0
  · subst he
    go_enter Tryz.func46, Tryz.ntmps46
    go_wp2_with (go_at_call 89; refine (rgett_any _ _ hlen).mono ?_; rintro e w1 ⟨rfl, g1⟩; have hb1 := h.blk.below g1.below h.blk.lt; have hd0 : w1.cell? ⟨g, 0, none⟩ = some (.string (bs s)) := hb1.cell 0; have hd1 : w1.cell? ⟨g, 1, none⟩ = some (.int .i64 ((0 : Nat) : Int)) := hb1.cell 1; have he0 := hb1.frozen 0; have he1 := hb1.frozen 1)
    go_ret
    refine ⟨by simp [nxtT], ⟨?_, ?_, ?_⟩, only_trans (only_gr g1 _) (only_set2 _ _ _ _)⟩
    · have := (hb1.set_ 0 (.string (bs (s.drop (tK s))))).set_ 1 (.int .i64 (tE s : Int))
      simpa [aftT] using this
    · simp [aftT]; omega
    · simp [aftT]; have := tE_or s; omega
  · have he' : ((er : Int) == 0) = false := by simpa using he
    have he2 : ((er : Int) != 0) = true := by simpa using he
    go_enter Tryz.func46, Tryz.ntmps46
    go_wp2
    go_ret
    exact ⟨by simp [nxtT, he]; rfl, by simpa [aftT, he] using h, only_refl _ _⟩

set_option maxRecDepth 100000 in
theorem cuTake (g : Nat) (q : St) (n : Int) (w : World) (h : RdAt 80 w g q) (_hn : -9223372036854775808 ≤ n ∧ n ≤ 9223372036854775807) :
    Calls Tryz.prog 44 #[.pointer (some ⟨g, 0, none⟩), .int .i64 n] w fun e w' => e = .returned (.string (bs (nxtB n q))) ∧ RdAt 80 w' g (aftB n q) ∧ w.grownBy w' (some g) := by
  obtain ⟨s, er⟩ := q
  have hlen := h.len
  have hc0 : w.cell? ⟨g, 0, none⟩ = some (.string (bs s)) := h.blk.cell 0
  have hc1 : w.cell? ⟨g, 1, none⟩ = some (.int .i64 (er : Int)) := h.blk.cell 1
  have hf0 := h.blk.frozen 0
  have hf1 := h.blk.frozen 1
  simp only at hlen
  by_cases he : er = 0
  · subst he
    by_cases hn : 0 ≤ n ∧ n ≤ (s.length : Int)
    · obtain ⟨hn0, hn1⟩ := hn
      go_enter Tryz.func44, Tryz.ntmps44
      go_wp2
      go_ret
      refine ⟨by simp [nxtB, hn0, hn1], ⟨?_, ?_, ?_⟩, only_set1 _ _ _ _⟩
      · have := h.blk.set_ 0 (.string (bs (s.drop n.toNat)))
        simpa [aftB, hn0, hn1] using this
      · simp [aftB, hn0, hn1]; omega
      · simp [aftB, hn0, hn1]
    · have hn' : n < 0 ∨ (s.length : Int) < n := by omega
      rcases hn' with hn' | hn'
      all_goals
        go_enter Tryz.func44, Tryz.ntmps44
        go_wp2
        go_ret
        refine ⟨by simp [nxtB, hn]; try rfl, ⟨?_, ?_, ?_⟩, only_set1 _ _ _ _⟩
        · have := h.blk.set_ 1 (.int .i64 2)
          simpa [aftB, hn] using this
        · simp [aftB, hn]; omega
        · simp [aftB, hn]
  · have he' : ((er : Int) == 0) = false := by simpa using he
    have he2 : ((er : Int) != 0) = true := by simpa using he
    go_enter Tryz.func44, Tryz.ntmps44
    go_wp2
    go_ret
    exact ⟨by simp [nxtB, he]; try rfl, by simpa [aftB, he] using h, only_refl _ _⟩

end Go.Proofs.YtoamnifnfkgbiaaGreatDoor

namespace Go.Proofs.YtoamnifnfkgbiaaGreatDoor
set_option maxRecDepth 100000
open Go.RowKit
set_option linter.unusedVariables false
/-- a step's two rows, the call's own -/
def OwnD (b : Nat) (w : World) (s : Stp) (A : Option Addr) (c : Nat) (B : Option Addr) (d : Nat) : Prop := w.ownsRow b 3 1 (.slice A s.who.length c) s.who.length (s.who.map iV) ∧ w.ownsRow b 9 1 (.slice B s.seals.length d) s.seals.length (s.seals.map strV)
theorem OwnD.zero (b : Nat) (w : World) : OwnD b w stpZ none 0 none 0 := ⟨World.ownsRow_nil _ _ _ _, World.ownsRow_nil _ _ _ _⟩
theorem ownLowD {w : World} {b b' e size n : Nat} {v : Value} {xs : List Value} (h : w.ownsRow b e size v n xs) (hb : b' ≤ b) : w.ownsRow b' e size v n xs := by
  refine ⟨h.1, ?_⟩
  rcases h.2 with h | ⟨g, c, cur, h1, h2, h3⟩
  · exact .inl h
  · exact .inr ⟨g, c, cur, h1, Nat.le_trans hb h2, h3⟩
theorem ownD_of {w : World} {K K' N b : Nat} {r o n : List UInt8} {F : List Int} {G : List (List UInt8)} {A B : Option Addr} {c d : Nat} (h : w.ownsRow K 3 1 (.slice A N c) N (F.map iV)) (h' : w.ownsRow K' 9 1 (.slice B N d) N (G.map strV)) (hb : b ≤ K ∧ b ≤ K') : OwnD b w ⟨r, o, n, F, G⟩ A c B d := by
  have h1 : F.length = N := by have := h.1; simpa using this
  have h2 : G.length = N := by have := h'.1; simpa using this
  subst h1
  refine ⟨ownLowD h hb.1, ?_⟩
  simp only
  rw [h2]
  exact ownLowD h' hb.2
theorem OwnD.str {w : World} {b : Nat} {s : Stp} {A : Option Addr} {c : Nat} {B : Option Addr} {d : Nat} (h : OwnD b w s A c B d) : StR w s A c B d := ⟨Row.own h.1, Row.own h.2, own_nil h.1, own_nil h.2, own_cap h.1, own_cap h.2⟩
theorem DcAt.fits {k n0 : Nat} {q0 : St} {i n : Nat} {q : St} {W : List Int} {S : List (List UInt8)} (h : DcAt k n0 q0 i n q W S) (hk : k ≤ 1099511627775) : W.length ≤ 1099511627776 ∧ S.length ≤ 1099511627776 := by
  have := h.wl; have := h.sl; have := h.le; omega
section
variable {w0 : World} {q K : Nat} {cs : Array Value} {X Y : Value} {N M : Nat} {F : List Int} {G : List (List UInt8)} {w w' : World}
theorem Md.rd {T : TypeId} {g : Nat} {st : St} {W : World} (h : Md w0 q K cs X Y N M F G w) (gx : Gr w W) (hd : RdAt T w g st) (h1 : 3 ≠ T) (h2 : 9 ≠ T) (hq : q ≠ g) (hg : w0.heap.size ≤ g) (k : W.grownBy w' (some g)) : Md w0 q K cs X Y N M F G w' :=
  (h.gr' gx).only (hd.gr gx).blk h1 h2 hq hg k
theorem Md.rdApp1 {T : TypeId} {g : Nat} {st : St} (h : Md w0 q K cs X Y N M F G w) (hd : RdAt T w g st) (h1 : 3 ≠ T) (k : w.grownBy w' X.ownBlock) : RdAt T w' g st := ⟨h.keep1 hd.blk h1 k, hd.len, hd.err⟩
theorem Md.rdApp2 {T : TypeId} {g : Nat} {st : St} (h : Md w0 q K cs X Y N M F G w) (hd : RdAt T w g st) (h1 : 9 ≠ T) (k : w.grownBy w' Y.ownBlock) : RdAt T w' g st := ⟨h.keep2 hd.blk h1 k, hd.len, hd.err⟩
theorem RdAt.far {T : TypeId} {g : Nat} {st : St} (hd : RdAt T w g st) {a : Addr} (hne : g ≠ a.block) (u : Value) : RdAt T (w.setCell a u) g st := ⟨hd.blk.far hne u, hd.len, hd.err⟩
end
set_option maxHeartbeats 16000000 in
theorem stDecO_any (b : List UInt8) (w : World) (hb : b.length ≤ 1099511627775) :
    Calls Tryz.prog 35 #[.string (bs b)] w fun e w' => ∃ A c B d, e = .returned (.tuple #[.agg (stepA (dcR b).1 A c B d), .int .i64 (dcR b).2]) ∧ OwnD w.heap.size w' (dcR b).1 A c B d ∧ Gr w w' := by
  obtain ⟨wa, hwa⟩ : ∃ y, y = w.alloc (.cells (stepA stpZ none 0 none 0) 69) := ⟨_, rfl⟩
  have hz : Blk wa w.heap.size 69 (stepA stpZ none 0 none 0) := by rw [hwa]; exact Blk.new w _ _
  have hg0 : Gr w wa := by rw [hwa]; exact (Gr.refl w).alloc _
  obtain ⟨p, hp⟩ : ∃ p, p = w.heap.size := ⟨_, rfl⟩
  rw [← hp] at hz
  have hwp : w.heap.size ≤ p := by omega
  obtain ⟨g, hg⟩ : ∃ g, g = wa.heap.size := ⟨_, rfl⟩
  have hpg : p < g := by rw [hg]; exact hz.lt
  have hga : wa.heap.size ≤ g := by omega
  obtain ⟨R, hR⟩ : ∃ x, x = nxtT (b, 0) := ⟨_, rfl⟩
  obtain ⟨O, hO⟩ : ∃ x, x = nxtT (aftT (b, 0)) := ⟨_, rfl⟩
  obtain ⟨L, hL⟩ : ∃ x, x = nxtT (aftT (aftT (b, 0))) := ⟨_, rfl⟩
  obtain ⟨q1, hq1⟩ : ∃ x, x = aftT (b, 0) := ⟨_, rfl⟩
  obtain ⟨q2, hq2⟩ : ∃ x, x = aftT q1 := ⟨_, rfl⟩
  obtain ⟨q3, hq3⟩ : ∃ x, x = dc3 b := ⟨_, rfl⟩
  obtain ⟨n0, hn0⟩ : ∃ x, x = nxtN q3 := ⟨_, rfl⟩
  obtain ⟨q4, hq4⟩ : ∃ x, x = aftN q3 := ⟨_, rfl⟩
  have hq3' : q3 = aftT q2 := by rw [hq3, hq2, hq1]; rfl
  have HRd : Sec (Calls Tryz.prog 30 #[.string (bs b)] wa fun e w' => e = .returned (.pointer (some ⟨g, 0, none⟩)) ∧ RdAt 113 w' g (b, 0) ∧ Gr wa w') := sec (by rw [hg]; exact rdRead b wa (by omega))
  have HT1 : Sec (∀ W, RdAt 113 W g (b, 0) → Calls Tryz.prog 36 #[.pointer (some ⟨g, 0, none⟩)] W fun e w' => e = .returned (.string (bs R)) ∧ RdAt 113 w' g q1 ∧ W.grownBy w' (some g)) := sec (fun W h => by rw [hR, hq1]; exact rdText g (b, 0) W h)
  have HT2 : Sec (∀ W, RdAt 113 W g q1 → Calls Tryz.prog 36 #[.pointer (some ⟨g, 0, none⟩)] W fun e w' => e = .returned (.string (bs O)) ∧ RdAt 113 w' g q2 ∧ W.grownBy w' (some g)) := sec (fun W h => by rw [hO, ← hq1, hq2]; exact rdText g q1 W h)
  have HT3 : Sec (∀ W, RdAt 113 W g q2 → Calls Tryz.prog 36 #[.pointer (some ⟨g, 0, none⟩)] W fun e w' => e = .returned (.string (bs L)) ∧ RdAt 113 w' g q3 ∧ W.grownBy w' (some g)) := sec (fun W h => by rw [hL, ← hq1, ← hq2, hq3']; exact rdText g q2 W h)
  have HNu : Sec (∀ q W, RdAt 113 W g q → Calls Tryz.prog 31 #[.pointer (some ⟨g, 0, none⟩)] W fun e w' => e = .returned (.int .i64 (nxtN q : Int)) ∧ RdAt 113 w' g (aftN q) ∧ W.grownBy w' (some g)) := sec (fun q W h => rdNumber g q W h)
  have HBy : Sec (∀ q W, RdAt 113 W g q → Calls Tryz.prog 32 #[.pointer (some ⟨g, 0, none⟩), .int .i64 32] W fun e w' => e = .returned (.string (bs (nxtB 32 q))) ∧ RdAt 113 w' g (aftB 32 q) ∧ W.grownBy w' (some g)) := sec (fun q W h => rdBytes g q 32 W h (by omega))
  have HBad : Sec (∀ q W, RdAt 113 W g q → Calls Tryz.prog 34 #[.pointer (some ⟨g, 0, none⟩)] W fun e w' => e = .returned (.int .i64 (q.2 : Int)) ∧ W = w') := sec (fun q W h => rdBad g q W h)
  have HLe : Sec (∀ q W, RdAt 113 W g q → Calls Tryz.prog 33 #[.pointer (some ⟨g, 0, none⟩)] W fun e w' => e = .returned (.int .i64 (q.1.length : Int)) ∧ W = w') := sec (fun q W h => rdLeft g q W h)
  have hq0l : q4.1.length ≤ b.length := by
    have h1 := aftN_le q3
    have h2 := dc3_le b
    rw [← hq3] at h2
    rw [hq4]; omega
  have hn0l : n0 < 4611686018427387904 := by rw [hn0]; exact nxtN_ltD q3
  have HST := sec (DcAt.start (n0 := n0) hq0l)
  have hRl : R.length ≤ 1099511627776 := by have := nxtT_le (b, 0); simp only at this; rw [hR]; omega
  have hOl : O.length ≤ 1099511627776 := by have := nxtT_le (aftT (b, 0)); have := aftT_le (b, 0); simp only at this; rw [hO]; omega
  have hLl : L.length ≤ 1099511627776 := by have := nxtT_le (aftT (aftT (b, 0))); have := aftT_le (aftT (b, 0)); have := aftT_le (b, 0); simp only at this; rw [hL]; omega
  have HRES : Sec (∀ (q : St) (F : List Int) (G : List (List UInt8)), dcL n0 q4 = (F, G, q) → dcR b = if q.2 = 0 ∧ q.1.length = 0 then (if stE ⟨R, O, L, F, G⟩ = 0 then (⟨R, O, L, F, G⟩, 0) else (stpZ, stE ⟨R, O, L, F, G⟩)) else (stpZ, 2)) := sec (fun q F G h => by
    have h' : dcLs b = (F, G, q) := by rw [← h, hn0, hq4, hq3]; rfl
    unfold dcR dcS
    rw [h', hR, hO, hL])
  have HGo : Sec (∀ (F : List Int) (G : List (List UInt8)) A c B d W, F.length ≤ 1099511627776 → G.length ≤ 1099511627776 → (∀ x ∈ G, x.length ≤ 32) → StR W ⟨R, O, L, F, G⟩ A c B d → Calls Tryz.prog 80 #[.agg (stepA ⟨R, O, L, F, G⟩ A c B d)] W fun e w' => e = .returned (.int .i64 (stE ⟨R, O, L, F, G⟩)) ∧ Gr W w') := sec (fun F G A c B d W h1 h2 h3 hr => stGood_any _ A c B d W hr ⟨hRl, hOl, hLl, h1, h2, fun x hx => Nat.le_trans (h3 x hx) (by omega)⟩)
  have HN3 : Sec (∀ W, RdAt 113 W g q3 → Calls Tryz.prog 31 #[.pointer (some ⟨g, 0, none⟩)] W fun e w' => e = .returned (.int .i64 (n0 : Int)) ∧ RdAt 113 w' g q4 ∧ W.grownBy w' (some g)) := sec (fun W h => by rw [hn0, hq4]; exact rdNumber g q3 W h)
  have HB := sec hb
  have HZ := sec hz
  obtain ⟨V, hV⟩ : ∃ V, V = dcR b := ⟨_, rfl⟩
  rw [← hV] at HRES ⊢
  clear hV hR hO hL hq1 hq2 hq3 hq3' hn0 hq4 hq0l hRl hOl hLl hz
  unfold stepA stpZ at hwa
  simp only [List.length_nil] at hwa
  go_enter Tryz.func35, Tryz.ntmps35
  go_upto_region 1 with fail
  rw [← hwa, ← hp]
  clear hwa hp
  clear hg
  go_upto_region 3 with (first
    | (go_at_call 30; refine Calls.mono HRd.out ?_; rintro e w1 ⟨rfl, d1, g1⟩)
    | (go_at_call 36; refine Calls.mono (HT1.out _ d1) ?_; rintro e w2 ⟨rfl, d2, g2⟩; have G2 : Gr wa w2 := Gr.only g1 g2 hga)
    | (go_at_call 36; refine Calls.mono (HT2.out _ d2) ?_; rintro e w3 ⟨rfl, d3, g3⟩; have G3 : Gr wa w3 := Gr.only G2 g3 hga)
    | (go_at_call 36; refine Calls.mono (HT3.out _ d3) ?_; rintro e w4 ⟨rfl, d4, g4⟩; have G4 : Gr wa w4 := Gr.only G3 g4 hga))
  obtain ⟨k, hk⟩ : ∃ k, k = w4.heap.size := ⟨_, rfl⟩
  clear d1 d2 d3 g2 g3 G2 G3
  have HCELL : Sec (wa.heap.size ≤ k ∧ g < k) := sec ⟨by rw [hk]; exact G4.size, by rw [hk]; exact d4.blk.lt⟩
  have HT0 : Sec (Tw wa k (k + 1) R O L 0 [] [] (w4.alloc (.cells #[.string (bs R), .string (bs O), .string (bs L), .slice none 0 0, .slice none 0 0] 69))) := sec (Tw.new (by rw [hk]; exact Blk.new _ _ _) (G4.alloc _) (by omega) HCELL.out.1)
  have HD0 := sec (d4.gr ((Gr.refl w4).alloc (.cells #[.string (bs R), .string (bs O), .string (bs L), .slice none 0 0, .slice none 0 0] 69)))
  rw [← hk]
  obtain ⟨wb, hwb⟩ : ∃ y, y = w4.alloc (.cells #[.string (bs R), .string (bs O), .string (bs L), .slice none 0 0, .slice none 0 0] 69) := ⟨_, rfl⟩
  rw [← hwb] at HT0 HD0 ⊢
  clear hk hwb d4 g4 G4
  have HC : Sec (∀ A c N B d M X Y N' M' F G W, Md wa k (k + 1) (TwA R O L A c N B d M) X Y N' M' F G W → W.cell? ⟨k, 3, none⟩ = some (.slice A N c) ∧ W.cell? ⟨k, 4, none⟩ = some (.slice B M d) ∧ W.frozen? ⟨k, 3, none⟩ = false ∧ W.frozen? ⟨k, 4, none⟩ = false) := sec (fun A c N B d M X Y N' M' F G W h => ⟨h.blk.cell 3, h.blk.cell 4, h.blk.frozen 3, h.blk.frozen 4⟩)
  have HDC : Sec (∀ q W, RdAt 113 W g q → W.cell? ⟨g, 0, none⟩ = some (.string (bs q.1)) ∧ W.cell? ⟨g, 1, none⟩ = some (.int .i64 (q.2 : Int))) := sec (fun q W h => ⟨h.blk.cell 0, h.blk.cell 1⟩)
  have hkg : k ≠ g := by have := HCELL.out.2; omega
  have hgk : g ≠ k := by omega
  go_upto_block 0 with (first
    | (go_at_call 31; refine Calls.mono (HN3.out _ HD0.out) ?_; rintro e w5 ⟨rfl, d5, g5⟩; have T5 := sec (HT0.out.only HD0.out.blk (by decide) (by decide) hkg hga g5); have D5 := sec d5; clear d5 g5))
  clear HT1 HT2 HT3 HN3 HRd HT0 HD0
  go_cut [] from 19 to 41 (fun wx => Sec (∃ q F G N, dcL n0 q4 = (F, G, q) ∧ F.length ≤ 1099511627776 ∧ G.length ≤ 1099511627776 ∧ (∀ x ∈ G, x.length ≤ 32) ∧ RdAt 113 wx g q ∧ Tw wa k (k + 1) R O L N F G wx))
  case first =>
    go_wp2_with fail
    go_loopg [6] n0 (fun fuel iv wr => ∃ n : Nat, iv = .int .i64 (n : Int) ∧ n ≤ fuel ∧ n ≤ n0 ∧ Sec (∃ i q F G, DcAt b.length n0 q4 i n q F G ∧ RdAt 113 wr g q ∧ Tw wa k (k + 1) R O L i F G wr))
    case atStart => exact ⟨n0, rfl, by omega, by omega, sec ⟨0, q4, [], [], HST.out, D5.out, T5.out⟩⟩
    case round =>
      clear T5 D5
      obtain ⟨n, rfl, hfu, hnn, HF⟩ := hrel
      obtain ⟨i, q, F, G, hDc, hD, A1, c1, B1, d1, M0⟩ := HF.out
      have HDc := sec hDc
      have hfit := hDc.fits HB.out
      have hil : i ≤ b.length + 1 := hDc.le
      have HFI := sec hfit
      have HBB := sec (show i ≤ 1099511627776 by have := HB.out; omega)
      obtain ⟨y0, y1⟩ := HDC.out _ _ hD
      have HD := sec hD
      have HM := sec M0
      clear hDc HF hfit hil
      by_cases hn : 0 < n
      · have hni : (0 : Int) < (n : Int) := by omega
        by_cases hq : q.2 = 0
        · have hqi : ((q.2 : Int) == 0) = true := by rw [beq_iff_eq]; omega
          have HNX : Sec (DcAt b.length n0 q4 (i + 1) (n - 1) (aftB 32 (aftN q)) (F ++ [(nxtN q : Int)]) (G ++ [nxtB 32 (aftN q)])) := sec (by have h := HDc.out; rw [show n = (n - 1) + 1 by omega] at h; exact h.next hq)
          obtain ⟨x, hx⟩ : ∃ x, x = nxtN q := ⟨_, rfl⟩
          have HN1 : Sec (∀ W, RdAt 113 W g q → Calls Tryz.prog 31 #[.pointer (some ⟨g, 0, none⟩)] W fun e w' => e = .returned (.int .i64 (x : Int)) ∧ RdAt 113 w' g (aftN q) ∧ W.grownBy w' (some g)) := sec (by rw [hx]; exact HNu.out q)
          obtain ⟨sv, hsv⟩ : ∃ x, x = nxtB 32 (aftN q) := ⟨_, rfl⟩
          have HB1 : Sec (∀ W, RdAt 113 W g (aftN q) → Calls Tryz.prog 32 #[.pointer (some ⟨g, 0, none⟩), .int .i64 32] W fun e w' => e = .returned (.string (bs sv)) ∧ RdAt 113 w' g (aftB 32 (aftN q)) ∧ W.grownBy w' (some g)) := sec (by rw [hsv]; exact HBy.out (aftN q))
          rw [← hx, ← hsv] at HNX
          have hb8 : (i + 1) * 8 ≤ 140737488355328 := by have := HBB.out; omega
          have hb16 : (i + 1) * 16 ≤ 140737488355328 := by have := HBB.out; omega
          have hbm : i + 1 ≤ maxLen := by have := HBB.out; unfold maxLen; omega
          clear hx hsv hq
          clear hD M0
          go_upto_region 6 with (go_at_call 34; refine Calls.mono (HBad.out _ _ HD.out) ?_; rintro e w6 ⟨rfl, rfl⟩)
          obtain ⟨x0, x1, x2, x3⟩ := HC.out _ _ _ _ _ _ _ _ _ _ _ _ _ HM.out
          go_cut [] from 28 to 34 (fun wx => Sec (∃ A c, Md wa k (k + 1) (TwA R O L A c (i + 1) B1 d1 i) (.slice A (i + 1) c) (.slice B1 i d1) (i + 1) i (F ++ [(x : Int)]) G wx) ∧ Sec (RdAt 113 wx g (aftN q)))
          case first =>
            go_region_law (first
              | (go_simp; go_at_call 31; (refine Calls.mono (HN1.out _ (RdAt.gr HD.out ?gx)) ?_); (case gx => first | exact Gr.refl _ | exact (Gr.refl _).drew); rintro e w1 ⟨rfl, D1, g1⟩; have M1 : Md wa k (k + 1) (TwA R O L A1 c1 i B1 d1 i) (.slice A1 i c1) (.slice B1 i d1) i i F G w1 := (by first | exact HM.out.rd (Gr.refl _) HD.out (by decide) (by decide) hkg hga g1 | exact HM.out.rd (Gr.refl _).drew HD.out (by decide) (by decide) hkg hga g1); obtain ⟨a0, a1, a2, a3⟩ := HC.out _ _ _ _ _ _ _ _ _ _ _ _ _ M1; obtain ⟨c0, c1', c2', c3⟩ := HC.out _ _ _ _ _ _ _ _ _ _ _ _ _ (M1.al (.cells #[.int .i64 (x : Int)] 3)))
              | (refine step_append_row (B := k + 1) (A0 := A1) (n0 := i) (cap0 := c1) (xs := F.map iV) (A := some ⟨w1.heap.size, 0, none⟩) (n := 1) (c := 1) (vs := [.int .i64 (x : Int)]) E.ints rfl (.tmp 29) (.tmp 32) rfl ?hd ?ho ?hx (row1 (T := 3) ?hr) (fun h => by cases h) (fun u hu => by simp at hu; subst hu; rfl) hb8 hbm ?hB ?_; (case hd => first | (simp [Act.eval]; done) | (simp [Act.eval, Act.put]; done)); (case hx => first | (simp [Act.eval]; done) | (simp [Act.eval, Act.put]; done)); (case ho => refine Md.own1 (w0 := wa) (q := k) (K := k + 1) (cs := TwA R O L A1 c1 i B1 d1 i) (X := .slice A1 i c1) (Y := .slice B1 i d1) (N := i) (M := i) (F := F) (G := G) ?_; (repeat (first | with_reducible exact M1 | with_reducible refine Md.drew ?_ | with_reducible refine Md.al ?_ _)); done); (case hr => (repeat (first | (with_reducible refine BlkAt ?_; simp; done) | with_reducible refine Blk.drew ?_ | with_reducible refine Blk.alloc ?_ _)); done); (case hB => refine Md.size (w0 := wa) (q := k) (K := k + 1) (cs := TwA R O L A1 c1 i B1 d1 i) (X := .slice A1 i c1) (Y := .slice B1 i d1) (N := i) (M := i) (F := F) (G := G) ?_ (Nat.le_refl _); (repeat (first | with_reducible exact M1 | with_reducible refine Md.drew ?_ | with_reducible refine Md.al ?_ _)); done); intro Aa ka wA oA hA; rw [iV_add] at oA; have MA : Md wa k (k + 1) (TwA R O L A1 c1 i B1 d1 i) (.slice Aa (i + 1) ka) (.slice B1 i d1) (i + 1) i (F ++ [(x : Int)]) G wA := (by refine Md.app1 (w0 := wa) (q := k) (K := k + 1) (cs := TwA R O L A1 c1 i B1 d1 i) (X := .slice A1 i c1) (Y := .slice B1 i d1) (N := i) (M := i) (F := F) (G := G) ?_ oA hA; repeat (first | with_reducible exact M1 | with_reducible refine Md.drew ?_ | with_reducible refine Md.al ?_ _)); have DA : RdAt 113 wA g (aftN q) := (by refine Md.rdApp1 (w0 := wa) (q := k) (K := k + 1) (cs := TwA R O L A1 c1 i B1 d1 i) (X := .slice A1 i c1) (Y := .slice B1 i d1) (N := i) (M := i) (F := F) (G := G) ?hm (RdAt.gr D1 ?hg) (by decide) hA; (case hm => (repeat (first | with_reducible exact M1 | with_reducible refine Md.drew ?_ | with_reducible refine Md.al ?_ _)); done); (case hg => (first | exact (Gr.refl _).alloc _ | exact ((Gr.refl _).alloc _).drew | exact ((Gr.refl _).drew.alloc _)))); obtain ⟨b0, b1, b2, b3⟩ := HC.out _ _ _ _ _ _ _ _ _ _ _ _ _ MA))
            all_goals
              go_wp2_with fail
              go_meet
              exact ⟨sec ⟨Aa, ka, MA.st 3 _⟩, sec (DA.far hgk _)⟩
          case rest =>
            obtain ⟨HM2', HD2⟩ := hcut
            obtain ⟨A2, c2, hM2⟩ := HM2'.out
            have HM2 := sec hM2
            clear HM2' hM2 HM HD y0 y1 x0 x1 x2 x3
            obtain ⟨x0, x1, x2, x3⟩ := HC.out _ _ _ _ _ _ _ _ _ _ _ _ _ HM2.out
            go_upto_region 7 with fail
            go_region_law (first
              | (go_simp; go_at_call 32; (refine Calls.mono (HB1.out _ (RdAt.gr HD2.out ?gx)) ?_); (case gx => first | exact Gr.refl _ | exact (Gr.refl _).drew); rintro e w1 ⟨rfl, D1, g1⟩; have M1 : Md wa k (k + 1) (TwA R O L A2 c2 (i + 1) B1 d1 i) (.slice A2 (i + 1) c2) (.slice B1 i d1) (i + 1) i (F ++ [(x : Int)]) G w1 := (by first | exact HM2.out.rd (Gr.refl _) HD2.out (by decide) (by decide) hkg hga g1 | exact HM2.out.rd (Gr.refl _).drew HD2.out (by decide) (by decide) hkg hga g1); obtain ⟨a0, a1, a2, a3⟩ := HC.out _ _ _ _ _ _ _ _ _ _ _ _ _ M1; obtain ⟨c0, c1', c2', c3⟩ := HC.out _ _ _ _ _ _ _ _ _ _ _ _ _ (M1.al (.cells #[.string (bs sv)] 9)))
              | (refine step_append_row (B := k + 1) (A0 := B1) (n0 := i) (cap0 := d1) (xs := G.map strV) (A := some ⟨w1.heap.size, 0, none⟩) (n := 1) (c := 1) (vs := [.string (bs sv)]) E.str rfl (.tmp 36) (.tmp 39) rfl ?hd ?ho ?hx (row1 (T := 9) ?hr) (fun h => by cases h) (fun u hu => by simp at hu; subst hu; rfl) hb16 hbm ?hB ?_; (case hd => first | (simp [Act.eval]; done) | (simp [Act.eval, Act.put]; done)); (case hx => first | (simp [Act.eval]; done) | (simp [Act.eval, Act.put]; done)); (case ho => refine Md.own2 (w0 := wa) (q := k) (K := k + 1) (cs := TwA R O L A2 c2 (i + 1) B1 d1 i) (X := .slice A2 (i + 1) c2) (Y := .slice B1 i d1) (N := i + 1) (M := i) (F := F ++ [(x : Int)]) (G := G) ?_; (repeat (first | with_reducible exact M1 | with_reducible refine Md.drew ?_ | with_reducible refine Md.al ?_ _)); done); (case hr => (repeat (first | (with_reducible refine BlkAt ?_; simp; done) | with_reducible refine Blk.drew ?_ | with_reducible refine Blk.alloc ?_ _)); done); (case hB => refine Md.size (w0 := wa) (q := k) (K := k + 1) (cs := TwA R O L A2 c2 (i + 1) B1 d1 i) (X := .slice A2 (i + 1) c2) (Y := .slice B1 i d1) (N := i + 1) (M := i) (F := F ++ [(x : Int)]) (G := G) ?_ (Nat.le_refl _); (repeat (first | with_reducible exact M1 | with_reducible refine Md.drew ?_ | with_reducible refine Md.al ?_ _)); done); intro Bb kb wA oA hA; rw [sV_add] at oA; have MA : Md wa k (k + 1) (TwA R O L A2 c2 (i + 1) B1 d1 i) (.slice A2 (i + 1) c2) (.slice Bb (i + 1) kb) (i + 1) (i + 1) (F ++ [(x : Int)]) (G ++ [sv]) wA := (by refine Md.app2 (w0 := wa) (q := k) (K := k + 1) (cs := TwA R O L A2 c2 (i + 1) B1 d1 i) (X := .slice A2 (i + 1) c2) (Y := .slice B1 i d1) (N := i + 1) (M := i) (F := F ++ [(x : Int)]) (G := G) ?_ oA hA; repeat (first | with_reducible exact M1 | with_reducible refine Md.drew ?_ | with_reducible refine Md.al ?_ _)); have DA : RdAt 113 wA g (aftB 32 (aftN q)) := (by refine Md.rdApp2 (w0 := wa) (q := k) (K := k + 1) (cs := TwA R O L A2 c2 (i + 1) B1 d1 i) (X := .slice A2 (i + 1) c2) (Y := .slice B1 i d1) (N := i + 1) (M := i) (F := F ++ [(x : Int)]) (G := G) ?hm (RdAt.gr D1 ?hg) (by decide) hA; (case hm => (repeat (first | with_reducible exact M1 | with_reducible refine Md.drew ?_ | with_reducible refine Md.al ?_ _)); done); (case hg => (first | exact (Gr.refl _).alloc _ | exact ((Gr.refl _).alloc _).drew | exact ((Gr.refl _).drew.alloc _)))); obtain ⟨b0, b1, b2, b3⟩ := HC.out _ _ _ _ _ _ _ _ _ _ _ _ _ MA))
            all_goals
              go_wp2_with fail
              go_roundg (gk - 1)
              case rel => exact ⟨n - 1, by go_num, by omega, by omega, sec ⟨i + 1, aftB 32 (aftN q), F ++ [(x : Int)], G ++ [sv], HNX.out, DA.far hgk _, _, _, _, _, MA.st 4 _⟩⟩
              case measure => omega
        · have hqi : ((q.2 : Int) == 0) = false := by rw [beq_eq_false_iff_ne]; omega
          have HQ0 := sec hq
          clear hq
          go_wp2_with (go_at_call 34; refine Calls.mono (HBad.out _ _ HD.out) ?_; rintro e w6 ⟨rfl, rfl⟩)
          go_meet
          exact sec ⟨q, F, G, i, HDc.out.bad HQ0.out, HFI.out.1, HFI.out.2, HDc.out.each, HD.out, _, _, _, _, HM.out⟩
      · obtain rfl : n = 0 := by omega
        have HDN : Sec (dcL n0 q4 = (F, G, q)) := sec HDc.out.done
        go_wp2_with fail
        go_meet
        exact sec ⟨q, F, G, i, HDN.out, HFI.out.1, HFI.out.2, HDc.out.each, HD.out, _, _, _, _, HM.out⟩
  case rest =>
    obtain ⟨q, F, G, N, h1, h2, h3, h4, hD, A1, c1, B1, d1, M0⟩ := hcut.out
    have HR := HRES.out q F G h1
    obtain ⟨S0, e1⟩ := M0.str
    have B0 := M0.blk
    rw [e1] at B0
    obtain ⟨y0, y1⟩ := HDC.out _ _ hD
    have GX : Gr wa wc := M0.gr
    by_cases hq : q.2 = 0
    · have hqi : (q.2 : Int) = 0 := by omega
      by_cases hl : q.1.length = 0
      · rw [if_pos ⟨hq, hl⟩] at HR
        have GOx : Sec (Calls Tryz.prog 80 #[.agg (stepA ⟨R, O, L, F, G⟩ A1 c1 B1 d1)] wc fun e w' => e = .returned (.int .i64 (stE ⟨R, O, L, F, G⟩)) ∧ Gr wc w') := sec (HGo.out F G A1 c1 B1 d1 _ h2 h3 h4 S0)
        obtain ⟨E, hE⟩ : ∃ E, E = stE ⟨R, O, L, F, G⟩ := ⟨_, rfl⟩
        rw [← hE] at HR GOx
        have HMM := sec M0
        clear HGo h1 h2 h3 h4 S0 e1 hE M0
        by_cases hE0 : E = 0
        · subst hE0
          rw [if_pos rfl] at HR
          have HR := sec HR
          have hlz : ¬ (0 : Int) < (q.1.length : Int) := by omega
          go_wp2_with (first
            | (go_at_call 34; refine Calls.mono (HBad.out _ _ hD) ?_; rintro e w6 ⟨rfl, rfl⟩)
            | (go_at_call 33; refine Calls.mono (HLe.out _ _ hD) ?_; rintro e w7 ⟨rfl, rfl⟩)
            | (go_at_call 80; refine Calls.mono GOx.out ?_; rintro e w8 ⟨rfl, g8⟩; have B8 := B0.gr g8; have G8 := GX.trans g8)
            | (refine wpList_load_blk rfl 69 (.tmp 5) rfl (g := k) rfl B0 aggStep ?_)
            | (refine wpList_load_blk rfl 69 (.tmp 5) rfl (g := k) rfl B8 aggStep ?_)
            | (refine wpList_store_blk rfl 69 (.tmp 2) (.tmp 57) rfl (g := p) (cs' := stepA ⟨R, O, L, F, G⟩ A1 c1 B1 d1) rfl rfl (HZ.out.gr G8) aggStep rfl (stepA_one _ _ _ _ _) ?_; intro w9 h9 hg9))
          refine bodyPost_ret (results_blk_tmp rfl _ rfl h9 aggStep) rfl ?_
          rw [HR.out]
          obtain ⟨s1, s2⟩ := str_own (r := R) (o := O) (n := L) (own_only (HMM.out.gr' g8).own1 (HZ.out.gr G8) (by decide) hg9) (own_only (HMM.out.gr' g8).own2 (HZ.out.gr G8) (by decide) hg9)
          exact ⟨A1, c1, B1, d1, rfl, ownD_of (own_only (HMM.out.gr' g8).own1 (HZ.out.gr G8) (by decide) hg9) (own_only (HMM.out.gr' g8).own2 (HZ.out.gr G8) (by decide) hg9) (by have h1 := HCELL.out.1; have h2 := hg0.size; omega), Gr.only (hg0.trans G8) hg9 hwp⟩
        · rw [if_neg hE0] at HR
          have HR := sec HR
          have m0 : (E != 0) = true := by simpa using hE0
          clear hE0
          have hlz : ¬ (0 : Int) < (q.1.length : Int) := by omega
          go_wp2_with (first
            | (go_at_call 34; refine Calls.mono (HBad.out _ _ hD) ?_; rintro e w6 ⟨rfl, rfl⟩)
            | (go_at_call 33; refine Calls.mono (HLe.out _ _ hD) ?_; rintro e w7 ⟨rfl, rfl⟩)
            | (go_at_call 80; refine Calls.mono GOx.out ?_; rintro e w8 ⟨rfl, g8⟩; have B8 := B0.gr g8; have G8 := GX.trans g8)
            | (refine wpList_load_blk rfl 69 (.tmp 5) rfl (g := k) rfl B0 aggStep ?_)
            | (refine wpList_store_blk rfl 69 (.tmp 2) _ rfl (g := p) (cs' := stepA stpZ none 0 none 0) rfl rfl (HZ.out.gr G8) aggStep rfl (stepA_one _ _ _ _ _) ?_; intro w9 h9 hg9))
          refine bodyPost_ret (results_blk_tmp rfl _ rfl h9 aggStep) rfl ?_
          rw [HR.out]
          exact ⟨none, 0, none, 0, rfl, OwnD.zero _ _, Gr.only (hg0.trans G8) hg9 hwp⟩
      · have HR : Sec (V = (stpZ, 2)) := sec (by rw [HR, if_neg (fun h => hl h.2)])
        clear h1 h2 h3 h4 S0 e1 M0 B0
        have hlz : (0 : Int) < (q.1.length : Int) := by omega
        go_wp2_with (first
          | (go_at_call 34; refine Calls.mono (HBad.out _ _ hD) ?_; rintro e w6 ⟨rfl, rfl⟩)
          | (go_at_call 33; refine Calls.mono (HLe.out _ _ hD) ?_; rintro e w7 ⟨rfl, rfl⟩)
          | (refine wpList_store_blk rfl 69 (.tmp 2) _ rfl (g := p) (cs' := stepA stpZ none 0 none 0) rfl rfl (HZ.out.gr GX) aggStep rfl (stepA_one _ _ _ _ _) ?_; intro w9 h9 hg9))
        refine bodyPost_ret (results_blk_tmp rfl _ rfl h9 aggStep) rfl ?_
        rw [HR.out]
        exact ⟨none, 0, none, 0, rfl, OwnD.zero _ _, Gr.only (hg0.trans GX) hg9 hwp⟩
    · have HR : Sec (V = (stpZ, 2)) := sec (by rw [HR, if_neg (fun h => hq h.1)])
      clear h1 h2 h3 h4 S0 e1 M0 B0
      have hqi : ¬ (q.2 : Int) = 0 := by omega
      go_wp2_with (first
        | (go_at_call 34; refine Calls.mono (HBad.out _ _ hD) ?_; rintro e w6 ⟨rfl, rfl⟩)
        | (go_at_call 33; refine Calls.mono (HLe.out _ _ hD) ?_; rintro e w7 ⟨rfl, rfl⟩)
        | (refine wpList_store_blk rfl 69 (.tmp 2) _ rfl (g := p) (cs' := stepA stpZ none 0 none 0) rfl rfl (HZ.out.gr GX) aggStep rfl (stepA_one _ _ _ _ _) ?_; intro w9 h9 hg9))
      refine bodyPost_ret (results_blk_tmp rfl _ rfl h9 aggStep) rfl ?_
      rw [HR.out]
      exact ⟨none, 0, none, 0, rfl, OwnD.zero _ _, Gr.only (hg0.trans GX) hg9 hwp⟩
theorem stDec_any (b : List UInt8) (w : World) (hb : b.length ≤ 1099511627775) :
    Calls Tryz.prog 35 #[.string (bs b)] w fun e w' => ∃ A c B d, e = .returned (.tuple #[.agg (stepA (dcR b).1 A c B d), .int .i64 (dcR b).2]) ∧ StR w' (dcR b).1 A c B d ∧ Gr w w' :=
  (stDecO_any b w hb).mono fun e w' ⟨A, c, B, d, h1, h2, h3⟩ => ⟨A, c, B, d, h1, h2.str, h3⟩
end Go.Proofs.YtoamnifnfkgbiaaGreatDoor

namespace Go.Proofs.YtoamnifnfkgbiaaGreatDoor
set_option maxRecDepth 100000
open Go.RowKit
set_option linter.unusedVariables false
set_option maxHeartbeats 8000000 in
theorem rstGood_any (s : Stp) (A : Option Addr) (c : Nat) (B : Option Addr) (d : Nat) (w : World) (hR : StR w s A c B d) (hz : StSz 1099511627776 s) :
    Calls Tryz.prog 88 #[.agg (stepA s A c B d)] w fun e w' => e = .returned (.int .i64 (stE s)) ∧ Gr w w' := by
  have HNa := sec (fun w => refName_any s.r w hz.r)
  obtain ⟨wa, hwa⟩ : ∃ x, x = w.alloc (.cells (stepA s A c B d) 69) := ⟨_, rfl⟩
  have hb : Blk wa w.heap.size 69 (stepA s A c B d) := by rw [hwa]; exact Blk.new w _ _
  have hg0 : Gr w wa := by rw [hwa]; exact (Gr.refl w).alloc _
  obtain ⟨p, hp⟩ : ∃ p, p = w.heap.size := ⟨_, rfl⟩
  rw [← hp] at hb
  have HW := sec (hR.who.gr hg0)
  have HS := sec (hR.seals.gr hg0)
  have hwl := hz.who
  have hsl := hz.seals
  obtain ⟨V, hV⟩ : ∃ V : Int, V = stE s := ⟨_, rfl⟩
  rw [← hV]
  have HV := sec hV
  obtain ⟨r, o, n, who, seals⟩ := s
  simp only at HNa hwl hsl HW HS
  unfold stepA at hb hwa
  unfold stepA
  simp only at hb hwa ⊢
  have HCELL : Sec (∀ w', Gr wa w' → w'.cell? ⟨p, 0, none⟩ = some (.string (bs r)) ∧ w'.cell? ⟨p, 1, none⟩ = some (.string (bs o)) ∧ w'.cell? ⟨p, 2, none⟩ = some (.string (bs n)) ∧ w'.cell? ⟨p, 3, none⟩ = some (.slice A who.length c) ∧ w'.cell? ⟨p, 4, none⟩ = some (.slice B seals.length d)) := sec (fun w' g => ⟨(hb.gr g).cell 0, (hb.gr g).cell 1, (hb.gr g).cell 2, (hb.gr g).cell 3, (hb.gr g).cell 4⟩)
  clear hb hV hR hz
  obtain ⟨ok, hok⟩ : ∃ ok : Bool, ok = stB ⟨r, o, n, who, seals⟩ := ⟨_, rfl⟩
  have HOK := sec hok
  clear hok
  go_enter Tryz.func88, Tryz.ntmps88
  go_upto_region 1 with fail
  rw [← hwa, ← hp]
  clear hwa hp
  obtain ⟨c0, c1, c2, c3, c4⟩ := HCELL.out wa (Gr.refl _)
  go_cut [28] from 6 to 28 (fun v28 wc => v28 = .bool (!ok) ∧ Gr wa wc)
  case first =>
    have HM1 := sec (fun w => maybe_any o w)
    have HM2 := sec (fun w => maybe_any n w)
    obtain ⟨rb, hrb⟩ : ∃ b, b = refB r := ⟨_, rfl⟩
    rw [← hrb] at HNa
    obtain ⟨ob, hob⟩ : ∃ b, b = mayB o := ⟨_, rfl⟩
    rw [← hob] at HM1
    obtain ⟨nb, hnb⟩ : ∃ b, b = mayB n := ⟨_, rfl⟩
    rw [← hnb] at HM2
    have hok : ok = (rb && (ob && (nb && !(o == n)))) := by rw [HOK.out, hrb, hob, hnb]; rfl
    clear hrb hob hnb
    cases rb
    · have HX : Sec (ok = false) := sec (by rw [hok]; rfl)
      clear hok
      go_wp2_with (first | (go_at_call 134; refine Calls.mono (HNa.out _) ?_; rintro e w1 ⟨rfl, g1⟩; obtain ⟨d0, d1, d2, d3, d4⟩ := HCELL.out w1 g1) | (go_at_call 135; (with_reducible refine Calls.mono (HM1.out _) ?_); rintro e w2 ⟨rfl, rfl⟩) | (go_at_call 135; (with_reducible refine Calls.mono (HM2.out _) ?_); rintro e w3 ⟨rfl, rfl⟩))
      go_meet
      exact ⟨by rw [HX.out]; rfl, g1⟩
    · cases ob
      · have HX : Sec (ok = false) := sec (by rw [hok]; rfl)
        clear hok
        go_wp2_with (first | (go_at_call 134; refine Calls.mono (HNa.out _) ?_; rintro e w1 ⟨rfl, g1⟩; obtain ⟨d0, d1, d2, d3, d4⟩ := HCELL.out w1 g1) | (go_at_call 135; (with_reducible refine Calls.mono (HM1.out _) ?_); rintro e w2 ⟨rfl, rfl⟩) | (go_at_call 135; (with_reducible refine Calls.mono (HM2.out _) ?_); rintro e w3 ⟨rfl, rfl⟩))
        go_meet
        exact ⟨by rw [HX.out]; rfl, g1⟩
      · cases nb
        · have HX : Sec (ok = false) := sec (by rw [hok]; rfl)
          clear hok
          go_wp2_with (first | (go_at_call 134; refine Calls.mono (HNa.out _) ?_; rintro e w1 ⟨rfl, g1⟩; obtain ⟨d0, d1, d2, d3, d4⟩ := HCELL.out w1 g1) | (go_at_call 135; (with_reducible refine Calls.mono (HM1.out _) ?_); rintro e w2 ⟨rfl, rfl⟩) | (go_at_call 135; (with_reducible refine Calls.mono (HM2.out _) ?_); rintro e w3 ⟨rfl, rfl⟩))
          go_meet
          exact ⟨by rw [HX.out]; rfl, g1⟩
        · cases heq : (o == n)
          · have HX : Sec (ok = true) := sec (by rw [hok, heq]; rfl)
            clear hok
            go_wp2_with (first | (go_at_call 134; refine Calls.mono (HNa.out _) ?_; rintro e w1 ⟨rfl, g1⟩; obtain ⟨d0, d1, d2, d3, d4⟩ := HCELL.out w1 g1) | (go_at_call 135; (with_reducible refine Calls.mono (HM1.out _) ?_); rintro e w2 ⟨rfl, rfl⟩) | (go_at_call 135; (with_reducible refine Calls.mono (HM2.out _) ?_); rintro e w3 ⟨rfl, rfl⟩))
            go_meet
            exact ⟨by rw [HX.out]; rfl, g1⟩
          · have HX : Sec (ok = false) := sec (by rw [hok, heq]; rfl)
            clear hok
            go_wp2_with (first | (go_at_call 134; refine Calls.mono (HNa.out _) ?_; rintro e w1 ⟨rfl, g1⟩; obtain ⟨d0, d1, d2, d3, d4⟩ := HCELL.out w1 g1) | (go_at_call 135; (with_reducible refine Calls.mono (HM1.out _) ?_); rintro e w2 ⟨rfl, rfl⟩) | (go_at_call 135; (with_reducible refine Calls.mono (HM2.out _) ?_); rintro e w3 ⟨rfl, rfl⟩))
            go_meet
            exact ⟨by rw [HX.out]; rfl, g1⟩
  case rest =>
    obtain ⟨rfl, gc⟩ := hcut
    clear c0 c1 c2 c3 c4
    obtain ⟨c0, c1, c2, c3, c4⟩ := HCELL.out wc gc
    cases ok
    · have HV2 : Sec (V = 2) := sec (by rw [HV.out]; unfold stE; rw [← HOK.out]; rfl)
      go_wp2_with fail
      go_ret
      exact ⟨by rw [HV2.out]; rfl, hg0.trans gc⟩
    · have HV1 : Sec (V = if 8 < who.length ∨ ¬ seals.length = who.length then 6 else stF (-1) who seals) := sec (by rw [HV.out]; unfold stE; rw [← HOK.out]; rfl)
      by_cases h8 : 8 < who.length
      · have q8 : (8 : Int) < (who.length : Int) := by omega
        have HV6 : Sec (V = 6) := sec (by rw [HV1.out, if_pos (Or.inl h8)])
        clear h8
        go_wp2_with fail
        go_ret
        exact ⟨by rw [HV6.out]; rfl, hg0.trans gc⟩
      · have q8 : ¬ (8 : Int) < (who.length : Int) := by omega
        by_cases hne : seals.length = who.length
        · have HLEN := sec hne
          have HV0 : Sec (V = stF (-1) who seals) := sec (by rw [HV1.out, if_neg (by omega)])
          have qne : ((seals.length : Int) != (who.length : Int)) = false := by rw [bne_eq_false_iff_eq]; omega
          clear hne h8
          go_wp2_with fail
          clear c0 c1 c2 c3 c4 qne
          go_loopg [45, 3, 4, 5] who.length (fun fuel iv lv _ _ wr => ∃ (i : Nat) (last : Int), iv = .int .i64 (i : Int) ∧ lv = .int .i64 last ∧ who.length ≤ i + fuel ∧ i ≤ who.length ∧ Sec (stSeen ⟨r, o, n, who, seals⟩ i last) ∧ Gr wa wr)
          case atStart => exact ⟨0, -1, rfl, rfl, by omega, by omega, sec (stSeen0 _), gc⟩
          case round =>
            obtain ⟨i, last, rfl, rfl, hik, hi, HST, hg⟩ := hrel
            by_cases hlt : i < who.length
            · have hss : i < seals.length := by have := HLEN.out; omega
              have hii : (i : Int) < (who.length : Int) := by omega
              have hjj : (i : Int) < (seals.length : Int) := by omega
              obtain ⟨b, off, rfl, e0⟩ := (HW.out.gr hg).cell hlt
              obtain ⟨b2, off2, rfl, x0⟩ := (HS.out.gr hg).cell hss
              obtain ⟨c0, c1, c2, c3, c4⟩ := HCELL.out wr hg
              have hhere := HST.out.here (s := ⟨r, o, n, who, seals⟩) hlt hss
              have HNEXT := sec (fun h1 h2 => HST.out.next (s := ⟨r, o, n, who, seals⟩) hlt hss h1 h2)
              have hlow := HST.out.low (s := ⟨r, o, n, who, seals⟩) (Nat.le_of_lt hlt)
              simp only at hhere HNEXT
              obtain ⟨mw, hmw⟩ : ∃ x, x = who[i] := ⟨_, rfl⟩
              obtain ⟨sl, hslx⟩ : ∃ x, x = seals[i] := ⟨_, rfl⟩
              rw [← hmw, ← hslx] at hhere HNEXT
              rw [← hmw] at e0
              rw [← hslx] at x0
              have HHERE := sec hhere
              have HII := sec (And.intro hss hlt)
              clear hmw hslx hhere hss hlt
              by_cases hbad : mw ≤ last ∨ 7 < mw
              · have HV3 : Sec (V = 3) := sec (by rw [HV0.out, HHERE.out, if_pos hbad])
                by_cases g0 : mw ≤ last
                · have q0 : decide (mw ≤ last) = true := decide_eq_true g0
                  clear hbad
                  go_wp2_with fail
                  go_ret
                  exact ⟨by rw [HV3.out]; rfl, hg0.trans hg⟩
                · have q0 : decide (mw ≤ last) = false := decide_eq_false g0
                  have q1 : decide (7 < mw) = true := decide_eq_true (by omega)
                  clear hbad
                  go_wp2_with fail
                  go_ret
                  exact ⟨by rw [HV3.out]; rfl, hg0.trans hg⟩
              · have q0 : decide (mw ≤ last) = false := decide_eq_false (by omega)
                have q1 : decide (7 < mw) = false := decide_eq_false (by omega)
                by_cases hs32 : sl.length = 32
                · have q3 : ((sl.length : Int) != 32) = false := by rw [bne_eq_false_iff_eq]; omega
                  have HEN : Sec (stSeen ⟨r, o, n, who, seals⟩ (i + 1) mw) := sec (HNEXT.out hbad hs32)
                  clear hbad hs32
                  go_wp2_with fail
                  go_roundg (gk - 1)
                  case rel => exact ⟨i + 1, mw, by go_num, rfl, by omega, by have := HII.out.2; omega, HEN, hg⟩
                  case measure => have := HII.out.2; omega
                · have q3 : ((sl.length : Int) != 32) = true := by rw [bne_iff_ne]; omega
                  have HV2 : Sec (V = 2) := sec (by rw [HV0.out, HHERE.out, if_neg hbad, if_neg hs32])
                  clear hbad hs32
                  go_wp2_with fail
                  go_ret
                  exact ⟨by rw [HV2.out]; rfl, hg0.trans hg⟩
            · have HE : Sec (V = 0) := sec (by rw [HV0.out]; exact HST.out.done (s := ⟨r, o, n, who, seals⟩) (by simp only; omega))
              obtain rfl : i = who.length := by omega
              clear hlt hik
              go_wp2_with fail
              go_ret
              exact ⟨by rw [HE.out]; rfl, hg0.trans hg⟩
        · have qne : ((seals.length : Int) != (who.length : Int)) = true := by rw [bne_iff_ne]; omega
          have HV6 : Sec (V = 6) := sec (by rw [HV1.out, if_pos (Or.inr hne)])
          clear hne h8
          go_wp2_with fail
          go_ret
          exact ⟨by rw [HV6.out]; rfl, hg0.trans gc⟩
end Go.Proofs.YtoamnifnfkgbiaaGreatDoor

namespace Go.Proofs.YtoamnifnfkgbiaaGreatDoor
set_option maxRecDepth 100000
open Go.RowKit
set_option linter.unusedVariables false
set_option maxHeartbeats 16000000 in
theorem rstDecO_any (b : List UInt8) (w : World) (hb : b.length ≤ 1099511627775) :
    Calls Tryz.prog 45 #[.string (bs b)] w fun e w' => ∃ A c B d, e = .returned (.tuple #[.agg (stepA (dcR b).1 A c B d), .int .i64 (dcR b).2]) ∧ OwnD w.heap.size w' (dcR b).1 A c B d ∧ Gr w w' := by
  obtain ⟨wa, hwa⟩ : ∃ y, y = w.alloc (.cells (stepA stpZ none 0 none 0) 69) := ⟨_, rfl⟩
  have hz : Blk wa w.heap.size 69 (stepA stpZ none 0 none 0) := by rw [hwa]; exact Blk.new w _ _
  have hg0 : Gr w wa := by rw [hwa]; exact (Gr.refl w).alloc _
  obtain ⟨p, hp⟩ : ∃ p, p = w.heap.size := ⟨_, rfl⟩
  rw [← hp] at hz
  have hwp : w.heap.size ≤ p := by omega
  obtain ⟨g, hg⟩ : ∃ g, g = wa.heap.size := ⟨_, rfl⟩
  have hpg : p < g := by rw [hg]; exact hz.lt
  have hga : wa.heap.size ≤ g := by omega
  obtain ⟨R, hR⟩ : ∃ x, x = nxtT (b, 0) := ⟨_, rfl⟩
  obtain ⟨O, hO⟩ : ∃ x, x = nxtT (aftT (b, 0)) := ⟨_, rfl⟩
  obtain ⟨L, hL⟩ : ∃ x, x = nxtT (aftT (aftT (b, 0))) := ⟨_, rfl⟩
  obtain ⟨q1, hq1⟩ : ∃ x, x = aftT (b, 0) := ⟨_, rfl⟩
  obtain ⟨q2, hq2⟩ : ∃ x, x = aftT q1 := ⟨_, rfl⟩
  obtain ⟨q3, hq3⟩ : ∃ x, x = dc3 b := ⟨_, rfl⟩
  obtain ⟨n0, hn0⟩ : ∃ x, x = nxtN q3 := ⟨_, rfl⟩
  obtain ⟨q4, hq4⟩ : ∃ x, x = aftN q3 := ⟨_, rfl⟩
  have hq3' : q3 = aftT q2 := by rw [hq3, hq2, hq1]; rfl
  have HRdA : Sec (RdAt 80 (wa.alloc (.cells #[.string (bs b), .int .i64 0] 80)) g (b, 0) ∧ Gr wa (wa.alloc (.cells #[.string (bs b), .int .i64 0] 80))) := sec ⟨⟨by rw [hg]; exact Blk.new _ _ _, by simp only; omega, by simp⟩, (Gr.refl _).alloc _⟩
  have HT1 : Sec (∀ W, RdAt 80 W g (b, 0) → Calls Tryz.prog 46 #[.pointer (some ⟨g, 0, none⟩)] W fun e w' => e = .returned (.string (bs R)) ∧ RdAt 80 w' g q1 ∧ W.grownBy w' (some g)) := sec (fun W h => by rw [hR, hq1]; exact cuText g (b, 0) W h)
  have HT2 : Sec (∀ W, RdAt 80 W g q1 → Calls Tryz.prog 46 #[.pointer (some ⟨g, 0, none⟩)] W fun e w' => e = .returned (.string (bs O)) ∧ RdAt 80 w' g q2 ∧ W.grownBy w' (some g)) := sec (fun W h => by rw [hO, ← hq1, hq2]; exact cuText g q1 W h)
  have HT3 : Sec (∀ W, RdAt 80 W g q2 → Calls Tryz.prog 46 #[.pointer (some ⟨g, 0, none⟩)] W fun e w' => e = .returned (.string (bs L)) ∧ RdAt 80 w' g q3 ∧ W.grownBy w' (some g)) := sec (fun W h => by rw [hL, ← hq1, ← hq2, hq3']; exact cuText g q2 W h)
  have HNu : Sec (∀ q W, RdAt 80 W g q → Calls Tryz.prog 43 #[.pointer (some ⟨g, 0, none⟩)] W fun e w' => e = .returned (.int .i64 (nxtN q : Int)) ∧ RdAt 80 w' g (aftN q) ∧ W.grownBy w' (some g)) := sec (fun q W h => cuNumber g q W h)
  have HBy : Sec (∀ q W, RdAt 80 W g q → Calls Tryz.prog 44 #[.pointer (some ⟨g, 0, none⟩), .int .i64 32] W fun e w' => e = .returned (.string (bs (nxtB 32 q))) ∧ RdAt 80 w' g (aftB 32 q) ∧ W.grownBy w' (some g)) := sec (fun q W h => cuTake g q 32 W h (by omega))
  have hq0l : q4.1.length ≤ b.length := by
    have h1 := aftN_le q3
    have h2 := dc3_le b
    rw [← hq3] at h2
    rw [hq4]; omega
  have hn0l : n0 < 4611686018427387904 := by rw [hn0]; exact nxtN_ltD q3
  have HST := sec (DcAt.start (n0 := n0) hq0l)
  have hRl : R.length ≤ 1099511627776 := by have := nxtT_le (b, 0); simp only at this; rw [hR]; omega
  have hOl : O.length ≤ 1099511627776 := by have := nxtT_le (aftT (b, 0)); have := aftT_le (b, 0); simp only at this; rw [hO]; omega
  have hLl : L.length ≤ 1099511627776 := by have := nxtT_le (aftT (aftT (b, 0))); have := aftT_le (aftT (b, 0)); have := aftT_le (b, 0); simp only at this; rw [hL]; omega
  have HRES : Sec (∀ (q : St) (F : List Int) (G : List (List UInt8)), dcL n0 q4 = (F, G, q) → dcR b = if q.2 = 0 ∧ q.1.length = 0 then (if stE ⟨R, O, L, F, G⟩ = 0 then (⟨R, O, L, F, G⟩, 0) else (stpZ, stE ⟨R, O, L, F, G⟩)) else (stpZ, 2)) := sec (fun q F G h => by
    have h' : dcLs b = (F, G, q) := by rw [← h, hn0, hq4, hq3]; rfl
    unfold dcR dcS
    rw [h', hR, hO, hL])
  have HGo : Sec (∀ (F : List Int) (G : List (List UInt8)) A c B d W, F.length ≤ 1099511627776 → G.length ≤ 1099511627776 → (∀ x ∈ G, x.length ≤ 32) → StR W ⟨R, O, L, F, G⟩ A c B d → Calls Tryz.prog 88 #[.agg (stepA ⟨R, O, L, F, G⟩ A c B d)] W fun e w' => e = .returned (.int .i64 (stE ⟨R, O, L, F, G⟩)) ∧ Gr W w') := sec (fun F G A c B d W h1 h2 h3 hr => rstGood_any _ A c B d W hr ⟨hRl, hOl, hLl, h1, h2, fun x hx => Nat.le_trans (h3 x hx) (by omega)⟩)
  have HN3 : Sec (∀ W, RdAt 80 W g q3 → Calls Tryz.prog 43 #[.pointer (some ⟨g, 0, none⟩)] W fun e w' => e = .returned (.int .i64 (n0 : Int)) ∧ RdAt 80 w' g q4 ∧ W.grownBy w' (some g)) := sec (fun W h => by rw [hn0, hq4]; exact cuNumber g q3 W h)
  have HB := sec hb
  have HZ := sec hz
  obtain ⟨V, hV⟩ : ∃ V, V = dcR b := ⟨_, rfl⟩
  rw [← hV] at HRES ⊢
  clear hV hR hO hL hq1 hq2 hq3 hq3' hn0 hq4 hq0l hRl hOl hLl hz
  unfold stepA stpZ at hwa
  simp only [List.length_nil] at hwa
  go_enter Tryz.func45, Tryz.ntmps45
  go_upto_region 1 with fail
  rw [← hwa, ← hp]
  clear hwa hp
  obtain ⟨d1, g1⟩ := HRdA.out
  obtain ⟨w1, hw1⟩ : ∃ y, y = wa.alloc (.cells #[.string (bs b), .int .i64 0] 80) := ⟨_, rfl⟩
  rw [← hw1] at d1 g1
  go_upto_region 2 with fail
  rw [← hw1, ← hg]
  clear hw1 hg HRdA
  go_upto_region 3 with (first
    | (go_at_call 46; refine Calls.mono (HT1.out _ d1) ?_; rintro e w2 ⟨rfl, d2, g2⟩; have G2 : Gr wa w2 := Gr.only g1 g2 hga)
    | (go_at_call 46; refine Calls.mono (HT2.out _ d2) ?_; rintro e w3 ⟨rfl, d3, g3⟩; have G3 : Gr wa w3 := Gr.only G2 g3 hga)
    | (go_at_call 46; refine Calls.mono (HT3.out _ d3) ?_; rintro e w4 ⟨rfl, d4, g4⟩; have G4 : Gr wa w4 := Gr.only G3 g4 hga))
  obtain ⟨k, hk⟩ : ∃ k, k = w4.heap.size := ⟨_, rfl⟩
  clear d1 d2 d3 g2 g3 G2 G3
  have HCELL : Sec (wa.heap.size ≤ k ∧ g < k) := sec ⟨by rw [hk]; exact G4.size, by rw [hk]; exact d4.blk.lt⟩
  have HT0 : Sec (Tw wa k (k + 1) R O L 0 [] [] (w4.alloc (.cells #[.string (bs R), .string (bs O), .string (bs L), .slice none 0 0, .slice none 0 0] 69))) := sec (Tw.new (by rw [hk]; exact Blk.new _ _ _) (G4.alloc _) (by omega) HCELL.out.1)
  have HD0 := sec (d4.gr ((Gr.refl w4).alloc (.cells #[.string (bs R), .string (bs O), .string (bs L), .slice none 0 0, .slice none 0 0] 69)))
  rw [← hk]
  obtain ⟨wb, hwb⟩ : ∃ y, y = w4.alloc (.cells #[.string (bs R), .string (bs O), .string (bs L), .slice none 0 0, .slice none 0 0] 69) := ⟨_, rfl⟩
  rw [← hwb] at HT0 HD0 ⊢
  clear hk hwb d4 g4 G4
  have HC : Sec (∀ A c N B d M X Y N' M' F G W, Md wa k (k + 1) (TwA R O L A c N B d M) X Y N' M' F G W → W.cell? ⟨k, 3, none⟩ = some (.slice A N c) ∧ W.cell? ⟨k, 4, none⟩ = some (.slice B M d) ∧ W.frozen? ⟨k, 3, none⟩ = false ∧ W.frozen? ⟨k, 4, none⟩ = false) := sec (fun A c N B d M X Y N' M' F G W h => ⟨h.blk.cell 3, h.blk.cell 4, h.blk.frozen 3, h.blk.frozen 4⟩)
  have HDC : Sec (∀ q W, RdAt 80 W g q → W.cell? ⟨g, 0, none⟩ = some (.string (bs q.1)) ∧ W.cell? ⟨g, 1, none⟩ = some (.int .i64 (q.2 : Int))) := sec (fun q W h => ⟨h.blk.cell 0, h.blk.cell 1⟩)
  have hkg : k ≠ g := by have := HCELL.out.2; omega
  have hgk : g ≠ k := by omega
  go_upto_block 0 with (first
    | (go_at_call 43; refine Calls.mono (HN3.out _ HD0.out) ?_; rintro e w5 ⟨rfl, d5, g5⟩; have T5 := sec (HT0.out.only HD0.out.blk (by decide) (by decide) hkg hga g5); have D5 := sec d5; clear d5 g5))
  clear HT1 HT2 HT3 HN3  HT0 HD0
  go_cut [] from 21 to 46 (fun wx => Sec (∃ q F G N, dcL n0 q4 = (F, G, q) ∧ F.length ≤ 1099511627776 ∧ G.length ≤ 1099511627776 ∧ (∀ x ∈ G, x.length ≤ 32) ∧ RdAt 80 wx g q ∧ Tw wa k (k + 1) R O L N F G wx))
  case first =>
    go_wp2_with fail
    go_loopg [7] n0 (fun fuel iv wr => ∃ i : Nat, iv = .int .i64 (i : Int) ∧ n0 ≤ i + fuel ∧ i ≤ n0 ∧ Sec (∃ q F G, DcAt b.length n0 q4 i (n0 - i) q F G ∧ RdAt 80 wr g q ∧ Tw wa k (k + 1) R O L i F G wr))
    case atStart => exact ⟨0, rfl, by omega, by omega, sec ⟨q4, [], [], HST.out, D5.out, T5.out⟩⟩
    case round =>
      clear T5 D5
      obtain ⟨i, rfl, hfu, hnn, HF⟩ := hrel
      obtain ⟨q, F, G, hDc, hD, A1, c1, B1, d1, M0⟩ := HF.out
      have HDc := sec hDc
      have hfit := hDc.fits HB.out
      have hil : i ≤ b.length + 1 := hDc.le
      have HFI := sec hfit
      have HBB := sec (show i ≤ 1099511627776 by have := HB.out; omega)
      obtain ⟨y0, y1⟩ := HDC.out _ _ hD
      have HD := sec hD
      have HM := sec M0
      clear hDc HF hfit hil
      by_cases hn : i < n0
      · have hni : (i : Int) < (n0 : Int) := by omega
        by_cases hq : q.2 = 0
        · have hqi : ((q.2 : Int) == 0) = true := by rw [beq_iff_eq]; omega
          have HNX : Sec (DcAt b.length n0 q4 (i + 1) (n0 - (i + 1)) (aftB 32 (aftN q)) (F ++ [(nxtN q : Int)]) (G ++ [nxtB 32 (aftN q)])) := sec (by have h := HDc.out; rw [show n0 - i = (n0 - (i + 1)) + 1 by omega] at h; exact h.next hq)
          obtain ⟨x, hx⟩ : ∃ x, x = nxtN q := ⟨_, rfl⟩
          have HN1 : Sec (∀ W, RdAt 80 W g q → Calls Tryz.prog 43 #[.pointer (some ⟨g, 0, none⟩)] W fun e w' => e = .returned (.int .i64 (x : Int)) ∧ RdAt 80 w' g (aftN q) ∧ W.grownBy w' (some g)) := sec (by rw [hx]; exact HNu.out q)
          obtain ⟨sv, hsv⟩ : ∃ x, x = nxtB 32 (aftN q) := ⟨_, rfl⟩
          have HB1 : Sec (∀ W, RdAt 80 W g (aftN q) → Calls Tryz.prog 44 #[.pointer (some ⟨g, 0, none⟩), .int .i64 32] W fun e w' => e = .returned (.string (bs sv)) ∧ RdAt 80 w' g (aftB 32 (aftN q)) ∧ W.grownBy w' (some g)) := sec (by rw [hsv]; exact HBy.out (aftN q))
          rw [← hx, ← hsv] at HNX
          have hb8 : (i + 1) * 8 ≤ 140737488355328 := by have := HBB.out; omega
          have hb16 : (i + 1) * 16 ≤ 140737488355328 := by have := HBB.out; omega
          have hbm : i + 1 ≤ maxLen := by have := HBB.out; unfold maxLen; omega
          clear hx hsv hq
          clear hD M0
          go_upto_region 7 with fail
          obtain ⟨x0, x1, x2, x3⟩ := HC.out _ _ _ _ _ _ _ _ _ _ _ _ _ HM.out
          go_cut [] from 33 to 39 (fun wx => Sec (∃ A c, Md wa k (k + 1) (TwA R O L A c (i + 1) B1 d1 i) (.slice A (i + 1) c) (.slice B1 i d1) (i + 1) i (F ++ [(x : Int)]) G wx) ∧ Sec (RdAt 80 wx g (aftN q)))
          case first =>
            go_region_law (first
              | (go_simp; go_at_call 43; (refine Calls.mono (HN1.out _ (RdAt.gr HD.out ?gx)) ?_); (case gx => first | exact Gr.refl _ | exact (Gr.refl _).drew); rintro e w1 ⟨rfl, D1, g1⟩; have M1 : Md wa k (k + 1) (TwA R O L A1 c1 i B1 d1 i) (.slice A1 i c1) (.slice B1 i d1) i i F G w1 := (by first | exact HM.out.rd (Gr.refl _) HD.out (by decide) (by decide) hkg hga g1 | exact HM.out.rd (Gr.refl _).drew HD.out (by decide) (by decide) hkg hga g1); obtain ⟨a0, a1, a2, a3⟩ := HC.out _ _ _ _ _ _ _ _ _ _ _ _ _ M1; obtain ⟨c0, c1', c2', c3⟩ := HC.out _ _ _ _ _ _ _ _ _ _ _ _ _ (M1.al (.cells #[.int .i64 (x : Int)] 3)))
              | (refine step_append_row (B := k + 1) (A0 := A1) (n0 := i) (cap0 := c1) (xs := F.map iV) (A := some ⟨w1.heap.size, 0, none⟩) (n := 1) (c := 1) (vs := [.int .i64 (x : Int)]) E.ints rfl (.tmp 34) (.tmp 37) rfl ?hd ?ho ?hx (row1 (T := 3) ?hr) (fun h => by cases h) (fun u hu => by simp at hu; subst hu; rfl) hb8 hbm ?hB ?_; (case hd => first | (simp [Act.eval]; done) | (simp [Act.eval, Act.put]; done)); (case hx => first | (simp [Act.eval]; done) | (simp [Act.eval, Act.put]; done)); (case ho => refine Md.own1 (w0 := wa) (q := k) (K := k + 1) (cs := TwA R O L A1 c1 i B1 d1 i) (X := .slice A1 i c1) (Y := .slice B1 i d1) (N := i) (M := i) (F := F) (G := G) ?_; (repeat (first | with_reducible exact M1 | with_reducible refine Md.drew ?_ | with_reducible refine Md.al ?_ _)); done); (case hr => (repeat (first | (with_reducible refine BlkAt ?_; simp; done) | with_reducible refine Blk.drew ?_ | with_reducible refine Blk.alloc ?_ _)); done); (case hB => refine Md.size (w0 := wa) (q := k) (K := k + 1) (cs := TwA R O L A1 c1 i B1 d1 i) (X := .slice A1 i c1) (Y := .slice B1 i d1) (N := i) (M := i) (F := F) (G := G) ?_ (Nat.le_refl _); (repeat (first | with_reducible exact M1 | with_reducible refine Md.drew ?_ | with_reducible refine Md.al ?_ _)); done); intro Aa ka wA oA hA; rw [iV_add] at oA; have MA : Md wa k (k + 1) (TwA R O L A1 c1 i B1 d1 i) (.slice Aa (i + 1) ka) (.slice B1 i d1) (i + 1) i (F ++ [(x : Int)]) G wA := (by refine Md.app1 (w0 := wa) (q := k) (K := k + 1) (cs := TwA R O L A1 c1 i B1 d1 i) (X := .slice A1 i c1) (Y := .slice B1 i d1) (N := i) (M := i) (F := F) (G := G) ?_ oA hA; repeat (first | with_reducible exact M1 | with_reducible refine Md.drew ?_ | with_reducible refine Md.al ?_ _)); have DA : RdAt 80 wA g (aftN q) := (by refine Md.rdApp1 (w0 := wa) (q := k) (K := k + 1) (cs := TwA R O L A1 c1 i B1 d1 i) (X := .slice A1 i c1) (Y := .slice B1 i d1) (N := i) (M := i) (F := F) (G := G) ?hm (RdAt.gr D1 ?hg) (by decide) hA; (case hm => (repeat (first | with_reducible exact M1 | with_reducible refine Md.drew ?_ | with_reducible refine Md.al ?_ _)); done); (case hg => (first | exact (Gr.refl _).alloc _ | exact ((Gr.refl _).alloc _).drew | exact ((Gr.refl _).drew.alloc _)))); obtain ⟨b0, b1, b2, b3⟩ := HC.out _ _ _ _ _ _ _ _ _ _ _ _ _ MA))
            all_goals
              go_wp2_with fail
              go_meet
              exact ⟨sec ⟨Aa, ka, MA.st 3 _⟩, sec (DA.far hgk _)⟩
          case rest =>
            obtain ⟨HM2', HD2⟩ := hcut
            obtain ⟨A2, c2, hM2⟩ := HM2'.out
            have HM2 := sec hM2
            clear HM2' hM2 HM HD y0 y1 x0 x1 x2 x3
            obtain ⟨x0, x1, x2, x3⟩ := HC.out _ _ _ _ _ _ _ _ _ _ _ _ _ HM2.out
            go_upto_region 8 with fail
            go_region_law (first
              | (go_simp; go_at_call 44; (refine Calls.mono (HB1.out _ (RdAt.gr HD2.out ?gx)) ?_); (case gx => first | exact Gr.refl _ | exact (Gr.refl _).drew); rintro e w1 ⟨rfl, D1, g1⟩; have M1 : Md wa k (k + 1) (TwA R O L A2 c2 (i + 1) B1 d1 i) (.slice A2 (i + 1) c2) (.slice B1 i d1) (i + 1) i (F ++ [(x : Int)]) G w1 := (by first | exact HM2.out.rd (Gr.refl _) HD2.out (by decide) (by decide) hkg hga g1 | exact HM2.out.rd (Gr.refl _).drew HD2.out (by decide) (by decide) hkg hga g1); obtain ⟨a0, a1, a2, a3⟩ := HC.out _ _ _ _ _ _ _ _ _ _ _ _ _ M1; obtain ⟨c0, c1', c2', c3⟩ := HC.out _ _ _ _ _ _ _ _ _ _ _ _ _ (M1.al (.cells #[.string (bs sv)] 9)))
              | (refine step_append_row (B := k + 1) (A0 := B1) (n0 := i) (cap0 := d1) (xs := G.map strV) (A := some ⟨w1.heap.size, 0, none⟩) (n := 1) (c := 1) (vs := [.string (bs sv)]) E.str rfl (.tmp 41) (.tmp 44) rfl ?hd ?ho ?hx (row1 (T := 9) ?hr) (fun h => by cases h) (fun u hu => by simp at hu; subst hu; rfl) hb16 hbm ?hB ?_; (case hd => first | (simp [Act.eval]; done) | (simp [Act.eval, Act.put]; done)); (case hx => first | (simp [Act.eval]; done) | (simp [Act.eval, Act.put]; done)); (case ho => refine Md.own2 (w0 := wa) (q := k) (K := k + 1) (cs := TwA R O L A2 c2 (i + 1) B1 d1 i) (X := .slice A2 (i + 1) c2) (Y := .slice B1 i d1) (N := i + 1) (M := i) (F := F ++ [(x : Int)]) (G := G) ?_; (repeat (first | with_reducible exact M1 | with_reducible refine Md.drew ?_ | with_reducible refine Md.al ?_ _)); done); (case hr => (repeat (first | (with_reducible refine BlkAt ?_; simp; done) | with_reducible refine Blk.drew ?_ | with_reducible refine Blk.alloc ?_ _)); done); (case hB => refine Md.size (w0 := wa) (q := k) (K := k + 1) (cs := TwA R O L A2 c2 (i + 1) B1 d1 i) (X := .slice A2 (i + 1) c2) (Y := .slice B1 i d1) (N := i + 1) (M := i) (F := F ++ [(x : Int)]) (G := G) ?_ (Nat.le_refl _); (repeat (first | with_reducible exact M1 | with_reducible refine Md.drew ?_ | with_reducible refine Md.al ?_ _)); done); intro Bb kb wA oA hA; rw [sV_add] at oA; have MA : Md wa k (k + 1) (TwA R O L A2 c2 (i + 1) B1 d1 i) (.slice A2 (i + 1) c2) (.slice Bb (i + 1) kb) (i + 1) (i + 1) (F ++ [(x : Int)]) (G ++ [sv]) wA := (by refine Md.app2 (w0 := wa) (q := k) (K := k + 1) (cs := TwA R O L A2 c2 (i + 1) B1 d1 i) (X := .slice A2 (i + 1) c2) (Y := .slice B1 i d1) (N := i + 1) (M := i) (F := F ++ [(x : Int)]) (G := G) ?_ oA hA; repeat (first | with_reducible exact M1 | with_reducible refine Md.drew ?_ | with_reducible refine Md.al ?_ _)); have DA : RdAt 80 wA g (aftB 32 (aftN q)) := (by refine Md.rdApp2 (w0 := wa) (q := k) (K := k + 1) (cs := TwA R O L A2 c2 (i + 1) B1 d1 i) (X := .slice A2 (i + 1) c2) (Y := .slice B1 i d1) (N := i + 1) (M := i) (F := F ++ [(x : Int)]) (G := G) ?hm (RdAt.gr D1 ?hg) (by decide) hA; (case hm => (repeat (first | with_reducible exact M1 | with_reducible refine Md.drew ?_ | with_reducible refine Md.al ?_ _)); done); (case hg => (first | exact (Gr.refl _).alloc _ | exact ((Gr.refl _).alloc _).drew | exact ((Gr.refl _).drew.alloc _)))); obtain ⟨b0, b1, b2, b3⟩ := HC.out _ _ _ _ _ _ _ _ _ _ _ _ _ MA))
            all_goals
              go_wp2_with fail
              go_roundg (gk - 1)
              case rel => exact ⟨i + 1, by go_num, by omega, by omega, sec ⟨aftB 32 (aftN q), F ++ [(x : Int)], G ++ [sv], HNX.out, DA.far hgk _, _, _, _, _, MA.st 4 _⟩⟩
              case measure => omega
        · have hqi : ((q.2 : Int) == 0) = false := by rw [beq_eq_false_iff_ne]; omega
          have HQ0 := sec hq
          clear hq
          go_wp2_with fail
          go_meet
          exact sec ⟨q, F, G, i, HDc.out.bad HQ0.out, HFI.out.1, HFI.out.2, HDc.out.each, HD.out, _, _, _, _, HM.out⟩
      · have hn0 : decide (i < n0) = false := decide_eq_false hn
        have HDN : Sec (dcL n0 q4 = (F, G, q)) := sec (by have h := HDc.out; rw [show n0 - i = 0 by omega] at h; exact h.done)
        go_wp2_with fail
        go_meet
        exact sec ⟨q, F, G, i, HDN.out, HFI.out.1, HFI.out.2, HDc.out.each, HD.out, _, _, _, _, HM.out⟩
  case rest =>
    obtain ⟨q, F, G, N, h1, h2, h3, h4, hD, A1, c1, B1, d1, M0⟩ := hcut.out
    have HR := HRES.out q F G h1
    obtain ⟨S0, e1⟩ := M0.str
    have B0 := M0.blk
    rw [e1] at B0
    obtain ⟨y0, y1⟩ := HDC.out _ _ hD
    have GX : Gr wa wc := M0.gr
    by_cases hq : q.2 = 0
    · have hqi : (q.2 : Int) = 0 := by omega
      by_cases hl : q.1.length = 0
      · rw [if_pos ⟨hq, hl⟩] at HR
        have GOx : Sec (Calls Tryz.prog 88 #[.agg (stepA ⟨R, O, L, F, G⟩ A1 c1 B1 d1)] wc fun e w' => e = .returned (.int .i64 (stE ⟨R, O, L, F, G⟩)) ∧ Gr wc w') := sec (HGo.out F G A1 c1 B1 d1 _ h2 h3 h4 S0)
        obtain ⟨E, hE⟩ : ∃ E, E = stE ⟨R, O, L, F, G⟩ := ⟨_, rfl⟩
        rw [← hE] at HR GOx
        have HMM := sec M0
        clear HGo h1 h2 h3 h4 S0 e1 hE M0
        by_cases hE0 : E = 0
        · subst hE0
          rw [if_pos rfl] at HR
          have HR := sec HR
          have hlz : q.1.isEmpty = true := List.isEmpty_iff_length_eq_zero.2 hl
          go_wp2_with (first
            | (go_at_call 88; refine Calls.mono GOx.out ?_; rintro e w8 ⟨rfl, g8⟩; have B8 := B0.gr g8; have G8 := GX.trans g8)
            | (refine wpList_load_blk rfl 69 (.tmp 5) rfl (g := k) rfl B0 aggStep ?_)
            | (refine wpList_load_blk rfl 69 (.tmp 5) rfl (g := k) rfl B8 aggStep ?_)
            | (refine wpList_store_blk rfl 69 (.tmp 2) (.tmp 66) rfl (g := p) (cs' := stepA ⟨R, O, L, F, G⟩ A1 c1 B1 d1) rfl rfl (HZ.out.gr G8) aggStep rfl (stepA_one _ _ _ _ _) ?_; intro w9 h9 hg9))
          refine bodyPost_ret (results_blk_tmp rfl _ rfl h9 aggStep) rfl ?_
          rw [HR.out]
          obtain ⟨s1, s2⟩ := str_own (r := R) (o := O) (n := L) (own_only (HMM.out.gr' g8).own1 (HZ.out.gr G8) (by decide) hg9) (own_only (HMM.out.gr' g8).own2 (HZ.out.gr G8) (by decide) hg9)
          exact ⟨A1, c1, B1, d1, rfl, ownD_of (own_only (HMM.out.gr' g8).own1 (HZ.out.gr G8) (by decide) hg9) (own_only (HMM.out.gr' g8).own2 (HZ.out.gr G8) (by decide) hg9) (by have h1 := HCELL.out.1; have h2 := hg0.size; omega), Gr.only (hg0.trans G8) hg9 hwp⟩
        · rw [if_neg hE0] at HR
          have HR := sec HR
          have m0 : (E != 0) = true := by simpa using hE0
          clear hE0
          have hlz : q.1.isEmpty = true := List.isEmpty_iff_length_eq_zero.2 hl
          go_wp2_with (first
            | (go_at_call 88; refine Calls.mono GOx.out ?_; rintro e w8 ⟨rfl, g8⟩; have B8 := B0.gr g8; have G8 := GX.trans g8)
            | (refine wpList_load_blk rfl 69 (.tmp 5) rfl (g := k) rfl B0 aggStep ?_)
            | (refine wpList_store_blk rfl 69 (.tmp 2) _ rfl (g := p) (cs' := stepA stpZ none 0 none 0) rfl rfl (HZ.out.gr G8) aggStep rfl (stepA_one _ _ _ _ _) ?_; intro w9 h9 hg9))
          refine bodyPost_ret (results_blk_tmp rfl _ rfl h9 aggStep) rfl ?_
          rw [HR.out]
          exact ⟨none, 0, none, 0, rfl, OwnD.zero _ _, Gr.only (hg0.trans G8) hg9 hwp⟩
      · have HR : Sec (V = (stpZ, 2)) := sec (by rw [HR, if_neg (fun h => hl h.2)])
        clear h1 h2 h3 h4 S0 e1 M0 B0
        have hlz : q.1.isEmpty = false := by cases h : q.1 with | nil => exact absurd (by rw [h]; rfl) hl | cons => rfl
        go_wp2_with (first
          | (refine wpList_store_blk rfl 69 (.tmp 2) _ rfl (g := p) (cs' := stepA stpZ none 0 none 0) rfl rfl (HZ.out.gr GX) aggStep rfl (stepA_one _ _ _ _ _) ?_; intro w9 h9 hg9))
        refine bodyPost_ret (results_blk_tmp rfl _ rfl h9 aggStep) rfl ?_
        rw [HR.out]
        exact ⟨none, 0, none, 0, rfl, OwnD.zero _ _, Gr.only (hg0.trans GX) hg9 hwp⟩
    · have HR : Sec (V = (stpZ, 2)) := sec (by rw [HR, if_neg (fun h => hq h.1)])
      clear h1 h2 h3 h4 S0 e1 M0 B0
      have hqi : ¬ (q.2 : Int) = 0 := by omega
      go_wp2_with (first
        | (refine wpList_store_blk rfl 69 (.tmp 2) _ rfl (g := p) (cs' := stepA stpZ none 0 none 0) rfl rfl (HZ.out.gr GX) aggStep rfl (stepA_one _ _ _ _ _) ?_; intro w9 h9 hg9))
      refine bodyPost_ret (results_blk_tmp rfl _ rfl h9 aggStep) rfl ?_
      rw [HR.out]
      exact ⟨none, 0, none, 0, rfl, OwnD.zero _ _, Gr.only (hg0.trans GX) hg9 hwp⟩
theorem rstDec_any (b : List UInt8) (w : World) (hb : b.length ≤ 1099511627775) :
    Calls Tryz.prog 45 #[.string (bs b)] w fun e w' => ∃ A c B d, e = .returned (.tuple #[.agg (stepA (dcR b).1 A c B d), .int .i64 (dcR b).2]) ∧ StR w' (dcR b).1 A c B d ∧ Gr w w' :=
  (rstDecO_any b w hb).mono fun e w' ⟨A, c, B, d, h1, h2, h3⟩ => ⟨A, c, B, d, h1, h2.str, h3⟩
end Go.Proofs.YtoamnifnfkgbiaaGreatDoor

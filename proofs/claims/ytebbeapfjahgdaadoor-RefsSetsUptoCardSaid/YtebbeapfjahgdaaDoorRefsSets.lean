/-
  law.RefsSets: the walk; a list of refs as an argument.
-/
import Derived.Test.YtebbeapfjahgdaaDoorRRefsSet
import Derived.Test.YtebbeapfjahgdaaDoorRefsNames
import Derived.Test.YtebbeapfjahgdaaDoorOpen
namespace Go.Proofs.YtebbeapfjahgdaaDoor
set_option maxRecDepth 100000
open Go.RowKit Go.ChangeShapes Go.WideShapes
set_option linter.unusedVariables false

def szRf (x : Rf) : Nat := x.1.length + x.2.length + 1
theorem opens_rf (w : World) : Opens w 42 2 (fun cs (x : Rf) => cs = refV x) szRf :=
  (opens_struct Tryd.underlying42 (by kernel_rfl) (opensF_cons rfl (opens_string Tryd.underlying9 (by kernel_rfl) w) (opensF_cons rfl (opens_string Tryd.underlying9 (by kernel_rfl) w) (opensF_nil w 2)))).map
    (fun a => (a.1, a.2.1)) (by
      rintro cs ⟨n, r, _⟩ ⟨c1, c2, rfl, _, h1, d1, d2, rfl, _, h2, h3⟩
      simp only [strR] at h1 h2
      simp only [nilR] at h3
      subst h1
      subst h2
      subst h3
      rfl) (by intro a; simp only [szRf]; omega)
structure RefsIn (w : World) (A : Option Addr) (c : Nat) (l : List Rf) : Prop where
  row : RfRow w A l.length l
  len : l.length ≤ 1048576
  size : ∀ x ∈ l, x.1.length ≤ 1048576 ∧ x.2.length ≤ 1048576
  cap : l.length ≤ c
  nil : A = none → l.length = 0 ∧ c = 0
theorem open_refs {w : World} {r : Reach} {base : Nat} {H : Type} {enc : TypeId × Value → H} {v : Value} {d : DataW H} {p : List MemPlace}
    (hv : Value.okWide Tryd.prog w r base 24 v) (hd : DataW.Trod enc Tryd.prog w 0 (fun _ => true) true 24 v d p) (hb : Rows.uptoBulk d ≤ 1048576) :
    ∃ A c l, v = .slice A (List.length l) c ∧ RefsIn w A c l := by
  obtain ⟨A, c, xs, e, hR, hs⟩ := open_slice_arg Tryd.underlying24 (opens_slice Tryd.underlying24 (by kernel_rfl) (opens_rf w) (by omega)) hv hd
  obtain ⟨A', c', e', h1, h2, hrow⟩ := sliceR_row (k := 2) refV (fun _ => rfl) (by omega) (fun ci x h => h) hR
  simp only [List.cons.injEq, and_true, Value.slice.injEq, true_and] at e'
  obtain ⟨rfl, rfl⟩ := e'
  obtain ⟨A2, c2, e2, _, h3, _⟩ := hR
  simp only [List.cons.injEq, and_true, Value.slice.injEq, true_and] at e2
  obtain ⟨rfl, rfl⟩ := e2
  have hl := szs_len szRf (fun x => Nat.succ_le_succ (Nat.zero_le _)) xs
  refine ⟨A, c, xs, e, hrow, by omega, fun x hx => ?_, h1, fun h => ?_⟩
  · have h5 := szs_mem szRf hx
    unfold szRf at h5 hs
    omega
  · have := h3.2 h
    omega
set_option maxHeartbeats 8000000 in
theorem refsSets_walk (A : Option Addr) (c : Nat) (fs : List Rf) (name old id : List UInt8) (W : World) (hI : RefsIn W A c fs) (hnm : name.length ≤ 1048576) (hod : old.length ≤ 1048576) (hid : id.length ≤ 1048576) :
    Calls Tryd.prog 4 #[.slice A fs.length c, .string (bs name), .string (bs old), .string (bs id)] W fun e W' => e = .returned (.bool true) ∧ Gr W W' := by
  have hlen := hI.len
  have hz : ∀ f ∈ fs, f.1.length ≤ 1099511627776 ∧ f.2.length ≤ 1099511627776 := fun f hf => by have := hI.size f hf; omega
  have HX := sec hI.row
  have hnil := hI.nil
  have HSe : Sec (∀ w' A' c', Gr W w' → RfRow w' A' fs.length fs → (A' = none → fs.length = 0 ∧ c' = 0) → Calls Tryd.prog 8 #[.slice A' fs.length c', .string (bs name), .string (bs old), .string (bs id)] w' fun e w'' => SetPost w' (setR fs name old id) e w'') := sec (fun w' A' c' g h h0 => rset_any fs name old id A' fs.length c' w' (by omega) h h0 hz (by omega) (by omega) (by omega))
  have HRs : Sec (∀ w', Gr W w' → Calls Tryd.prog 9 #[.slice A fs.length c, .string (bs name), .string (bs old), .string (bs id)] w' fun e w'' => SetPost w' (setR fs name old id) e w'') := sec (fun w' g => rrset_any fs name old id A fs.length c w' (by omega) (HX.out.gr g) hz (by omega) (by omega) (by omega))
  have HGo : Sec (∀ w' A' c', RfRow w' A' fs.length fs → Calls Tryd.prog 11 #[.slice A' fs.length c'] w' fun e w'' => e = .returned (.bool (goodR fs)) ∧ Gr w' w'') := sec (fun w' A' c' h => rgoodL_any fs A' fs.length c' w' (by omega) h hz)
  have HRg : Sec (∀ w', Gr W w' → Calls Tryd.prog 12 #[.slice A fs.length c] w' fun e w'' => e = .returned (.bool (goodR fs)) ∧ Gr w' w'') := sec (fun w' g => rrgoodL_any fs A fs.length c w' (by omega) (HX.out.gr g) hz)
  have HSm : Sec (∀ (l : List Rf) w' A1 A2 c1 c2 n, n ≤ 1099511627776 → RfRow w' A1 n l → RfRow w' A2 n l → Calls Tryd.prog 10 #[.slice A1 n c1, .slice A2 n c2] w' fun e w'' => e = .returned (.bool true) ∧ Gr w' w'') := sec (fun l w' A1 A2 c1 c2 n h0 h1 h2 => sameRefs_any l A1 A2 n c1 c2 w' h0 h1 h2)
  have HSt := sec settles_any
  have HGt : Sec (goodR fs = true → ∀ w' A' c', RfRow w' A' fs.length fs → Calls Tryd.prog 13 #[.slice A' fs.length c', .string (bs name)] w' fun e w'' => e = .returned (.string (bs (getR fs name))) ∧ Gr w' w'') := sec (fun hG w' A' c' h => rget_any fs name A' fs.length c' w' (by omega) h (goodR_sorted hG).2.2)
  have HRt : Sec (∀ w', Gr W w' → Calls Tryd.prog 14 #[.slice A fs.length c, .string (bs name)] w' fun e w'' => e = .returned (.string (bs (getR fs name))) ∧ Gr w' w'') := sec (fun w' g => rrget_any fs name A fs.length c w' (by omega) (HX.out.gr g))
  have HVL : Sec ((setR fs name old id).1.length ≤ 1099511627776) := sec (by
    have h2 : (fs.take (lbR name fs)).length ≤ fs.length := by rw [List.length_take]; omega
    have h3 : (fs.drop (lbR name fs)).length ≤ fs.length := by rw [List.length_drop]; omega
    unfold setR
    split
    · split
      · split
        · split
          · split
            · simp only [List.length_eraseIdx]; split <;> omega
            · simp only [List.length_set]; omega
          · split
            · simp only; omega
            · split
              · simp
              · simp only [insR, List.length_append, List.length_cons]; omega
        · simp
      · simp
    · simp)
  obtain ⟨V, hV⟩ : ∃ V, V = setR fs name old id := ⟨_, rfl⟩
  obtain ⟨G, hG⟩ : ∃ G, G = goodR fs := ⟨_, rfl⟩
  obtain ⟨gt, hgt⟩ : ∃ g, g = getR fs name := ⟨_, rfl⟩
  rw [← hV] at HSe HRs HVL
  rw [← hG] at HGo HRg HGt
  rw [← hgt] at HGt HRt
  obtain ⟨n, hn⟩ : ∃ n, n = fs.length := ⟨_, rfl⟩
  rw [← hn] at HSe HRs HGo HRg HGt HRt HX hnil hlen
  rw [← hn]
  have hb1 : (0 + n) * 32 ≤ 140737488355328 := by omega
  have hb2 : 0 + n ≤ maxLen := by unfold maxLen; omega
  clear hV hG hgt hI hz
  clear hn
  go_enter Tryd.func4, Tryd.ntmps4
  go_upto_region 2 with (refine wpList_append_row E.ref rfl (.const (.slice none 0 0)) (.tmp 14) rfl (B := W.heap.size) (A0 := none) (n0 := 0) (cap0 := 0) (xs := []) rfl (World.ownsRow_nil _ _ _ _) rfl HX.out hnil refV_one hb1 hb2 (Nat.le_refl _) ?_; intro A1 c1 w1 o1 hgn)
  all_goals
    rw [Nat.zero_add, List.nil_append] at o1
    have g1 : Gr W w1 := Gr.grown (Gr.refl _) hgn (fun k hk => by simp [Value.ownBlock] at hk)
    have HM : Sec (∀ w', Gr w1 w' → RfRow w' A1 n fs) := sec (fun w' g => (row_of_own o1).gr g)
    have hm0 := own_nil2 o1
    try simp only [Nat.zero_add]
    clear hgn o1 hb1 hb2
    cases G
    · go_wp2_with (first
        | (go_at_call 8; (with_reducible refine Calls.mono (HSe.out w1 A1 c1 g1 (HM.out w1 (Gr.refl _)) hm0) ?_); rintro e w2 ⟨⟨A2, c2, n2, hn2, rfl, r2, -, g2⟩⟩; have G2 := Gr.trans g1 g2; have HN2 := sec hn2; clear hn2)
        | (go_at_call 9; (with_reducible refine Calls.mono (HRs.out w2 G2) ?_); rintro e w3 ⟨⟨A3, c3, n3, hn3, rfl, r3, -, g3⟩⟩; obtain rfl : n2 = n3 := HN2.out.trans hn3.symm; clear hn3; have G3 := Gr.trans G2 g3; have M3 := HM.out _ (g2.trans g3))
        | (go_at_call 10; (with_reducible refine Calls.mono (HSm.out V.1 w3 A2 A3 c2 c3 n2 (by rw [HN2.out]; exact HVL.out) (r2.gr g3) r3) ?_); rintro e w4 ⟨rfl, g4⟩; have G4 := Gr.trans G3 g4)
        | (go_at_call 10; (with_reducible refine Calls.mono (HSm.out fs w4 A A1 c c1 n (by omega) (HX.out.gr G4) (M3.gr g4)) ?_); rintro e w5 ⟨rfl, g5⟩; have G5 := Gr.trans G4 g5)
        | (go_at_call 11; (with_reducible refine Calls.mono (HGo.out _ _ _ ((M3.gr g4).gr g5)) ?_); rintro e w6 ⟨rfl, g6⟩; have G6 := Gr.trans G5 g6)
        | (go_at_call 12; (with_reducible refine Calls.mono (HRg.out w6 G6) ?_); rintro e w7 ⟨rfl, g7⟩; have G7 := Gr.trans G6 g7)
        | (go_at_call 12; (with_reducible refine Calls.mono (HRg.out w7 G7) ?_); rintro e w8 ⟨rfl, g8⟩; have G8 := Gr.trans G7 g8)
        | (go_at_call 7; refine Calls.mono (HSt.out _) ?_; rintro e w9 ⟨rfl, g9⟩))
      go_ret
      exact ⟨rfl, G8.trans g9⟩
    · go_wp2_with (first
        | (go_at_call 8; (with_reducible refine Calls.mono (HSe.out w1 A1 c1 g1 (HM.out w1 (Gr.refl _)) hm0) ?_); rintro e w2 ⟨⟨A2, c2, n2, hn2, rfl, r2, -, g2⟩⟩; have G2 := Gr.trans g1 g2; have HN2 := sec hn2; clear hn2)
        | (go_at_call 9; (with_reducible refine Calls.mono (HRs.out w2 G2) ?_); rintro e w3 ⟨⟨A3, c3, n3, hn3, rfl, r3, -, g3⟩⟩; obtain rfl : n2 = n3 := HN2.out.trans hn3.symm; clear hn3; have G3 := Gr.trans G2 g3; have M3 := HM.out _ (g2.trans g3))
        | (go_at_call 10; (with_reducible refine Calls.mono (HSm.out V.1 w3 A2 A3 c2 c3 n2 (by rw [HN2.out]; exact HVL.out) (r2.gr g3) r3) ?_); rintro e w4 ⟨rfl, g4⟩; have G4 := Gr.trans G3 g4)
        | (go_at_call 10; (with_reducible refine Calls.mono (HSm.out fs w4 A A1 c c1 n (by omega) (HX.out.gr G4) (M3.gr g4)) ?_); rintro e w5 ⟨rfl, g5⟩; have G5 := Gr.trans G4 g5)
        | (go_at_call 11; (with_reducible refine Calls.mono (HGo.out _ _ _ ((M3.gr g4).gr g5)) ?_); rintro e w6 ⟨rfl, g6⟩; have G6 := Gr.trans G5 g6)
        | (go_at_call 12; (with_reducible refine Calls.mono (HRg.out w6 G6) ?_); rintro e w7 ⟨rfl, g7⟩; have G7 := Gr.trans G6 g7)
        | (go_at_call 12; (with_reducible refine Calls.mono (HRg.out w7 G7) ?_); rintro e w8 ⟨rfl, g8⟩; have G8 := Gr.trans G7 g8)
        | (go_at_call 13; (with_reducible refine Calls.mono (HGt.out trivial _ _ _ (((((M3.gr g4).gr g5).gr g6).gr g7).gr g8)) ?_); rintro e w9 ⟨rfl, g9⟩; have G9 := Gr.trans G8 g9)
        | (go_at_call 14; (with_reducible refine Calls.mono (HRt.out _ G9) ?_); rintro e wA ⟨rfl, gA⟩; have GA := Gr.trans G9 gA)
        | (go_at_call 7; refine Calls.mono (HSt.out _) ?_; rintro e wB ⟨rfl, gB⟩))
      go_ret
      exact ⟨rfl, GA.trans gB⟩
end Go.Proofs.YtebbeapfjahgdaaDoor

/-
  refs.Set by its contract.
-/
import Derived.Test.YtebbeapfjahgdaaDoorRefsGood
import Derived.Test.YtebbeapfjahgdaaDoorRefsIns
import Derived.Test.YtebbeapfjahgdaaDoorDiskCrash
namespace Go.Proofs.YtebbeapfjahgdaaDoor
set_option maxRecDepth 100000
open Go.RowKit
set_option linter.unusedVariables false
theorem rflat_set (fs : List Rf) : ∀ (i : Nat) (h : i < fs.length) (j : Nat) (u : Value) (f' : Rf), j < 2 → refV f' = (refV fs[i]).set j u → (fs.flatMap refV).set (i * 2 + j) u = (fs.set i f').flatMap refV := by
  induction fs with
  | nil => intro i h; simp at h
  | cons f r ih =>
    intro i h j u f' hj he
    cases i with
    | zero =>
      simp only [List.getElem_cons_zero] at he
      rw [List.flatMap_cons, List.set_append_left _ _ (by simp [refV]; omega), Nat.zero_mul, Nat.zero_add, ← he]
      rfl
    | succ i =>
      simp only [List.getElem_cons_succ] at he
      have := ih i (by simpa using h) j u f' hj he
      rw [List.flatMap_cons, List.set_append_right _ _ (by simp [refV]; omega), List.set_cons_succ, List.flatMap_cons, ← this]
      congr 2
      simp [refV]; omega
theorem rown_set {w : World} {B e n cap g : Nat} {fs : List Rf} (h : w.ownsRow B e 2 (.slice (some ⟨g, 0, none⟩) n cap) n (fs.flatMap refV)) (i : Nat) (hi : i < fs.length) (name id : List UInt8) (hn : fs[i].1 = name) :
    (w.setCell ⟨g, i * 2 + 1, none⟩ (.string (bs id))).ownsRow B e 2 (.slice (some ⟨g, 0, none⟩) n cap) n ((fs.set i (name, id)).flatMap refV) := by
  have hfl : (fs.flatMap refV).length = fs.length * 2 := flat_len refV 2 (fun _ => rfl) fs
  have o1 := own_set h (i * 2 + 1) (by rw [hfl]; omega) (.string (bs id))
  rw [rflat_set fs i hi 1 (.string (bs id)) (name, id) (by omega) (by rw [← hn]; rfl)] at o1
  exact o1
theorem row_of_own {w : World} {B n cap : Nat} {A : Option Addr} {fs : List Rf} (h : w.ownsRow B 42 2 (.slice A n cap) n (fs.flatMap refV)) : RfRow w A n fs := Row.own h
theorem own_nil2 {w : World} {k e n cap : Nat} {A : Option Addr} {xs : List Value} (h : w.ownsRow k e 2 (.slice A n cap) n xs) : A = none → n = 0 ∧ cap = 0 := by
  intro e
  rcases h.2 with ⟨h, h0⟩ | ⟨g, _, _, h, _⟩
  · injection h with _ h2 h3
    exact ⟨h0, h3⟩
  · injection h with h2 _ _
    rw [e] at h2; cases h2
/-- what a call of Set gives -/
structure SetPost (w : World) (V : List Rf × Int) (e : Ending) (w' : World) : Prop where
  ex : ∃ A c n, n = V.1.length ∧ e = .returned (.tuple #[.slice A n c, .int .i64 V.2]) ∧ RfRow w' A n V.1 ∧ (A = none → n = 0 ∧ c = 0) ∧ Gr w w'
theorem SetPost.bad {w w' : World} {V : List Rf × Int} {k : Int} (h : V = ([], k)) (g : Gr w w') : SetPost w V (.returned (.tuple #[.slice none 0 0, .int .i64 k])) w' := by
  subst h
  exact ⟨none, 0, 0, rfl, rfl, Row.nil _ _ _, fun _ => ⟨rfl, rfl⟩, g⟩
theorem SetPost.own {w w' : World} {V : List Rf × Int} {fs : List Rf} {A : Option Addr} {n c : Nat} (h : V = (fs, 0)) (o : w'.ownsRow w.heap.size 42 2 (.slice A n c) n (fs.flatMap refV)) (g : Gr w w') : SetPost w V (.returned (.tuple #[.slice A n c, .int .i64 0])) w' := by
  subst h
  exact ⟨A, c, n, (RfRow.len (row_of_own o)).symm, rfl, row_of_own o, own_nil2 o, g⟩
set_option maxHeartbeats 8000000 in
theorem rset_any (fs : List Rf) (name old id : List UInt8) (A : Option Addr) (n cap : Nat) (w : World) (hn : n ≤ 1099511627776) (hx : RfRow w A n fs) (hA : A = none → n = 0 ∧ cap = 0)
    (hs : ∀ f ∈ fs, f.1.length ≤ 1099511627776 ∧ f.2.length ≤ 1099511627776) (hnm : name.length ≤ 1099511627776) (hod : old.length ≤ 1099511627776) (hid : id.length ≤ 1099511627776) :
    Calls Tryd.prog 8 #[.slice A n cap, .string (bs name), .string (bs old), .string (bs id)] w fun e w' => SetPost w (setR fs name old id) e w' := by
  have HGo := sec (rgoodL_any fs A n cap w hn hx hs)
  have HNa := sec (fun w => refNamed_any name w hnm)
  have HX := sec hx
  have HA := sec hA
  have hl := hx.len
  obtain ⟨V, hV⟩ : ∃ V, V = setR fs name old id := ⟨_, rfl⟩
  rw [← hV]
  have HV : Sec (V = setR fs name old id) := sec hV
  clear hV hx hA hs
  cases hG : goodR fs with
  | false =>
    have HV3 : Sec (V = ([], 3)) := sec (by rw [HV.out]; unfold setR; rw [hG]; rfl)
    rw [hG] at HGo
    clear hG
    go_enter Tryd.func8, Tryd.ntmps8
    go_wp2_with (go_at_call 11; refine Calls.mono HGo.out ?_; rintro e w1 ⟨rfl, g1⟩)
    go_ret2
    exact SetPost.bad HV3.out g1
  | true =>
    obtain ⟨h32, hsz, hso⟩ := goodR_sorted hG
    have HSO : Sec (SortedR fs) := sec hso
    have HV1 : Sec (V = if refB name = true ∧ mayB old = true ∧ mayB id = true then
      (if getR fs name = old then
        (if hasR name fs = true then (if id = [] then (fs.eraseIdx (lbR name fs), 0) else (fs.set (lbR name fs) (name, id), 0))
        else if id = [] then (fs, 0) else if 32 ≤ fs.length then ([], 6) else (insR (lbR name fs) (name, id) fs, 0))
      else ([], 9)) else ([], 2)) := sec (by rw [HV.out]; unfold setR; rw [hG]; rfl)
    rw [hG] at HGo
    clear hG hso hsz
    obtain ⟨ok, hok⟩ : ∃ ok : Bool, ok = (refB name && (mayB old && mayB id)) := ⟨_, rfl⟩
    have HOK := sec hok
    clear hok
    go_enter Tryd.func8, Tryd.ntmps8
    go_upto_region 3 with (go_at_call 11; refine Calls.mono HGo.out ?_; rintro e w1 ⟨rfl, g1⟩)
    go_cut [17] from 18 to 40 (fun v wc => v = .bool (!ok) ∧ Gr w wc)
    case first =>
      obtain ⟨rb, hrb⟩ : ∃ b, b = refB name := ⟨_, rfl⟩
      rw [← hrb] at HNa
      have hok : ok = (rb && (mayB old && mayB id)) := by rw [HOK.out, hrb]
      clear hrb
      cases rb
      · have HX : Sec (ok = false) := sec (by rw [hok]; rfl)
        clear hok
        go_wp2_with (go_at_call 5; refine Calls.mono (HNa.out _) ?_; rintro e w2 ⟨rfl, g2⟩)
        go_meet
        exact ⟨by rw [HX.out]; rfl, g1.trans g2⟩
      · rcases may_cases old with ⟨a1, a2⟩ | ⟨a1, a2, a3⟩ | ⟨a1, a2, a3⟩
        · rw [a2] at hok
          clear a2
          rcases may_cases id with ⟨b1, b2⟩ | ⟨b1, b2, b3⟩ | ⟨b1, b2, b3⟩
          · rw [b2] at hok
            clear b2
            have HX : Sec (ok = true) := sec (by rw [hok]; rfl)
            clear hok
            go_wp2_with (go_at_call 5; refine Calls.mono (HNa.out _) ?_; rintro e w2 ⟨rfl, g2⟩)
            go_meet
            exact ⟨by rw [HX.out]; rfl, g1.trans g2⟩
          · rw [b3] at hok
            clear b3
            have HX : Sec (ok = true) := sec (by rw [hok]; rfl)
            clear hok
            go_wp2_with (go_at_call 5; refine Calls.mono (HNa.out _) ?_; rintro e w2 ⟨rfl, g2⟩)
            go_meet
            exact ⟨by rw [HX.out]; rfl, g1.trans g2⟩
          · rw [b3] at hok
            clear b3
            have HX : Sec (ok = false) := sec (by rw [hok]; rfl)
            clear hok
            go_wp2_with (go_at_call 5; refine Calls.mono (HNa.out _) ?_; rintro e w2 ⟨rfl, g2⟩)
            go_meet
            exact ⟨by rw [HX.out]; rfl, g1.trans g2⟩
        · rw [a3] at hok
          clear a3
          rcases may_cases id with ⟨b1, b2⟩ | ⟨b1, b2, b3⟩ | ⟨b1, b2, b3⟩
          · rw [b2] at hok
            clear b2
            have HX : Sec (ok = true) := sec (by rw [hok]; rfl)
            clear hok
            go_wp2_with (go_at_call 5; refine Calls.mono (HNa.out _) ?_; rintro e w2 ⟨rfl, g2⟩)
            go_meet
            exact ⟨by rw [HX.out]; rfl, g1.trans g2⟩
          · rw [b3] at hok
            clear b3
            have HX : Sec (ok = true) := sec (by rw [hok]; rfl)
            clear hok
            go_wp2_with (go_at_call 5; refine Calls.mono (HNa.out _) ?_; rintro e w2 ⟨rfl, g2⟩)
            go_meet
            exact ⟨by rw [HX.out]; rfl, g1.trans g2⟩
          · rw [b3] at hok
            clear b3
            have HX : Sec (ok = false) := sec (by rw [hok]; rfl)
            clear hok
            go_wp2_with (go_at_call 5; refine Calls.mono (HNa.out _) ?_; rintro e w2 ⟨rfl, g2⟩)
            go_meet
            exact ⟨by rw [HX.out]; rfl, g1.trans g2⟩
        · rw [a3] at hok
          clear a3
          have hok : ok = false := by rw [hok]; simp
          have HX : Sec (ok = false) := sec hok
          clear hok
          go_wp2_with (go_at_call 5; refine Calls.mono (HNa.out _) ?_; rintro e w2 ⟨rfl, g2⟩)
          go_meet
          exact ⟨by rw [HX.out]; rfl, g1.trans g2⟩
    case rest =>
      clear g1
      obtain ⟨rfl, g2⟩ := hcut
      cases ok with
      | false =>
        have HV2 : Sec (V = ([], 2)) := sec (by
          rw [HV1.out, if_neg]
          rintro ⟨h1, h2, h3⟩
          have := HOK.out
          rw [h1, h2, h3] at this
          cases this)
        go_wp2_with fail
        go_ret2
        exact SetPost.bad HV2.out g2
      | true =>
        have HV2 : Sec (V = if getR fs name = old then
          (if hasR name fs = true then (if id = [] then (fs.eraseIdx (lbR name fs), 0) else (fs.set (lbR name fs) (name, id), 0))
          else if id = [] then (fs, 0) else if 32 ≤ fs.length then ([], 6) else (insR (lbR name fs) (name, id) fs, 0))
        else ([], 9)) := sec (by
          have := HOK.out.symm
          simp only [Bool.and_eq_true] at this
          rw [HV1.out, if_pos this])
        have HGt : Sec (∀ w', Gr w w' → Calls Tryd.prog 13 #[.slice A n cap, .string (bs name)] w' fun e w'' => e = .returned (.string (bs (getR fs name))) ∧ Gr w' w'') := sec (fun w' g => rget_any fs name A n cap w' hn (HX.out.gr g) HSO.out)
        have HFi : Sec (∀ w', Gr w w' → Calls Tryd.prog 18 #[.slice A n cap, .string (bs name)] w' fun e w'' => e = .returned (.tuple #[.int .i64 (lbR name fs : Int), .bool (hasR name fs)]) ∧ Gr w' w'') := sec (fun w' g => rfind_any fs name A n cap w' hn (HX.out.gr g) HSO.out)
        have HCl : Sec (∀ w', Gr w w' → Calls Tryd.prog 19 #[.slice A n cap] w' fun e w'' => ∃ A' cap', e = .returned (.slice A' n cap') ∧ w''.ownsRow w'.heap.size 42 2 (.slice A' n cap') n (fs.flatMap refV) ∧ Gr w' w'') := sec (fun w' g => rclone_any fs A n cap w' hn (HX.out.gr g) HA.out)
        have HLB : Sec (lbR name fs ≤ fs.length) := sec (by unfold lbR; exact (List.takeWhile_sublist _).length_le)
        have HAS : Sec (hasR name fs = true → ∃ hi : lbR name fs < fs.length, fs[lbR name fs].1 = name) := sec (fun h => by obtain ⟨h1, h2, _⟩ := getR_has HSO.out h; exact ⟨h1, h2⟩)
        obtain ⟨gt, hgt⟩ : ∃ g, g = getR fs name := ⟨_, rfl⟩
        obtain ⟨k, hk⟩ : ∃ k, k = lbR name fs := ⟨_, rfl⟩
        obtain ⟨hh, hhh⟩ : ∃ b, b = hasR name fs := ⟨_, rfl⟩
        rw [← hgt, ← hk, ← hhh] at HV2
        rw [← hgt] at HGt
        rw [← hk, ← hhh] at HFi HAS
        rw [← hk] at HLB
        have hkl := HLB.out
        clear hgt hk hhh HV HV1 HOK
        by_cases hgo : gt = old
        · have q0 : (gt == old) = true := by rw [beq_iff_eq]; exact hgo
          have HV3 : Sec (V = if hh = true then (if id = [] then (fs.eraseIdx k, 0) else (fs.set k (name, id), 0))
            else if id = [] then (fs, 0) else if 32 ≤ fs.length then ([], 6) else (insR k (name, id) fs, 0)) := sec (by rw [HV2.out, if_pos hgo])
          clear hgo HV2
          go_upto_region 9 with (first
            | (go_at_call 13; (with_reducible refine Calls.mono (HGt.out _ g2) ?_); rintro e w3 ⟨rfl, g3'⟩; have g3 := Gr.trans g2 g3')
            | (go_at_call 18; (with_reducible refine Calls.mono (HFi.out _ g3) ?_); rintro e w4 ⟨rfl, g4'⟩; have g4 := Gr.trans g3 g4')
            | (go_at_call 19; (with_reducible refine Calls.mono (HCl.out _ g4) ?_); rintro e w5 ⟨A5, c5, rfl, o5, g5'⟩; have g5 := Gr.trans g4 g5'))
          have O5 := sec (own_low o5 g4.size)
          clear o5 g3' g4' g5' g3 q0
          by_cases hi0 : id = []
          · have q1 : (id == []) = true := by rw [beq_iff_eq]; exact hi0
            cases hh with
            | true =>
              obtain ⟨hi, h1⟩ := HAS.out rfl
              have HV4 : Sec (V = (fs.eraseIdx k, 0)) := sec (by rw [HV3.out, if_pos rfl, if_pos hi0])
              have hkn : k < n := by omega
              have HDe := sec (rdelete_any A5 n c5 k w.heap.size fs w5 O5.out hkn hn)
              clear hi0 HV3 h1 hi
              go_wp2_with (go_at_call 20; refine Calls.mono HDe.out ?_; rintro e w6 ⟨rfl, o6, g6⟩)
              go_ret2
              exact SetPost.own HV4.out o6 (Gr.grown g5 g6 (fun k hk => (O5.out.lt k hk).1))
            | false =>
              have HV4 : Sec (V = (fs, 0)) := sec (by rw [HV3.out, if_neg (by simp), if_pos hi0])
              clear hi0 HV3
              go_wp2_with fail
              go_ret2
              exact SetPost.own HV4.out O5.out g5
          · have q1 : (id == []) = false := by rw [beq_eq_false_iff_ne]; exact hi0
            cases hh with
            | true =>
              obtain ⟨hi, h1⟩ := HAS.out rfl
              have HV4 : Sec (V = (fs.set k (name, id), 0)) := sec (by rw [HV3.out, if_pos rfl, if_neg hi0])
              have hkn : (k : Int) < (n : Int) := by omega
              have HH1 := sec (And.intro hi h1)
              obtain ⟨g, rfl, hfz⟩ : ∃ g, A5 = some ⟨g, 0, none⟩ ∧ w5.frozen? ⟨g, k * 2 + 1, none⟩ = false := by
                rcases O5.out.2 with ⟨_, h0⟩ | ⟨g, cap', cur, hv, _, hb, _⟩
                · omega
                · injection hv with hv _ _
                  have hb' : Blk w5 g 42 cur := hb
                  exact ⟨g, hv, hb'.frozen _⟩
              have hce : w5.cell? ⟨g, k * 2 + 1, none⟩ = some (.string (bs (fs[k]'hi).2)) := by
                obtain ⟨b, off, e, _, h3⟩ := (row_of_own O5.out).cell hi
                injection e with e; injection e with e1 e2 _
                subst e1 e2
                rw [Nat.zero_add] at h3
                exact h3
              obtain ⟨y, hy⟩ : ∃ y, y = fs[k]'hi := ⟨_, rfl⟩
              rw [← hy] at hce
              clear hi0 HV3 hy
              go_wp2_with fail
              go_ret2
              have o7 := rown_set O5.out k HH1.out.1 name id HH1.out.2
              exact SetPost.own HV4.out o7 (g5.setCell (p := ⟨g, k * 2 + 1, none⟩) (O5.out.lt g rfl).1 _)
            | false =>
              by_cases h32 : 32 ≤ fs.length
              · have q2 : decide ((32 : Int) ≤ (n : Int)) = true := decide_eq_true (by omega)
                have HV4 : Sec (V = ([], 6)) := sec (by rw [HV3.out, if_neg (by simp), if_neg hi0, if_pos h32])
                clear hi0 HV3
                go_wp2_with fail
                go_ret2
                exact SetPost.bad HV4.out g5
              · have q2 : decide ((32 : Int) ≤ (n : Int)) = false := decide_eq_false (by omega)
                have HV4 : Sec (V = (insR k (name, id) fs, 0)) := sec (by rw [HV3.out, if_neg (by simp), if_neg hi0, if_neg h32])
                have hkn : k ≤ n := by omega
                have HIn := sec (rinsert_any A5 n c5 k w5.heap.size 1 w.heap.size fs (name, id) (w5.alloc (.cells #[.string (bs name), .string (bs id)] 42)) (O5.out.alloc _) hkn hn (Blk.new _ _ _) (fun e => by have := (O5.out.lt _ e).2; omega) (by have := g5.size; simp; omega))
                clear hi0 HV3 h32
                go_wp2_with (go_at_call 21; refine Calls.mono HIn.out ?_; rintro e w6 ⟨A6, c6, rfl, o6, g6⟩)
                go_ret2
                exact SetPost.own HV4.out o6 (Gr.grown (g5.alloc _) g6 (fun k hk => (O5.out.lt k hk).1))
        · have q0 : (gt == old) = false := by rw [beq_eq_false_iff_ne]; exact hgo
          have HV3 : Sec (V = ([], 9)) := sec (by rw [HV2.out, if_neg hgo])
          clear hgo
          go_wp2_with (go_at_call 13; (with_reducible refine Calls.mono (HGt.out _ g2) ?_); rintro e w3 ⟨rfl, g3'⟩; have g3 := Gr.trans g2 g3')
          go_ret2
          exact SetPost.bad HV3.out g3
end Go.Proofs.YtebbeapfjahgdaaDoor

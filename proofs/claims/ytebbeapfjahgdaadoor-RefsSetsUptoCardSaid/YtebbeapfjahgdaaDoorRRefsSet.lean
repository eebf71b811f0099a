/-
  cartularyref.SetRef by its contract.
-/
import Derived.Test.YtebbeapfjahgdaaDoorRefsRef
namespace Go.Proofs.YtebbeapfjahgdaaDoor
set_option maxRecDepth 100000
open Go.RowKit
set_option linter.unusedVariables false
theorem own_app {w : World} {B n c : Nat} {A : Option Addr} {L : List Rf} {nm id : List UInt8} (h : w.ownsRow B 42 2 (.slice A (n + 1) c) (n + 1) (L.flatMap refV ++ #[.string (bs nm), .string (bs id)].toList)) :
    w.ownsRow B 42 2 (.slice A (n + 1) c) (n + 1) ((L ++ [(nm, id)]).flatMap refV) := by
  rw [List.flatMap_append, List.flatMap_singleton]
  exact h
theorem two_one {nm id : List UInt8} : ∀ u ∈ (#[.string (bs nm), .string (bs id)] : Array Value).toList, u.oneCell' = true := by
  intro u hu
  simp at hu
  rcases hu with rfl | rfl <;> rfl
theorem row_two {w : World} {g : Nat} {nm id : List UInt8} (h : Blk w g 42 #[.string (bs nm), .string (bs id)]) : Row w 2 (some ⟨g, 0, none⟩) 1 (#[.string (bs nm), .string (bs id)] : Array Value).toList := Row.lit h
set_option maxHeartbeats 8000000 in
theorem rrset_any (fs : List Rf) (name old id : List UInt8) (A : Option Addr) (n cap : Nat) (w : World) (hn : n ≤ 1099511627776) (hx : RfRow w A n fs)
    (hs : ∀ f ∈ fs, f.1.length ≤ 1099511627776 ∧ f.2.length ≤ 1099511627776) (hnm : name.length ≤ 1099511627776) (hod : old.length ≤ 1099511627776) (hid : id.length ≤ 1099511627776) :
    Calls Tryd.prog 9 #[.slice A n cap, .string (bs name), .string (bs old), .string (bs id)] w fun e w' => SetPost w (setR fs name old id) e w' := by
  have HGo := sec (rrgoodL_any fs A n cap w hn hx hs)
  have HNa := sec (fun w => refName_any name w hnm)
  have HMo := sec (fun w => maybe_any old w)
  have HMi := sec (fun w => maybe_any id w)
  have HX := sec hx
  have hl := hx.len
  obtain ⟨V, hV⟩ : ∃ V, V = setR fs name old id := ⟨_, rfl⟩
  rw [← hV]
  have HV : Sec (V = setR fs name old id) := sec hV
  clear hV hx hs
  cases hG : goodR fs with
  | false =>
    have HV3 : Sec (V = ([], 3)) := sec (by rw [HV.out]; unfold setR; rw [hG]; rfl)
    rw [hG] at HGo
    clear hG
    go_enter Tryd.func9, Tryd.ntmps9
    go_wp2_with (go_at_call 12; refine Calls.mono HGo.out ?_; rintro e w1 ⟨rfl, g1⟩)
    go_ret2
    exact SetPost.bad HV3.out g1
  | true =>
    have HV1 : Sec (V = if (refB name && (mayB old && mayB id)) = true then (if getR fs name = old then (if old = [] ∧ id ≠ [] ∧ fs.length = 32 then ([], 6) else (refSet name id fs, 0)) else ([], 9)) else ([], 2)) := sec (by rw [HV.out, setR_ref hG])
    have h32 := (goodR_sorted hG).1
    rw [hG] at HGo
    clear hG HV
    obtain ⟨rb, hrb⟩ : ∃ b, b = refB name := ⟨_, rfl⟩
    obtain ⟨mo, hmo⟩ : ∃ b, b = mayB old := ⟨_, rfl⟩
    obtain ⟨mi, hmi⟩ : ∃ b, b = mayB id := ⟨_, rfl⟩
    obtain ⟨gt, hgt⟩ : ∃ g, g = getR fs name := ⟨_, rfl⟩
    rw [← hrb, ← hmo, ← hmi, ← hgt] at HV1
    rw [← hrb] at HNa
    rw [← hmo] at HMo
    rw [← hmi] at HMi
    have HGt : Sec (∀ w', Gr w w' → Calls Tryd.prog 14 #[.slice A n cap, .string (bs name)] w' fun e w'' => e = .returned (.string (bs gt)) ∧ Gr w' w'') := sec (fun w' g => by rw [hgt]; exact rrget_any fs name A n cap w' hn (HX.out.gr g))
    clear hrb hmo hmi hgt
    go_enter Tryd.func9, Tryd.ntmps9
    go_upto_region 3 with (go_at_call 12; refine Calls.mono HGo.out ?_; rintro e w1 ⟨rfl, g1⟩)
    go_cut [30] from 18 to 30 (fun v wc => v = .bool (!(rb && (mo && mi))) ∧ Gr w wc)
    case first =>
      cases rb
      · go_wp2_with (go_at_call 6; refine Calls.mono (HNa.out _) ?_; rintro e w2 ⟨rfl, g2⟩)
        go_meet
        exact ⟨rfl, g1.trans g2⟩
      · cases mo
        · go_wp2_with (first
            | (go_at_call 6; refine Calls.mono (HNa.out _) ?_; rintro e w2 ⟨rfl, g2⟩)
            | (go_at_call 22; refine Calls.mono (HMo.out _) ?_; rintro e w3 ⟨rfl, rfl⟩))
          go_meet
          exact ⟨rfl, g1.trans g2⟩
        · go_wp2_with (first
            | (go_at_call 6; refine Calls.mono (HNa.out _) ?_; rintro e w2 ⟨rfl, g2⟩)
            | (go_at_call 22; (with_reducible refine Calls.mono (HMo.out w2) ?_); rintro e w3 ⟨rfl, rfl⟩)
            | (go_at_call 22; (with_reducible refine Calls.mono (HMi.out w2) ?_); rintro e w4 ⟨rfl, rfl⟩))
          go_meet
          exact ⟨by cases mi <;> rfl, g1.trans g2⟩
    case rest =>
      clear g1
      obtain ⟨rfl, g2⟩ := hcut
      cases hok : rb && (mo && mi) with
      | false =>
        have HV2 : Sec (V = ([], 2)) := sec (by rw [HV1.out, hok]; rfl)
        clear hok
        go_wp2_with fail
        go_ret2
        exact SetPost.bad HV2.out g2
      | true =>
        have HV2 : Sec (V = if gt = old then (if old = [] ∧ id ≠ [] ∧ fs.length = 32 then ([], 6) else (refSet name id fs, 0)) else ([], 9)) := sec (by rw [HV1.out, if_pos hok])
        clear hok HV1
        by_cases hgo : gt = old
        · have q0 : (gt == old) = true := by rw [beq_iff_eq]; exact hgo
          have HV3 : Sec (V = if old = [] ∧ id ≠ [] ∧ fs.length = 32 then ([], 6) else (refSet name id fs, 0)) := sec (by rw [HV2.out, if_pos hgo])
          clear hgo HV2
          go_upto_region 7 with (go_at_call 14; (with_reducible refine Calls.mono (HGt.out _ g2) ?_); rintro e w3 ⟨rfl, g3'⟩; have g3 := Gr.trans g2 g3')
          clear q0
          obtain ⟨full, hfull⟩ : ∃ b, b = decide (old = [] ∧ id ≠ [] ∧ fs.length = 32) := ⟨_, rfl⟩
          go_cut [46] from 36 to 46 (fun v wc => v = .bool full ∧ Gr w wc)
          case first =>
            have HFU := sec hfull
            clear hfull
            by_cases ho : old = []
            · have q1 : (old == []) = true := by rw [beq_iff_eq]; exact ho
              by_cases hi0 : id = []
              · have q2 : (id == []) = true := by rw [beq_iff_eq]; exact hi0
                have HF : Sec (full = false) := sec (by rw [HFU.out]; exact decide_eq_false (fun h => h.2.1 hi0))
                clear ho hi0
                go_wp2_with fail
                go_meet
                exact ⟨by rw [HF.out], g3⟩
              · have q2 : (id == []) = false := by rw [beq_eq_false_iff_ne]; exact hi0
                by_cases hf : fs.length = 32
                · have q3 : ((n : Int) == 32) = true := by rw [beq_iff_eq]; omega
                  have HF : Sec (full = true) := sec (by rw [HFU.out]; exact decide_eq_true ⟨ho, hi0, hf⟩)
                  clear ho hi0
                  go_wp2_with fail
                  go_meet
                  exact ⟨by rw [HF.out], g3⟩
                · have q3 : ((n : Int) == 32) = false := by rw [beq_eq_false_iff_ne]; omega
                  have HF : Sec (full = false) := sec (by rw [HFU.out]; exact decide_eq_false (fun h => hf h.2.2))
                  clear ho hi0
                  go_wp2_with fail
                  go_meet
                  exact ⟨by rw [HF.out], g3⟩
            · have q1 : (old == []) = false := by rw [beq_eq_false_iff_ne]; exact ho
              have HF : Sec (full = false) := sec (by rw [HFU.out]; exact decide_eq_false (fun h => ho h.1))
              clear ho
              go_wp2_with fail
              go_meet
              exact ⟨by rw [HF.out], g3⟩
          case rest =>
            clear g2 g3
            obtain ⟨rfl, g4⟩ := hcut
            cases full with
            | true =>
              have HV4 : Sec (V = ([], 6)) := sec (by rw [HV3.out, if_pos (of_decide_eq_true hfull.symm)])
              clear hfull
              go_wp2_with fail
              go_ret2
              exact SetPost.bad HV4.out g4
            | false =>
              have HV4 : Sec (V = (refSet name id fs, 0)) := sec (by rw [HV3.out, if_neg (of_decide_eq_false hfull.symm)])
              clear hfull HV3
              go_upto_region 11 with fail
              have HW0 : Sec (w.heap.size ≤ wc.heap.size) := sec g4.size
              go_loopg [49, 10, 12] n (fun fuel iv ov _ wr => ∃ (i m c0 : Nat) (A0 : Option Addr), iv = .int .i64 (i : Int) ∧ ov = .slice A0 m c0 ∧ n ≤ i + fuel ∧ i ≤ n ∧ m ≤ i ∧ Sec (wr.ownsRow w.heap.size 42 2 (.slice A0 m c0) m ((lowR name (fs.take i)).flatMap refV)) ∧ Gr w wr)
              case atStart => exact ⟨0, 0, 0, none, rfl, rfl, by omega, by omega, by omega, sec (World.ownsRow_nil _ _ _ _), g4⟩
              case round =>
                clear g4
                obtain ⟨i, m, c0, A0, rfl, rfl, hik, hi, hm, HO, hg⟩ := hrel
                by_cases hlt : i < n
                · have hif : i < fs.length := by omega
                  have hii : (i : Int) < (n : Int) := by omega
                  obtain ⟨b, off, rfl, e0, e1⟩ := (HX.out.gr hg).cell hif
                  have HFT := sec (filter_take_succ (fun f : Rf => ltB f.1 name) fs i hif)
                  obtain ⟨x, hxx⟩ : ∃ x, x = fs[i] := ⟨_, rfl⟩
                  rw [← hxx] at e0 e1 HFT
                  clear hxx hif
                  obtain ⟨nm, id'⟩ := x
                  simp only at e0 e1 HFT
                  have hgx := hg.alloc (.cells #[.string (bs nm), .string (bs id')] 42)
                  cases hb : ltB nm name with
                  | true =>
                    have q1 : Op.bytesLess nm name = true := hb
                    have HL : Sec (lowR name (fs.take (i + 1)) = lowR name (fs.take i) ++ [(nm, id')]) := sec (by unfold lowR; rw [HFT.out, if_pos hb])
                    have hb1 : (m + 1) * 32 ≤ 140737488355328 := by omega
                    have hb2 : m + 1 ≤ maxLen := by unfold maxLen; omega
                    clear hb HFT
                    go_wp2_with (refine wpList_append_row E.ref rfl (.tmp 57) (.tmp 59) rfl (B := w.heap.size) (A0 := A0) (n0 := m) (cap0 := c0) (xs := (lowR name (fs.take i)).flatMap refV) rfl ((HO.out.alloc _).alloc _) rfl (row_two (Blk.new1 wr _ _ _)) (by intro h; cases h) two_one hb1 hb2 (hgx.alloc _).size ?_; intro A' c' w' hown' hgn)
                    have o2 := sec (own_app hown')
                    go_roundg (gk - 1)
                    case rel => exact ⟨i + 1, m + 1, c', A', by go_num, rfl, by omega, by omega, by omega, sec (by rw [HL.out]; exact o2.out), Gr.grown (hgx.alloc _) hgn (fun k hk => (HO.out.lt k hk).1)⟩
                    case measure => omega
                  | false =>
                    have q1 : Op.bytesLess nm name = false := hb
                    have HL : Sec (lowR name (fs.take (i + 1)) = lowR name (fs.take i)) := sec (by unfold lowR; rw [HFT.out, if_neg (by rw [hb]; simp), List.append_nil])
                    clear hb HFT
                    go_wp2_with fail
                    go_roundg (gk - 1)
                    case rel => exact ⟨i + 1, m, c0, A0, by go_num, rfl, by omega, by omega, by omega, sec (by rw [HL.out]; exact HO.out.alloc _), hgx⟩
                    case measure => omega
                · obtain rfl : i = n := by omega
                  have HO2 : Sec (wr.ownsRow w.heap.size 42 2 (.slice A0 m c0) m ((lowR name fs).flatMap refV)) := sec (by have := HO.out; rwa [List.take_of_length_le (by omega)] at this)
                  clear hlt hik HO
                  by_cases hi0 : id = []
                  · have q2 : (id == []) = true := by rw [beq_iff_eq]; exact hi0
                    have HV5 : Sec (V = (lowR name fs ++ upR name fs, 0)) := sec (by rw [HV4.out]; unfold refSet; rw [if_pos hi0, List.nil_append])
                    clear hi0 HV4
                    go_wp2_with fail
                    have HO1 := HO2
                    have g6 := hg
                    have hm1 : m ≤ i + 1 := by omega
                    obtain ⟨L, hL⟩ : ∃ L, L = lowR name fs := ⟨_, rfl⟩
                    rw [← hL] at HO1 HV5
                    clear hL hg HO2
                    go_loopg [72, 10, 14] i (fun fuel iv ov _ wr => ∃ (j m c0 : Nat) (A0 : Option Addr), iv = .int .i64 (j : Int) ∧ ov = .slice A0 m c0 ∧ i ≤ j + fuel ∧ j ≤ i ∧ m ≤ i + 1 + j ∧ Sec (wr.ownsRow w.heap.size 42 2 (.slice A0 m c0) m ((L ++ upR name (fs.take j)).flatMap refV)) ∧ Gr w wr)
                    case atStart => exact ⟨0, m, c0, A0, rfl, rfl, by omega, by omega, by omega, sec (by have := HO1.out; rwa [← List.append_nil L] at this), g6⟩
                    case round =>
                      clear g6 HO1
                      obtain ⟨j, m', c', A0', rfl, rfl, hjk, hj, hm', HO, hg⟩ := hrel
                      by_cases hlt : j < i
                      · have hif : j < fs.length := by omega
                        have hii : (j : Int) < (i : Int) := by omega
                        obtain ⟨b, off, rfl, e0, e1⟩ := (HX.out.gr hg).cell hif
                        have HFT := sec (filter_take_succ (fun f : Rf => ltB name f.1) fs j hif)
                        obtain ⟨x, hxx⟩ : ∃ x, x = fs[j] := ⟨_, rfl⟩
                        rw [← hxx] at e0 e1 HFT
                        clear hxx hif
                        obtain ⟨nm, id'⟩ := x
                        simp only at e0 e1 HFT
                        have hgx := hg.alloc (.cells #[.string (bs nm), .string (bs id')] 42)
                        cases hb : ltB name nm with
                        | true =>
                          have q1 : Op.bytesLess nm name = false := ltB_no hb
                          have q1' : (nm == name) = false := by rw [beq_eq_false_iff_ne]; intro e; rw [e, ltB_irr] at hb; cases hb
                          have HL : Sec (L ++ upR name (fs.take (j + 1)) = L ++ upR name (fs.take j) ++ [(nm, id')]) := sec (by unfold upR; rw [HFT.out, if_pos hb, List.append_assoc])
                          have hb1 : (m' + 1) * 32 ≤ 140737488355328 := by omega
                          have hb2 : m' + 1 ≤ maxLen := by unfold maxLen; omega
                          clear hb HFT
                          go_wp2_with (refine wpList_append_row E.ref rfl (.tmp 80) (.tmp 82) rfl (B := w.heap.size) (A0 := A0') (n0 := m') (cap0 := c') (xs := (L ++ upR name (fs.take j)).flatMap refV) rfl ((HO.out.alloc _).alloc _) rfl (row_two (Blk.new1 wr _ _ _)) (by intro h; cases h) two_one hb1 hb2 (hgx.alloc _).size ?_; intro A9 c9 w9 hown' hgn)
                          have o2 := sec (own_app hown')
                          go_roundg (gk - 1)
                          case rel => exact ⟨j + 1, m' + 1, c9, A9, by go_num, rfl, by omega, by omega, by omega, sec (by rw [HL.out]; exact o2.out), Gr.grown (hgx.alloc _) hgn (fun k hk => (HO.out.lt k hk).1)⟩
                          case measure => omega
                        | false =>
                          have HL : Sec (L ++ upR name (fs.take (j + 1)) = L ++ upR name (fs.take j)) := sec (by unfold upR; rw [HFT.out, if_neg (by rw [hb]; simp), List.append_nil])
                          cases hb2 : ltB nm name with
                          | true =>
                            have q1 : Op.bytesLess nm name = true := hb2
                            clear hb2
                            clear hb HFT
                            go_wp2_with fail
                            go_roundg (gk - 1)
                            case rel => exact ⟨j + 1, m', c', A0', by go_num, rfl, by omega, by omega, by omega, sec (by rw [HL.out]; exact HO.out.alloc _), hgx⟩
                            case measure => omega
                          | false =>
                            have q1 : Op.bytesLess nm name = false := hb2
                            have q1' : (nm == name) = true := by rw [beq_iff_eq]; exact ltB_tri nm name hb2 hb
                            clear hb2
                            clear hb HFT
                            go_wp2_with fail
                            go_roundg (gk - 1)
                            case rel => exact ⟨j + 1, m', c', A0', by go_num, rfl, by omega, by omega, by omega, sec (by rw [HL.out]; exact HO.out.alloc _), hgx⟩
                            case measure => omega
                      · obtain rfl : j = i := by omega
                        have HO2 : Sec (wr.ownsRow w.heap.size 42 2 (.slice A0' m' c') m' ((L ++ upR name fs).flatMap refV)) := sec (by have := HO.out; rwa [List.take_of_length_le (by omega)] at this)
                        clear hlt hjk HO
                        go_wp2_with fail
                        go_ret2
                        exact SetPost.own HV5.out HO2.out hg
                  · have q2 : (id == []) = false := by rw [beq_eq_false_iff_ne]; exact hi0
                    have HV5 : Sec (V = (lowR name fs ++ [(name, id)] ++ upR name fs, 0)) := sec (by rw [HV4.out]; unfold refSet; rw [if_neg hi0, List.append_assoc])
                    have hb1 : (m + 1) * 32 ≤ 140737488355328 := by omega
                    have hb2 : m + 1 ≤ maxLen := by unfold maxLen; omega
                    clear hi0 HV4
                    go_wp2_with (refine wpList_append_row E.ref rfl (.tmp 64) (.tmp 68) rfl (B := w.heap.size) (A0 := A0) (n0 := m) (cap0 := c0) (xs := (lowR name fs).flatMap refV) rfl (HO2.out.alloc _) rfl (row_two (Blk.new _ _ _)) (by intro h; cases h) two_one hb1 hb2 (hg.alloc _).size ?_; intro A' c' w' hown' hgn)
                    have HO1 := sec (own_app hown')
                    have g6 : Gr w w' := Gr.grown (hg.alloc _) hgn (fun k hk => (HO2.out.lt k hk).1)
                    have hm1 : m + 1 ≤ i + 1 := by omega
                    obtain ⟨L, hL⟩ : ∃ L, L = lowR name fs ++ [(name, id)] := ⟨_, rfl⟩
                    rw [← hL] at HO1 HV5
                    clear hL hg HO2 hown' hgn hb1 hb2
                    go_loopg [72, 10, 14] i (fun fuel iv ov _ wr => ∃ (j m c0 : Nat) (A0 : Option Addr), iv = .int .i64 (j : Int) ∧ ov = .slice A0 m c0 ∧ i ≤ j + fuel ∧ j ≤ i ∧ m ≤ i + 1 + j ∧ Sec (wr.ownsRow w.heap.size 42 2 (.slice A0 m c0) m ((L ++ upR name (fs.take j)).flatMap refV)) ∧ Gr w wr)
                    case atStart => exact ⟨0, m + 1, c', A', rfl, rfl, by omega, by omega, by omega, sec (by have := HO1.out; rwa [← List.append_nil L] at this), g6⟩
                    case round =>
                      clear g6 HO1
                      obtain ⟨j, m', c'', A0', rfl, rfl, hjk, hj, hm', HO, hg⟩ := hrel
                      by_cases hlt : j < i
                      · have hif : j < fs.length := by omega
                        have hii : (j : Int) < (i : Int) := by omega
                        obtain ⟨b, off, rfl, e0, e1⟩ := (HX.out.gr hg).cell hif
                        have HFT := sec (filter_take_succ (fun f : Rf => ltB name f.1) fs j hif)
                        obtain ⟨x, hxx⟩ : ∃ x, x = fs[j] := ⟨_, rfl⟩
                        rw [← hxx] at e0 e1 HFT
                        clear hxx hif
                        obtain ⟨nm, id'⟩ := x
                        simp only at e0 e1 HFT
                        have hgx := hg.alloc (.cells #[.string (bs nm), .string (bs id')] 42)
                        cases hb : ltB name nm with
                        | true =>
                          have q1 : Op.bytesLess nm name = false := ltB_no hb
                          have q1' : (nm == name) = false := by rw [beq_eq_false_iff_ne]; intro e; rw [e, ltB_irr] at hb; cases hb
                          have HL : Sec (L ++ upR name (fs.take (j + 1)) = L ++ upR name (fs.take j) ++ [(nm, id')]) := sec (by unfold upR; rw [HFT.out, if_pos hb, List.append_assoc])
                          have hb1 : (m' + 1) * 32 ≤ 140737488355328 := by omega
                          have hb2 : m' + 1 ≤ maxLen := by unfold maxLen; omega
                          clear hb HFT
                          go_wp2_with (refine wpList_append_row E.ref rfl (.tmp 80) (.tmp 82) rfl (B := w.heap.size) (A0 := A0') (n0 := m') (cap0 := c'') (xs := (L ++ upR name (fs.take j)).flatMap refV) rfl ((HO.out.alloc _).alloc _) rfl (row_two (Blk.new1 wr _ _ _)) (by intro h; cases h) two_one hb1 hb2 (hgx.alloc _).size ?_; intro A9 c9 w9 hown' hgn)
                          have o2 := sec (own_app hown')
                          go_roundg (gk - 1)
                          case rel => exact ⟨j + 1, m' + 1, c9, A9, by go_num, rfl, by omega, by omega, by omega, sec (by rw [HL.out]; exact o2.out), Gr.grown (hgx.alloc _) hgn (fun k hk => (HO.out.lt k hk).1)⟩
                          case measure => omega
                        | false =>
                          have HL : Sec (L ++ upR name (fs.take (j + 1)) = L ++ upR name (fs.take j)) := sec (by unfold upR; rw [HFT.out, if_neg (by rw [hb]; simp), List.append_nil])
                          cases hb2 : ltB nm name with
                          | true =>
                            have q1 : Op.bytesLess nm name = true := hb2
                            clear hb2
                            clear hb HFT
                            go_wp2_with fail
                            go_roundg (gk - 1)
                            case rel => exact ⟨j + 1, m', c'', A0', by go_num, rfl, by omega, by omega, by omega, sec (by rw [HL.out]; exact HO.out.alloc _), hgx⟩
                            case measure => omega
                          | false =>
                            have q1 : Op.bytesLess nm name = false := hb2
                            have q1' : (nm == name) = true := by rw [beq_iff_eq]; exact ltB_tri nm name hb2 hb
                            clear hb2
                            clear hb HFT
                            go_wp2_with fail
                            go_roundg (gk - 1)
                            case rel => exact ⟨j + 1, m', c'', A0', by go_num, rfl, by omega, by omega, by omega, sec (by rw [HL.out]; exact HO.out.alloc _), hgx⟩
                            case measure => omega
                      · obtain rfl : j = i := by omega
                        have HO2 : Sec (wr.ownsRow w.heap.size 42 2 (.slice A0' m' c'') m' ((L ++ upR name fs).flatMap refV)) := sec (by have := HO.out; rwa [List.take_of_length_le (by omega)] at this)
                        clear hlt hjk HO
                        go_wp2_with fail
                        go_ret2
                        exact SetPost.own HV5.out HO2.out hg
        · have q0 : (gt == old) = false := by rw [beq_eq_false_iff_ne]; exact hgo
          have HV3 : Sec (V = ([], 9)) := sec (by rw [HV2.out, if_neg hgo])
          clear hgo
          go_wp2_with (go_at_call 14; (with_reducible refine Calls.mono (HGt.out _ g2) ?_); rintro e w3 ⟨rfl, g3'⟩; have g3 := Gr.trans g2 g3')
          go_ret2
          exact SetPost.bad HV3.out g3
end Go.Proofs.YtebbeapfjahgdaaDoor

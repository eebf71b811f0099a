/-
  cartularyref.Proof by its contract.
-/
import Derived.Test.YtjgkefjocakggaaDoorRRoot
import Derived.Test.YtjgkefjocakggaaDoorProof
namespace Go.Proofs.YtjgkefjocakggaaDoor
open Go.RowKit
set_option linter.unusedVariables false

set_option maxRecDepth 100000 in
set_option maxHeartbeats 4000000 in
theorem rproof_any (ss : List (List UInt8)) (i : Int) (m : Nat) (A0 : Option Addr) (cap0 : Nat) (w : World) (hm : m ≤ 1099511627776) (hcap : m ≤ cap0) (hrow0 : StrRow w A0 m ss) (hs : Short ss) :
    Calls Tryd.prog 28 #[.slice A0 m cap0, .int .i64 i] w fun e w' => ∃ A' n' cap', e = .returned (.slice A' n' cap') ∧ n' ≤ m + 1 ∧ w'.ownsRow w.heap.size 9 1 (.slice A' n' cap') n' ((proofS ss i).map strV) ∧ Gr w w' := by
  have hlen := hrow0.len
  by_cases h0 : 1 ≤ i
  · by_cases h1 : i ≤ m
    · obtain ⟨I0, rfl⟩ : ∃ I : Nat, i = I := ⟨i.toNat, by omega⟩
      have HP : Sec (proofS ss I0 = (downP ss I0 true).reverse) := sec (by unfold proofS; rw [if_pos ⟨h0, by omega⟩, Int.toNat_natCast])
      rw [HP.out]
      have q1 : ¬ (I0 : Int) < 1 := by omega
      have q2 : ¬ (m : Int) < (I0 : Int) := by omega
      have HROW := sec hrow0
      have HSH := sec hs
      clear hrow0 hs HP
      go_enter Tryd.func28, Tryd.ntmps28
      go_wp2_with fail
      try rw [show ({ data := #[] } : ByteArray) = bs [] from rfl]
      go_loopw [0, 1, 5, 6, 7] (fun lv iv dv bv _ wr => ∃ (l' : List (List UInt8)) (n : Nat) (A : Option Addr) (cap I : Nat) (wh : Bool) (out : List (List UInt8)) (kd : Nat) (Ad : Option Addr) (capd : Nat), lv = .slice A n cap ∧ iv = .int .i64 (I : Int) ∧ bv = .bool wh ∧ dv = .slice Ad kd capd ∧ StrRow w A n l' ∧ Short l' ∧ (0 < I ∧ I ≤ n) ∧ n ≤ cap ∧ kd + n ≤ m ∧ n ≤ 1099511627776 ∧ Sec (downP ss I0 true = out ++ downP l' I wh) ∧ wr.ownsRow w.heap.size 9 1 (.slice Ad kd capd) kd (out.map strV) ∧ Gr w wr)
        (fun lv _ _ _ _ _ => sliceLen2 lv)
      case atStart => exact ⟨ss, m, A0, cap0, I0, true, [], 0, none, 0, rfl, rfl, rfl, rfl, HROW.out, HSH.out, by omega, hcap, by omega, by omega, sec rfl, World.ownsRow_nil _ _ _ _, Gr.refl _⟩
      case round =>
      obtain ⟨l', n, A, cap, I, wh, out, kd, Ad, capd, rfl, rfl, rfl, rfl, hrow, hsl, hIn, hnc, hkd, hn40, HDN, hown, hg⟩ := hrel
      have hl' := hrow.len
      by_cases hlt : I < n
      · have hmi : (I : Int) < (n : Int) := by omega
        have hkl := halfN_lt (n := n) (by omega)
        have hkp := halfN_pos n
        have hL1 := downP_left (l := l') (m := I) (whole := wh) (by omega) (by omega)
        have hL2 := downP_right (l := l') (m := I) (whole := wh) (by omega) (by omega)
        rw [hl'] at hL1 hL2
        have HH : Sec (∀ w, Calls Tryd.prog 40 #[.int .i64 (n : Int)] w fun e w' => e = .returned (.int .i64 (halfN n : Int)) ∧ w' = w) := sec fun w => parting_any n w hn40
        obtain ⟨b, off, rfl, _⟩ := Row.at_ hrow (by omega)
        obtain ⟨k, hk⟩ : ∃ k, k = halfN n := ⟨_, rfl⟩
        rw [← hk] at hkl hkp HH hL1 hL2
        have hT1 := StrRow.take hrow k (by omega)
        have hT2 := StrRow.drop hrow k (by omega)
        have hki : (k : Int) ≤ (n : Int) := by omega
        have hkc : (k : Int) ≤ (cap : Int) := by omega
        have hkc2 : ¬ cap = k := by omega
        have hb2 : kd + 1 ≤ maxLen := by unfold maxLen; omega
        by_cases hik : I ≤ k
        · have HD := sec (hL1 hik)
          have hiki : (I : Int) ≤ (k : Int) := by omega
          have HR : Sec (∀ w', Gr w w' → Calls Tryd.prog 23 #[.slice (some ⟨b, off + k, none⟩) (n - k : Nat) (cap - k : Nat)] w' fun e w'' => e = .returned (.string (bs (rootL (l'.drop k)))) ∧ Gr w' w'') :=
            sec fun w' g => rroot_any (l'.drop k) (n - k) _ (cap - k) w' (by omega) (hT2.gr g) (hsl.drop k)
          obtain ⟨R, hR⟩ : ∃ R, R = rootL (l'.drop k) := ⟨_, rfl⟩
          rw [← hR] at HR HD
          have HSL := sec hsl
          have HT1 := sec hT1
          have HT2 := sec hT2
          have HIK := sec hik
          have HIN := sec hIn
          clear hR hT1 hT2 hL1 hL2 hk hik hsl hIn hl' hrow
          go_wp2_with (first
            | (refine wpList_append_new E.str rfl (.tmp 26) (.tmp 31) rfl rfl hown3 rfl rfl (by simp [Value.oneCell']) (by omega) (by omega) hb2 gg3 ?_; intro g' cap2 w' hown' hg')
            | (go_at_call 40; with_reducible refine Calls.mono (HH.out _) ?_; rintro e w1 ⟨rfl, hw1⟩; subst w1)
            | (go_at_call 23; with_reducible refine Calls.mono (HR.out _ hg) ?_; rintro e w3 ⟨rfl, g3⟩; have gg3 := hg.trans g3; have hown3 := own_gr hown g3))
          go_roundw
          case rel =>
            refine ⟨l'.take k, k, some ⟨b, off, none⟩, cap, I, wh, out ++ [R], kd + 1, some ⟨g', 0, none⟩, cap2, rfl, rfl, rfl, rfl, HT1.out, HSL.out.take k, ?_, ?_, by omega, by omega, sec ?_, ?_, hg'⟩
            · have := HIN.out; have := HIK.out; omega
            · have := HIN.out; have := HIK.out; omega
            · rw [HDN.out, HD.out, List.append_assoc]; rfl
            · rw [List.map_append]; exact hown'
          case measure => simp [sliceLen2]; omega
        · have HD := sec (hL2 hik)
          have hiki : ¬ (I : Int) ≤ (k : Int) := by omega
          have hw64 : IntKind.i64.wrap ((I : Int) - (k : Int)) = (I : Int) - (k : Int) := IntWalk.i64_in _ (by omega)
          have HR : Sec (∀ w', Gr w w' → Calls Tryd.prog 23 #[.slice (some ⟨b, off, none⟩) k cap] w' fun e w'' => e = .returned (.string (bs (rootL (l'.take k)))) ∧ Gr w' w'') :=
            sec fun w' g => rroot_any (l'.take k) k _ cap w' (by omega) (hT1.gr g) (hsl.take k)
          obtain ⟨R, hR⟩ : ∃ R, R = rootL (l'.take k) := ⟨_, rfl⟩
          rw [← hR] at HR HD
          have HSL := sec hsl
          have HT1 := sec hT1
          have HT2 := sec hT2
          have HIK := sec hik
          have HIN := sec hIn
          clear hR hT1 hT2 hL1 hL2 hk hik hsl hIn hl' hrow
          go_wp2_with (first
            | (refine wpList_append_new E.str rfl (.tmp 36) (.tmp 41) rfl rfl hown3 rfl rfl (by simp [Value.oneCell']) (by omega) (by omega) hb2 gg3 ?_; intro g' cap2 w' hown' hg')
            | (go_at_call 40; with_reducible refine Calls.mono (HH.out _) ?_; rintro e w1 ⟨rfl, hw1⟩; subst w1)
            | (go_at_call 23; with_reducible refine Calls.mono (HR.out _ hg) ?_; rintro e w3 ⟨rfl, g3⟩; have gg3 := hg.trans g3; have hown3 := own_gr hown g3))
          go_roundw
          case rel =>
            refine ⟨l'.drop k, n - k, some ⟨b, off + k, none⟩, cap - k, I - k, false, out ++ [R], kd + 1, some ⟨g', 0, none⟩, cap2, rfl, by go_num, rfl, rfl, HT2.out, HSL.out.drop k, ?_, ?_, by omega, by omega, sec ?_, ?_, hg'⟩
            · have := HIN.out; have := HIK.out; omega
            · have := HIN.out; have := HIK.out; omega
            · rw [HDN.out, HD.out, List.append_assoc]; rfl
            · rw [List.map_append]; exact hown'
          case measure => simp [sliceLen2]; omega
      · have hmi : ¬ (I : Int) < (n : Int) := by omega
        have hend := downP_end (l := l') (m := I) (whole := wh) (by omega)
        cases wh with
        | true =>
          have HOUT : Sec (downP ss I0 true = out) := sec (by rw [HDN.out, hend]; simp)
          have HT := sec (turned_any out kd Ad capd wr (by omega) (Row.own hown))
          clear hlt hrow hsl hl' hown HDN hend
          go_wp2_with (go_at_call 41; with_reducible refine Calls.mono HT.out ?_; rintro e w3 ⟨A', c', rfl, hown3, g3⟩)
          go_ret
          exact ⟨A', kd, c', rfl, by omega, by rw [HOUT.out]; exact own_base hown3 hg.size, hg.trans g3⟩
        | false =>
          have HOUT : Sec (downP ss I0 true = out ++ [rootL l']) := sec (by rw [HDN.out, hend]; simp)
          have HR := sec (rroot_any l' n A cap wr hn40 (hrow.gr hg) hsl)
          have hb2 : kd + 1 ≤ maxLen := by unfold maxLen; omega
          obtain ⟨R, hR⟩ : ∃ R, R = rootL l' := ⟨_, rfl⟩
          rw [← hR] at HR
          have HT : Sec (∀ (A' : Option Addr) (cap' : Nat) (w' : World), w'.ownsRow w.heap.size 9 1 (.slice A' (kd + 1) cap') (kd + 1) ((out ++ [R]).map strV) → Gr w w' → Calls Tryd.prog 41 #[.slice A' (kd + 1 : Nat) cap'] w' fun e w'' => ∃ A'' cap'', e = .returned (.slice A'' (kd + 1 : Nat) cap'') ∧ w''.ownsRow w.heap.size 9 1 (.slice A'' (kd + 1 : Nat) cap'') (kd + 1) ((out ++ [R]).reverse.map strV) ∧ Gr w' w'') :=
            sec fun A' cap' w' ho g => (turned_any (out ++ [R]) (kd + 1) A' cap' w' (by omega) (Row.own ho)).mono fun e w'' ⟨A2, c2, h1, h2, h3⟩ => ⟨A2, c2, h1, own_base h2 g.size, h3⟩
          rw [List.map_append] at HT
          have hHT := HT.out
          clear hlt hrow hsl hl' HDN hend HT
          have HRR := sec hR
          clear hR
          have HT := sec hHT
          clear hHT
          go_wp2_with (first
            | (refine wpList_append_new E.str rfl (.tmp 51) (.tmp 54) rfl rfl hown3 rfl rfl (by simp [Value.oneCell']) (by omega) (by omega) hb2 gg3 ?_; intro g' cap2 w' hown' hg')
            | (go_at_call 23; with_reducible refine Calls.mono HR.out ?_; rintro e w3 ⟨rfl, g3⟩; have gg3 := hg.trans g3; have hown3 := own_gr hown g3)
            | (go_at_call 41; refine Calls.mono (HT.out _ _ _ hown' hg') ?_; rintro e w5 ⟨A', c', rfl, hown5, g5⟩))
          go_ret
          exact ⟨A', kd + 1, c', rfl, by omega, by rw [HOUT.out, ← HRR.out]; exact hown5, hg'.trans g5⟩
    · have HP : Sec (proofS ss i = []) := sec (by unfold proofS; rw [if_neg (by omega)])
      rw [HP.out]
      have h1' : (m : Int) < i := by omega
      clear hrow0 hlen
      go_enter Tryd.func28, Tryd.ntmps28
      go_wp2_with fail
      go_ret
      exact ⟨none, 0, 0, rfl, by omega, World.ownsRow_nil _ _ _ _, Gr.refl _⟩
  · have HP : Sec (proofS ss i = []) := sec (by unfold proofS; rw [if_neg (by omega)])
    rw [HP.out]
    have h0' : i < 1 := by omega
    clear hrow0 hlen
    go_enter Tryd.func28, Tryd.ntmps28
    go_wp2_with fail
    go_ret
    exact ⟨none, 0, 0, rfl, by omega, World.ownsRow_nil _ _ _ _, Gr.refl _⟩
end Go.Proofs.YtjgkefjocakggaaDoor

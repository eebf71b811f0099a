/-
  cartularyref.GoodState, Sum by their contracts.
-/
import Derived.Test.YtojiheelacmniaaDoorRPad
import Derived.Deep.RegionHeld3
namespace Go.Proofs.YtojiheelacmniaaDoor
open Go.RowKit
set_option linter.unusedVariables false

set_option maxRecDepth 100000 in
set_option maxHeartbeats 1000000 in
theorem rgood_any (s : S8) (r : List UInt8) (m : Int) (w : World) (hr : r.length < 4611686018427387904) :
    Calls Tryd.prog 15 #[stV s r m] w fun e w' => e = .returned (.bool (goodB r m)) ∧ Gr w w' := by
  unfold stV stCells
  have fin : ∀ x : Bool, goodB r m = x → Calls Tryd.prog 15 #[.agg #[u32V s.a, u32V s.b, u32V s.c, u32V s.d, u32V s.e, u32V s.f, u32V s.g, u32V s.h, .string (bs r), .int .i64 m]] w (fun e w' => e = .returned (.bool x) ∧ Gr w w') → Calls Tryd.prog 15 #[.agg #[u32V s.a, u32V s.b, u32V s.c, u32V s.d, u32V s.e, u32V s.f, u32V s.g, u32V s.h, .string (bs r), .int .i64 m]] w (fun e w' => e = .returned (.bool (goodB r m)) ∧ Gr w w') := by
    intro x hx h; rw [hx]; exact h
  by_cases h0 : 0 ≤ m
  · by_cases h1 : m < 1152921504606846976
    · by_cases h3 : r.length < 64
      · by_cases h2 : (r.length : Int) = m % 64
        · refine fin true ((goodB_iff r m).2 ⟨h0, h1, h2⟩) ?_
          have h2' : (m % 64 == (r.length : Int)) = true := by simpa using h2.symm
          clear h2 fin
          go_enter Tryd.func15, Tryd.ntmps15
          go_wp2
          go_ret
          exact ⟨rfl, (Gr.refl w).alloc _⟩
        · refine fin false ((goodB_not r m).2 (fun h => h2 h.2.2)) ?_
          have h2' : (m % 64 == (r.length : Int)) = false := by rw [beq_eq_false_iff_ne]; exact fun e => h2 e.symm
          clear h2 fin
          go_enter Tryd.func15, Tryd.ntmps15
          go_wp2
          go_ret
          exact ⟨rfl, (Gr.refl w).alloc _⟩
      · refine fin false ((goodB_not r m).2 (fun h => h3 (by have := h.2.2; omega))) ?_
        clear fin
        go_enter Tryd.func15, Tryd.ntmps15
        go_wp2
        go_ret
        exact ⟨rfl, (Gr.refl w).alloc _⟩
    · refine fin false ((goodB_not r m).2 (fun h => h1 h.2.1)) ?_
      clear fin
      go_enter Tryd.func15, Tryd.ntmps15
      go_wp2
      go_ret
      exact ⟨rfl, (Gr.refl w).alloc _⟩
  · refine fin false ((goodB_not r m).2 (fun h => h0 h.1)) ?_
    clear fin
    go_enter Tryd.func15, Tryd.ntmps15
    go_wp2
    go_ret
    exact ⟨rfl, (Gr.refl w).alloc _⟩

set_option maxRecDepth 100000 in
set_option maxHeartbeats 4000000 in
theorem rsum_any (b : List UInt8) (w : World) (hb : b.length ≤ 576460752303423488) :
    Calls Tryd.prog 8 #[.string (bs b)] w fun e w' => e = .returned (.string (bs (sha b))) ∧ Gr w w' := by
  have e1 : ((b.length : Int) - (b.length : Int) % 64) = ((b.length / 64 * 64 : Nat) : Int) := by omega
  obtain ⟨k, hk⟩ : ∃ k, k = b.length / 64 * 64 := ⟨_, rfl⟩
  rw [← hk] at e1
  have hk1 : k ≤ b.length := by omega
  have hk2 : (k : Int) ≤ (b.length : Int) := by omega
  have hk3 : k % 64 = 0 := by omega
  have HD : Sec (b.drop k = restOf b) := sec (by rw [hk]; rfl)
  have HT : Sec (overS startS (b.take k) = overS startS b) := sec (by rw [hk]; exact overS_take _ _ _ rfl)
  have hl : (b.take k).length = k := by rw [List.length_take]; omega
  have HL := sec hl
  have H3 := sec hk3
  have hrl : (restOf b).length < 1152921504606846976 := by rw [restOf_len]; omega
  have HRL := sec hrl
  have hbl : b.length < 1152921504606846976 := by omega
  clear hk hl hk3 hrl
  have HP : Sec ((padTo (restOf b) b.length).length % 64 = 0) := sec (padTo_mod _ _)
  have HQ : Sec ((padTo (restOf b) b.length).length < 4611686018427387904) := sec (by rw [padTo_len, restOf_len]; unfold zerosFor; omega)
  have HS : Sec (sha b = text8 (overS (overS startS b) (padTo (restOf b) b.length))) := sec rfl
  have HM : Sec (k < 4611686018427387904) := sec (by omega)
  obtain ⟨R, hR⟩ : ∃ R, R = restOf b := ⟨_, rfl⟩
  rw [← hR] at HD HRL HP HQ HS
  obtain ⟨S, hS⟩ : ∃ S, S = overS startS b := ⟨_, rfl⟩
  rw [← hS] at HT HS
  clear hR hS
  go_enter Tryd.func8, Tryd.ntmps8
  go_wp2_with fail
  go_region_held3 (fun w' => Gr w w') (first | assumption | exact (Gr.refl _).drew | exact Gr.refl _)
    (first
      | (go_at_call 17; refine (start_any _).mono ?_; rintro e w1 ⟨rfl, g1⟩; have gg1 : Gr w w1 := Gr.trans (by assumption) g1)
      | (go_at_call 26; rw [HD.out]; refine (padded_any R b.length _ HRL.out hbl).mono ?_; rintro e w3 ⟨rfl, g3⟩; have gg3 : Gr w w3 := Gr.trans (by assumption) g3)
      | (go_at_call 24; refine (rtext_any _ _).mono ?_; rintro e w5 ⟨rfl, g5⟩; have gg5 : Gr w w5 := Gr.trans (by assumption) g5)
      | (go_at_call 25; with_reducible refine Calls.mono (over_any startS (b.take k) _ (by rw [HL.out]; exact HM.out) (by rw [HL.out]; exact H3.out)) ?_; rw [HT.out]; rintro e w2 ⟨rfl, g2⟩; have gg2 : Gr w w2 := Gr.trans (by assumption) g2)
      | (go_at_call 25; refine (over_any S (padTo R b.length) _ HQ.out HP.out).mono ?_; rintro e w4 ⟨rfl, g4⟩; have gg4 : Gr w w4 := Gr.trans (by assumption) g4))
  go_wp2_with fail
  go_ret
  exact ⟨by rw [HS.out]; rfl, gg5⟩
end Go.Proofs.YtojiheelacmniaaDoor

/-
  cartularyref.Sum by its contract.
-/
import Derived.Test.YtdpombnelangjaaGreatDoorRPad
import Derived.Deep.RegionHeld3
namespace Go.Proofs.YtdpombnelangjaaGreatDoor
open Go.RowKit
set_option linter.unusedVariables false
set_option maxRecDepth 100000 in
set_option maxHeartbeats 4000000 in
theorem rsum_any (b : List UInt8) (w : World) (hb : b.length ≤ 576460752303423488) :
    Calls Tryz.prog 45 #[.string (bs b)] w fun e w' => e = .returned (.string (bs (sha b))) ∧ Gr w w' := by
  have e1 : ((b.length : Int) - (b.length : Int) % 64) = ((b.length / 64 * 64 : Nat) : Int) := by omega
  obtain ⟨k, hk⟩ : ∃ k, k = b.length / 64 * 64 := ⟨_, rfl⟩
  rw [← hk] at e1
  have hk1 : k ≤ b.length := by omega
  have hk2 : (k : Int) ≤ (b.length : Int) := by omega
  have hk3 : k % 64 = 0 := by omega
  have HD : Sec (b.drop k = restOf b) := sec (by rw [hk]; rfl)
  have HT : Sec (overS startS (b.take k) = overS startS b) := sec (by rw [hk]; exact overS_take _ _ _ rfl)
  have hl : (b.take k).length = k := by rw [List.length_take]; omega
  have HL := sec hl
  have H3 := sec hk3
  have hrl : (restOf b).length < 1152921504606846976 := by rw [restOf_len]; omega
  have HRL := sec hrl
  have hbl : b.length < 1152921504606846976 := by omega
  clear hk hl hk3 hrl
  have HP : Sec ((padTo (restOf b) b.length).length % 64 = 0) := sec (padTo_mod _ _)
  have HQ : Sec ((padTo (restOf b) b.length).length < 4611686018427387904) := sec (by rw [padTo_len, restOf_len]; unfold zerosFor; omega)
  have HS : Sec (sha b = text8 (overS (overS startS b) (padTo (restOf b) b.length))) := sec rfl
  have HM : Sec (k < 4611686018427387904) := sec (by omega)
  obtain ⟨R, hR⟩ : ∃ R, R = restOf b := ⟨_, rfl⟩
  rw [← hR] at HD HRL HP HQ HS
  obtain ⟨S, hS⟩ : ∃ S, S = overS startS b := ⟨_, rfl⟩
  rw [← hS] at HT HS
  clear hR hS
  go_enter Tryz.func45, Tryz.ntmps45
  go_wp2_with fail
  go_region_held3 (fun w' => Gr w w') (first | assumption | exact (Gr.refl _).drew | exact Gr.refl _)
    (first
      | (go_at_call 82; refine (start_any _).mono ?_; rintro e w1 ⟨rfl, g1⟩; have gg1 : Gr w w1 := Gr.trans (by assumption) g1)
      | (go_at_call 83; rw [HD.out]; refine (padded_any R b.length _ HRL.out hbl).mono ?_; rintro e w3 ⟨rfl, g3⟩; have gg3 : Gr w w3 := Gr.trans (by assumption) g3)
      | (go_at_call 80; refine (rtext_any _ _).mono ?_; rintro e w5 ⟨rfl, g5⟩; have gg5 : Gr w w5 := Gr.trans (by assumption) g5)
      | (go_at_call 81; with_reducible refine Calls.mono (over_any startS (b.take k) _ (by rw [HL.out]; exact HM.out) (by rw [HL.out]; exact H3.out)) ?_; rw [HT.out]; rintro e w2 ⟨rfl, g2⟩; have gg2 : Gr w w2 := Gr.trans (by assumption) g2)
      | (go_at_call 81; refine (over_any S (padTo R b.length) _ HQ.out HP.out).mono ?_; rintro e w4 ⟨rfl, g4⟩; have gg4 : Gr w w4 := Gr.trans (by assumption) g4))
  go_wp2_with fail
  go_ret
  exact ⟨by rw [HS.out]; rfl, gg5⟩
end Go.Proofs.YtdpombnelangjaaGreatDoor

/-
  wire.Get, cartularyref.Get, GetText of both by their contracts, in parts: gN gK gE, tS tK tE.
-/
import Derived.Test.YtoamnifnfkgbiaaGreatDoorRGet
import Derived.Test.YtoamnifnfkgbiaaGreatDoorGetC
namespace Go.Proofs.YtoamnifnfkgbiaaGreatDoor
open Go.RowKit
set_option maxRecDepth 100000 in
theorem wgett_any (l : List UInt8) (w : World) (hl : l.length ≤ 1152921504606846976) :
    Calls Tryz.prog 81 #[.string (bs l)] w fun e w' => e = .returned (.tuple #[.string (bs (tS l)), .int .i64 (tK l : Int), .int .i64 (tE l : Int)]) ∧ w = w' := by
  have hk := gK_le l
  have hn := gN_lt l
  rcases gE_or l with he | he
  · by_cases h1 : 4096 < gN l
    · have ht : tS l = [] ∧ tK l = 0 := t_no (fun h => by have := h.2.1; omega)
      have hte : tE l = 1 := by unfold tE; rw [if_neg (by omega), if_pos h1]
      go_enter Tryz.func81, Tryz.ntmps81
      go_wp2_with (go_at_call 79; refine (wget_any _ _ hl).mono ?_; rintro e w1 ⟨rfl, rfl⟩)
      go_ret3
      exact ⟨by rw [ht.1, ht.2, hte]; rfl, rfl⟩
    · by_cases h2 : l.length - gK l < gN l
      · have ht : tS l = [] ∧ tK l = 0 := t_no (fun h => by have := h.2.2; omega)
        have hte : tE l = 2 := by unfold tE; rw [if_neg (by omega), if_neg h1, if_pos h2]
        have h2' : (l.length : Int) - gK l < gN l := by omega
        go_enter Tryz.func81, Tryz.ntmps81
        go_wp2_with (go_at_call 79; refine (wget_any _ _ hl).mono ?_; rintro e w1 ⟨rfl, rfl⟩)
        go_ret3
        exact ⟨by rw [ht.1, ht.2, hte]; rfl, rfl⟩
      · have ht := t_ok (l := l) ⟨he, by omega, by omega⟩
        have HT := sec ht
        clear ht
        go_enter Tryz.func81, Tryz.ntmps81
        go_wp2_with (go_at_call 79; refine (wget_any _ _ hl).mono ?_; rintro e w1 ⟨rfl, rfl⟩)
        go_ret3
        exact ⟨by rw [HT.out.1, HT.out.2.1, HT.out.2.2]; simp, rfl⟩
  · have ht : tS l = [] ∧ tK l = 0 := t_no (fun h => by have := h.1; omega)
    have hte : tE l = 2 := by unfold tE; rw [if_pos (by omega), he]
    go_enter Tryz.func81, Tryz.ntmps81
    go_wp2_with (go_at_call 79; refine (wget_any _ _ hl).mono ?_; rintro e w1 ⟨rfl, rfl⟩)
    go_ret3
    exact ⟨by rw [ht.1, ht.2, hte]; rfl, rfl⟩
set_option maxRecDepth 100000 in
theorem rgett_any (l : List UInt8) (w : World) (hl : l.length ≤ 1152921504606846976) :
    Calls Tryz.prog 89 #[.string (bs l)] w fun e w' => e = .returned (.tuple #[.string (bs (tS l)), .int .i64 (tK l : Int), .int .i64 (tE l : Int)]) ∧ Gr w w' := by
  have hk := gK_le l
  have hn := gN_lt l
  rcases gE_or l with he | he
  · by_cases h1 : 4096 < gN l
    · have ht : tS l = [] ∧ tK l = 0 := t_no (fun h => by have := h.2.1; omega)
      have hte : tE l = 1 := by unfold tE; rw [if_neg (by omega), if_pos h1]
      go_enter Tryz.func89, Tryz.ntmps89
      go_wp2_with (go_at_call 87; refine (rget_any _ _ hl).mono ?_; rintro e w1 ⟨rfl, g1⟩)
      go_ret3
      exact ⟨by rw [ht.1, ht.2, hte]; rfl, g1⟩
    · by_cases h2 : l.length - gK l < gN l
      · have ht : tS l = [] ∧ tK l = 0 := t_no (fun h => by have := h.2.2; omega)
        have hte : tE l = 2 := by unfold tE; rw [if_neg (by omega), if_neg h1, if_pos h2]
        have h2' : (l.length : Int) - gK l < gN l := by omega
        go_enter Tryz.func89, Tryz.ntmps89
        go_wp2_with (go_at_call 87; refine (rget_any _ _ hl).mono ?_; rintro e w1 ⟨rfl, g1⟩)
        go_ret3
        exact ⟨by rw [ht.1, ht.2, hte]; rfl, g1⟩
      · have ht := t_ok (l := l) ⟨he, by omega, by omega⟩
        have HT := sec ht
        clear ht
        go_enter Tryz.func89, Tryz.ntmps89
        go_wp2_with (go_at_call 87; refine (rget_any _ _ hl).mono ?_; rintro e w1 ⟨rfl, g1⟩)
        go_ret3
        exact ⟨by rw [HT.out.1, HT.out.2.1, HT.out.2.2]; simp, g1⟩
  · have ht : tS l = [] ∧ tK l = 0 := t_no (fun h => by have := h.1; omega)
    have hte : tE l = 2 := by unfold tE; rw [if_pos (by omega), he]
    go_enter Tryz.func89, Tryz.ntmps89
    go_wp2_with (go_at_call 87; refine (rget_any _ _ hl).mono ?_; rintro e w1 ⟨rfl, g1⟩)
    go_ret3
    exact ⟨by rw [ht.1, ht.2, hte]; rfl, g1⟩

end Go.Proofs.YtoamnifnfkgbiaaGreatDoor

/-
  cartularyref.GetRef, SameRefs, SetRef by their contracts.
-/
import Derived.Test.YtebbeapfjahgdaaDoorRefsPl
namespace Go.Proofs.YtebbeapfjahgdaaDoor
set_option maxRecDepth 100000
open Go.RowKit
set_option linter.unusedVariables false
set_option maxHeartbeats 4000000 in
theorem rrget_any (fs : List Rf) (name : List UInt8) (A : Option Addr) (n cap : Nat) (w : World) (hn : n ≤ 1099511627776) (hx : RfRow w A n fs) :
    Calls Tryd.prog 14 #[.slice A n cap, .string (bs name)] w fun e w' => e = .returned (.string (bs (getR fs name))) ∧ Gr w w' := by
  have hl := hx.len
  have HX := sec hx
  obtain ⟨V, hV⟩ : ∃ V, V = getR fs name := ⟨_, rfl⟩
  rw [← hV]
  have HV := sec hV
  clear hx hV
  go_enter Tryd.func14, Tryd.ntmps14
  go_wp2_with fail
  go_loopg [9, 6] n (fun fuel iv _ wr => ∃ i : Nat, iv = .int .i64 (i : Int) ∧ n ≤ i + fuel ∧ i ≤ n ∧ Sec (V = getR (fs.drop i) name) ∧ Gr w wr)
  case atStart => exact ⟨0, rfl, by omega, by omega, HV, Gr.refl _⟩
  case round =>
    obtain ⟨i, rfl, hik, hi, HG, hg⟩ := hrel
    by_cases hlt : i < n
    · have hif : i < fs.length := by omega
      have hii : (i : Int) < (n : Int) := by omega
      obtain ⟨b, off, rfl, e0, e1⟩ := (HX.out.gr hg).cell hif
      have hgo := HG.out
      rw [getR_drop hif] at hgo
      obtain ⟨x, hxx⟩ : ∃ x, x = fs[i] := ⟨_, rfl⟩
      rw [← hxx] at e0 e1 hgo
      clear hxx hif
      obtain ⟨nm, id⟩ := x
      simp only at e0 e1 hgo
      have HGO := sec hgo
      clear hgo
      have hgx := hg.alloc (.cells #[.string (bs nm), .string (bs id)] 42)
      by_cases he : nm = name
      · have q0 : (nm == name) = true := by rw [beq_iff_eq]; exact he
        have HF : Sec (V = id) := sec (by rw [HGO.out, if_pos he])
        clear he
        go_wp2_with fail
        go_ret
        exact ⟨by rw [HF.out]; rfl, hgx⟩
      · have q0 : (nm == name) = false := by rw [beq_eq_false_iff_ne]; exact he
        have HN : Sec (V = getR (fs.drop (i + 1)) name) := sec (by rw [HGO.out, if_neg he])
        clear he
        go_wp2_with fail
        go_roundg (gk - 1)
        case rel => exact ⟨i + 1, by go_num, by omega, by omega, HN, hgx⟩
        case measure => omega
    · have HF : Sec (V = []) := sec (by rw [HG.out, List.drop_eq_nil_of_le (by omega)]; rfl)
      obtain rfl : i = n := by omega
      clear hlt hik
      go_wp2_with fail
      go_ret
      exact ⟨by rw [HF.out]; rfl, hg⟩
set_option maxHeartbeats 4000000 in
theorem sameRefs_any (fs : List Rf) (A A' : Option Addr) (n cap cap' : Nat) (w : World) (hn : n ≤ 1099511627776) (hx : RfRow w A n fs) (hy : RfRow w A' n fs) :
    Calls Tryd.prog 10 #[.slice A n cap, .slice A' n cap'] w fun e w' => e = .returned (.bool true) ∧ Gr w w' := by
  have hl := hx.len
  have HX := sec hx
  have HY := sec hy
  clear hx hy
  go_enter Tryd.func10, Tryd.ntmps10
  go_wp2_with fail
  go_loopg [13, 5] n (fun fuel iv _ wr => ∃ i : Nat, iv = .int .i64 (i : Int) ∧ n ≤ i + fuel ∧ i ≤ n ∧ Gr w wr)
  case atStart => exact ⟨0, rfl, by omega, by omega, Gr.refl _⟩
  case round =>
    obtain ⟨i, rfl, hik, hi, hg⟩ := hrel
    by_cases hlt : i < n
    · have hif : i < fs.length := by omega
      have hii : (i : Int) < (n : Int) := by omega
      obtain ⟨b, off, rfl, e0, e1⟩ := (HX.out.gr hg).cell hif
      obtain ⟨b2, off2, rfl, x0, x1⟩ := (HY.out.gr hg).cell hif
      obtain ⟨x, hxx⟩ : ∃ x, x = fs[i] := ⟨_, rfl⟩
      rw [← hxx] at e0 e1 x0 x1
      clear hxx hif
      obtain ⟨nm, id⟩ := x
      simp only at e0 e1 x0 x1
      go_upto_region 6 with fail
      go_quiet (fail)
      go_wp2_with fail
      go_roundg (gk - 1)
      case rel => exact ⟨i + 1, by go_num, by omega, by omega, Gr.drewN hg _⟩
      case measure => omega
    · obtain rfl : i = n := by omega
      clear hlt hik
      go_wp2_with fail
      go_ret
      exact ⟨rfl, hg⟩
end Go.Proofs.YtebbeapfjahgdaaDoor

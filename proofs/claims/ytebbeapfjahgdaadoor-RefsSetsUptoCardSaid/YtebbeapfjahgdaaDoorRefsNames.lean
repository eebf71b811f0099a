/-
  law.settles by its contract; law.RefsNames: the walk.
-/
import Derived.Test.YtebbeapfjahgdaaDoorRefsSet
namespace Go.Proofs.YtebbeapfjahgdaaDoor
set_option maxRecDepth 100000
open Go.RowKit Go.ChangeShapes Go.WideShapes
set_option linter.unusedVariables false
theorem set_ab : setR [] [97, 47, 98] [] [48, 49, 50, 51, 52, 53, 54, 55, 56, 57, 97, 98, 99, 100, 101, 102, 48, 49, 50, 51, 52, 53, 54, 55, 56, 57, 97, 98, 99, 100, 101, 102] = ([([97, 47, 98], [48, 49, 50, 51, 52, 53, 54, 55, 56, 57, 97, 98, 99, 100, 101, 102, 48, 49, 50, 51, 52, 53, 54, 55, 56, 57, 97, 98, 99, 100, 101, 102])], 0) := by decide
theorem get_ab : getR [([97, 47, 98], [48, 49, 50, 51, 52, 53, 54, 55, 56, 57, 97, 98, 99, 100, 101, 102, 48, 49, 50, 51, 52, 53, 54, 55, 56, 57, 97, 98, 99, 100, 101, 102])] [97, 47, 98] = [48, 49, 50, 51, 52, 53, 54, 55, 56, 57, 97, 98, 99, 100, 101, 102, 48, 49, 50, 51, 52, 53, 54, 55, 56, 57, 97, 98, 99, 100, 101, 102] := by decide
set_option maxHeartbeats 4000000 in
theorem settles_any (w : World) : Calls Tryd.prog 7 #[] w fun e w' => e = .returned (.bool true) ∧ Gr w w' := by
  have HSe := sec (rset_any [] [97, 47, 98] [] [48, 49, 50, 51, 52, 53, 54, 55, 56, 57, 97, 98, 99, 100, 101, 102, 48, 49, 50, 51, 52, 53, 54, 55, 56, 57, 97, 98, 99, 100, 101, 102] none 0 0 w (by omega) (Row.nil _ _ _) (fun _ => ⟨rfl, rfl⟩) (fun f hf => by cases hf) (by decide) (by decide) (by decide))
  rw [set_ab] at HSe
  have HGt : Sec (∀ w' A c, RfRow w' A 1 [([97, 47, 98], [48, 49, 50, 51, 52, 53, 54, 55, 56, 57, 97, 98, 99, 100, 101, 102, 48, 49, 50, 51, 52, 53, 54, 55, 56, 57, 97, 98, 99, 100, 101, 102])] → Calls Tryd.prog 13 #[.slice A 1 c, .string (bs [97, 47, 98])] w' fun e w'' => e = .returned (.string (bs [48, 49, 50, 51, 52, 53, 54, 55, 56, 57, 97, 98, 99, 100, 101, 102, 48, 49, 50, 51, 52, 53, 54, 55, 56, 57, 97, 98, 99, 100, 101, 102])) ∧ Gr w' w'') := sec (fun w' A c h => by
    have := rget_any [([97, 47, 98], [48, 49, 50, 51, 52, 53, 54, 55, 56, 57, 97, 98, 99, 100, 101, 102, 48, 49, 50, 51, 52, 53, 54, 55, 56, 57, 97, 98, 99, 100, 101, 102])] [97, 47, 98] A 1 c w' (by omega) h (List.pairwise_singleton _ _)
    rwa [get_ab] at this)
  go_enter Tryd.func7, Tryd.ntmps7
  go_wp2_with (first
    | (go_at_call 8; refine Calls.mono HSe.out ?_; rintro e w1 ⟨⟨A1, c1, n1, hn1, rfl, r1, -, g1⟩⟩; obtain rfl : n1 = 1 := hn1; simp only at r1)
    | (go_at_call 13; refine Calls.mono (HGt.out _ _ _ r1) ?_; rintro e w2 ⟨rfl, g2⟩))
  go_ret
  exact ⟨rfl, g1.trans g2⟩
set_option maxHeartbeats 4000000 in
theorem refsNames_walk (s : List UInt8) (W : World) (hs : s.length ≤ 1048576) :
    Calls Tryd.prog 3 #[.string (bs s)] W fun e W' => e = .returned (.bool true) ∧ Gr W W' := by
  have HNa := sec (fun w => refNamed_any s w (by omega))
  have HNr := sec (fun w => refName_any s w (by omega))
  have HSt := sec settles_any
  obtain ⟨b, hb⟩ : ∃ b, b = refB s := ⟨_, rfl⟩
  rw [← hb] at HNa HNr
  clear hb
  go_enter Tryd.func3, Tryd.ntmps3
  go_wp2_with (first
    | (go_at_call 5; refine Calls.mono (HNa.out _) ?_; rintro e w1 ⟨rfl, g1⟩)
    | (go_at_call 6; refine Calls.mono (HNr.out _) ?_; rintro e w2 ⟨rfl, g2⟩)
    | (go_at_call 7; refine Calls.mono (HSt.out _) ?_; rintro e w3 ⟨rfl, g3⟩))
  go_ret
  exact ⟨rfl, g1.trans (g2.trans g3)⟩
end Go.Proofs.YtebbeapfjahgdaaDoor

/-
  cartularyref.SameDisk, SameSteps, SameRefs (of nothing), SameWitness, SameClient, node.NewWitness, NewClient by their contracts.
-/
import Derived.Test.YtdpombnelangjaaGreatDoorNodes
import Derived.Test.YtdpombnelangjaaGreatDoorNodesW
namespace Go.Proofs.YtdpombnelangjaaGreatDoor
open Go.RowKit
set_option linter.unusedVariables false
set_option maxRecDepth 100000 in
set_option maxHeartbeats 1000000 in
theorem sameSteps0_any (w : World) : Calls Tryz.prog 52 #[.slice none 0 0, .slice none 0 0] w fun e w' => e = .returned (.bool true) ∧ w' = w := by
  go_enter Tryz.func52, Tryz.ntmps52
  go_wp2_with fail
  go_loopw [13, 5] (fun iv _ wr => iv = .int .i64 0 ∧ wr = w) (fun _ _ _ => 0)
  case atStart => exact ⟨rfl, rfl⟩
  case round =>
    obtain ⟨rfl, rfl⟩ := hrel
    go_wp2_with fail
    go_ret
    exact ⟨rfl, rfl⟩
set_option maxRecDepth 100000 in
set_option maxHeartbeats 1000000 in
theorem sameRefs0_any (w : World) : Calls Tryz.prog 53 #[.slice none 0 0, .slice none 0 0] w fun e w' => e = .returned (.bool true) ∧ w' = w := by
  go_enter Tryz.func53, Tryz.ntmps53
  go_wp2_with fail
  go_loopw [13, 5] (fun iv _ wr => iv = .int .i64 0 ∧ wr = w) (fun _ _ _ => 0)
  case atStart => exact ⟨rfl, rfl⟩
  case round =>
    obtain ⟨rfl, rfl⟩ := hrel
    go_wp2_with fail
    go_ret
    exact ⟨rfl, rfl⟩

set_option maxRecDepth 100000 in
set_option maxHeartbeats 1000000 in
theorem sameCli_any (f n : Int) (r : List UInt8) (w : World) :
    Calls Tryz.prog 23 #[.agg (cliC f n r), .agg (cliC f n r)] w fun e w' => e = .returned (.bool true) ∧ Gr w w' := by
  have HD := sec (sameDisk0_any f)
  unfold disk0 at HD
  unfold cliC
  go_enter Tryz.func23, Tryz.ntmps23
  go_wp2_with (first
    | (go_at_call 51; refine Calls.mono (HD.out _) ?_; rintro e w1 ⟨rfl, g1⟩; have hA := ((Blk.new w 60 #[.slice none 0 0, .int .i64 f, .int .i64 n, .string (bs r), .slice none 0 0, .slice none 0 0]).alloc (.cells #[.slice none 0 0, .int .i64 f, .int .i64 n, .string (bs r), .slice none 0 0, .slice none 0 0] 60)).gr g1; have hB := (Blk.new1 w (.cells #[.slice none 0 0, .int .i64 f, .int .i64 n, .string (bs r), .slice none 0 0, .slice none 0 0] 60) 60 #[.slice none 0 0, .int .i64 f, .int .i64 n, .string (bs r), .slice none 0 0, .slice none 0 0]).gr g1; have a2 := hA.cell 2; have a3 := hA.cell 3; have a4 := hA.cell 4; have a5 := hA.cell 5; have b2 := hB.cell 2; have b3 := hB.cell 3; have b4 := hB.cell 4; have b5 := hB.cell 5)
    | (go_at_call 52; refine (sameSteps0_any _).mono ?_; rintro e w2 ⟨rfl, rfl⟩)
    | (go_at_call 53; refine (sameRefs0_any _).mono ?_; rintro e w3 ⟨rfl, rfl⟩))
  go_ret
  exact ⟨rfl, Gr.trans (((Gr.refl w).alloc _).alloc _) g1⟩

end Go.Proofs.YtdpombnelangjaaGreatDoor

/-
  cartularyref.SameDisk, SameSteps, SameRefs (of nothing), SameWitness, SameClient, node.NewWitness, NewClient by their contracts.
-/
import Derived.Test.YtdpombnelangjaaGreatDoorNodes
namespace Go.Proofs.YtdpombnelangjaaGreatDoor
open Go.RowKit
set_option linter.unusedVariables false
def disk0 (f : Int) : Array Value := #[.slice none 0 0, .int .i64 f]
set_option maxRecDepth 100000 in
set_option maxHeartbeats 1000000 in
theorem sameDisk0_any (f : Int) (w : World) : Calls Tryz.prog 51 #[.agg (disk0 f), .agg (disk0 f)] w fun e w' => e = .returned (.bool true) ∧ Gr w w' := by
  unfold disk0
  go_enter Tryz.func51, Tryz.ntmps51
  go_wp2_with fail
  obtain ⟨wa, hwa⟩ : ∃ x, x = (w.alloc (.cells #[.slice none 0 0, .int .i64 f] 36)).alloc (.cells #[.slice none 0 0, .int .i64 f] 36) := ⟨_, rfl⟩
  have hga : Gr w wa := by rw [hwa]; exact ((Gr.refl w).alloc _).alloc _
  rw [← hwa]
  clear hwa
  go_loopw [23, 5] (fun iv _ wr => iv = .int .i64 0 ∧ wr = wa) (fun _ _ _ => 0)
  case atStart => exact ⟨rfl, rfl⟩
  case round =>
    obtain ⟨rfl, rfl⟩ := hrel
    go_wp2_with fail
    go_ret
    exact ⟨rfl, hga⟩
def witC (who : Int) (key : List UInt8) (f n : Int) (r : List UInt8) : Array Value := #[.int .i64 who, .string (bs key), .slice none 0 0, .int .i64 f, .int .i64 n, .string (bs r)]
set_option maxRecDepth 100000 in
set_option maxHeartbeats 1000000 in
theorem sameWit_any (who : Int) (key : List UInt8) (f n : Int) (r : List UInt8) (w : World) :
    Calls Tryz.prog 25 #[.agg (witC who key f n r), .agg (witC who key f n r)] w fun e w' => e = .returned (.bool true) ∧ Gr w w' := by
  have HD := sec (sameDisk0_any f)
  unfold disk0 at HD
  unfold witC
  go_enter Tryz.func25, Tryz.ntmps25
  go_wp2_with (go_at_call 51; refine Calls.mono (HD.out _) ?_; rintro e w1 ⟨rfl, g1⟩)
  go_ret
  exact ⟨rfl, Gr.trans (((Gr.refl w).alloc _).alloc _) g1⟩
def cliC (f n : Int) (r : List UInt8) : Array Value := #[.slice none 0 0, .int .i64 f, .int .i64 n, .string (bs r), .slice none 0 0, .slice none 0 0]
end Go.Proofs.YtdpombnelangjaaGreatDoor

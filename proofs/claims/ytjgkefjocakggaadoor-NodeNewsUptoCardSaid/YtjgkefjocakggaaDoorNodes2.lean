/-
  cartularyref.SameDisk, SameSteps, SameRefs (of nothing), SameWitness, SameClient, node.NewWitness, NewClient by their contracts.
-/
import Derived.Test.YtjgkefjocakggaaDoorNodes
namespace Go.Proofs.YtjgkefjocakggaaDoor
open Go.RowKit
set_option linter.unusedVariables false

def disk0 (f : Int) : Array Value := #[.slice none 0 0, .int .i64 f]
set_option maxRecDepth 100000 in
set_option maxHeartbeats 1000000 in
theorem sameDisk0_any (f : Int) (w : World) : Calls Tryd.prog 33 #[.agg (disk0 f), .agg (disk0 f)] w fun e w' => e = .returned (.bool true) ∧ Gr w w' := by
  unfold disk0
  go_enter Tryd.func33, Tryd.ntmps33
  go_wp2_with fail
  obtain ⟨wa, hwa⟩ : ∃ x, x = (w.alloc (.cells #[.slice none 0 0, .int .i64 f] 24)).alloc (.cells #[.slice none 0 0, .int .i64 f] 24) := ⟨_, rfl⟩
  have hga : Gr w wa := by rw [hwa]; exact ((Gr.refl w).alloc _).alloc _
  rw [← hwa]
  clear hwa
  go_loopw [23, 5] (fun iv _ wr => iv = .int .i64 0 ∧ wr = wa) (fun _ _ _ => 0)
  case atStart => exact ⟨rfl, rfl⟩
  case round =>
    obtain ⟨rfl, rfl⟩ := hrel
    go_wp2_with fail
    go_ret
    exact ⟨rfl, hga⟩
set_option maxRecDepth 100000 in
set_option maxHeartbeats 1000000 in
theorem sameSteps0_any (w : World) : Calls Tryd.prog 34 #[.slice none 0 0, .slice none 0 0] w fun e w' => e = .returned (.bool true) ∧ w' = w := by
  go_enter Tryd.func34, Tryd.ntmps34
  go_wp2_with fail
  go_loopw [13, 5] (fun iv _ wr => iv = .int .i64 0 ∧ wr = w) (fun _ _ _ => 0)
  case atStart => exact ⟨rfl, rfl⟩
  case round =>
    obtain ⟨rfl, rfl⟩ := hrel
    go_wp2_with fail
    go_ret
    exact ⟨rfl, rfl⟩
set_option maxRecDepth 100000 in
set_option maxHeartbeats 1000000 in
theorem sameRefs0_any (w : World) : Calls Tryd.prog 35 #[.slice none 0 0, .slice none 0 0] w fun e w' => e = .returned (.bool true) ∧ w' = w := by
  go_enter Tryd.func35, Tryd.ntmps35
  go_wp2_with fail
  go_loopw [13, 5] (fun iv _ wr => iv = .int .i64 0 ∧ wr = w) (fun _ _ _ => 0)
  case atStart => exact ⟨rfl, rfl⟩
  case round =>
    obtain ⟨rfl, rfl⟩ := hrel
    go_wp2_with fail
    go_ret
    exact ⟨rfl, rfl⟩

def witC (who : Int) (key : List UInt8) (f n : Int) (r : List UInt8) : Array Value := #[.int .i64 who, .string (bs key), .slice none 0 0, .int .i64 f, .int .i64 n, .string (bs r)]
set_option maxRecDepth 100000 in
set_option maxHeartbeats 1000000 in
theorem sameWit_any (who : Int) (key : List UInt8) (f n : Int) (r : List UInt8) (w : World) :
    Calls Tryd.prog 9 #[.agg (witC who key f n r), .agg (witC who key f n r)] w fun e w' => e = .returned (.bool true) ∧ Gr w w' := by
  have HD := sec (sameDisk0_any f)
  unfold disk0 at HD
  unfold witC
  go_enter Tryd.func9, Tryd.ntmps9
  go_wp2_with (go_at_call 33; refine Calls.mono (HD.out _) ?_; rintro e w1 ⟨rfl, g1⟩)
  go_ret
  exact ⟨rfl, Gr.trans (((Gr.refl w).alloc _).alloc _) g1⟩
def cliC (f n : Int) (r : List UInt8) : Array Value := #[.slice none 0 0, .int .i64 f, .int .i64 n, .string (bs r), .slice none 0 0, .slice none 0 0]
set_option maxRecDepth 100000 in
set_option maxHeartbeats 1000000 in
theorem sameCli_any (f n : Int) (r : List UInt8) (w : World) :
    Calls Tryd.prog 10 #[.agg (cliC f n r), .agg (cliC f n r)] w fun e w' => e = .returned (.bool true) ∧ Gr w w' := by
  have HD := sec (sameDisk0_any f)
  unfold disk0 at HD
  unfold cliC
  go_enter Tryd.func10, Tryd.ntmps10
  go_wp2_with (first
    | (go_at_call 33; refine Calls.mono (HD.out _) ?_; rintro e w1 ⟨rfl, g1⟩; have hA := ((Blk.new w 37 #[.slice none 0 0, .int .i64 f, .int .i64 n, .string (bs r), .slice none 0 0, .slice none 0 0]).alloc (.cells #[.slice none 0 0, .int .i64 f, .int .i64 n, .string (bs r), .slice none 0 0, .slice none 0 0] 37)).gr g1; have hB := (Blk.new1 w (.cells #[.slice none 0 0, .int .i64 f, .int .i64 n, .string (bs r), .slice none 0 0, .slice none 0 0] 37) 37 #[.slice none 0 0, .int .i64 f, .int .i64 n, .string (bs r), .slice none 0 0, .slice none 0 0]).gr g1; have a2 := hA.cell 2; have a3 := hA.cell 3; have a4 := hA.cell 4; have a5 := hA.cell 5; have b2 := hB.cell 2; have b3 := hB.cell 3; have b4 := hB.cell 4; have b5 := hB.cell 5)
    | (go_at_call 34; refine (sameSteps0_any _).mono ?_; rintro e w2 ⟨rfl, rfl⟩)
    | (go_at_call 35; refine (sameRefs0_any _).mono ?_; rintro e w3 ⟨rfl, rfl⟩))
  go_ret
  exact ⟨rfl, Gr.trans (((Gr.refl w).alloc _).alloc _) g1⟩
end Go.Proofs.YtjgkefjocakggaaDoor

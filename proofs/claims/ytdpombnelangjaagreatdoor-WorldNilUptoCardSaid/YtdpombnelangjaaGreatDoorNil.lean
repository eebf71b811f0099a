/-
  A world that is nil: Do, Client, Witness, Log by their contracts.
-/
import Derived.Test.YtdpombnelangjaaGreatDoorNodesV
namespace Go.Proofs.YtdpombnelangjaaGreatDoor
set_option maxRecDepth 100000
open Go.RowKit
set_option linter.unusedVariables false

def rpA (c n : Int) (id : List UInt8) : Array Value := #[.int .i64 c, .int .i64 n, .string (bs id)]
theorem aggRp : AggOk 33 3 := ⟨⟨_, Tryz.underlying33, rfl⟩, by kernel_rfl⟩
theorem rpA_one (c n : Int) (id : List UInt8) : (rpA c n id).all (·.oneCell') = true := by simp [rpA, Value.oneCell']
def ddA (k b x : Int) (r d : List UInt8) (sg : Int) (o : Bool) (z : Int) : Array Value := #[.int .i64 k, .int .i64 b, .int .i64 x, .string (bs r), .string (bs d), .int .i64 sg, .bool o, .int .i64 z]

theorem doNil_any (k b x : Int) (r d : List UInt8) (sg : Int) (o : Bool) (z : Int) (w : World) :
    Calls Tryz.prog 22 #[.pointer none, .agg (ddA k b x r d sg o z)] w fun e w' => e = .returned (.agg (rpA 7 0 [])) ∧ Gr w w' := by
  unfold ddA
  go_enter Tryz.func22, Tryz.ntmps22
  go_wp2_with (refine wpList_store_blk rfl 33 (.tmp 4) (.tmp 10) rfl (g := w.heap.size + 1) (cs' := rpA 7 0 []) rfl rfl (Blk.new1 w _ 33 (rpA 0 0 [])) aggRp rfl (rpA_one _ _ _) ?_; intro w2 h2 hg2)
  refine bodyPost_ret (results_blk rfl _ rfl h2 aggRp) rfl ?_
  exact ⟨rfl, Gr.only (((Gr.refl w).alloc _).alloc _) hg2 (Nat.le_succ _)⟩
theorem clientNil_any (i : Int) (w : World) :
    Calls Tryz.prog 24 #[.pointer none, .int .i64 i] w fun e w' => e = .returned (.agg (cliC 0 0 [])) ∧ Gr w w' := by
  go_enter Tryz.func24, Tryz.ntmps24
  go_wp2_with fail
  refine bodyPost_ret (results_blk rfl _ rfl (Blk.new w 60 (cliC 0 0 [])) A.cli) rfl ?_
  exact ⟨rfl, (Gr.refl w).alloc _⟩
theorem witnessNil_any (i : Int) (w : World) :
    Calls Tryz.prog 13 #[.pointer none, .int .i64 i] w fun e w' => e = .returned (.agg (witC 0 [] 0 0 [])) ∧ Gr w w' := by
  go_enter Tryz.func13, Tryz.ntmps13
  go_wp2_with fail
  refine bodyPost_ret (results_blk rfl _ rfl (Blk.new w 38 (witC 0 [] 0 0 [])) A.wit) rfl ?_
  exact ⟨rfl, (Gr.refl w).alloc _⟩
theorem logNil_any (i : Int) (w : World) :
    Calls Tryz.prog 26 #[.pointer none, .int .i64 i] w fun e w' => e = .returned (.slice none 0 0) ∧ Gr w w' := by
  go_enter Tryz.func26, Tryz.ntmps26
  go_wp2_with fail
  go_ret
  exact ⟨rfl, Gr.refl w⟩
end Go.Proofs.YtdpombnelangjaaGreatDoor

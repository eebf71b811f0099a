/-
  No cell of these rows narrows 'for every input' (looked for: loops, veiled, ifaces, maps, wideKeys, modest, calm, conditions, laid).
  DERIVED. THE GIVEN ROWS OF THIS SEAT. 4 by the template 'for every input the law returns true; each argument reads behind the call as it read before'; 0 by the template 'total and deterministic' (their statements: YtcfghoohdlljkaaTotals.lean).
  GIVEN WITH THE SEED: the statements are not yours to turn. If you find one false, say at which input.
  Laid BY PROGRAM, IN A SANDBOX (cutbox-rows.mjs): the forced cells as the released guide's own fill.sh prints them over the translation e7192a5ae48a2fb8… (all of the seat's roots in one cut). By AI agents, Wed Nov 11 2026. No macro, syntax, notation, axiom, sorry.
-/
import Derived.Test.YtcfghoohdlljkaaChecked
import GoSem.Claim
import GoSem.ClaimJoined
import GoSem.ClaimMapViews
import Derived.JoinedTies
import Derived.KernelRfl
namespace Go.Proofs.Ytcfghoohdlljkaa
/- THE CELL 'sum', in the pinned program and in every row, IS THE sha256 OF THE DUMP (.gsa) THAT YtcfghoohdlljkaaProg.lean LOADS. Nothing in Lean hashes anything: it is a label: what it is worth is what the hold of that sum in a sandbox is worth. -/
noncomputable def Try.pinned : Pinned := { name := "ytcfghoohdlljkaa", sum := "e7192a5ae48a2fb88b26d6795602f0340318c5107a709afff2bb4236bb34940e", checked := Try.checked }
namespace Rows
def none {H : Type} : Left H := { results := [], args := [] }

/-- 'cartularylaw.ObjectEncodes': WHATEVER THE INPUT: true; the input reads as it did. -/
def objectEncodesSpec : ChangeSpec := { name := "objectEncodes", fn := fun _ => fun
  | [d] => { results := [.lit (.bool true)], args := [d] }
  | _ => none }
def objectEncodesRow : OpenClaim := { program := "ytcfghoohdlljkaa", sum := "e7192a5ae48a2fb88b26d6795602f0340318c5107a709afff2bb4236bb34940e", func := "cartulary/cartularylaw.ObjectEncodes", spec := "objectEncodes", unfollowed := true, recurses := true, apart := false }
def ObjectEncodesSaid : Prop := objectEncodesRow.holds Try.pinned (OpenSpec.ofChange objectEncodesSpec)

/-- ITS FALSE NEIGHBOUR: 'it returns false'. Refute it at one input. -/
def objectEncodesWrong : ChangeSpec := { name := "objectEncodes", fn := fun _ => fun
  | [d] => { results := [.lit (.bool false)], args := [d] }
  | _ => none }
def ObjectEncodesWrongFalsely : Prop := objectEncodesRow.holds Try.pinned (OpenSpec.ofChange objectEncodesWrong)

/-- 'cartularylaw.DiskReads': WHATEVER THE INPUT: true; the input reads as it did. -/
def diskReadsSpec : ChangeSpec := { name := "diskReads", fn := fun _ => fun
  | [d1, d2, d3] => { results := [.lit (.bool true)], args := [d1, d2, d3] }
  | _ => none }
def diskReadsRow : OpenClaim := { program := "ytcfghoohdlljkaa", sum := "e7192a5ae48a2fb88b26d6795602f0340318c5107a709afff2bb4236bb34940e", func := "cartulary/cartularylaw.DiskReads", spec := "diskReads", inPlace := ["internal/bytealg.abigen_runtime_cmpstring", "slices.overlaps[cartulary/api.File]"], unfollowed := true, recurses := true, apart := false }
def DiskReadsSaid : Prop := diskReadsRow.holds Try.pinned (OpenSpec.ofChange diskReadsSpec)

/-- ITS FALSE NEIGHBOUR: 'it returns false'. Refute it at one input. -/
def diskReadsWrong : ChangeSpec := { name := "diskReads", fn := fun _ => fun
  | [d1, d2, d3] => { results := [.lit (.bool false)], args := [d1, d2, d3] }
  | _ => none }
def DiskReadsWrongFalsely : Prop := diskReadsRow.holds Try.pinned (OpenSpec.ofChange diskReadsWrong)

/-- 'cartularylaw.DiskSteps': WHATEVER THE INPUT: true; the input reads as it did. -/
def diskStepsSpec : ChangeSpec := { name := "diskSteps", fn := fun _ => fun
  | [d1, d2, d3, d4] => { results := [.lit (.bool true)], args := [d1, d2, d3, d4] }
  | _ => none }
def diskStepsRow : OpenClaim := { program := "ytcfghoohdlljkaa", sum := "e7192a5ae48a2fb88b26d6795602f0340318c5107a709afff2bb4236bb34940e", func := "cartulary/cartularylaw.DiskSteps", spec := "diskSteps", inPlace := ["internal/bytealg.abigen_runtime_cmpstring", "slices.overlaps[cartulary/api.File]"], unfollowed := true, recurses := true, apart := false }
def DiskStepsSaid : Prop := diskStepsRow.holds Try.pinned (OpenSpec.ofChange diskStepsSpec)

/-- ITS FALSE NEIGHBOUR: 'it returns false'. Refute it at one input. -/
def diskStepsWrong : ChangeSpec := { name := "diskSteps", fn := fun _ => fun
  | [d1, d2, d3, d4] => { results := [.lit (.bool false)], args := [d1, d2, d3, d4] }
  | _ => none }
def DiskStepsWrongFalsely : Prop := diskStepsRow.holds Try.pinned (OpenSpec.ofChange diskStepsWrong)

/-- 'cartularylaw.DiskSaves': WHATEVER THE INPUT: true; the input reads as it did. -/
def diskSavesSpec : ChangeSpec := { name := "diskSaves", fn := fun _ => fun
  | [d1, d2, d3] => { results := [.lit (.bool true)], args := [d1, d2, d3] }
  | _ => none }
def diskSavesRow : OpenClaim := { program := "ytcfghoohdlljkaa", sum := "e7192a5ae48a2fb88b26d6795602f0340318c5107a709afff2bb4236bb34940e", func := "cartulary/cartularylaw.DiskSaves", spec := "diskSaves", inPlace := ["internal/bytealg.abigen_runtime_cmpstring", "slices.overlaps[cartulary/api.File]"], unfollowed := true, recurses := true, apart := false }
def DiskSavesSaid : Prop := diskSavesRow.holds Try.pinned (OpenSpec.ofChange diskSavesSpec)

/-- ITS FALSE NEIGHBOUR: 'it returns false'. Refute it at one input. -/
def diskSavesWrong : ChangeSpec := { name := "diskSaves", fn := fun _ => fun
  | [d1, d2, d3] => { results := [.lit (.bool false)], args := [d1, d2, d3] }
  | _ => none }
def DiskSavesWrongFalsely : Prop := diskSavesRow.holds Try.pinned (OpenSpec.ofChange diskSavesWrong)

/- THE SECOND FORM. 'bulk': how many values and letters a reading holds, each counted each time it is reached (what is shared counts as often as it is met; a slice's spare places count too). A statement '..UptoSaid' is the law's where the arguments, and the package variables that the reading takes, are together of bulk at most 1048576: NARROWER than '..Said'. Prove '..Said' where nothing that the law and all that it calls make is longer than what came in: it says more and counts as full. Else prove '..UptoSaid'. A law counts once. -/
mutual
def uptoBulk {H : Type} : DataW H → Nat
  | .lit (.string bytes) => bytes.length + 1
  | .lit _ => 1
  | .nil => 1
  | .ptr d => uptoBulk d + 1
  | .slice elems spare => uptoBulkAll elems + uptoBulkAll spare + 1
  | .agg parts => uptoBulkAll parts + 1
  | .iface _ d => uptoBulk d + 1
  | .map entries => uptoBulkEntries entries + 1
  | .held _ => 1
def uptoBulkAll {H : Type} : List (DataW H) → Nat
  | [] => 0
  | d :: r => uptoBulk d + uptoBulkAll r
def uptoBulkEntries {H : Type} : List (Lit × DataW H) → Nat
  | [] => 0
  | x :: r => uptoBulkEntry x + uptoBulkEntries r
def uptoBulkEntry {H : Type} : Lit × DataW H → Nat
  | (.string bytes, d) => bytes.length + uptoBulk d + 1
  | (_, d) => uptoBulk d + 1
 end
def uptoSmall : (H : Type) → List (DataW H) → Bool := fun _ ds => decide (uptoBulkAll ds ≤ 1048576)
def OpenSpec.upto (s : _root_.Go.ChangeSpec) : _root_.Go.OpenSpec := { _root_.Go.OpenSpec.ofChange s with cond := some uptoSmall }

/-- 'cartularylaw.ObjectEncodes', WHERE WHAT IT READS IS OF BULK AT MOST 1048576: true; the input reads as it did. -/
def objectEncodesUptoRow : OpenClaim := { program := "ytcfghoohdlljkaa", sum := "e7192a5ae48a2fb88b26d6795602f0340318c5107a709afff2bb4236bb34940e", func := "cartulary/cartularylaw.ObjectEncodes", spec := "objectEncodes", unfollowed := true, recurses := true, apart := false, narrowed := true }
def ObjectEncodesUptoSaid : Prop := objectEncodesUptoRow.holds Try.pinned (OpenSpec.upto objectEncodesSpec)

/-- 'cartularylaw.DiskReads', WHERE WHAT IT READS IS OF BULK AT MOST 1048576: true; the input reads as it did. -/
def diskReadsUptoRow : OpenClaim := { program := "ytcfghoohdlljkaa", sum := "e7192a5ae48a2fb88b26d6795602f0340318c5107a709afff2bb4236bb34940e", func := "cartulary/cartularylaw.DiskReads", spec := "diskReads", inPlace := ["internal/bytealg.abigen_runtime_cmpstring", "slices.overlaps[cartulary/api.File]"], unfollowed := true, recurses := true, apart := false, narrowed := true }
def DiskReadsUptoSaid : Prop := diskReadsUptoRow.holds Try.pinned (OpenSpec.upto diskReadsSpec)

/-- 'cartularylaw.DiskSteps', WHERE WHAT IT READS IS OF BULK AT MOST 1048576: true; the input reads as it did. -/
def diskStepsUptoRow : OpenClaim := { program := "ytcfghoohdlljkaa", sum := "e7192a5ae48a2fb88b26d6795602f0340318c5107a709afff2bb4236bb34940e", func := "cartulary/cartularylaw.DiskSteps", spec := "diskSteps", inPlace := ["internal/bytealg.abigen_runtime_cmpstring", "slices.overlaps[cartulary/api.File]"], unfollowed := true, recurses := true, apart := false, narrowed := true }
def DiskStepsUptoSaid : Prop := diskStepsUptoRow.holds Try.pinned (OpenSpec.upto diskStepsSpec)

/-- 'cartularylaw.DiskSaves', WHERE WHAT IT READS IS OF BULK AT MOST 1048576: true; the input reads as it did. -/
def diskSavesUptoRow : OpenClaim := { program := "ytcfghoohdlljkaa", sum := "e7192a5ae48a2fb88b26d6795602f0340318c5107a709afff2bb4236bb34940e", func := "cartulary/cartularylaw.DiskSaves", spec := "diskSaves", inPlace := ["internal/bytealg.abigen_runtime_cmpstring", "slices.overlaps[cartulary/api.File]"], unfollowed := true, recurses := true, apart := false, narrowed := true }
def DiskSavesUptoSaid : Prop := diskSavesUptoRow.holds Try.pinned (OpenSpec.upto diskSavesSpec)

end Rows
end Go.Proofs.Ytcfghoohdlljkaa

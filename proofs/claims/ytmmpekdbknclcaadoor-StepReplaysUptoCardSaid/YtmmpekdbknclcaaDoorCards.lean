/-
  DERIVED. GIVEN WITH THE SEED: THE CARDS: each row of YtmmpekdbknclcaaDoorRows.lean that lists a variable, with what it lists TIED to the program's text (the seventh form; the later family's looks); each row that meets fmt, with fmt's text TOLD by the authors' own Lean function (tested against real Go, not proved from fmt's source: count such statements apart). THE CARD IS WHAT COUNTS. Prove the row's statement (the work); the ties are given (YtmmpekdbknclcaaDoorTie.lean); close each card by the builder's one call (the guide's Derived/Test/ToyasCard.lean, 'card_holds'). Laid BY PROGRAM, IN A SANDBOX (cutbox-door.mjs). By AI agents, Wed Nov 11 2026. No macro, syntax, notation, axiom, sorry.
-/
import Derived.Test.YtmmpekdbknclcaaDoorRows
import GoSem.ClaimSeven
namespace Go.Proofs.YtmmpekdbknclcaaDoor
namespace Rows

/-- THE TIED CARD OF 'cartularylaw.StepReplays'. -/
def stepReplaysCard : Claim7 := { stood := { row := stepReplaysRow, standIns := [], harness := (true, "c2cf3f4b524dca1f1bff91f90f15c283dc799663342a47c71e6eb5a0c8cf218f"), looks := false }, kinds := [], alts := [], laidByText := true, laidKinds := [.data, .data, .pinned], laidTests := true, laidLooks := .later }
def StepReplaysCardSaid : Prop := Claim7.holds Tryd.pinned (.plain (OpenSpec.ofChange stepReplaysSpec)) stepReplaysCard

/-- THE SECOND FORM's CARD OF 'cartularylaw.StepReplays'. -/
def stepReplaysUptoCard : Claim7 := { stood := { row := stepReplaysUptoRow, standIns := [], harness := (true, "c2cf3f4b524dca1f1bff91f90f15c283dc799663342a47c71e6eb5a0c8cf218f"), looks := false }, kinds := [], alts := [], laidByText := true, laidKinds := [.data, .data, .pinned], laidTests := true, laidLooks := .later }
def StepReplaysUptoCardSaid : Prop := Claim7.holds Tryd.pinned (.plain (OpenSpec.upto stepReplaysSpec)) stepReplaysUptoCard
end Rows
end Go.Proofs.YtmmpekdbknclcaaDoor

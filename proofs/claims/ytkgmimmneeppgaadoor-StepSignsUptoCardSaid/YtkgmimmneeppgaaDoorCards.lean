/-
  DERIVED. GIVEN WITH THE SEED: THE CARDS: each row of YtkgmimmneeppgaaDoorRows.lean that lists a variable, with what it lists TIED to the program's text (the seventh form; the later family's looks); each row that meets fmt, with fmt's text TOLD by the authors' own Lean function (tested against real Go, not proved from fmt's source: count such statements apart). THE CARD IS WHAT COUNTS. Prove the row's statement (the work); the ties are given (YtkgmimmneeppgaaDoorTie.lean); close each card by the builder's one call (the guide's Derived/Test/ToyasCard.lean, 'card_holds'). Laid BY PROGRAM, IN A SANDBOX (cutbox-door.mjs). By AI agents, Wed Nov 11 2026. No macro, syntax, notation, axiom, sorry.
-/
import Derived.Test.YtkgmimmneeppgaaDoorRows
import GoSem.ClaimSeven
namespace Go.Proofs.YtkgmimmneeppgaaDoor
namespace Rows

/-- THE TIED CARD OF 'cartularylaw.HeadChecks'. -/
def headChecksCard : Claim7 := { stood := { row := headChecksRow, standIns := [], harness := (true, "4da41b546e318798ef3287017e7bd3ce7c791f6bf29103d008210bf8dba0cd48"), looks := false }, kinds := [], alts := [], laidByText := true, laidKinds := [.data, .data, .pinned], laidTests := true, laidLooks := .later }
def HeadChecksCardSaid : Prop := Claim7.holds Tryd.pinned (.plain (OpenSpec.ofChange headChecksSpec)) headChecksCard

/-- THE TIED CARD OF 'cartularylaw.HeadSteps'. -/
def headStepsCard : Claim7 := { stood := { row := headStepsRow, standIns := [], harness := (true, "4da41b546e318798ef3287017e7bd3ce7c791f6bf29103d008210bf8dba0cd48"), looks := false }, kinds := [], alts := [], laidByText := true, laidKinds := [.data, .data, .pinned], laidTests := true, laidLooks := .later }
def HeadStepsCardSaid : Prop := Claim7.holds Tryd.pinned (.plain (OpenSpec.ofChange headStepsSpec)) headStepsCard

/-- THE TIED CARD OF 'cartularylaw.StepEncodes'. -/
def stepEncodesCard : Claim7 := { stood := { row := stepEncodesRow, standIns := [], harness := (true, "4da41b546e318798ef3287017e7bd3ce7c791f6bf29103d008210bf8dba0cd48"), looks := false }, kinds := [], alts := [], laidByText := true, laidKinds := [.data, .data, .pinned], laidTests := true, laidLooks := .later }
def StepEncodesCardSaid : Prop := Claim7.holds Tryd.pinned (.plain (OpenSpec.ofChange stepEncodesSpec)) stepEncodesCard

/-- THE TIED CARD OF 'cartularylaw.StepDecodes'. -/
def stepDecodesCard : Claim7 := { stood := { row := stepDecodesRow, standIns := [], harness := (true, "4da41b546e318798ef3287017e7bd3ce7c791f6bf29103d008210bf8dba0cd48"), looks := false }, kinds := [], alts := [], laidByText := true, laidKinds := [.data, .data, .pinned], laidTests := true, laidLooks := .later }
def StepDecodesCardSaid : Prop := Claim7.holds Tryd.pinned (.plain (OpenSpec.ofChange stepDecodesSpec)) stepDecodesCard

/-- THE TIED CARD OF 'cartularylaw.StepSigns'. -/
def stepSignsCard : Claim7 := { stood := { row := stepSignsRow, standIns := [], harness := (true, "4da41b546e318798ef3287017e7bd3ce7c791f6bf29103d008210bf8dba0cd48"), looks := false }, kinds := [], alts := [], laidByText := true, laidKinds := [.data, .data, .pinned], laidTests := true, laidLooks := .later }
def StepSignsCardSaid : Prop := Claim7.holds Tryd.pinned (.plain (OpenSpec.ofChange stepSignsSpec)) stepSignsCard

/-- THE TIED CARD OF 'cartularylaw.StepChecks'. -/
def stepChecksCard : Claim7 := { stood := { row := stepChecksRow, standIns := [], harness := (true, "4da41b546e318798ef3287017e7bd3ce7c791f6bf29103d008210bf8dba0cd48"), looks := false }, kinds := [], alts := [], laidByText := true, laidKinds := [.data, .data, .pinned], laidTests := true, laidLooks := .later }
def StepChecksCardSaid : Prop := Claim7.holds Tryd.pinned (.plain (OpenSpec.ofChange stepChecksSpec)) stepChecksCard

/-- THE SECOND FORM's CARD OF 'cartularylaw.HeadChecks'. -/
def headChecksUptoCard : Claim7 := { stood := { row := headChecksUptoRow, standIns := [], harness := (true, "4da41b546e318798ef3287017e7bd3ce7c791f6bf29103d008210bf8dba0cd48"), looks := false }, kinds := [], alts := [], laidByText := true, laidKinds := [.data, .data, .pinned], laidTests := true, laidLooks := .later }
def HeadChecksUptoCardSaid : Prop := Claim7.holds Tryd.pinned (.plain (OpenSpec.upto headChecksSpec)) headChecksUptoCard

/-- THE SECOND FORM's CARD OF 'cartularylaw.HeadSteps'. -/
def headStepsUptoCard : Claim7 := { stood := { row := headStepsUptoRow, standIns := [], harness := (true, "4da41b546e318798ef3287017e7bd3ce7c791f6bf29103d008210bf8dba0cd48"), looks := false }, kinds := [], alts := [], laidByText := true, laidKinds := [.data, .data, .pinned], laidTests := true, laidLooks := .later }
def HeadStepsUptoCardSaid : Prop := Claim7.holds Tryd.pinned (.plain (OpenSpec.upto headStepsSpec)) headStepsUptoCard

/-- THE SECOND FORM's CARD OF 'cartularylaw.StepEncodes'. -/
def stepEncodesUptoCard : Claim7 := { stood := { row := stepEncodesUptoRow, standIns := [], harness := (true, "4da41b546e318798ef3287017e7bd3ce7c791f6bf29103d008210bf8dba0cd48"), looks := false }, kinds := [], alts := [], laidByText := true, laidKinds := [.data, .data, .pinned], laidTests := true, laidLooks := .later }
def StepEncodesUptoCardSaid : Prop := Claim7.holds Tryd.pinned (.plain (OpenSpec.upto stepEncodesSpec)) stepEncodesUptoCard

/-- THE SECOND FORM's CARD OF 'cartularylaw.StepDecodes'. -/
def stepDecodesUptoCard : Claim7 := { stood := { row := stepDecodesUptoRow, standIns := [], harness := (true, "4da41b546e318798ef3287017e7bd3ce7c791f6bf29103d008210bf8dba0cd48"), looks := false }, kinds := [], alts := [], laidByText := true, laidKinds := [.data, .data, .pinned], laidTests := true, laidLooks := .later }
def StepDecodesUptoCardSaid : Prop := Claim7.holds Tryd.pinned (.plain (OpenSpec.upto stepDecodesSpec)) stepDecodesUptoCard

/-- THE SECOND FORM's CARD OF 'cartularylaw.StepSigns'. -/
def stepSignsUptoCard : Claim7 := { stood := { row := stepSignsUptoRow, standIns := [], harness := (true, "4da41b546e318798ef3287017e7bd3ce7c791f6bf29103d008210bf8dba0cd48"), looks := false }, kinds := [], alts := [], laidByText := true, laidKinds := [.data, .data, .pinned], laidTests := true, laidLooks := .later }
def StepSignsUptoCardSaid : Prop := Claim7.holds Tryd.pinned (.plain (OpenSpec.upto stepSignsSpec)) stepSignsUptoCard

/-- THE SECOND FORM's CARD OF 'cartularylaw.StepChecks'. -/
def stepChecksUptoCard : Claim7 := { stood := { row := stepChecksUptoRow, standIns := [], harness := (true, "4da41b546e318798ef3287017e7bd3ce7c791f6bf29103d008210bf8dba0cd48"), looks := false }, kinds := [], alts := [], laidByText := true, laidKinds := [.data, .data, .pinned], laidTests := true, laidLooks := .later }
def StepChecksUptoCardSaid : Prop := Claim7.holds Tryd.pinned (.plain (OpenSpec.upto stepChecksSpec)) stepChecksUptoCard
end Rows
end Go.Proofs.YtkgmimmneeppgaaDoor

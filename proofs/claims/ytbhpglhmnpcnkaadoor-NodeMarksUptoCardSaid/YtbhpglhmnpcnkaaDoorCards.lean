/-
  DERIVED. GIVEN WITH THE SEED: THE CARDS: each row of YtbhpglhmnpcnkaaDoorRows.lean that lists a variable, with what it lists TIED to the program's text (the seventh form; the later family's looks); each row that meets fmt, with fmt's text TOLD by the authors' own Lean function (tested against real Go, not proved from fmt's source: count such statements apart). THE CARD IS WHAT COUNTS. Prove the row's statement (the work); the ties are given (YtbhpglhmnpcnkaaDoorTie.lean); close each card by the builder's one call (the guide's Derived/Test/ToyasCard.lean, 'card_holds'). Laid BY PROGRAM, IN A SANDBOX (cutbox-door.mjs). By AI agents, Wed Nov 11 2026. No macro, syntax, notation, axiom, sorry.
-/
import Derived.Test.YtbhpglhmnpcnkaaDoorRows
import GoSem.ClaimSeven
namespace Go.Proofs.YtbhpglhmnpcnkaaDoor
namespace Rows

/-- THE TIED CARD OF 'cartularylaw.NodeWakes'. -/
def nodeWakesCard : Claim7 := { stood := { row := nodeWakesRow, standIns := [], harness := (true, "4eb9d8af405c028c4895c5bb458761eb53b33034c39c6b8503c1b1961d515050"), looks := false }, kinds := [], alts := [], laidByText := true, laidKinds := [.data], laidTests := true, laidLooks := .later }
def NodeWakesCardSaid : Prop := Claim7.holds Tryd.pinned (.plain (OpenSpec.ofChange nodeWakesSpec)) nodeWakesCard

/-- THE TIED CARD OF 'cartularylaw.HeadMarks'. -/
def headMarksCard : Claim7 := { stood := { row := headMarksRow, standIns := [], harness := (true, "4eb9d8af405c028c4895c5bb458761eb53b33034c39c6b8503c1b1961d515050"), looks := false }, kinds := [], alts := [], laidByText := true, laidKinds := [.data, .data, .pinned], laidTests := true, laidLooks := .later }
def HeadMarksCardSaid : Prop := Claim7.holds Tryd.pinned (.plain (OpenSpec.ofChange headMarksSpec)) headMarksCard

/-- THE TIED CARD OF 'cartularylaw.HeadTexts'. -/
def headTextsCard : Claim7 := { stood := { row := headTextsRow, standIns := [], harness := (true, "4eb9d8af405c028c4895c5bb458761eb53b33034c39c6b8503c1b1961d515050"), looks := false }, kinds := [], alts := [], laidByText := true, laidKinds := [.data, .data, .pinned], laidTests := true, laidLooks := .later }
def HeadTextsCardSaid : Prop := Claim7.holds Tryd.pinned (.plain (OpenSpec.ofChange headTextsSpec)) headTextsCard

/-- THE TIED CARD OF 'cartularylaw.NodeMarks'. -/
def nodeMarksCard : Claim7 := { stood := { row := nodeMarksRow, standIns := [], harness := (true, "4eb9d8af405c028c4895c5bb458761eb53b33034c39c6b8503c1b1961d515050"), looks := false }, kinds := [], alts := [], laidByText := true, laidKinds := [.data], laidTests := true, laidLooks := .later }
def NodeMarksCardSaid : Prop := Claim7.holds Tryd.pinned (.plain (OpenSpec.ofChange nodeMarksSpec)) nodeMarksCard

/-- THE SECOND FORM's CARD OF 'cartularylaw.NodeWakes'. -/
def nodeWakesUptoCard : Claim7 := { stood := { row := nodeWakesUptoRow, standIns := [], harness := (true, "4eb9d8af405c028c4895c5bb458761eb53b33034c39c6b8503c1b1961d515050"), looks := false }, kinds := [], alts := [], laidByText := true, laidKinds := [.data], laidTests := true, laidLooks := .later }
def NodeWakesUptoCardSaid : Prop := Claim7.holds Tryd.pinned (.plain (OpenSpec.upto nodeWakesSpec)) nodeWakesUptoCard

/-- THE SECOND FORM's CARD OF 'cartularylaw.HeadMarks'. -/
def headMarksUptoCard : Claim7 := { stood := { row := headMarksUptoRow, standIns := [], harness := (true, "4eb9d8af405c028c4895c5bb458761eb53b33034c39c6b8503c1b1961d515050"), looks := false }, kinds := [], alts := [], laidByText := true, laidKinds := [.data, .data, .pinned], laidTests := true, laidLooks := .later }
def HeadMarksUptoCardSaid : Prop := Claim7.holds Tryd.pinned (.plain (OpenSpec.upto headMarksSpec)) headMarksUptoCard

/-- THE SECOND FORM's CARD OF 'cartularylaw.HeadTexts'. -/
def headTextsUptoCard : Claim7 := { stood := { row := headTextsUptoRow, standIns := [], harness := (true, "4eb9d8af405c028c4895c5bb458761eb53b33034c39c6b8503c1b1961d515050"), looks := false }, kinds := [], alts := [], laidByText := true, laidKinds := [.data, .data, .pinned], laidTests := true, laidLooks := .later }
def HeadTextsUptoCardSaid : Prop := Claim7.holds Tryd.pinned (.plain (OpenSpec.upto headTextsSpec)) headTextsUptoCard

/-- THE SECOND FORM's CARD OF 'cartularylaw.NodeMarks'. -/
def nodeMarksUptoCard : Claim7 := { stood := { row := nodeMarksUptoRow, standIns := [], harness := (true, "4eb9d8af405c028c4895c5bb458761eb53b33034c39c6b8503c1b1961d515050"), looks := false }, kinds := [], alts := [], laidByText := true, laidKinds := [.data], laidTests := true, laidLooks := .later }
def NodeMarksUptoCardSaid : Prop := Claim7.holds Tryd.pinned (.plain (OpenSpec.upto nodeMarksSpec)) nodeMarksUptoCard
end Rows
end Go.Proofs.YtbhpglhmnpcnkaaDoor

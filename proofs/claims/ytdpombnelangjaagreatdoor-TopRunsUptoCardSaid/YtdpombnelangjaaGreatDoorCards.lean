/-
  DERIVED. GIVEN WITH THE SEED: THE CARDS: each row of YtdpombnelangjaaGreatDoorRows.lean that lists a variable, with what it lists TIED to the program's text (the seventh form; the later family's looks); each row that meets fmt, with fmt's text TOLD by the authors' own Lean function (tested against real Go, not proved from fmt's source: count such statements apart). THE CARD IS WHAT COUNTS. Prove the row's statement (the work); the ties are given (YtdpombnelangjaaGreatDoorTie.lean); close each card by the builder's one call (the guide's Derived/Test/ToyasCard.lean, 'card_holds'). Laid BY PROGRAM, IN A SANDBOX (cutbox-door.mjs). By AI agents, Wed Nov 11 2026. No macro, syntax, notation, axiom, sorry.
-/
import Derived.Test.YtdpombnelangjaaGreatDoorRows
import GoSem.ClaimSeven
namespace Go.Proofs.YtdpombnelangjaaGreatDoor
namespace Rows

/-- THE TIED CARD OF 'cartularytop.TopWitness'. -/
def topWitnessCard : Claim7 := { stood := { row := topWitnessRow, standIns := [], harness := (true, "ae4b5d3788683dadc990ebeae81ba2e8caa2b07af3d73a6beab57bc681a535a9"), looks := false }, kinds := [], alts := [], laidByText := true, laidKinds := [.data, .data, .pinned], laidTests := true, laidLooks := .later }
def TopWitnessCardSaid : Prop := Claim7.holds Tryz.pinned (.plain (OpenSpec.ofChange topWitnessSpec)) topWitnessCard

/-- THE TIED CARD OF 'cartularytop.TopRuns'. -/
def topRunsCard : Claim7 := { stood := { row := topRunsRow, standIns := [], harness := (true, "ae4b5d3788683dadc990ebeae81ba2e8caa2b07af3d73a6beab57bc681a535a9"), looks := false }, kinds := [], alts := [], laidByText := true, laidKinds := [.data, .data, .pinned], laidTests := true, laidLooks := .later }
def TopRunsCardSaid : Prop := Claim7.holds Tryz.pinned (.plain (OpenSpec.ofChange topRunsSpec)) topRunsCard

/-- THE TIED CARD OF 'cartularytop.TopWhole'. -/
def topWholeCard : Claim7 := { stood := { row := topWholeRow, standIns := [], harness := (true, "ae4b5d3788683dadc990ebeae81ba2e8caa2b07af3d73a6beab57bc681a535a9"), looks := false }, kinds := [], alts := [], laidByText := true, laidKinds := [.data, .data, .pinned], laidTests := true, laidLooks := .later }
def TopWholeCardSaid : Prop := Claim7.holds Tryz.pinned (.plain (OpenSpec.ofChange topWholeSpec)) topWholeCard

/-- THE TIED CARD OF 'cartularylaw.WorldNil'. -/
def worldNilCard : Claim7 := { stood := { row := worldNilRow, standIns := [], harness := (true, "ae4b5d3788683dadc990ebeae81ba2e8caa2b07af3d73a6beab57bc681a535a9"), looks := false }, kinds := [], alts := [], laidByText := true, laidKinds := [.data, .data, .pinned], laidTests := true, laidLooks := .later }
def WorldNilCardSaid : Prop := Claim7.holds Tryz.pinned (.plain (OpenSpec.ofChange worldNilSpec)) worldNilCard

/-- THE TIED CARD OF 'cartularytop.TopWakes'. -/
def topWakesCard : Claim7 := { stood := { row := topWakesRow, standIns := [], harness := (true, "ae4b5d3788683dadc990ebeae81ba2e8caa2b07af3d73a6beab57bc681a535a9"), looks := false }, kinds := [], alts := [], laidByText := true, laidKinds := [.data, .data, .pinned], laidTests := true, laidLooks := .later }
def TopWakesCardSaid : Prop := Claim7.holds Tryz.pinned (.plain (OpenSpec.ofChange topWakesSpec)) topWakesCard

/-- THE TIED CARD OF 'cartularytop.TopMemory'. -/
def topMemoryCard : Claim7 := { stood := { row := topMemoryRow, standIns := [], harness := (true, "ae4b5d3788683dadc990ebeae81ba2e8caa2b07af3d73a6beab57bc681a535a9"), looks := false }, kinds := [], alts := [], laidByText := true, laidKinds := [.data, .data, .pinned], laidTests := true, laidLooks := .later }
def TopMemoryCardSaid : Prop := Claim7.holds Tryz.pinned (.plain (OpenSpec.ofChange topMemorySpec)) topMemoryCard

/-- THE TIED CARD OF 'cartularytop.TopOrder'. -/
def topOrderCard : Claim7 := { stood := { row := topOrderRow, standIns := [], harness := (true, "ae4b5d3788683dadc990ebeae81ba2e8caa2b07af3d73a6beab57bc681a535a9"), looks := false }, kinds := [], alts := [], laidByText := true, laidKinds := [.data, .data, .pinned], laidTests := true, laidLooks := .later }
def TopOrderCardSaid : Prop := Claim7.holds Tryz.pinned (.plain (OpenSpec.ofChange topOrderSpec)) topOrderCard

/-- THE TIED CARD OF 'cartularytop.TopFork'. -/
def topForkCard : Claim7 := { stood := { row := topForkRow, standIns := [], harness := (true, "ae4b5d3788683dadc990ebeae81ba2e8caa2b07af3d73a6beab57bc681a535a9"), looks := false }, kinds := [], alts := [], laidByText := true, laidKinds := [.data, .data, .pinned], laidTests := true, laidLooks := .later }
def TopForkCardSaid : Prop := Claim7.holds Tryz.pinned (.plain (OpenSpec.ofChange topForkSpec)) topForkCard

/-- THE SECOND FORM's CARD OF 'cartularytop.TopWitness'. -/
def topWitnessUptoCard : Claim7 := { stood := { row := topWitnessUptoRow, standIns := [], harness := (true, "ae4b5d3788683dadc990ebeae81ba2e8caa2b07af3d73a6beab57bc681a535a9"), looks := false }, kinds := [], alts := [], laidByText := true, laidKinds := [.data, .data, .pinned], laidTests := true, laidLooks := .later }
def TopWitnessUptoCardSaid : Prop := Claim7.holds Tryz.pinned (.plain (OpenSpec.upto topWitnessSpec)) topWitnessUptoCard

/-- THE SECOND FORM's CARD OF 'cartularytop.TopRuns'. -/
def topRunsUptoCard : Claim7 := { stood := { row := topRunsUptoRow, standIns := [], harness := (true, "ae4b5d3788683dadc990ebeae81ba2e8caa2b07af3d73a6beab57bc681a535a9"), looks := false }, kinds := [], alts := [], laidByText := true, laidKinds := [.data, .data, .pinned], laidTests := true, laidLooks := .later }
def TopRunsUptoCardSaid : Prop := Claim7.holds Tryz.pinned (.plain (OpenSpec.upto topRunsSpec)) topRunsUptoCard

/-- THE SECOND FORM's CARD OF 'cartularytop.TopWhole'. -/
def topWholeUptoCard : Claim7 := { stood := { row := topWholeUptoRow, standIns := [], harness := (true, "ae4b5d3788683dadc990ebeae81ba2e8caa2b07af3d73a6beab57bc681a535a9"), looks := false }, kinds := [], alts := [], laidByText := true, laidKinds := [.data, .data, .pinned], laidTests := true, laidLooks := .later }
def TopWholeUptoCardSaid : Prop := Claim7.holds Tryz.pinned (.plain (OpenSpec.upto topWholeSpec)) topWholeUptoCard

/-- THE SECOND FORM's CARD OF 'cartularylaw.WorldNil'. -/
def worldNilUptoCard : Claim7 := { stood := { row := worldNilUptoRow, standIns := [], harness := (true, "ae4b5d3788683dadc990ebeae81ba2e8caa2b07af3d73a6beab57bc681a535a9"), looks := false }, kinds := [], alts := [], laidByText := true, laidKinds := [.data, .data, .pinned], laidTests := true, laidLooks := .later }
def WorldNilUptoCardSaid : Prop := Claim7.holds Tryz.pinned (.plain (OpenSpec.upto worldNilSpec)) worldNilUptoCard

/-- THE SECOND FORM's CARD OF 'cartularytop.TopWakes'. -/
def topWakesUptoCard : Claim7 := { stood := { row := topWakesUptoRow, standIns := [], harness := (true, "ae4b5d3788683dadc990ebeae81ba2e8caa2b07af3d73a6beab57bc681a535a9"), looks := false }, kinds := [], alts := [], laidByText := true, laidKinds := [.data, .data, .pinned], laidTests := true, laidLooks := .later }
def TopWakesUptoCardSaid : Prop := Claim7.holds Tryz.pinned (.plain (OpenSpec.upto topWakesSpec)) topWakesUptoCard

/-- THE SECOND FORM's CARD OF 'cartularytop.TopMemory'. -/
def topMemoryUptoCard : Claim7 := { stood := { row := topMemoryUptoRow, standIns := [], harness := (true, "ae4b5d3788683dadc990ebeae81ba2e8caa2b07af3d73a6beab57bc681a535a9"), looks := false }, kinds := [], alts := [], laidByText := true, laidKinds := [.data, .data, .pinned], laidTests := true, laidLooks := .later }
def TopMemoryUptoCardSaid : Prop := Claim7.holds Tryz.pinned (.plain (OpenSpec.upto topMemorySpec)) topMemoryUptoCard

/-- THE SECOND FORM's CARD OF 'cartularytop.TopOrder'. -/
def topOrderUptoCard : Claim7 := { stood := { row := topOrderUptoRow, standIns := [], harness := (true, "ae4b5d3788683dadc990ebeae81ba2e8caa2b07af3d73a6beab57bc681a535a9"), looks := false }, kinds := [], alts := [], laidByText := true, laidKinds := [.data, .data, .pinned], laidTests := true, laidLooks := .later }
def TopOrderUptoCardSaid : Prop := Claim7.holds Tryz.pinned (.plain (OpenSpec.upto topOrderSpec)) topOrderUptoCard

/-- THE SECOND FORM's CARD OF 'cartularytop.TopFork'. -/
def topForkUptoCard : Claim7 := { stood := { row := topForkUptoRow, standIns := [], harness := (true, "ae4b5d3788683dadc990ebeae81ba2e8caa2b07af3d73a6beab57bc681a535a9"), looks := false }, kinds := [], alts := [], laidByText := true, laidKinds := [.data, .data, .pinned], laidTests := true, laidLooks := .later }
def TopForkUptoCardSaid : Prop := Claim7.holds Tryz.pinned (.plain (OpenSpec.upto topForkSpec)) topForkUptoCard
end Rows
end Go.Proofs.YtdpombnelangjaaGreatDoor

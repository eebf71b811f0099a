/-
  DERIVED. GIVEN WITH THE SEED: THE CARDS: each row of YtojiheelacmniaaDoorRows.lean that lists a variable, with what it lists TIED to the program's text (the seventh form; the later family's looks); each row that meets fmt, with fmt's text TOLD by the authors' own Lean function (tested against real Go, not proved from fmt's source: count such statements apart). THE CARD IS WHAT COUNTS. Prove the row's statement (the work); the ties are given (YtojiheelacmniaaDoorTie.lean); close each card by the builder's one call (the guide's Derived/Test/ToyasCard.lean, 'card_holds'). Laid BY PROGRAM, IN A SANDBOX (cutbox-door.mjs). By AI agents, Wed Nov 11 2026. No macro, syntax, notation, axiom, sorry.
-/
import Derived.Test.YtojiheelacmniaaDoorRows
import GoSem.ClaimSeven
namespace Go.Proofs.YtojiheelacmniaaDoor
namespace Rows

/-- THE TIED CARD OF 'cartularylaw.SumSums'. -/
def sumSumsCard : Claim7 := { stood := { row := sumSumsRow, standIns := [], harness := (true, "030e30f76dc0b79fd6411b4b255a10693c2a304cc64fb8aa4f9c0b0c8acf6107"), looks := false }, kinds := [], alts := [], laidByText := true, laidKinds := [.data], laidTests := true, laidLooks := .later }
def SumSumsCardSaid : Prop := Claim7.holds Tryd.pinned (.plain (OpenSpec.ofChange sumSumsSpec)) sumSumsCard

/-- THE TIED CARD OF 'cartularylaw.SumAdds'. -/
def sumAddsCard : Claim7 := { stood := { row := sumAddsRow, standIns := [], harness := (true, "030e30f76dc0b79fd6411b4b255a10693c2a304cc64fb8aa4f9c0b0c8acf6107"), looks := false }, kinds := [], alts := [], laidByText := true, laidKinds := [.data], laidTests := true, laidLooks := .later }
def SumAddsCardSaid : Prop := Claim7.holds Tryd.pinned (.plain (OpenSpec.ofChange sumAddsSpec)) sumAddsCard

/-- THE TIED CARD OF 'cartularylaw.SumSeals'. -/
def sumSealsCard : Claim7 := { stood := { row := sumSealsRow, standIns := [], harness := (true, "030e30f76dc0b79fd6411b4b255a10693c2a304cc64fb8aa4f9c0b0c8acf6107"), looks := false }, kinds := [], alts := [], laidByText := true, laidKinds := [.data], laidTests := true, laidLooks := .later }
def SumSealsCardSaid : Prop := Claim7.holds Tryd.pinned (.plain (OpenSpec.ofChange sumSealsSpec)) sumSealsCard

/-- THE TIED CARD OF 'cartularylaw.SumHexes'. -/
def sumHexesCard : Claim7 := { stood := { row := sumHexesRow, standIns := [], harness := (true, "030e30f76dc0b79fd6411b4b255a10693c2a304cc64fb8aa4f9c0b0c8acf6107"), looks := false }, kinds := [], alts := [], laidByText := true, laidKinds := [.data], laidTests := true, laidLooks := .later }
def SumHexesCardSaid : Prop := Claim7.holds Tryd.pinned (.plain (OpenSpec.ofChange sumHexesSpec)) sumHexesCard

/-- THE SECOND FORM's CARD OF 'cartularylaw.SumSums'. -/
def sumSumsUptoCard : Claim7 := { stood := { row := sumSumsUptoRow, standIns := [], harness := (true, "030e30f76dc0b79fd6411b4b255a10693c2a304cc64fb8aa4f9c0b0c8acf6107"), looks := false }, kinds := [], alts := [], laidByText := true, laidKinds := [.data], laidTests := true, laidLooks := .later }
def SumSumsUptoCardSaid : Prop := Claim7.holds Tryd.pinned (.plain (OpenSpec.upto sumSumsSpec)) sumSumsUptoCard

/-- THE SECOND FORM's CARD OF 'cartularylaw.SumAdds'. -/
def sumAddsUptoCard : Claim7 := { stood := { row := sumAddsUptoRow, standIns := [], harness := (true, "030e30f76dc0b79fd6411b4b255a10693c2a304cc64fb8aa4f9c0b0c8acf6107"), looks := false }, kinds := [], alts := [], laidByText := true, laidKinds := [.data], laidTests := true, laidLooks := .later }
def SumAddsUptoCardSaid : Prop := Claim7.holds Tryd.pinned (.plain (OpenSpec.upto sumAddsSpec)) sumAddsUptoCard

/-- THE SECOND FORM's CARD OF 'cartularylaw.SumSeals'. -/
def sumSealsUptoCard : Claim7 := { stood := { row := sumSealsUptoRow, standIns := [], harness := (true, "030e30f76dc0b79fd6411b4b255a10693c2a304cc64fb8aa4f9c0b0c8acf6107"), looks := false }, kinds := [], alts := [], laidByText := true, laidKinds := [.data], laidTests := true, laidLooks := .later }
def SumSealsUptoCardSaid : Prop := Claim7.holds Tryd.pinned (.plain (OpenSpec.upto sumSealsSpec)) sumSealsUptoCard

/-- THE SECOND FORM's CARD OF 'cartularylaw.SumHexes'. -/
def sumHexesUptoCard : Claim7 := { stood := { row := sumHexesUptoRow, standIns := [], harness := (true, "030e30f76dc0b79fd6411b4b255a10693c2a304cc64fb8aa4f9c0b0c8acf6107"), looks := false }, kinds := [], alts := [], laidByText := true, laidKinds := [.data], laidTests := true, laidLooks := .later }
def SumHexesUptoCardSaid : Prop := Claim7.holds Tryd.pinned (.plain (OpenSpec.upto sumHexesSpec)) sumHexesUptoCard
end Rows
end Go.Proofs.YtojiheelacmniaaDoor

/-
  DERIVED. GIVEN WITH THE SEED: THE CARDS: each row of YtoamnifnfkgbiaaGreatDoorRows.lean that lists a variable, with what it lists TIED to the program's text (the seventh form; the later family's looks); each row that meets fmt, with fmt's text TOLD by the authors' own Lean function (tested against real Go, not proved from fmt's source: count such statements apart). THE CARD IS WHAT COUNTS. Prove the row's statement (the work); the ties are given (YtoamnifnfkgbiaaGreatDoorTie.lean); close each card by the builder's one call (the guide's Derived/Test/ToyasCard.lean, 'card_holds'). Laid BY PROGRAM, IN A SANDBOX (cutbox-door.mjs). By AI agents, Wed Nov 11 2026. No macro, syntax, notation, axiom, sorry.
-/
import Derived.Test.YtoamnifnfkgbiaaGreatDoorRows
import GoSem.ClaimSeven
namespace Go.Proofs.YtoamnifnfkgbiaaGreatDoor
namespace Rows

/-- THE TIED CARD OF 'cartularylaw.NodeRises'. -/
def nodeRisesCard : Claim7 := { stood := { row := nodeRisesRow, standIns := [], harness := (true, "d563fa25b0d2ba965b3140840014d147f8c77cd3cc7428c62983b128eae37216"), looks := false }, kinds := [], alts := [], laidByText := true, laidKinds := [.data, .data, .pinned], laidTests := true, laidLooks := .later }
def NodeRisesCardSaid : Prop := Claim7.holds Tryz.pinned (.plain (OpenSpec.ofChange nodeRisesSpec)) nodeRisesCard

/-- THE TIED CARD OF 'cartularylaw.StoreReaches'. -/
def storeReachesCard : Claim7 := { stood := { row := storeReachesRow, standIns := [], harness := (true, "d563fa25b0d2ba965b3140840014d147f8c77cd3cc7428c62983b128eae37216"), looks := false }, kinds := [], alts := [], laidByText := true, laidKinds := [.data], laidTests := true, laidLooks := .later }
def StoreReachesCardSaid : Prop := Claim7.holds Tryz.pinned (.plain (OpenSpec.ofChange storeReachesSpec)) storeReachesCard

/-- THE TIED CARD OF 'cartularylaw.StoreSweeps'. -/
def storeSweepsCard : Claim7 := { stood := { row := storeSweepsRow, standIns := [], harness := (true, "d563fa25b0d2ba965b3140840014d147f8c77cd3cc7428c62983b128eae37216"), looks := false }, kinds := [], alts := [], laidByText := true, laidKinds := [.data], laidTests := true, laidLooks := .later }
def StoreSweepsCardSaid : Prop := Claim7.holds Tryz.pinned (.plain (OpenSpec.ofChange storeSweepsSpec)) storeSweepsCard

/-- THE SECOND FORM's CARD OF 'cartularylaw.NodeRises'. -/
def nodeRisesUptoCard : Claim7 := { stood := { row := nodeRisesUptoRow, standIns := [], harness := (true, "d563fa25b0d2ba965b3140840014d147f8c77cd3cc7428c62983b128eae37216"), looks := false }, kinds := [], alts := [], laidByText := true, laidKinds := [.data, .data, .pinned], laidTests := true, laidLooks := .later }
def NodeRisesUptoCardSaid : Prop := Claim7.holds Tryz.pinned (.plain (OpenSpec.upto nodeRisesSpec)) nodeRisesUptoCard

/-- THE SECOND FORM's CARD OF 'cartularylaw.StoreReaches'. -/
def storeReachesUptoCard : Claim7 := { stood := { row := storeReachesUptoRow, standIns := [], harness := (true, "d563fa25b0d2ba965b3140840014d147f8c77cd3cc7428c62983b128eae37216"), looks := false }, kinds := [], alts := [], laidByText := true, laidKinds := [.data], laidTests := true, laidLooks := .later }
def StoreReachesUptoCardSaid : Prop := Claim7.holds Tryz.pinned (.plain (OpenSpec.upto storeReachesSpec)) storeReachesUptoCard

/-- THE SECOND FORM's CARD OF 'cartularylaw.StoreSweeps'. -/
def storeSweepsUptoCard : Claim7 := { stood := { row := storeSweepsUptoRow, standIns := [], harness := (true, "d563fa25b0d2ba965b3140840014d147f8c77cd3cc7428c62983b128eae37216"), looks := false }, kinds := [], alts := [], laidByText := true, laidKinds := [.data], laidTests := true, laidLooks := .later }
def StoreSweepsUptoCardSaid : Prop := Claim7.holds Tryz.pinned (.plain (OpenSpec.upto storeSweepsSpec)) storeSweepsUptoCard
end Rows
end Go.Proofs.YtoamnifnfkgbiaaGreatDoor

/-
  DERIVED. GIVEN WITH THE SEED: THE CARDS: each row of YtebbeapfjahgdaaDoorRows.lean that lists a variable, with what it lists TIED to the program's text (the seventh form; the later family's looks); each row that meets fmt, with fmt's text TOLD by the authors' own Lean function (tested against real Go, not proved from fmt's source: count such statements apart). THE CARD IS WHAT COUNTS. Prove the row's statement (the work); the ties are given (YtebbeapfjahgdaaDoorTie.lean); close each card by the builder's one call (the guide's Derived/Test/ToyasCard.lean, 'card_holds'). Laid BY PROGRAM, IN A SANDBOX (cutbox-door.mjs). By AI agents, Wed Nov 11 2026. No macro, syntax, notation, axiom, sorry.
-/
import Derived.Test.YtebbeapfjahgdaaDoorRows
import GoSem.ClaimSeven
namespace Go.Proofs.YtebbeapfjahgdaaDoor
namespace Rows

/-- THE TIED CARD OF 'cartularylaw.RefsNames'. -/
def refsNamesCard : Claim7 := { stood := { row := refsNamesRow, standIns := [], harness := (true, "d7ce3293f5e1af6992513fe76cbc910d1de0ddf61d6b694d578e91a1d129d430"), looks := false }, kinds := [], alts := [], laidByText := true, laidKinds := [.data, .pinned], laidTests := true, laidLooks := .later }
def RefsNamesCardSaid : Prop := Claim7.holds Tryd.pinned (.plain (OpenSpec.ofChange refsNamesSpec)) refsNamesCard

/-- THE TIED CARD OF 'cartularylaw.RefsSets'. -/
def refsSetsCard : Claim7 := { stood := { row := refsSetsRow, standIns := [], harness := (true, "d7ce3293f5e1af6992513fe76cbc910d1de0ddf61d6b694d578e91a1d129d430"), looks := false }, kinds := [], alts := [], laidByText := true, laidKinds := [.data, .pinned], laidTests := true, laidLooks := .later }
def RefsSetsCardSaid : Prop := Claim7.holds Tryd.pinned (.plain (OpenSpec.ofChange refsSetsSpec)) refsSetsCard

/-- THE SECOND FORM's CARD OF 'cartularylaw.RefsNames'. -/
def refsNamesUptoCard : Claim7 := { stood := { row := refsNamesUptoRow, standIns := [], harness := (true, "d7ce3293f5e1af6992513fe76cbc910d1de0ddf61d6b694d578e91a1d129d430"), looks := false }, kinds := [], alts := [], laidByText := true, laidKinds := [.data, .pinned], laidTests := true, laidLooks := .later }
def RefsNamesUptoCardSaid : Prop := Claim7.holds Tryd.pinned (.plain (OpenSpec.upto refsNamesSpec)) refsNamesUptoCard

/-- THE SECOND FORM's CARD OF 'cartularylaw.RefsSets'. -/
def refsSetsUptoCard : Claim7 := { stood := { row := refsSetsUptoRow, standIns := [], harness := (true, "d7ce3293f5e1af6992513fe76cbc910d1de0ddf61d6b694d578e91a1d129d430"), looks := false }, kinds := [], alts := [], laidByText := true, laidKinds := [.data, .pinned], laidTests := true, laidLooks := .later }
def RefsSetsUptoCardSaid : Prop := Claim7.holds Tryd.pinned (.plain (OpenSpec.upto refsSetsSpec)) refsSetsUptoCard
end Rows
end Go.Proofs.YtebbeapfjahgdaaDoor

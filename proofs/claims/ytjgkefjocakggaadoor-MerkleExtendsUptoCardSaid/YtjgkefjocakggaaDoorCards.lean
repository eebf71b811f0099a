/-
  DERIVED. GIVEN WITH THE SEED: THE CARDS: each row of YtjgkefjocakggaaDoorRows.lean that lists a variable, with what it lists TIED to the program's text (the seventh form; the later family's looks); each row that meets fmt, with fmt's text TOLD by the authors' own Lean function (tested against real Go, not proved from fmt's source: count such statements apart). THE CARD IS WHAT COUNTS. Prove the row's statement (the work); the ties are given (YtjgkefjocakggaaDoorTie.lean); close each card by the builder's one call (the guide's Derived/Test/ToyasCard.lean, 'card_holds'). Laid BY PROGRAM, IN A SANDBOX (cutbox-door.mjs). By AI agents, Wed Nov 11 2026. No macro, syntax, notation, axiom, sorry.
-/
import Derived.Test.YtjgkefjocakggaaDoorRows
import GoSem.ClaimSeven
namespace Go.Proofs.YtjgkefjocakggaaDoor
namespace Rows

/-- THE TIED CARD OF 'cartularylaw.NodeNews'. -/
def nodeNewsCard : Claim7 := { stood := { row := nodeNewsRow, standIns := [], harness := (true, "d0f03fdd7c9d1f2f3c3665368b84fe4f3103d2180862962baae0810a902f4db7"), looks := false }, kinds := [], alts := [], laidByText := true, laidKinds := [.data], laidTests := true, laidLooks := .later }
def NodeNewsCardSaid : Prop := Claim7.holds Tryd.pinned (.plain (OpenSpec.ofChange nodeNewsSpec)) nodeNewsCard

/-- THE TIED CARD OF 'cartularylaw.MerkleChecks'. -/
def merkleChecksCard : Claim7 := { stood := { row := merkleChecksRow, standIns := [], harness := (true, "d0f03fdd7c9d1f2f3c3665368b84fe4f3103d2180862962baae0810a902f4db7"), looks := false }, kinds := [], alts := [], laidByText := true, laidKinds := [.data], laidTests := true, laidLooks := .later }
def MerkleChecksCardSaid : Prop := Claim7.holds Tryd.pinned (.plain (OpenSpec.ofChange merkleChecksSpec)) merkleChecksCard

/-- THE TIED CARD OF 'cartularylaw.MerkleRoots'. -/
def merkleRootsCard : Claim7 := { stood := { row := merkleRootsRow, standIns := [], harness := (true, "d0f03fdd7c9d1f2f3c3665368b84fe4f3103d2180862962baae0810a902f4db7"), looks := false }, kinds := [], alts := [], laidByText := true, laidKinds := [.data], laidTests := true, laidLooks := .later }
def MerkleRootsCardSaid : Prop := Claim7.holds Tryd.pinned (.plain (OpenSpec.ofChange merkleRootsSpec)) merkleRootsCard

/-- THE TIED CARD OF 'cartularylaw.MerkleExtends'. -/
def merkleExtendsCard : Claim7 := { stood := { row := merkleExtendsRow, standIns := [], harness := (true, "d0f03fdd7c9d1f2f3c3665368b84fe4f3103d2180862962baae0810a902f4db7"), looks := false }, kinds := [], alts := [], laidByText := true, laidKinds := [.data], laidTests := true, laidLooks := .later }
def MerkleExtendsCardSaid : Prop := Claim7.holds Tryd.pinned (.plain (OpenSpec.ofChange merkleExtendsSpec)) merkleExtendsCard

/-- THE SECOND FORM's CARD OF 'cartularylaw.NodeNews'. -/
def nodeNewsUptoCard : Claim7 := { stood := { row := nodeNewsUptoRow, standIns := [], harness := (true, "d0f03fdd7c9d1f2f3c3665368b84fe4f3103d2180862962baae0810a902f4db7"), looks := false }, kinds := [], alts := [], laidByText := true, laidKinds := [.data], laidTests := true, laidLooks := .later }
def NodeNewsUptoCardSaid : Prop := Claim7.holds Tryd.pinned (.plain (OpenSpec.upto nodeNewsSpec)) nodeNewsUptoCard

/-- THE SECOND FORM's CARD OF 'cartularylaw.MerkleChecks'. -/
def merkleChecksUptoCard : Claim7 := { stood := { row := merkleChecksUptoRow, standIns := [], harness := (true, "d0f03fdd7c9d1f2f3c3665368b84fe4f3103d2180862962baae0810a902f4db7"), looks := false }, kinds := [], alts := [], laidByText := true, laidKinds := [.data], laidTests := true, laidLooks := .later }
def MerkleChecksUptoCardSaid : Prop := Claim7.holds Tryd.pinned (.plain (OpenSpec.upto merkleChecksSpec)) merkleChecksUptoCard

/-- THE SECOND FORM's CARD OF 'cartularylaw.MerkleRoots'. -/
def merkleRootsUptoCard : Claim7 := { stood := { row := merkleRootsUptoRow, standIns := [], harness := (true, "d0f03fdd7c9d1f2f3c3665368b84fe4f3103d2180862962baae0810a902f4db7"), looks := false }, kinds := [], alts := [], laidByText := true, laidKinds := [.data], laidTests := true, laidLooks := .later }
def MerkleRootsUptoCardSaid : Prop := Claim7.holds Tryd.pinned (.plain (OpenSpec.upto merkleRootsSpec)) merkleRootsUptoCard

/-- THE SECOND FORM's CARD OF 'cartularylaw.MerkleExtends'. -/
def merkleExtendsUptoCard : Claim7 := { stood := { row := merkleExtendsUptoRow, standIns := [], harness := (true, "d0f03fdd7c9d1f2f3c3665368b84fe4f3103d2180862962baae0810a902f4db7"), looks := false }, kinds := [], alts := [], laidByText := true, laidKinds := [.data], laidTests := true, laidLooks := .later }
def MerkleExtendsUptoCardSaid : Prop := Claim7.holds Tryd.pinned (.plain (OpenSpec.upto merkleExtendsSpec)) merkleExtendsUptoCard
end Rows
end Go.Proofs.YtjgkefjocakggaaDoor

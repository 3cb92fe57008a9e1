/-
  DERIVED. GIVEN WITH THE SEED: THE CARDS: each row of YtmoebdncmcigaaaDoorRows.lean that lists a variable, with what it lists TIED to the program's text (the seventh form; the later family's looks); each row that meets fmt, with fmt's text TOLD by the authors' own Lean function (tested against real Go, not proved from fmt's source: count such statements apart). THE CARD IS WHAT COUNTS. Prove the row's statement (the work); the ties are given (YtmoebdncmcigaaaDoorTie.lean); close each card by the builder's one call (the guide's Derived/Test/ToyasCard.lean, 'card_holds'). Laid BY PROGRAM, IN A SANDBOX (cutbox-door.mjs). By AI agents, Wed Nov 11 2026. No macro, syntax, notation, axiom, sorry.
-/
import Derived.Test.YtmoebdncmcigaaaDoorRows
import GoSem.ClaimSeven
namespace Go.Proofs.YtmoebdncmcigaaaDoor
namespace Rows

/-- THE TIED CARD OF 'reliquarylaw13.SuperPuts'. -/
def superPutsCard : Claim7 := { stood := { row := superPutsRow, standIns := [], harness := (true, "e8ac9743dcbc3eb1a4b84e49d4b3648625f8eb91806a06f5cf6cd2f439ed2f62"), looks := false }, kinds := [], alts := [], laidByText := true, laidKinds := [.data, .data], laidTests := true, laidLooks := .later }
def SuperPutsCardSaid : Prop := Claim7.holds Tryd.pinned (.plain (OpenSpec.ofChange superPutsSpec)) superPutsCard

/-- THE TIED CARD OF 'reliquarylaw15.NodePuts'. -/
def nodePutsCard : Claim7 := { stood := { row := nodePutsRow, standIns := [], harness := (true, "e8ac9743dcbc3eb1a4b84e49d4b3648625f8eb91806a06f5cf6cd2f439ed2f62"), looks := false }, kinds := [], alts := [], laidByText := true, laidKinds := [.data], laidTests := true, laidLooks := .later }
def NodePutsCardSaid : Prop := Claim7.holds Tryd.pinned (.plain (OpenSpec.ofChange nodePutsSpec)) nodePutsCard

/-- THE TIED CARD OF 'reliquarylaw15.NodeGets'. -/
def nodeGetsCard : Claim7 := { stood := { row := nodeGetsRow, standIns := [], harness := (true, "e8ac9743dcbc3eb1a4b84e49d4b3648625f8eb91806a06f5cf6cd2f439ed2f62"), looks := false }, kinds := [], alts := [], laidByText := true, laidKinds := [.data], laidTests := true, laidLooks := .later }
def NodeGetsCardSaid : Prop := Claim7.holds Tryd.pinned (.plain (OpenSpec.ofChange nodeGetsSpec)) nodeGetsCard

/-- THE TIED CARD OF 'reliquarylaw15.NodeBack'. -/
def nodeBackCard : Claim7 := { stood := { row := nodeBackRow, standIns := [], harness := (true, "e8ac9743dcbc3eb1a4b84e49d4b3648625f8eb91806a06f5cf6cd2f439ed2f62"), looks := false }, kinds := [], alts := [], laidByText := true, laidKinds := [.data], laidTests := true, laidLooks := .later }
def NodeBackCardSaid : Prop := Claim7.holds Tryd.pinned (.plain (OpenSpec.ofChange nodeBackSpec)) nodeBackCard

/-- THE TIED CARD OF 'reliquarylaw13.SuperApart'. -/
def superApartCard : Claim7 := { stood := { row := superApartRow, standIns := [], harness := (true, "e8ac9743dcbc3eb1a4b84e49d4b3648625f8eb91806a06f5cf6cd2f439ed2f62"), looks := false }, kinds := [], alts := [], laidByText := true, laidKinds := [.data], laidTests := true, laidLooks := .later }
def SuperApartCardSaid : Prop := Claim7.holds Tryd.pinned (.plain (OpenSpec.ofChange superApartSpec)) superApartCard

/-- THE TIED CARD OF 'reliquarylaw13.SuperBack'. -/
def superBackCard : Claim7 := { stood := { row := superBackRow, standIns := [], harness := (true, "e8ac9743dcbc3eb1a4b84e49d4b3648625f8eb91806a06f5cf6cd2f439ed2f62"), looks := false }, kinds := [], alts := [], laidByText := true, laidKinds := [.data], laidTests := true, laidLooks := .later }
def SuperBackCardSaid : Prop := Claim7.holds Tryd.pinned (.plain (OpenSpec.ofChange superBackSpec)) superBackCard

/-- THE TIED CARD OF 'reliquarylaw15.NodeSums'. -/
def nodeSumsCard : Claim7 := { stood := { row := nodeSumsRow, standIns := [], harness := (true, "e8ac9743dcbc3eb1a4b84e49d4b3648625f8eb91806a06f5cf6cd2f439ed2f62"), looks := false }, kinds := [], alts := [], laidByText := true, laidKinds := [.data, .data], laidTests := true, laidLooks := .later }
def NodeSumsCardSaid : Prop := Claim7.holds Tryd.pinned (.plain (OpenSpec.ofChange nodeSumsSpec)) nodeSumsCard

/-- THE TIED CARD OF 'reliquarylaw15.NodeKinds'. -/
def nodeKindsCard : Claim7 := { stood := { row := nodeKindsRow, standIns := [], harness := (true, "e8ac9743dcbc3eb1a4b84e49d4b3648625f8eb91806a06f5cf6cd2f439ed2f62"), looks := false }, kinds := [], alts := [], laidByText := true, laidKinds := [.data], laidTests := true, laidLooks := .later }
def NodeKindsCardSaid : Prop := Claim7.holds Tryd.pinned (.plain (OpenSpec.ofChange nodeKindsSpec)) nodeKindsCard

/-- THE SECOND FORM's CARD OF 'reliquarylaw13.SuperPuts'. -/
def superPutsUptoCard : Claim7 := { stood := { row := superPutsUptoRow, standIns := [], harness := (true, "e8ac9743dcbc3eb1a4b84e49d4b3648625f8eb91806a06f5cf6cd2f439ed2f62"), looks := false }, kinds := [], alts := [], laidByText := true, laidKinds := [.data, .data], laidTests := true, laidLooks := .later }
def SuperPutsUptoCardSaid : Prop := Claim7.holds Tryd.pinned (.plain (OpenSpec.upto superPutsSpec)) superPutsUptoCard

/-- THE SECOND FORM's CARD OF 'reliquarylaw15.NodePuts'. -/
def nodePutsUptoCard : Claim7 := { stood := { row := nodePutsUptoRow, standIns := [], harness := (true, "e8ac9743dcbc3eb1a4b84e49d4b3648625f8eb91806a06f5cf6cd2f439ed2f62"), looks := false }, kinds := [], alts := [], laidByText := true, laidKinds := [.data], laidTests := true, laidLooks := .later }
def NodePutsUptoCardSaid : Prop := Claim7.holds Tryd.pinned (.plain (OpenSpec.upto nodePutsSpec)) nodePutsUptoCard

/-- THE SECOND FORM's CARD OF 'reliquarylaw15.NodeGets'. -/
def nodeGetsUptoCard : Claim7 := { stood := { row := nodeGetsUptoRow, standIns := [], harness := (true, "e8ac9743dcbc3eb1a4b84e49d4b3648625f8eb91806a06f5cf6cd2f439ed2f62"), looks := false }, kinds := [], alts := [], laidByText := true, laidKinds := [.data], laidTests := true, laidLooks := .later }
def NodeGetsUptoCardSaid : Prop := Claim7.holds Tryd.pinned (.plain (OpenSpec.upto nodeGetsSpec)) nodeGetsUptoCard

/-- THE SECOND FORM's CARD OF 'reliquarylaw15.NodeBack'. -/
def nodeBackUptoCard : Claim7 := { stood := { row := nodeBackUptoRow, standIns := [], harness := (true, "e8ac9743dcbc3eb1a4b84e49d4b3648625f8eb91806a06f5cf6cd2f439ed2f62"), looks := false }, kinds := [], alts := [], laidByText := true, laidKinds := [.data], laidTests := true, laidLooks := .later }
def NodeBackUptoCardSaid : Prop := Claim7.holds Tryd.pinned (.plain (OpenSpec.upto nodeBackSpec)) nodeBackUptoCard

/-- THE SECOND FORM's CARD OF 'reliquarylaw13.SuperApart'. -/
def superApartUptoCard : Claim7 := { stood := { row := superApartUptoRow, standIns := [], harness := (true, "e8ac9743dcbc3eb1a4b84e49d4b3648625f8eb91806a06f5cf6cd2f439ed2f62"), looks := false }, kinds := [], alts := [], laidByText := true, laidKinds := [.data], laidTests := true, laidLooks := .later }
def SuperApartUptoCardSaid : Prop := Claim7.holds Tryd.pinned (.plain (OpenSpec.upto superApartSpec)) superApartUptoCard

/-- THE SECOND FORM's CARD OF 'reliquarylaw13.SuperBack'. -/
def superBackUptoCard : Claim7 := { stood := { row := superBackUptoRow, standIns := [], harness := (true, "e8ac9743dcbc3eb1a4b84e49d4b3648625f8eb91806a06f5cf6cd2f439ed2f62"), looks := false }, kinds := [], alts := [], laidByText := true, laidKinds := [.data], laidTests := true, laidLooks := .later }
def SuperBackUptoCardSaid : Prop := Claim7.holds Tryd.pinned (.plain (OpenSpec.upto superBackSpec)) superBackUptoCard

/-- THE SECOND FORM's CARD OF 'reliquarylaw15.NodeSums'. -/
def nodeSumsUptoCard : Claim7 := { stood := { row := nodeSumsUptoRow, standIns := [], harness := (true, "e8ac9743dcbc3eb1a4b84e49d4b3648625f8eb91806a06f5cf6cd2f439ed2f62"), looks := false }, kinds := [], alts := [], laidByText := true, laidKinds := [.data, .data], laidTests := true, laidLooks := .later }
def NodeSumsUptoCardSaid : Prop := Claim7.holds Tryd.pinned (.plain (OpenSpec.upto nodeSumsSpec)) nodeSumsUptoCard

/-- THE SECOND FORM's CARD OF 'reliquarylaw15.NodeKinds'. -/
def nodeKindsUptoCard : Claim7 := { stood := { row := nodeKindsUptoRow, standIns := [], harness := (true, "e8ac9743dcbc3eb1a4b84e49d4b3648625f8eb91806a06f5cf6cd2f439ed2f62"), looks := false }, kinds := [], alts := [], laidByText := true, laidKinds := [.data], laidTests := true, laidLooks := .later }
def NodeKindsUptoCardSaid : Prop := Claim7.holds Tryd.pinned (.plain (OpenSpec.upto nodeKindsSpec)) nodeKindsUptoCard
end Rows
end Go.Proofs.YtmoebdncmcigaaaDoor

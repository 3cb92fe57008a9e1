/-
  DERIVED. GIVEN WITH THE SEED: THE CARDS: each row of YtmcdcfbhpdacfaaDoorRows.lean that lists a variable, with what it lists TIED to the program's text (the seventh form; the later family's looks); each row that meets fmt, with fmt's text TOLD by the authors' own Lean function (tested against real Go, not proved from fmt's source: count such statements apart). THE CARD IS WHAT COUNTS. Prove the row's statement (the work); the ties are given (YtmcdcfbhpdacfaaDoorTie.lean); close each card by the builder's one call (the guide's Derived/Test/ToyasCard.lean, 'card_holds'). Laid BY PROGRAM, IN A SANDBOX (cutbox-door.mjs). By AI agents, Wed Nov 11 2026. No macro, syntax, notation, axiom, sorry.
-/
import Derived.Test.YtmcdcfbhpdacfaaDoorRows
import GoSem.ClaimSeven
namespace Go.Proofs.YtmcdcfbhpdacfaaDoor
namespace Rows

/-- THE TIED CARD OF 'reliquarylaw05.KdfDerives'. -/
def kdfDerivesCard : Claim7 := { stood := { row := kdfDerivesRow, standIns := [], harness := (true, "0416aaca76787f361d974045d16bf8f39d8b3c9fc8ba68f3c36e74d98ed255b0"), looks := false }, kinds := [], alts := [], laidByText := true, laidKinds := [.data, .data], laidTests := true, laidLooks := .later }
def KdfDerivesCardSaid : Prop := Claim7.holds Tryd.pinned (.plain (OpenSpec.ofChange kdfDerivesSpec)) kdfDerivesCard

/-- THE TIED CARD OF 'reliquarylaw05.KdfLabels'. -/
def kdfLabelsCard : Claim7 := { stood := { row := kdfLabelsRow, standIns := [], harness := (true, "0416aaca76787f361d974045d16bf8f39d8b3c9fc8ba68f3c36e74d98ed255b0"), looks := false }, kinds := [], alts := [], laidByText := true, laidKinds := [.data, .data], laidTests := true, laidLooks := .later }
def KdfLabelsCardSaid : Prop := Claim7.holds Tryd.pinned (.plain (OpenSpec.ofChange kdfLabelsSpec)) kdfLabelsCard

/-- THE TIED CARD OF 'reliquarylaw05.KdfBegins'. -/
def kdfBeginsCard : Claim7 := { stood := { row := kdfBeginsRow, standIns := [], harness := (true, "0416aaca76787f361d974045d16bf8f39d8b3c9fc8ba68f3c36e74d98ed255b0"), looks := false }, kinds := [], alts := [], laidByText := true, laidKinds := [.data], laidTests := true, laidLooks := .later }
def KdfBeginsCardSaid : Prop := Claim7.holds Tryd.pinned (.plain (OpenSpec.ofChange kdfBeginsSpec)) kdfBeginsCard

/-- THE TIED CARD OF 'reliquarylaw05.KdfTurns'. -/
def kdfTurnsCard : Claim7 := { stood := { row := kdfTurnsRow, standIns := [], harness := (true, "0416aaca76787f361d974045d16bf8f39d8b3c9fc8ba68f3c36e74d98ed255b0"), looks := false }, kinds := [], alts := [], laidByText := true, laidKinds := [.data], laidTests := true, laidLooks := .later }
def KdfTurnsCardSaid : Prop := Claim7.holds Tryd.pinned (.plain (OpenSpec.ofChange kdfTurnsSpec)) kdfTurnsCard

/-- THE TIED CARD OF 'reliquarylaw05.KdfLong'. -/
def kdfLongCard : Claim7 := { stood := { row := kdfLongRow, standIns := [], harness := (true, "0416aaca76787f361d974045d16bf8f39d8b3c9fc8ba68f3c36e74d98ed255b0"), looks := false }, kinds := [], alts := [], laidByText := true, laidKinds := [.data], laidTests := true, laidLooks := .later }
def KdfLongCardSaid : Prop := Claim7.holds Tryd.pinned (.plain (OpenSpec.ofChange kdfLongSpec)) kdfLongCard

/-- THE SECOND FORM's CARD OF 'reliquarylaw05.KdfDerives'. -/
def kdfDerivesUptoCard : Claim7 := { stood := { row := kdfDerivesUptoRow, standIns := [], harness := (true, "0416aaca76787f361d974045d16bf8f39d8b3c9fc8ba68f3c36e74d98ed255b0"), looks := false }, kinds := [], alts := [], laidByText := true, laidKinds := [.data, .data], laidTests := true, laidLooks := .later }
def KdfDerivesUptoCardSaid : Prop := Claim7.holds Tryd.pinned (.plain (OpenSpec.upto kdfDerivesSpec)) kdfDerivesUptoCard

/-- THE SECOND FORM's CARD OF 'reliquarylaw05.KdfLabels'. -/
def kdfLabelsUptoCard : Claim7 := { stood := { row := kdfLabelsUptoRow, standIns := [], harness := (true, "0416aaca76787f361d974045d16bf8f39d8b3c9fc8ba68f3c36e74d98ed255b0"), looks := false }, kinds := [], alts := [], laidByText := true, laidKinds := [.data, .data], laidTests := true, laidLooks := .later }
def KdfLabelsUptoCardSaid : Prop := Claim7.holds Tryd.pinned (.plain (OpenSpec.upto kdfLabelsSpec)) kdfLabelsUptoCard

/-- THE SECOND FORM's CARD OF 'reliquarylaw05.KdfBegins'. -/
def kdfBeginsUptoCard : Claim7 := { stood := { row := kdfBeginsUptoRow, standIns := [], harness := (true, "0416aaca76787f361d974045d16bf8f39d8b3c9fc8ba68f3c36e74d98ed255b0"), looks := false }, kinds := [], alts := [], laidByText := true, laidKinds := [.data], laidTests := true, laidLooks := .later }
def KdfBeginsUptoCardSaid : Prop := Claim7.holds Tryd.pinned (.plain (OpenSpec.upto kdfBeginsSpec)) kdfBeginsUptoCard

/-- THE SECOND FORM's CARD OF 'reliquarylaw05.KdfTurns'. -/
def kdfTurnsUptoCard : Claim7 := { stood := { row := kdfTurnsUptoRow, standIns := [], harness := (true, "0416aaca76787f361d974045d16bf8f39d8b3c9fc8ba68f3c36e74d98ed255b0"), looks := false }, kinds := [], alts := [], laidByText := true, laidKinds := [.data], laidTests := true, laidLooks := .later }
def KdfTurnsUptoCardSaid : Prop := Claim7.holds Tryd.pinned (.plain (OpenSpec.upto kdfTurnsSpec)) kdfTurnsUptoCard

/-- THE SECOND FORM's CARD OF 'reliquarylaw05.KdfLong'. -/
def kdfLongUptoCard : Claim7 := { stood := { row := kdfLongUptoRow, standIns := [], harness := (true, "0416aaca76787f361d974045d16bf8f39d8b3c9fc8ba68f3c36e74d98ed255b0"), looks := false }, kinds := [], alts := [], laidByText := true, laidKinds := [.data], laidTests := true, laidLooks := .later }
def KdfLongUptoCardSaid : Prop := Claim7.holds Tryd.pinned (.plain (OpenSpec.upto kdfLongSpec)) kdfLongUptoCard
end Rows
end Go.Proofs.YtmcdcfbhpdacfaaDoor

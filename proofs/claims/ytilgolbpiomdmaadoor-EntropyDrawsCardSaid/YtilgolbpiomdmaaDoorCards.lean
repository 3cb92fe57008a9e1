/-
  DERIVED. GIVEN WITH THE SEED: THE CARDS: each row of YtilgolbpiomdmaaDoorRows.lean that lists a variable, with what it lists TIED to the program's text (the seventh form; the later family's looks); each row that meets fmt, with fmt's text TOLD by the authors' own Lean function (tested against real Go, not proved from fmt's source: count such statements apart). THE CARD IS WHAT COUNTS. Prove the row's statement (the work); the ties are given (YtilgolbpiomdmaaDoorTie.lean); close each card by the builder's one call (the guide's Derived/Test/ToyasCard.lean, 'card_holds'). Laid BY PROGRAM, IN A SANDBOX (cutbox-door.mjs). By AI agents, Wed Nov 11 2026. No macro, syntax, notation, axiom, sorry.
-/
import Derived.Test.YtilgolbpiomdmaaDoorRows
import GoSem.ClaimSeven
namespace Go.Proofs.YtilgolbpiomdmaaDoor
namespace Rows

/-- THE TIED CARD OF 'reliquarylaw09.EntropyDraws'. -/
def entropyDrawsCard : Claim7 := { stood := { row := entropyDrawsRow, standIns := [], harness := (true, "962623b908117f2a470119a948a5dd7f60540ca0ed70264531216d69728a4885"), looks := false }, kinds := [], alts := [], laidByText := true, laidKinds := [.data, .data], laidTests := true, laidLooks := .later }
def EntropyDrawsCardSaid : Prop := Claim7.holds Tryd.pinned (.plain (OpenSpec.ofChange entropyDrawsSpec)) entropyDrawsCard

/-- THE TIED CARD OF 'reliquarylaw09.EntropyCuts'. -/
def entropyCutsCard : Claim7 := { stood := { row := entropyCutsRow, standIns := [], harness := (true, "962623b908117f2a470119a948a5dd7f60540ca0ed70264531216d69728a4885"), looks := false }, kinds := [], alts := [], laidByText := true, laidKinds := [.data], laidTests := true, laidLooks := .later }
def EntropyCutsCardSaid : Prop := Claim7.holds Tryd.pinned (.plain (OpenSpec.ofChange entropyCutsSpec)) entropyCutsCard

/-- THE TIED CARD OF 'reliquarylaw09.EntropyForks'. -/
def entropyForksCard : Claim7 := { stood := { row := entropyForksRow, standIns := [], harness := (true, "962623b908117f2a470119a948a5dd7f60540ca0ed70264531216d69728a4885"), looks := false }, kinds := [], alts := [], laidByText := true, laidKinds := [.data], laidTests := true, laidLooks := .later }
def EntropyForksCardSaid : Prop := Claim7.holds Tryd.pinned (.plain (OpenSpec.ofChange entropyForksSpec)) entropyForksCard

/-- THE TIED CARD OF 'reliquarylaw04.HmacOfs'. -/
def hmacOfsCard : Claim7 := { stood := { row := hmacOfsRow, standIns := [], harness := (true, "962623b908117f2a470119a948a5dd7f60540ca0ed70264531216d69728a4885"), looks := false }, kinds := [], alts := [], laidByText := true, laidKinds := [.data, .data], laidTests := true, laidLooks := .later }
def HmacOfsCardSaid : Prop := Claim7.holds Tryd.pinned (.plain (OpenSpec.ofChange hmacOfsSpec)) hmacOfsCard

/-- THE TIED CARD OF 'reliquarylaw04.HmacWrites'. -/
def hmacWritesCard : Claim7 := { stood := { row := hmacWritesRow, standIns := [], harness := (true, "962623b908117f2a470119a948a5dd7f60540ca0ed70264531216d69728a4885"), looks := false }, kinds := [], alts := [], laidByText := true, laidKinds := [.data, .data], laidTests := true, laidLooks := .later }
def HmacWritesCardSaid : Prop := Claim7.holds Tryd.pinned (.plain (OpenSpec.ofChange hmacWritesSpec)) hmacWritesCard

/-- THE TIED CARD OF 'reliquarylaw04.HmacEquals'. -/
def hmacEqualsCard : Claim7 := { stood := { row := hmacEqualsRow, standIns := [], harness := (true, "962623b908117f2a470119a948a5dd7f60540ca0ed70264531216d69728a4885"), looks := false }, kinds := [], alts := [], laidByText := true, laidKinds := [.data], laidTests := true, laidLooks := .later }
def HmacEqualsCardSaid : Prop := Claim7.holds Tryd.pinned (.plain (OpenSpec.ofChange hmacEqualsSpec)) hmacEqualsCard

/-- THE TIED CARD OF 'reliquarylaw04.HmacKeys'. -/
def hmacKeysCard : Claim7 := { stood := { row := hmacKeysRow, standIns := [], harness := (true, "962623b908117f2a470119a948a5dd7f60540ca0ed70264531216d69728a4885"), looks := false }, kinds := [], alts := [], laidByText := true, laidKinds := [.data], laidTests := true, laidLooks := .later }
def HmacKeysCardSaid : Prop := Claim7.holds Tryd.pinned (.plain (OpenSpec.ofChange hmacKeysSpec)) hmacKeysCard

/-- THE TIED CARD OF 'reliquarylaw04.HmacCuts'. -/
def hmacCutsCard : Claim7 := { stood := { row := hmacCutsRow, standIns := [], harness := (true, "962623b908117f2a470119a948a5dd7f60540ca0ed70264531216d69728a4885"), looks := false }, kinds := [], alts := [], laidByText := true, laidKinds := [.data], laidTests := true, laidLooks := .later }
def HmacCutsCardSaid : Prop := Claim7.holds Tryd.pinned (.plain (OpenSpec.ofChange hmacCutsSpec)) hmacCutsCard

/-- THE TIED CARD OF 'reliquarylaw04.HmacDefined'. -/
def hmacDefinedCard : Claim7 := { stood := { row := hmacDefinedRow, standIns := [], harness := (true, "962623b908117f2a470119a948a5dd7f60540ca0ed70264531216d69728a4885"), looks := false }, kinds := [], alts := [], laidByText := true, laidKinds := [.data], laidTests := true, laidLooks := .later }
def HmacDefinedCardSaid : Prop := Claim7.holds Tryd.pinned (.plain (OpenSpec.ofChange hmacDefinedSpec)) hmacDefinedCard

/-- THE SECOND FORM's CARD OF 'reliquarylaw09.EntropyDraws'. -/
def entropyDrawsUptoCard : Claim7 := { stood := { row := entropyDrawsUptoRow, standIns := [], harness := (true, "962623b908117f2a470119a948a5dd7f60540ca0ed70264531216d69728a4885"), looks := false }, kinds := [], alts := [], laidByText := true, laidKinds := [.data, .data], laidTests := true, laidLooks := .later }
def EntropyDrawsUptoCardSaid : Prop := Claim7.holds Tryd.pinned (.plain (OpenSpec.upto entropyDrawsSpec)) entropyDrawsUptoCard

/-- THE SECOND FORM's CARD OF 'reliquarylaw09.EntropyCuts'. -/
def entropyCutsUptoCard : Claim7 := { stood := { row := entropyCutsUptoRow, standIns := [], harness := (true, "962623b908117f2a470119a948a5dd7f60540ca0ed70264531216d69728a4885"), looks := false }, kinds := [], alts := [], laidByText := true, laidKinds := [.data], laidTests := true, laidLooks := .later }
def EntropyCutsUptoCardSaid : Prop := Claim7.holds Tryd.pinned (.plain (OpenSpec.upto entropyCutsSpec)) entropyCutsUptoCard

/-- THE SECOND FORM's CARD OF 'reliquarylaw09.EntropyForks'. -/
def entropyForksUptoCard : Claim7 := { stood := { row := entropyForksUptoRow, standIns := [], harness := (true, "962623b908117f2a470119a948a5dd7f60540ca0ed70264531216d69728a4885"), looks := false }, kinds := [], alts := [], laidByText := true, laidKinds := [.data], laidTests := true, laidLooks := .later }
def EntropyForksUptoCardSaid : Prop := Claim7.holds Tryd.pinned (.plain (OpenSpec.upto entropyForksSpec)) entropyForksUptoCard

/-- THE SECOND FORM's CARD OF 'reliquarylaw04.HmacOfs'. -/
def hmacOfsUptoCard : Claim7 := { stood := { row := hmacOfsUptoRow, standIns := [], harness := (true, "962623b908117f2a470119a948a5dd7f60540ca0ed70264531216d69728a4885"), looks := false }, kinds := [], alts := [], laidByText := true, laidKinds := [.data, .data], laidTests := true, laidLooks := .later }
def HmacOfsUptoCardSaid : Prop := Claim7.holds Tryd.pinned (.plain (OpenSpec.upto hmacOfsSpec)) hmacOfsUptoCard

/-- THE SECOND FORM's CARD OF 'reliquarylaw04.HmacWrites'. -/
def hmacWritesUptoCard : Claim7 := { stood := { row := hmacWritesUptoRow, standIns := [], harness := (true, "962623b908117f2a470119a948a5dd7f60540ca0ed70264531216d69728a4885"), looks := false }, kinds := [], alts := [], laidByText := true, laidKinds := [.data, .data], laidTests := true, laidLooks := .later }
def HmacWritesUptoCardSaid : Prop := Claim7.holds Tryd.pinned (.plain (OpenSpec.upto hmacWritesSpec)) hmacWritesUptoCard

/-- THE SECOND FORM's CARD OF 'reliquarylaw04.HmacEquals'. -/
def hmacEqualsUptoCard : Claim7 := { stood := { row := hmacEqualsUptoRow, standIns := [], harness := (true, "962623b908117f2a470119a948a5dd7f60540ca0ed70264531216d69728a4885"), looks := false }, kinds := [], alts := [], laidByText := true, laidKinds := [.data], laidTests := true, laidLooks := .later }
def HmacEqualsUptoCardSaid : Prop := Claim7.holds Tryd.pinned (.plain (OpenSpec.upto hmacEqualsSpec)) hmacEqualsUptoCard

/-- THE SECOND FORM's CARD OF 'reliquarylaw04.HmacKeys'. -/
def hmacKeysUptoCard : Claim7 := { stood := { row := hmacKeysUptoRow, standIns := [], harness := (true, "962623b908117f2a470119a948a5dd7f60540ca0ed70264531216d69728a4885"), looks := false }, kinds := [], alts := [], laidByText := true, laidKinds := [.data], laidTests := true, laidLooks := .later }
def HmacKeysUptoCardSaid : Prop := Claim7.holds Tryd.pinned (.plain (OpenSpec.upto hmacKeysSpec)) hmacKeysUptoCard

/-- THE SECOND FORM's CARD OF 'reliquarylaw04.HmacCuts'. -/
def hmacCutsUptoCard : Claim7 := { stood := { row := hmacCutsUptoRow, standIns := [], harness := (true, "962623b908117f2a470119a948a5dd7f60540ca0ed70264531216d69728a4885"), looks := false }, kinds := [], alts := [], laidByText := true, laidKinds := [.data], laidTests := true, laidLooks := .later }
def HmacCutsUptoCardSaid : Prop := Claim7.holds Tryd.pinned (.plain (OpenSpec.upto hmacCutsSpec)) hmacCutsUptoCard

/-- THE SECOND FORM's CARD OF 'reliquarylaw04.HmacDefined'. -/
def hmacDefinedUptoCard : Claim7 := { stood := { row := hmacDefinedUptoRow, standIns := [], harness := (true, "962623b908117f2a470119a948a5dd7f60540ca0ed70264531216d69728a4885"), looks := false }, kinds := [], alts := [], laidByText := true, laidKinds := [.data], laidTests := true, laidLooks := .later }
def HmacDefinedUptoCardSaid : Prop := Claim7.holds Tryd.pinned (.plain (OpenSpec.upto hmacDefinedSpec)) hmacDefinedUptoCard
end Rows
end Go.Proofs.YtilgolbpiomdmaaDoor

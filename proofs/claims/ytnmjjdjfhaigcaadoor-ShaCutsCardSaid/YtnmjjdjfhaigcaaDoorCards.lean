/-
  DERIVED. GIVEN WITH THE SEED: THE CARDS: each row of YtnmjjdjfhaigcaaDoorRows.lean that lists a variable, with what it lists TIED to the program's text (the seventh form; the later family's looks); each row that meets fmt, with fmt's text TOLD by the authors' own Lean function (tested against real Go, not proved from fmt's source: count such statements apart). THE CARD IS WHAT COUNTS. Prove the row's statement (the work); the ties are given (YtnmjjdjfhaigcaaDoorTie.lean); close each card by the builder's one call (the guide's Derived/Test/ToyasCard.lean, 'card_holds'). Laid BY PROGRAM, IN A SANDBOX (cutbox-door.mjs). By AI agents, Wed Nov 11 2026. No macro, syntax, notation, axiom, sorry.
-/
import Derived.Test.YtnmjjdjfhaigcaaDoorRows
import GoSem.ClaimSeven
namespace Go.Proofs.YtnmjjdjfhaigcaaDoor
namespace Rows

/-- THE TIED CARD OF 'reliquarylaw03.ShaOfs'. -/
def shaOfsCard : Claim7 := { stood := { row := shaOfsRow, standIns := [], harness := (true, "e0d74617f791aa2797ce76bfc053681ae9ad3aac741b5a3b359876a3348466f0"), looks := false }, kinds := [], alts := [], laidByText := true, laidKinds := [.data, .data], laidTests := true, laidLooks := .later }
def ShaOfsCardSaid : Prop := Claim7.holds Tryd.pinned (.plain (OpenSpec.ofChange shaOfsSpec)) shaOfsCard

/-- THE TIED CARD OF 'reliquarylaw03.ShaHexes'. -/
def shaHexesCard : Claim7 := { stood := { row := shaHexesRow, standIns := [], harness := (true, "e0d74617f791aa2797ce76bfc053681ae9ad3aac741b5a3b359876a3348466f0"), looks := false }, kinds := [], alts := [], laidByText := true, laidKinds := [.data], laidTests := true, laidLooks := .later }
def ShaHexesCardSaid : Prop := Claim7.holds Tryd.pinned (.plain (OpenSpec.ofChange shaHexesSpec)) shaHexesCard

/-- THE TIED CARD OF 'reliquarylaw03.ShaCuts'. -/
def shaCutsCard : Claim7 := { stood := { row := shaCutsRow, standIns := [], harness := (true, "e0d74617f791aa2797ce76bfc053681ae9ad3aac741b5a3b359876a3348466f0"), looks := false }, kinds := [], alts := [], laidByText := true, laidKinds := [.data], laidTests := true, laidLooks := .later }
def ShaCutsCardSaid : Prop := Claim7.holds Tryd.pinned (.plain (OpenSpec.ofChange shaCutsSpec)) shaCutsCard

/-- THE TIED CARD OF 'reliquarylaw03.ShaWrites'. -/
def shaWritesCard : Claim7 := { stood := { row := shaWritesRow, standIns := [], harness := (true, "e0d74617f791aa2797ce76bfc053681ae9ad3aac741b5a3b359876a3348466f0"), looks := false }, kinds := [], alts := [], laidByText := true, laidKinds := [.data, .data], laidTests := true, laidLooks := .later }
def ShaWritesCardSaid : Prop := Claim7.holds Tryd.pinned (.plain (OpenSpec.ofChange shaWritesSpec)) shaWritesCard

/-- THE TIED CARD OF 'reliquarylaw03.ShaForks'. -/
def shaForksCard : Claim7 := { stood := { row := shaForksRow, standIns := [], harness := (true, "e0d74617f791aa2797ce76bfc053681ae9ad3aac741b5a3b359876a3348466f0"), looks := false }, kinds := [], alts := [], laidByText := true, laidKinds := [.data], laidTests := true, laidLooks := .later }
def ShaForksCardSaid : Prop := Claim7.holds Tryd.pinned (.plain (OpenSpec.ofChange shaForksSpec)) shaForksCard

/-- THE TIED CARD OF 'reliquarylaw03.ShaParses'. -/
def shaParsesCard : Claim7 := { stood := { row := shaParsesRow, standIns := [], harness := (true, "e0d74617f791aa2797ce76bfc053681ae9ad3aac741b5a3b359876a3348466f0"), looks := false }, kinds := [], alts := [], laidByText := true, laidKinds := [.data], laidTests := true, laidLooks := .later }
def ShaParsesCardSaid : Prop := Claim7.holds Tryd.pinned (.plain (OpenSpec.ofChange shaParsesSpec)) shaParsesCard

/-- THE TIED CARD OF 'reliquarylaw03.ShaBack'. -/
def shaBackCard : Claim7 := { stood := { row := shaBackRow, standIns := [], harness := (true, "e0d74617f791aa2797ce76bfc053681ae9ad3aac741b5a3b359876a3348466f0"), looks := false }, kinds := [], alts := [], laidByText := true, laidKinds := [.data], laidTests := true, laidLooks := .later }
def ShaBackCardSaid : Prop := Claim7.holds Tryd.pinned (.plain (OpenSpec.ofChange shaBackSpec)) shaBackCard

/-- THE SECOND FORM's CARD OF 'reliquarylaw03.ShaOfs'. -/
def shaOfsUptoCard : Claim7 := { stood := { row := shaOfsUptoRow, standIns := [], harness := (true, "e0d74617f791aa2797ce76bfc053681ae9ad3aac741b5a3b359876a3348466f0"), looks := false }, kinds := [], alts := [], laidByText := true, laidKinds := [.data, .data], laidTests := true, laidLooks := .later }
def ShaOfsUptoCardSaid : Prop := Claim7.holds Tryd.pinned (.plain (OpenSpec.upto shaOfsSpec)) shaOfsUptoCard

/-- THE SECOND FORM's CARD OF 'reliquarylaw03.ShaHexes'. -/
def shaHexesUptoCard : Claim7 := { stood := { row := shaHexesUptoRow, standIns := [], harness := (true, "e0d74617f791aa2797ce76bfc053681ae9ad3aac741b5a3b359876a3348466f0"), looks := false }, kinds := [], alts := [], laidByText := true, laidKinds := [.data], laidTests := true, laidLooks := .later }
def ShaHexesUptoCardSaid : Prop := Claim7.holds Tryd.pinned (.plain (OpenSpec.upto shaHexesSpec)) shaHexesUptoCard

/-- THE SECOND FORM's CARD OF 'reliquarylaw03.ShaCuts'. -/
def shaCutsUptoCard : Claim7 := { stood := { row := shaCutsUptoRow, standIns := [], harness := (true, "e0d74617f791aa2797ce76bfc053681ae9ad3aac741b5a3b359876a3348466f0"), looks := false }, kinds := [], alts := [], laidByText := true, laidKinds := [.data], laidTests := true, laidLooks := .later }
def ShaCutsUptoCardSaid : Prop := Claim7.holds Tryd.pinned (.plain (OpenSpec.upto shaCutsSpec)) shaCutsUptoCard

/-- THE SECOND FORM's CARD OF 'reliquarylaw03.ShaWrites'. -/
def shaWritesUptoCard : Claim7 := { stood := { row := shaWritesUptoRow, standIns := [], harness := (true, "e0d74617f791aa2797ce76bfc053681ae9ad3aac741b5a3b359876a3348466f0"), looks := false }, kinds := [], alts := [], laidByText := true, laidKinds := [.data, .data], laidTests := true, laidLooks := .later }
def ShaWritesUptoCardSaid : Prop := Claim7.holds Tryd.pinned (.plain (OpenSpec.upto shaWritesSpec)) shaWritesUptoCard

/-- THE SECOND FORM's CARD OF 'reliquarylaw03.ShaForks'. -/
def shaForksUptoCard : Claim7 := { stood := { row := shaForksUptoRow, standIns := [], harness := (true, "e0d74617f791aa2797ce76bfc053681ae9ad3aac741b5a3b359876a3348466f0"), looks := false }, kinds := [], alts := [], laidByText := true, laidKinds := [.data], laidTests := true, laidLooks := .later }
def ShaForksUptoCardSaid : Prop := Claim7.holds Tryd.pinned (.plain (OpenSpec.upto shaForksSpec)) shaForksUptoCard

/-- THE SECOND FORM's CARD OF 'reliquarylaw03.ShaParses'. -/
def shaParsesUptoCard : Claim7 := { stood := { row := shaParsesUptoRow, standIns := [], harness := (true, "e0d74617f791aa2797ce76bfc053681ae9ad3aac741b5a3b359876a3348466f0"), looks := false }, kinds := [], alts := [], laidByText := true, laidKinds := [.data], laidTests := true, laidLooks := .later }
def ShaParsesUptoCardSaid : Prop := Claim7.holds Tryd.pinned (.plain (OpenSpec.upto shaParsesSpec)) shaParsesUptoCard

/-- THE SECOND FORM's CARD OF 'reliquarylaw03.ShaBack'. -/
def shaBackUptoCard : Claim7 := { stood := { row := shaBackUptoRow, standIns := [], harness := (true, "e0d74617f791aa2797ce76bfc053681ae9ad3aac741b5a3b359876a3348466f0"), looks := false }, kinds := [], alts := [], laidByText := true, laidKinds := [.data], laidTests := true, laidLooks := .later }
def ShaBackUptoCardSaid : Prop := Claim7.holds Tryd.pinned (.plain (OpenSpec.upto shaBackSpec)) shaBackUptoCard
end Rows
end Go.Proofs.YtnmjjdjfhaigcaaDoor

/-
  NARROWER THAN 'FOR EVERY INPUT', by the rows' own cells (each row's printed sentence says how): ShaOfs: laid · ShaHexes: laid · ShaCuts: laid · ShaWrites: laid · ShaForks: laid · ShaParses: laid · ShaBack: laid.
  DERIVED. THE GIVEN ROWS OF THIS SEAT. 7 by the template 'for every input the law returns true; each argument reads behind the call as it read before'; 0 by the template 'total and deterministic' (their statements: YtnmjjdjfhaigcaaDoorTotals.lean).
  GIVEN WITH THE SEED: the statements are not yours to turn. If you find one false, say at which input.
  Laid BY PROGRAM, IN A SANDBOX (cutbox-rows.mjs): the forced cells as the released guide's own fill.sh prints them over the translation 5da5be5be1b8a668… (all of the seat's roots in one cut). By AI agents, Wed Nov 11 2026. No macro, syntax, notation, axiom, sorry.
-/
import Derived.Test.YtnmjjdjfhaigcaaDoorChecked
import GoSem.Claim
import GoSem.ClaimJoined
import GoSem.ClaimMapViews
import Derived.JoinedTies
import Derived.KernelRfl
namespace Go.Proofs.YtnmjjdjfhaigcaaDoor
/- THE CELL 'sum', in the pinned program and in every row, IS THE sha256 OF THE DUMP (.gsa) THAT YtnmjjdjfhaigcaaDoorProg.lean LOADS. Nothing in Lean hashes anything: it is a label: what it is worth is what the hold of that sum in a sandbox is worth. -/
noncomputable def Tryd.pinned : Pinned := { name := "ytnmjjdjfhaigcaadoor", sum := "5da5be5be1b8a6684f41c49afd784ed115210d0a8a82fda94c6345f18608aa0f", checked := Tryd.checked }
namespace Rows
def none {H : Type} : Left H := { results := [], args := [] }

/- WHAT THE LISTED PACKAGE-LEVEL VARIABLES READ AS WHEN THE CALL BEGINS. Each datum BY PROGRAM (the guide's laid-datum.mjs) off the statement by which the dump's own 'gosem.cut.vars' lays the variable. In a bare row this is a premise. The card (YtnmjjdjfhaigcaaDoorCards.lean) ties it to the program's text. -/
def laid_reliquary_reliquaryref03_k {H : Type} : DataW H := .agg [.lit (.int .u32 1116352408), .lit (.int .u32 1899447441), .lit (.int .u32 3049323471), .lit (.int .u32 3921009573), .lit (.int .u32 961987163), .lit (.int .u32 1508970993), .lit (.int .u32 2453635748), .lit (.int .u32 2870763221), .lit (.int .u32 3624381080), .lit (.int .u32 310598401), .lit (.int .u32 607225278), .lit (.int .u32 1426881987), .lit (.int .u32 1925078388), .lit (.int .u32 2162078206), .lit (.int .u32 2614888103), .lit (.int .u32 3248222580), .lit (.int .u32 3835390401), .lit (.int .u32 4022224774), .lit (.int .u32 264347078), .lit (.int .u32 604807628), .lit (.int .u32 770255983), .lit (.int .u32 1249150122), .lit (.int .u32 1555081692), .lit (.int .u32 1996064986), .lit (.int .u32 2554220882), .lit (.int .u32 2821834349), .lit (.int .u32 2952996808), .lit (.int .u32 3210313671), .lit (.int .u32 3336571891), .lit (.int .u32 3584528711), .lit (.int .u32 113926993), .lit (.int .u32 338241895), .lit (.int .u32 666307205), .lit (.int .u32 773529912), .lit (.int .u32 1294757372), .lit (.int .u32 1396182291), .lit (.int .u32 1695183700), .lit (.int .u32 1986661051), .lit (.int .u32 2177026350), .lit (.int .u32 2456956037), .lit (.int .u32 2730485921), .lit (.int .u32 2820302411), .lit (.int .u32 3259730800), .lit (.int .u32 3345764771), .lit (.int .u32 3516065817), .lit (.int .u32 3600352804), .lit (.int .u32 4094571909), .lit (.int .u32 275423344), .lit (.int .u32 430227734), .lit (.int .u32 506948616), .lit (.int .u32 659060556), .lit (.int .u32 883997877), .lit (.int .u32 958139571), .lit (.int .u32 1322822218), .lit (.int .u32 1537002063), .lit (.int .u32 1747873779), .lit (.int .u32 1955562222), .lit (.int .u32 2024104815), .lit (.int .u32 2227730452), .lit (.int .u32 2361852424), .lit (.int .u32 2428436474), .lit (.int .u32 2756734187), .lit (.int .u32 3204031479), .lit (.int .u32 3329325298)]
def laid_reliquary_sha_roots {H : Type} : DataW H := .agg [.lit (.int .u32 1116352408), .lit (.int .u32 1899447441), .lit (.int .u32 3049323471), .lit (.int .u32 3921009573), .lit (.int .u32 961987163), .lit (.int .u32 1508970993), .lit (.int .u32 2453635748), .lit (.int .u32 2870763221), .lit (.int .u32 3624381080), .lit (.int .u32 310598401), .lit (.int .u32 607225278), .lit (.int .u32 1426881987), .lit (.int .u32 1925078388), .lit (.int .u32 2162078206), .lit (.int .u32 2614888103), .lit (.int .u32 3248222580), .lit (.int .u32 3835390401), .lit (.int .u32 4022224774), .lit (.int .u32 264347078), .lit (.int .u32 604807628), .lit (.int .u32 770255983), .lit (.int .u32 1249150122), .lit (.int .u32 1555081692), .lit (.int .u32 1996064986), .lit (.int .u32 2554220882), .lit (.int .u32 2821834349), .lit (.int .u32 2952996808), .lit (.int .u32 3210313671), .lit (.int .u32 3336571891), .lit (.int .u32 3584528711), .lit (.int .u32 113926993), .lit (.int .u32 338241895), .lit (.int .u32 666307205), .lit (.int .u32 773529912), .lit (.int .u32 1294757372), .lit (.int .u32 1396182291), .lit (.int .u32 1695183700), .lit (.int .u32 1986661051), .lit (.int .u32 2177026350), .lit (.int .u32 2456956037), .lit (.int .u32 2730485921), .lit (.int .u32 2820302411), .lit (.int .u32 3259730800), .lit (.int .u32 3345764771), .lit (.int .u32 3516065817), .lit (.int .u32 3600352804), .lit (.int .u32 4094571909), .lit (.int .u32 275423344), .lit (.int .u32 430227734), .lit (.int .u32 506948616), .lit (.int .u32 659060556), .lit (.int .u32 883997877), .lit (.int .u32 958139571), .lit (.int .u32 1322822218), .lit (.int .u32 1537002063), .lit (.int .u32 1747873779), .lit (.int .u32 1955562222), .lit (.int .u32 2024104815), .lit (.int .u32 2227730452), .lit (.int .u32 2361852424), .lit (.int .u32 2428436474), .lit (.int .u32 2756734187), .lit (.int .u32 3204031479), .lit (.int .u32 3329325298)]

/-- 'reliquarylaw03.ShaOfs': WHATEVER THE INPUT: true; the input reads as it did. -/
def shaOfsSpec : ChangeSpec := { name := "shaOfs", fn := fun _ => fun
  | [d] => { results := [.lit (.bool true)], args := [d] }
  | _ => none }
def shaOfsRow : OpenClaim := { program := "ytnmjjdjfhaigcaadoor", sum := "5da5be5be1b8a6684f41c49afd784ed115210d0a8a82fda94c6345f18608aa0f", func := "reliquary/reliquarylaw03.ShaOfs", spec := "shaOfs", unfollowed := true, recurses := true, named := ["reliquary/sha.roots", "reliquary/reliquaryref03.k"], apart := false, laid := [("reliquary/reliquaryref03.k", laid_reliquary_reliquaryref03_k), ("reliquary/sha.roots", laid_reliquary_sha_roots)] }
def ShaOfsSaid : Prop := shaOfsRow.holds Tryd.pinned (OpenSpec.ofChange shaOfsSpec)

/-- ITS FALSE NEIGHBOUR: 'it returns false'. Refute it at one input. -/
def shaOfsWrong : ChangeSpec := { name := "shaOfs", fn := fun _ => fun
  | [d] => { results := [.lit (.bool false)], args := [d] }
  | _ => none }
def ShaOfsWrongFalsely : Prop := shaOfsRow.holds Tryd.pinned (OpenSpec.ofChange shaOfsWrong)

/-- 'reliquarylaw03.ShaHexes': WHATEVER THE INPUT: true; the input reads as it did. -/
def shaHexesSpec : ChangeSpec := { name := "shaHexes", fn := fun _ => fun
  | [d] => { results := [.lit (.bool true)], args := [d] }
  | _ => none }
def shaHexesRow : OpenClaim := { program := "ytnmjjdjfhaigcaadoor", sum := "5da5be5be1b8a6684f41c49afd784ed115210d0a8a82fda94c6345f18608aa0f", func := "reliquary/reliquarylaw03.ShaHexes", spec := "shaHexes", unfollowed := true, recurses := true, named := ["reliquary/sha.roots"], apart := false, laid := [("reliquary/sha.roots", laid_reliquary_sha_roots)] }
def ShaHexesSaid : Prop := shaHexesRow.holds Tryd.pinned (OpenSpec.ofChange shaHexesSpec)

/-- ITS FALSE NEIGHBOUR: 'it returns false'. Refute it at one input. -/
def shaHexesWrong : ChangeSpec := { name := "shaHexes", fn := fun _ => fun
  | [d] => { results := [.lit (.bool false)], args := [d] }
  | _ => none }
def ShaHexesWrongFalsely : Prop := shaHexesRow.holds Tryd.pinned (OpenSpec.ofChange shaHexesWrong)

/-- 'reliquarylaw03.ShaCuts': WHATEVER THE INPUT: true; the input reads as it did. -/
def shaCutsSpec : ChangeSpec := { name := "shaCuts", fn := fun _ => fun
  | [d1, d2] => { results := [.lit (.bool true)], args := [d1, d2] }
  | _ => none }
def shaCutsRow : OpenClaim := { program := "ytnmjjdjfhaigcaadoor", sum := "5da5be5be1b8a6684f41c49afd784ed115210d0a8a82fda94c6345f18608aa0f", func := "reliquary/reliquarylaw03.ShaCuts", spec := "shaCuts", unfollowed := true, recurses := true, named := ["reliquary/sha.roots"], apart := false, laid := [("reliquary/sha.roots", laid_reliquary_sha_roots)] }
def ShaCutsSaid : Prop := shaCutsRow.holds Tryd.pinned (OpenSpec.ofChange shaCutsSpec)

/-- ITS FALSE NEIGHBOUR: 'it returns false'. Refute it at one input. -/
def shaCutsWrong : ChangeSpec := { name := "shaCuts", fn := fun _ => fun
  | [d1, d2] => { results := [.lit (.bool false)], args := [d1, d2] }
  | _ => none }
def ShaCutsWrongFalsely : Prop := shaCutsRow.holds Tryd.pinned (OpenSpec.ofChange shaCutsWrong)

/-- 'reliquarylaw03.ShaWrites': WHATEVER THE INPUT: true; the input reads as it did. -/
def shaWritesSpec : ChangeSpec := { name := "shaWrites", fn := fun _ => fun
  | [d] => { results := [.lit (.bool true)], args := [d] }
  | _ => none }
def shaWritesRow : OpenClaim := { program := "ytnmjjdjfhaigcaadoor", sum := "5da5be5be1b8a6684f41c49afd784ed115210d0a8a82fda94c6345f18608aa0f", func := "reliquary/reliquarylaw03.ShaWrites", spec := "shaWrites", unfollowed := true, recurses := true, named := ["reliquary/sha.roots", "reliquary/reliquaryref03.k"], apart := false, laid := [("reliquary/reliquaryref03.k", laid_reliquary_reliquaryref03_k), ("reliquary/sha.roots", laid_reliquary_sha_roots)] }
def ShaWritesSaid : Prop := shaWritesRow.holds Tryd.pinned (OpenSpec.ofChange shaWritesSpec)

/-- ITS FALSE NEIGHBOUR: 'it returns false'. Refute it at one input. -/
def shaWritesWrong : ChangeSpec := { name := "shaWrites", fn := fun _ => fun
  | [d] => { results := [.lit (.bool false)], args := [d] }
  | _ => none }
def ShaWritesWrongFalsely : Prop := shaWritesRow.holds Tryd.pinned (OpenSpec.ofChange shaWritesWrong)

/-- 'reliquarylaw03.ShaForks': WHATEVER THE INPUT: true; the input reads as it did. -/
def shaForksSpec : ChangeSpec := { name := "shaForks", fn := fun _ => fun
  | [d1, d2, d3] => { results := [.lit (.bool true)], args := [d1, d2, d3] }
  | _ => none }
def shaForksRow : OpenClaim := { program := "ytnmjjdjfhaigcaadoor", sum := "5da5be5be1b8a6684f41c49afd784ed115210d0a8a82fda94c6345f18608aa0f", func := "reliquary/reliquarylaw03.ShaForks", spec := "shaForks", unfollowed := true, recurses := true, named := ["reliquary/sha.roots"], apart := false, laid := [("reliquary/sha.roots", laid_reliquary_sha_roots)] }
def ShaForksSaid : Prop := shaForksRow.holds Tryd.pinned (OpenSpec.ofChange shaForksSpec)

/-- ITS FALSE NEIGHBOUR: 'it returns false'. Refute it at one input. -/
def shaForksWrong : ChangeSpec := { name := "shaForks", fn := fun _ => fun
  | [d1, d2, d3] => { results := [.lit (.bool false)], args := [d1, d2, d3] }
  | _ => none }
def ShaForksWrongFalsely : Prop := shaForksRow.holds Tryd.pinned (OpenSpec.ofChange shaForksWrong)

/-- 'reliquarylaw03.ShaParses': WHATEVER THE INPUT: true; the input reads as it did. -/
def shaParsesSpec : ChangeSpec := { name := "shaParses", fn := fun _ => fun
  | [d] => { results := [.lit (.bool true)], args := [d] }
  | _ => none }
def shaParsesRow : OpenClaim := { program := "ytnmjjdjfhaigcaadoor", sum := "5da5be5be1b8a6684f41c49afd784ed115210d0a8a82fda94c6345f18608aa0f", func := "reliquary/reliquarylaw03.ShaParses", spec := "shaParses", unfollowed := true, recurses := true, named := ["reliquary/sha.roots"], apart := false, laid := [("reliquary/sha.roots", laid_reliquary_sha_roots)] }
def ShaParsesSaid : Prop := shaParsesRow.holds Tryd.pinned (OpenSpec.ofChange shaParsesSpec)

/-- ITS FALSE NEIGHBOUR: 'it returns false'. Refute it at one input. -/
def shaParsesWrong : ChangeSpec := { name := "shaParses", fn := fun _ => fun
  | [d] => { results := [.lit (.bool false)], args := [d] }
  | _ => none }
def ShaParsesWrongFalsely : Prop := shaParsesRow.holds Tryd.pinned (OpenSpec.ofChange shaParsesWrong)

/-- 'reliquarylaw03.ShaBack': WHATEVER THE INPUT: true; the input reads as it did. -/
def shaBackSpec : ChangeSpec := { name := "shaBack", fn := fun _ => fun
  | [d1, d2] => { results := [.lit (.bool true)], args := [d1, d2] }
  | _ => none }
def shaBackRow : OpenClaim := { program := "ytnmjjdjfhaigcaadoor", sum := "5da5be5be1b8a6684f41c49afd784ed115210d0a8a82fda94c6345f18608aa0f", func := "reliquary/reliquarylaw03.ShaBack", spec := "shaBack", unfollowed := true, recurses := true, named := ["reliquary/sha.roots"], apart := false, laid := [("reliquary/sha.roots", laid_reliquary_sha_roots)] }
def ShaBackSaid : Prop := shaBackRow.holds Tryd.pinned (OpenSpec.ofChange shaBackSpec)

/-- ITS FALSE NEIGHBOUR: 'it returns false'. Refute it at one input. -/
def shaBackWrong : ChangeSpec := { name := "shaBack", fn := fun _ => fun
  | [d1, d2] => { results := [.lit (.bool false)], args := [d1, d2] }
  | _ => none }
def ShaBackWrongFalsely : Prop := shaBackRow.holds Tryd.pinned (OpenSpec.ofChange shaBackWrong)

/- THE SECOND FORM. 'bulk': how many values and letters a reading holds, each counted each time it is reached (what is shared counts as often as it is met; a slice's spare places count too). A statement '..UptoSaid' is the law's where the arguments, and the package variables that the reading takes, are together of bulk at most 1048576: NARROWER than '..Said'. Prove '..Said' where nothing that the law and all that it calls make is longer than what came in: it says more and counts as full. Else prove '..UptoSaid'. A law counts once. -/
mutual
def uptoBulk {H : Type} : DataW H → Nat
  | .lit (.string bytes) => bytes.length + 1
  | .lit _ => 1
  | .nil => 1
  | .ptr d => uptoBulk d + 1
  | .slice elems spare => uptoBulkAll elems + uptoBulkAll spare + 1
  | .agg parts => uptoBulkAll parts + 1
  | .iface _ d => uptoBulk d + 1
  | .map entries => uptoBulkEntries entries + 1
  | .held _ => 1
def uptoBulkAll {H : Type} : List (DataW H) → Nat
  | [] => 0
  | d :: r => uptoBulk d + uptoBulkAll r
def uptoBulkEntries {H : Type} : List (Lit × DataW H) → Nat
  | [] => 0
  | x :: r => uptoBulkEntry x + uptoBulkEntries r
def uptoBulkEntry {H : Type} : Lit × DataW H → Nat
  | (.string bytes, d) => bytes.length + uptoBulk d + 1
  | (_, d) => uptoBulk d + 1
 end
def uptoSmall : (H : Type) → List (DataW H) → Bool := fun _ ds => decide (uptoBulkAll ds ≤ 1048576)
def OpenSpec.upto (s : _root_.Go.ChangeSpec) : _root_.Go.OpenSpec := { _root_.Go.OpenSpec.ofChange s with cond := some uptoSmall }

/-- 'reliquarylaw03.ShaOfs', WHERE WHAT IT READS IS OF BULK AT MOST 1048576: true; the input reads as it did. -/
def shaOfsUptoRow : OpenClaim := { program := "ytnmjjdjfhaigcaadoor", sum := "5da5be5be1b8a6684f41c49afd784ed115210d0a8a82fda94c6345f18608aa0f", func := "reliquary/reliquarylaw03.ShaOfs", spec := "shaOfs", unfollowed := true, recurses := true, named := ["reliquary/sha.roots", "reliquary/reliquaryref03.k"], apart := false, laid := [("reliquary/reliquaryref03.k", laid_reliquary_reliquaryref03_k), ("reliquary/sha.roots", laid_reliquary_sha_roots)], narrowed := true }
def ShaOfsUptoSaid : Prop := shaOfsUptoRow.holds Tryd.pinned (OpenSpec.upto shaOfsSpec)

/-- 'reliquarylaw03.ShaHexes', WHERE WHAT IT READS IS OF BULK AT MOST 1048576: true; the input reads as it did. -/
def shaHexesUptoRow : OpenClaim := { program := "ytnmjjdjfhaigcaadoor", sum := "5da5be5be1b8a6684f41c49afd784ed115210d0a8a82fda94c6345f18608aa0f", func := "reliquary/reliquarylaw03.ShaHexes", spec := "shaHexes", unfollowed := true, recurses := true, named := ["reliquary/sha.roots"], apart := false, laid := [("reliquary/sha.roots", laid_reliquary_sha_roots)], narrowed := true }
def ShaHexesUptoSaid : Prop := shaHexesUptoRow.holds Tryd.pinned (OpenSpec.upto shaHexesSpec)

/-- 'reliquarylaw03.ShaCuts', WHERE WHAT IT READS IS OF BULK AT MOST 1048576: true; the input reads as it did. -/
def shaCutsUptoRow : OpenClaim := { program := "ytnmjjdjfhaigcaadoor", sum := "5da5be5be1b8a6684f41c49afd784ed115210d0a8a82fda94c6345f18608aa0f", func := "reliquary/reliquarylaw03.ShaCuts", spec := "shaCuts", unfollowed := true, recurses := true, named := ["reliquary/sha.roots"], apart := false, laid := [("reliquary/sha.roots", laid_reliquary_sha_roots)], narrowed := true }
def ShaCutsUptoSaid : Prop := shaCutsUptoRow.holds Tryd.pinned (OpenSpec.upto shaCutsSpec)

/-- 'reliquarylaw03.ShaWrites', WHERE WHAT IT READS IS OF BULK AT MOST 1048576: true; the input reads as it did. -/
def shaWritesUptoRow : OpenClaim := { program := "ytnmjjdjfhaigcaadoor", sum := "5da5be5be1b8a6684f41c49afd784ed115210d0a8a82fda94c6345f18608aa0f", func := "reliquary/reliquarylaw03.ShaWrites", spec := "shaWrites", unfollowed := true, recurses := true, named := ["reliquary/sha.roots", "reliquary/reliquaryref03.k"], apart := false, laid := [("reliquary/reliquaryref03.k", laid_reliquary_reliquaryref03_k), ("reliquary/sha.roots", laid_reliquary_sha_roots)], narrowed := true }
def ShaWritesUptoSaid : Prop := shaWritesUptoRow.holds Tryd.pinned (OpenSpec.upto shaWritesSpec)

/-- 'reliquarylaw03.ShaForks', WHERE WHAT IT READS IS OF BULK AT MOST 1048576: true; the input reads as it did. -/
def shaForksUptoRow : OpenClaim := { program := "ytnmjjdjfhaigcaadoor", sum := "5da5be5be1b8a6684f41c49afd784ed115210d0a8a82fda94c6345f18608aa0f", func := "reliquary/reliquarylaw03.ShaForks", spec := "shaForks", unfollowed := true, recurses := true, named := ["reliquary/sha.roots"], apart := false, laid := [("reliquary/sha.roots", laid_reliquary_sha_roots)], narrowed := true }
def ShaForksUptoSaid : Prop := shaForksUptoRow.holds Tryd.pinned (OpenSpec.upto shaForksSpec)

/-- 'reliquarylaw03.ShaParses', WHERE WHAT IT READS IS OF BULK AT MOST 1048576: true; the input reads as it did. -/
def shaParsesUptoRow : OpenClaim := { program := "ytnmjjdjfhaigcaadoor", sum := "5da5be5be1b8a6684f41c49afd784ed115210d0a8a82fda94c6345f18608aa0f", func := "reliquary/reliquarylaw03.ShaParses", spec := "shaParses", unfollowed := true, recurses := true, named := ["reliquary/sha.roots"], apart := false, laid := [("reliquary/sha.roots", laid_reliquary_sha_roots)], narrowed := true }
def ShaParsesUptoSaid : Prop := shaParsesUptoRow.holds Tryd.pinned (OpenSpec.upto shaParsesSpec)

/-- 'reliquarylaw03.ShaBack', WHERE WHAT IT READS IS OF BULK AT MOST 1048576: true; the input reads as it did. -/
def shaBackUptoRow : OpenClaim := { program := "ytnmjjdjfhaigcaadoor", sum := "5da5be5be1b8a6684f41c49afd784ed115210d0a8a82fda94c6345f18608aa0f", func := "reliquary/reliquarylaw03.ShaBack", spec := "shaBack", unfollowed := true, recurses := true, named := ["reliquary/sha.roots"], apart := false, laid := [("reliquary/sha.roots", laid_reliquary_sha_roots)], narrowed := true }
def ShaBackUptoSaid : Prop := shaBackUptoRow.holds Tryd.pinned (OpenSpec.upto shaBackSpec)

end Rows
end Go.Proofs.YtnmjjdjfhaigcaaDoor

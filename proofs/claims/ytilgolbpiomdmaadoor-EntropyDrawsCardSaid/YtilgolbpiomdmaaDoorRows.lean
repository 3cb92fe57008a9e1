/-
  NARROWER THAN 'FOR EVERY INPUT', by the rows' own cells (each row's printed sentence says how): EntropyDraws: laid · EntropyCuts: laid · EntropyForks: laid · HmacOfs: laid · HmacWrites: laid · HmacEquals: laid · HmacKeys: laid · HmacCuts: laid · HmacDefined: laid.
  DERIVED. THE GIVEN ROWS OF THIS SEAT. 9 by the template 'for every input the law returns true; each argument reads behind the call as it read before'; 0 by the template 'total and deterministic' (their statements: YtilgolbpiomdmaaDoorTotals.lean).
  GIVEN WITH THE SEED: the statements are not yours to turn. If you find one false, say at which input.
  Laid BY PROGRAM, IN A SANDBOX (cutbox-rows.mjs): the forced cells as the released guide's own fill.sh prints them over the translation 9931f24f9861c9da… (all of the seat's roots in one cut). By AI agents, Wed Nov 11 2026. No macro, syntax, notation, axiom, sorry.
-/
import Derived.Test.YtilgolbpiomdmaaDoorChecked
import GoSem.Claim
import GoSem.ClaimJoined
import GoSem.ClaimMapViews
import Derived.JoinedTies
import Derived.KernelRfl
namespace Go.Proofs.YtilgolbpiomdmaaDoor
/- THE CELL 'sum', in the pinned program and in every row, IS THE sha256 OF THE DUMP (.gsa) THAT YtilgolbpiomdmaaDoorProg.lean LOADS. Nothing in Lean hashes anything: it is a label: what it is worth is what the hold of that sum in a sandbox is worth. -/
noncomputable def Tryd.pinned : Pinned := { name := "ytilgolbpiomdmaadoor", sum := "9931f24f9861c9da914d839f014f7d3f5e4afa4ca34c3cabd545a6262d6f2e9a", checked := Tryd.checked }
namespace Rows
def none {H : Type} : Left H := { results := [], args := [] }

/- WHAT THE LISTED PACKAGE-LEVEL VARIABLES READ AS WHEN THE CALL BEGINS. Each datum BY PROGRAM (the guide's laid-datum.mjs) off the statement by which the dump's own 'gosem.cut.vars' lays the variable. In a bare row this is a premise. The card (YtilgolbpiomdmaaDoorCards.lean) ties it to the program's text. -/
def laid_reliquary_reliquaryref03_k {H : Type} : DataW H := .agg [.lit (.int .u32 1116352408), .lit (.int .u32 1899447441), .lit (.int .u32 3049323471), .lit (.int .u32 3921009573), .lit (.int .u32 961987163), .lit (.int .u32 1508970993), .lit (.int .u32 2453635748), .lit (.int .u32 2870763221), .lit (.int .u32 3624381080), .lit (.int .u32 310598401), .lit (.int .u32 607225278), .lit (.int .u32 1426881987), .lit (.int .u32 1925078388), .lit (.int .u32 2162078206), .lit (.int .u32 2614888103), .lit (.int .u32 3248222580), .lit (.int .u32 3835390401), .lit (.int .u32 4022224774), .lit (.int .u32 264347078), .lit (.int .u32 604807628), .lit (.int .u32 770255983), .lit (.int .u32 1249150122), .lit (.int .u32 1555081692), .lit (.int .u32 1996064986), .lit (.int .u32 2554220882), .lit (.int .u32 2821834349), .lit (.int .u32 2952996808), .lit (.int .u32 3210313671), .lit (.int .u32 3336571891), .lit (.int .u32 3584528711), .lit (.int .u32 113926993), .lit (.int .u32 338241895), .lit (.int .u32 666307205), .lit (.int .u32 773529912), .lit (.int .u32 1294757372), .lit (.int .u32 1396182291), .lit (.int .u32 1695183700), .lit (.int .u32 1986661051), .lit (.int .u32 2177026350), .lit (.int .u32 2456956037), .lit (.int .u32 2730485921), .lit (.int .u32 2820302411), .lit (.int .u32 3259730800), .lit (.int .u32 3345764771), .lit (.int .u32 3516065817), .lit (.int .u32 3600352804), .lit (.int .u32 4094571909), .lit (.int .u32 275423344), .lit (.int .u32 430227734), .lit (.int .u32 506948616), .lit (.int .u32 659060556), .lit (.int .u32 883997877), .lit (.int .u32 958139571), .lit (.int .u32 1322822218), .lit (.int .u32 1537002063), .lit (.int .u32 1747873779), .lit (.int .u32 1955562222), .lit (.int .u32 2024104815), .lit (.int .u32 2227730452), .lit (.int .u32 2361852424), .lit (.int .u32 2428436474), .lit (.int .u32 2756734187), .lit (.int .u32 3204031479), .lit (.int .u32 3329325298)]
def laid_reliquary_sha_roots {H : Type} : DataW H := .agg [.lit (.int .u32 1116352408), .lit (.int .u32 1899447441), .lit (.int .u32 3049323471), .lit (.int .u32 3921009573), .lit (.int .u32 961987163), .lit (.int .u32 1508970993), .lit (.int .u32 2453635748), .lit (.int .u32 2870763221), .lit (.int .u32 3624381080), .lit (.int .u32 310598401), .lit (.int .u32 607225278), .lit (.int .u32 1426881987), .lit (.int .u32 1925078388), .lit (.int .u32 2162078206), .lit (.int .u32 2614888103), .lit (.int .u32 3248222580), .lit (.int .u32 3835390401), .lit (.int .u32 4022224774), .lit (.int .u32 264347078), .lit (.int .u32 604807628), .lit (.int .u32 770255983), .lit (.int .u32 1249150122), .lit (.int .u32 1555081692), .lit (.int .u32 1996064986), .lit (.int .u32 2554220882), .lit (.int .u32 2821834349), .lit (.int .u32 2952996808), .lit (.int .u32 3210313671), .lit (.int .u32 3336571891), .lit (.int .u32 3584528711), .lit (.int .u32 113926993), .lit (.int .u32 338241895), .lit (.int .u32 666307205), .lit (.int .u32 773529912), .lit (.int .u32 1294757372), .lit (.int .u32 1396182291), .lit (.int .u32 1695183700), .lit (.int .u32 1986661051), .lit (.int .u32 2177026350), .lit (.int .u32 2456956037), .lit (.int .u32 2730485921), .lit (.int .u32 2820302411), .lit (.int .u32 3259730800), .lit (.int .u32 3345764771), .lit (.int .u32 3516065817), .lit (.int .u32 3600352804), .lit (.int .u32 4094571909), .lit (.int .u32 275423344), .lit (.int .u32 430227734), .lit (.int .u32 506948616), .lit (.int .u32 659060556), .lit (.int .u32 883997877), .lit (.int .u32 958139571), .lit (.int .u32 1322822218), .lit (.int .u32 1537002063), .lit (.int .u32 1747873779), .lit (.int .u32 1955562222), .lit (.int .u32 2024104815), .lit (.int .u32 2227730452), .lit (.int .u32 2361852424), .lit (.int .u32 2428436474), .lit (.int .u32 2756734187), .lit (.int .u32 3204031479), .lit (.int .u32 3329325298)]

/-- 'reliquarylaw09.EntropyDraws': WHATEVER THE INPUT: true; the input reads as it did. -/
def entropyDrawsSpec : ChangeSpec := { name := "entropyDraws", fn := fun _ => fun
  | [d1, d2] => { results := [.lit (.bool true)], args := [d1, d2] }
  | _ => none }
def entropyDrawsRow : OpenClaim := { program := "ytilgolbpiomdmaadoor", sum := "9931f24f9861c9da914d839f014f7d3f5e4afa4ca34c3cabd545a6262d6f2e9a", func := "reliquary/reliquarylaw09.EntropyDraws", spec := "entropyDraws", unfollowed := true, recurses := true, named := ["reliquary/sha.roots", "reliquary/reliquaryref03.k"], apart := false, laid := [("reliquary/reliquaryref03.k", laid_reliquary_reliquaryref03_k), ("reliquary/sha.roots", laid_reliquary_sha_roots)] }
def EntropyDrawsSaid : Prop := entropyDrawsRow.holds Tryd.pinned (OpenSpec.ofChange entropyDrawsSpec)

/-- ITS FALSE NEIGHBOUR: 'it returns false'. Refute it at one input. -/
def entropyDrawsWrong : ChangeSpec := { name := "entropyDraws", fn := fun _ => fun
  | [d1, d2] => { results := [.lit (.bool false)], args := [d1, d2] }
  | _ => none }
def EntropyDrawsWrongFalsely : Prop := entropyDrawsRow.holds Tryd.pinned (OpenSpec.ofChange entropyDrawsWrong)

/-- 'reliquarylaw09.EntropyCuts': WHATEVER THE INPUT: true; the input reads as it did. -/
def entropyCutsSpec : ChangeSpec := { name := "entropyCuts", fn := fun _ => fun
  | [d1, d2, d3] => { results := [.lit (.bool true)], args := [d1, d2, d3] }
  | _ => none }
def entropyCutsRow : OpenClaim := { program := "ytilgolbpiomdmaadoor", sum := "9931f24f9861c9da914d839f014f7d3f5e4afa4ca34c3cabd545a6262d6f2e9a", func := "reliquary/reliquarylaw09.EntropyCuts", spec := "entropyCuts", unfollowed := true, recurses := true, named := ["reliquary/sha.roots"], apart := false, laid := [("reliquary/sha.roots", laid_reliquary_sha_roots)] }
def EntropyCutsSaid : Prop := entropyCutsRow.holds Tryd.pinned (OpenSpec.ofChange entropyCutsSpec)

/-- ITS FALSE NEIGHBOUR: 'it returns false'. Refute it at one input. -/
def entropyCutsWrong : ChangeSpec := { name := "entropyCuts", fn := fun _ => fun
  | [d1, d2, d3] => { results := [.lit (.bool false)], args := [d1, d2, d3] }
  | _ => none }
def EntropyCutsWrongFalsely : Prop := entropyCutsRow.holds Tryd.pinned (OpenSpec.ofChange entropyCutsWrong)

/-- 'reliquarylaw09.EntropyForks': WHATEVER THE INPUT: true; the input reads as it did. -/
def entropyForksSpec : ChangeSpec := { name := "entropyForks", fn := fun _ => fun
  | [d1, d2, d3] => { results := [.lit (.bool true)], args := [d1, d2, d3] }
  | _ => none }
def entropyForksRow : OpenClaim := { program := "ytilgolbpiomdmaadoor", sum := "9931f24f9861c9da914d839f014f7d3f5e4afa4ca34c3cabd545a6262d6f2e9a", func := "reliquary/reliquarylaw09.EntropyForks", spec := "entropyForks", unfollowed := true, recurses := true, named := ["reliquary/sha.roots"], apart := false, laid := [("reliquary/sha.roots", laid_reliquary_sha_roots)] }
def EntropyForksSaid : Prop := entropyForksRow.holds Tryd.pinned (OpenSpec.ofChange entropyForksSpec)

/-- ITS FALSE NEIGHBOUR: 'it returns false'. Refute it at one input. -/
def entropyForksWrong : ChangeSpec := { name := "entropyForks", fn := fun _ => fun
  | [d1, d2, d3] => { results := [.lit (.bool false)], args := [d1, d2, d3] }
  | _ => none }
def EntropyForksWrongFalsely : Prop := entropyForksRow.holds Tryd.pinned (OpenSpec.ofChange entropyForksWrong)

/-- 'reliquarylaw04.HmacOfs': WHATEVER THE INPUT: true; the input reads as it did. -/
def hmacOfsSpec : ChangeSpec := { name := "hmacOfs", fn := fun _ => fun
  | [d1, d2] => { results := [.lit (.bool true)], args := [d1, d2] }
  | _ => none }
def hmacOfsRow : OpenClaim := { program := "ytilgolbpiomdmaadoor", sum := "9931f24f9861c9da914d839f014f7d3f5e4afa4ca34c3cabd545a6262d6f2e9a", func := "reliquary/reliquarylaw04.HmacOfs", spec := "hmacOfs", unfollowed := true, recurses := true, named := ["reliquary/sha.roots", "reliquary/reliquaryref03.k"], apart := false, laid := [("reliquary/reliquaryref03.k", laid_reliquary_reliquaryref03_k), ("reliquary/sha.roots", laid_reliquary_sha_roots)] }
def HmacOfsSaid : Prop := hmacOfsRow.holds Tryd.pinned (OpenSpec.ofChange hmacOfsSpec)

/-- ITS FALSE NEIGHBOUR: 'it returns false'. Refute it at one input. -/
def hmacOfsWrong : ChangeSpec := { name := "hmacOfs", fn := fun _ => fun
  | [d1, d2] => { results := [.lit (.bool false)], args := [d1, d2] }
  | _ => none }
def HmacOfsWrongFalsely : Prop := hmacOfsRow.holds Tryd.pinned (OpenSpec.ofChange hmacOfsWrong)

/-- 'reliquarylaw04.HmacWrites': WHATEVER THE INPUT: true; the input reads as it did. -/
def hmacWritesSpec : ChangeSpec := { name := "hmacWrites", fn := fun _ => fun
  | [d1, d2] => { results := [.lit (.bool true)], args := [d1, d2] }
  | _ => none }
def hmacWritesRow : OpenClaim := { program := "ytilgolbpiomdmaadoor", sum := "9931f24f9861c9da914d839f014f7d3f5e4afa4ca34c3cabd545a6262d6f2e9a", func := "reliquary/reliquarylaw04.HmacWrites", spec := "hmacWrites", unfollowed := true, recurses := true, named := ["reliquary/sha.roots", "reliquary/reliquaryref03.k"], apart := false, laid := [("reliquary/reliquaryref03.k", laid_reliquary_reliquaryref03_k), ("reliquary/sha.roots", laid_reliquary_sha_roots)] }
def HmacWritesSaid : Prop := hmacWritesRow.holds Tryd.pinned (OpenSpec.ofChange hmacWritesSpec)

/-- ITS FALSE NEIGHBOUR: 'it returns false'. Refute it at one input. -/
def hmacWritesWrong : ChangeSpec := { name := "hmacWrites", fn := fun _ => fun
  | [d1, d2] => { results := [.lit (.bool false)], args := [d1, d2] }
  | _ => none }
def HmacWritesWrongFalsely : Prop := hmacWritesRow.holds Tryd.pinned (OpenSpec.ofChange hmacWritesWrong)

/-- 'reliquarylaw04.HmacEquals': WHATEVER THE INPUT: true; the input reads as it did. -/
def hmacEqualsSpec : ChangeSpec := { name := "hmacEquals", fn := fun _ => fun
  | [d1, d2] => { results := [.lit (.bool true)], args := [d1, d2] }
  | _ => none }
def hmacEqualsRow : OpenClaim := { program := "ytilgolbpiomdmaadoor", sum := "9931f24f9861c9da914d839f014f7d3f5e4afa4ca34c3cabd545a6262d6f2e9a", func := "reliquary/reliquarylaw04.HmacEquals", spec := "hmacEquals", unfollowed := true, recurses := true, named := ["reliquary/sha.roots"], apart := false, laid := [("reliquary/sha.roots", laid_reliquary_sha_roots)] }
def HmacEqualsSaid : Prop := hmacEqualsRow.holds Tryd.pinned (OpenSpec.ofChange hmacEqualsSpec)

/-- ITS FALSE NEIGHBOUR: 'it returns false'. Refute it at one input. -/
def hmacEqualsWrong : ChangeSpec := { name := "hmacEquals", fn := fun _ => fun
  | [d1, d2] => { results := [.lit (.bool false)], args := [d1, d2] }
  | _ => none }
def HmacEqualsWrongFalsely : Prop := hmacEqualsRow.holds Tryd.pinned (OpenSpec.ofChange hmacEqualsWrong)

/-- 'reliquarylaw04.HmacKeys': WHATEVER THE INPUT: true; the input reads as it did. -/
def hmacKeysSpec : ChangeSpec := { name := "hmacKeys", fn := fun _ => fun
  | [d1, d2] => { results := [.lit (.bool true)], args := [d1, d2] }
  | _ => none }
def hmacKeysRow : OpenClaim := { program := "ytilgolbpiomdmaadoor", sum := "9931f24f9861c9da914d839f014f7d3f5e4afa4ca34c3cabd545a6262d6f2e9a", func := "reliquary/reliquarylaw04.HmacKeys", spec := "hmacKeys", unfollowed := true, recurses := true, named := ["reliquary/sha.roots"], apart := false, laid := [("reliquary/sha.roots", laid_reliquary_sha_roots)] }
def HmacKeysSaid : Prop := hmacKeysRow.holds Tryd.pinned (OpenSpec.ofChange hmacKeysSpec)

/-- ITS FALSE NEIGHBOUR: 'it returns false'. Refute it at one input. -/
def hmacKeysWrong : ChangeSpec := { name := "hmacKeys", fn := fun _ => fun
  | [d1, d2] => { results := [.lit (.bool false)], args := [d1, d2] }
  | _ => none }
def HmacKeysWrongFalsely : Prop := hmacKeysRow.holds Tryd.pinned (OpenSpec.ofChange hmacKeysWrong)

/-- 'reliquarylaw04.HmacCuts': WHATEVER THE INPUT: true; the input reads as it did. -/
def hmacCutsSpec : ChangeSpec := { name := "hmacCuts", fn := fun _ => fun
  | [d1, d2, d3] => { results := [.lit (.bool true)], args := [d1, d2, d3] }
  | _ => none }
def hmacCutsRow : OpenClaim := { program := "ytilgolbpiomdmaadoor", sum := "9931f24f9861c9da914d839f014f7d3f5e4afa4ca34c3cabd545a6262d6f2e9a", func := "reliquary/reliquarylaw04.HmacCuts", spec := "hmacCuts", unfollowed := true, recurses := true, named := ["reliquary/sha.roots"], apart := false, laid := [("reliquary/sha.roots", laid_reliquary_sha_roots)] }
def HmacCutsSaid : Prop := hmacCutsRow.holds Tryd.pinned (OpenSpec.ofChange hmacCutsSpec)

/-- ITS FALSE NEIGHBOUR: 'it returns false'. Refute it at one input. -/
def hmacCutsWrong : ChangeSpec := { name := "hmacCuts", fn := fun _ => fun
  | [d1, d2, d3] => { results := [.lit (.bool false)], args := [d1, d2, d3] }
  | _ => none }
def HmacCutsWrongFalsely : Prop := hmacCutsRow.holds Tryd.pinned (OpenSpec.ofChange hmacCutsWrong)

/-- 'reliquarylaw04.HmacDefined': WHATEVER THE INPUT: true; the input reads as it did. -/
def hmacDefinedSpec : ChangeSpec := { name := "hmacDefined", fn := fun _ => fun
  | [d1, d2] => { results := [.lit (.bool true)], args := [d1, d2] }
  | _ => none }
def hmacDefinedRow : OpenClaim := { program := "ytilgolbpiomdmaadoor", sum := "9931f24f9861c9da914d839f014f7d3f5e4afa4ca34c3cabd545a6262d6f2e9a", func := "reliquary/reliquarylaw04.HmacDefined", spec := "hmacDefined", unfollowed := true, recurses := true, named := ["reliquary/sha.roots"], apart := false, laid := [("reliquary/sha.roots", laid_reliquary_sha_roots)] }
def HmacDefinedSaid : Prop := hmacDefinedRow.holds Tryd.pinned (OpenSpec.ofChange hmacDefinedSpec)

/-- ITS FALSE NEIGHBOUR: 'it returns false'. Refute it at one input. -/
def hmacDefinedWrong : ChangeSpec := { name := "hmacDefined", fn := fun _ => fun
  | [d1, d2] => { results := [.lit (.bool false)], args := [d1, d2] }
  | _ => none }
def HmacDefinedWrongFalsely : Prop := hmacDefinedRow.holds Tryd.pinned (OpenSpec.ofChange hmacDefinedWrong)

/- THE SECOND FORM. 'bulk': how many values and letters a reading holds, each counted each time it is reached (what is shared counts as often as it is met; a slice's spare places count too). A statement '..UptoSaid' is the law's where the arguments, and the package variables that the reading takes, are together of bulk at most 1048576: NARROWER than '..Said'. Prove '..Said' where nothing that the law and all that it calls make is longer than what came in: it says more and counts as full. Else prove '..UptoSaid'. A law counts once. -/
mutual
def uptoBulk {H : Type} : DataW H → Nat
  | .lit (.string bytes) => bytes.length + 1
  | .lit _ => 1
  | .nil => 1
  | .ptr d => uptoBulk d + 1
  | .slice elems spare => uptoBulkAll elems + uptoBulkAll spare + 1
  | .agg parts => uptoBulkAll parts + 1
  | .iface _ d => uptoBulk d + 1
  | .map entries => uptoBulkEntries entries + 1
  | .held _ => 1
def uptoBulkAll {H : Type} : List (DataW H) → Nat
  | [] => 0
  | d :: r => uptoBulk d + uptoBulkAll r
def uptoBulkEntries {H : Type} : List (Lit × DataW H) → Nat
  | [] => 0
  | x :: r => uptoBulkEntry x + uptoBulkEntries r
def uptoBulkEntry {H : Type} : Lit × DataW H → Nat
  | (.string bytes, d) => bytes.length + uptoBulk d + 1
  | (_, d) => uptoBulk d + 1
 end
def uptoSmall : (H : Type) → List (DataW H) → Bool := fun _ ds => decide (uptoBulkAll ds ≤ 1048576)
def OpenSpec.upto (s : _root_.Go.ChangeSpec) : _root_.Go.OpenSpec := { _root_.Go.OpenSpec.ofChange s with cond := some uptoSmall }

/-- 'reliquarylaw09.EntropyDraws', WHERE WHAT IT READS IS OF BULK AT MOST 1048576: true; the input reads as it did. -/
def entropyDrawsUptoRow : OpenClaim := { program := "ytilgolbpiomdmaadoor", sum := "9931f24f9861c9da914d839f014f7d3f5e4afa4ca34c3cabd545a6262d6f2e9a", func := "reliquary/reliquarylaw09.EntropyDraws", spec := "entropyDraws", unfollowed := true, recurses := true, named := ["reliquary/sha.roots", "reliquary/reliquaryref03.k"], apart := false, laid := [("reliquary/reliquaryref03.k", laid_reliquary_reliquaryref03_k), ("reliquary/sha.roots", laid_reliquary_sha_roots)], narrowed := true }
def EntropyDrawsUptoSaid : Prop := entropyDrawsUptoRow.holds Tryd.pinned (OpenSpec.upto entropyDrawsSpec)

/-- 'reliquarylaw09.EntropyCuts', WHERE WHAT IT READS IS OF BULK AT MOST 1048576: true; the input reads as it did. -/
def entropyCutsUptoRow : OpenClaim := { program := "ytilgolbpiomdmaadoor", sum := "9931f24f9861c9da914d839f014f7d3f5e4afa4ca34c3cabd545a6262d6f2e9a", func := "reliquary/reliquarylaw09.EntropyCuts", spec := "entropyCuts", unfollowed := true, recurses := true, named := ["reliquary/sha.roots"], apart := false, laid := [("reliquary/sha.roots", laid_reliquary_sha_roots)], narrowed := true }
def EntropyCutsUptoSaid : Prop := entropyCutsUptoRow.holds Tryd.pinned (OpenSpec.upto entropyCutsSpec)

/-- 'reliquarylaw09.EntropyForks', WHERE WHAT IT READS IS OF BULK AT MOST 1048576: true; the input reads as it did. -/
def entropyForksUptoRow : OpenClaim := { program := "ytilgolbpiomdmaadoor", sum := "9931f24f9861c9da914d839f014f7d3f5e4afa4ca34c3cabd545a6262d6f2e9a", func := "reliquary/reliquarylaw09.EntropyForks", spec := "entropyForks", unfollowed := true, recurses := true, named := ["reliquary/sha.roots"], apart := false, laid := [("reliquary/sha.roots", laid_reliquary_sha_roots)], narrowed := true }
def EntropyForksUptoSaid : Prop := entropyForksUptoRow.holds Tryd.pinned (OpenSpec.upto entropyForksSpec)

/-- 'reliquarylaw04.HmacOfs', WHERE WHAT IT READS IS OF BULK AT MOST 1048576: true; the input reads as it did. -/
def hmacOfsUptoRow : OpenClaim := { program := "ytilgolbpiomdmaadoor", sum := "9931f24f9861c9da914d839f014f7d3f5e4afa4ca34c3cabd545a6262d6f2e9a", func := "reliquary/reliquarylaw04.HmacOfs", spec := "hmacOfs", unfollowed := true, recurses := true, named := ["reliquary/sha.roots", "reliquary/reliquaryref03.k"], apart := false, laid := [("reliquary/reliquaryref03.k", laid_reliquary_reliquaryref03_k), ("reliquary/sha.roots", laid_reliquary_sha_roots)], narrowed := true }
def HmacOfsUptoSaid : Prop := hmacOfsUptoRow.holds Tryd.pinned (OpenSpec.upto hmacOfsSpec)

/-- 'reliquarylaw04.HmacWrites', WHERE WHAT IT READS IS OF BULK AT MOST 1048576: true; the input reads as it did. -/
def hmacWritesUptoRow : OpenClaim := { program := "ytilgolbpiomdmaadoor", sum := "9931f24f9861c9da914d839f014f7d3f5e4afa4ca34c3cabd545a6262d6f2e9a", func := "reliquary/reliquarylaw04.HmacWrites", spec := "hmacWrites", unfollowed := true, recurses := true, named := ["reliquary/sha.roots", "reliquary/reliquaryref03.k"], apart := false, laid := [("reliquary/reliquaryref03.k", laid_reliquary_reliquaryref03_k), ("reliquary/sha.roots", laid_reliquary_sha_roots)], narrowed := true }
def HmacWritesUptoSaid : Prop := hmacWritesUptoRow.holds Tryd.pinned (OpenSpec.upto hmacWritesSpec)

/-- 'reliquarylaw04.HmacEquals', WHERE WHAT IT READS IS OF BULK AT MOST 1048576: true; the input reads as it did. -/
def hmacEqualsUptoRow : OpenClaim := { program := "ytilgolbpiomdmaadoor", sum := "9931f24f9861c9da914d839f014f7d3f5e4afa4ca34c3cabd545a6262d6f2e9a", func := "reliquary/reliquarylaw04.HmacEquals", spec := "hmacEquals", unfollowed := true, recurses := true, named := ["reliquary/sha.roots"], apart := false, laid := [("reliquary/sha.roots", laid_reliquary_sha_roots)], narrowed := true }
def HmacEqualsUptoSaid : Prop := hmacEqualsUptoRow.holds Tryd.pinned (OpenSpec.upto hmacEqualsSpec)

/-- 'reliquarylaw04.HmacKeys', WHERE WHAT IT READS IS OF BULK AT MOST 1048576: true; the input reads as it did. -/
def hmacKeysUptoRow : OpenClaim := { program := "ytilgolbpiomdmaadoor", sum := "9931f24f9861c9da914d839f014f7d3f5e4afa4ca34c3cabd545a6262d6f2e9a", func := "reliquary/reliquarylaw04.HmacKeys", spec := "hmacKeys", unfollowed := true, recurses := true, named := ["reliquary/sha.roots"], apart := false, laid := [("reliquary/sha.roots", laid_reliquary_sha_roots)], narrowed := true }
def HmacKeysUptoSaid : Prop := hmacKeysUptoRow.holds Tryd.pinned (OpenSpec.upto hmacKeysSpec)

/-- 'reliquarylaw04.HmacCuts', WHERE WHAT IT READS IS OF BULK AT MOST 1048576: true; the input reads as it did. -/
def hmacCutsUptoRow : OpenClaim := { program := "ytilgolbpiomdmaadoor", sum := "9931f24f9861c9da914d839f014f7d3f5e4afa4ca34c3cabd545a6262d6f2e9a", func := "reliquary/reliquarylaw04.HmacCuts", spec := "hmacCuts", unfollowed := true, recurses := true, named := ["reliquary/sha.roots"], apart := false, laid := [("reliquary/sha.roots", laid_reliquary_sha_roots)], narrowed := true }
def HmacCutsUptoSaid : Prop := hmacCutsUptoRow.holds Tryd.pinned (OpenSpec.upto hmacCutsSpec)

/-- 'reliquarylaw04.HmacDefined', WHERE WHAT IT READS IS OF BULK AT MOST 1048576: true; the input reads as it did. -/
def hmacDefinedUptoRow : OpenClaim := { program := "ytilgolbpiomdmaadoor", sum := "9931f24f9861c9da914d839f014f7d3f5e4afa4ca34c3cabd545a6262d6f2e9a", func := "reliquary/reliquarylaw04.HmacDefined", spec := "hmacDefined", unfollowed := true, recurses := true, named := ["reliquary/sha.roots"], apart := false, laid := [("reliquary/sha.roots", laid_reliquary_sha_roots)], narrowed := true }
def HmacDefinedUptoSaid : Prop := hmacDefinedUptoRow.holds Tryd.pinned (OpenSpec.upto hmacDefinedSpec)

end Rows
end Go.Proofs.YtilgolbpiomdmaaDoor

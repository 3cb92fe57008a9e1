/-
  NARROWER THAN 'FOR EVERY INPUT', by the rows' own cells (each row's printed sentence says how): SuperPuts: laid · NodePuts: laid · NodeGets: laid · NodeBack: laid · SuperApart: laid · SuperBack: laid · NodeSums: laid · NodeKinds: laid.
  DERIVED. THE GIVEN ROWS OF THIS SEAT. 8 by the template 'for every input the law returns true; each argument reads behind the call as it read before'; 0 by the template 'total and deterministic' (their statements: YtmoebdncmcigaaaDoorTotals.lean).
  GIVEN WITH THE SEED: the statements are not yours to turn. If you find one false, say at which input.
  Laid BY PROGRAM, IN A SANDBOX (cutbox-rows.mjs): the forced cells as the released guide's own fill.sh prints them over the translation d1951711ff98396d… (all of the seat's roots in one cut). By AI agents, Wed Nov 11 2026. No macro, syntax, notation, axiom, sorry.
-/
import Derived.Test.YtmoebdncmcigaaaDoorChecked
import GoSem.Claim
import GoSem.ClaimJoined
import GoSem.ClaimMapViews
import Derived.JoinedTies
import Derived.KernelRfl
namespace Go.Proofs.YtmoebdncmcigaaaDoor
/- THE CELL 'sum', in the pinned program and in every row, IS THE sha256 OF THE DUMP (.gsa) THAT YtmoebdncmcigaaaDoorProg.lean LOADS. Nothing in Lean hashes anything: it is a label: what it is worth is what the hold of that sum in a sandbox is worth. -/
noncomputable def Tryd.pinned : Pinned := { name := "ytmoebdncmcigaaadoor", sum := "d1951711ff98396d8ef720e5f8fbcdff66b91da12520d0972bf92b4cee808b07", checked := Tryd.checked }
namespace Rows
def none {H : Type} : Left H := { results := [], args := [] }

/- WHAT THE LISTED PACKAGE-LEVEL VARIABLES READ AS WHEN THE CALL BEGINS. Each datum BY PROGRAM (the guide's laid-datum.mjs) off the statement by which the dump's own 'gosem.cut.vars' lays the variable. In a bare row this is a premise. The card (YtmoebdncmcigaaaDoorCards.lean) ties it to the program's text. -/
def laid_reliquary_reliquaryref03_k {H : Type} : DataW H := .agg [.lit (.int .u32 1116352408), .lit (.int .u32 1899447441), .lit (.int .u32 3049323471), .lit (.int .u32 3921009573), .lit (.int .u32 961987163), .lit (.int .u32 1508970993), .lit (.int .u32 2453635748), .lit (.int .u32 2870763221), .lit (.int .u32 3624381080), .lit (.int .u32 310598401), .lit (.int .u32 607225278), .lit (.int .u32 1426881987), .lit (.int .u32 1925078388), .lit (.int .u32 2162078206), .lit (.int .u32 2614888103), .lit (.int .u32 3248222580), .lit (.int .u32 3835390401), .lit (.int .u32 4022224774), .lit (.int .u32 264347078), .lit (.int .u32 604807628), .lit (.int .u32 770255983), .lit (.int .u32 1249150122), .lit (.int .u32 1555081692), .lit (.int .u32 1996064986), .lit (.int .u32 2554220882), .lit (.int .u32 2821834349), .lit (.int .u32 2952996808), .lit (.int .u32 3210313671), .lit (.int .u32 3336571891), .lit (.int .u32 3584528711), .lit (.int .u32 113926993), .lit (.int .u32 338241895), .lit (.int .u32 666307205), .lit (.int .u32 773529912), .lit (.int .u32 1294757372), .lit (.int .u32 1396182291), .lit (.int .u32 1695183700), .lit (.int .u32 1986661051), .lit (.int .u32 2177026350), .lit (.int .u32 2456956037), .lit (.int .u32 2730485921), .lit (.int .u32 2820302411), .lit (.int .u32 3259730800), .lit (.int .u32 3345764771), .lit (.int .u32 3516065817), .lit (.int .u32 3600352804), .lit (.int .u32 4094571909), .lit (.int .u32 275423344), .lit (.int .u32 430227734), .lit (.int .u32 506948616), .lit (.int .u32 659060556), .lit (.int .u32 883997877), .lit (.int .u32 958139571), .lit (.int .u32 1322822218), .lit (.int .u32 1537002063), .lit (.int .u32 1747873779), .lit (.int .u32 1955562222), .lit (.int .u32 2024104815), .lit (.int .u32 2227730452), .lit (.int .u32 2361852424), .lit (.int .u32 2428436474), .lit (.int .u32 2756734187), .lit (.int .u32 3204031479), .lit (.int .u32 3329325298)]
def laid_reliquary_sha_roots {H : Type} : DataW H := .agg [.lit (.int .u32 1116352408), .lit (.int .u32 1899447441), .lit (.int .u32 3049323471), .lit (.int .u32 3921009573), .lit (.int .u32 961987163), .lit (.int .u32 1508970993), .lit (.int .u32 2453635748), .lit (.int .u32 2870763221), .lit (.int .u32 3624381080), .lit (.int .u32 310598401), .lit (.int .u32 607225278), .lit (.int .u32 1426881987), .lit (.int .u32 1925078388), .lit (.int .u32 2162078206), .lit (.int .u32 2614888103), .lit (.int .u32 3248222580), .lit (.int .u32 3835390401), .lit (.int .u32 4022224774), .lit (.int .u32 264347078), .lit (.int .u32 604807628), .lit (.int .u32 770255983), .lit (.int .u32 1249150122), .lit (.int .u32 1555081692), .lit (.int .u32 1996064986), .lit (.int .u32 2554220882), .lit (.int .u32 2821834349), .lit (.int .u32 2952996808), .lit (.int .u32 3210313671), .lit (.int .u32 3336571891), .lit (.int .u32 3584528711), .lit (.int .u32 113926993), .lit (.int .u32 338241895), .lit (.int .u32 666307205), .lit (.int .u32 773529912), .lit (.int .u32 1294757372), .lit (.int .u32 1396182291), .lit (.int .u32 1695183700), .lit (.int .u32 1986661051), .lit (.int .u32 2177026350), .lit (.int .u32 2456956037), .lit (.int .u32 2730485921), .lit (.int .u32 2820302411), .lit (.int .u32 3259730800), .lit (.int .u32 3345764771), .lit (.int .u32 3516065817), .lit (.int .u32 3600352804), .lit (.int .u32 4094571909), .lit (.int .u32 275423344), .lit (.int .u32 430227734), .lit (.int .u32 506948616), .lit (.int .u32 659060556), .lit (.int .u32 883997877), .lit (.int .u32 958139571), .lit (.int .u32 1322822218), .lit (.int .u32 1537002063), .lit (.int .u32 1747873779), .lit (.int .u32 1955562222), .lit (.int .u32 2024104815), .lit (.int .u32 2227730452), .lit (.int .u32 2361852424), .lit (.int .u32 2428436474), .lit (.int .u32 2756734187), .lit (.int .u32 3204031479), .lit (.int .u32 3329325298)]

/-- 'reliquarylaw13.SuperPuts': WHATEVER THE INPUT: true; the input reads as it did. -/
def superPutsSpec : ChangeSpec := { name := "superPuts", fn := fun _ => fun
  | [d] => { results := [.lit (.bool true)], args := [d] }
  | _ => none }
def superPutsRow : OpenClaim := { program := "ytmoebdncmcigaaadoor", sum := "d1951711ff98396d8ef720e5f8fbcdff66b91da12520d0972bf92b4cee808b07", func := "reliquary/reliquarylaw13.SuperPuts", spec := "superPuts", unfollowed := true, recurses := true, named := ["reliquary/sha.roots", "reliquary/reliquaryref03.k"], apart := false, laid := [("reliquary/reliquaryref03.k", laid_reliquary_reliquaryref03_k), ("reliquary/sha.roots", laid_reliquary_sha_roots)] }
def SuperPutsSaid : Prop := superPutsRow.holds Tryd.pinned (OpenSpec.ofChange superPutsSpec)

/-- ITS FALSE NEIGHBOUR: 'it returns false'. Refute it at one input. -/
def superPutsWrong : ChangeSpec := { name := "superPuts", fn := fun _ => fun
  | [d] => { results := [.lit (.bool false)], args := [d] }
  | _ => none }
def SuperPutsWrongFalsely : Prop := superPutsRow.holds Tryd.pinned (OpenSpec.ofChange superPutsWrong)

/-- 'reliquarylaw15.NodePuts': WHATEVER THE INPUT: true; the input reads as it did. -/
def nodePutsSpec : ChangeSpec := { name := "nodePuts", fn := fun _ => fun
  | [d] => { results := [.lit (.bool true)], args := [d] }
  | _ => none }
def nodePutsRow : OpenClaim := { program := "ytmoebdncmcigaaadoor", sum := "d1951711ff98396d8ef720e5f8fbcdff66b91da12520d0972bf92b4cee808b07", func := "reliquary/reliquarylaw15.NodePuts", spec := "nodePuts", unfollowed := true, recurses := true, named := ["reliquary/sha.roots"], apart := false, laid := [("reliquary/sha.roots", laid_reliquary_sha_roots)] }
def NodePutsSaid : Prop := nodePutsRow.holds Tryd.pinned (OpenSpec.ofChange nodePutsSpec)

/-- ITS FALSE NEIGHBOUR: 'it returns false'. Refute it at one input. -/
def nodePutsWrong : ChangeSpec := { name := "nodePuts", fn := fun _ => fun
  | [d] => { results := [.lit (.bool false)], args := [d] }
  | _ => none }
def NodePutsWrongFalsely : Prop := nodePutsRow.holds Tryd.pinned (OpenSpec.ofChange nodePutsWrong)

/-- 'reliquarylaw15.NodeGets': WHATEVER THE INPUT: true; the input reads as it did. -/
def nodeGetsSpec : ChangeSpec := { name := "nodeGets", fn := fun _ => fun
  | [d] => { results := [.lit (.bool true)], args := [d] }
  | _ => none }
def nodeGetsRow : OpenClaim := { program := "ytmoebdncmcigaaadoor", sum := "d1951711ff98396d8ef720e5f8fbcdff66b91da12520d0972bf92b4cee808b07", func := "reliquary/reliquarylaw15.NodeGets", spec := "nodeGets", unfollowed := true, recurses := true, named := ["reliquary/sha.roots"], apart := false, laid := [("reliquary/sha.roots", laid_reliquary_sha_roots)] }
def NodeGetsSaid : Prop := nodeGetsRow.holds Tryd.pinned (OpenSpec.ofChange nodeGetsSpec)

/-- ITS FALSE NEIGHBOUR: 'it returns false'. Refute it at one input. -/
def nodeGetsWrong : ChangeSpec := { name := "nodeGets", fn := fun _ => fun
  | [d] => { results := [.lit (.bool false)], args := [d] }
  | _ => none }
def NodeGetsWrongFalsely : Prop := nodeGetsRow.holds Tryd.pinned (OpenSpec.ofChange nodeGetsWrong)

/-- 'reliquarylaw15.NodeBack': WHATEVER THE INPUT: true; the input reads as it did. -/
def nodeBackSpec : ChangeSpec := { name := "nodeBack", fn := fun _ => fun
  | [d1, d2] => { results := [.lit (.bool true)], args := [d1, d2] }
  | _ => none }
def nodeBackRow : OpenClaim := { program := "ytmoebdncmcigaaadoor", sum := "d1951711ff98396d8ef720e5f8fbcdff66b91da12520d0972bf92b4cee808b07", func := "reliquary/reliquarylaw15.NodeBack", spec := "nodeBack", unfollowed := true, recurses := true, named := ["reliquary/sha.roots"], apart := false, laid := [("reliquary/sha.roots", laid_reliquary_sha_roots)] }
def NodeBackSaid : Prop := nodeBackRow.holds Tryd.pinned (OpenSpec.ofChange nodeBackSpec)

/-- ITS FALSE NEIGHBOUR: 'it returns false'. Refute it at one input. -/
def nodeBackWrong : ChangeSpec := { name := "nodeBack", fn := fun _ => fun
  | [d1, d2] => { results := [.lit (.bool false)], args := [d1, d2] }
  | _ => none }
def NodeBackWrongFalsely : Prop := nodeBackRow.holds Tryd.pinned (OpenSpec.ofChange nodeBackWrong)

/-- 'reliquarylaw13.SuperApart': WHATEVER THE INPUT: true; the input reads as it did. -/
def superApartSpec : ChangeSpec := { name := "superApart", fn := fun _ => fun
  | [d1, d2, d3] => { results := [.lit (.bool true)], args := [d1, d2, d3] }
  | _ => none }
def superApartRow : OpenClaim := { program := "ytmoebdncmcigaaadoor", sum := "d1951711ff98396d8ef720e5f8fbcdff66b91da12520d0972bf92b4cee808b07", func := "reliquary/reliquarylaw13.SuperApart", spec := "superApart", unfollowed := true, recurses := true, named := ["reliquary/sha.roots"], apart := false, laid := [("reliquary/sha.roots", laid_reliquary_sha_roots)] }
def SuperApartSaid : Prop := superApartRow.holds Tryd.pinned (OpenSpec.ofChange superApartSpec)

/-- ITS FALSE NEIGHBOUR: 'it returns false'. Refute it at one input. -/
def superApartWrong : ChangeSpec := { name := "superApart", fn := fun _ => fun
  | [d1, d2, d3] => { results := [.lit (.bool false)], args := [d1, d2, d3] }
  | _ => none }
def SuperApartWrongFalsely : Prop := superApartRow.holds Tryd.pinned (OpenSpec.ofChange superApartWrong)

/-- 'reliquarylaw13.SuperBack': WHATEVER THE INPUT: true; the input reads as it did. -/
def superBackSpec : ChangeSpec := { name := "superBack", fn := fun _ => fun
  | [d1, d2, d3] => { results := [.lit (.bool true)], args := [d1, d2, d3] }
  | _ => none }
def superBackRow : OpenClaim := { program := "ytmoebdncmcigaaadoor", sum := "d1951711ff98396d8ef720e5f8fbcdff66b91da12520d0972bf92b4cee808b07", func := "reliquary/reliquarylaw13.SuperBack", spec := "superBack", unfollowed := true, recurses := true, named := ["reliquary/sha.roots"], apart := false, laid := [("reliquary/sha.roots", laid_reliquary_sha_roots)] }
def SuperBackSaid : Prop := superBackRow.holds Tryd.pinned (OpenSpec.ofChange superBackSpec)

/-- ITS FALSE NEIGHBOUR: 'it returns false'. Refute it at one input. -/
def superBackWrong : ChangeSpec := { name := "superBack", fn := fun _ => fun
  | [d1, d2, d3] => { results := [.lit (.bool false)], args := [d1, d2, d3] }
  | _ => none }
def SuperBackWrongFalsely : Prop := superBackRow.holds Tryd.pinned (OpenSpec.ofChange superBackWrong)

/-- 'reliquarylaw15.NodeSums': WHATEVER THE INPUT: true; the input reads as it did. -/
def nodeSumsSpec : ChangeSpec := { name := "nodeSums", fn := fun _ => fun
  | [d1, d2, d3] => { results := [.lit (.bool true)], args := [d1, d2, d3] }
  | _ => none }
def nodeSumsRow : OpenClaim := { program := "ytmoebdncmcigaaadoor", sum := "d1951711ff98396d8ef720e5f8fbcdff66b91da12520d0972bf92b4cee808b07", func := "reliquary/reliquarylaw15.NodeSums", spec := "nodeSums", unfollowed := true, recurses := true, named := ["reliquary/sha.roots", "reliquary/reliquaryref03.k"], apart := false, laid := [("reliquary/reliquaryref03.k", laid_reliquary_reliquaryref03_k), ("reliquary/sha.roots", laid_reliquary_sha_roots)] }
def NodeSumsSaid : Prop := nodeSumsRow.holds Tryd.pinned (OpenSpec.ofChange nodeSumsSpec)

/-- ITS FALSE NEIGHBOUR: 'it returns false'. Refute it at one input. -/
def nodeSumsWrong : ChangeSpec := { name := "nodeSums", fn := fun _ => fun
  | [d1, d2, d3] => { results := [.lit (.bool false)], args := [d1, d2, d3] }
  | _ => none }
def NodeSumsWrongFalsely : Prop := nodeSumsRow.holds Tryd.pinned (OpenSpec.ofChange nodeSumsWrong)

/-- 'reliquarylaw15.NodeKinds': WHATEVER THE INPUT: true; the input reads as it did. -/
def nodeKindsSpec : ChangeSpec := { name := "nodeKinds", fn := fun _ => fun
  | [d1, d2, d3] => { results := [.lit (.bool true)], args := [d1, d2, d3] }
  | _ => none }
def nodeKindsRow : OpenClaim := { program := "ytmoebdncmcigaaadoor", sum := "d1951711ff98396d8ef720e5f8fbcdff66b91da12520d0972bf92b4cee808b07", func := "reliquary/reliquarylaw15.NodeKinds", spec := "nodeKinds", unfollowed := true, recurses := true, named := ["reliquary/sha.roots"], apart := false, laid := [("reliquary/sha.roots", laid_reliquary_sha_roots)] }
def NodeKindsSaid : Prop := nodeKindsRow.holds Tryd.pinned (OpenSpec.ofChange nodeKindsSpec)

/-- ITS FALSE NEIGHBOUR: 'it returns false'. Refute it at one input. -/
def nodeKindsWrong : ChangeSpec := { name := "nodeKinds", fn := fun _ => fun
  | [d1, d2, d3] => { results := [.lit (.bool false)], args := [d1, d2, d3] }
  | _ => none }
def NodeKindsWrongFalsely : Prop := nodeKindsRow.holds Tryd.pinned (OpenSpec.ofChange nodeKindsWrong)

/- THE SECOND FORM. 'bulk': how many values and letters a reading holds, each counted each time it is reached (what is shared counts as often as it is met; a slice's spare places count too). A statement '..UptoSaid' is the law's where the arguments, and the package variables that the reading takes, are together of bulk at most 1048576: NARROWER than '..Said'. Prove '..Said' where nothing that the law and all that it calls make is longer than what came in: it says more and counts as full. Else prove '..UptoSaid'. A law counts once. -/
mutual
def uptoBulk {H : Type} : DataW H → Nat
  | .lit (.string bytes) => bytes.length + 1
  | .lit _ => 1
  | .nil => 1
  | .ptr d => uptoBulk d + 1
  | .slice elems spare => uptoBulkAll elems + uptoBulkAll spare + 1
  | .agg parts => uptoBulkAll parts + 1
  | .iface _ d => uptoBulk d + 1
  | .map entries => uptoBulkEntries entries + 1
  | .held _ => 1
def uptoBulkAll {H : Type} : List (DataW H) → Nat
  | [] => 0
  | d :: r => uptoBulk d + uptoBulkAll r
def uptoBulkEntries {H : Type} : List (Lit × DataW H) → Nat
  | [] => 0
  | x :: r => uptoBulkEntry x + uptoBulkEntries r
def uptoBulkEntry {H : Type} : Lit × DataW H → Nat
  | (.string bytes, d) => bytes.length + uptoBulk d + 1
  | (_, d) => uptoBulk d + 1
 end
def uptoSmall : (H : Type) → List (DataW H) → Bool := fun _ ds => decide (uptoBulkAll ds ≤ 1048576)
def OpenSpec.upto (s : _root_.Go.ChangeSpec) : _root_.Go.OpenSpec := { _root_.Go.OpenSpec.ofChange s with cond := some uptoSmall }

/-- 'reliquarylaw13.SuperPuts', WHERE WHAT IT READS IS OF BULK AT MOST 1048576: true; the input reads as it did. -/
def superPutsUptoRow : OpenClaim := { program := "ytmoebdncmcigaaadoor", sum := "d1951711ff98396d8ef720e5f8fbcdff66b91da12520d0972bf92b4cee808b07", func := "reliquary/reliquarylaw13.SuperPuts", spec := "superPuts", unfollowed := true, recurses := true, named := ["reliquary/sha.roots", "reliquary/reliquaryref03.k"], apart := false, laid := [("reliquary/reliquaryref03.k", laid_reliquary_reliquaryref03_k), ("reliquary/sha.roots", laid_reliquary_sha_roots)], narrowed := true }
def SuperPutsUptoSaid : Prop := superPutsUptoRow.holds Tryd.pinned (OpenSpec.upto superPutsSpec)

/-- 'reliquarylaw15.NodePuts', WHERE WHAT IT READS IS OF BULK AT MOST 1048576: true; the input reads as it did. -/
def nodePutsUptoRow : OpenClaim := { program := "ytmoebdncmcigaaadoor", sum := "d1951711ff98396d8ef720e5f8fbcdff66b91da12520d0972bf92b4cee808b07", func := "reliquary/reliquarylaw15.NodePuts", spec := "nodePuts", unfollowed := true, recurses := true, named := ["reliquary/sha.roots"], apart := false, laid := [("reliquary/sha.roots", laid_reliquary_sha_roots)], narrowed := true }
def NodePutsUptoSaid : Prop := nodePutsUptoRow.holds Tryd.pinned (OpenSpec.upto nodePutsSpec)

/-- 'reliquarylaw15.NodeGets', WHERE WHAT IT READS IS OF BULK AT MOST 1048576: true; the input reads as it did. -/
def nodeGetsUptoRow : OpenClaim := { program := "ytmoebdncmcigaaadoor", sum := "d1951711ff98396d8ef720e5f8fbcdff66b91da12520d0972bf92b4cee808b07", func := "reliquary/reliquarylaw15.NodeGets", spec := "nodeGets", unfollowed := true, recurses := true, named := ["reliquary/sha.roots"], apart := false, laid := [("reliquary/sha.roots", laid_reliquary_sha_roots)], narrowed := true }
def NodeGetsUptoSaid : Prop := nodeGetsUptoRow.holds Tryd.pinned (OpenSpec.upto nodeGetsSpec)

/-- 'reliquarylaw15.NodeBack', WHERE WHAT IT READS IS OF BULK AT MOST 1048576: true; the input reads as it did. -/
def nodeBackUptoRow : OpenClaim := { program := "ytmoebdncmcigaaadoor", sum := "d1951711ff98396d8ef720e5f8fbcdff66b91da12520d0972bf92b4cee808b07", func := "reliquary/reliquarylaw15.NodeBack", spec := "nodeBack", unfollowed := true, recurses := true, named := ["reliquary/sha.roots"], apart := false, laid := [("reliquary/sha.roots", laid_reliquary_sha_roots)], narrowed := true }
def NodeBackUptoSaid : Prop := nodeBackUptoRow.holds Tryd.pinned (OpenSpec.upto nodeBackSpec)

/-- 'reliquarylaw13.SuperApart', WHERE WHAT IT READS IS OF BULK AT MOST 1048576: true; the input reads as it did. -/
def superApartUptoRow : OpenClaim := { program := "ytmoebdncmcigaaadoor", sum := "d1951711ff98396d8ef720e5f8fbcdff66b91da12520d0972bf92b4cee808b07", func := "reliquary/reliquarylaw13.SuperApart", spec := "superApart", unfollowed := true, recurses := true, named := ["reliquary/sha.roots"], apart := false, laid := [("reliquary/sha.roots", laid_reliquary_sha_roots)], narrowed := true }
def SuperApartUptoSaid : Prop := superApartUptoRow.holds Tryd.pinned (OpenSpec.upto superApartSpec)

/-- 'reliquarylaw13.SuperBack', WHERE WHAT IT READS IS OF BULK AT MOST 1048576: true; the input reads as it did. -/
def superBackUptoRow : OpenClaim := { program := "ytmoebdncmcigaaadoor", sum := "d1951711ff98396d8ef720e5f8fbcdff66b91da12520d0972bf92b4cee808b07", func := "reliquary/reliquarylaw13.SuperBack", spec := "superBack", unfollowed := true, recurses := true, named := ["reliquary/sha.roots"], apart := false, laid := [("reliquary/sha.roots", laid_reliquary_sha_roots)], narrowed := true }
def SuperBackUptoSaid : Prop := superBackUptoRow.holds Tryd.pinned (OpenSpec.upto superBackSpec)

/-- 'reliquarylaw15.NodeSums', WHERE WHAT IT READS IS OF BULK AT MOST 1048576: true; the input reads as it did. -/
def nodeSumsUptoRow : OpenClaim := { program := "ytmoebdncmcigaaadoor", sum := "d1951711ff98396d8ef720e5f8fbcdff66b91da12520d0972bf92b4cee808b07", func := "reliquary/reliquarylaw15.NodeSums", spec := "nodeSums", unfollowed := true, recurses := true, named := ["reliquary/sha.roots", "reliquary/reliquaryref03.k"], apart := false, laid := [("reliquary/reliquaryref03.k", laid_reliquary_reliquaryref03_k), ("reliquary/sha.roots", laid_reliquary_sha_roots)], narrowed := true }
def NodeSumsUptoSaid : Prop := nodeSumsUptoRow.holds Tryd.pinned (OpenSpec.upto nodeSumsSpec)

/-- 'reliquarylaw15.NodeKinds', WHERE WHAT IT READS IS OF BULK AT MOST 1048576: true; the input reads as it did. -/
def nodeKindsUptoRow : OpenClaim := { program := "ytmoebdncmcigaaadoor", sum := "d1951711ff98396d8ef720e5f8fbcdff66b91da12520d0972bf92b4cee808b07", func := "reliquary/reliquarylaw15.NodeKinds", spec := "nodeKinds", unfollowed := true, recurses := true, named := ["reliquary/sha.roots"], apart := false, laid := [("reliquary/sha.roots", laid_reliquary_sha_roots)], narrowed := true }
def NodeKindsUptoSaid : Prop := nodeKindsUptoRow.holds Tryd.pinned (OpenSpec.upto nodeKindsSpec)

end Rows
end Go.Proofs.YtmoebdncmcigaaaDoor

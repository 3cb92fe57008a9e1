/-
  No cell of these rows narrows 'for every input' (looked for: loops, veiled, ifaces, maps, wideKeys, modest, calm, conditions, laid).
  DERIVED. THE GIVEN ROWS OF THIS SEAT. 7 by the template 'for every input the law returns true; each argument reads behind the call as it read before'; 0 by the template 'total and deterministic' (their statements: YtodpaehciegmiaaTotals.lean).
  GIVEN WITH THE SEED: the statements are not yours to turn. If you find one false, say at which input.
  Laid BY PROGRAM, IN A SANDBOX (cutbox-rows.mjs): the forced cells as the released guide's own fill.sh prints them over the translation b113f9e900f083e9… (all of the seat's roots in one cut). By AI agents, Wed Nov 11 2026. No macro, syntax, notation, axiom, sorry.
-/
import Derived.Test.YtodpaehciegmiaaChecked
import GoSem.Claim
import GoSem.ClaimJoined
import GoSem.ClaimMapViews
import Derived.JoinedTies
import Derived.KernelRfl
namespace Go.Proofs.Ytodpaehciegmiaa
/- THE CELL 'sum', in the pinned program and in every row, IS THE sha256 OF THE DUMP (.gsa) THAT YtodpaehciegmiaaProg.lean LOADS. Nothing in Lean hashes anything: it is a label: what it is worth is what the hold of that sum in a sandbox is worth. -/
noncomputable def Try.pinned : Pinned := { name := "ytodpaehciegmiaa", sum := "b113f9e900f083e986115fe5f8370fc83b3e410afaba34417290a3a6b1725e8b", checked := Try.checked }
namespace Rows
def none {H : Type} : Left H := { results := [], args := [] }

/-- 'reliquarylaw18.CatalogPuts': WHATEVER THE INPUT: true; the input reads as it did. -/
def catalogPutsSpec : ChangeSpec := { name := "catalogPuts", fn := fun _ => fun
  | [d] => { results := [.lit (.bool true)], args := [d] }
  | _ => none }
def catalogPutsRow : OpenClaim := { program := "ytodpaehciegmiaa", sum := "b113f9e900f083e986115fe5f8370fc83b3e410afaba34417290a3a6b1725e8b", func := "reliquary/reliquarylaw18.CatalogPuts", spec := "catalogPuts", unfollowed := true, recurses := true, apart := false }
def CatalogPutsSaid : Prop := catalogPutsRow.holds Try.pinned (OpenSpec.ofChange catalogPutsSpec)

/-- ITS FALSE NEIGHBOUR: 'it returns false'. Refute it at one input. -/
def catalogPutsWrong : ChangeSpec := { name := "catalogPuts", fn := fun _ => fun
  | [d] => { results := [.lit (.bool false)], args := [d] }
  | _ => none }
def CatalogPutsWrongFalsely : Prop := catalogPutsRow.holds Try.pinned (OpenSpec.ofChange catalogPutsWrong)

/-- 'reliquarylaw18.CatalogNames': WHATEVER THE INPUT: true; the input reads as it did. -/
def catalogNamesSpec : ChangeSpec := { name := "catalogNames", fn := fun _ => fun
  | [d1, d2, d3] => { results := [.lit (.bool true)], args := [d1, d2, d3] }
  | _ => none }
def catalogNamesRow : OpenClaim := { program := "ytodpaehciegmiaa", sum := "b113f9e900f083e986115fe5f8370fc83b3e410afaba34417290a3a6b1725e8b", func := "reliquary/reliquarylaw18.CatalogNames", spec := "catalogNames", unfollowed := true, recurses := true, apart := false }
def CatalogNamesSaid : Prop := catalogNamesRow.holds Try.pinned (OpenSpec.ofChange catalogNamesSpec)

/-- ITS FALSE NEIGHBOUR: 'it returns false'. Refute it at one input. -/
def catalogNamesWrong : ChangeSpec := { name := "catalogNames", fn := fun _ => fun
  | [d1, d2, d3] => { results := [.lit (.bool false)], args := [d1, d2, d3] }
  | _ => none }
def CatalogNamesWrongFalsely : Prop := catalogNamesRow.holds Try.pinned (OpenSpec.ofChange catalogNamesWrong)

/-- 'reliquarylaw18.CatalogOrder': WHATEVER THE INPUT: true; the input reads as it did. -/
def catalogOrderSpec : ChangeSpec := { name := "catalogOrder", fn := fun _ => fun
  | [d1, d2] => { results := [.lit (.bool true)], args := [d1, d2] }
  | _ => none }
def catalogOrderRow : OpenClaim := { program := "ytodpaehciegmiaa", sum := "b113f9e900f083e986115fe5f8370fc83b3e410afaba34417290a3a6b1725e8b", func := "reliquary/reliquarylaw18.CatalogOrder", spec := "catalogOrder", unfollowed := true, recurses := true, apart := false }
def CatalogOrderSaid : Prop := catalogOrderRow.holds Try.pinned (OpenSpec.ofChange catalogOrderSpec)

/-- ITS FALSE NEIGHBOUR: 'it returns false'. Refute it at one input. -/
def catalogOrderWrong : ChangeSpec := { name := "catalogOrder", fn := fun _ => fun
  | [d1, d2] => { results := [.lit (.bool false)], args := [d1, d2] }
  | _ => none }
def CatalogOrderWrongFalsely : Prop := catalogOrderRow.holds Try.pinned (OpenSpec.ofChange catalogOrderWrong)

/-- 'reliquarylaw18.CatalogKeeps': WHATEVER THE INPUT: true; the input reads as it did. -/
def catalogKeepsSpec : ChangeSpec := { name := "catalogKeeps", fn := fun _ => fun
  | [d1, d2] => { results := [.lit (.bool true)], args := [d1, d2] }
  | _ => none }
def catalogKeepsRow : OpenClaim := { program := "ytodpaehciegmiaa", sum := "b113f9e900f083e986115fe5f8370fc83b3e410afaba34417290a3a6b1725e8b", func := "reliquary/reliquarylaw18.CatalogKeeps", spec := "catalogKeeps", unfollowed := true, recurses := true, apart := false }
def CatalogKeepsSaid : Prop := catalogKeepsRow.holds Try.pinned (OpenSpec.ofChange catalogKeepsSpec)

/-- ITS FALSE NEIGHBOUR: 'it returns false'. Refute it at one input. -/
def catalogKeepsWrong : ChangeSpec := { name := "catalogKeeps", fn := fun _ => fun
  | [d1, d2] => { results := [.lit (.bool false)], args := [d1, d2] }
  | _ => none }
def CatalogKeepsWrongFalsely : Prop := catalogKeepsRow.holds Try.pinned (OpenSpec.ofChange catalogKeepsWrong)

/-- 'reliquarylaw18.CatalogActs': WHATEVER THE INPUT: true; the input reads as it did. -/
def catalogActsSpec : ChangeSpec := { name := "catalogActs", fn := fun _ => fun
  | [d1, d2] => { results := [.lit (.bool true)], args := [d1, d2] }
  | _ => none }
def catalogActsRow : OpenClaim := { program := "ytodpaehciegmiaa", sum := "b113f9e900f083e986115fe5f8370fc83b3e410afaba34417290a3a6b1725e8b", func := "reliquary/reliquarylaw18.CatalogActs", spec := "catalogActs", unfollowed := true, recurses := true, apart := false }
def CatalogActsSaid : Prop := catalogActsRow.holds Try.pinned (OpenSpec.ofChange catalogActsSpec)

/-- ITS FALSE NEIGHBOUR: 'it returns false'. Refute it at one input. -/
def catalogActsWrong : ChangeSpec := { name := "catalogActs", fn := fun _ => fun
  | [d1, d2] => { results := [.lit (.bool false)], args := [d1, d2] }
  | _ => none }
def CatalogActsWrongFalsely : Prop := catalogActsRow.holds Try.pinned (OpenSpec.ofChange catalogActsWrong)

/-- 'reliquarylaw18.CatalogGets': WHATEVER THE INPUT: true; the input reads as it did. -/
def catalogGetsSpec : ChangeSpec := { name := "catalogGets", fn := fun _ => fun
  | [d] => { results := [.lit (.bool true)], args := [d] }
  | _ => none }
def catalogGetsRow : OpenClaim := { program := "ytodpaehciegmiaa", sum := "b113f9e900f083e986115fe5f8370fc83b3e410afaba34417290a3a6b1725e8b", func := "reliquary/reliquarylaw18.CatalogGets", spec := "catalogGets", unfollowed := true, recurses := true, apart := false }
def CatalogGetsSaid : Prop := catalogGetsRow.holds Try.pinned (OpenSpec.ofChange catalogGetsSpec)

/-- ITS FALSE NEIGHBOUR: 'it returns false'. Refute it at one input. -/
def catalogGetsWrong : ChangeSpec := { name := "catalogGets", fn := fun _ => fun
  | [d] => { results := [.lit (.bool false)], args := [d] }
  | _ => none }
def CatalogGetsWrongFalsely : Prop := catalogGetsRow.holds Try.pinned (OpenSpec.ofChange catalogGetsWrong)

/-- 'reliquarylaw18.CatalogBack': WHATEVER THE INPUT: true; the input reads as it did. -/
def catalogBackSpec : ChangeSpec := { name := "catalogBack", fn := fun _ => fun
  | [d1, d2] => { results := [.lit (.bool true)], args := [d1, d2] }
  | _ => none }
def catalogBackRow : OpenClaim := { program := "ytodpaehciegmiaa", sum := "b113f9e900f083e986115fe5f8370fc83b3e410afaba34417290a3a6b1725e8b", func := "reliquary/reliquarylaw18.CatalogBack", spec := "catalogBack", unfollowed := true, recurses := true, apart := false }
def CatalogBackSaid : Prop := catalogBackRow.holds Try.pinned (OpenSpec.ofChange catalogBackSpec)

/-- ITS FALSE NEIGHBOUR: 'it returns false'. Refute it at one input. -/
def catalogBackWrong : ChangeSpec := { name := "catalogBack", fn := fun _ => fun
  | [d1, d2] => { results := [.lit (.bool false)], args := [d1, d2] }
  | _ => none }
def CatalogBackWrongFalsely : Prop := catalogBackRow.holds Try.pinned (OpenSpec.ofChange catalogBackWrong)

/- THE SECOND FORM. 'bulk': how many values and letters a reading holds, each counted each time it is reached (what is shared counts as often as it is met; a slice's spare places count too). A statement '..UptoSaid' is the law's where the arguments, and the package variables that the reading takes, are together of bulk at most 1048576: NARROWER than '..Said'. Prove '..Said' where nothing that the law and all that it calls make is longer than what came in: it says more and counts as full. Else prove '..UptoSaid'. A law counts once. -/
mutual
def uptoBulk {H : Type} : DataW H → Nat
  | .lit (.string bytes) => bytes.length + 1
  | .lit _ => 1
  | .nil => 1
  | .ptr d => uptoBulk d + 1
  | .slice elems spare => uptoBulkAll elems + uptoBulkAll spare + 1
  | .agg parts => uptoBulkAll parts + 1
  | .iface _ d => uptoBulk d + 1
  | .map entries => uptoBulkEntries entries + 1
  | .held _ => 1
def uptoBulkAll {H : Type} : List (DataW H) → Nat
  | [] => 0
  | d :: r => uptoBulk d + uptoBulkAll r
def uptoBulkEntries {H : Type} : List (Lit × DataW H) → Nat
  | [] => 0
  | x :: r => uptoBulkEntry x + uptoBulkEntries r
def uptoBulkEntry {H : Type} : Lit × DataW H → Nat
  | (.string bytes, d) => bytes.length + uptoBulk d + 1
  | (_, d) => uptoBulk d + 1
 end
def uptoSmall : (H : Type) → List (DataW H) → Bool := fun _ ds => decide (uptoBulkAll ds ≤ 1048576)
def OpenSpec.upto (s : _root_.Go.ChangeSpec) : _root_.Go.OpenSpec := { _root_.Go.OpenSpec.ofChange s with cond := some uptoSmall }

/-- 'reliquarylaw18.CatalogPuts', WHERE WHAT IT READS IS OF BULK AT MOST 1048576: true; the input reads as it did. -/
def catalogPutsUptoRow : OpenClaim := { program := "ytodpaehciegmiaa", sum := "b113f9e900f083e986115fe5f8370fc83b3e410afaba34417290a3a6b1725e8b", func := "reliquary/reliquarylaw18.CatalogPuts", spec := "catalogPuts", unfollowed := true, recurses := true, apart := false, narrowed := true }
def CatalogPutsUptoSaid : Prop := catalogPutsUptoRow.holds Try.pinned (OpenSpec.upto catalogPutsSpec)

/-- 'reliquarylaw18.CatalogNames', WHERE WHAT IT READS IS OF BULK AT MOST 1048576: true; the input reads as it did. -/
def catalogNamesUptoRow : OpenClaim := { program := "ytodpaehciegmiaa", sum := "b113f9e900f083e986115fe5f8370fc83b3e410afaba34417290a3a6b1725e8b", func := "reliquary/reliquarylaw18.CatalogNames", spec := "catalogNames", unfollowed := true, recurses := true, apart := false, narrowed := true }
def CatalogNamesUptoSaid : Prop := catalogNamesUptoRow.holds Try.pinned (OpenSpec.upto catalogNamesSpec)

/-- 'reliquarylaw18.CatalogOrder', WHERE WHAT IT READS IS OF BULK AT MOST 1048576: true; the input reads as it did. -/
def catalogOrderUptoRow : OpenClaim := { program := "ytodpaehciegmiaa", sum := "b113f9e900f083e986115fe5f8370fc83b3e410afaba34417290a3a6b1725e8b", func := "reliquary/reliquarylaw18.CatalogOrder", spec := "catalogOrder", unfollowed := true, recurses := true, apart := false, narrowed := true }
def CatalogOrderUptoSaid : Prop := catalogOrderUptoRow.holds Try.pinned (OpenSpec.upto catalogOrderSpec)

/-- 'reliquarylaw18.CatalogKeeps', WHERE WHAT IT READS IS OF BULK AT MOST 1048576: true; the input reads as it did. -/
def catalogKeepsUptoRow : OpenClaim := { program := "ytodpaehciegmiaa", sum := "b113f9e900f083e986115fe5f8370fc83b3e410afaba34417290a3a6b1725e8b", func := "reliquary/reliquarylaw18.CatalogKeeps", spec := "catalogKeeps", unfollowed := true, recurses := true, apart := false, narrowed := true }
def CatalogKeepsUptoSaid : Prop := catalogKeepsUptoRow.holds Try.pinned (OpenSpec.upto catalogKeepsSpec)

/-- 'reliquarylaw18.CatalogActs', WHERE WHAT IT READS IS OF BULK AT MOST 1048576: true; the input reads as it did. -/
def catalogActsUptoRow : OpenClaim := { program := "ytodpaehciegmiaa", sum := "b113f9e900f083e986115fe5f8370fc83b3e410afaba34417290a3a6b1725e8b", func := "reliquary/reliquarylaw18.CatalogActs", spec := "catalogActs", unfollowed := true, recurses := true, apart := false, narrowed := true }
def CatalogActsUptoSaid : Prop := catalogActsUptoRow.holds Try.pinned (OpenSpec.upto catalogActsSpec)

/-- 'reliquarylaw18.CatalogGets', WHERE WHAT IT READS IS OF BULK AT MOST 1048576: true; the input reads as it did. -/
def catalogGetsUptoRow : OpenClaim := { program := "ytodpaehciegmiaa", sum := "b113f9e900f083e986115fe5f8370fc83b3e410afaba34417290a3a6b1725e8b", func := "reliquary/reliquarylaw18.CatalogGets", spec := "catalogGets", unfollowed := true, recurses := true, apart := false, narrowed := true }
def CatalogGetsUptoSaid : Prop := catalogGetsUptoRow.holds Try.pinned (OpenSpec.upto catalogGetsSpec)

/-- 'reliquarylaw18.CatalogBack', WHERE WHAT IT READS IS OF BULK AT MOST 1048576: true; the input reads as it did. -/
def catalogBackUptoRow : OpenClaim := { program := "ytodpaehciegmiaa", sum := "b113f9e900f083e986115fe5f8370fc83b3e410afaba34417290a3a6b1725e8b", func := "reliquary/reliquarylaw18.CatalogBack", spec := "catalogBack", unfollowed := true, recurses := true, apart := false, narrowed := true }
def CatalogBackUptoSaid : Prop := catalogBackUptoRow.holds Try.pinned (OpenSpec.upto catalogBackSpec)

end Rows
end Go.Proofs.Ytodpaehciegmiaa

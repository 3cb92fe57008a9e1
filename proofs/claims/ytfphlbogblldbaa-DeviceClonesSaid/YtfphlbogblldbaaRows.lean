/-
  No cell of these rows narrows 'for every input' (looked for: loops, veiled, ifaces, maps, wideKeys, modest, calm, conditions, laid).
  DERIVED. THE GIVEN ROWS OF THIS SEAT. 5 by the template 'for every input the law returns true; each argument reads behind the call as it read before'; 0 by the template 'total and deterministic' (their statements: YtfphlbogblldbaaTotals.lean).
  GIVEN WITH THE SEED: the statements are not yours to turn. If you find one false, say at which input.
  Laid BY PROGRAM, IN A SANDBOX (cutbox-rows.mjs): the forced cells as the released guide's own fill.sh prints them over the translation 2492cbab6d03649d… (all of the seat's roots in one cut). By AI agents, Wed Nov 11 2026. No macro, syntax, notation, axiom, sorry.
-/
import Derived.Test.YtfphlbogblldbaaChecked
import GoSem.Claim
import GoSem.ClaimJoined
import GoSem.ClaimMapViews
import Derived.JoinedTies
import Derived.KernelRfl
namespace Go.Proofs.Ytfphlbogblldbaa
/- THE CELL 'sum', in the pinned program and in every row, IS THE sha256 OF THE DUMP (.gsa) THAT YtfphlbogblldbaaProg.lean LOADS. Nothing in Lean hashes anything: it is a label: what it is worth is what the hold of that sum in a sandbox is worth. -/
noncomputable def Try.pinned : Pinned := { name := "ytfphlbogblldbaa", sum := "2492cbab6d03649d6c7bb3549cdaa966ba5cabffcc77add8d4a33f8f79fd5670", checked := Try.checked }
namespace Rows
def none {H : Type} : Left H := { results := [], args := [] }

/-- 'reliquarylaw11.DeviceSafe': WHATEVER THE INPUT: true; the input reads as it did. -/
def deviceSafeSpec : ChangeSpec := { name := "deviceSafe", fn := fun _ => fun
  | [d1, d2, d3] => { results := [.lit (.bool true)], args := [d1, d2, d3] }
  | _ => none }
def deviceSafeRow : OpenClaim := { program := "ytfphlbogblldbaa", sum := "2492cbab6d03649d6c7bb3549cdaa966ba5cabffcc77add8d4a33f8f79fd5670", func := "reliquary/reliquarylaw11.DeviceSafe", spec := "deviceSafe", unfollowed := true, recurses := true, apart := false }
def DeviceSafeSaid : Prop := deviceSafeRow.holds Try.pinned (OpenSpec.ofChange deviceSafeSpec)

/-- ITS FALSE NEIGHBOUR: 'it returns false'. Refute it at one input. -/
def deviceSafeWrong : ChangeSpec := { name := "deviceSafe", fn := fun _ => fun
  | [d1, d2, d3] => { results := [.lit (.bool false)], args := [d1, d2, d3] }
  | _ => none }
def DeviceSafeWrongFalsely : Prop := deviceSafeRow.holds Try.pinned (OpenSpec.ofChange deviceSafeWrong)

/-- 'reliquarylaw11.DeviceAll': WHATEVER THE INPUT: true; the input reads as it did. -/
def deviceAllSpec : ChangeSpec := { name := "deviceAll", fn := fun _ => fun
  | [d] => { results := [.lit (.bool true)], args := [d] }
  | _ => none }
def deviceAllRow : OpenClaim := { program := "ytfphlbogblldbaa", sum := "2492cbab6d03649d6c7bb3549cdaa966ba5cabffcc77add8d4a33f8f79fd5670", func := "reliquary/reliquarylaw11.DeviceAll", spec := "deviceAll", unfollowed := true, recurses := true, apart := false }
def DeviceAllSaid : Prop := deviceAllRow.holds Try.pinned (OpenSpec.ofChange deviceAllSpec)

/-- ITS FALSE NEIGHBOUR: 'it returns false'. Refute it at one input. -/
def deviceAllWrong : ChangeSpec := { name := "deviceAll", fn := fun _ => fun
  | [d] => { results := [.lit (.bool false)], args := [d] }
  | _ => none }
def DeviceAllWrongFalsely : Prop := deviceAllRow.holds Try.pinned (OpenSpec.ofChange deviceAllWrong)

/-- 'reliquarylaw11.DeviceDown': WHATEVER THE INPUT: true; the input reads as it did. -/
def deviceDownSpec : ChangeSpec := { name := "deviceDown", fn := fun _ => fun
  | [d1, d2, d3] => { results := [.lit (.bool true)], args := [d1, d2, d3] }
  | _ => none }
def deviceDownRow : OpenClaim := { program := "ytfphlbogblldbaa", sum := "2492cbab6d03649d6c7bb3549cdaa966ba5cabffcc77add8d4a33f8f79fd5670", func := "reliquary/reliquarylaw11.DeviceDown", spec := "deviceDown", unfollowed := true, recurses := true, apart := false }
def DeviceDownSaid : Prop := deviceDownRow.holds Try.pinned (OpenSpec.ofChange deviceDownSpec)

/-- ITS FALSE NEIGHBOUR: 'it returns false'. Refute it at one input. -/
def deviceDownWrong : ChangeSpec := { name := "deviceDown", fn := fun _ => fun
  | [d1, d2, d3] => { results := [.lit (.bool false)], args := [d1, d2, d3] }
  | _ => none }
def DeviceDownWrongFalsely : Prop := deviceDownRow.holds Try.pinned (OpenSpec.ofChange deviceDownWrong)

/-- 'reliquarylaw11.DeviceClones': WHATEVER THE INPUT: true; the input reads as it did. -/
def deviceClonesSpec : ChangeSpec := { name := "deviceClones", fn := fun _ => fun
  | [d1, d2] => { results := [.lit (.bool true)], args := [d1, d2] }
  | _ => none }
def deviceClonesRow : OpenClaim := { program := "ytfphlbogblldbaa", sum := "2492cbab6d03649d6c7bb3549cdaa966ba5cabffcc77add8d4a33f8f79fd5670", func := "reliquary/reliquarylaw11.DeviceClones", spec := "deviceClones", unfollowed := true, recurses := true, apart := false }
def DeviceClonesSaid : Prop := deviceClonesRow.holds Try.pinned (OpenSpec.ofChange deviceClonesSpec)

/-- ITS FALSE NEIGHBOUR: 'it returns false'. Refute it at one input. -/
def deviceClonesWrong : ChangeSpec := { name := "deviceClones", fn := fun _ => fun
  | [d1, d2] => { results := [.lit (.bool false)], args := [d1, d2] }
  | _ => none }
def DeviceClonesWrongFalsely : Prop := deviceClonesRow.holds Try.pinned (OpenSpec.ofChange deviceClonesWrong)

/-- 'reliquarylaw11.DeviceNobody': WHATEVER THE INPUT: true; the input reads as it did. -/
def deviceNobodySpec : ChangeSpec := { name := "deviceNobody", fn := fun _ => fun
  | [d1, d2] => { results := [.lit (.bool true)], args := [d1, d2] }
  | _ => none }
def deviceNobodyRow : OpenClaim := { program := "ytfphlbogblldbaa", sum := "2492cbab6d03649d6c7bb3549cdaa966ba5cabffcc77add8d4a33f8f79fd5670", func := "reliquary/reliquarylaw11.DeviceNobody", spec := "deviceNobody", unfollowed := true, recurses := true, apart := false }
def DeviceNobodySaid : Prop := deviceNobodyRow.holds Try.pinned (OpenSpec.ofChange deviceNobodySpec)

/-- ITS FALSE NEIGHBOUR: 'it returns false'. Refute it at one input. -/
def deviceNobodyWrong : ChangeSpec := { name := "deviceNobody", fn := fun _ => fun
  | [d1, d2] => { results := [.lit (.bool false)], args := [d1, d2] }
  | _ => none }
def DeviceNobodyWrongFalsely : Prop := deviceNobodyRow.holds Try.pinned (OpenSpec.ofChange deviceNobodyWrong)

/- THE SECOND FORM. 'bulk': how many values and letters a reading holds, each counted each time it is reached (what is shared counts as often as it is met; a slice's spare places count too). A statement '..UptoSaid' is the law's where the arguments, and the package variables that the reading takes, are together of bulk at most 1048576: NARROWER than '..Said'. Prove '..Said' where nothing that the law and all that it calls make is longer than what came in: it says more and counts as full. Else prove '..UptoSaid'. A law counts once. -/
mutual
def uptoBulk {H : Type} : DataW H → Nat
  | .lit (.string bytes) => bytes.length + 1
  | .lit _ => 1
  | .nil => 1
  | .ptr d => uptoBulk d + 1
  | .slice elems spare => uptoBulkAll elems + uptoBulkAll spare + 1
  | .agg parts => uptoBulkAll parts + 1
  | .iface _ d => uptoBulk d + 1
  | .map entries => uptoBulkEntries entries + 1
  | .held _ => 1
def uptoBulkAll {H : Type} : List (DataW H) → Nat
  | [] => 0
  | d :: r => uptoBulk d + uptoBulkAll r
def uptoBulkEntries {H : Type} : List (Lit × DataW H) → Nat
  | [] => 0
  | x :: r => uptoBulkEntry x + uptoBulkEntries r
def uptoBulkEntry {H : Type} : Lit × DataW H → Nat
  | (.string bytes, d) => bytes.length + uptoBulk d + 1
  | (_, d) => uptoBulk d + 1
 end
def uptoSmall : (H : Type) → List (DataW H) → Bool := fun _ ds => decide (uptoBulkAll ds ≤ 1048576)
def OpenSpec.upto (s : _root_.Go.ChangeSpec) : _root_.Go.OpenSpec := { _root_.Go.OpenSpec.ofChange s with cond := some uptoSmall }

/-- 'reliquarylaw11.DeviceSafe', WHERE WHAT IT READS IS OF BULK AT MOST 1048576: true; the input reads as it did. -/
def deviceSafeUptoRow : OpenClaim := { program := "ytfphlbogblldbaa", sum := "2492cbab6d03649d6c7bb3549cdaa966ba5cabffcc77add8d4a33f8f79fd5670", func := "reliquary/reliquarylaw11.DeviceSafe", spec := "deviceSafe", unfollowed := true, recurses := true, apart := false, narrowed := true }
def DeviceSafeUptoSaid : Prop := deviceSafeUptoRow.holds Try.pinned (OpenSpec.upto deviceSafeSpec)

/-- 'reliquarylaw11.DeviceAll', WHERE WHAT IT READS IS OF BULK AT MOST 1048576: true; the input reads as it did. -/
def deviceAllUptoRow : OpenClaim := { program := "ytfphlbogblldbaa", sum := "2492cbab6d03649d6c7bb3549cdaa966ba5cabffcc77add8d4a33f8f79fd5670", func := "reliquary/reliquarylaw11.DeviceAll", spec := "deviceAll", unfollowed := true, recurses := true, apart := false, narrowed := true }
def DeviceAllUptoSaid : Prop := deviceAllUptoRow.holds Try.pinned (OpenSpec.upto deviceAllSpec)

/-- 'reliquarylaw11.DeviceDown', WHERE WHAT IT READS IS OF BULK AT MOST 1048576: true; the input reads as it did. -/
def deviceDownUptoRow : OpenClaim := { program := "ytfphlbogblldbaa", sum := "2492cbab6d03649d6c7bb3549cdaa966ba5cabffcc77add8d4a33f8f79fd5670", func := "reliquary/reliquarylaw11.DeviceDown", spec := "deviceDown", unfollowed := true, recurses := true, apart := false, narrowed := true }
def DeviceDownUptoSaid : Prop := deviceDownUptoRow.holds Try.pinned (OpenSpec.upto deviceDownSpec)

/-- 'reliquarylaw11.DeviceClones', WHERE WHAT IT READS IS OF BULK AT MOST 1048576: true; the input reads as it did. -/
def deviceClonesUptoRow : OpenClaim := { program := "ytfphlbogblldbaa", sum := "2492cbab6d03649d6c7bb3549cdaa966ba5cabffcc77add8d4a33f8f79fd5670", func := "reliquary/reliquarylaw11.DeviceClones", spec := "deviceClones", unfollowed := true, recurses := true, apart := false, narrowed := true }
def DeviceClonesUptoSaid : Prop := deviceClonesUptoRow.holds Try.pinned (OpenSpec.upto deviceClonesSpec)

/-- 'reliquarylaw11.DeviceNobody', WHERE WHAT IT READS IS OF BULK AT MOST 1048576: true; the input reads as it did. -/
def deviceNobodyUptoRow : OpenClaim := { program := "ytfphlbogblldbaa", sum := "2492cbab6d03649d6c7bb3549cdaa966ba5cabffcc77add8d4a33f8f79fd5670", func := "reliquary/reliquarylaw11.DeviceNobody", spec := "deviceNobody", unfollowed := true, recurses := true, apart := false, narrowed := true }
def DeviceNobodyUptoSaid : Prop := deviceNobodyUptoRow.holds Try.pinned (OpenSpec.upto deviceNobodySpec)

end Rows
end Go.Proofs.Ytfphlbogblldbaa

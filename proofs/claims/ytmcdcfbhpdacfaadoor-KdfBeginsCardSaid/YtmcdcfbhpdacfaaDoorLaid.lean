import Derived.Test.YtmcdcfbhpdacfaaDoorSha1
import Derived.Test.YtmcdcfbhpdacfaaDoorCards
import Derived.Test.YtmcdcfbhpdacfaaDoorTie
import Derived.Deep.DeepHandedRow
import Derived.Lib.LaidTab
import Derived.LaidLaws
import Derived.Stop.LaidErr

/-
  What the rows' lists of package-level tables give: the tables' cells.
-/







namespace Go.Proofs.YtmcdcfbhpdacfaaDoor

open Go Sx

set_option linter.unusedVariables false

set_option linter.unusedSimpArgs false

set_option maxRecDepth 100000

def kz : List Int := [1116352408, 1899447441, 3049323471, 3921009573, 961987163, 1508970993, 2453635748, 2870763221, 3624381080, 310598401, 607225278, 1426881987, 1925078388, 2162078206, 2614888103, 3248222580, 3835390401, 4022224774, 264347078, 604807628, 770255983, 1249150122, 1555081692, 1996064986, 2554220882, 2821834349, 2952996808, 3210313671, 3336571891, 3584528711, 113926993, 338241895, 666307205, 773529912, 1294757372, 1396182291, 1695183700, 1986661051, 2177026350, 2456956037, 2730485921, 2820302411, 3259730800, 3345764771, 3516065817, 3600352804, 4094571909, 275423344, 430227734, 506948616, 659060556, 883997877, 958139571, 1322822218, 1537002063, 1747873779, 1955562222, 2024104815, 2227730452, 2361852424, 2428436474, 2756734187, 3204031479, 3329325298]
theorem kz_length : kz.length = 64 := rfl
theorem kz_kk : kz = kk.map fun x => (x.toNat : Int) := by kernel_rfl
theorem kz_get {i : Nat} (h : i < 64) : Value.int .u32 (kz.getD i 0) = wv (kk.getD i 0) := by
  have h1 : i < kk.length := h
  rw [kz_kk, List.getD_eq_getElem?_getD, List.getElem?_map, List.getElem?_eq_getElem h1, List.getD_eq_getElem?_getD, List.getElem?_eq_getElem h1]
  rfl
theorem gR : Tryd.prog.globalNamed "reliquary/sha.roots" = some 0 := by kernel_rfl
theorem gRt : (Tryd.prog.globals[0]?).map (·.type) = some 75 := by kernel_rfl
theorem cells64 : Tryd.prog.cellsOf 75 = 64 := by kernel_rfl
theorem cells32 : Tryd.prog.cellsOf 44 = 1 := by kernel_rfl
theorem roots_head {rest : List (String × DataW Unit)} {W : World} (h : laidMet Tryd.prog (("reliquary/sha.roots", Rows.laid_reliquary_sha_roots) :: rest) W) : Roots W := by
  have t : Lib.TabIs Tryd.prog W "reliquary/sha.roots" .u32 kz := Lib.tabIs_of_head (rest := rest) gR gRt Tryd.underlying75 Tryd.underlying44 cells32 cells64 h
  exact fun i hi => (t.cell gR i hi).trans (congrArg some (kz_get hi))
theorem gK : Tryd.prog.globalNamed "reliquary/reliquaryref03.k" = some 1 := by kernel_rfl
theorem gKt : (Tryd.prog.globals[1]?).map (·.type) = some 75 := by kernel_rfl
theorem k_head {rest : List (String × DataW Unit)} {W : World} (h : laidMet Tryd.prog (("reliquary/reliquaryref03.k", Rows.laid_reliquary_reliquaryref03_k) :: rest) W) : RootsR W := by
  have t : Lib.TabIs Tryd.prog W "reliquary/reliquaryref03.k" .u32 kz := Lib.tabIs_of_head (rest := rest) gK gKt Tryd.underlying75 Tryd.underlying44 cells32 cells64 h
  exact fun i hi => (t.cell gK i hi).trans (congrArg some (kz_get hi))
theorem roots_one {W : World} (h : laidMetH Tryd.prog [("reliquary/sha.roots", Rows.laid_reliquary_sha_roots)] W) : Roots W := roots_head (rest := []) h
theorem roots_two {W : World} (h : laidMetH Tryd.prog [("reliquary/reliquaryref03.k", Rows.laid_reliquary_reliquaryref03_k), ("reliquary/sha.roots", Rows.laid_reliquary_sha_roots)] W) : Roots W ∧ RootsR W :=
  ⟨roots_head (rest := []) (laidMet.tail h), k_head h⟩
def kv : Array Value := (kz.map fun z => Value.int .u32 z).toArray
def laySet : Obj → Obj
  | .cells _ t frozen => .cells kv t frozen
  | o => o
/-- A world for the witness: the tables as the text lays them. -/
noncomputable def laidWorld (os : Os) : World :=
  { World.holding Tryd.prog os ⟨#[], #[], []⟩ with heap := ((World.holding Tryd.prog os ⟨#[], #[], []⟩).heap.modify 0 laySet).modify 1 laySet }
end Go.Proofs.YtmcdcfbhpdacfaaDoor

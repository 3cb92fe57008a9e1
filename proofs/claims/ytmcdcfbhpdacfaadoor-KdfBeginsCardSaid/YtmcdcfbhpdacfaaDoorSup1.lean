import Derived.Test.YtmcdcfbhpdacfaaDoorSxA
import Derived.Test.YtmcdcfbhpdacfaaDoorTab
import Derived.WalkKit
import Derived.Laws.StructEq

/-
  The contracts of the image's shape: what may be, and where things stand.
-/




namespace Go.Proofs.YtmcdcfbhpdacfaaDoor

open Go Sx

set_option linter.unusedVariables false

set_option linter.unusedSimpArgs false

def mayS (cl per : Int) : Bool := decide (1 ≤ cl ∧ cl ≤ 64 ∧ 1 ≤ per ∧ per ≤ 2)
abbrev geo (cl per : Int) : Value := .agg #[.int .i64 cl, .int .i64 per]

def placeS (cl per : Int) (n : Nat) : Int := if mayS cl per = true ∧ n ≤ 65535 then 512 * (8 + n * per) else -1
def nthS (i first per : Int) : Int := if 0 ≤ i ∧ i ≤ 1 then 512 * (first + i * per) else -1
theorem tdiv_pos (m k : Int) : m.tdiv k = if 0 ≤ m then m / k else -((-m) / k) := by
  split
  · rename_i h
    exact Int.tdiv_eq_ediv_of_nonneg h
  · rename_i h
    have : m.tdiv k = -((-m).tdiv k) := by rw [Int.neg_tdiv, Int.neg_neg]
    rw [this, Int.tdiv_eq_ediv_of_nonneg (by omega)]
def capQ (per most : Int) : Int := (most.tdiv 512 - 8).tdiv per
def capS (cl per most : Int) : Int := if mayS cl per = true then max 0 (min (capQ per most) 65536) else 0
end Go.Proofs.YtmcdcfbhpdacfaaDoor

import Derived.Test.YtfphlbogblldbaaOct0

/-
  The contracts of the octet functions.
-/

namespace Go.Proofs.Ytfphlbogblldbaa

open Go Sx

set_option linter.unusedVariables false

set_option linter.unusedSimpArgs false
abbrev Any : Nat → Prop := fun _ => True
variable {B : Nat → Prop}
def nextS (l : List UInt8) (e n : Int) : List UInt8 × Int × List UInt8 :=
  if e ≠ 0 then (l, e, []) else if n < 0 then ([], 2, []) else if (l.length : Int) < n then ([], 3, []) else (l.drop n.toNat, 0, l.take n.toNat)
abbrev ptr (r : Nat) : Value := .pointer (some ⟨r, 0, none⟩)

theorem nextS_len (l : List UInt8) (e : Int) (n : Nat) : (nextS l e n).2.2.length ≤ n := by
  unfold nextS
  (repeat' split) <;> simp
  omega

end Go.Proofs.Ytfphlbogblldbaa

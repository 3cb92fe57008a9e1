import Derived.Test.YtfphlbogblldbaaOct2

/-
  The contracts of the octet functions: texts, nothing behind a nil reader, noughts.
-/

namespace Go.Proofs.Ytfphlbogblldbaa

open Go Sx

set_option linter.unusedVariables false

set_option linter.unusedSimpArgs false

variable {B : Nat → Prop}

def sbytes (s : ByteArray) : List UInt8 := s.data.toList
theorem sbytes_len (s : ByteArray) : (sbytes s).length = s.size := by simp [sbytes]

def textS (l : List UInt8) (e most : Int) : List UInt8 × Int × List UInt8 :=
  if (nextS l e 1).2.1 = 0 ∧ (bval (nextS l e 1).2.2 : Int) ≤ (nextS l e 1).1.length ∧ most < (bval (nextS l e 1).2.2 : Int) then ([], 5, []) else nextS (nextS l e 1).1 (nextS l e 1).2.1 (bval (nextS l e 1).2.2 : Nat)
theorem nextS_le (l : List UInt8) (e n : Int) : (nextS l e n).1.length ≤ l.length := by
  unfold nextS
  (repeat' split) <;> simp
end Go.Proofs.Ytfphlbogblldbaa

import Derived.Test.YtodpaehciegmiaaCgN

/-
  What a catalog read from bytes is: plain facts.
-/

namespace Go.Proofs.Ytodpaehciegmiaa

open Go Sx

set_option linter.unusedVariables false

set_option linter.unusedSimpArgs false

set_option maxRecDepth 100000

theorem SOk.run {b : List UInt8} (hb : b.length ≤ 140737488355328) : ∀ (k : Nat) {s : RdS'}, SOk b s → SOk b (runS k s) ∧ (runS k s).2.2.length ≤ s.2.2.length + k
  | 0, s, h => ⟨h, Nat.le_refl _⟩
  | k + 1, s, h => by
    by_cases he : s.2.1 = 0
    · rw [runS_go he]
      obtain ⟨h1, h2⟩ := SOk.run hb k (h.step hb)
      exact ⟨h1, by rw [stepS_length] at h2; omega⟩
    · rw [runS_stop he]
      exact ⟨h, by omega⟩
theorem endS_ok {b : List UInt8} (hb : b.length ≤ 140737488355328) : SOk b (endS b) ∧ (endS b).2.2.length ≤ 255 := by
  obtain ⟨h1, h2⟩ := SOk.run hb (cntS b) (SOk.start b)
  have h3 := cntS_lt b
  refine ⟨h1, ?_⟩
  have h4 : (startS b).2.2.length = 0 := rfl
  unfold endS
  omega
theorem getC_fine {b : List UInt8} (hb : b.length ≤ 140737488355328) : RefOk (getC b).1.1 ∧ SnapsOk (getC b).1.2 ∧ (getC b).1.2.length ≤ 255 := by
  unfold getC
  split
  · exact ⟨noRef_ok, fun x hx => (by cases hx), Nat.zero_le _⟩
  · exact ⟨refS_ok b 0, (endS_ok hb).1.snaps, (endS_ok hb).2⟩
end Go.Proofs.Ytodpaehciegmiaa

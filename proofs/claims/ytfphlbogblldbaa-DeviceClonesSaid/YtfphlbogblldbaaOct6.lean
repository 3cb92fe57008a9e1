import Derived.Test.YtfphlbogblldbaaOct5

/-
  The contracts of the octet functions: no reader at all.
-/

namespace Go.Proofs.Ytfphlbogblldbaa

open Go Sx

set_option linter.unusedVariables false

set_option linter.unusedSimpArgs false
/-- Calls of a reader, in a slice: its kind and its number. -/
def Acts (w : World) (A : Option Addr) (L : List (Nat × Int)) : Prop :=
  L = [] ∨ ∃ b off, A = some ⟨b, off, none⟩ ∧ ∀ i (h : i < L.length), w.cell? ⟨b, off + i * 2, none⟩ = some (.int .u8 ((L[i]).1 : Int)) ∧ w.cell? ⟨b, off + i * 2 + 1, none⟩ = some (.int .i64 (L[i]).2)
theorem Acts.ext {w w' : World} {A : Option Addr} {L : List (Nat × Int)} {S : Nat → Prop} (h : Acts w A L) (he : Ext S w w') (hA : ∀ k, inBlk A k → ¬ S k) : Acts w' A L := by
  rcases h with rfl | ⟨b, off, rfl, h⟩
  · exact .inl rfl
  · exact .inr ⟨b, off, rfl, fun i hi => ⟨he.cell (h i hi).1 (hA b ⟨off, none, rfl⟩), he.cell (h i hi).2 (hA b ⟨off, none, rfl⟩)⟩⟩
theorem Acts.at {w : World} {A : Option Addr} {L : List (Nat × Int)} (h : Acts w A L) {i : Nat} (hi : i < L.length) : ∃ b off, A = some ⟨b, off, none⟩ ∧ w.cell? ⟨b, off + i * 2, none⟩ = some (.int .u8 ((L[i]).1 : Int)) ∧ w.cell? ⟨b, off + i * 2 + 1, none⟩ = some (.int .i64 (L[i]).2) := by
  rcases h with rfl | ⟨b, off, rfl, h⟩
  · exact absurd hi (by simp)
  · exact ⟨b, off, rfl, (h i hi).1, (h i hi).2⟩
end Go.Proofs.Ytfphlbogblldbaa

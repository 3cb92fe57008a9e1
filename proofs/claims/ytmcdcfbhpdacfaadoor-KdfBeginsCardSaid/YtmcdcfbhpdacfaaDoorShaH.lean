import Derived.Test.YtmcdcfbhpdacfaaDoorSha2
import Derived.Test.YtmcdcfbhpdacfaaDoorCat

/-
  SHA-256: what a Hash is.
-/


namespace Go.Proofs.YtmcdcfbhpdacfaaDoor

open Go Sx

set_option linter.unusedVariables false

set_option linter.unusedSimpArgs false

theorem Sx.Cells.ext' {w w' : World} {A : Option Addr} {cs : List Value} {S : Nat → Prop} (h : Cells w A cs) (he : Ext S w w') (hA : cs ≠ [] → ∀ k, inBlk A k → ¬ S k) : Cells w' A cs := by
  by_cases e : cs = []
  · exact .inl e
  · exact h.ext he (hA e)
theorem bv_nil {l : List UInt8} (h : bv l ≠ []) : l ≠ [] := fun e => h (by rw [e]; rfl)
theorem Sx.Cells.ltB {w : World} {A : Option Addr} {l : List UInt8} (h : Cells w A (bv l)) (hne : l ≠ []) {k : Nat} (hk : inBlk A k) : k < w.heap.size := h.lt (fun e => hne (by cases l; rfl; cases e)) hk
/-- A Hash at block hb that has taken `l`; no block of `S` is its own. -/
def HashAt (S : Nat → Prop) (w : World) (hb : Nat) (l : List UInt8) : Prop :=
  ∃ A c, At w hb (wvs (stateOf l).l ++ [.slice A (restOf l).length c, .int .i64 (l.length : Int)]) 66 (0, 0) ∧ Cells w A (bv (restOf l)) ∧ (restOf l).length ≤ c ∧ (∀ k, inBlk A k → k ≠ hb ∧ ¬ S k ∧ k < w.heap.size) ∧ ¬ S hb
theorem HashAt.ext {S S' : Nat → Prop} {w w' : World} {hb : Nat} {l : List UInt8} (h : HashAt S w hb l) (he : Ext S' w w') (hS : ∀ k, S' k → S k) : HashAt S w' hb l := by
  obtain ⟨A, c, h1, h2, h3, h4, h5⟩ := h
  exact ⟨A, c, h1.ext he (fun x => h5 (hS _ x)), h2.ext he (fun k hk x => (h4 k hk).2.1 (hS _ x)), h3, fun k hk => ⟨(h4 k hk).1, (h4 k hk).2.1, Nat.lt_of_lt_of_le (h4 k hk).2.2 he.size⟩, h5⟩
theorem HashAt.non {S : Nat → Prop} {w w' : World} {hb : Nat} {l : List UInt8} (h : HashAt S w hb l) (he : Ext Non w w') : HashAt S w' hb l := h.ext he (fun _ x => x.elim)
theorem HashAt.lt {S : Nat → Prop} {w : World} {hb : Nat} {l : List UInt8} (h : HashAt S w hb l) : hb < w.heap.size := by
  obtain ⟨A, c, h1, _⟩ := h
  exact h1.lt
theorem tmod_nat (n k : Nat) : ((n : Int)).tmod (k : Int) = ((n % k : Nat) : Int) := Int.ofNat_tmod n k |>.symm
theorem bv_take (l : List UInt8) (n : Nat) : (bv l).take n = bv (l.take n) := by simp [bv]
theorem bv_drop (l : List UInt8) (n : Nat) : (bv l).drop n = bv (l.drop n) := by simp [bv]
end Go.Proofs.YtmcdcfbhpdacfaaDoor

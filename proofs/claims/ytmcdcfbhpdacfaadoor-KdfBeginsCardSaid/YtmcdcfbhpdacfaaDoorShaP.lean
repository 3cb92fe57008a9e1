import Derived.Test.YtmcdcfbhpdacfaaDoorShaF
import Derived.Test.YtmcdcfbhpdacfaaDoorEq

/-
  The sum of one part, of two; sums that are one.
-/


namespace Go.Proofs.YtmcdcfbhpdacfaaDoor

open Go Sx

set_option linter.unusedVariables false

set_option linter.unusedSimpArgs false

theorem uSum : cx.P.underlying 39 = some (.array 32 5) := TIok.array (tabOk _ ti39 rfl)
theorem gSum : cx.P.eqGuardType cx.P.depth 39 = false := by kernel_rfl
/-- Two sums that are one. -/
theorem Eqv.sumT {a b : List UInt8} (ha : a.length = 32) (e : a = b) {x y : Value} {K : Bool → Prop} (hx : x = .agg (bv a).toArray) (hy : y = .agg (bv b).toArray) (k : K true) : Eqv cx.P 39 x y K := Eqv.arrT uSum gSum ha e hx hy k
theorem Eqv.sumF {a b : List UInt8} (ha : a.length = 32) (hb : b.length = 32) (e : a ≠ b) {x y : Value} {K : Bool → Prop} (hx : x = .agg (bv a).toArray) (hy : y = .agg (bv b).toArray) (k : K false) : Eqv cx.P 39 x y K := Eqv.arrF uSum gSum ha hb e hx hy k
theorem joinP_one (A : Option Addr) (c : Nat) (l : List UInt8) : joinP [(A, c, l)] = l := by simp [joinP]
theorem Parts.one {w : World} {pb t c : Nat} {fr : Nat × Nat} {A : Option Addr} {l : List UInt8} (h : At w pb [.slice A l.length c] t fr) (hl : l.length ≤ c) (hc : Cells w A (bv l)) : Parts w (some ⟨pb, 0, none⟩) [(A, c, l)] := Parts.of h rfl fun p hp => by
  rw [List.mem_singleton] at hp
  subst hp
  exact ⟨hc, hl⟩
theorem joinP_two (A A' : Option Addr) (c c' : Nat) (l l' : List UInt8) : joinP [(A, c, l), (A', c', l')] = l ++ l' := by simp [joinP]
theorem Parts.two {w : World} {pb t c c' : Nat} {fr : Nat × Nat} {A A' : Option Addr} {l l' : List UInt8} (h : At w pb [.slice A l.length c, .slice A' l'.length c'] t fr) (hl : l.length ≤ c) (hc : Cells w A (bv l)) (hl' : l'.length ≤ c') (hc' : Cells w A' (bv l')) :
    Parts w (some ⟨pb, 0, none⟩) [(A, c, l), (A', c', l')] := Parts.of h rfl fun p hp => by
  simp only [List.mem_cons, List.not_mem_nil, or_false] at hp
  rcases hp with rfl | rfl
  · exact ⟨hc, hl⟩
  · exact ⟨hc', hl'⟩
theorem Of1_ret {w : World} {pb t c : Nat} {fr : Nat × Nat} {A : Option Addr} {l : List UInt8} (h : At w pb [.slice A l.length c] t fr) (hl : l.length ≤ c) (hc : Cells w A (bv l)) (hR : Roots w) (hb : l.length ≤ 140737488354000) :
    Ret cx.P 15 #[.slice (some ⟨pb, 0, none⟩) 1 1] w fun v w' => v = .agg (bv (sha l)).toArray ∧ Ext Non w w' := by
  have t3 := Of_ret (c := 1) (Parts.one h hl hc) hR (by rw [joinP_one]; exact hb) (show 1 ≤ 140737488355328 by omega)
  rw [joinP_one] at t3
  exact t3
theorem Of2_ret {w : World} {pb t c c' : Nat} {fr : Nat × Nat} {A A' : Option Addr} {l l' : List UInt8} (h : At w pb [.slice A l.length c, .slice A' l'.length c'] t fr) (hl : l.length ≤ c) (hc : Cells w A (bv l)) (hl' : l'.length ≤ c') (hc' : Cells w A' (bv l')) (hR : Roots w) (hb : l.length + l'.length ≤ 140737488354000) :
    Ret cx.P 15 #[.slice (some ⟨pb, 0, none⟩) 2 2] w fun v w' => v = .agg (bv (sha (l ++ l'))).toArray ∧ Ext Non w w' := by
  have t3 := Of_ret (c := 2) (Parts.two h hl hc hl' hc') hR (by rw [joinP_two, List.length_append]; exact hb) (show 2 ≤ 140737488355328 by omega)
  rw [joinP_two] at t3
  exact t3
end Go.Proofs.YtmcdcfbhpdacfaaDoor

import Derived.Test.YtmcdcfbhpdacfaaDoorOct6

/-
  The contracts of the octet functions: noughts.
-/

namespace Go.Proofs.YtmcdcfbhpdacfaaDoor

open Go Sx

set_option linter.unusedVariables false

set_option linter.unusedSimpArgs false

def padS (l : List UInt8) (n : Int) : List UInt8 × Int :=
  if n < 0 ∨ 65536 < n then ([], 2) else if n < l.length then ([], 5) else (l ++ List.replicate (n.toNat - l.length) 0, 0)
theorem bv_replicate (n : Nat) : bv (List.replicate n 0) = List.replicate n (.int .u8 0) := by simp [bv]

theorem cells_at {w : World} {A : Option Addr} {l : List UInt8} (h : Cells w A (bv l)) {i : Nat} (hi : i < l.length) : ∃ b off, A = some ⟨b, off, none⟩ ∧ w.cell? ⟨b, off + i, none⟩ = some (.int .u8 ((l[i]).toNat : Int)) := by
  rcases h with h | ⟨b, off, rfl, h⟩
  · have := congrArg List.length h
    rw [bv_length] at this
    simp at this
    subst this
    exact absurd hi (by simp)
  · have := h i (by rw [bv_length]; exact hi)
    exact ⟨b, off, rfl, by rw [this]; simp [bv]⟩
def nulls (l : List UInt8) : Bool := l.all (· == 0)
theorem nulls_succ {l : List UInt8} {i : Nat} (h : i < l.length) (hn : nulls (l.take i) = true) (hx : l[i] = 0) : nulls (l.take (i + 1)) = true := by
  rw [List.take_succ_eq_append_getElem h, nulls, List.all_append, Bool.and_eq_true]
  exact ⟨hn, by simp [hx]⟩
/-- The first i bytes one greater. -/
def incs (l : List UInt8) (i : Nat) : List UInt8 := (l.take i).map (· + 1) ++ l.drop i
theorem incs_length (l : List UInt8) (i : Nat) : (incs l i).length = l.length := by
  simp [incs]
  omega
theorem incs_zero (l : List UInt8) : incs l 0 = l := by simp [incs]
theorem incs_get {l : List UInt8} {i : Nat} (h : i < l.length) : (incs l i)[i]? = some l[i] := by
  rw [incs, List.getElem?_append_right (by simp; omega)]
  simp [Nat.min_eq_left (Nat.le_of_lt h), h]
theorem incs_set {l : List UInt8} {i : Nat} (h : i < l.length) : (bv (incs l i)).set i (.int .u8 (((l[i] + 1).toNat : Nat) : Int)) = bv (incs l (i + 1)) := by
  have e1 : incs l i = (l.take i).map (· + 1) ++ l[i] :: l.drop (i + 1) := by rw [incs, List.drop_eq_getElem_cons h]
  have e2 : incs l (i + 1) = (l.take i).map (· + 1) ++ (l[i] + 1) :: l.drop (i + 1) := by
    rw [incs, List.take_succ_eq_append_getElem h, List.map_append, List.append_assoc]
    rfl
  have hl : ((l.take i).map (· + 1)).length = i := by simp; omega
  rw [e1, e2, bv_append, bv_append, List.set_append_right _ _ (by rw [bv_length, hl]; exact Nat.le_refl _), bv_length, hl, Nat.sub_self]
  rfl
theorem inc_of (x : UInt8) : UInt8.ofNat (x.toNat + 1) = x + 1 := by
  apply UInt8.toNat_inj.mp
  rw [UInt8.toNat_ofNat', UInt8.toNat_add]
  rfl
theorem Sx.Cells.get {w : World} {b off : Nat} {cs : List Value} (h : Cells w (some ⟨b, off, none⟩) cs) {i : Nat} {v : Value} (hv : cs[i]? = some v) : w.cell? ⟨b, off + i, none⟩ = some v := by
  rcases h with rfl | ⟨b', off', e, h⟩
  · simp at hv
  · injection e with e
    injection e with e1 e2 _
    subst e1 e2
    obtain ⟨hi, rfl⟩ := List.getElem?_eq_some_iff.mp hv
    exact h i hi
end Go.Proofs.YtmcdcfbhpdacfaaDoor

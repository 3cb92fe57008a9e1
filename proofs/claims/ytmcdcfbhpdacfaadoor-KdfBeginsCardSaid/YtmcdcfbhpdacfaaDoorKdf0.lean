import Derived.Test.YtmcdcfbhpdacfaaDoorMac0
import Derived.Test.YtmcdcfbhpdacfaaDoorShaF

/-
  Keys of passphrases, in plain Lean.
-/


namespace Go.Proofs.YtmcdcfbhpdacfaaDoor

open Go Sx

set_option linter.unusedVariables false

set_option linter.unusedSimpArgs false

def xorL (a b : List UInt8) : List UInt8 := List.zipWith (· ^^^ ·) a b
theorem xorL_length {a b : List UInt8} (h : a.length = 32) (h2 : b.length = 32) : (xorL a b).length = 32 := by rw [xorL, List.length_zipWith, h, h2]; rfl
/-- The last sum, and all of them, behind k turns more. -/
def pbS (p u : List UInt8) : Nat → List UInt8 × List UInt8
  | 0 => (u, u)
  | k + 1 => (mac p (pbS p u k).1, xorL (pbS p u k).2 (mac p (pbS p u k).1))
theorem pbS_length (p : List UInt8) {u : List UInt8} (hu : u.length = 32) (k : Nat) : (pbS p u k).1.length = 32 ∧ (pbS p u k).2.length = 32 := by
  induction k with
  | zero => exact ⟨hu, hu⟩
  | succ k ih => exact ⟨mac_length _ _, xorL_length ih.2 (mac_length _ _)⟩
def blkK (p s : List UInt8) (t i : Nat) : List UInt8 := (pbS p (mac p (s ++ be 4 i)) (t - 1)).2
theorem blkK_length (p s : List UInt8) (t i : Nat) : (blkK p s t i).length = 32 := (pbS_length p (mac_length _ _) _).2
def outK (p s : List UInt8) (t : Nat) : Nat → List UInt8
  | 0 => []
  | k + 1 => outK p s t k ++ blkK p s t (k + 1)
theorem outK_length (p s : List UInt8) (t k : Nat) : (outK p s t k).length = 32 * k := by
  induction k with
  | zero => rfl
  | succ k ih => rw [outK, List.length_append, ih, blkK_length]; omega
theorem outK_prefix (p s : List UInt8) (t : Nat) {k m : Nat} (h : k ≤ m) : ∃ r, outK p s t m = outK p s t k ++ r := by
  induction m with
  | zero => obtain rfl : k = 0 := by omega
            exact ⟨[], rfl⟩
  | succ m ih =>
    by_cases e : k = m + 1
    · subst e
      exact ⟨[], by simp⟩
    · obtain ⟨r, hr⟩ := ih (by omega)
      exact ⟨r ++ blkK p s t (m + 1), by rw [outK, hr, List.append_assoc]⟩
def errK (pl sl : Nat) (turns size : Int) : Int := if 512 < pl ∨ 1024 < sl then 5 else if turns < 1 ∨ 4096 < turns ∨ size < 0 ∨ 1024 < size then 2 else 0
def resK (p s : List UInt8) (turns size : Int) : List UInt8 := if errK p.length s.length turns size = 0 then (outK p s turns.toNat ((size.toNat + 31) / 32)).take size.toNat else []
theorem resK_err {p s : List UInt8} {turns size e : Int} (h : errK p.length s.length turns size = e) (he : e ≠ 0) : resK p s turns size = [] := by
  unfold resK
  rw [if_neg (by rw [h]; exact he)]
theorem resK_ok {p s : List UInt8} {turns size : Int} (h : errK p.length s.length turns size = 0) : resK p s turns size = (outK p s turns.toNat ((size.toNat + 31) / 32)).take size.toNat := if_pos h
theorem errK_5 {pl sl : Nat} {turns size : Int} (h : 512 < pl ∨ 1024 < sl) : errK pl sl turns size = 5 := if_pos h
theorem errK_2 {pl sl : Nat} {turns size : Int} (h : ¬ (512 < pl ∨ 1024 < sl)) (h2 : turns < 1 ∨ 4096 < turns ∨ size < 0 ∨ 1024 < size) : errK pl sl turns size = 2 := by
  unfold errK
  rw [if_neg h, if_pos h2]
theorem errK_0 {pl sl : Nat} {turns size : Int} (h : ¬ (512 < pl ∨ 1024 < sl)) (h2 : ¬ (turns < 1 ∨ 4096 < turns ∨ size < 0 ∨ 1024 < size)) : errK pl sl turns size = 0 := by
  unfold errK
  rw [if_neg h, if_neg h2]
theorem xor_get {a b : List UInt8} {i : Nat} (ha : i < a.length) (hb : i < b.length) (h : i < (xorL a b).length) : (xorL a b)[i] = a[i] ^^^ b[i] := by simp [xorL]
theorem set_stepK {p q : List UInt8} {i : Nat} (h : i < p.length) (e : p.length = q.length) : (bv (p.take i ++ q.drop i)).set i (.int .u8 (p[i].toNat : Int)) = bv (p.take (i + 1) ++ q.drop (i + 1)) := by
  have hl : (bv (p.take i)).length = i := by rw [bv_length, List.length_take]; omega
  have e1 : bv (p.take i ++ q.drop i) = bv (p.take i) ++ bv (q.drop i) := by simp [bv]
  rw [e1, List.set_append_right i _ (by omega), hl, Nat.sub_self, List.take_succ_eq_append_getElem h, List.drop_eq_getElem_cons (show i < q.length by omega), show bv (q[i]'(by omega) :: q.drop (i + 1)) = .int .u8 ((q[i]'(by omega)).toNat : Int) :: bv (q.drop (i + 1)) from rfl, List.set_cons_zero]
  simp only [bv, List.map_append, List.map_cons, List.append_assoc, List.cons_append, List.nil_append]
theorem get_stepK {p q : List UInt8} {i : Nat} (h : i < q.length) (e : p.length = q.length) : (bv (p.take i ++ q.drop i))[i]? = some (.int .u8 (q[i].toNat : Int)) := by
  have hl : (p.take i).length = i := by rw [List.length_take]; omega
  have : i < (p.take i ++ q.drop i).length := by rw [List.length_append, hl, List.length_drop]; omega
  rw [bv_get this]
  have : (p.take i ++ q.drop i)[i] = q[i] := by
    rw [List.getElem_append_right (by omega)]
    simp [hl]
  rw [this]
end Go.Proofs.YtmcdcfbhpdacfaaDoor

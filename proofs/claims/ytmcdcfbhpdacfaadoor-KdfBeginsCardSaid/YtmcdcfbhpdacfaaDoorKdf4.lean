import Derived.Test.YtmcdcfbhpdacfaaDoorKdf3
import Derived.Test.YtmcdcfbhpdacfaaDoorFlw

/-
  Keys of passphrases: plain facts that the statements want.
-/


namespace Go.Proofs.YtmcdcfbhpdacfaaDoor

open Go Sx

set_option linter.unusedVariables false

set_option linter.unusedSimpArgs false

theorem mac_sumK {key : List UInt8} (h : 64 < key.length) (b : List UInt8) : mac (sha key) b = mac key b := by
  have e1 : keyK key = sha key := if_pos h
  have e2 : keyK (sha key) = sha key := if_neg (by rw [sha_length]; decide)
  unfold mac pad keyB
  rw [e1, e2]
theorem pbS_sum {p : List UInt8} (h : 64 < p.length) (u : List UInt8) (k : Nat) : pbS (sha p) u k = pbS p u k := by
  induction k with
  | zero => rfl
  | succ k ih => rw [pbS, pbS, ih, mac_sumK h]
theorem outK_sum {p : List UInt8} (h : 64 < p.length) (s : List UInt8) (t k : Nat) : outK (sha p) s t k = outK p s t k := by
  induction k with
  | zero => rfl
  | succ k ih => rw [outK, outK, ih, blkK, blkK, mac_sumK h, pbS_sum h]
theorem resK_length {p s : List UInt8} {turns : Int} {n : Nat} (h : errK p.length s.length turns (n : Int) = 0) : (resK p s turns (n : Int)).length = n := by
  rw [resK_ok h, List.length_take, outK_length, Int.toNat_natCast]
  omega
theorem resK_take {p s : List UInt8} {turns : Int} {m n : Nat} (h : errK p.length s.length turns (m : Int) = 0) (h2 : errK p.length s.length turns (n : Int) = 0) (hmn : m ≤ n) : (resK p s turns (n : Int)).take m = resK p s turns (m : Int) := by
  rw [resK_ok h, resK_ok h2, Int.toNat_natCast, Int.toNat_natCast, List.take_take, Nat.min_eq_left hmn]
  obtain ⟨r, hr⟩ := outK_prefix p s turns.toNat (show (m + 31) / 32 ≤ (n + 31) / 32 by omega)
  rw [hr, List.take_append_of_le_length (by rw [outK_length]; omega)]
theorem resK_sum {p s : List UInt8} {turns size : Int} (h : 64 < p.length) (h2 : p.length ≤ 512) : resK (sha p) s turns size = resK p s turns size := by
  have e : errK (sha p).length s.length turns size = errK p.length s.length turns size := by
    unfold errK
    rw [sha_length]
    by_cases hs : 1024 < s.length
    · rw [if_pos (.inr hs), if_pos (.inr hs)]
    · rw [if_neg (show ¬ (512 < 32 ∨ 1024 < s.length) by omega), if_neg (show ¬ (512 < p.length ∨ 1024 < s.length) by omega)]
  unfold resK
  rw [e, outK_sum h]
theorem resK_one {p s : List UInt8} (h : ¬ (512 < p.length ∨ 1024 < s.length)) : resK p s 1 32 = mac p (s ++ [0, 0, 0, 1]) := by
  have e : errK p.length s.length 1 32 = 0 := errK_0 h (by decide)
  rw [resK_ok e]
  show (outK p s 1 1).take 32 = _
  rw [List.take_of_length_le (by rw [outK_length]; exact Nat.le_refl _)]
  show [] ++ blkK p s 1 1 = _
  rw [List.nil_append]
  rfl
theorem resK_two {p s : List UInt8} (h : ¬ (512 < p.length ∨ 1024 < s.length)) : resK p s 2 32 = xorL (mac p (s ++ [0, 0, 0, 1])) (mac p (mac p (s ++ [0, 0, 0, 1]))) := by
  have e : errK p.length s.length 2 32 = 0 := errK_0 h (by decide)
  rw [resK_ok e]
  show (outK p s 2 1).take 32 = _
  rw [List.take_of_length_le (by rw [outK_length]; exact Nat.le_refl _)]
  show [] ++ blkK p s 2 1 = _
  rw [List.nil_append]
  rfl
end Go.Proofs.YtmcdcfbhpdacfaaDoor

import Derived.Test.YtmcdcfbhpdacfaaDoorOct3

/-
  The order of numbers is the order of their bytes, in plain Lean.
-/

namespace Go.Proofs.YtmcdcfbhpdacfaaDoor

open Go Sx

set_option linter.unusedVariables false

set_option linter.unusedSimpArgs false

theorem be_mod (k n : Nat) : be k (n % 256 ^ k) = be k n := by
  induction k generalizing n with
  | zero => rfl
  | succ k ih =>
    have h1 : n % 256 ^ (k + 1) / 256 = n / 256 % 256 ^ k := by
      rw [Nat.pow_succ, Nat.mul_comm (256 ^ k) 256, Nat.mod_mul_right_div_self]
    have h2 : UInt8.ofNat (n % 256 ^ (k + 1)) = UInt8.ofNat n := by
      apply UInt8.toNat_inj.mp
      simp only [UInt8.toNat_ofNat']
      exact Nat.mod_mod_of_dvd _ ⟨256 ^ k, by rw [Nat.pow_succ, Nat.mul_comm]⟩
    rw [be, be, h1, h2, ih]
theorem be_less (k a b : Nat) (ha : a < 256 ^ k) (hb : b < 256 ^ k) : Op.bytesLess (be k a) (be k b) = decide (a < b) := by
  induction k generalizing a b with
  | zero =>
    have : a = 0 := by simp at ha; exact ha
    have : b = 0 := by simp at hb; exact hb
    subst a b
    rfl
  | succ k ih =>
    have hp : 0 < 256 ^ k := Nat.pow_pos (by decide)
    have qa : a / 256 ^ k < 256 := Nat.div_lt_of_lt_mul (by rw [Nat.pow_succ] at ha; exact ha)
    have qb : b / 256 ^ k < 256 := Nat.div_lt_of_lt_mul (by rw [Nat.pow_succ] at hb; exact hb)
    have da := Nat.div_add_mod a (256 ^ k)
    have db := Nat.div_add_mod b (256 ^ k)
    have ma := Nat.mod_lt a hp
    have mb := Nat.mod_lt b hp
    rw [be_cons, be_cons, ← be_mod k a, ← be_mod k b, Op.bytesLess, ih _ _ ma mb]
    have e1 : (UInt8.ofNat (a / 256 ^ k) < UInt8.ofNat (b / 256 ^ k)) ↔ a / 256 ^ k < b / 256 ^ k := by
      rw [UInt8.lt_iff_toNat_lt, UInt8.toNat_ofNat', UInt8.toNat_ofNat', Nat.mod_eq_of_lt qa, Nat.mod_eq_of_lt qb]
    have e2 : (UInt8.ofNat (a / 256 ^ k) == UInt8.ofNat (b / 256 ^ k)) = decide (a / 256 ^ k = b / 256 ^ k) := by
      rw [Bool.eq_iff_iff, beq_iff_eq, decide_eq_true_iff, ← UInt8.toNat_inj, UInt8.toNat_ofNat', UInt8.toNat_ofNat', Nat.mod_eq_of_lt qa, Nat.mod_eq_of_lt qb]
    generalize a / 256 ^ k = x at *
    generalize b / 256 ^ k = y at *
    generalize a % 256 ^ k = u at *
    generalize b % 256 ^ k = v at *
    rw [e2, Bool.eq_iff_iff]
    simp only [Bool.or_eq_true, Bool.and_eq_true, decide_eq_true_iff, e1]
    generalize 256 ^ k = z at *
    constructor
    · rintro (h | ⟨h, h'⟩)
      · have : z * (x + 1) ≤ z * y := Nat.mul_le_mul_left z h
        rw [Nat.mul_add] at this
        omega
      · subst h
        omega
    · intro h
      by_cases hxy : x < y
      · exact .inl hxy
      · right
        by_cases hyx : y < x
        · exfalso
          have : z * (y + 1) ≤ z * x := Nat.mul_le_mul_left z hyx
          rw [Nat.mul_add] at this
          omega
        · have : x = y := by omega
          subst this
          exact ⟨rfl, by omega⟩
theorem be_eq (k a b : Nat) (ha : a < 256 ^ k) (hb : b < 256 ^ k) : be k a = be k b ↔ a = b := by
  constructor
  · intro h
    have h1 := be_less k a b ha hb
    have h2 := be_less k b a hb ha
    have h3 := be_less k a a ha ha
    rw [← h] at h1 h2
    rw [h3] at h1 h2
    simp at h1 h2
    omega
  · intro h
    rw [h]
theorem str_eq (x y : List UInt8) : ((⟨x.toArray⟩ : ByteArray) = ⟨y.toArray⟩) ↔ x = y := by
  constructor
  · intro h
    have : x.toArray = y.toArray := congrArg ByteArray.data h
    simpa using this
  · intro h
    rw [h]
theorem str_loop (s : ByteArray) (n i : Nat) (r : List UInt8) (h : s.size - i = n) : ByteArray.toList.loop s i r = r.reverse ++ s.data.toList.drop i := by
  induction n generalizing i r with
  | zero =>
    rw [ByteArray.toList.loop, if_neg (by omega), List.drop_eq_nil_of_le (by have : s.size = s.data.toList.length := by simp
                                                                             omega)]
    simp
  | succ n ih =>
    have hi : i < s.data.toList.length := by
      have : s.size = s.data.toList.length := by simp
      omega
    rw [ByteArray.toList.loop, if_pos (by omega), ih _ _ (by omega), List.drop_eq_getElem_cons hi]
    have e : s.get! i = s.data.toList[i] := by
      show s.data[i]! = _
      rw [getElem!_pos s.data i (by simpa using hi)]
      simp
    rw [e]
    simp
theorem str_list (x : List UInt8) : (⟨x.toArray⟩ : ByteArray).toList = x := by
  have := str_loop ⟨x.toArray⟩ _ 0 [] rfl
  rw [ByteArray.toList, this]
  simp
theorem be_str_less (k a b : Nat) (ha : a < 256 ^ k) (hb : b < 256 ^ k) : Op.bytesLess (⟨(be k a).toArray⟩ : ByteArray).toList (⟨(be k b).toArray⟩ : ByteArray).toList = decide (a < b) := by
  rw [str_list, str_list, be_less k a b ha hb]
theorem wrap_u32_nat (n : Nat) : IntKind.u32.wrap (n : Int) = ((n % 4294967296 : Nat) : Int) := by
  rw [IntKind.wrap_u32]
  omega
theorem wrap_u16_nat (n : Nat) : IntKind.u16.wrap (n : Int) = ((n % 65536 : Nat) : Int) := by
  rw [IntKind.wrap_u16]
  omega
end Go.Proofs.YtmcdcfbhpdacfaaDoor

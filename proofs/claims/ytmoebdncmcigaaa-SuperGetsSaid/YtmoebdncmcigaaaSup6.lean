
/-
  The first sector's bytes and what is read of them, in plain Lean.
-/
import Derived.Test.YtmoebdncmcigaaaSup5

namespace Go.Proofs.Ytmoebdncmcigaaa

open Go Sx

set_option linter.unusedVariables false

set_option linter.unusedSimpArgs false

theorem nextS_ok (l : List UInt8) (n : Nat) (h : n ≤ l.length) : nextS l 0 n = (l.drop n, 0, l.take n) := by
  have h1 : ¬ (n : Int) < 0 := by omega
  have h2 : ¬ (l.length : Int) < (n : Int) := by omega
  simp only [nextS, ne_eq, not_true_eq_false, if_false, if_neg h1, if_neg h2, Int.toNat_natCast]
theorem full_length (C R : Nat) : (fullS C R).length = 512 := by rw [fullS, List.length_append, headS_length, List.length_replicate]
theorem full_eq (C R : Nat) : fullS C R = [82, 69, 76, 73, 81, 85, 65, 82, 89, 1] ++ ([UInt8.ofNat (C / 256), UInt8.ofNat C] ++ ([UInt8.ofNat R] ++ List.replicate 499 0)) := by
  simp only [fullS, headS, magicS, be, List.nil_append, List.cons_append]
theorem full_reads (C R : Nat) (hC : C < 65536) (hR : R < 256) : rdC (fullS C R) = C ∧ rdP (fullS C R) = R := by
  have hl := full_length C R
  have e1 : nextS (fullS C R) 0 10 = ((fullS C R).drop 10, 0, (fullS C R).take 10) := nextS_ok _ 10 (by omega)
  have e2 : nextS ((fullS C R).drop 10) 0 2 = (((fullS C R).drop 10).drop 2, 0, ((fullS C R).drop 10).take 2) := nextS_ok _ 2 (by rw [List.length_drop]; omega)
  have e3 : nextS (((fullS C R).drop 10).drop 2) 0 1 = ((((fullS C R).drop 10).drop 2).drop 1, 0, (((fullS C R).drop 10).drop 2).take 1) := nextS_ok _ 1 (by rw [List.length_drop, List.length_drop]; omega)
  have d1 : (fullS C R).drop 10 = [UInt8.ofNat (C / 256), UInt8.ofNat C] ++ ([UInt8.ofNat R] ++ List.replicate 499 0) := by rw [full_eq]; rfl
  constructor
  · rw [rdC, e1]
    dsimp only
    rw [e2, d1]
    show bval [UInt8.ofNat (C / 256), UInt8.ofNat C] = C
    simp only [bval, List.foldl_cons, List.foldl_nil, UInt8.toNat_ofNat']
    omega
  · rw [rdP, e1]
    dsimp only
    rw [e2]
    dsimp only
    rw [e3, d1]
    show bval [UInt8.ofNat R] = R
    simp only [bval, List.foldl_cons, List.foldl_nil, UInt8.toNat_ofNat']
    omega
theorem getS_full (C R : Nat) (h : mayS C R = true) : getS (fullS C R) = ((C : Int), (R : Int), 0) := by
  have h2 := h
  simp [mayS] at h2
  obtain ⟨e1, e2⟩ := full_reads C R (by omega) (by omega)
  rw [getS, okS, e1, e2, h]
  simp
theorem getS_long (b : List UInt8) (h : b.length ≠ 512) : getS b = (0, 0, 4) := by
  have : okS b = false := by
    rw [okS, Bool.and_eq_false_iff]
    right
    rw [decide_eq_false]
    intro e
    exact h (by rw [← e, full_length])
  rw [getS, this]
  rfl
theorem full_same {C R C' R' k : Nat} (hk : k < 10 ∨ 13 ≤ k) : (fullS C R)[k]? = (fullS C' R')[k]? := by
  rw [full_eq, full_eq]
  rcases hk with h | h
  · rw [List.getElem?_append_left (by simpa using h), List.getElem?_append_left (by simpa using h)]
  · rw [List.getElem?_append_right (by simp; omega), List.getElem?_append_right (by simp; omega)]
    rw [List.getElem?_append_right (by simp; omega), List.getElem?_append_right (by simp; omega)]
    rw [List.getElem?_append_right (by simp; omega), List.getElem?_append_right (by simp; omega)]
    rfl
/-- One byte turned: none, or the same where nothing turned, or another geometry where a byte of it was. -/
theorem getS_turned (C R k : Nat) (by_ : UInt8) (h : mayS C R = true) (hk : k < 512) :
    (getS ((fullS C R).set k ((fullS C R).getD k 0 ^^^ by_))).2.2 = 4 ∨
    ((getS ((fullS C R).set k ((fullS C R).getD k 0 ^^^ by_))).2.2 = 0 ∧
      (by_ = 0 ∧ (getS ((fullS C R).set k ((fullS C R).getD k 0 ^^^ by_))).1 = (C : Int) ∧ (getS ((fullS C R).set k ((fullS C R).getD k 0 ^^^ by_))).2.1 = (R : Int) ∨
        by_ ≠ 0 ∧ ¬ ((getS ((fullS C R).set k ((fullS C R).getD k 0 ^^^ by_))).1 = (C : Int) ∧ (getS ((fullS C R).set k ((fullS C R).getD k 0 ^^^ by_))).2.1 = (R : Int)) ∧ 10 ≤ k ∧ k < 13)) := by
  have hl := full_length C R
  generalize ht : (fullS C R).set k ((fullS C R).getD k 0 ^^^ by_) = t
  by_cases hok : okS t = true
  · right
    rw [getS, if_pos hok]
    refine ⟨rfl, ?_⟩
    rw [okS, Bool.and_eq_true] at hok
    have he : fullS (rdC t) (rdP t) = t := of_decide_eq_true hok.2
    by_cases hb : by_ = 0
    · left
      have hx : (fullS C R).getD k 0 ^^^ by_ = (fullS C R).getD k 0 := by rw [hb]; simp
      have : t = fullS C R := by
        rw [← ht, hx]
        have hk' : k < (fullS C R).length := by omega
        rw [List.getD_eq_getElem?_getD, List.getElem?_eq_getElem hk', Option.getD_some, List.set_getElem_self]
      obtain ⟨e1, e2⟩ := full_reads C R (by simp [mayS] at h; omega) (by simp [mayS] at h; omega)
      rw [this, e1, e2]
      exact ⟨hb, rfl, rfl⟩
    · right
      have hne : (fullS C R).getD k 0 ^^^ by_ ≠ (fullS C R).getD k 0 := by
        intro e
        apply hb
        have h2 : (fullS C R).getD k 0 ^^^ ((fullS C R).getD k 0 ^^^ by_) = (fullS C R).getD k 0 ^^^ (fullS C R).getD k 0 := by rw [e]
        rw [← UInt8.xor_assoc, UInt8.xor_self, UInt8.zero_xor] at h2
        exact h2
      have hk' : k < (fullS C R).length := by omega
      have htk : t[k]? = some ((fullS C R).getD k 0 ^^^ by_) := by rw [← ht, List.getElem?_set_self hk']
      refine ⟨hb, fun ⟨e1, e2⟩ => ?_, ?_⟩
      · have e1' : rdC t = C := Int.natCast_inj.1 e1
        have e2' : rdP t = R := Int.natCast_inj.1 e2
        rw [e1', e2'] at he
        rw [← he] at htk
        have h3 : (fullS C R).getD k 0 = (fullS C R).getD k 0 ^^^ by_ := by
          conv => lhs; rw [List.getD_eq_getElem?_getD, htk]
          rfl
        exact hne h3.symm
      · by_cases hk2 : k < 10 ∨ 13 ≤ k
        · exfalso
          have := full_same (C := C) (R := R) (C' := rdC t) (R' := rdP t) hk2
          rw [he, htk] at this
          have h3 : (fullS C R).getD k 0 = (fullS C R).getD k 0 ^^^ by_ := by
            conv => lhs; rw [List.getD_eq_getElem?_getD, this]
            rfl
          exact hne h3.symm
        · omega
  · left
    have : okS t = false := by simpa using hok
    rw [getS, this]
    rfl
end Go.Proofs.Ytmoebdncmcigaaa

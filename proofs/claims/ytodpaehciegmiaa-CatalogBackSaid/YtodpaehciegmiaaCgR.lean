import Derived.Test.YtodpaehciegmiaaCgQ

/-
  A catalog that is laid is read as it was; a byte more, or less, is none: plain facts.
-/

namespace Go.Proofs.Ytodpaehciegmiaa

open Go Sx

set_option linter.unusedVariables false

set_option linter.unusedSimpArgs false

set_option maxRecDepth 100000

theorem nextS_appR (x r : List UInt8) (n : Nat) (h : x.length = n) : nextS (x ++ r) 0 (n : Int) = (r, 0, x) := by
  subst h
  unfold nextS
  rw [if_neg (by decide), if_neg (by omega), if_neg (by rw [List.length_append]; omega), Int.toNat_natCast, List.drop_left, List.take_left]
theorem bval_beR (k n : Nat) : bval (be k n) = n % 256 ^ k := by
  induction k generalizing n with
  | zero => rw [be, Nat.pow_zero, Nat.mod_one]; rfl
  | succ k ih =>
    rw [be, bval_snoc, ih, Nat.pow_succ, UInt8.toNat_ofNat']
    have h1 := Nat.mod_mul (x := n) (a := 256) (b := 256 ^ k)
    rw [Nat.mul_comm (256 ^ k) 256, h1]
    omega
theorem refS_lay {t : NRef} (ht : RefOk t) (r : List UInt8) : refS (layR t ++ r) 0 = ((r, 0), t) := by
  have e1 : nextS (layR t ++ r) 0 4 = (t.2 ++ r, 0, be 4 t.1) := by
    have := nextS_appR (be 4 t.1) (t.2 ++ r) 4 (be_length 4 t.1)
    rw [← List.append_assoc] at this
    exact this
  have e2 : nextS (t.2 ++ r) 0 32 = (r, 0, t.2) := nextS_appR t.2 r 32 ht.len
  unfold refS
  rw [e1]
  dsimp only
  rw [e2]
  dsimp only
  have e3 : bval (be 4 t.1) = t.1 := by rw [bval_beR]; exact Nat.mod_eq_of_lt ht.at_
  have e4 : pad32 t.2 = t.2 := by unfold pad32; rw [ht.len]; exact List.append_nil _
  rw [e3, e4]
theorem textS_lay {s : ByteArray} (hs : s.size ≤ 16) (r : List UInt8) : textS (textB s ++ r) 0 16 = (r, 0, sbytes s) := by
  have e1 : nextS (textB s ++ r) 0 1 = (sbytes s ++ r, 0, [UInt8.ofNat s.size]) := nextS_appR [UInt8.ofNat s.size] (sbytes s ++ r) 1 rfl
  have e2 : bval [UInt8.ofNat s.size] = s.size := by
    show 0 * 256 + (UInt8.ofNat s.size).toNat = _
    rw [UInt8.toNat_ofNat']
    omega
  unfold textS
  rw [e1]
  dsimp only
  rw [e2, if_neg (by omega)]
  exact nextS_appR (sbytes s) r s.size (sbytes_len s)
theorem stepS_lay {x : NSnap} (hx : SnapOk x) (h16 : x.1.size ≤ 16) (r : List UInt8) (acc : List NSnap) : stepS (putS x ++ r, 0, acc) = (r, 0, acc ++ [x]) := by
  have e1 : textS (putS x ++ r) 0 16 = (layR x.2 ++ r, 0, sbytes x.1) := by
    have := textS_lay h16 (layR x.2 ++ r)
    rw [← List.append_assoc] at this
    exact this
  unfold stepS
  dsimp only
  rw [e1]
  dsimp only
  rw [refS_lay hx.ref]
  rfl
theorem runS_lay : ∀ (l : List NSnap) (r : List UInt8) (acc : List NSnap), SnapsOk l → (∀ x ∈ l, x.1.size ≤ 16) → runS l.length (l.flatMap putS ++ r, 0, acc) = (r, 0, acc ++ l)
  | [], r, acc, _, _ => by rw [List.append_nil]; rfl
  | x :: l, r, acc, h, h2 => by
    rw [List.length_cons, runS_go rfl, List.flatMap_cons, List.append_assoc, stepS_lay (h x (List.mem_cons_self ..)) (h2 x (List.mem_cons_self ..)), runS_lay l r _ (fun y hy => h y (List.mem_cons_of_mem _ hy)) (fun y hy => h2 y (List.mem_cons_of_mem _ hy)), List.append_assoc]
    rfl
/-- What is laid, and anything behind it, is read as it was. -/
theorem read_lay {t : NRef} {l : List NSnap} (ht : RefOk t) (hl : SnapsOk l) (hc : checkC t l = 0) (r : List UInt8) : (refS (putB t l ++ r) 0).2 = t ∧ endS (putB t l ++ r) = (r, 0, l) := by
  obtain ⟨h64, hn, _⟩ := check0 hc
  have h16 : ∀ x ∈ l, x.1.size ≤ 16 := fun x hx => by
    obtain ⟨i, hi, rfl⟩ := List.mem_iff_getElem.1 hx
    exact (nameS_size (names_at hn hi).1).2
  have e0 : putB t l ++ r = layR t ++ (UInt8.ofNat l.length :: (l.flatMap putS ++ r)) := by
    unfold putB putI
    rw [List.take_length]
    simp only [List.append_assoc, List.cons_append, List.nil_append]
  have e1 := refS_lay ht (UInt8.ofNat l.length :: (l.flatMap putS ++ r))
  rw [← e0] at e1
  have e2 : nextS (UInt8.ofNat l.length :: (l.flatMap putS ++ r)) 0 1 = (l.flatMap putS ++ r, 0, [UInt8.ofNat l.length]) := nextS_appR [UInt8.ofNat l.length] _ 1 rfl
  have e3 : bval [UInt8.ofNat l.length] = l.length := by
    show 0 * 256 + (UInt8.ofNat l.length).toNat = _
    rw [UInt8.toNat_ofNat']
    omega
  refine ⟨by rw [e1], ?_⟩
  unfold endS cntS startS
  rw [e1]
  dsimp only
  rw [e2]
  dsimp only
  rw [e3, runS_lay l r [] hl h16]
  rfl
theorem getC_lay {t : NRef} {l : List NSnap} (ht : RefOk t) (hl : SnapsOk l) (hc : checkC t l = 0) : getC (putB t l) = ((t, l), 0) := by
  obtain ⟨e1, e2⟩ := read_lay ht hl hc []
  rw [List.append_nil] at e1 e2
  have := getC_ok (b := putB t l) (by rw [e1, e2]; simp [hc])
  rw [e1, e2] at this
  exact this
theorem getC_more {t : NRef} {l : List NSnap} (ht : RefOk t) (hl : SnapsOk l) (hc : checkC t l = 0) {r : List UInt8} (hr : r ≠ []) : getC (putB t l ++ r) = (noCat, 4) := by
  obtain ⟨e1, e2⟩ := read_lay ht hl hc r
  refine getC_bad (.inr (.inr ?_))
  rw [e1, e2]
  intro e
  have this : (putB t l).length = (putB t l ++ r).length := congrArg List.length e
  rw [List.length_append] at this
  exact hr (List.eq_nil_of_length_eq_zero (by omega))
/-- What is read is laid so. -/
theorem getC_back {b : List UInt8} (h : (getC b).2 = 0) : checkC (getC b).1.1 (getC b).1.2 = 0 ∧ putB (getC b).1.1 (getC b).1.2 = b := by
  by_cases hh : (endS b).2.1 ≠ 0 ∨ checkC (refS b 0).2 (endS b).2.2 ≠ 0 ∨ putB (refS b 0).2 (endS b).2.2 ≠ b
  · rw [getC_bad hh] at h
    cases h
  · rw [getC_ok hh]
    exact ⟨Decidable.byContradiction fun e => hh (.inr (.inl e)), Decidable.byContradiction fun e => hh (.inr (.inr e))⟩
theorem getC_err (b : List UInt8) : (getC b).2 = 0 ∨ getC b = (noCat, 4) := by
  unfold getC
  split
  · exact .inr rfl
  · exact .inl rfl
theorem getC_less {t : NRef} {l : List NSnap} (ht : RefOk t) (hl : SnapsOk l) (hc : checkC t l = 0) {b r : List UInt8} (hb : b.length ≤ 140737488355328) (hr : r ≠ []) (e : b ++ r = putB t l) : getC b = (noCat, 4) := by
  refine (getC_err b).elim (fun h0 => ?_) id
  obtain ⟨h1, h2⟩ := getC_back h0
  obtain ⟨f1, f2, f3⟩ := getC_fine hb
  obtain ⟨-, g1⟩ := read_lay f1 f2 h1 r
  obtain ⟨-, g2⟩ := read_lay ht hl hc []
  rw [h2, e] at g1
  rw [List.append_nil, g1] at g2
  exact absurd (congrArg Prod.fst g2) hr
end Go.Proofs.Ytodpaehciegmiaa

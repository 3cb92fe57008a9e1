import Derived.Test.YtmcdcfbhpdacfaaDoorTab

/-
  Numbers as bytes, in plain Lean; small facts on words that wrap round.
-/

namespace Go.Proofs.YtmcdcfbhpdacfaaDoor

open Go Sx

set_option linter.unusedVariables false

set_option linter.unusedSimpArgs false

/-- The lowest `k` bytes of a number, the greatest first. -/
def be : Nat → Nat → List UInt8
  | 0, _ => []
  | k + 1, n => be k (n / 256) ++ [UInt8.ofNat n]
def bval (l : List UInt8) : Nat := l.foldl (fun n b => n * 256 + b.toNat) 0

theorem be_length (k n : Nat) : (be k n).length = k := by
  induction k generalizing n with
  | zero => rfl
  | succ k ih => simp [be, ih]
theorem be_cons (k n : Nat) : be (k + 1) n = UInt8.ofNat (n / 256 ^ k) :: be k n := by
  induction k generalizing n with
  | zero => simp [be]
  | succ k ih =>
    rw [be, ih, be, List.cons_append, Nat.div_div_eq_div_mul, Nat.pow_succ, Nat.mul_comm]
theorem be_get (k n : Nat) : ∀ i (h : i < (be k n).length), (be k n)[i] = UInt8.ofNat (n / 256 ^ (k - 1 - i)) := by
  induction k generalizing n with
  | zero => intro i h; simp [be] at h
  | succ k ih =>
    intro i h
    have e := be_cons k n
    cases i with
    | zero => simp [e]
    | succ i =>
      have h' : i < (be k n).length := by rw [be_length] at h ⊢; omega
      have := ih n i h'
      simp only [e, List.getElem_cons_succ, this]
      rw [show k + 1 - 1 - (i + 1) = k - 1 - i from by omega]
theorem be_take (m j n : Nat) : (be (m + 1 + j) n).take (j + 1) = (be (m + 1 + j) n).take j ++ [UInt8.ofNat (n / 256 ^ m)] := by
  have hl : j < (be (m + 1 + j) n).length := by rw [be_length]; omega
  rw [List.take_succ_eq_append_getElem hl, be_get, show m + 1 + j - 1 - j = m from by omega]
theorem shrN (n m : Nat) (hm : m ≤ 7) : (n : Int).fdiv (2 ^ min (((8 * m : Nat) : Int)).toNat IntKind.u64.bits) = ((n / 256 ^ m : Nat) : Int) := by
  have h : min (((8 * m : Nat) : Int)).toNat IntKind.u64.bits = 8 * m := by
    have : IntKind.u64.bits = 64 := rfl
    omega
  rw [h, Int.fdiv_eq_ediv_of_nonneg _ (by exact Int.pow_nonneg (by decide))]
  have : (256 : Nat) ^ m = 2 ^ (8 * m) := by rw [Nat.pow_mul]
  rw [this]
  norm_cast
theorem bv_length (l : List UInt8) : (bv l).length = l.length := by simp [bv]
theorem bv_append (l m : List UInt8) : bv (l ++ m) = bv l ++ bv m := by simp [bv]
theorem bv_get {l : List UInt8} {i : Nat} (h : i < l.length) : (bv l)[i]? = some (.int .u8 (l[i].toNat : Int)) := by simp [bv, h]

theorem wrap_u8_nat (n : Nat) : IntKind.u8.wrap (n : Int) = ((UInt8.ofNat n).toNat : Int) := by
  rw [IntKind.wrap_u8]
  simp
theorem shr8 (n : Nat) : (n : Int).fdiv (2 ^ min (8 : Int).toNat IntKind.u64.bits) = ((n / 256 : Nat) : Int) := by
  have h : min (8 : Int).toNat IntKind.u64.bits = 8 := by decide
  rw [h, Int.fdiv_eq_ediv_of_nonneg _ (by decide)]
  norm_cast
theorem zrep_u8 (n : Nat) : zrep ti5.zero n = bv (List.replicate n 0) := by
  simp only [zrep, ti5, vcells, bv, List.map_replicate]
  induction n with
  | zero => rfl
  | succ n ih => rw [List.replicate_succ, List.flatten_cons, ih, List.replicate_succ]; rfl
theorem bv_set (k : Nat) (b : UInt8) (r : List UInt8) : (bv (List.replicate (k + 1) 0 ++ r)).set k (.int .u8 (b.toNat : Int)) = bv (List.replicate k 0 ++ b :: r) := by
  induction k with
  | zero => rfl
  | succ k ih =>
    show Value.int .u8 ((0 : UInt8).toNat : Int) :: (bv (List.replicate (k + 1) 0 ++ r)).set k (.int .u8 (b.toNat : Int)) = Value.int .u8 ((0 : UInt8).toNat : Int) :: bv (List.replicate k 0 ++ b :: r)
    rw [ih]
theorem Sx.Ext.own {S : Nat → Prop} {w w2 w3 : World} {b : Nat} (h : Ext S w w2) (h' : Ext (· = b) w2 w3) (hb : w.heap.size ≤ b) : Ext S w w3 :=
  h.trans' h' (fun _ _ x => x) (fun i hi x => by omega)
theorem Sx.Ext.non {S : Nat → Prop} {w w2 w3 : World} (h : Ext S w w2) (h' : Ext Non w2 w3) : Ext S w w3 :=
  h.trans' h' (fun _ _ x => x) (fun _ _ x => x.elim)
theorem bval_lt (l : List UInt8) : bval l < 256 ^ l.length := by
  have key : ∀ (l : List UInt8) (n : Nat), l.foldl (fun n b => n * 256 + b.toNat) n < (n + 1) * 256 ^ l.length := by
    intro l
    induction l with
    | nil => intro n; simp
    | cons b r ih =>
      intro n
      have h1 := ih (n * 256 + b.toNat)
      have h2 : b.toNat < 256 := b.toNat_lt
      simp only [List.foldl_cons, List.length_cons, Nat.pow_succ]
      have h3 : (n * 256 + b.toNat + 1) * 256 ^ r.length ≤ ((n + 1) * 256) * 256 ^ r.length := Nat.mul_le_mul_right _ (by omega)
      rw [Nat.mul_comm (256 ^ r.length) 256, ← Nat.mul_assoc]
      omega
  simpa [bval] using key l 0
theorem bval_snoc (l : List UInt8) (b : UInt8) : bval (l ++ [b]) = bval l * 256 + b.toNat := by simp [bval]
theorem shl8 (n : Nat) (h : n < 72057594037927936) : IntKind.u64.wrap ((n : Int) * 2 ^ min (8 : Int).toNat IntKind.u64.bits) = ((n * 256 : Nat) : Int) := by
  have h8 : min (8 : Int).toNat IntKind.u64.bits = 8 := by decide
  rw [h8]
  have e : (n : Int) * 2 ^ 8 = ((n * 256 : Nat) : Int) := by norm_cast
  rw [e]
  exact IntWalk.u64_in _ (by omega)
theorem or8 (n b : Nat) (hn : n < 72057594037927936) (hb : b < 256) : bitw .or .u64 ((n * 256 : Nat) : Int) (b : Int) = ((n * 256 + b : Nat) : Int) := by
  have e1 : (BitVec.ofInt IntKind.u64.bits ((n * 256 : Nat) : Int) ||| BitVec.ofInt IntKind.u64.bits (b : Int)).toNat = n * 256 + b := by
    show (BitVec.ofInt 64 ((n * 256 : Nat) : Int) ||| BitVec.ofInt 64 (b : Int)).toNat = n * 256 + b
    rw [BitVec.ofInt_natCast, BitVec.ofInt_natCast, BitVec.toNat_or, BitVec.toNat_ofNat, BitVec.toNat_ofNat, Nat.mod_eq_of_lt (by omega), Nat.mod_eq_of_lt (by omega)]
    have := Nat.shiftLeft_add_eq_or_of_lt (i := 8) hb n
    rw [Nat.shiftLeft_eq] at this
    exact this.symm
  show IntKind.u64.wrap ((BitVec.ofInt IntKind.u64.bits ((n * 256 : Nat) : Int) ||| BitVec.ofInt IntKind.u64.bits (b : Int)).toNat : Int) = _
  rw [e1]
  exact IntWalk.u64_in _ (by omega)
theorem inBlk_none {k : Nat} {p : Prop} (h : inBlk none k) : p := by
  obtain ⟨_, _, e⟩ := h
  cases e
theorem inBlk_some {k b off : Nat} (h : inBlk (some ⟨b, off, none⟩) k) : b = k := by
  obtain ⟨_, _, e⟩ := h
  injection e with e
  injection e
theorem inBlk_sla {A : Option Addr} {l m size k : Nat} (h : inBlk (sla A l m size) k) : inBlk A k := by
  unfold sla at h
  split at h
  · exact h
  · cases A with
    | none => exact inBlk_none h
    | some a =>
      obtain ⟨b, o, s⟩ := a
      obtain ⟨o', s', e⟩ := h
      simp only [Option.map_some, Addr.add] at e
      split at e
      · exact ⟨_, _, e⟩
      · injection e with e
        injection e with e1 _ _
        exact ⟨o, s, by rw [← e1]⟩
end Go.Proofs.YtmcdcfbhpdacfaaDoor

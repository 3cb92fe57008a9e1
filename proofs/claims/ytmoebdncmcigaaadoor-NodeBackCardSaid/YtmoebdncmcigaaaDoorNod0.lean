import Derived.Test.YtmoebdncmcigaaaDoorRef

/-
  Nodes in plain Lean: eight refs, their bytes, and bytes that are a node.
-/

namespace Go.Proofs.YtmoebdncmcigaaaDoor

open Go Sx

set_option linter.unusedVariables false

set_option linter.unusedSimpArgs false

set_option maxRecDepth 100000

def ncs (n : List NRef) : List Value := n.flatMap nv
structure NodeOk (n : List NRef) : Prop where
  len : n.length = 8
  each : ∀ r ∈ n, RefOk r
theorem ncs_cons (r : NRef) (n : List NRef) : ncs (r :: n) = nv r ++ ncs n := rfl
theorem ncs_append (a b : List NRef) : ncs (a ++ b) = ncs a ++ ncs b := by simp [ncs]
theorem ncs_length {n : List NRef} (h : ∀ r ∈ n, RefOk r) : (ncs n).length = n.length * 33 := by
  induction n with
  | nil => rfl
  | cons r t ih =>
    rw [ncs_cons, List.length_append, nv_length (h r (by simp)).len, ih fun q hq => h q (by simp [hq]), List.length_cons]
    omega
theorem ncs_drop {n : List NRef} (h : ∀ r ∈ n, RefOk r) : ∀ i, (ncs n).drop (i * 33) = ncs (n.drop i) := by
  induction n with
  | nil => intro i; simp [ncs]
  | cons r t ih =>
    intro i
    cases i with
    | zero => simp
    | succ i =>
      have hl := nv_length (h r (by simp)).len
      rw [ncs_cons, List.drop_append, hl, List.drop_eq_nil_of_le (by rw [hl]; omega), List.nil_append, show (i + 1) * 33 - 33 = i * 33 from by omega, ih fun q hq => h q (by simp [hq])]
      rfl
theorem ncs_at {n : List NRef} (h : ∀ r ∈ n, RefOk r) {i : Nat} (hi : i < n.length) : ((ncs n).drop (i * 33)).take 33 = nv n[i] := by
  rw [ncs_drop h, List.drop_eq_getElem_cons hi, ncs_cons, List.take_append_of_le_length (by rw [nv_length (h _ (List.getElem_mem hi)).len]; exact Nat.le_refl _), List.take_of_length_le (by rw [nv_length (h _ (List.getElem_mem hi)).len]; exact Nat.le_refl _)]
theorem ncs_get {n : List NRef} (h : ∀ r ∈ n, RefOk r) {i j : Nat} (hi : i < n.length) (hj : j < 33) : (ncs n)[i * 33 + j]? = (nv n[i])[j]? := by
  have e := ncs_at h hi
  rw [← e, List.getElem?_take_of_lt hj, List.getElem?_drop]
theorem one_ncs (n : List NRef) : ∀ v ∈ ncs n, v.oneCell' = true := by
  intro v hv
  obtain ⟨r, _, hr⟩ := List.mem_flatMap.1 hv
  exact one_nv r v hr
/-- A ref of a node set anew. -/
theorem ncs_set {n : List NRef} (h : ∀ r ∈ n, RefOk r) {i : Nat} (hi : i < n.length) {q : NRef} (hq : q.2.length = 32) : ov (ncs n) (i * 33) (nv q) = ncs (n.set i q) := by
  have hl := nv_length hq
  rw [List.set_eq_take_append_cons_drop, if_pos hi, ncs_append, ncs_cons]
  unfold ov
  rw [hl, show i * 33 + 33 = (i + 1) * 33 from by omega, ncs_drop h]
  congr 1
  have e : n = n.take i ++ n.drop i := (List.take_append_drop i n).symm
  have e2 : (ncs (n.take i)).length = i * 33 := by
    rw [ncs_length fun r hr => h r (List.mem_of_mem_take hr), List.length_take]
    rw [Nat.min_eq_left (by omega)]
  conv => lhs; rw [e, ncs_append]
  exact List.take_left' e2
def putN (n : List NRef) : List UInt8 := n.flatMap fun r => be 4 r.1 ++ r.2
theorem putN_take {n : List NRef} {i : Nat} (h : i < n.length) : putN (n.take (i + 1)) = putN (n.take i) ++ be 4 n[i].1 ++ n[i].2 := by
  rw [List.take_succ_eq_append_getElem h, putN, List.flatMap_append]
  simp [putN]
theorem putN_length {n : List NRef} (h : ∀ r ∈ n, RefOk r) : (putN n).length = n.length * 36 := by
  induction n with
  | nil => rfl
  | cons r t ih =>
    have e : putN (r :: t) = (be 4 r.1 ++ r.2) ++ putN t := rfl
    rw [e, List.length_append, List.length_append, be_length, (h r (by simp)).len, ih fun q hq => h q (by simp [hq]), List.length_cons]
    omega
theorem putN_drop {n : List NRef} (h : ∀ r ∈ n, RefOk r) : ∀ i, (putN n).drop (i * 36) = putN (n.drop i) := by
  induction n with
  | nil => intro i; simp [putN]
  | cons r t ih =>
    intro i
    cases i with
    | zero => simp
    | succ i =>
      have e : putN (r :: t) = (be 4 r.1 ++ r.2) ++ putN t := rfl
      have hl : (be 4 r.1 ++ r.2).length = 36 := by rw [List.length_append, be_length, (h r (by simp)).len]
      rw [e, List.drop_append, hl, List.drop_eq_nil_of_le (by rw [hl]; omega), List.nil_append, show (i + 1) * 36 - 36 = i * 36 from by omega, ih fun q hq => h q (by simp [hq])]
      rfl
def emptyN (n : List NRef) : Bool := n.all fun r => decide (r.1 = 0)

/-- The i-th ref of bytes. -/
def refAt (b : List UInt8) (i : Nat) : NRef := (bval ((b.drop (i * 36)).take 4), (b.drop (i * 36 + 4)).take 32)
def parseN (b : List UInt8) : List NRef := (List.range 8).map (refAt b)
def goodR (r : NRef) : Bool := decide (r.1 ≠ 0 ∨ r = noRef)
def okN (b : List UInt8) : Bool := decide (b.length = 288) && (parseN b).all goodR
def noNode : List NRef := List.replicate 8 noRef
theorem noNode_ok : NodeOk noNode := ⟨rfl, fun r hr => by rw [List.eq_of_mem_replicate hr]; exact noRef_ok⟩
def resN (b : List UInt8) : List NRef := if okN b = true then parseN b else noNode
def errN (b : List UInt8) : Int := if okN b = true then 0 else 4
theorem refAt_ok {b : List UInt8} {i : Nat} (h : (i + 1) * 36 ≤ b.length) : RefOk (refAt b i) := by
  refine ⟨?_, ?_⟩
  · have := bval_lt ((b.drop (i * 36)).take 4)
    have hl : ((b.drop (i * 36)).take 4).length ≤ 4 := by rw [List.length_take]; omega
    exact Nat.lt_of_lt_of_le this (Nat.le_trans (Nat.pow_le_pow_right (n := 256) (by decide) hl) (by decide))
  · show ((b.drop (i * 36 + 4)).take 32).length = 32
    rw [List.length_take, List.length_drop]
    omega
theorem parseN_ok {b : List UInt8} (h : b.length = 288) : NodeOk (parseN b) := by
  refine ⟨by simp [parseN], fun r hr => ?_⟩
  obtain ⟨i, hi, rfl⟩ := List.mem_map.1 hr
  have := List.mem_range.1 hi
  exact refAt_ok (by omega)
theorem resN_ok (b : List UInt8) : NodeOk (resN b) := by
  unfold resN
  split
  · rename_i h
    unfold okN at h
    rw [Bool.and_eq_true, decide_eq_true_eq] at h
    exact parseN_ok h.1
  · exact noNode_ok
end Go.Proofs.YtmoebdncmcigaaaDoor

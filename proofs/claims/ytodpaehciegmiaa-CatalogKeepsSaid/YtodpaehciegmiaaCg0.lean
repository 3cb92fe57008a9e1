import Derived.Test.YtodpaehciegmiaaRef

/-
  Catalogs in plain Lean: rows of cells of one length, snapshots, names.
-/

namespace Go.Proofs.Ytodpaehciegmiaa

open Go Sx

set_option linter.unusedVariables false

set_option linter.unusedSimpArgs false

set_option maxRecDepth 100000

section flat

variable {α : Type} {f : α → List Value} {k : Nat}
theorem flat_length {l : List α} (h : ∀ x ∈ l, (f x).length = k) : (l.flatMap f).length = l.length * k := by
  induction l with
  | nil => simp
  | cons r t ih =>
    rw [List.flatMap_cons, List.length_append, h r (by simp), ih fun q hq => h q (by simp [hq]), List.length_cons, Nat.succ_mul]
    omega
theorem flat_drop {l : List α} (h : ∀ x ∈ l, (f x).length = k) : ∀ i, (l.flatMap f).drop (i * k) = (l.drop i).flatMap f := by
  induction l with
  | nil => intro i; simp
  | cons r t ih =>
    intro i
    cases i with
    | zero => simp
    | succ i =>
      have hl := h r (by simp)
      rw [List.flatMap_cons, List.drop_append, hl, List.drop_eq_nil_of_le (by rw [hl, Nat.succ_mul]; omega), List.nil_append, show (i + 1) * k - k = i * k from by rw [Nat.succ_mul]; omega, ih fun q hq => h q (by simp [hq])]
      rfl
theorem flat_take {l : List α} (h : ∀ x ∈ l, (f x).length = k) (i : Nat) (hi : i ≤ l.length) : (l.flatMap f).take (i * k) = (l.take i).flatMap f := by
  have e : l.flatMap f = (l.take i).flatMap f ++ (l.drop i).flatMap f := by rw [← List.flatMap_append, List.take_append_drop]
  rw [e]
  refine List.take_left' ?_
  rw [flat_length fun x hx => h x (List.mem_of_mem_take hx), List.length_take, Nat.min_eq_left hi]
theorem flat_at {l : List α} (h : ∀ x ∈ l, (f x).length = k) {i : Nat} (hi : i < l.length) : ((l.flatMap f).drop (i * k)).take k = f l[i] := by
  have hl := h _ (List.getElem_mem hi)
  rw [flat_drop h, List.drop_eq_getElem_cons hi, List.flatMap_cons, List.take_append_of_le_length (by omega), List.take_of_length_le (by omega)]
theorem flat_get {l : List α} (h : ∀ x ∈ l, (f x).length = k) {i j : Nat} (hi : i < l.length) (hj : j < k) : (l.flatMap f)[i * k + j]? = (f l[i])[j]? := by
  rw [← flat_at h hi, List.getElem?_take_of_lt hj, List.getElem?_drop]
end flat

abbrev NSnap := ByteArray × NRef
def sv (x : NSnap) : List Value := .string x.1 :: nv x.2
def svs (l : List NSnap) : List Value := l.flatMap sv
structure SnapOk (x : NSnap) : Prop where
  ref : RefOk x.2
  size : x.1.size ≤ 9223372036854775807
theorem sv_length {x : NSnap} (h : x.2.2.length = 32) : (sv x).length = 34 := by rw [sv, List.length_cons, nv_length h]
abbrev SnapsOk (l : List NSnap) : Prop := ∀ x ∈ l, SnapOk x
theorem SnapsOk.len {l : List NSnap} (h : SnapsOk l) : ∀ x ∈ l, (sv x).length = 34 := fun x hx => sv_length (h x hx).ref.len
theorem svs_length {l : List NSnap} (h : SnapsOk l) : (svs l).length = l.length * 34 := flat_length h.len
theorem one_sv (x : NSnap) : ∀ v ∈ sv x, v.oneCell' = true := by
  intro v hv
  rcases List.mem_cons.1 hv with rfl | hv
  · rfl
  · exact one_nv _ v hv
theorem one_svs (l : List NSnap) : ∀ v ∈ svs l, v.oneCell' = true := by
  intro v hv
  obtain ⟨x, _, hx⟩ := List.mem_flatMap.1 hv
  exact one_sv x v hx
theorem svs_append (a b : List NSnap) : svs (a ++ b) = svs a ++ svs b := by simp [svs]
/-- A snapshot's cells in a row of snapshots. -/
theorem rows_at {w : World} {A : Option Addr} {l : List NSnap} (h : Cells w A (svs l)) (hl : SnapsOk l) {i : Nat} (hi : i < l.length) :
    ∃ b off, A = some ⟨b, off, none⟩ ∧ ∀ j (hj : j < (sv l[i]).length), w.cell? ⟨b, off + i * 34 + j, none⟩ = some (sv l[i])[j] := by
  have hlen := svs_length hl
  rcases h with e | ⟨b, off, rfl, h⟩
  · rw [e] at hlen
    simp at hlen
    omega
  · refine ⟨b, off, rfl, fun j hj => ?_⟩
    have hl34 := hl.len _ (List.getElem_mem hi)
    have hb : i * 34 + j < (svs l).length := by omega
    have := h (i * 34 + j) hb
    rw [show off + i * 34 + j = off + (i * 34 + j) from by omega, this]
    have e := flat_get hl.len hi (j := j) (by omega)
    rw [List.getElem?_eq_getElem hj] at e
    rw [← e]
    exact (List.getElem?_eq_getElem hb).symm
/-- A ref that may be. -/
def goodT (r : NRef) : Bool := decide (r.1 ≠ 0 ∨ r = noRef)
/-- A catalog's value. -/
def catV (t : NRef) (A : Option Addr) (n c : Nat) : Value := .agg (nv t ++ [Value.slice A n c]).toArray
structure CatAt (w : World) (t : NRef) (A : Option Addr) (c : Nat) (l : List NSnap) : Prop where
  top : RefOk t
  snaps : SnapsOk l
  row : Cells w A (svs l)
  cap : l.length ≤ c
theorem CatAt.ext {w w' : World} {t : NRef} {A : Option Addr} {c : Nat} {l : List NSnap} (h : CatAt w t A c l) (he : Ext Non w w') : CatAt w' t A c l := ⟨h.top, h.snaps, h.row.ext he (fun _ _ x => x), h.cap⟩

def okB (b : UInt8) : Bool := decide (33 ≤ b.toNat ∧ b.toNat ≤ 126)
def nameS (s : ByteArray) : Bool := decide (1 ≤ s.size ∧ s.size ≤ 16) && s.data.toList.all okB
/-- a comes ahead of b. -/
def lessS (a b : ByteArray) : Bool := Op.bytesLess a.toList b.toList
theorem less_cons (a b : UInt8) (x y : List UInt8) : Op.bytesLess (a :: x) (b :: y) = true ↔ a < b ∨ (a = b ∧ Op.bytesLess x y = true) := by
  simp [Op.bytesLess]
theorem less_irrefl (l : List UInt8) : Op.bytesLess l l = false := by
  induction l with
  | nil => rfl
  | cons x r ih =>
    cases h : Op.bytesLess (x :: r) (x :: r)
    · rfl
    · rcases (less_cons _ _ _ _).1 h with h | ⟨_, h⟩
      · exact absurd h (UInt8.lt_irrefl x)
      · rw [ih] at h
        cases h
theorem less_total : ∀ a b : List UInt8, Op.bytesLess a b = true ∨ a = b ∨ Op.bytesLess b a = true
  | [], [] => .inr (.inl rfl)
  | [], _ :: _ => .inl rfl
  | _ :: _, [] => .inr (.inr rfl)
  | a :: x, b :: y => by
    rcases Nat.lt_trichotomy a.toNat b.toNat with h | h | h
    · exact .inl ((less_cons _ _ _ _).2 (.inl (UInt8.lt_iff_toNat_lt.2 h)))
    · have e : a = b := UInt8.toNat_inj.1 h
      subst e
      rcases less_total x y with h1 | rfl | h1
      · exact .inl ((less_cons _ _ _ _).2 (.inr ⟨rfl, h1⟩))
      · exact .inr (.inl rfl)
      · exact .inr (.inr ((less_cons _ _ _ _).2 (.inr ⟨rfl, h1⟩)))
    · exact .inr (.inr ((less_cons _ _ _ _).2 (.inl (UInt8.lt_iff_toNat_lt.2 h))))
theorem less_trans : ∀ {a b c : List UInt8}, Op.bytesLess a b = true → Op.bytesLess b c = true → Op.bytesLess a c = true
  | _, [], _, h1, h2 => by
    rename_i a c
    cases a <;> simp [Op.bytesLess] at h1
  | _, _ :: _, [], h1, h2 => by simp [Op.bytesLess] at h2
  | [], _ :: _, _ :: _, _, _ => rfl
  | a :: x, b :: y, c :: z, h1, h2 => by
    rcases (less_cons _ _ _ _).1 h1 with p1 | ⟨e1, p1⟩
    · rcases (less_cons _ _ _ _).1 h2 with p2 | ⟨e2, p2⟩
      · exact (less_cons _ _ _ _).2 (.inl (UInt8.lt_trans p1 p2))
      · exact (less_cons _ _ _ _).2 (.inl (e2 ▸ p1))
    · rcases (less_cons _ _ _ _).1 h2 with p2 | ⟨e2, p2⟩
      · exact (less_cons _ _ _ _).2 (.inl (e1 ▸ p2))
      · exact (less_cons _ _ _ _).2 (.inr ⟨e1.trans e2, less_trans p1 p2⟩)
theorem less_asymm {a b : List UInt8} (h : Op.bytesLess a b = true) : Op.bytesLess b a = false := by
  cases h2 : Op.bytesLess b a
  · rfl
  · have := less_trans h h2
    rw [less_irrefl] at this
    cases this
theorem bytes_eq {a b : ByteArray} : a.toList = b.toList ↔ a = b := by
  rw [toList_bytes, toList_bytes]
  constructor
  · intro h
    cases a
    cases b
    simp only at h
    exact congrArg _ (Array.ext' h)
  · intro h
    rw [h]
/-- not: a is at most b. -/
theorem leq_less (a b : ByteArray) : (Op.bytesLess a.toList b.toList || decide (a = b)) = !lessS b a := by
  unfold lessS
  rcases less_total a.toList b.toList with h | h | h
  · rw [h, less_asymm h]
    rfl
  · have e := bytes_eq.1 h
    subst e
    rw [less_irrefl, decide_eq_true rfl]
    rfl
  · rw [h, less_asymm h]
    have hne : ¬ a = b := fun e => by
      subst e
      rw [less_irrefl] at h
      cases h
    rw [decide_eq_false hne]
    rfl
theorem lessS_trans {a b c : ByteArray} (h : lessS a b = true) (h2 : lessS b c = true) : lessS a c = true := less_trans h h2
theorem lessS_asymm {a b : ByteArray} (h : lessS a b = true) : lessS b a = false := less_asymm h
theorem lessS_irrefl (a : ByteArray) : lessS a a = false := less_irrefl _
theorem lessS_total (a b : ByteArray) : lessS a b = true ∨ a = b ∨ lessS b a = true := (less_total a.toList b.toList).imp id (.imp bytes_eq.1 id)
/-- A name comes behind the empty text. -/
theorem less_empty {s : ByteArray} (h : 1 ≤ s.size) : lessS ⟨#[]⟩ s = true := by
  unfold lessS
  rw [toList_bytes, toList_bytes]
  have hl : s.data.toList.length = s.size := by simp
  cases hs : s.data.toList with
  | nil => rw [hs] at hl; simp at hl; omega
  | cons x r => rfl

/-- The i-th snapshot's name may stand there. -/
def okAt (l : List NSnap) (i : Nat) : Bool := match l[i]? with
  | some x => nameS x.1 && (match i with
    | 0 => true
    | j + 1 => match l[j]? with
      | some y => lessS y.1 x.1
      | none => false)
  | none => false
def namesOk (l : List NSnap) : Bool := (List.range l.length).all (okAt l)
def topsOk (t : NRef) (l : List NSnap) : Bool := goodT t && l.all fun x => goodT x.2
def checkC (t : NRef) (l : List NSnap) : Int := if 64 < l.length then 45 else if namesOk l = false then 44 else if topsOk t l = false then 2 else 0
theorem namesOk_false {l : List NSnap} {i : Nat} (hi : i < l.length) (h : okAt l i = false) : namesOk l = false := by
  cases hn : namesOk l
  · rfl
  · have := List.all_eq_true.1 hn i (List.mem_range.2 hi)
    rw [h] at this
    cases this
theorem namesOk_true {l : List NSnap} (h : ∀ i, i < l.length → okAt l i = true) : namesOk l = true := List.all_eq_true.2 fun i hi => h i (List.mem_range.1 hi)
theorem okAt_eq {l : List NSnap} {i : Nat} (hi : i < l.length) : okAt l i = (nameS l[i].1 && (if h : i = 0 then true else lessS (l[i - 1]'(by omega)).1 l[i].1)) := by
  unfold okAt
  rw [List.getElem?_eq_getElem hi]
  cases i with
  | zero => rfl
  | succ j =>
    simp only
    rw [List.getElem?_eq_getElem (show j < l.length by omega)]
    simp
end Go.Proofs.Ytodpaehciegmiaa

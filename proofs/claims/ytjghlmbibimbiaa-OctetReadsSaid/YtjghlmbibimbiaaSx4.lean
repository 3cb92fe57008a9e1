
/-
  The conditions of an operation that reads memory at most are sound.
-/
import Derived.Test.YtjghlmbibimbiaaSx3

import Derived.Laws.BytesArg

namespace Go.Proofs.Ytjghlmbibimbiaa.Sx

open Go

set_option linter.unusedVariables false

set_option linter.unusedSimpArgs false

def Agree (l : Env) (ρ : Operand → Value) : Prop := ∀ x v, evl l x = some v → ρ x = v
theorem Fr.agree {n : Nat} {l : Env} {a : Act} (h : Fr n l a) : Agree l a.eval := fun _ _ hx => h.eval hx
theorem Agree.evls {l : Env} {ρ : Operand → Value} (h : Agree l ρ) : ∀ {xs : List Operand} {vs : List Value}, evls l xs = some vs → xs.map ρ = vs
  | [], vs, hx => by simpa [Sx.evls] using hx
  | x :: xs, vs, hx => by
    unfold Sx.evls at hx
    cases h1 : evl l x with
    | none => simp [h1] at hx
    | some v =>
      cases h2 : Sx.evls l xs with
      | none => simp [h1, h2] at hx
      | some us =>
        simp [h1, h2] at hx
        subst hx
        simp [h _ _ h1, h.evls h2]

section types

variable {P : Program} {t : Nat} {sz by_ : Nat} {z : Value}
theorem descTy_int {d : TypeDesc} {k : IntKind} (h : descTy d = .int k) : d = .int k := by cases d <;> simp_all [descTy]
theorem descTy_bool {d : TypeDesc} (h : descTy d = .bool) : d = .bool := by cases d <;> simp_all [descTy]
theorem descTy_string {d : TypeDesc} (h : descTy d = .string) : d = .string := by cases d <;> simp_all [descTy]
theorem descTy_slice {d : TypeDesc} {e : Nat} (h : descTy d = .slice e) : d = .slice e := by cases d <;> simp_all [descTy]
theorem descTy_ptr {d : TypeDesc} {e : Nat} (h : descTy d = .ptr e) : d = .pointer e := by cases d <;> simp_all [descTy]
theorem descTy_array {d : TypeDesc} {n e : Nat} (h : descTy d = .array n e) : d = .array n e := by cases d <;> simp_all [descTy]
theorem descTy_struct {d : TypeDesc} {fs : List (Nat × Nat)} (h : descTy d = .struct fs) : ∃ f, d = .struct f ∧ f.toList.map (fun f => (f.offset, f.type)) = fs := by
  cases d <;> simp_all [descTy]
theorem TIok.und {ti : TI} (h : TIok P t ti) : ∃ d, P.underlying t = some d ∧ descTy d = ti.ty := Option.map_eq_some_iff.1 h.ty
theorem TIok.int {k : IntKind} (h : TIok P t ⟨.int k, sz, by_, z⟩) : P.underlying t = some (.int k) := by obtain ⟨d, h1, h2⟩ := h.und; rw [h1, descTy_int h2]
theorem TIok.bool (h : TIok P t ⟨.bool, sz, by_, z⟩) : P.underlying t = some .bool := by obtain ⟨d, h1, h2⟩ := h.und; rw [h1, descTy_bool h2]
theorem TIok.string (h : TIok P t ⟨.string, sz, by_, z⟩) : P.underlying t = some .string := by obtain ⟨d, h1, h2⟩ := h.und; rw [h1, descTy_string h2]
theorem TIok.slice {e : Nat} (h : TIok P t ⟨.slice e, sz, by_, z⟩) : P.underlying t = some (.slice e) := by obtain ⟨d, h1, h2⟩ := h.und; rw [h1, descTy_slice h2]
theorem TIok.ptr {e : Nat} (h : TIok P t ⟨.ptr e, sz, by_, z⟩) : P.underlying t = some (.pointer e) := by obtain ⟨d, h1, h2⟩ := h.und; rw [h1, descTy_ptr h2]
theorem TIok.array {n e : Nat} (h : TIok P t ⟨.array n e, sz, by_, z⟩) : P.underlying t = some (.array n e) := by obtain ⟨d, h1, h2⟩ := h.und; rw [h1, descTy_array h2]
theorem TIok.struct {fs : List (Nat × Nat)} (h : TIok P t ⟨.struct fs, sz, by_, z⟩) : ∃ f, P.underlying t = some (.struct f) ∧ f.toList.map (fun f => (f.offset, f.type)) = fs := by
  obtain ⟨d, h1, h2⟩ := h.und
  obtain ⟨f, rfl, hf⟩ := descTy_struct h2
  exact ⟨f, h1, hf⟩
theorem TIok.get {ti : TI} (h : TIok P t ti) : ∃ i, P.info? t = some i ∧ i.size = ti.size ∧ i.bytes = ti.bytes ∧ i.zero = some ti.zero := by
  obtain ⟨i, h1, h2⟩ := Option.map_eq_some_iff.1 h.info
  simp only [Prod.mk.injEq] at h2
  exact ⟨i, h1, h2.1, h2.2.1, h2.2.2⟩
theorem TIok.run_size {ti : TI} (h : TIok P t ti) (w : World) : (sizeOf t).run P w = .ok ti.size w := by
  obtain ⟨i, h1, h2, _⟩ := h.get
  simp [sizeOf, typeInfo, h1, h2]
theorem TIok.run_zero {ti : TI} (h : TIok P t ti) (w : World) : (zeroValue t).run P w = .ok ti.zero w := by
  obtain ⟨i, h1, _, _, h2⟩ := h.get
  simp [zeroValue, typeInfo, h1, h2]
theorem TIok.run_agg {ti : TI} (h : TIok P t ti) (w : World) : (isAgg t).run P w = .ok (isAggT ti.ty) w := by
  obtain ⟨d, h1, h2⟩ := h.und
  simp only [isAgg, Sem.run_bind, run_underlying h1, Result.andThen_ok]
  rw [← h2]
  cases d <;> simp [descTy, isAggT]
end types

theorem add_none (b o n : Nat) : (⟨b, o, none⟩ : Addr).add n = ⟨b, o + n, none⟩ := by unfold Addr.add; split <;> simp_all

/-- What `Bs` says of the whole slice: it reads as that string. -/
theorem run_bytes {P : Program} {s d e : TypeId} (hs : P.underlying s = some (.slice e)) (he : P.underlying e = some (.int .u8)) (hd : P.underlying d = some .string)
    {w : World} {A : Option Addr} {l : List UInt8} (h : Bs w A l) (c : Nat) : (convert s d (.slice A l.length c)).run P w = .ok (.string ⟨l.toArray⟩) w := by
  have key : strOfNums (l.map fun b => (b.toNat : Int)) = ⟨l.toArray⟩ := by
    simp only [strOfNums, List.map_map]
    congr 2
    conv => rhs; rw [← List.map_id l]
    refine List.map_congr_left fun b _ => ?_
    simp
  rcases h with rfl | ⟨b, off, rfl, hc⟩
  · cases A with
    | none => exact run_convert_bytes_nil w s e hs he 0 c d hd
    | some a =>
      rw [run_convert_bytes_string w s d e _ [].length c hs he hd]
      simp [Conv.bytesToString, loadCells, loadCellsFrom]
      rfl
  · rw [run_convert_bytes_arg w s e hs he b off l.length c (l.map fun b => (b.toNat : Int)) (by simp) (fun i hi => by rw [hc i hi]; simp [hi]) d hd, key]

/-- A pure operation: the same whatever the world. -/
theorem pureR {P : Program} {m : Md} {w : World} {s : Sem Next} {v : Value} (h : ∀ w', s.run P w' = .ok (.value v) w') : m.R w (fun w' => s.run P w' = .ok (.value v) w') := Md.R_all h

section

variable {P : Program} {w : World}
theorem bitw_and (k : IntKind) (x y : Int) : (Op.intBits .and k x y).run P w = .ok (.int k (bitw .and k x y)) w := rfl
theorem bitw_or (k : IntKind) (x y : Int) : (Op.intBits .or k x y).run P w = .ok (.int k (bitw .or k x y)) w := rfl
theorem bitw_xor (k : IntKind) (x y : Int) : (Op.intBits .xor k x y).run P w = .ok (.int k (bitw .xor k x y)) w := rfl
theorem bitw_andNot (k : IntKind) (x y : Int) : (Op.intBits .andNot k x y).run P w = .ok (.int k (bitw .andNot k x y)) w := rfl
end

theorem int_sound {P : Program} {op : BinOp} {k : IntKind} {a b : Int} {K : Value → Prop} (h : intVC op k a b K) (hsh : op ≠ .shl) (hsr : op ≠ .shr) :
    ∃ v, (∀ t w, (binOp op t (.int k a) (.int k b)).run P w = .ok v w) ∧ K v := by
  cases op <;> simp only [intVC] at h <;> simp only [binOp, ne_eq, not_true_eq_false, if_false]
  case add => exact ⟨_, fun _ w => rfl, h.out⟩
  case sub => exact ⟨_, fun _ w => rfl, h.out⟩
  case mul => exact ⟨_, fun _ w => rfl, h.out⟩
  case quo => exact ⟨_, fun _ w => by simp [Op.intDiv, h.h], h.k.out⟩
  case rem => exact ⟨_, fun _ w => by simp [Op.intDiv, h.h], h.k.out⟩
  case and => exact ⟨_, fun _ w => rfl, h.out⟩
  case or => exact ⟨_, fun _ w => rfl, h.out⟩
  case xor => exact ⟨_, fun _ w => rfl, h.out⟩
  case andNot => exact ⟨_, fun _ w => rfl, h.out⟩
  case eql => exact ⟨_, fun _ w => by simp [Op.intCmp]; rfl, h.out⟩
  case neq => exact ⟨_, fun _ w => by simp only [Op.intCmp, bne, Sem.run_pure]; congr 2; by_cases e : a = b <;> simp [e], h.out⟩
  case lss => exact ⟨_, fun _ w => rfl, h.out⟩
  case leq => exact ⟨_, fun _ w => rfl, h.out⟩
  case gtr => exact ⟨_, fun _ w => rfl, h.out⟩
  case geq => exact ⟨_, fun _ w => rfl, h.out⟩

theorem toList_bytes (a : ByteArray) : a.toList = a.data.toList := ByteArray.toList_eq a
theorem beq_bytes (a b : ByteArray) : (a.toList == b.toList) = decide (a = b) := by
  rw [toList_bytes, toList_bytes]
  by_cases h : a = b
  · subst h; simp
  · have h1 : ¬ (a.data.toList = b.data.toList) := fun e => h (by cases a; cases b; simp only at e; exact congrArg _ (Array.ext' e))
    rw [decide_eq_false h]
    exact beq_eq_false_iff_ne.2 h1
theorem str_sound {P : Program} {op : BinOp} {a b : ByteArray} {K : Value → Prop} (h : strVC op a b K) :
    ∃ v, (∀ t w, (binOp op t (.string a) (.string b)).run P w = .ok v w) ∧ K v := by
  have hb := beq_bytes a b
  cases op <;> simp only [strVC] at h <;> simp only [binOp]
  case add =>
    refine ⟨_, fun _ w => ?_, h.k.out⟩
    have h1 : ¬ ((a.size + b.size : Nat) : Int) > IntKind.i64.max := by
      have := h.h
      simp only [IntKind.max, IntKind.bits, IntKind.signed]
      simp
      omega
    simp only [Op.stringOp, if_neg h1]
    rfl
  case eql => exact ⟨_, fun _ w => by simp only [Op.stringOp, hb]; rfl, h.out⟩
  case neq => exact ⟨_, fun _ w => by simp only [Op.stringOp, hb, Sem.run_pure]; congr 2; by_cases e : a = b <;> simp [e], h.out⟩
  case lss => exact ⟨_, fun _ w => rfl, h.out⟩
  case leq => exact ⟨_, fun _ w => by simp only [Op.stringOp, hb]; rfl, h.out⟩
  case gtr => exact ⟨_, fun _ w => by simp only [Op.stringOp, hb]; rfl, h.out⟩
  case geq => exact ⟨_, fun _ w => rfl, h.out⟩
  all_goals exact h.elim
end Go.Proofs.Ytjghlmbibimbiaa.Sx

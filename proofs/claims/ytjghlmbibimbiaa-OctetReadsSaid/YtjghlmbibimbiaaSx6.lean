
/-
  The conditions of an operation that reads memory at most are sound: parts, bounds, what is filled; the theorem.
-/
import Derived.Test.YtjghlmbibimbiaaSx5

namespace Go.Proofs.Ytjghlmbibimbiaa.Sx

open Go

set_option linter.unusedVariables false

set_option linter.unusedSimpArgs false

theorem vcells_eq (v : Value) : v.cells.toList = vcells v := by cases v <;> rfl
theorem ov_nil (cells : List Value) (n : Nat) : ov cells n [] = cells := by simp [ov]
theorem fold_ov (vs : List Value) : ∀ (k off : Nat) (cells : List Value), off + k + vs.length ≤ cells.length →
    (vs.zipIdx k).foldl (fun (cs : Array Value) (p : Value × Nat) => cs.setIfInBounds (off + p.2) p.1) cells.toArray = (ov cells (off + k) vs).toArray := by
  induction vs with
  | nil => intro k off cells _; simp [ov_nil]
  | cons v r ih =>
    intro k off cells h
    simp only [List.length_cons] at h
    simp only [List.zipIdx_cons, List.foldl_cons]
    rw [List.setIfInBounds_toArray, ih (k + 1) off (cells.set (off + k) v) (by simp; omega)]
    congr 1
    simp only [ov, List.length_cons]
    have h1 : (cells.set (off + k) v).take (off + (k + 1)) = cells.take (off + k) ++ [v] := by
      rw [show off + (k + 1) = (off + k) + 1 from by omega, List.take_succ_eq_append_getElem (by simp; omega)]
      simp [List.take_set_of_le]
    have h2 : (cells.set (off + k) v).drop (off + (k + 1) + r.length) = cells.drop (off + k + (r.length + 1)) := by
      rw [List.drop_set_of_lt (by omega)]
      congr 1
      omega
    rw [h1, h2]
    simp
theorem fill_sound {place : Nat → Option (Nat × Nat)} : ∀ (parts : List (Nat × Value)) (cells : List Value) {K : List Value → Prop}, fillVC place cells parts K →
    ∃ cs, Instr.fill place cells.toArray parts = some cs.toArray ∧ K cs
  | [], cells, K, h => ⟨cells, rfl, h.out⟩
  | (i, v) :: r, cells, K, h => by
    unfold fillVC at h
    unfold Instr.fill
    split at h
    · exact h.elim
    · rename_i off size hp
      rw [hp]
      obtain ⟨cs, h1, h2⟩ := fill_sound r _ h.k.out
      have hl : v.cells.size = size := by rw [← h.h.1, ← vcells_eq]; rfl
      have hle := h.h.2
      refine ⟨cs, ?_, h2⟩
      simp only []
      rw [if_neg (by simp [hl]; omega)]
      rw [← h1]
      congr 1
      have := fold_ov v.cells.toList 0 off cells (by simp [hl]; omega)
      simp only [Nat.add_zero, vcells_eq] at this
      rw [← this, ← vcells_eq, ← Array.foldl_toList, Array.toList_zipIdx]

section

variable {P : Program} {tab : Tab} {l : Env} {ρ : Operand → Value}

theorem part_sound {ft : Nat} {fi : TI} (ht : TIok P ft fi) {cs : Array Value} {off : Nat} {K : Value → Prop} (h : partVC fi cs.toList off K) : ∃ v, (∀ w, (part ft cs off).run P w = .ok v w) ∧ K v := by
  unfold partVC at h
  split at h
  · rename_i ha
    refine ⟨_, fun w => ?_, h.out⟩
    simp only [part, Sem.run_bind, ht.run_agg, ha, Result.andThen_ok, if_true, ht.run_size]
    simp only [Sem.run_pure]
    congr 2
    apply Array.ext'
    simp
  · rename_i ha
    split at h
    · rename_i v hv
      refine ⟨v, fun w => ?_, h⟩
      rw [nth_eq] at hv
      have hv' : cs[off]? = some v := by simpa using hv
      simp [part, ht.run_agg, ha, hv']
    · exact h.elim

def OptB (ρ : Operand → Value) (x : Option Operand) (top dflt i : Nat) : Prop :=
  match x with
  | none => i = dflt
  | some x => ∃ k z, ρ x = .int k z ∧ 0 ≤ z ∧ z ≤ (top : Int) ∧ i = z.toNat
theorem bound_sound (hρ : Agree l ρ) {x : Option Operand} {top dflt : Nat} {K : Nat → Prop} (h : boundVC l x top dflt K) :
    ∃ i, K i ∧ OptB ρ x top dflt i := by
  unfold boundVC at h
  cases x with
  | none => exact ⟨_, h, rfl⟩
  | some x =>
    simp only [] at h
    split at h
    · rename_i hx
      exact ⟨_, h.k.out, _, _, hρ _ _ hx, h.h.1, h.h.2, rfl⟩
    · exact h.elim
theorem run_bound (k : IntKind) {z : Int} {y : Nat} {c : BoundsCode} (h0 : 0 ≤ z) (h1 : z ≤ (y : Int)) (w : World) : (Instr.sliceBound (.int k z) y c).run P w = .ok z.toNat w := by
  simp [Instr.sliceBound, asIntOf, h0, h1]

theorem low_sound (hρ : Agree l ρ) {x : Option Operand} {A : Option Addr} {h m size : Nat} {K : Value → Prop} (hv : lowVC l x A h m size K) :
    ∃ j, K (.slice (if m = j then A else A.map (·.add (j * size))) (h - j) (m - j)) ∧ OptB ρ x h 0 j := by
  unfold lowVC at hv
  cases x with
  | none =>
    refine ⟨0, ?_, rfl⟩
    have : (if m = 0 then A else A.map (·.add (0 * size))) = A := by
      split
      · rfl
      · cases A <;> simp [Addr.add]
    rw [this]
    exact hv
  | some x =>
    simp only [] at hv
    split at hv
    · rename_i hx
      exact ⟨_, hv.k.out.out, _, _, hρ _ _ hx, hv.h.1, hv.h.2, rfl⟩
    · exact hv.elim

theorem run_sliceBounds (isS : Bool) {len cap : Nat} {lo hi mx : Option Operand} (hne : ¬ (hi = none ∧ mx.isSome)) {m h j : Nat}
    (hm : OptB ρ mx cap cap m) (hh : OptB ρ hi m len h) (hj : OptB ρ lo h 0 j) (w : World) :
    (Instr.sliceBounds isS len cap (lo.map ρ) (hi.map ρ) (mx.map ρ)).run P w = .ok (j, h, m) w := by
  unfold Instr.sliceBounds
  unfold OptB at hm hh hj
  cases mx with
  | none =>
    subst hm
    cases hi with
    | none =>
      subst hh
      cases lo with
      | none => subst hj; simp
      | some x => obtain ⟨k, z, e, h0, h1, rfl⟩ := hj; simp [e, run_bound k h0 h1]
    | some y =>
      obtain ⟨k, z, e, h0, h1, rfl⟩ := hh
      cases lo with
      | none => subst hj; simp [e, run_bound k h0 h1]
      | some x => obtain ⟨k', z', e', h0', h1', rfl⟩ := hj; simp [e, run_bound k h0 h1, e', run_bound k' h0' h1']
  | some x =>
    obtain ⟨k, z, e, h0, h1, rfl⟩ := hm
    cases hi with
    | none => exact absurd ⟨rfl, rfl⟩ hne
    | some y =>
      obtain ⟨k2, z2, e2, h02, h12, rfl⟩ := hh
      cases lo with
      | none => subst hj; simp [e, run_bound k h0 h1, e2, run_bound k2 h02 h12]
      | some x => obtain ⟨k', z', e', h0', h1', rfl⟩ := hj; simp [e, run_bound k h0 h1, e2, run_bound k2 h02 h12, e', run_bound k' h0' h1']

theorem evparts_sound (hρ : Agree l ρ) : ∀ {ps : List (Nat × Operand)} {vs : List (Nat × Value)}, evparts l ps = some vs → ps.map (fun p => (p.1, ρ p.2)) = vs
  | [], vs, h => by simpa [evparts] using h
  | (i, x) :: r, vs, h => by
    unfold evparts at h
    cases h1 : evl l x with
    | none => simp [h1] at h
    | some v =>
      cases h2 : evparts l r with
      | none => simp [h1, h2] at h
      | some us =>
        simp [h1, h2] at h
        subst h
        simp [hρ _ _ h1, evparts_sound hρ h2]

theorem places_sound (hT : TabOk P tab) (f : List Field) (hall : allIn tab (f.map (fun f => (f.offset, f.type))) = true) (w : World) :
    ∃ pl : List (Nat × Nat), (f.mapM fun f => (do pure (f.offset, ← sizeOf f.type) : Sem (Nat × Nat))).run P w = .ok pl w ∧
      (∀ i, pl[i]? = structPlace tab (f.map (fun f => (f.offset, f.type))) i) := by
  induction f with
  | nil => exact ⟨[], rfl, fun i => by simp [structPlace, nth]⟩
  | cons x r ih =>
    simp only [List.map_cons, allIn] at hall
    cases hx : tlook x.type tab with
    | none => simp [hx] at hall
    | some ti =>
      simp only [hx] at hall
      obtain ⟨pl, h1, h2⟩ := ih hall
      refine ⟨(x.offset, ti.size) :: pl, ?_, fun i => ?_⟩
      · simp only [List.mapM_cons, Sem.run_bind, (hT _ _ hx).run_size, Result.andThen_ok, Sem.run_pure]
        rw [h1]
        rfl
      · cases i with
        | zero => simp [structPlace, nth, hx]
        | succ i =>
          have := h2 i
          simp only [structPlace, List.map_cons, nth] at this ⊢
          simpa using this
end

end Go.Proofs.Ytjghlmbibimbiaa.Sx

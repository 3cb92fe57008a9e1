
/-
  A region whose order is open: an operation that yields the same value in every later world may be taken first.
-/
import Derived.Test.YtjghlmbibimbiaaSx1

import Derived.OrdersHeld

namespace Go.Proofs.Ytjghlmbibimbiaa.Sx

open Go

set_option linter.unusedVariables false

set_option linter.unusedSimpArgs false

section

variable {P : Program} {ops : Array Oper} {Q : Exit → Act → World → Prop} {md : Region.Mode} {T : World → World → Prop}
/-- What an operation that is listed waits for is listed. -/
def Down (md : Region.Mode) (ops : Array Oper) (listed : Array Bool) : Prop := listed.size = ops.size ∧ ∀ (k : Nat) (o : Oper), ops[k]? = some o → listed.getD k false = true → ∀ e ∈ o.after, Region.binds md e = true → listed.getD e.on false = true
/-- Number i waits for all others, at once or through others. -/
def Last (md : Region.Mode) (ops : Array Oper) (i : Nat) : Prop := ∀ listed, Down md ops listed → i ∈ Region.ready md ops listed → ∀ k, k < ops.size → k ≠ i → listed.getD k false = true
theorem getD_same {l : Array Bool} {k : Nat} (h : k < l.size) (a b : Bool) : l.getD k a = l.getD k b := by simp [Array.getD, h]
theorem Down.size_lt {listed : Array Bool} {e : Nat} (h : listed.getD e false = true) : e < listed.size := by
  rcases Nat.lt_or_ge e listed.size with h' | h'
  · exact h'
  · simp [Array.getD, Nat.not_lt.2 h'] at h
theorem ready_dep {i : Nat} {listed : Array Bool} {oi : Oper} (hs : listed.size = ops.size) (h : i ∈ Region.ready md ops listed) (ho : ops[i]? = some oi) : ∀ e ∈ oi.after, Region.binds md e = true → listed.getD e.on false = true := by
  obtain ⟨_, o, ho', hall⟩ := mem_ready.1 h
  rw [ho] at ho'
  injection ho' with e
  subst e
  intro e he hb
  have h1 := hall e he hb
  rcases Nat.lt_or_ge e.on listed.size with h' | h'
  · simp [h'] at h1 ⊢
    exact h1
  · simp [Array.getElem?_eq_none h'] at h1
theorem ready_not {i : Nat} {listed : Array Bool} (h : i ∈ Region.ready md ops listed) : listed.getD i true = false := (mem_ready.1 h).1
theorem ready_lt {i : Nat} {listed : Array Bool} (h : i ∈ Region.ready md ops listed) : i < ops.size := by
  obtain ⟨_, o, ho, _⟩ := mem_ready.1 h
  exact (Array.getElem?_eq_some_iff.1 ho).1
theorem Down.set {listed : Array Bool} {i : Nat} (h : Down md ops listed) (hi : i ∈ Region.ready md ops listed) : Down md ops (listed.setIfInBounds i true) := by
  refine ⟨by rw [Array.size_setIfInBounds]; exact h.1, fun k o ho hl e he hb => ?_⟩
  have up : ∀ j, listed.getD j false = true → (listed.setIfInBounds i true).getD j false = true := fun j hj => by
    have hlt := Down.size_lt hj
    simp only [Array.getD, Array.size_setIfInBounds, hlt, dif_pos, Array.getInternal_eq_getElem, Array.getElem_setIfInBounds] at hj ⊢
    split
    · rfl
    · exact hj
  by_cases e : k = i
  · subst e
    exact up _ (ready_dep h.1 hi ho _ he hb)
  · refine up _ (h.2 k o ho ?_ _ he hb)
    have hlt := Down.size_lt hl
    rw [Array.size_setIfInBounds] at hlt
    simp only [Array.getD, Array.size_setIfInBounds, hlt, dif_pos, Array.getInternal_eq_getElem, Array.getElem_setIfInBounds] at hl ⊢
    rwa [if_neg (fun h => e h.symm)] at hl
theorem Down.none : Down md ops (Array.replicate ops.size false) := by
  refine ⟨by simp, fun k o ho hl => ?_⟩
  have hlt : k < ops.size := (Array.getElem?_eq_some_iff.1 ho).1
  simp [Array.getD, hlt] at hl
theorem last_alone {i j : Nat} {listed : Array Bool} (hd : Down md ops listed) (h : Last md ops j) (hj : j ∈ Region.ready md ops listed) (hi : i ∈ Region.ready md ops listed) : j = i := by
  by_cases hij : i = j
  · exact hij.symm
  · have h1 := h listed hd hj i (ready_lt hi) hij
    have h2 := ready_not hi
    rw [getD_same (by rw [hd.1]; exact ready_lt hi) true false, h1] at h2
    cases h2
/-- Whatever order is picked from here on, and every operation, but for one that waits for all others, leaves a world that `T` allows. -/
def wpAnyT (P : Program) (md : Region.Mode) (ops : Array Oper) (Q : Exit → Act → World → Prop) (T : World → World → Prop) : Nat → Array Bool → Act → World → Prop
  | 0, listed, a, w => Region.ready md ops listed = [] ∧ Q .normal a w
  | fuel + 1, listed, a, w =>
    (Region.ready md ops listed = [] → Q .normal a w) ∧
    ∀ i ∈ Region.ready md ops listed, wpOp P ops Q i (fun a' w' => (Last md ops i ∨ T w w') ∧ wpAnyT P md ops Q T fuel (listed.setIfInBounds i true) a' w') a w
theorem wpAny_of_T : ∀ (fuel : Nat) (listed : Array Bool) (a : Act) (w : World), wpAnyT P md ops Q T fuel listed a w → wpAny P md ops Q fuel listed a w
  | 0, _, _, _, h => h
  | fuel + 1, _, _, _, h => ⟨h.1, fun i hi => wpOp_mono (fun a' w' h' => wpAny_of_T fuel _ a' w' h'.2) (h.2 i hi)⟩

theorem wpAnyT_first (hrefl : ∀ w, T w w) (htrans : ∀ a b c, T a b → T b c → T a c) {i : Nat} {oi : Oper} {v : Value} (hi : ops[i]? = some oi)
    (hsel : ∀ (j : Nat) (o : Oper) cs b, ops[j]? = some o → o.op ≠ .select cs b)
    (hQ : ∀ c a w, Q (.panic c) (a.put oi.dst v) w → Q (.panic c) a w) :
    ∀ (fuel : Nat) (listed : Array Bool) (a : Act) (w : World),
      (∀ j oj, ops[j]? = some oj → j ≠ i → listed.getD j true = false → (∀ e ∈ oj.after, Region.binds md e = true → e.on ≠ i) → oi.apart ops oj = true) →
      Down md ops listed → i ∈ Region.ready md ops listed → YieldsIf P ops (T w) oi v a →
      wpAnyT P md ops Q T fuel (listed.setIfInBounds i true) (a.put oi.dst v) w → wpAnyT P md ops Q T (fuel + 1) listed a w := by
  intro fuel
  induction fuel with
  | zero =>
    intro listed a w _ hdn hr hy H
    refine ⟨fun h => (by rw [h] at hr; cases hr), fun j hj => ?_⟩
    by_cases hji : j = i
    · subst hji; exact hy.wpOp hi (hrefl w) ⟨.inr (hrefl w), H⟩
    · have := ready_mono hj hji
      rw [H.1] at this
      cases this
  | succ fuel ih =>
    intro listed a w hfree hdn hr hy H
    refine ⟨fun h => (by rw [h] at hr; cases hr), fun j hj => ?_⟩
    by_cases hji : j = i
    · subst hji; exact hy.wpOp hi (hrefl w) ⟨.inr (hrefl w), H⟩
    · have h1 := H.2 j (ready_mono hj hji)
      obtain ⟨hjun, oj, hoj, hall⟩ := mem_ready.1 hj
      have hnot : ∀ e ∈ oj.after, Region.binds md e = true → e.on ≠ i := fun e he hb heq => by
        have h1 := hall e he hb
        have h0 := (mem_ready.1 hr).1
        rw [heq] at h1
        rcases Nat.lt_or_ge i listed.size with h' | h'
        · simp [h'] at h0 h1; rw [h0] at h1; cases h1
        · simp [Array.getElem?_eq_none h'] at h1
      have h2 := wpOp_putIf hoj (hfree j oj hoj hji hjun hnot) (fun cs b => hsel i oi cs b hi) (fun cs b => hsel j oj cs b hoj) hQ hy h1
      have hfree' : ∀ k ok, ops[k]? = some ok → k ≠ i → (listed.setIfInBounds j true).getD k true = false →
          (∀ e ∈ ok.after, Region.binds md e = true → e.on ≠ i) → oi.apart ops ok = true := fun k ok hk hki hun hno => by
        refine hfree k ok hk hki ?_ hno
        by_cases hjk : j = k
        · subst hjk; exact hjun
        · rw [getD_set_ne true hjk] at hun; exact hun
      refine wpOp_mono (fun a' w' h3 => ⟨h3.2.1, ih (listed.setIfInBounds j true) a' w' hfree' (hdn.set hj) (ready_mono hr (Ne.symm hji)) ?_ ?_⟩) h2
      · have h4 : T w w' := h3.2.1.resolve_left fun hl => hji (last_alone hdn hl hj hr)
        exact h3.1.imp (fun ⟨hw, hv⟩ => ⟨hw, fun w'' hw'' => hv w'' (htrans _ _ _ h4 hw'')⟩) id
      · rw [Array.setIfInBounds_comm _ _ hji]
        exact h3.2.2

/-- The orders that are walked: 'tk i': number i is taken first; 'w i': number i alone may come up; 'alt i': one of several that may. -/
inductive Tr where
  | done
  | tk (i : Nat) (t : Tr)
  | w (i : Nat) (t : Tr)
  | alt (i : Nat) (t r : Tr)
  | z (i : Nat)
/-- Number i waits for all others, as seen. -/
def lastB (ops : Array Oper) (i : Nat) : Bool := (List.range ops.size).all fun k => Nat.beq k i || (List.range ops.size).any fun m => (Nat.beq m i || Nat.blt k m) && match ops[m]? with
  | none => false
  | some o => o.after.toList.any fun e => Region.binds .any e && Nat.beq e.on k
theorem lastB_spec {ops : Array Oper} {i : Nat} (h : lastB ops i = true) : Last .any ops i := by
  intro listed hd hi
  have key : ∀ (n k : Nat), ops.size - k = n → k < ops.size → k ≠ i → listed.getD k false = true := by
    intro n
    induction n using Nat.strongRecOn with
    | _ n ih =>
      intro k hn hk hki
      unfold lastB at h
      rw [List.all_eq_true] at h
      have := h k (List.mem_range.2 hk)
      simp only [Bool.or_eq_true, List.any_eq_true, Bool.and_eq_true] at this
      rcases this with h1 | ⟨m, hm, hmk, h2⟩
      · exact absurd (Nat.eq_of_beq_eq_true h1) hki
      · split at h2
        · cases h2
        · rename_i o ho
          rw [List.any_eq_true] at h2
          obtain ⟨e, he, h3⟩ := h2
          simp only [Bool.and_eq_true] at h3
          obtain ⟨hb, hek⟩ := h3
          have hek' := Nat.eq_of_beq_eq_true hek
          have he' : e ∈ o.after := by simpa using he
          by_cases hmi : m = i
          · subst hmi
            have := ready_dep hd.1 hi ho e he' hb
            rwa [hek'] at this
          · have hlt : k < m := by
              rcases hmk with h4 | h4
              · exact absurd (Nat.eq_of_beq_eq_true h4) hmi
              · simpa [Nat.blt_eq] using h4
            have hmn : m < ops.size := List.mem_range.1 hm
            have := hd.2 m o ho (ih (ops.size - m) (by omega) m rfl hmn hmi) e he' hb
            rwa [hek'] at this
  exact fun k hk hki => key _ k rfl hk hki
def Tr.heads : Tr → List Nat
  | .w i _ => [i]
  | .alt i _ r => i :: r.heads
  | .z i => [i]
  | _ => []
def Tr.depth : Tr → Nat
  | .done => 0
  | .tk _ t => t.depth + 1
  | .w _ t => t.depth + 1
  | .alt _ t r => max (t.depth + 1) r.depth
  | .z _ => 1
/-- The tree fits the region's edges ('c': what may come up has been looked at). -/
def Tr.ok (ops : Array Oper) : Tr → Bool → Array Bool → Bool
  | .done, c, listed => !c && (Region.ready .any ops listed).isEmpty
  | .tk i t, c, listed => !c && Region.free .any ops listed i && (Region.ready .any ops listed).contains i && t.ok ops false (listed.setIfInBounds i true)
  | .w i t, c, listed => (c || Region.ready .any ops listed == [i]) && t.ok ops false (listed.setIfInBounds i true)
  | .alt i t r, c, listed => (c || Region.ready .any ops listed == i :: r.heads) && !r.heads.isEmpty && t.ok ops false (listed.setIfInBounds i true) && r.ok ops true listed
  | .z i, c, listed => (c || Region.ready .any ops listed == [i]) && lastB ops i && (Region.ready .any ops (listed.setIfInBounds i true)).isEmpty
def Tr.check (ops : Array Oper) (t : Tr) : Bool := Region.noSelect ops && Nat.ble t.depth ops.size && t.ok ops false (Array.replicate ops.size false)
end

end Go.Proofs.Ytjghlmbibimbiaa.Sx

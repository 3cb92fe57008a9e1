/-
  A region whose order is open: an operation that yields the same value in every later world may be taken first.
-/
import Derived.Test.YtmoebdncmcigaaaSx1
import Derived.OrdersHeld
namespace Go.Proofs.Ytmoebdncmcigaaa.Sx
open Go
set_option linter.unusedVariables false
set_option linter.unusedSimpArgs false

section
variable {P : Program} {ops : Array Oper} {Q : Exit → Act → World → Prop} {md : Region.Mode} {T : World → World → Prop}
/-- Whatever order is picked from here on, and every operation leaves a world that `T` allows. -/
def wpAnyT (P : Program) (md : Region.Mode) (ops : Array Oper) (Q : Exit → Act → World → Prop) (T : World → World → Prop) : Nat → Array Bool → Act → World → Prop
  | 0, listed, a, w => Region.ready md ops listed = [] ∧ Q .normal a w
  | fuel + 1, listed, a, w =>
    (Region.ready md ops listed = [] → Q .normal a w) ∧
    ∀ i ∈ Region.ready md ops listed, wpOp P ops Q i (fun a' w' => T w w' ∧ wpAnyT P md ops Q T fuel (listed.setIfInBounds i true) a' w') a w
theorem wpAny_of_T : ∀ (fuel : Nat) (listed : Array Bool) (a : Act) (w : World), wpAnyT P md ops Q T fuel listed a w → wpAny P md ops Q fuel listed a w
  | 0, _, _, _, h => h
  | fuel + 1, _, _, _, h => ⟨h.1, fun i hi => wpOp_mono (fun a' w' h' => wpAny_of_T fuel _ a' w' h'.2) (h.2 i hi)⟩

theorem wpAnyT_first (hrefl : ∀ w, T w w) (htrans : ∀ a b c, T a b → T b c → T a c) {i : Nat} {oi : Oper} {v : Value} (hi : ops[i]? = some oi)
    (hsel : ∀ (j : Nat) (o : Oper) cs b, ops[j]? = some o → o.op ≠ .select cs b)
    (hQ : ∀ c a w, Q (.panic c) (a.put oi.dst v) w → Q (.panic c) a w) :
    ∀ (fuel : Nat) (listed : Array Bool) (a : Act) (w : World),
      (∀ j oj, ops[j]? = some oj → j ≠ i → listed.getD j true = false → (∀ e ∈ oj.after, Region.binds md e = true → e.on ≠ i) → oi.apart ops oj = true) →
      i ∈ Region.ready md ops listed → YieldsIf P ops (T w) oi v a →
      wpAnyT P md ops Q T fuel (listed.setIfInBounds i true) (a.put oi.dst v) w → wpAnyT P md ops Q T (fuel + 1) listed a w := by
  intro fuel
  induction fuel with
  | zero =>
    intro listed a w _ hr hy H
    refine ⟨fun h => (by rw [h] at hr; cases hr), fun j hj => ?_⟩
    by_cases hji : j = i
    · subst hji; exact hy.wpOp hi (hrefl w) ⟨hrefl w, H⟩
    · have := ready_mono hj hji
      rw [H.1] at this
      cases this
  | succ fuel ih =>
    intro listed a w hfree hr hy H
    refine ⟨fun h => (by rw [h] at hr; cases hr), fun j hj => ?_⟩
    by_cases hji : j = i
    · subst hji; exact hy.wpOp hi (hrefl w) ⟨hrefl w, H⟩
    · have h1 := H.2 j (ready_mono hj hji)
      obtain ⟨hjun, oj, hoj, hall⟩ := mem_ready.1 hj
      have hnot : ∀ e ∈ oj.after, Region.binds md e = true → e.on ≠ i := fun e he hb heq => by
        have h1 := hall e he hb
        have h0 := (mem_ready.1 hr).1
        rw [heq] at h1
        rcases Nat.lt_or_ge i listed.size with h' | h'
        · simp [h'] at h0 h1; rw [h0] at h1; cases h1
        · simp [Array.getElem?_eq_none h'] at h1
      have h2 := wpOp_putIf hoj (hfree j oj hoj hji hjun hnot) (fun cs b => hsel i oi cs b hi) (fun cs b => hsel j oj cs b hoj) hQ hy h1
      have hfree' : ∀ k ok, ops[k]? = some ok → k ≠ i → (listed.setIfInBounds j true).getD k true = false →
          (∀ e ∈ ok.after, Region.binds md e = true → e.on ≠ i) → oi.apart ops ok = true := fun k ok hk hki hun hno => by
        refine hfree k ok hk hki ?_ hno
        by_cases hjk : j = k
        · subst hjk; exact hjun
        · rw [getD_set_ne true hjk] at hun; exact hun
      refine wpOp_mono (fun a' w' h3 => ⟨h3.2.1, ih (listed.setIfInBounds j true) a' w' hfree' (ready_mono hr (Ne.symm hji)) ?_ ?_⟩) h2
      · exact h3.1.imp (fun ⟨hw, hv⟩ => ⟨hw, fun w'' hw'' => hv w'' (htrans _ _ _ h3.2.1 hw'')⟩) id
      · rw [Array.setIfInBounds_comm _ _ hji]
        exact h3.2.2

/-- The orders that are walked: 'tk i': number i is taken first; 'w i': number i alone may come up; 'alt i': one of several that may. -/
inductive Tr where
  | done
  | tk (i : Nat) (t : Tr)
  | w (i : Nat) (t : Tr)
  | alt (i : Nat) (t r : Tr)
def Tr.heads : Tr → List Nat
  | .w i _ => [i]
  | .alt i _ r => i :: r.heads
  | _ => []
def Tr.depth : Tr → Nat
  | .done => 0
  | .tk _ t => t.depth + 1
  | .w _ t => t.depth + 1
  | .alt _ t r => max (t.depth + 1) r.depth
/-- The tree fits the region's edges ('c': what may come up has been looked at). -/
def Tr.ok (ops : Array Oper) : Tr → Bool → Array Bool → Bool
  | .done, c, listed => !c && (Region.ready .any ops listed).isEmpty
  | .tk i t, c, listed => !c && Region.free .any ops listed i && (Region.ready .any ops listed).contains i && t.ok ops false (listed.setIfInBounds i true)
  | .w i t, c, listed => (c || Region.ready .any ops listed == [i]) && t.ok ops false (listed.setIfInBounds i true)
  | .alt i t r, c, listed => (c || Region.ready .any ops listed == i :: r.heads) && !r.heads.isEmpty && t.ok ops false (listed.setIfInBounds i true) && r.ok ops true listed
def Tr.check (ops : Array Oper) (t : Tr) : Bool := Region.noSelect ops && Nat.ble t.depth ops.size && t.ok ops false (Array.replicate ops.size false)
end
end Go.Proofs.Ytmoebdncmcigaaa.Sx

import Derived.Test.YtmcdcfbhpdacfaaDoorSxA
import Derived.Test.YtmcdcfbhpdacfaaDoorRows
import Derived.WalkKit
import Derived.ProofKit
import Derived.OpenShut

/-
  From a walk that leaves all old memory alone to a row's postcondition.
-/





namespace Go.Proofs.YtmcdcfbhpdacfaaDoor.Sx

open Go Go.ChangeShapes Go.WideShapes Go.ChangeAt Go.RowKit

variable {H : Type} {enc : TypeId × Value → H} {P : Program}

theorem trodAll_stays (hl : laidOutB P = true) {W W' : World} (hb : Below W.heap.size W W') :
    ∀ (ts : List TypeId) (vs : List Value) (ds : List (DataW H)) (ps : List MemPlace), (∀ t ∈ ts, P.readableRec t = true ∧ t < P.types.size) →
      DataW.TrodAll enc P W 0 (fun _ => true) true ts vs ds ps → (∀ x ∈ ps, x.block < W.heap.size) →
      DataW.TrodAll enc P W' 0 (fun b => decide (b < W.heap.size)) true ts vs ds ps
  | [], [], [], _, _, h, _ => h
  | t :: ts, v :: vs, d :: ds, ps, hr, h, hlt => by
    obtain ⟨p, q, h1, h2, rfl⟩ := h
    exact ⟨p, q, Below.trod hl (hr t (by simp)).1 (hr t (by simp)).2 h1 hb (fun x hx => hlt x (by simp [hx])),
      trodAll_stays hl hb ts vs ds q (fun t ht => hr t (by simp [ht])) h2 (fun x hx => hlt x (by simp [hx])), rfl⟩
  | [], [], _ :: _, _, _, h, _ => h.elim
  | [], _ :: _, _, _, _, h, _ => h.elim
  | _ :: _, [], _, _, _, h, _ => h.elim
  | _ :: _, _ :: _, [], _, _, h, _ => h.elim

/-- The answer is the truth value true, the arguments read as they did, and of the old memory nothing has turned. -/
theorem post_of_ext (hl : laidOutB P = true) {f : Func} {s : ChangeSpec} {W W' : World} {args : Array Value} {ds gs : List (DataW H)} {before : List MemPlace} {fresh handsOn : Bool} {tb : TypeId}
    (hr : ∀ t ∈ f.params.toList, P.readableRec t = true ∧ t < P.types.size) (hv : s.vars = []) (hgs : gs = [])
    (hW : DataW.Whole enc P f.params.toList s.vars false W args.toList ds gs before)
    (hres : f.resultTypes = #[tb]) (htb : P.underlying tb = some .bool)
    (hfn : s.fn H (ds ++ gs) = { results := [.lit (.bool true)], args := ds }) (h : Ext Non W W') :
    s.post enc P f false fresh handsOn false W args (.bool true) W' := by
  have hW0 := hW
  obtain ⟨p, q, hA, hV, hps, hz, hn⟩ := hW0
  subst hgs
  rw [hv] at hV
  obtain rfl : q = [] := hV
  have hlt : ∀ x ∈ before, x.block < W.heap.size := fun x hx => by simpa using hW.lt x hx
  refine ⟨ds, [], before, [], p, [], hW, ?_, ?_, ?_, (h.below).frame _, fun e => by cases e⟩
  · rw [hfn, hres]
    exact trodAll_cons_mk (shut_bool htb _) trodAll_mk0
  · rw [hfn]
    exact trodAll_stays hl h.below _ _ _ _ hr hA (fun x hx => hlt x (by rw [hps]; simp [hx]))
  · rw [hfn, hv]
    rfl

theorem nat_of {k : IntKind} {a : Int} (h : (Lit.int k a).wf = true) (hk : k.min = 0) : ∃ n : Nat, a = (n : Int) ∧ (n : Int) ≤ k.max := by
  simp only [Lit.wf, Bool.and_eq_true, decide_eq_true_eq, hk] at h
  exact ⟨a.toNat, by omega, by omega⟩

end Go.Proofs.YtmcdcfbhpdacfaaDoor.Sx

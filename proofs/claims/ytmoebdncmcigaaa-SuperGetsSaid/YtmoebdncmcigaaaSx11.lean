
/-
  append of noughts onto no slice at all: what make within append does.
-/
import Derived.Test.YtmoebdncmcigaaaSx10

namespace Go.Proofs.Ytmoebdncmcigaaa.Sx

open Go

set_option linter.unusedVariables false

set_option linter.unusedSimpArgs false

/-- What append of a number of noughts does is what append of the noughts themselves does. -/
theorem append_make {P : Program} {ts ti ty e sz0 by0 : Nat} {z0 : Value} {ei : TI} (ht : TIok P ts ⟨.slice e, sz0, by0, z0⟩) (he : TIok P e ei) {k : IntKind} (hx : P.underlying ti = some (.int k)) (hz : ei.zero.cells.size = ei.size)
    {w : World} {A : Option Addr} {n c m : Nat} {x : Value} (hx0 : ∀ w', (Builtin.firstCells ei.size m x).run P w' = .ok (Builtin.zeroCells ei.zero.cells m) w') (hb : (n + m) * ei.bytes ≤ 140737488355328) (h63 : n + m ≤ 140737488355328) :
    (Builtin.append_ #[ts, ti] ty #[.slice A n c, .int .i64 (m : Int)]).run P w = (app P A n c x m e ei).run P w := by
  obtain ⟨i, hi, hi1, hi2, hi3⟩ := he.get
  have hi63 : IntKind.i64.max = 9223372036854775807 := by decide
  have h3 : ¬ (((n + m : Nat) : Int) > IntKind.i64.max) := by omega
  have hw : IntKind.i64.wrap (m : Int) = (m : Int) := IntWalk.i64_in _ (by omega)
  have h4 : ¬ ((m : Int) < 0) := by omega
  have h5 : ¬ ((m : Int) * (ei.bytes : Int) > 2 ^ 48) := by
    have h : m * ei.bytes ≤ (n + m) * ei.bytes := Nat.mul_le_mul_right _ (by omega)
    have : ((m * ei.bytes : Nat) : Int) ≤ 140737488355328 := by omega
    rw [Int.natCast_mul] at this
    omega
  have hnew : (fun w' => (if m * ei.size = 0 then (pure #[] : Sem (Array Value)) else do
      let z ← zeroValue e
      pure (Builtin.zeroCells z.cells m)).run P w') = fun w' => (Builtin.firstCells ei.size m x).run P w' := by
    funext w'
    rw [hx0]
    by_cases h0 : m * ei.size = 0
    · rw [if_pos h0]
      have : Builtin.zeroCells ei.zero.cells m = #[] := by
        apply Array.eq_empty_of_size_eq_zero
        have := zeroCells_len ei.zero.cells m
        rw [hz, h0] at this
        simpa using this
      rw [this]
      rfl
    · rw [if_neg h0]
      simp only [Sem.run_bind, he.run_zero, Result.andThen_ok, Sem.run_pure]
  have hnew' := fun w' => congrFun hnew w'
  unfold app
  by_cases hc : n + m ≤ c
  · simp only [Builtin.append_, List.getElem?_toArray, List.getElem?_cons_zero, List.getElem?_cons_succ, Sem.run_bind, run_underlying ht.slice, run_underlying hx, Result.andThen_ok, he.run_size, Sem.run_pure, if_true, asInt, asIntOf, pure_bind, hw, if_neg h4, typeInfo, run_program, hi, hi2, if_neg h5, Int.toNat_natCast, if_pos hc, Bool.not_true, Bool.false_eq_true, if_false, hnew']
    rfl
  · have hg := growslice_fits (need := n + m) (old := c) (bytes := ei.bytes) (by omega) hb
    have h2 : ¬ (Builtin.nextslicecap (n + m) c * ei.bytes > 2 ^ 48) := by omega
    simp only [Builtin.append_, List.getElem?_toArray, List.getElem?_cons_zero, List.getElem?_cons_succ, Sem.run_bind, run_underlying ht.slice, run_underlying hx, Result.andThen_ok, he.run_size, Sem.run_pure, if_true, asInt, asIntOf, pure_bind, hw, if_neg h4, typeInfo, run_program, hi, hi2, if_neg h5, Int.toNat_natCast, if_neg hc]
    rw [if_neg (fun h => h3 h.1)]
    simp only [Sem.run_bind, run_program, Result.andThen_ok, hi, hi2, if_neg h2, Bool.not_true, Bool.false_eq_true, if_false, Sem.run_pure, Sem.run_ite, hnew', he.run_zero]
theorem firstCells_noughts {P : Program} (z : Value) (hz : z = .int .u8 0) (m : Nat) (w : World) : (Builtin.firstCells 1 m (.string ⟨(List.replicate m 0).toArray⟩)).run P w = .ok (Builtin.zeroCells z.cells m) w := by
  subst hz
  have e : (((⟨(List.replicate m 0).toArray⟩ : ByteArray).extract 0 m).data.map fun b => Value.int .u8 (b.toNat : Int)) = Builtin.zeroCells (Value.int .u8 0).cells m := by
    apply Array.ext'
    have e2 : (⟨(List.replicate m 0).toArray⟩ : ByteArray).extract 0 m = ⟨(List.replicate m 0).toArray⟩ := by
      apply ByteArray.ext
      rw [ByteArray.data_extract]
      simp
    rw [e2]
    simp only [Builtin.zeroCells, Value.cells]
    apply List.ext_getElem
    · simp
    · intro i h1 h2
      simp [Nat.mod_one]
  simp only [Builtin.firstCells, e, Sem.run_pure]
theorem OS.cut {w : World} {base e sz n c : Nat} {A : Option Addr} {xs : List Value} (h : OS w base e sz (.slice A n c) n xs) {j : Nat} (hj : j ≤ n) : OS w base e sz (.slice A j c) j (xs.take (j * sz)) := by
  have hjs : j * sz ≤ n * sz := Nat.mul_le_mul_right _ hj
  refine ⟨by rw [List.length_take, h.1]; exact Nat.min_eq_left hjs, ?_⟩
  rcases h.2 with ⟨e1, rfl⟩ | ⟨b, c', sp, fr, e1, hb, hc, hat, h3, hf⟩
  · obtain rfl : j = 0 := by omega
    exact .inl ⟨e1, rfl⟩
  · injection e1 with e2 _ e3
    subst e2 e3
    refine .inr ⟨b, c, xs.drop (j * sz) ++ sp, fr, rfl, hb, Nat.le_trans hj hc, ?_, ?_, hf⟩
    · rw [← List.append_assoc, List.take_append_drop]
      exact hat
    · rw [← List.append_assoc, List.take_append_drop]
      exact h3
end Go.Proofs.Ytmoebdncmcigaaa.Sx

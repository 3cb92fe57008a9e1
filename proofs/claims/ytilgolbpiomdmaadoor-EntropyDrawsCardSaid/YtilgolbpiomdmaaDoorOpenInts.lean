import Derived.Test.YtilgolbpiomdmaaDoorOpen
import Derived.Test.YtilgolbpiomdmaaDoorOct0

/-
  A slice of whole numbers, opened out of its reading.
-/


namespace Go.Proofs.YtilgolbpiomdmaaDoor

open Go Sx Go.ChangeShapes Go.WideShapes Go.ChangeAt Go.RowKit

set_option linter.unusedVariables false

set_option linter.unusedSimpArgs false

set_option maxRecDepth 100000

variable {H : Type} {enc : TypeId × Value → H}

def ivs (k : IntKind) (l : List Int) : List Value := l.map (Value.int k)
theorem ivs_length (k : IntKind) (l : List Int) : (ivs k l).length = l.length := by simp [ivs]
theorem open_ints {k : IntKind} {r : Reach} {b0 base : Nat} {t e : Nat} {w : World} {spare : Nat → Bool} {held : Bool} {v : Value} {d : DataW H} {ps : List MemPlace}
    (ht : Tryd.prog.underlying t = some (.slice e)) (he : Tryd.prog.underlying e = some (.int k)) (hc : Tryd.prog.cellsOf e = 1)
    (hval : Value.okWide Tryd.prog w r b0 t v) (hd : DataW.Trod enc Tryd.prog w base spare held t v d ps) :
    ∃ A c l, v = .slice A (List.length l) c ∧ l.length ≤ c ∧ Cells w A (ivs k l) ∧ (∀ z ∈ l, k.min ≤ z ∧ z ≤ k.max) ∧ (∀ q, inBlk A q → q < w.heap.size) ∧ (d = .nil ∧ l = [] ∨ ∃ el sp, d = .slice el sp ∧ el.length = l.length) := by
  obtain ⟨A, n, c, rfl, hnc, _, hA, hel, hdd⟩ := open_rows ht hc (by decide) hval hd
  have each : ∀ i, i < n → ∃ z : Int, (∃ b off, A = some ⟨b, off, none⟩ ∧ w.cell? ⟨b, off + i, none⟩ = some (.int k z)) ∧ k.min ≤ z ∧ z ≤ k.max := fun i hi => by
    obtain ⟨b, off, cs, y, m, rfl, hl, hcs, htr⟩ := hel i hi
    obtain ⟨z, hz, _, hw⟩ := DataW.trod_int he htr
    subst hz
    have h0 := hcs 0 (by decide)
    simp only [Nat.mul_one, Nat.add_zero] at h0
    refine ⟨z, ⟨b, off, rfl, by simpa using h0⟩, ?_⟩
    simpa [Lit.wf] using hw
  obtain ⟨l, hl, hp⟩ := pick_list (α := Int) each
  subst hl
  refine ⟨A, c, l, rfl, hnc, ?_, fun z hz => ?_, hA, hdd.imp (fun ⟨h1, h2⟩ => ⟨h1, List.eq_nil_of_length_eq_zero h2⟩) id⟩
  · by_cases h0 : l = []
    · exact .inl (by rw [h0]; rfl)
    · obtain ⟨⟨b, off, hA', _⟩, _⟩ := hp 0 (List.length_pos_iff.2 h0)
      subst hA'
      refine .inr ⟨b, off, rfl, fun i hi => ?_⟩
      have hi' : i < l.length := by rwa [ivs_length] at hi
      obtain ⟨⟨b2, off2, e2, h2⟩, _⟩ := hp i hi'
      injection e2 with e2
      injection e2 with e3 e4 _
      subst e3 e4
      rw [h2]
      simp [ivs]
  · obtain ⟨i, hi, rfl⟩ := List.getElem_of_mem hz
    exact (hp i hi).2
end Go.Proofs.YtilgolbpiomdmaaDoor


/-
  The calls of a reader, opened out of an argument's reading.
-/
import Derived.Test.YtjghlmbibimbiaaOpen

import Derived.Test.YtjghlmbibimbiaaOct6

namespace Go.Proofs.Ytjghlmbibimbiaa.Sx

open Go Go.ChangeShapes Go.WideShapes Go.ChangeAt Go.RowKit

variable {H : Type} {enc : TypeId × Value → H}

theorem open_acts {r : Reach} {b0 base : Nat} {w : World} {spare : Nat → Bool} {held : Bool} {v : Value} {d : DataW H} {ps : List MemPlace}
    (hval : Value.okWide Try.prog w r b0 53 v) (hd : DataW.Trod enc Try.prog w base spare held 53 v d ps) :
    ∃ A c L, v = .slice A L.length c ∧ L.length ≤ c ∧ c ≤ maxLen ∧ Acts w A L ∧ (∀ k, inBlk A k → k < w.heap.size) ∧ (d = .nil ∧ L.length = 0 ∨ ∃ el sp, d = .slice el sp ∧ el.length = L.length) ∧ (∀ x ∈ L, x.1 < 256 ∧ -9223372036854775808 ≤ x.2 ∧ x.2 ≤ 9223372036854775807) := by
  obtain ⟨A, n, c, rfl, hnc, hcm, hA, hel, hd⟩ := open_rows (sz := 2) Try.underlying53 (by kernel_rfl) (by decide) hval hd
  have key : ∀ i, i < n → ∃ x : Nat × Int, (x.1 < 256 ∧ -9223372036854775808 ≤ x.2 ∧ x.2 ≤ 9223372036854775807) ∧ ∃ b off, A = some ⟨b, off, none⟩ ∧ w.cell? ⟨b, off + i * 2, none⟩ = some (.int .u8 (x.1 : Int)) ∧ w.cell? ⟨b, off + i * 2 + 1, none⟩ = some (.int .i64 x.2) := by
    intro i hi
    obtain ⟨b, off, cs, y, m, hA, hcs, hcell, htr⟩ := hel i hi
    obtain ⟨xs, k, _, _, _, _, hf⟩ := DataW.trod_struct Try.underlying59 htr
    obtain ⟨c0, c1, rfl⟩ : ∃ c0 c1, cs = [c0, c1] := by
      match cs, hcs with
      | [c0, c1], _ => exact ⟨c0, c1, rfl⟩
    have h1 := hf 0 _ rfl
    have h2 := hf 1 _ rfl
    have e1 : Try.prog.cellsOf 5 = 1 := by kernel_rfl
    have e2 : Try.prog.cellsOf 3 = 1 := by kernel_rfl
    simp only [List.getElem_toArray, List.getElem_cons_zero, List.getElem_cons_succ, e1, e2] at h1 h2
    rw [List.getElem?_eq_getElem (by simp_all)] at h1 h2
    obtain ⟨a, ha, _, hwa⟩ := DataW.trod_int Try.underlying5 h1
    obtain ⟨z, hz, _, hwz⟩ := DataW.trod_int Try.underlying3 h2
    simp at ha hz
    subst ha hz
    obtain ⟨k, rfl, hk⟩ := nat_of hwa rfl
    simp only [Lit.wf, Bool.and_eq_true, decide_eq_true_eq, show IntKind.min .i64 = -9223372036854775808 from rfl, show IntKind.max .i64 = 9223372036854775807 from rfl] at hwz
    simp only [show IntKind.max .u8 = 255 from rfl] at hk
    exact ⟨(k, z), ⟨by dsimp only; omega, hwz⟩, b, off, hA, by simpa using hcell 0 (by decide), by simpa using hcell 1 (by decide)⟩
  obtain ⟨L, hL, hp⟩ := pick_list key
  subst hL
  refine ⟨A, c, L, rfl, hnc, hcm, ?_, hA, hd, ?_⟩
  · cases L with
    | nil => exact .inl rfl
    | cons x r =>
      obtain ⟨_, b, off, hA0, _⟩ := hp 0 (by simp)
      refine .inr ⟨b, off, hA0, fun i hi => ?_⟩
      obtain ⟨_, b', off', hA1, h1, h2⟩ := hp i hi
      rw [hA0] at hA1
      obtain ⟨rfl, rfl⟩ : b = b' ∧ off = off' := by
        injection hA1 with e
        injection e with e1 e2 _
        exact ⟨e1, e2⟩
      exact ⟨h1, h2⟩
  · intro x hx
    obtain ⟨i, hi, rfl⟩ := List.getElem_of_mem hx
    exact (hp i hi).1

end Go.Proofs.Ytjghlmbibimbiaa.Sx

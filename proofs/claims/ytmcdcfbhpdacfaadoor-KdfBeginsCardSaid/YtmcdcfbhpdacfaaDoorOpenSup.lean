import Derived.Test.YtmcdcfbhpdacfaaDoorOpen
import Derived.Test.YtmcdcfbhpdacfaaDoorSup1

/-
  A geometry and a pair of numbers, opened out of an argument's reading.
-/


namespace Go.Proofs.YtmcdcfbhpdacfaaDoor.Sx

open Go Go.ChangeShapes Go.WideShapes Go.ChangeAt Go.RowKit

variable {H : Type} {enc : TypeId × Value → H}

set_option maxRecDepth 100000
theorem open_two {r : Reach} {b0 base : Nat} {w : World} {spare : Nat → Bool} {held : Bool} {v : Value} {d : DataW H} {ps : List MemPlace}
    (hval : Value.okWide Tryd.prog w r b0 23 v) (hd : DataW.Trod enc Tryd.prog w base spare held 23 v d ps) :
    ∃ a z : Int, v = .agg #[.int .i64 a, .int .i64 z] ∧ (-9223372036854775808 ≤ a ∧ a ≤ 9223372036854775807) ∧ (-9223372036854775808 ≤ z ∧ z ≤ 9223372036854775807) := by
  have hu := Tryd.underlying23
  obtain ⟨cs, rfl, hsz, _⟩ : ∃ cs, v = .agg cs ∧ cs.size = Tryd.prog.cellsOf 23 ∧ Row.okWide Tryd.prog w r b0 23 cs := by
    unfold Value.okWide at hval
    rw [hu] at hval
    exact hval
  obtain ⟨fuel, hf⟩ := hd
  obtain ⟨xs, k, _, _, hlen, hxs, hel⟩ := DataW.trod_array hu hf
  have e0 : Tryd.prog.cellsOf 23 = 2 := by kernel_rfl
  have e2 : Tryd.prog.cellsOf 3 = 1 := by kernel_rfl
  obtain ⟨l⟩ := cs
  rw [e0] at hsz
  obtain ⟨c0, c1, rfl⟩ : ∃ c0 c1, l = [c0, c1] := by
    match l, hsz with
    | [c0, c1], _ => exact ⟨c0, c1, rfl⟩
  have h1 := hel 0 (by decide)
  have h2 := hel 1 (by decide)
  simp only [e2, Value.cells] at h1 h2
  rw [List.getElem?_eq_getElem (by omega)] at h1 h2
  obtain ⟨a, ha, _, hwa⟩ := DataW.trod_int Tryd.underlying3 h1
  obtain ⟨z, hz, _, hwz⟩ := DataW.trod_int Tryd.underlying3 h2
  simp at ha hz
  subst ha hz
  simp only [Lit.wf, Bool.and_eq_true, decide_eq_true_eq, show IntKind.min .i64 = -9223372036854775808 from rfl, show IntKind.max .i64 = 9223372036854775807 from rfl] at hwa hwz
  exact ⟨a, z, rfl, hwa, hwz⟩
theorem open_two16 {r : Reach} {b0 base : Nat} {w : World} {spare : Nat → Bool} {held : Bool} {v : Value} {d : DataW H} {ps : List MemPlace}
    (hval : Value.okWide Tryd.prog w r b0 37 v) (hd : DataW.Trod enc Tryd.prog w base spare held 37 v d ps) :
    ∃ a z : Nat, v = .agg #[.int .u16 (a : Int), .int .u16 (z : Int)] ∧ a < 65536 ∧ z < 65536 := by
  have hu := Tryd.underlying37
  obtain ⟨cs, rfl, hsz, _⟩ : ∃ cs, v = .agg cs ∧ cs.size = Tryd.prog.cellsOf 37 ∧ Row.okWide Tryd.prog w r b0 37 cs := by
    unfold Value.okWide at hval
    rw [hu] at hval
    exact hval
  obtain ⟨fuel, hf⟩ := hd
  obtain ⟨xs, k, _, _, hlen, hxs, hel⟩ := DataW.trod_array hu hf
  have e0 : Tryd.prog.cellsOf 37 = 2 := by kernel_rfl
  have e2 : Tryd.prog.cellsOf 36 = 1 := by kernel_rfl
  obtain ⟨l⟩ := cs
  rw [e0] at hsz
  obtain ⟨c0, c1, rfl⟩ : ∃ c0 c1, l = [c0, c1] := by
    match l, hsz with
    | [c0, c1], _ => exact ⟨c0, c1, rfl⟩
  have h1 := hel 0 (by decide)
  have h2 := hel 1 (by decide)
  simp only [e2, Value.cells] at h1 h2
  rw [List.getElem?_eq_getElem (by omega)] at h1 h2
  obtain ⟨a, ha, _, hwa⟩ := DataW.trod_int Tryd.underlying36 h1
  obtain ⟨z, hz, _, hwz⟩ := DataW.trod_int Tryd.underlying36 h2
  simp at ha hz
  subst ha hz
  simp only [Lit.wf, Bool.and_eq_true, decide_eq_true_eq, show IntKind.min .u16 = 0 from rfl, show IntKind.max .u16 = 65535 from rfl] at hwa hwz
  exact ⟨a.toNat, z.toNat, by rw [Int.toNat_of_nonneg hwa.1, Int.toNat_of_nonneg hwz.1], by omega, by omega⟩
end Go.Proofs.YtmcdcfbhpdacfaaDoor.Sx

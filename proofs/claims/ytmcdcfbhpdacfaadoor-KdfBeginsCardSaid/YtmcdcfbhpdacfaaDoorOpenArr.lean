import Derived.Test.YtmcdcfbhpdacfaaDoorOpen

/-
  An array of bytes, opened out of an argument's reading.
-/

namespace Go.Proofs.YtmcdcfbhpdacfaaDoor.Sx

open Go Go.ChangeShapes Go.WideShapes Go.ChangeAt Go.RowKit

variable {H : Type} {enc : TypeId × Value → H}

def byteOf : Value → UInt8
  | .int _ z => UInt8.ofNat z.toNat
  | _ => 0
set_option maxRecDepth 100000
theorem open_arr8 {t n : Nat} (hu : Tryd.prog.underlying t = some (.array n 5)) (e0 : Tryd.prog.cellsOf t = n) {r : Reach} {b0 base : Nat} {w : World} {spare : Nat → Bool} {held : Bool} {v : Value} {d : DataW H} {ps : List MemPlace}
    (hval : Value.okWide Tryd.prog w r b0 t v) (hd : DataW.Trod enc Tryd.prog w base spare held t v d ps) :
    ∃ x : List UInt8, v = .agg (bv x).toArray ∧ x.length = n := by
  obtain ⟨cs, rfl, hsz, _⟩ : ∃ cs, v = .agg cs ∧ cs.size = Tryd.prog.cellsOf t ∧ Row.okWide Tryd.prog w r b0 t cs := by
    unfold Value.okWide at hval
    rw [hu] at hval
    exact hval
  obtain ⟨fuel, hf⟩ := hd
  obtain ⟨xs, k, _, _, hlen, hxs, hel⟩ := DataW.trod_array hu hf
  have e2 : Tryd.prog.cellsOf 5 = 1 := by kernel_rfl
  obtain ⟨l⟩ := cs
  rw [e0] at hsz
  have hl : l.length = n := hsz
  refine ⟨l.map byteOf, ?_, by rw [List.length_map, hl]⟩
  have e : bv (l.map byteOf) = l := by
    refine List.ext_getElem (by simp [bv]) fun i h1 h2 => ?_
    have h := hel i (by omega)
    simp only [e2, Value.cells, Nat.mul_one] at h
    rw [List.getElem?_eq_getElem (by omega)] at h
    obtain ⟨z, hz, _, hw⟩ := DataW.trod_int Tryd.underlying5 h
    simp only [Lit.wf, Bool.and_eq_true, decide_eq_true_eq, show IntKind.min .u8 = 0 from rfl, show IntKind.max .u8 = 255 from rfl] at hw
    have hi : l[i] = .int .u8 z := by
      have := congrArg (fun l => l[0]?) hz
      simpa [List.getElem?_take, List.getElem?_drop, List.getElem?_eq_getElem h2] using this
    simp only [bv, List.map_map, List.getElem_map, Function.comp, hi, byteOf]
    rw [UInt8.toNat_ofNat', Nat.mod_eq_of_lt (by omega)]
    congr 1
    omega
  rw [e]
end Go.Proofs.YtmcdcfbhpdacfaaDoor.Sx

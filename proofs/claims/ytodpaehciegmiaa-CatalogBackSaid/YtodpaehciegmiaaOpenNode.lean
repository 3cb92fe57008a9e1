import Derived.Test.YtodpaehciegmiaaOpenArr
import Derived.Test.YtodpaehciegmiaaNod0

/-
  Refs and nodes, opened out of an argument's reading.
-/


namespace Go.Proofs.Ytodpaehciegmiaa.Sx

open Go Go.ChangeShapes Go.WideShapes Go.ChangeAt Go.RowKit

variable {H : Type} {enc : TypeId × Value → H}

set_option maxRecDepth 100000

theorem trod_bytes {t n m : Nat} (hu : Try.prog.underlying t = some (.array n 5)) (e0 : Try.prog.cellsOf t = n) {base : Nat} {w : World} {spare : Nat → Bool} {held : Bool} {cs : List Value} {x : DataW H × List MemPlace}
    (hf : DataW.trod enc Try.prog w base spare held m t cs = some x) : ∃ l : List UInt8, cs = bv l ∧ l.length = n := by
  obtain ⟨xs, k, _, _, hlen, hxs, hel⟩ := DataW.trod_array hu hf
  have e2 : Try.prog.cellsOf 5 = 1 := by kernel_rfl
  rw [e0] at hlen
  refine ⟨cs.map byteOf, ?_, by rw [List.length_map, hlen]⟩
  refine List.ext_getElem (by simp [bv]) fun i h1 h2 => ?_
  have h := hel i (by omega)
  simp only [e2, Nat.mul_one] at h
  rw [List.getElem?_eq_getElem (by omega)] at h
  obtain ⟨z, hz, _, hw⟩ := DataW.trod_int Try.underlying5 h
  simp only [Lit.wf, Bool.and_eq_true, decide_eq_true_eq, show IntKind.min .u8 = 0 from rfl, show IntKind.max .u8 = 255 from rfl] at hw
  have hi : cs[i] = .int .u8 z := by
    have := congrArg (fun l => l[0]?) hz
    simpa [List.getElem?_take, List.getElem?_drop, List.getElem?_eq_getElem h1] using this
  simp only [bv, List.map_map, List.getElem_map, Function.comp, hi, byteOf]
  rw [UInt8.toNat_ofNat', Nat.mod_eq_of_lt (by omega)]
  congr 1
  omega
theorem trod_ref {m base : Nat} {w : World} {spare : Nat → Bool} {held : Bool} {cs : List Value} {x : DataW H × List MemPlace}
    (hf : DataW.trod enc Try.prog w base spare held m 26 cs = some x) : ∃ r : NRef, cs = nv r ∧ RefOk r := by
  obtain ⟨xs, k, _, _, hlen, hxs, hel⟩ := DataW.trod_struct Try.underlying26 hf
  have e0 : Try.prog.cellsOf 26 = 33 := by kernel_rfl
  have e1 : Try.prog.cellsOf 22 = 1 := by kernel_rfl
  have e2 : Try.prog.cellsOf 24 = 32 := by kernel_rfl
  rw [e0] at hlen
  have hx : xs.length = 2 := hxs
  have h1 := hel 0 _ rfl
  have h2 := hel 1 _ rfl
  rw [List.getElem?_eq_getElem (by omega)] at h1 h2
  obtain ⟨z, hz, _, hw⟩ := DataW.trod_int Try.underlying22 h1
  obtain ⟨l, hl, hl32⟩ := trod_bytes Try.underlying24 e2 h2
  simp only [Lit.wf, Bool.and_eq_true, decide_eq_true_eq, show IntKind.min .u32 = 0 from rfl, show IntKind.max .u32 = 4294967295 from rfl] at hw
  have hz' : (cs.drop 0).take (Try.prog.cellsOf 22) = [.int .u32 z] := hz
  have hl' : (cs.drop 1).take (Try.prog.cellsOf 24) = bv l := hl
  rw [e1, List.drop_zero] at hz'
  rw [e2] at hl'
  refine ⟨(z.toNat, l), ?_, ⟨by show z.toNat < _; omega, hl32⟩⟩
  rw [List.take_of_length_le (by rw [List.length_drop]; omega)] at hl'
  rw [← List.take_append_drop 1 cs, hz', hl', nv]
  have : ((z.toNat : Nat) : Int) = z := by omega
  rw [this]
  rfl
theorem ncs_of : ∀ {l : List NRef} {cs : List Value}, (∀ r ∈ l, r.2.length = 32) → cs.length = l.length * 33 → (∀ i (h : i < l.length), (cs.drop (i * 33)).take 33 = nv l[i]) → cs = ncs l
  | [], cs, _, hl, _ => List.eq_nil_of_length_eq_zero (by simpa using hl)
  | r :: t, cs, hr, hl, h => by
    have h0 := h 0 (by simp)
    simp only [Nat.zero_mul, List.drop_zero, List.getElem_cons_zero] at h0
    rw [List.length_cons] at hl
    have ht : cs.drop 33 = ncs t := ncs_of (fun q hq => hr q (by simp [hq])) (by rw [List.length_drop]; omega) fun i hi => by
      have := h (i + 1) (by simpa using hi)
      rw [List.drop_drop, show 33 + i * 33 = (i + 1) * 33 from by omega]
      simpa using this
    rw [← List.take_append_drop 33 cs, h0, ht, ncs_cons]
end Go.Proofs.Ytodpaehciegmiaa.Sx

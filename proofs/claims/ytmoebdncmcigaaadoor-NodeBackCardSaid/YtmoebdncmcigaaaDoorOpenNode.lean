import Derived.Test.YtmoebdncmcigaaaDoorOpenArr
import Derived.Test.YtmoebdncmcigaaaDoorNod0

/-
  Refs and nodes, opened out of an argument's reading.
-/


namespace Go.Proofs.YtmoebdncmcigaaaDoor.Sx

open Go Go.ChangeShapes Go.WideShapes Go.ChangeAt Go.RowKit

variable {H : Type} {enc : TypeId × Value → H}

set_option maxRecDepth 100000

theorem trod_bytes {t n m : Nat} (hu : Tryd.prog.underlying t = some (.array n 5)) (e0 : Tryd.prog.cellsOf t = n) {base : Nat} {w : World} {spare : Nat → Bool} {held : Bool} {cs : List Value} {x : DataW H × List MemPlace}
    (hf : DataW.trod enc Tryd.prog w base spare held m t cs = some x) : ∃ l : List UInt8, cs = bv l ∧ l.length = n := by
  obtain ⟨xs, k, _, _, hlen, hxs, hel⟩ := DataW.trod_array hu hf
  have e2 : Tryd.prog.cellsOf 5 = 1 := by kernel_rfl
  rw [e0] at hlen
  refine ⟨cs.map byteOf, ?_, by rw [List.length_map, hlen]⟩
  refine List.ext_getElem (by simp [bv]) fun i h1 h2 => ?_
  have h := hel i (by omega)
  simp only [e2, Nat.mul_one] at h
  rw [List.getElem?_eq_getElem (by omega)] at h
  obtain ⟨z, hz, _, hw⟩ := DataW.trod_int Tryd.underlying5 h
  simp only [Lit.wf, Bool.and_eq_true, decide_eq_true_eq, show IntKind.min .u8 = 0 from rfl, show IntKind.max .u8 = 255 from rfl] at hw
  have hi : cs[i] = .int .u8 z := by
    have := congrArg (fun l => l[0]?) hz
    simpa [List.getElem?_take, List.getElem?_drop, List.getElem?_eq_getElem h1] using this
  simp only [bv, List.map_map, List.getElem_map, Function.comp, hi, byteOf]
  rw [UInt8.toNat_ofNat', Nat.mod_eq_of_lt (by omega)]
  congr 1
  omega
theorem trod_ref {m base : Nat} {w : World} {spare : Nat → Bool} {held : Bool} {cs : List Value} {x : DataW H × List MemPlace}
    (hf : DataW.trod enc Tryd.prog w base spare held m 37 cs = some x) : ∃ r : NRef, cs = nv r ∧ RefOk r := by
  obtain ⟨xs, k, _, _, hlen, hxs, hel⟩ := DataW.trod_struct Tryd.underlying37 hf
  have e0 : Tryd.prog.cellsOf 37 = 33 := by kernel_rfl
  have e1 : Tryd.prog.cellsOf 35 = 1 := by kernel_rfl
  have e2 : Tryd.prog.cellsOf 31 = 32 := by kernel_rfl
  rw [e0] at hlen
  have hx : xs.length = 2 := hxs
  have h1 := hel 0 _ rfl
  have h2 := hel 1 _ rfl
  rw [List.getElem?_eq_getElem (by omega)] at h1 h2
  obtain ⟨z, hz, _, hw⟩ := DataW.trod_int Tryd.underlying35 h1
  obtain ⟨l, hl, hl32⟩ := trod_bytes Tryd.underlying31 e2 h2
  simp only [Lit.wf, Bool.and_eq_true, decide_eq_true_eq, show IntKind.min .u32 = 0 from rfl, show IntKind.max .u32 = 4294967295 from rfl] at hw
  have hz' : (cs.drop 0).take (Tryd.prog.cellsOf 35) = [.int .u32 z] := hz
  have hl' : (cs.drop 1).take (Tryd.prog.cellsOf 31) = bv l := hl
  rw [e1, List.drop_zero] at hz'
  rw [e2] at hl'
  refine ⟨(z.toNat, l), ?_, ⟨by show z.toNat < _; omega, hl32⟩⟩
  rw [List.take_of_length_le (by rw [List.length_drop]; omega)] at hl'
  rw [← List.take_append_drop 1 cs, hz', hl', nv]
  have : ((z.toNat : Nat) : Int) = z := by omega
  rw [this]
  rfl
theorem ncs_of : ∀ {l : List NRef} {cs : List Value}, (∀ r ∈ l, r.2.length = 32) → cs.length = l.length * 33 → (∀ i (h : i < l.length), (cs.drop (i * 33)).take 33 = nv l[i]) → cs = ncs l
  | [], cs, _, hl, _ => List.eq_nil_of_length_eq_zero (by simpa using hl)
  | r :: t, cs, hr, hl, h => by
    have h0 := h 0 (by simp)
    simp only [Nat.zero_mul, List.drop_zero, List.getElem_cons_zero] at h0
    rw [List.length_cons] at hl
    have ht : cs.drop 33 = ncs t := ncs_of (fun q hq => hr q (by simp [hq])) (by rw [List.length_drop]; omega) fun i hi => by
      have := h (i + 1) (by simpa using hi)
      rw [List.drop_drop, show 33 + i * 33 = (i + 1) * 33 from by omega]
      simpa using this
    rw [← List.take_append_drop 33 cs, h0, ht, ncs_cons]
theorem trod_node {m base : Nat} {w : World} {spare : Nat → Bool} {held : Bool} {cs : List Value} {x : DataW H × List MemPlace}
    (hf : DataW.trod enc Tryd.prog w base spare held m 39 cs = some x) : ∃ n : List NRef, cs = ncs n ∧ NodeOk n := by
  obtain ⟨xs, k, _, _, hlen, hxs, hel⟩ := DataW.trod_array Tryd.underlying39 hf
  have e0 : Tryd.prog.cellsOf 39 = 264 := by kernel_rfl
  have e1 : Tryd.prog.cellsOf 37 = 33 := by kernel_rfl
  rw [e0] at hlen
  rw [e1] at hel
  obtain ⟨l, hl8, hl⟩ := pick_list (n := 8) (p := fun i r => (cs.drop (i * 33)).take 33 = nv r ∧ RefOk r) fun i hi => by
    have h := hel i hi
    rw [List.getElem?_eq_getElem (by omega)] at h
    exact trod_ref h
  have hall : ∀ r ∈ l, RefOk r := fun r hr => by
    obtain ⟨i, hi, rfl⟩ := List.getElem_of_mem hr
    exact (hl i hi).2
  exact ⟨l, ncs_of (fun r hr => (hall r hr).len) (by rw [hlen, hl8]) fun i hi => (hl i hi).1, hl8, hall⟩
theorem open_node {r : Reach} {b0 base : Nat} {w : World} {spare : Nat → Bool} {held : Bool} {v : Value} {d : DataW H} {ps : List MemPlace}
    (hval : Value.okWide Tryd.prog w r b0 39 v) (hd : DataW.Trod enc Tryd.prog w base spare held 39 v d ps) :
    ∃ n : List NRef, v = .agg (ncs n).toArray ∧ NodeOk n := by
  obtain ⟨cs, rfl, hsz, _⟩ : ∃ cs, v = .agg cs ∧ cs.size = Tryd.prog.cellsOf 39 ∧ Row.okWide Tryd.prog w r b0 39 cs := by
    unfold Value.okWide at hval
    rw [Tryd.underlying39] at hval
    exact hval
  obtain ⟨fuel, hf⟩ := hd
  obtain ⟨n, hn, hok⟩ := trod_node hf
  refine ⟨n, ?_, hok⟩
  have : cs.toList = ncs n := hn
  rw [← this]
end Go.Proofs.YtmoebdncmcigaaaDoor.Sx

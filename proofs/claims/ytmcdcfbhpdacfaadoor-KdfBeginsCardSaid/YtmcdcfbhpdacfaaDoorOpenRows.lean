import Derived.Test.YtmcdcfbhpdacfaaDoorOpen
import Derived.Test.YtmcdcfbhpdacfaaDoorEq
import Derived.Test.YtmcdcfbhpdacfaaDoorBulk

/-
  A slice of byte slices, opened out of its reading.
-/



namespace Go.Proofs.YtmcdcfbhpdacfaaDoor

open Go Sx Go.ChangeShapes Go.WideShapes Go.ChangeAt Go.RowKit

set_option linter.unusedVariables false

set_option linter.unusedSimpArgs false

set_option maxRecDepth 100000

variable {H : Type} {enc : TypeId × Value → H}

/-- An element of a slice of byte slices. -/
theorem open_elem {base m : Nat} {w : World} {spare : Nat → Bool} {held : Bool} {cs : List Value} {x : DataW H × List MemPlace} (h : DataW.trod enc cx.P w base spare held m 22 cs = some x) :
    ∃ A c l, cs = [.slice A l.length c] ∧ l.length ≤ c ∧ Cells w A (bv l) ∧ (x.1 = .nil ∧ l = [] ∨ ∃ el sp, x.1 = .slice el sp ∧ el.length = l.length) := by
  rcases open_ints tiB.slice tiU8.int (by kernel_rfl) h with ⟨h, hx⟩ | ⟨a, len, cap, zs, h, hb, hl, hm, hlen, hx, hcell, hw⟩
  · exact ⟨none, 0, [], h, Nat.le_refl _, .inl rfl, .inl ⟨by rw [hx], rfl⟩⟩
  · have hle : len ≤ zs.length := by rw [hlen]; split <;> omega
    refine ⟨some a, cap, (zs.take len).map fun z => UInt8.ofNat z.toNat, by rw [h]; simp [Nat.min_eq_left hle], by simp; omega, ?_, .inr ⟨_, _, by rw [hx], by simp [lits]⟩⟩
    by_cases h0 : len = 0
    · subst h0
      exact .inl (by simp [bv])
    · obtain ⟨b, off, spot⟩ := a
      have g0 := hcell 0 (by omega)
      have hspot : spot = none := by simpa [Addr.add] using World.cell?_spot g0
      subst hspot
      refine .inr ⟨b, off, rfl, fun i hi => ?_⟩
      have hi' : i < len := by simp [bv] at hi; omega
      have g := hcell i (by omega)
      have hz : (Lit.int .u8 (zs.getD i 0)).wf = true := hw _ (by rw [List.getD_eq_getElem?_getD, List.getElem?_eq_getElem (by omega)]; simp)
      rw [add_plain] at g
      rw [g]
      simp only [Lit.wf, Bool.and_eq_true, decide_eq_true_eq, show IntKind.min .u8 = 0 from rfl, show IntKind.max .u8 = 255 from rfl] at hz
      have hz2 : zs.getD i 0 = zs[i]'(by omega) := by rw [List.getD_eq_getElem?_getD, List.getElem?_eq_getElem (by omega)]; rfl
      rw [hz2] at hz ⊢
      simp [bv]
      omega
theorem join_bulk : ∀ (ps : List Part) (ds : List (DataW H)), ps.length = ds.length → (∀ i (h1 : i < ps.length) (h2 : i < ds.length), (ps[i]).2.2.length + 1 ≤ Rows.uptoBulk ds[i]) → (joinP ps).length + ps.length ≤ Rows.uptoBulkAll ds
  | [], [], _, _ => by simp [joinP, Rows.uptoBulkAll]
  | [], _ :: _, h, _ => by simp at h
  | _ :: _, [], h, _ => by simp at h
  | p :: ps, d :: ds, h, hi => by
    have h0 := hi 0 (by simp) (by simp)
    have h1 := join_bulk ps ds (by simpa using h) fun i h1 h2 => by
      have := hi (i + 1) (by simp; omega) (by simp; omega)
      simpa using this
    simp only [List.getElem_cons_zero] at h0
    simp only [joinP, List.flatMap_cons, List.length_append, List.length_cons, Rows.uptoBulkAll] at h1 ⊢
    omega
theorem open_parts {r : Reach} {b0 base : Nat} {w : World} {spare : Nat → Bool} {held : Bool} {v : Value} {d : DataW H} {qs : List MemPlace}
    (hval : Value.okWide cx.P w r b0 48 v) (hd : DataW.Trod enc cx.P w base spare held 48 v d qs) :
    ∃ A c ps, v = .slice A (List.length ps) c ∧ Parts w A ps ∧ ps.length ≤ c ∧ (joinP ps).length + ps.length + 1 ≤ Rows.uptoBulk d := by
  have ht : cx.P.underlying 48 = some (.slice 22) := TIok.slice (tabOk _ ti48 rfl)
  have hce : cx.P.cellsOf 22 = 1 := by kernel_rfl
  obtain ⟨a0, len, cap, rfl⟩ := okWide_slice ht hval
  obtain ⟨fuel, hf⟩ := hd
  have hA : ∀ k, inBlk a0 k → k < w.heap.size := by
    rintro k ⟨off, sp, rfl⟩
    simp only [Value.okWide, ht, Cell.okWide, Cell.ok] at hval
    exact (has_lt hval.2.2).2
  rcases DataW.trod_slice ht hf with ⟨h, hx⟩ | ⟨a, len', cap', elems, rest, n, _, h, hx, hb, hl, hm, hlen, hel, _, _⟩
  · simp [Value.cells] at h
    obtain ⟨rfl, rfl, rfl⟩ := h
    obtain ⟨rfl, rfl⟩ := Prod.mk.inj hx
    exact ⟨none, 0, [], rfl, ⟨.inl rfl, hA, fun p hp => by cases hp⟩, Nat.le_refl _, by simp [joinP, Rows.uptoBulk]⟩
  · simp [Value.cells] at h
    obtain ⟨rfl, rfl, rfl⟩ := h
    obtain ⟨rfl, rfl⟩ := Prod.mk.inj hx
    have each : ∀ i, i < len → ∃ x : Part, w.cell? (a.add i) = some (pv x) ∧ (Cells w x.1 (bv x.2.2) ∧ x.2.2.length ≤ x.2.1) ∧ ∀ y, elems[i]? = some y → x.2.2.length + 1 ≤ Rows.uptoBulk y.1 := by
      intro i hi
      have h1 := hel i hi
      rw [List.getElem?_eq_getElem (by omega)] at h1
      obtain ⟨cs, h2, h3⟩ := Option.bind_eq_some_iff.mp h1
      rw [hce] at h2
      obtain ⟨_, h4, h5⟩ := World.cells?_some h2
      obtain ⟨A, c, l, rfl, hlc, hcl, hd⟩ := open_elem h3
      have g := h5 0 (by decide)
      refine ⟨(A, c, l), ?_, ⟨hcl, hlc⟩, fun y hy => ?_⟩
      · rw [Nat.mul_one] at g
        have e : (a.add i).add 0 = a.add i := by cases a; unfold Addr.add; split <;> simp_all
        rw [e] at g
        exact g
      · rw [List.getElem?_eq_getElem (by omega)] at hy
        injection hy with hy
        subst hy
        rcases hd with ⟨e1, e2⟩ | ⟨el, sp, e1, e2⟩
        · rw [e1, e2]
          simp [Rows.uptoBulk]
        · rw [e1, ← e2]
          have := bulks.slice_le el sp
          omega
    obtain ⟨ps, hps, hp⟩ := pick_list each
    have hbulk : (joinP ps).length + ps.length ≤ Rows.uptoBulkAll (elems.map (·.1)) := by
      refine join_bulk ps _ (by rw [hps, List.length_map, hlen]) fun i h1 h2 => ?_
      have h3 : i < elems.length := by rw [List.length_map] at h2; exact h2
      have := (hp i h1).2.2 elems[i] (List.getElem?_eq_getElem h3)
      simpa using this
    have hlast := bulks.slice_elems (elems.map (·.1)) (rest.map (·.1))
    refine ⟨some a, cap, ps, by rw [hps], ⟨?_, hA, fun p hpm => ?_⟩, by omega, by omega⟩
    · by_cases h0 : ps = []
      · exact .inl (by rw [h0]; rfl)
      · have hpos : 0 < ps.length := List.length_pos_iff.2 h0
        obtain ⟨b, off, spot⟩ := a
        have g0 := (hp 0 hpos).1
        have hspot : spot = none := by simpa [Addr.add] using World.cell?_spot g0
        subst hspot
        refine .inr ⟨b, off, rfl, fun i hi => ?_⟩
        have hi' : i < ps.length := by simpa using hi
        have g := (hp i hi').1
        rw [add_plain] at g
        rw [g]
        simp
    · obtain ⟨i, hi, rfl⟩ := List.getElem_of_mem hpm
      exact (hp i hi).2.1
end Go.Proofs.YtmcdcfbhpdacfaaDoor

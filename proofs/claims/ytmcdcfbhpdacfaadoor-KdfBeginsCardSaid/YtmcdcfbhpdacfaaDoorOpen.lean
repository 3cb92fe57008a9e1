import Derived.Test.YtmcdcfbhpdacfaaDoorPost

/-
  What an argument of a law is: opened out of its reading.
-/

namespace Go.Proofs.YtmcdcfbhpdacfaaDoor.Sx

open Go Go.ChangeShapes Go.WideShapes Go.ChangeAt Go.RowKit

variable {H : Type} {enc : TypeId × Value → H} {P : Program}

/-- A slice's block, where its place is known. -/
theorem has_lt {w : World} {r : Reach} {base : Nat} {a : Addr} {e : TypeId} {n : Nat} (h : w.has P r base a e n) : a.spot = none ∧ a.block < w.heap.size := by
  obtain ⟨_, h1, row, cells, h2, _⟩ := h
  refine ⟨h1, ?_⟩
  unfold World.shape? at h2
  by_cases hlt : a.block < w.heap.size
  · exact hlt
  · rw [Array.getElem?_eq_none (by omega)] at h2
    simp at h2

theorem open_bytes {r : Reach} {b0 base : Nat} {t e : TypeId} {w : World} {spare : Nat → Bool} {held : Bool} {v : Value} {d : DataW H} {ps : List MemPlace} (ht : P.underlying t = some (.slice e)) (he : P.underlying e = some (.int .u8)) (hc : P.cellsOf e = 1)
    (hval : Value.okWide P w r b0 t v) (hd : DataW.Trod enc P w base spare held t v d ps) :
    ∃ A c l, v = .slice A l.length c ∧ l.length ≤ c ∧ c ≤ maxLen ∧ Cells w A (bv l) ∧ (∀ k, inBlk A k → k < w.heap.size) ∧ (d = .nil ∧ l = [] ∨ ∃ el sp, d = .slice el sp ∧ el.length = l.length) := by
  obtain ⟨a0, len, cap, rfl⟩ := okWide_slice ht hval
  obtain ⟨fuel, hf⟩ := hd
  have hA : ∀ k, inBlk a0 k → k < w.heap.size := by
    rintro k ⟨off, sp, rfl⟩
    simp only [Value.okWide, ht, Cell.okWide, Cell.ok] at hval
    exact (has_lt hval.2.2).2
  rcases open_ints ht he hc hf with ⟨h, hx⟩ | ⟨a, len', cap', zs, h, hb, hl, hm, hlen, hx, hcell, hw⟩
  · simp [Value.cells] at h
    obtain ⟨rfl, rfl, rfl⟩ := h
    obtain ⟨rfl, rfl⟩ := Prod.mk.inj hx
    exact ⟨none, 0, [], rfl, Nat.le_refl _, Nat.zero_le _, .inl rfl, hA, .inl ⟨rfl, rfl⟩⟩
  · simp [Value.cells] at h
    obtain ⟨rfl, rfl, rfl⟩ := h
    obtain ⟨rfl, rfl⟩ := Prod.mk.inj hx
    have hle : len ≤ zs.length := by rw [hlen]; split <;> omega
    refine ⟨some a, cap, (zs.take len).map fun z => UInt8.ofNat z.toNat, by simp [Nat.min_eq_left hle], by simp; omega, hm, ?_, hA, .inr ⟨_, _, rfl, by simp [lits]⟩⟩
    by_cases h0 : len = 0
    · subst h0
      exact .inl (by simp [bv])
    · obtain ⟨b, off, spot⟩ := a
      have g0 := hcell 0 (by omega)
      have hspot : spot = none := by simpa [Addr.add] using World.cell?_spot g0
      subst hspot
      refine .inr ⟨b, off, rfl, fun i hi => ?_⟩
      have hi' : i < len := by simp [bv] at hi; omega
      have g := hcell i (by omega)
      have hz : (Lit.int .u8 (zs.getD i 0)).wf = true := hw _ (by rw [List.getD_eq_getElem?_getD, List.getElem?_eq_getElem (by omega)]; simp)
      rw [add_plain] at g
      rw [g]
      simp only [Lit.wf, Bool.and_eq_true, decide_eq_true_eq, show IntKind.min .u8 = 0 from rfl, show IntKind.max .u8 = 255 from rfl] at hz
      have hz2 : zs.getD i 0 = zs[i]'(by omega) := by rw [List.getD_eq_getElem?_getD, List.getElem?_eq_getElem (by omega)]; rfl
      rw [hz2] at hz ⊢
      simp [bv]
      omega

theorem open_str {r : Reach} {b0 base : Nat} {t : TypeId} {w : World} {spare : Nat → Bool} {held : Bool} {v : Value} {d : DataW H} {ps : List MemPlace} (ht : P.underlying t = some .string)
    (hval : Value.okWide P w r b0 t v) (hd : DataW.Trod enc P w base spare held t v d ps) :
    ∃ s : ByteArray, v = .string s ∧ d = .lit (.string s.data.toList) ∧ s.size ≤ 9223372036854775807 := by
  obtain ⟨s, h1, h2, h3, h4⟩ := Go.ChangeMaps.open_string ht hval hd
  exact ⟨s, h1, h2, h4⟩

theorem open_nat {k : IntKind} {r : Reach} {b0 base : Nat} {t : TypeId} {w : World} {spare : Nat → Bool} {held : Bool} {v : Value} {d : DataW H} {ps : List MemPlace} (ht : P.underlying t = some (.int k)) (hk : k.min = 0)
    (hval : Value.okWide P w r b0 t v) (hd : DataW.Trod enc P w base spare held t v d ps) :
    ∃ n : Nat, v = .int k (n : Int) ∧ d = .lit (.int k (n : Int)) ∧ (n : Int) ≤ k.max := by
  obtain ⟨a, h1, h2, h3, h4⟩ := open_int ht hval hd
  obtain ⟨n, rfl, hn⟩ := nat_of h4 hk
  exact ⟨n, h1, h2, hn⟩

theorem open_i64 {r : Reach} {b0 base : Nat} {t : TypeId} {w : World} {spare : Nat → Bool} {held : Bool} {v : Value} {d : DataW H} {ps : List MemPlace} (ht : P.underlying t = some (.int .i64))
    (hval : Value.okWide P w r b0 t v) (hd : DataW.Trod enc P w base spare held t v d ps) :
    ∃ z : Int, v = .int .i64 z ∧ d = .lit (.int .i64 z) ∧ -9223372036854775808 ≤ z ∧ z ≤ 9223372036854775807 := by
  obtain ⟨a, h1, h2, h3, h4⟩ := open_int ht hval hd
  simp only [Lit.wf, Bool.and_eq_true, decide_eq_true_eq, show IntKind.min .i64 = -9223372036854775808 from rfl, show IntKind.max .i64 = 9223372036854775807 from rfl] at h4
  exact ⟨a, h1, h2, h4.1, h4.2⟩

/-- A slice, element by element. -/
theorem open_rows {r : Reach} {b0 base : Nat} {t e sz : Nat} {w : World} {spare : Nat → Bool} {held : Bool} {v : Value} {d : DataW H} {ps : List MemPlace} (ht : P.underlying t = some (.slice e)) (hc : P.cellsOf e = sz) (hpos : 0 < sz)
    (hval : Value.okWide P w r b0 t v) (hd : DataW.Trod enc P w base spare held t v d ps) :
    ∃ A n c, v = .slice A n c ∧ n ≤ c ∧ c ≤ maxLen ∧ (∀ k, inBlk A k → k < w.heap.size) ∧
      (∀ i, i < n → ∃ b off cs y m, A = some ⟨b, off, none⟩ ∧ cs.length = sz ∧ (∀ j, j < sz → w.cell? ⟨b, off + i * sz + j, none⟩ = cs[j]?) ∧ DataW.trod enc P w base spare held m e cs = some y) ∧
      (d = .nil ∧ n = 0 ∨ ∃ el sp, d = .slice el sp ∧ el.length = n) := by
  obtain ⟨a0, len, cap, rfl⟩ := okWide_slice ht hval
  obtain ⟨fuel, hf⟩ := hd
  have hA : ∀ k, inBlk a0 k → k < w.heap.size := by
    rintro k ⟨off, sp, rfl⟩
    simp only [Value.okWide, ht, Cell.okWide, Cell.ok] at hval
    exact (has_lt hval.2.2).2
  rcases DataW.trod_slice ht hf with ⟨h, hx⟩ | ⟨a, len', cap', elems, rest, n, _, h, hx, hb, hl, hm, hlen, hel, _, _⟩
  · simp [Value.cells] at h
    obtain ⟨rfl, rfl, rfl⟩ := h
    obtain ⟨rfl, rfl⟩ := Prod.mk.inj hx
    exact ⟨none, 0, 0, rfl, Nat.le_refl _, Nat.zero_le _, hA, fun i hi => absurd hi (by omega), .inl ⟨rfl, rfl⟩⟩
  · simp [Value.cells] at h
    obtain ⟨rfl, rfl, rfl⟩ := h
    obtain ⟨rfl, rfl⟩ := Prod.mk.inj hx
    refine ⟨some a, len, cap, rfl, hl, hm, hA, fun i hi => ?_, .inr ⟨_, _, rfl, by simp [hlen]⟩⟩
    have h1 := hel i hi
    rw [List.getElem?_eq_getElem (by omega)] at h1
    obtain ⟨cs, h2, h3⟩ := Option.bind_eq_some_iff.mp h1
    rw [hc] at h2
    obtain ⟨_, h4, h5⟩ := World.cells?_some h2
    obtain ⟨b, off, spot⟩ := a
    have hspot : spot = none := by
      have h1 := hel 0 (by omega)
      rw [List.getElem?_eq_getElem (by omega)] at h1
      obtain ⟨cs, h2, h3⟩ := Option.bind_eq_some_iff.mp h1
      rw [hc] at h2
      obtain ⟨_, h4, h5⟩ := World.cells?_some h2
      have g0 := h5 0 hpos
      rw [List.getElem?_eq_getElem (by omega)] at g0
      simpa [Addr.add] using World.cell?_spot g0
    subst hspot
    refine ⟨b, off, cs, _, n, rfl, h4, fun j hj => ?_, h3⟩
    have := h5 j hj
    rwa [add_plain, add_plain] at this
theorem pick_list {α : Type} [Inhabited α] {n : Nat} {p : Nat → α → Prop} (h : ∀ i, i < n → ∃ x, p i x) : ∃ l : List α, l.length = n ∧ ∀ i (hi : i < l.length), p i l[i] := by
  induction n with
  | zero => exact ⟨[], rfl, fun i hi => absurd hi (by simp)⟩
  | succ n ih =>
    obtain ⟨l, hl, hp⟩ := ih fun i hi => h i (by omega)
    obtain ⟨x, hx⟩ := h n (by omega)
    refine ⟨l ++ [x], by simp [hl], fun i hi => ?_⟩
    by_cases hin : i < l.length
    · rw [List.getElem_append_left hin]
      exact hp i hin
    · have : i = n := by simp at hi; omega
      subst this
      rw [List.getElem_append_right (by omega)]
      simpa [hl] using hx

end Go.Proofs.YtmcdcfbhpdacfaaDoor.Sx

import Derived.Test.YtfphlbogblldbaaOpen
import Derived.Test.YtfphlbogblldbaaEq
import Derived.Test.YtfphlbogblldbaaBulk

/-
  A slice of byte slices, opened out of its reading.
-/



namespace Go.Proofs.Ytfphlbogblldbaa

open Go Sx Go.ChangeShapes Go.WideShapes Go.ChangeAt Go.RowKit

set_option linter.unusedVariables false

set_option linter.unusedSimpArgs false

set_option maxRecDepth 100000

variable {H : Type} {enc : TypeId × Value → H}

/-- An element of a slice of byte slices. -/
theorem open_elem {base m : Nat} {w : World} {spare : Nat → Bool} {held : Bool} {cs : List Value} {x : DataW H × List MemPlace} (h : DataW.trod enc cx.P w base spare held m 23 cs = some x) :
    ∃ A c l, cs = [.slice A l.length c] ∧ l.length ≤ c ∧ Cells w A (bv l) ∧ (x.1 = .nil ∧ l = [] ∨ ∃ el sp, x.1 = .slice el sp ∧ el.length = l.length) := by
  rcases open_ints tiB.slice tiU8.int (by kernel_rfl) h with ⟨h, hx⟩ | ⟨a, len, cap, zs, h, hb, hl, hm, hlen, hx, hcell, hw⟩
  · exact ⟨none, 0, [], h, Nat.le_refl _, .inl rfl, .inl ⟨by rw [hx], rfl⟩⟩
  · have hle : len ≤ zs.length := by rw [hlen]; split <;> omega
    refine ⟨some a, cap, (zs.take len).map fun z => UInt8.ofNat z.toNat, by rw [h]; simp [Nat.min_eq_left hle], by simp; omega, ?_, .inr ⟨_, _, by rw [hx], by simp [lits]⟩⟩
    by_cases h0 : len = 0
    · subst h0
      exact .inl (by simp [bv])
    · obtain ⟨b, off, spot⟩ := a
      have g0 := hcell 0 (by omega)
      have hspot : spot = none := by simpa [Addr.add] using World.cell?_spot g0
      subst hspot
      refine .inr ⟨b, off, rfl, fun i hi => ?_⟩
      have hi' : i < len := by simp [bv] at hi; omega
      have g := hcell i (by omega)
      have hz : (Lit.int .u8 (zs.getD i 0)).wf = true := hw _ (by rw [List.getD_eq_getElem?_getD, List.getElem?_eq_getElem (by omega)]; simp)
      rw [add_plain] at g
      rw [g]
      simp only [Lit.wf, Bool.and_eq_true, decide_eq_true_eq, show IntKind.min .u8 = 0 from rfl, show IntKind.max .u8 = 255 from rfl] at hz
      have hz2 : zs.getD i 0 = zs[i]'(by omega) := by rw [List.getD_eq_getElem?_getD, List.getElem?_eq_getElem (by omega)]; rfl
      rw [hz2] at hz ⊢
      simp [bv]
      omega
theorem join_bulk : ∀ (ps : List Part) (ds : List (DataW H)), ps.length = ds.length → (∀ i (h1 : i < ps.length) (h2 : i < ds.length), (ps[i]).2.2.length + 1 ≤ Rows.uptoBulk ds[i]) → (joinP ps).length + ps.length ≤ Rows.uptoBulkAll ds
  | [], [], _, _ => by simp [joinP, Rows.uptoBulkAll]
  | [], _ :: _, h, _ => by simp at h
  | _ :: _, [], h, _ => by simp at h
  | p :: ps, d :: ds, h, hi => by
    have h0 := hi 0 (by simp) (by simp)
    have h1 := join_bulk ps ds (by simpa using h) fun i h1 h2 => by
      have := hi (i + 1) (by simp; omega) (by simp; omega)
      simpa using this
    simp only [List.getElem_cons_zero] at h0
    simp only [joinP, List.flatMap_cons, List.length_append, List.length_cons, Rows.uptoBulkAll] at h1 ⊢
    omega
end Go.Proofs.Ytfphlbogblldbaa

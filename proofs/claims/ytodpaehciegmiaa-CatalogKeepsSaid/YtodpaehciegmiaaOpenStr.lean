import Derived.Test.YtodpaehciegmiaaOpen
import Derived.Test.YtodpaehciegmiaaEq
import Derived.Test.YtodpaehciegmiaaBulk

/-
  A slice of texts, opened out of its reading.
-/



namespace Go.Proofs.Ytodpaehciegmiaa

open Go Sx Go.ChangeShapes Go.WideShapes Go.ChangeAt Go.RowKit

set_option linter.unusedVariables false

set_option linter.unusedSimpArgs false

set_option maxRecDepth 100000

variable {H : Type} {enc : TypeId × Value → H}

def strs (l : List ByteArray) : List Value := l.map Value.string
theorem open_strs {r : Reach} {b0 base : Nat} {w : World} {spare : Nat → Bool} {held : Bool} {v : Value} {d : DataW H} {qs : List MemPlace}
    (hval : Value.okWide cx.P w r b0 44 v) (hd : DataW.Trod enc cx.P w base spare held 44 v d qs) :
    ∃ A c l, v = .slice A (List.length l) c ∧ l.length ≤ c ∧ l.length ≤ 9223372036854775807 ∧ Cells w A (strs l) ∧ ∀ s ∈ l, s.size ≤ 9223372036854775807 := by
  have ht : cx.P.underlying 44 = some (.slice 9) := TIok.slice (tabOk _ ti44 rfl)
  have hce : cx.P.cellsOf 9 = 1 := by kernel_rfl
  obtain ⟨a0, len, cap, rfl⟩ := okWide_slice ht hval
  obtain ⟨fuel, hf⟩ := hd
  rcases DataW.trod_slice ht hf with ⟨h, hx⟩ | ⟨a, len', cap', elems, rest, n, _, h, hx, hb', hl, hm, hlen, hel, _, _⟩
  · simp [Value.cells] at h
    obtain ⟨rfl, rfl, rfl⟩ := h
    exact ⟨none, 0, [], rfl, Nat.le_refl _, by decide, .inl rfl, fun s hs => by cases hs⟩
  · simp [Value.cells] at h
    obtain ⟨rfl, rfl, rfl⟩ := h
    obtain ⟨rfl, rfl⟩ := Prod.mk.inj hx
    have e9 : maxLen = 9223372036854775807 := rfl
    have each : ∀ i, i < len → ∃ s : ByteArray, w.cell? (a.add i) = some (.string s) ∧ s.size ≤ 9223372036854775807 := by
      intro i hi
      have h1 := hel i hi
      rw [List.getElem?_eq_getElem (by omega)] at h1
      obtain ⟨cs, h2, h3⟩ := Option.bind_eq_some_iff.mp h1
      rw [hce] at h2
      obtain ⟨_, h4, h5⟩ := World.cells?_some h2
      obtain ⟨s, rfl, hs2, hs3⟩ := DataW.trod_string (TIok.string (tabOk _ ti9 rfl)) h3
      have g := h5 0 (by decide)
      refine ⟨s, ?_, ?_⟩
      · rw [Nat.mul_one] at g
        have e : (a.add i).add 0 = a.add i := by cases a; unfold Addr.add; split <;> simp_all
        rw [e] at g
        exact g
      · exact Nat.le_trans hs3 (Nat.le_of_eq rfl)
    obtain ⟨l, hll, hp⟩ := pick_list (α := ByteArray) each
    subst hll
    refine ⟨some a, cap, l, rfl, hl, by omega, ?_, fun s hs => ?_⟩
    · by_cases h0 : l = []
      · exact .inl (by rw [h0]; rfl)
      · have hpos : 0 < l.length := List.length_pos_iff.2 h0
        obtain ⟨b, off, spot⟩ := a
        have g0 := (hp 0 hpos).1
        have hspot : spot = none := by simpa [Addr.add] using World.cell?_spot g0
        subst hspot
        refine .inr ⟨b, off, rfl, fun i hi => ?_⟩
        have hi' : i < l.length := by simpa [strs] using hi
        have g := (hp i hi').1
        rw [add_plain] at g
        rw [g]
        simp [strs]
    · obtain ⟨i, hi, rfl⟩ := List.getElem_of_mem hs
      exact (hp i hi).2
end Go.Proofs.Ytodpaehciegmiaa

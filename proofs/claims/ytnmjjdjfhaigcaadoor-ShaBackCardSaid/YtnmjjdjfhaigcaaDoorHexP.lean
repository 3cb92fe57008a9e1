import Derived.Test.YtnmjjdjfhaigcaaDoorParse2

/-
  Digits and what is read of them: one is the other's way back.
-/

namespace Go.Proofs.YtnmjjdjfhaigcaaDoor

open Go Sx

set_option linter.unusedVariables false

set_option linter.unusedSimpArgs false

theorem hexS_get : ∀ (b : List UInt8) (k : Nat), k < b.length → (hexS b).getD (2 * k) 0 = digs.getD ((b.getD k 0).toNat / 16) 0 ∧ (hexS b).getD (2 * k + 1) 0 = digs.getD ((b.getD k 0).toNat % 16) 0 := by
  intro b
  induction b with
  | nil => intro k h; exact absurd h (by simp)
  | cons a r ih =>
    intro k h
    have e : hexS (a :: r) = digs.getD (a.toNat / 16) 0 :: digs.getD (a.toNat % 16) 0 :: hexS r := rfl
    rw [e]
    cases k with
    | zero => exact ⟨rfl, rfl⟩
    | succ k =>
      have := ih k (by simpa using h)
      rw [show 2 * (k + 1) = 2 * k + 1 + 1 from by omega]
      simpa only [List.getD_cons_succ] using this
theorem dv_digs : ∀ d : Fin 16, dv (digs.getD d.val 0) = (d.val : Int) := by decide +kernel
theorem hex_ok {x : List UInt8} (h : x.length = 32) : okP (hexS x) ∧ valP (hexS x) = x := by
  have g : ∀ k, k < 32 → dv ((hexS x).getD (2 * k) 0) = (((x.getD k 0).toNat / 16 : Nat) : Int) ∧ dv ((hexS x).getD (2 * k + 1) 0) = (((x.getD k 0).toNat % 16 : Nat) : Int) := fun k hk => by
    obtain ⟨e1, e2⟩ := hexS_get x k (by omega)
    have hb := (x.getD k 0).toNat_lt
    rw [e1, e2]
    exact ⟨dv_digs ⟨_, by omega⟩, dv_digs ⟨_, by omega⟩⟩
  refine ⟨⟨by rw [hexS_length, h], fun k hk => ?_⟩, List.ext_getElem (by rw [valP_length, h]) fun j h1 h2 => ?_⟩
  · have := g (k / 2) (by omega)
    by_cases e : k % 2 = 0
    · rw [show k = 2 * (k / 2) from by omega, this.1]; omega
    · rw [show k = 2 * (k / 2) + 1 from by omega, this.2]; omega
  · rw [valP_length] at h1
    have e := valP_get (hexS x) h1
    have hg := g j h1
    unfold pairP at e
    rw [hg.1, hg.2, Int.toNat_natCast, Int.toNat_natCast, show 16 * ((x.getD j 0).toNat / 16) + (x.getD j 0).toNat % 16 = (x.getD j 0).toNat from by omega, UInt8.ofNat_toNat] at e
    simpa [List.getD_eq_getElem?_getD, h2, show j < (valP (hexS x)).length from by rw [valP_length]; exact h1] using e
theorem hex_val {s : List UInt8} (h : okP s) : hexS (valP s) = s := by
  have d16 : ∀ k, k < 64 → digs.getD (dv (s.getD k 0)).toNat 0 = s.getD k 0 := fun k hk => by
    have h0 := h.2 k hk
    have h1 := dv_range (s.getD k 0)
    have := (dv_dig (s.getD k 0) (dv (s.getD k 0)).toNat (by omega)).2 (by omega)
    exact UInt8.toNat_inj.1 this
  have g : ∀ n, n < 64 → (hexS (valP s)).getD n 0 = s.getD n 0 := fun n hn => by
    obtain ⟨e1, e2⟩ := hexS_get (valP s) (n / 2) (by rw [valP_length]; omega)
    rw [valP_get s (by omega)] at e1 e2
    have a1 := dv_range (s.getD (2 * (n / 2)) 0)
    have a2 := dv_range (s.getD (2 * (n / 2) + 1) 0)
    have pk := (pack ⟨(dv (s.getD (2 * (n / 2)) 0)).toNat, by omega⟩ ⟨(dv (s.getD (2 * (n / 2) + 1) 0)).toNat, by omega⟩).2
    dsimp only at pk
    unfold pairP at e1 e2
    rw [pk] at e1 e2
    rw [show ∀ a b : Nat, b < 16 → (16 * a + b) / 16 = a from fun a b h => by omega] at e1
    rw [show ∀ a b : Nat, b < 16 → (16 * a + b) % 16 = b from fun a b h => by omega] at e2
    rw [d16 _ (by omega)] at e1 e2
    by_cases e : n % 2 = 0
    · rw [show 2 * (n / 2) = n from by omega] at e1; exact e1
    · rw [show 2 * (n / 2) + 1 = n from by omega] at e2; exact e2
    all_goals omega
  refine List.ext_getElem (by rw [hexS_length, valP_length, h.1]) fun n h1 h2 => ?_
  have := g n (by have := h.1; omega)
  simpa [List.getD_eq_getElem?_getD, h1, h2] using this

theorem sby_back (s : ByteArray) : (⟨(sby s).toArray⟩ : ByteArray) = s := by cases s; simp [sby]
theorem sby_of (l : List UInt8) : sby ⟨l.toArray⟩ = l := by simp [sby]
end Go.Proofs.YtnmjjdjfhaigcaaDoor

import Derived.Test.YtmcdcfbhpdacfaaDoorSxA
import Derived.Test.YtmcdcfbhpdacfaaDoorOct2

/-
  The conversion of bytes to bytes: the slice stays, its block is marked.
-/


namespace Go.Proofs.YtmcdcfbhpdacfaaDoor

open Go Sx

set_option linter.unusedVariables false

set_option linter.unusedSimpArgs false

theorem Mk.bytes {B : Nat} {S : Nat → Prop} {w : World} {base c : Nat} {A : Option Addr} {l : List UInt8} {K : Value → World → Prop} (h : OB w base (.slice A l.length c) l) (hne : l ≠ []) (hB : B ≤ base)
    (k : ∀ w', Exf B S w w' → OB w' base (.slice A l.length c) l → K (.slice A l.length c) w') : Mk cx.P B S w 22 22 (.slice A l.length c) K := by
  have h0 := h
  rcases h0.2 with ⟨_, e0⟩ | ⟨b, c', sp, fr, e, hb, hc, hat, h3, hf⟩
  · exact absurd (List.eq_nil_of_length_eq_zero e0) hne
  · obtain ⟨rfl, -, rfl⟩ := Value.slice.inj e
    have hsh : w.shape? b = some (5, (bv l ++ sp).toArray.size) := by
      unfold At at hat
      simp [World.shape?, hat]
    have hrun : (convert 22 22 (.slice (some ⟨b, 0, none⟩) l.length c)).run cx.P w = .ok (.slice (some ⟨b, 0, none⟩) l.length c) (w.freeze ⟨b, (bv l ++ sp).toArray.size, none⟩ 1) := by
      simp [convert, run_underlying tiB.slice, run_underlying tiU8.int, markStringish, hsh]
    have hget : ∀ j, (w.freeze ⟨b, (bv l ++ sp).toArray.size, none⟩ 1).heap[j]? = if j = b then some (.cells (bv l ++ sp).toArray 5 (if fr.1 == fr.2 then ((bv l ++ sp).toArray.size, (bv l ++ sp).toArray.size + 1) else (min fr.1 (bv l ++ sp).toArray.size, max fr.2 ((bv l ++ sp).toArray.size + 1)))) else w.heap[j]? := by
      intro j
      unfold At at hat
      simp only [World.freeze, Nat.one_ne_zero, if_false, Array.getElem?_modify]
      by_cases e : j = b
      · subst e
        rw [if_pos rfl, if_pos rfl, hat]
        rfl
      · rw [if_neg (fun h => e h.symm), if_neg e]
    have hsz : (bv l ++ sp).toArray.size = c := by
      rw [List.size_toArray, h3, Nat.mul_one]
    have hfr : (bv l ++ sp).toArray.size ≤ (if fr.1 == fr.2 then ((bv l ++ sp).toArray.size, (bv l ++ sp).toArray.size + 1) else (min fr.1 (bv l ++ sp).toArray.size, max fr.2 ((bv l ++ sp).toArray.size + 1))).1 := by
      rcases hf with rfl | hf
      · simp
      · split
        · exact Nat.le_refl _
        · rw [hsz]
          simp only
          omega
    have hx : Exf B S w (w.freeze ⟨b, (bv l ++ sp).toArray.size, none⟩ 1) := by
      refine ⟨rfl, rfl, rfl, ?_, fun j hj hjB _ => ?_, fun j o _ ho => ?_⟩
      · simp [World.freeze]
      · rw [hget, if_neg (by omega)]
      · rw [hget]
        by_cases e : j = b
        · subst e
          rw [if_pos rfl]
          unfold At at hat
          rw [hat] at ho
          injection ho with ho
          exact .inr ⟨_, _, fr, _, ho.symm, rfl, hfr⟩
        · rw [if_neg e]
          exact .inl ho
    refine ⟨_, hrun, hx, k _ hx ⟨h.1, .inr ⟨b, c, sp, _, rfl, hb, hc, ?_, h3, .inr (by rw [Nat.mul_one, ← hsz]; exact hfr)⟩⟩⟩
    unfold At
    rw [hget, if_pos rfl]
theorem Run.convB {w : World} {base c : Nat} {A : Option Addr} {l : List UInt8} {K : Value → World → Prop} (h : OB w base (.slice A l.length c) l) (hne : l ≠ [])
    (k : ∀ w', Exf base Non w w' → OB w' base (.slice A l.length c) l → K (.slice A l.length c) w') : Run cx.P .plain w (convert 22 22 (.slice A l.length c)) K := by
  obtain ⟨w', h1, _, h3⟩ := (Mk.bytes (B := base) (S := Non) h hne (Nat.le_refl _) k).out
  exact ⟨_, w', h1, trivial, h3⟩
end Go.Proofs.YtmcdcfbhpdacfaaDoor

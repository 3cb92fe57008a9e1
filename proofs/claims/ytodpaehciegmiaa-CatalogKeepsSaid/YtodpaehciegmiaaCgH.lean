import Derived.Test.YtodpaehciegmiaaCgF

/-
  Snapshots in rising order: plain facts.
-/

namespace Go.Proofs.Ytodpaehciegmiaa

open Go Sx

set_option linter.unusedVariables false

set_option linter.unusedSimpArgs false

set_option maxRecDepth 100000

structure Srt (l : List NSnap) : Prop where
  name : ∀ x ∈ l, nameS x.1 = true
  rise : l.Pairwise fun x y => lessS x.1 y.1 = true
theorem Srt.nil : Srt [] := ⟨fun x hx => (by cases hx), List.Pairwise.nil⟩
theorem Srt.namesOk {l : List NSnap} (h : Srt l) : namesOk l = true := namesOk_true fun i hi => by
  rw [okAt_eq hi, h.name _ (List.getElem_mem hi), Bool.true_and]
  split
  · rfl
  · exact List.pairwise_iff_getElem.1 h.rise (i - 1) i (by omega) hi (by omega)
theorem Srt.ext : ∀ {a b : List NSnap}, Srt a → Srt b → (∀ x, x ∈ a ↔ x ∈ b) → a = b
  | [], [], _, _, _ => rfl
  | [], y :: b, _, _, h => absurd ((h y).2 (by simp)) (by simp)
  | x :: a, [], _, _, h => absurd ((h x).1 (by simp)) (by simp)
  | x :: a, y :: b, ha, hb, h => by
    have pa := List.pairwise_cons.1 ha.rise
    have pb := List.pairwise_cons.1 hb.rise
    have hxy : x = y := by
      rcases List.mem_cons.1 ((h x).1 (by simp)) with e | e
      · exact e
      rcases List.mem_cons.1 ((h y).2 (by simp)) with e2 | e2
      · exact e2.symm
      have h1 := pb.1 _ e
      have h2 := pa.1 _ e2
      rw [lessS_asymm h1] at h2
      cases h2
    subst hxy
    have hi : ∀ z : NSnap, lessS z.1 z.1 = true → False := fun z hz => by rw [lessS_irrefl] at hz; cases hz
    refine congrArg _ (Srt.ext ⟨fun z hz => ha.name z (by simp [hz]), pa.2⟩ ⟨fun z hz => hb.name z (by simp [hz]), pb.2⟩ fun z => ⟨fun hz => ?_, fun hz => ?_⟩)
    · rcases List.mem_cons.1 ((h z).1 (by simp [hz])) with e | e
      · subst e
        exact (hi z (pa.1 _ hz)).elim
      · exact e
    · rcases List.mem_cons.1 ((h z).2 (by simp [hz])) with e | e
      · subst e
        exact (hi z (pb.1 _ hz)).elim
      · exact e
/-- A name added, if it may be. -/
def addS (t : NRef) (l : List NSnap) (s : ByteArray) : List NSnap := if (snapC t l s).2 = 0 then (snapC t l s).1.2 else l
structure Good (t : NRef) (l : List NSnap) : Prop where
  srt : Srt l
  top : ∀ x ∈ l, x.2 = t
theorem Good.check {t : NRef} {l : List NSnap} (h : Good t l) (ht : goodT t = true) (hl : l.length ≤ 64) : checkC t l = 0 := by
  unfold checkC
  rw [if_neg (by omega), if_neg (by rw [h.srt.namesOk]; decide), if_neg]
  unfold topsOk
  rw [ht, Bool.true_and, List.all_eq_true.2 fun x hx => by rw [h.top x hx]; exact ht]
  decide
theorem not_there {l : List NSnap} {s : ByteArray} (h : ¬ 0 ≤ idxP (nameP s) l) : ∀ x ∈ l, x.1 ≠ s := fun x hx e => by
  have h1 : l.any (nameP s) = true := List.any_eq_true.2 ⟨x, hx, decide_eq_true e⟩
  rw [← idx_any, decide_eq_false h] at h1
  cases h1
theorem Srt.ins {t : NRef} {l : List NSnap} {s : ByteArray} (h : Srt l) (hs : nameS s = true) (hn : ∀ x ∈ l, x.1 ≠ s) : Srt (insS t s l) := by
  have hmem : ∀ x, x ∈ insS t s l → x = (s, t) ∨ x ∈ l := fun x hx => by
    rcases List.mem_append.1 hx with hx | hx
    · exact .inr (List.mem_of_mem_take hx)
    rcases List.mem_cons.1 hx with hx | hx
    · exact .inl hx
    · exact .inr (List.mem_of_mem_drop hx)
  have hlow : ∀ x ∈ l.take (insK s l), lessS x.1 s = true := fun x hx => by
    obtain ⟨i, hi, rfl⟩ := List.mem_iff_getElem.1 hx
    rw [List.length_take] at hi
    rw [List.getElem_take]
    exact insK_lt (by omega) (by omega)
  have hup : ∀ x ∈ l.drop (insK s l), lessS s x.1 = true := fun x hx => by
    obtain ⟨i, hi, rfl⟩ := List.mem_iff_getElem.1 hx
    rw [List.length_drop] at hi
    rw [List.getElem_drop]
    have hk : insK s l < l.length := by omega
    have h0 : lessS s l[insK s l].1 = true := by rw [less_neg (hn _ (List.getElem_mem hk)), insK_at hk rfl]; rfl
    by_cases hi0 : i = 0
    · subst hi0
      exact h0
    · exact lessS_trans h0 (List.pairwise_iff_getElem.1 h.rise _ _ hk (by omega) (by omega))
  refine ⟨fun x hx => ?_, ?_⟩
  · rcases hmem x hx with rfl | hx
    · exact hs
    · exact h.name x hx
  · refine List.pairwise_append.2 ⟨h.rise.sublist (List.take_sublist _ _), List.pairwise_cons.2 ⟨hup, h.rise.sublist (List.drop_sublist _ _)⟩, fun x hx y hy => ?_⟩
    rcases List.mem_cons.1 hy with rfl | hy
    · exact hlow x hx
    · exact lessS_trans (hlow x hx) (hup y hy)
theorem addS_good {t : NRef} {l : List NSnap} {s : ByteArray} (h : Good t l) (ht : goodT t = true) (hl : l.length < 64) :
    Good t (addS t l s) ∧ (addS t l s).length ≤ l.length + 1 ∧ (∀ x, x ∈ addS t l s ↔ x ∈ l ∨ (x = (s, t) ∧ nameS s = true)) ∧ ((snapC t l s).2 = 0 → (snapC t l s).1.1 = t) := by
  have hc := h.check ht (by omega)
  have hu : snapC t l s = if 0 ≤ idxP (nameP s) l then (noCat, 23) else if nameS s = false then (noCat, 44) else if 64 ≤ l.length then (noCat, 45) else ((t, insS t s l), 0) := by
    unfold snapC
    rw [hc]
    rfl
  by_cases h0 : 0 ≤ idxP (nameP s) l
  · rw [if_pos h0] at hu
    have ha : addS t l s = l := by
      unfold addS
      rw [hu]
      rfl
    rw [ha, hu]
    refine ⟨h, by omega, fun x => ?_, fun e => absurd e (by decide)⟩
    refine ⟨.inl, fun hx => hx.elim id fun ⟨e, _⟩ => ?_⟩
    obtain ⟨i, hi, _, hp⟩ := idx_lt h0
    have h1 : l[i].1 = s := of_decide_eq_true hp
    have h2 := h.top _ (List.getElem_mem hi)
    have : l[i] = x := by rw [e]; exact Prod.ext h1 h2
    rw [← this]
    exact List.getElem_mem hi
  rw [if_neg h0] at hu
  cases hnm : nameS s with
  | false =>
    rw [if_pos hnm] at hu
    have ha : addS t l s = l := by
      unfold addS
      rw [hu]
      rfl
    rw [ha, hu]
    exact ⟨h, by omega, fun x => ⟨.inl, fun hx => hx.elim id fun ⟨_, e⟩ => by cases e⟩, fun e => absurd e (by decide)⟩
  | true =>
    rw [if_neg (by rw [hnm]; decide), if_neg (by omega)] at hu
    have ha : addS t l s = insS t s l := by
      unfold addS
      rw [hu]
      rfl
    rw [ha, hu]
    have hmem : ∀ x, x ∈ insS t s l ↔ x ∈ l ∨ x = (s, t) := fun x => by
      unfold insS
      rw [List.mem_append, List.mem_cons]
      constructor
      · rintro (hx | hx | hx)
        · exact .inl (List.mem_of_mem_take hx)
        · exact .inr hx
        · exact .inl (List.mem_of_mem_drop hx)
      · rintro (hx | hx)
        · rw [← List.take_append_drop (insK s l) l] at hx
          rcases List.mem_append.1 hx with hx | hx
          · exact .inl hx
          · exact .inr (.inr hx)
        · exact .inr (.inl hx)
    refine ⟨⟨h.srt.ins hnm (not_there h0), fun x hx => ?_⟩, Nat.le_of_eq (insS_length _ _ _), fun x => ?_, fun _ => rfl⟩
    · rcases (hmem x).1 hx with hx | rfl
      · exact h.top x hx
      · rfl
    · refine (hmem x).trans ⟨fun hx => hx.imp id fun e => ⟨e, rfl⟩, fun hx => hx.imp id fun e => e.1⟩
end Go.Proofs.Ytodpaehciegmiaa

import Derived.Test.YtodpaehciegmiaaCgH

/-
  Snapshots that keep their trees: plain facts.
-/

namespace Go.Proofs.Ytodpaehciegmiaa

open Go Sx

set_option linter.unusedVariables false

set_option linter.unusedSimpArgs false

set_option maxRecDepth 100000

/-- Snapshots in rising order that are, in some order, these names with these trees. -/
structure Kp (l P : List NSnap) : Prop where
  srt : Srt l
  good : ∀ x ∈ l, goodT x.2 = true
  perm : l.Perm P
theorem Kp.nil : Kp [] [] := ⟨Srt.nil, fun x hx => (by cases hx), List.Perm.nil⟩
theorem Kp.check {t : NRef} {l P : List NSnap} (h : Kp l P) (ht : goodT t = true) (hl : l.length ≤ 64) : checkC t l = 0 := by
  unfold checkC
  rw [if_neg (by omega), if_neg (by rw [h.srt.namesOk]; decide), if_neg]
  unfold topsOk
  rw [ht, Bool.true_and, List.all_eq_true.2 fun x hx => h.good x hx]
  decide
theorem Srt.inj {l : List NSnap} (h : Srt l) {x y : NSnap} (hx : x ∈ l) (hy : y ∈ l) (e : x.1 = y.1) : x = y := by
  obtain ⟨i, hi, rfl⟩ := List.mem_iff_getElem.1 hx
  obtain ⟨j, hj, rfl⟩ := List.mem_iff_getElem.1 hy
  have hr := List.pairwise_iff_getElem.1 h.rise
  rcases Nat.lt_trichotomy i j with hij | rfl | hij
  · have h1 := hr i j hi hj hij
    rw [e, lessS_irrefl] at h1
    cases h1
  · rfl
  · have h1 := hr j i hj hi hij
    rw [e, lessS_irrefl] at h1
    cases h1
theorem Srt.idx {l : List NSnap} (h : Srt l) {x : NSnap} (hx : x ∈ l) : ∃ i, ∃ hi : i < l.length, idxP (nameP x.1) l = (i : Int) ∧ l[i] = x := by
  have h1 : l.any (nameP x.1) = true := List.any_eq_true.2 ⟨x, hx, decide_eq_true rfl⟩
  rw [← idx_any] at h1
  obtain ⟨i, hi, e, hp⟩ := idx_lt (of_decide_eq_true h1)
  exact ⟨i, hi, e, h.inj (List.getElem_mem hi) hx (of_decide_eq_true hp)⟩
theorem perm_at {l : List NSnap} {i : Nat} (hi : i < l.length) : l.Perm (l[i] :: (l.take i ++ l.drop (i + 1))) := by
  have h1 : l = l.take i ++ (l[i] :: l.drop (i + 1)) := by rw [List.getElem_cons_drop, List.take_append_drop]
  have h2 : (l.take i ++ (l[i] :: l.drop (i + 1))).Perm (l[i] :: (l.take i ++ l.drop (i + 1))) := List.perm_middle
  rw [← h1] at h2
  exact h2
theorem insS_perm (t : NRef) (s : ByteArray) (l : List NSnap) : (insS t s l).Perm ((s, t) :: l) := by
  unfold insS
  refine List.perm_middle.trans (List.Perm.cons _ ?_)
  rw [List.take_append_drop]
theorem Kp.snap {t : NRef} {l P : List NSnap} (h : Kp l P) (ht : goodT t = true) (hl : l.length < 64) (s : ByteArray) :
    ((snapC t l s).2 = 0 ∧ (snapC t l s).1.1 = t ∧ Kp (snapC t l s).1.2 (P ++ [(s, t)])) ∨ (snapC t l s).2 = 23 ∨ (snapC t l s).2 = 44 := by
  have hu : snapC t l s = if 0 ≤ idxP (nameP s) l then (noCat, 23) else if nameS s = false then (noCat, 44) else if 64 ≤ l.length then (noCat, 45) else ((t, insS t s l), 0) := by
    unfold snapC
    rw [h.check ht (by omega)]
    rfl
  by_cases h0 : 0 ≤ idxP (nameP s) l
  · rw [if_pos h0] at hu
    rw [hu]
    exact .inr (.inl rfl)
  rw [if_neg h0] at hu
  cases hnm : nameS s with
  | false =>
    rw [if_pos hnm] at hu
    rw [hu]
    exact .inr (.inr rfl)
  | true =>
    rw [if_neg (by rw [hnm]; decide), if_neg (by omega)] at hu
    rw [hu]
    refine .inl ⟨rfl, rfl, h.srt.ins hnm (not_there h0), fun x hx => ?_, ?_⟩
    · rcases List.mem_cons.1 ((insS_perm t s l).mem_iff.1 hx) with rfl | hx
      · exact ht
      · exact h.good x hx
    · refine (insS_perm t s l).trans ((List.Perm.cons _ h.perm).trans ?_)
      exact (List.perm_append_comm (l₁ := [(s, t)]) (l₂ := P))
theorem Kp.drop {t : NRef} {l P : List NSnap} {p : NSnap} (h : Kp l (p :: P)) (ht : goodT t = true) (hl : l.length ≤ 64) :
    (dropC t l p.1).2 = 0 ∧ (dropC t l p.1).1.1 = t ∧ Kp (dropC t l p.1).1.2 P := by
  obtain ⟨i, hi, e, hp⟩ := h.srt.idx (h.perm.mem_iff.2 (List.mem_cons_self ..))
  have hu : dropC t l p.1 = ((t, l.take i ++ l.drop (i + 1)), 0) := by
    unfold dropC
    rw [h.check ht hl, e]
    rw [if_neg (by decide), if_neg (by omega), Int.toNat_natCast]
  rw [hu]
  have hsub : (l.take i ++ l.drop (i + 1)).Sublist l := by
    have h1 : (l.take i ++ l.drop (i + 1)).Sublist (l.take i ++ l.drop i) := List.Sublist.append (List.Sublist.refl _) (by rw [← List.getElem_cons_drop hi]; exact List.sublist_cons_self _ _)
    rwa [List.take_append_drop] at h1
  refine ⟨rfl, rfl, ⟨fun x hx => h.srt.name x (hsub.mem hx), h.srt.rise.sublist hsub⟩, fun x hx => h.good x (hsub.mem hx), ?_⟩
  have h2 := (perm_at hi).symm.trans h.perm
  rw [hp] at h2
  exact List.Perm.cons_inv h2
theorem Kp.find {l P : List NSnap} (h : Kp l P) {p : NSnap} (hp : p ∈ P) : findC l p.1 = (p.2, 0) := by
  obtain ⟨i, hi, e, hq⟩ := h.srt.idx (h.perm.mem_iff.2 hp)
  unfold findC
  rw [e, if_neg (by omega), Int.toNat_natCast, List.getD_eq_getElem?_getD, List.getElem?_eq_getElem hi]
  rw [Option.getD_some, hq]
theorem Kp.revert {t : NRef} {l P : List NSnap} (h : Kp l P) (ht : goodT t = true) (hl : l.length ≤ 64) {p : NSnap} (hp : p ∈ P) : revertC t l p.1 = ((p.2, l), 0) := by
  obtain ⟨i, hi, e, hq⟩ := h.srt.idx (h.perm.mem_iff.2 hp)
  unfold revertC
  rw [h.check ht hl, e, if_neg (by decide), if_neg (by omega), Int.toNat_natCast, List.getD_eq_getElem?_getD, List.getElem?_eq_getElem hi]
  rw [Option.getD_some, hq]
end Go.Proofs.Ytodpaehciegmiaa

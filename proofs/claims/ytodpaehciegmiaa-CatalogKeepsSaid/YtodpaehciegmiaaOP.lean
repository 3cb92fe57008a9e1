import Derived.Test.YtodpaehciegmiaaSxA

/-
  A slice of the call's own that may begin anywhere in its block: append onto it, and what is left when its head is cut off.
-/

namespace Go.Proofs.Ytodpaehciegmiaa.Sx

open Go

set_option linter.unusedVariables false

set_option linter.unusedSimpArgs false

variable {H : Type}

/-- A slice of the call's own, at any place of a block from `base` on; or one without room. -/
def OP (w : World) (base e sz : Nat) (v : Value) (n : Nat) (xs : List Value) : Prop :=
  xs.length = n * sz ∧ ∃ A c, v = .slice A n c ∧ n ≤ c ∧ (c = 0 ∨ ∃ b pre sp, A = some ⟨b, List.length pre, none⟩ ∧ base ≤ b ∧ At w b (pre ++ (xs ++ sp)) e (0, 0) ∧ (xs ++ sp).length = c * sz)
theorem OP.nil (w : World) (base e sz : Nat) : OP w base e sz (.slice none 0 0) 0 [] := ⟨by simp, none, 0, rfl, Nat.le_refl _, .inl rfl⟩
theorem OP.ext {w w' : World} {base e sz n : Nat} {v : Value} {xs : List Value} {S : Nat → Prop} (h : OP w base e sz v n xs) (he : Ext S w w') (hS : ∀ k, blkOf v k → ¬ S k) : OP w' base e sz v n xs := by
  obtain ⟨hl, A, c, rfl, hc, h⟩ := h
  refine ⟨hl, A, c, rfl, hc, h.imp id ?_⟩
  rintro ⟨b, pre, sp, rfl, hb, hat, h2⟩
  exact ⟨b, pre, sp, rfl, hb, hat.ext he (hS b ⟨_, none, n, c, rfl⟩), h2⟩
theorem OP.non {w w' : World} {base e sz n : Nat} {v : Value} {xs : List Value} (h : OP w base e sz v n xs) (he : Ext Non w w') : OP w' base e sz v n xs := h.ext he fun _ _ x => x
theorem OP.form {w : World} {base e sz n : Nat} {v : Value} {xs : List Value} (h : OP w base e sz v n xs) : ∃ A c, v = .slice A n c ∧ n ≤ c ∧ Cells w A xs := by
  obtain ⟨hl, A, c, rfl, hc, h⟩ := h
  refine ⟨A, c, rfl, hc, ?_⟩
  rcases h with rfl | ⟨b, pre, sp, rfl, hb, hat, h2⟩
  · obtain rfl : n = 0 := by omega
    exact .inl (List.eq_nil_of_length_eq_zero (by simpa using hl))
  · exact .inr ⟨b, pre.length, rfl, fun i hi => hat.cell (by rw [List.getElem?_append_right (by omega), Nat.add_sub_cancel_left, List.getElem?_append_left hi]; simp [hi])⟩
theorem OP.drop {w : World} {base e sz n c k : Nat} {A : Option Addr} {xs : List Value} (h : OP w base e sz (.slice A n c) n xs) (hk : k ≤ n) : OP w base e sz (.slice (sla A k c sz) (n - k) (c - k)) (n - k) (xs.drop (k * sz)) := by
  obtain ⟨hl, A', c', e0, hc, h⟩ := h
  obtain ⟨rfl, -, rfl⟩ := Value.slice.inj e0
  refine ⟨by rw [List.length_drop, hl, Nat.sub_mul], _, _, rfl, by omega, ?_⟩
  by_cases hck : c = k
  · exact .inl (by omega)
  rcases h with rfl | ⟨b, pre, sp, rfl, hb, hat, h2⟩
  · exact .inl (by omega)
  have hkl : k * sz ≤ xs.length := by rw [hl]; exact Nat.mul_le_mul_right _ hk
  refine .inr ⟨b, pre ++ xs.take (k * sz), sp, ?_, hb, ?_, ?_⟩
  · unfold sla
    rw [if_neg hck, List.length_append, List.length_take, Nat.min_eq_left hkl]
    simp [add_none]
  · rw [show pre ++ xs.take (k * sz) ++ (xs.drop (k * sz) ++ sp) = pre ++ (xs ++ sp) from by rw [List.append_assoc, ← List.append_assoc (xs.take (k * sz)), List.take_append_drop]]
    exact hat
  · rw [List.length_append, List.length_drop, Nat.sub_mul, ← h2, List.length_append]
    omega
theorem blkOf_sla {A : Option Addr} {k c sz n m n' c' : Nat} {j : Nat} (h : blkOf (.slice (sla A k c sz) n c') j) : blkOf (.slice A m n') j := by
  obtain ⟨o, s, _, _, e⟩ := h
  injection e with e _ _
  unfold sla at e
  split at e
  · exact ⟨o, s, _, _, by rw [e]⟩
  · cases A with
    | none => cases e
    | some a =>
      simp only [Option.map_some] at e
      injection e with e
      have : a.block = j := by
        have h1 := congrArg Addr.block e
        have h2 : (a.add (k * sz)).block = a.block := by
          unfold Addr.add
          split <;> rfl
        rw [h2] at h1
        exact h1
      subst this
      obtain ⟨b, o2, s2⟩ := a
      exact ⟨o2, s2, _, _, rfl⟩
/-- append onto such a slice, by its steps. -/
theorem run_appP {P : Program} {e : Nat} {ei : TI} (hz : ei.zero.cells.size = ei.size)
    {w : World} {base n m c : Nat} {A : Option Addr} {x : Value} {xs news : List Value} (h : OP w base e ei.size (.slice A n c) n xs) (h1 : ∀ v ∈ xs, v.oneCell' = true) (hs : Src P w ei.size x m news) (h63 : n + m ≤ 140737488355328) (hbase : base ≤ w.heap.size) :
    ∃ v' w', (app P A n c x m e ei).run P w = .ok v' w' ∧ OP w' base e ei.size v' (n + m) (xs ++ news) ∧ Ext (blkOf (.slice A n c)) w w' ∧ (∀ k, blkOf v' k → blkOf (.slice A n c) k ∨ (w.heap.size ≤ k ∧ k < w'.heap.size)) := by
  obtain ⟨A', c0, e0, hnc, hcells⟩ := h.form
  obtain ⟨rfl, -, rfl⟩ := Value.slice.inj e0
  have hlen : (xs ++ news).length = (n + m) * ei.size := by rw [List.length_append, h.1, hs.size, Nat.add_mul]
  by_cases hc : n + m ≤ c
  · by_cases hm : m = 0
    · subst hm
      have hn0 : news = [] := List.eq_nil_of_length_eq_zero (by simpa using hs.size)
      subst hn0
      refine ⟨_, w, app_nothing hs hnc, ?_, Ext.refl _ _, fun k hk => .inl hk⟩
      simpa using h
    · obtain ⟨hl, A', c', e0, hc', h⟩ := h
      obtain ⟨rfl, -, rfl⟩ := Value.slice.inj e0
      rcases h with rfl | ⟨b, pre, sp, rfl, hb, hat, h2⟩
      · omega
      have hnew := hs.cells w m rfl (Nat.le_refl _)
      rw [List.take_of_length_le (by rw [hs.size]; exact Nat.le_refl _)] at hnew
      have hm2 : (n + m) * ei.size ≤ c * ei.size := Nat.mul_le_mul_right _ hc
      have hadd : (n + m) * ei.size = n * ei.size + m * ei.size := Nat.add_mul _ _ _
      have hsz := hs.size
      have hll : (xs ++ sp).length = c * ei.size := h2
      rw [List.length_append] at h2
      obtain ⟨w', k1, k2, k3⟩ := run_storeCells (P := P) b (pre.length + n * ei.size) news 0 w (pre ++ (xs ++ sp)) e (0, 0) hat (by rw [List.length_append, List.length_append]; omega) (.inl (Nat.zero_le _)) hs.one
      refine ⟨.slice (some ⟨b, pre.length, none⟩) (n + m) c, w', ?_, ⟨hlen, _, c, rfl, hc, .inr ⟨b, pre, sp.drop news.length, rfl, hb, ?_, ?_⟩⟩, k3.mono fun i hi => by subst hi; exact ⟨_, _, _, _, rfl⟩, fun k hk => .inl ?_⟩
      · unfold app
        rw [if_pos hc]
        simp only [Sem.run_bind, hnew, Result.andThen_ok, add_none, k1, Sem.run_pure]
      · have e1 : ov (pre ++ (xs ++ sp)) (pre.length + n * ei.size + 0) news = pre ++ (xs ++ news ++ sp.drop news.length) := by
          simp only [ov, Nat.add_zero]
          rw [← hl, ← List.length_append, ← List.append_assoc pre xs sp, List.take_left, List.drop_append, List.drop_eq_nil_of_le (by omega)]
          simp
        rw [e1] at k2
        exact k2
      · rw [List.length_append, List.length_drop, hlen]
        omega
      · obtain ⟨o, s, n', c', ek⟩ := hk
        injection ek with ek _ _
        exact ⟨o, s, n, c, by rw [ek]⟩
  · obtain ⟨b, c', sp, w', h4, h5, h6, h7⟩ := app_grow (P := P) (e := e) (c := c) hz hcells h.1 h1 hs (by omega) h63
    refine ⟨_, w', h4, ⟨hlen, _, c', rfl, h6, .inr ⟨b, [], sp, rfl, Nat.le_trans hbase h5.ge, h5.at_, h7⟩⟩, h5.ext.mono fun _ x => x.elim, fun k hk => .inr ?_⟩
    obtain ⟨o, s, n', c', ek⟩ := hk
    injection ek with ek _ _
    injection ek with ek
    injection ek with ek _ _
    rw [← ek]
    exact ⟨h5.ge, h5.at_.lt⟩
/-- append at a stop, onto such a slice. -/
theorem Run.appP {P : Program} {m0 : Md} {ts tx ty e sz0 by0 : Nat} {z0 : Value} {ei : TI} (ht : TIok P ts ⟨.slice e, sz0, by0, z0⟩) (he : TIok P e ei) (hx : (∃ e', P.underlying tx = some (.slice e')) ∨ P.underlying tx = some .string) (hz : ei.zero.cells.size = ei.size)
    {w : World} {base n m : Nat} {v x : Value} {xs news : List Value} {K : Value → World → Prop} (h : OP w base e ei.size v n xs) (h1 : ∀ v ∈ xs, v.oneCell' = true) (hs : Src P w ei.size x m news) (hb : (n + m) * ei.bytes ≤ 140737488355328) (h63 : n + m ≤ 140737488355328) (hbase : base ≤ w.heap.size)
    (hm : ∀ w', Ext (blkOf v) w w' → m0.W w w')
    (k : ∀ v' w', OP w' base e ei.size v' (n + m) (xs ++ news) → Ext (blkOf v) w w' → (∀ k, blkOf v' k → blkOf v k ∨ (w.heap.size ≤ k ∧ k < w'.heap.size)) → K v' w') :
    Run P m0 w (Builtin.append_ #[ts, tx] ty #[v, x]) K := by
  obtain ⟨A, c, rfl, hnc, hcells⟩ := h.form
  obtain ⟨v', w', k1, k2, k3, k4⟩ := run_appP (P := P) hz h h1 hs h63 hbase
  exact ⟨v', w', by rw [append_app ht he hx hs.len hb h63, k1], hm w' k3, k v' w' k2 k3 k4⟩
end Go.Proofs.Ytodpaehciegmiaa.Sx

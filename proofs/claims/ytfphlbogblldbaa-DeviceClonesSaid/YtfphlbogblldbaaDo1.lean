import Derived.Test.YtfphlbogblldbaaDo0
import Derived.Maps.OwnSet

/-
  A map of numbers; a device beside blocks of others; what Start leaves alone.
-/


namespace Go.Proofs.Ytfphlbogblldbaa

open Go Sx

set_option linter.unusedVariables false

set_option linter.unusedSimpArgs false

set_option maxRecDepth 100000

/-! ### A map from numbers to true -/
def MapT (w : World) (b n : Nat) (T : List Int) : Prop :=
  ∃ D : DataW Unit, w.ownsMap cx.P 3 (plainElem cx.P 4) b n D ∧ ∀ s ∈ T, D.atKey (.int .i64 s) (.lit (.bool false)) = .lit (.bool true)
theorem undInt : cx.P.underlying 3 = some (.int .i64) := Try.underlying3
theorem undBool : cx.P.underlying 4 = some .bool := Try.underlying4
theorem undMap : cx.P.underlying 31 = some (.map 3 4) := Try.underlying31
theorem MapT.lt {w : World} {b n : Nat} {T : List Int} (h : MapT w b n T) : b < w.heap.size := by
  obtain ⟨D, h, _⟩ := h
  exact h.lt
theorem MapT.ext {w w' : World} {b n : Nat} {T : List Int} {S : Nat → Prop} (h : MapT w b n T) (x : Ext S w w') (hS : ¬ S b) : MapT w' b n T := by
  obtain ⟨D, h, hT⟩ := h
  have hlt := h.lt
  obtain ⟨es, clock, hb, F, hs, hD⟩ := h
  exact ⟨D, ⟨es, clock, (x.blk b hlt hS).trans hb, F, hs, hD⟩, hT⟩
theorem MapT.made (w : World) : MapT (w.alloc (.map #[] 0)) w.heap.size 0 [] := ⟨_, World.ownsMap_made w cx.P _ _, fun s hs => by cases hs⟩
theorem Run.makeMap {m : Md} {w : World} {K : Value → World → Prop} (hm : ∀ w', Ext Non w w' → m.W w w') (k : ∀ b w', w.heap.size ≤ b → MapT w' b 0 [] → Ext Non w w' → K (.map (some b)) w') :
    Run cx.P m w (Instr.makeMap 31 none) K :=
  ⟨_, _, (rfl : (Instr.makeMap 31 none).run cx.P w = .ok (.map (some w.heap.size)) (w.alloc (.map #[] 0))), hm _ (Ext.alloc _ _ _), k _ _ (Nat.le_refl _) (MapT.made w) (Ext.alloc _ _ _)⟩
theorem Run.mapSet {m : Md} {w : World} {b n : Nat} {T : List Int} {s : Int} {K : Value → World → Prop} (h : MapT w b n T) (hn : n < 1000000) (hs : -9223372036854775808 ≤ s ∧ s ≤ 9223372036854775807) (hm : ∀ w', Ext (· = b) w w' → m.W w w')
    (k : ∀ w', MapT w' b (n + 1) (s :: T) → Ext (· = b) w w' → K undef w') :
    Run cx.P m w (do Instr.mapUpdate 31 (.map (some b)) (.int .i64 s) (.bool true); pure undef) K := by
  obtain ⟨D, h, hT⟩ := h
  have hw : (Lit.int .i64 s).wf = true := by
    simp only [Lit.wf, Bool.and_eq_true, decide_eq_true_eq, show IntKind.min .i64 = -9223372036854775808 from rfl, show IntKind.max .i64 = 9223372036854775807 from rfl]
    exact hs
  obtain ⟨w', hrun, ho, hg⟩ := h.update (Maps.int_keyed undInt) undMap (Nat.lt_trans hn (by decide)) (Maps.keyOf_int_mk undInt hw) (plainElem_bool undBool true)
  have hi := h.isMap
  have x : Ext (· = b) w w' := ⟨hg.os, hg.tape, hg.output, hg.size, fun i hi hne => hg.block i hi (fun e => hne (by injection e))⟩
  refine ⟨undef, w', ?_, hm w' x, k w' ⟨_, ho, fun z hz => ?_⟩ x⟩
  · simp only [Sem.run_bind, hrun]
    rfl
  · by_cases e : z = s
    · subst e
      exact Maps.atKey_put_same hi (k := .int .i64 z) trivial _ _
    · rw [Maps.atKey_put_other (by intro e2; injection e2 with _ e2; exact e e2)]
      exact hT z ((List.mem_cons.1 hz).resolve_left e)
theorem MapT.look {w : World} {b n : Nat} {T : List Int} {s : Int} (h : MapT w b n T) (hs : -9223372036854775808 ≤ s ∧ s ≤ 9223372036854775807) :
    ∃ x : Bool, (Instr.lookup 31 (.map (some b)) (.int .i64 s) false).run cx.P w = .ok (.bool x) w ∧ (s ∈ T → x = true) := by
  obtain ⟨D, h, hT⟩ := h
  have hw : (Lit.int .i64 s).wf = true := by
    simp only [Lit.wf, Bool.and_eq_true, decide_eq_true_eq, show IntKind.min .i64 = -9223372036854775808 from rfl, show IntKind.max .i64 = 9223372036854775807 from rfl]
    exact hs
  obtain ⟨v, ps, hrun, hv⟩ := h.lookup (Maps.int_keyed undInt) undMap (z := .bool false) (by kernel_rfl) (plainElem_bool undBool false) (Maps.keyOf_int_mk undInt hw)
  have hv2 : ∃ x : Bool, v = .bool x ∧ D.atKey (.int .i64 s) (.lit (.bool false)) = .lit (.bool x) := by
    unfold plainElem at hv
    rw [undBool] at hv
    cases v <;> simp at hv
    exact ⟨_, rfl, hv.1.symm⟩
  obtain ⟨x, rfl, hx⟩ := hv2
  refine ⟨x, hrun, fun hm => ?_⟩
  rw [hT s hm] at hx
  injection hx with hx
  injection hx with hx
  exact hx.symm

/-! ### What Start leaves alone -/
theorem laidL_ge (l : List UInt8) (a : Nat) (b : List UInt8) : l.length ≤ (laidL l a b).length := by
  by_cases hb : b = []
  · subst hb; rw [laidL_nil]; exact Nat.le_refl _
  · rw [laidL_length hb]; omega
theorem laidL_out {l b : List UInt8} {a j : Nat} (hj : j < l.length) (h : ¬ (a ≤ j ∧ j < a + b.length)) : (laidL l a b)[j]? = l[j]? := by
  by_cases ha : a ≤ l.length
  · rw [laidL_get ha, if_neg h]
  · by_cases hb : b = []
    · subst hb; rw [laidL_nil]
    rw [laidL, if_neg hb]
    rw [List.getElem?_append_left (by rw [List.length_take, List.length_append, List.length_replicate]; omega), List.getElem?_take_of_lt (by omega), List.getElem?_append_left hj]
theorem safeI_out {D : DV} {keep : List UInt8} {j : Nat} (hj : j < D.safe.length) (h : ∀ x ∈ D.L, x.2.1 ≤ 512 ∧ ¬ (x.1 ≤ j ∧ j < x.1 + 512)) : ∀ i, (safeI keep D i)[j]? = D.safe[j]? ∧ D.safe.length ≤ (safeI keep D i).length
  | 0 => ⟨rfl, Nat.le_refl _⟩
  | i + 1 => by
    obtain ⟨h1, h2⟩ := safeI_out (keep := keep) hj h i
    unfold safeI
    split
    · rename_i x hx
      have hm := h x (List.mem_of_getElem? hx)
      split
      · refine ⟨?_, Nat.le_trans h2 (laidL_ge _ _ _)⟩
        rw [laidL_out (by omega) (by rw [List.length_take]; omega), h1]
      · exact ⟨h1, h2⟩
    · exact ⟨h1, h2⟩
theorem safeI_ge (keep : List UInt8) (D : DV) : ∀ i, D.safe.length ≤ (safeI keep D i).length
  | 0 => Nat.le_refl _
  | i + 1 => by
    have h2 := safeI_ge keep D i
    unfold safeI
    split
    · split
      · exact Nat.le_trans h2 (laidL_ge _ _ _)
      · exact h2
    · exact h2
theorem writeR_cases {a : Int} {b : List UInt8} {D : DV} (hd : D.down = false) (hf : D.fail = none) :
    ((writeR a b D).1 = D ∧ ((writeR a b D).2 = 43 ∨ (writeR a b D).2 = 21)) ∨ (0 ≤ a ∧ a ≤ D.seen.length ∧ (writeR a b D).2 = 0 ∧ (writeR a b D).1 = writeD a.toNat b { D with steps := D.steps + 1 }) := by
  unfold writeR
  rw [if_neg (by rw [hd]; decide)]
  split
  · exact .inl ⟨rfl, .inl rfl⟩
  split
  · exact .inl ⟨rfl, .inr rfl⟩
  rename_i h1 h2
  rw [stepD_none hf]
  exact .inr ⟨by omega, by omega, rfl, rfl⟩

/-! ### A device beside blocks of others -/
def OwnK (w : World) (F : Nat → Prop) (db : Nat) (D : DV) (W : World) : Prop := ∃ O R, DevAt W O R db D ∧ (∀ k, O k → w.heap.size ≤ k) ∧ (∀ k, F k → ¬ O k ∧ ¬ R k ∧ k < W.heap.size) ∧ Ext Non w W
theorem Left.ownK {w W W' : World} {O R F : Nat → Prop} {db : Nat} {D' : DV} (hO : ∀ k, O k → w.heap.size ≤ k) (hF : ∀ k, F k → ¬ O k ∧ ¬ R k ∧ k < W.heap.size) (x : Ext Non w W) (h : Left O R W db D' W') : OwnK w F db D' W' ∧ Ext (fun k => ¬ F k) W W' := by
  obtain ⟨O', R', hd, h1, h2, x2⟩ := h
  have hs := x.size
  have hs2 := x2.size
  exact ⟨⟨O', R', hd, fun k hk => (h1 k hk).elim (hO k) (fun e => by omega), fun k hk => ⟨fun ho => (h1 k ho).elim (hF k hk).1 (fun e => by have := (hF k hk).2.2; omega), fun ho => (h2 k ho).elim (hF k hk).2.1 (fun e => by have := (hF k hk).2.2; omega), by have := (hF k hk).2.2; omega⟩,
    x.trans' x2 (fun _ _ x => x) (fun k hk ho => by have := hO k ho; omega)⟩, x2.mono fun k ho hf => (hF k hf).1 ho⟩
theorem OwnK.ext {w W W' : World} {F S : Nat → Prop} {db : Nat} {D : DV} (h : OwnK w F db D W) (x : Ext S W W') (hS : ∀ k, S k → F k) (hS2 : ∀ k, S k → w.heap.size ≤ k) : OwnK w F db D W' := by
  obtain ⟨O, R, hd, hO, hF, xx⟩ := h
  have := x.size
  exact ⟨O, R, hd.ext x (fun k hk hs => (hF k (hS k hs)).1 hk) (fun k hk hs => (hF k (hS k hs)).2.1 hk), hO, fun k hk => ⟨(hF k hk).1, (hF k hk).2.1, by have := (hF k hk).2.2; omega⟩, xx.trans' x (fun _ _ x => x) (fun k hk hs => by have := hS2 k hs; omega)⟩
theorem OwnK.w0 {w W : World} {F : Nat → Prop} {db : Nat} {D : DV} (h : OwnK w F db D W) : Ext Non w W := by
  obtain ⟨O, R, hd, hO, hF, xx⟩ := h
  exact xx
theorem OwnK.ok {w W : World} {F : Nat → Prop} {db : Nat} {D : DV} (h : OwnK w F db D W) : DvOk D := by
  obtain ⟨O, R, hd, hO, hF, xx⟩ := h
  exact hd.ok
/-- New blocks, made since, are held apart. -/
theorem Own.keep {w W W' : World} {F : Nat → Prop} {db : Nat} {D : DV} (h : Own w db D W) (x : Ext Non W W') (hF : ∀ k, F k → W.heap.size ≤ k ∧ k < W'.heap.size) : OwnK w F db D W' := by
  obtain ⟨O, R, hd, h1, h2⟩ := h
  exact ⟨O, R, hd.non x, h1, fun k hk => ⟨fun ho => by have := hd.lo k ho; have := hF k hk; omega, fun ho => by have := hd.lr k ho; have := hF k hk; omega, (hF k hk).2⟩, h2.trans x⟩
section

variable {w W : World} {F : Nat → Prop} {db : Nat} {D : DV}
theorem KWrite_ret {a : Int} {B : Option Addr} {c : Nat} {b : List UInt8} (h : OwnK w F db D W) (hw : Few D) (hLn : D.L.length ≤ 500000000) (hB : Cells w B (bv b)) (ha : -9223372036854775808 ≤ a ∧ a ≤ 9223372036854775807) :
    Ret cx.P 13 #[dp db, .int .i64 a, .slice B b.length c] W fun v w' => v = .int .i64 (writeR a b D).2 ∧ OwnK w F db (writeR a b D).1 w' ∧ Ext (fun k => ¬ F k) W w' := by
  obtain ⟨O, R, hd, h1, hF, h2⟩ := h
  refine (DvWrite_ret hd hw hLn (hB.ext h2 (fun _ _ x => x)) (fun hb k hk ho => ?_) ha).mono fun v w' ⟨e, hL⟩ => ⟨e, hL.ownK h1 hF h2⟩
  have := h1 k ho
  have := hB.lt (fun e => hb (by simpa [bv] using e)) hk
  omega
theorem KStart_ret {A : Option Addr} {c : Nat} {keep : List UInt8} (h : OwnK w F db D W) (hK : Cells w A (bv keep)) (hLn : D.L.length ≤ 500000000) :
    Ret cx.P 14 #[dp db, .slice A keep.length c] W fun _ w' => OwnK w F db (startD keep D) w' ∧ Ext (fun k => ¬ F k) W w' := by
  obtain ⟨O, R, hd, h1, hF, h2⟩ := h
  refine (DvStart_ret hd (hK.ext h2 (fun _ _ x => x)) (fun hb k hk ho => ?_) hLn).mono fun v w' hL => hL.ownK h1 hF h2
  have := h1 k ho
  have := hK.lt (fun e => hb (by simpa [bv] using e)) hk
  omega
theorem KBytes_ret (h : OwnK w F db D W) : Ret cx.P 12 #[dp db] W fun v w' => OB w' W.heap.size v D.seen ∧ Ext Non W w' := by
  obtain ⟨O, R, hd, h1, hF, h2⟩ := h
  exact DvBytes_ret hd
theorem KLoose_ret (h : OwnK w F db D W) : Ret cx.P 15 #[dp db] W fun v w' => v = .int .i64 (D.L.length : Int) ∧ w' = W := by
  obtain ⟨O, R, hd, h1, hF, h2⟩ := h
  exact DvLoose_ret hd
theorem KDown_ret (h : OwnK w F db D W) : Ret cx.P 16 #[dp db] W fun v w' => v = .bool D.down ∧ w' = W := by
  obtain ⟨O, R, hd, h1, hF, h2⟩ := h
  exact DvDown_ret hd
end

end Go.Proofs.Ytfphlbogblldbaa

import Derived.Test.YtmcdcfbhpdacfaaDoorCat
import Derived.ChangeKeysEq
import Derived.Laws.StructEq
import Derived.Scope

/-
  Arrays of bytes: whether they are the same. A scope that nothing jumps in.
-/




namespace Go.Proofs.YtmcdcfbhpdacfaaDoor

open Go Sx

set_option linter.unusedVariables false

set_option linter.unusedSimpArgs false

theorem part_u8 {a : List UInt8} {i : Nat} (hi : i < a.length) (w : World) : (part 5 (bv a).toArray (i * cx.P.cellsOf 5)).run cx.P w = .ok (.int .u8 ((a.getD i 0).toNat : Int)) w := by
  have hc : cx.P.cellsOf 5 = 1 := by kernel_rfl
  rw [hc, Nat.mul_one]
  obtain ⟨v, h1, h2⟩ := part_sound (P := cx.P) tiU8 (cs := (bv a).toArray) (off := i) (K := fun v => v = .int .u8 ((a.getD i 0).toNat : Int)) (by
    show (match nth i (bv a) with | some v => v = .int .u8 ((a.getD i 0).toNat : Int) | none => False)
    rw [nth_eq, bv_get hi]
    simp [List.getD_eq_getElem?_getD, hi])
  rw [h1, h2]
theorem equalIn_u8 (d : Nat) (x y : UInt8) (w : World) : (Op.equalIn (d + 1) 5 (.int .u8 (x.toNat : Int)) (.int .u8 (y.toNat : Int))).run cx.P w = .ok (decide (x = y)) w := by
  rw [Op.equalIn]
  have : ((x.toNat : Int) == (y.toNat : Int)) = decide (x = y) := by
    by_cases h : x = y
    · simp [h]
    · have : x.toNat ≠ y.toNat := fun e => h (UInt8.toNat_inj.1 e)
      simp [h]
      omega
  simp [run_underlying tiU8.int, this]
theorem eqItems_u8 (d : Nat) {a b : List UInt8} : ∀ (is : List Nat) (w : World), (∀ i ∈ is, i < a.length ∧ i < b.length) →
    (Op.eqItems (d + 1) 5 (cx.P.cellsOf 5) (bv a).toArray (bv b).toArray is).run cx.P w = .ok (is.all fun i => decide (a.getD i 0 = b.getD i 0)) w
  | [], w, _ => rfl
  | i :: is, w, h => by
    have h0 := h i (by simp)
    simp only [Op.eqItems, Sem.run_bind, part_u8 h0.1, part_u8 h0.2, Result.andThen_ok]
    erw [equalIn_u8 d (a.getD i 0) (b.getD i 0) w]
    simp only [Result.andThen_ok, List.all_cons]
    by_cases e : a.getD i 0 = b.getD i 0
    · rw [decide_eq_true e, Bool.true_and]
      exact eqItems_u8 d is w fun j hj => h j (by simp [hj])
    · rw [decide_eq_false e, Bool.false_and]
      rfl
theorem eq_arrD (d : Nat) {t n : Nat} (hu : cx.P.underlying t = some (.array n 5)) {a b : List UInt8} (ha : a.length = n) (hb : b.length = n) (w : World) : (Op.equalIn (d + 1 + 1) t (.agg (bv a).toArray) (.agg (bv b).toArray)).run cx.P w = .ok (decide (a = b)) w := by
  obtain ⟨i, hi, _⟩ := tiU8.get
  have e1 := run_equalIn_array (P := cx.P) w (d + 1) (bv a).toArray (bv b).toArray hu hi
  refine e1.trans ?_
  refine (eqItems_u8 d (List.range n) w (fun j hj => by have := List.mem_range.1 hj; omega)).trans ?_
  refine congrArg (fun r => Result.ok r w) ?_
  by_cases e : a = b
  · subst e
    simp
  · rw [decide_eq_false e]
    cases hq : (List.range n).all fun i => decide (a.getD i 0 = b.getD i 0)
    · rfl
    · exfalso
      apply e
      rw [List.all_eq_true] at hq
      apply List.ext_getElem (by omega)
      intro j h1 h2
      have := hq j (List.mem_range.2 (by omega))
      simpa [List.getD_eq_getElem?_getD, h1, h2] using this
theorem eq_arr {t n : Nat} (hu : cx.P.underlying t = some (.array n 5)) {a b : List UInt8} (ha : a.length = n) (hb : b.length = n) (w : World) : (Op.equal t (.agg (bv a).toArray) (.agg (bv b).toArray)).run cx.P w = .ok (decide (a = b)) w := eq_arrD 9998 hu ha hb w
theorem Eqv.arr {t n : Nat} (hu : cx.P.underlying t = some (.array n 5)) (hg : cx.P.eqGuardType cx.P.depth t = false) {a b : List UInt8} (ha : a.length = n) (hb : b.length = n) {x y : Value} {K : Bool → Prop} (hx : x = .agg (bv a).toArray) (hy : y = .agg (bv b).toArray) (k : K (decide (a = b))) : Eqv cx.P t x y K := by
  subst hx hy
  exact ⟨_, rfl, eq_arr hu ha hb, fun op X Y w => run_eqGuard_agg w op _ X Y _ _ hg, k⟩
theorem Eqv.arrT {t n : Nat} (hu : cx.P.underlying t = some (.array n 5)) (hg : cx.P.eqGuardType cx.P.depth t = false) {a b : List UInt8} (ha : a.length = n) (e : a = b) {x y : Value} {K : Bool → Prop} (hx : x = .agg (bv a).toArray) (hy : y = .agg (bv b).toArray) (k : K true) : Eqv cx.P t x y K :=
  Eqv.arr hu hg ha (e ▸ ha) hx hy (by rw [decide_eq_true e]; exact k)
theorem Eqv.arrF {t n : Nat} (hu : cx.P.underlying t = some (.array n 5)) (hg : cx.P.eqGuardType cx.P.depth t = false) {a b : List UInt8} (ha : a.length = n) (hb : b.length = n) (e : a ≠ b) {x y : Value} {K : Bool → Prop} (hx : x = .agg (bv a).toArray) (hy : y = .agg (bv b).toArray) (k : K false) : Eqv cx.P t x y K :=
  Eqv.arr hu hg ha hb hx hy (by rw [decide_eq_false e]; exact k)

def scopeQ (Q : Exit → Env → World → Prop) : Exit → Env → World → Prop
  | .goto _, _, _ => False
  | e, l, w => Q e l w
theorem G.scope {P : Program} {n : Nat} {c : Code} {l : Env} {w : World} {Q : Exit → Env → World → Prop} (h : G P n c l w (scopeQ Q)) : G P n (.scope c) l w Q := by
  refine ⟨fun a ha => wp_scope_straight (wp_mono (h.out a ha) fun e a w hq => ?_)⟩
  cases e with
  | normal => exact hq
  | exit k => exact hq
  | goto l => obtain ⟨_, _, hf⟩ := hq; exact hf.elim
  | ret => exact hq
  | panic c => exact hq
  | outgrown => exact hq
theorem Sx.Parts.of {w : World} {pb t : Nat} {fr : Nat × Nat} {cs : List Value} {ps : List Part} (h : At w pb cs t fr) (hcs : cs = ps.map pv) (he : ∀ p ∈ ps, Cells w p.1 (bv p.2.2) ∧ p.2.2.length ≤ p.2.1) : Parts w (some ⟨pb, 0, none⟩) ps := by
  subst hcs
  refine ⟨Cells.whole h, fun k hk => ?_, he⟩
  obtain rfl := inBlk_some hk
  exact h.lt
end Go.Proofs.YtmcdcfbhpdacfaaDoor

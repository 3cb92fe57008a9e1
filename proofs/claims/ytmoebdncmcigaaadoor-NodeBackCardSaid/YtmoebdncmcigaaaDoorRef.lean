import Derived.Test.YtmoebdncmcigaaaDoorEq

/-
  Refs: a place and a sum; whether they are the same. Nodes: eight refs.
-/

namespace Go.Proofs.YtmoebdncmcigaaaDoor

open Go Sx

set_option linter.unusedVariables false

set_option linter.unusedSimpArgs false

set_option maxRecDepth 100000

abbrev NRef := Nat × List UInt8
def nv (r : NRef) : List Value := .int .u32 (r.1 : Int) :: bv r.2
structure RefOk (r : NRef) : Prop where
  at_ : r.1 < 4294967296
  len : r.2.length = 32
theorem nv_length {r : NRef} (h : r.2.length = 32) : (nv r).length = 33 := by simp [nv, bv_length, h]
theorem one_nv (r : NRef) : ∀ v ∈ nv r, v.oneCell' = true := by
  intro v hv
  rcases List.mem_cons.1 hv with rfl | hv
  · rfl
  · exact one_bv _ v hv
def noRef : NRef := (0, List.replicate 32 0)
theorem noRef_ok : RefOk noRef := ⟨by decide, rfl⟩
theorem part_ref0 (r : NRef) (w : World) : (part 35 (nv r).toArray 0).run cx.P w = .ok (.int .u32 (r.1 : Int)) w := by
  obtain ⟨v, h1, h2⟩ := part_sound (P := cx.P) (tabOk 35 ti35 rfl) (cs := (nv r).toArray) (off := 0) (K := fun v => v = .int .u32 (r.1 : Int)) rfl
  rw [h1, h2]
theorem part_ref1 {r : NRef} (hr : r.2.length = 32) (w : World) : (part 31 (nv r).toArray 1).run cx.P w = .ok (.agg (bv r.2).toArray) w := by
  obtain ⟨v, h1, h2⟩ := part_sound (P := cx.P) (tabOk 31 ti31 rfl) (cs := (nv r).toArray) (off := 1) (K := fun v => v = .agg (bv r.2).toArray) (by
    refine Ev.mk (bv r.2) ?_ rfl
    show ((nv r).drop 1).take 32 = bv r.2
    rw [show (nv r).drop 1 = bv r.2 from rfl, List.take_of_length_le (by rw [bv_length]; omega)])
  rw [h1, h2]
theorem uSum' : cx.P.underlying 31 = some (.array 32 5) := TIok.array (tabOk _ ti31 rfl)
theorem uU32' : cx.P.underlying 35 = some (.int .u32) := TIok.int (tabOk _ ti35 rfl)
theorem eq_refD (d : Nat) {r q : NRef} (hr : r.2.length = 32) (hq : q.2.length = 32) (w : World) :
    (Op.equalIn (d + 1 + 1 + 1) 37 (.agg (nv r).toArray) (.agg (nv q).toArray)).run cx.P w = .ok (decide (r = q)) w := by
  refine (run_equalIn_struct (P := cx.P) w (d + 1 + 1) 37 (nv r).toArray (nv q).toArray (by kernel_rfl) (by kernel_rfl)).trans ?_
  simp only [Program.fieldsOf, Tryd.underlying37]
  have e0 : ∀ w, (Op.equalIn (d + 1 + 1) 35 (.int .u32 (r.1 : Int)) (.int .u32 (q.1 : Int))).run Tryd.prog w = .ok ((r.1 : Int) == (q.1 : Int)) w := fun w => run_equalIn_int (P := cx.P) w (d + 1) 35 .u32 .u32 (r.1 : Int) (q.1 : Int) uU32'
  have e1 : ∀ w, (Op.equalIn (d + 1 + 1) 31 (.agg (bv r.2).toArray) (.agg (bv q.2).toArray)).run Tryd.prog w = .ok (decide (r.2 = q.2)) w := eq_arrD d uSum' hr hq
  have p0 : ∀ w, (part 35 (nv r).toArray 0).run Tryd.prog w = .ok (.int .u32 (r.1 : Int)) w := part_ref0 r
  have q0 : ∀ w, (part 35 (nv q).toArray 0).run Tryd.prog w = .ok (.int .u32 (q.1 : Int)) w := part_ref0 q
  have p1 : ∀ w, (part 31 (nv r).toArray 1).run Tryd.prog w = .ok (.agg (bv r.2).toArray) w := part_ref1 hr
  have q1 : ∀ w, (part 31 (nv q).toArray 1).run Tryd.prog w = .ok (.agg (bv q.2).toArray) w := part_ref1 hq
  simp [Op.eqFields, p0, q0, p1, q1, e0, e1]
  by_cases h1 : r.1 = q.1
  · have h1' : (r.1 : Int) = (q.1 : Int) := by omega
    by_cases h2 : r.2 = q.2
    · simp [h1, h2, Prod.ext_iff]
    · simp [h1, h2, Prod.ext_iff]
  · have h1' : ¬ (r.1 : Int) = (q.1 : Int) := by omega
    have h3 : ¬ r = q := fun e => h1 (by rw [e])
    simp only [h3, decide_false]
    first
    | (simp [h1']; done)
    | (simp [h1]; exact fun e => absurd e h1')
theorem eq_ref {r q : NRef} (hr : r.2.length = 32) (hq : q.2.length = 32) (w : World) : (Op.equal 37 (.agg (nv r).toArray) (.agg (nv q).toArray)).run cx.P w = .ok (decide (r = q)) w := eq_refD 9997 hr hq w
theorem Eqv.ref {r q : NRef} (hr : r.2.length = 32) (hq : q.2.length = 32) {x y : Value} {K : Bool → Prop} (hx : x = .agg (nv r).toArray) (hy : y = .agg (nv q).toArray) (k : K (decide (r = q))) : Eqv cx.P 37 x y K := by
  subst hx hy
  exact ⟨_, rfl, eq_ref hr hq, fun op X Y w => run_eqGuard_agg w op _ X Y _ _ (by kernel_rfl), k⟩
end Go.Proofs.YtmoebdncmcigaaaDoor

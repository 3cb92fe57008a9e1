import Derived.Test.YtmcdcfbhpdacfaaDoorOpenRows
import Derived.Test.YtmcdcfbhpdacfaaDoorLaid
import Derived.Test.YtmcdcfbhpdacfaaDoorLawKdfBegins
import Derived.Test.YtmcdcfbhpdacfaaDoorOpenArr
import Derived.Test.YtmcdcfbhpdacfaaDoorOpenSup
import Derived.JoinedCond
import Derived.SizedLaws

/-
  KdfBegins: the given statement, from the walk; the tables start as the program's text lays them, no bound is set on the arguments but the form's own reach.
-/







namespace Go.Proofs.YtmcdcfbhpdacfaaDoor.kdfBeginsFull

open Go Sx Go.ChangeShapes Go.WideShapes Go.ChangeAt Go.RowKit

set_option linter.unusedVariables false

set_option linter.unusedSimpArgs false

set_option maxRecDepth 100000

theorem own : ownKnob Tryd.prog.godebug = none := by kernel_rfl
theorem laid : laidOutB Tryd.prog = true := by kernel_rfl

theorem contract (H : Type) (enc : TypeId × Value → H) (W : World) (base : Nat) (args : Array Value) (ds gs : List (DataW H)) (before : List MemPlace)
    (hval0 : ∀ (j : Nat) t v, Tryd.f5.params[j]? = some t → args[j]? = some v → Value.okWide Tryd.prog W .any base t v)
    (hW : DataW.Whole enc Tryd.prog Tryd.f5.params.toList Rows.kdfBeginsSpec.vars false W args.toList ds gs before) (hz : (DataW.weightsEach Tryd.prog (Tryd.f5.params.toList ++ Rows.kdfBeginsSpec.plain.varTypes Tryd.prog) (ds ++ gs)).all (· ≤ reachBytes) = true) (hL : laidMetH Tryd.prog Rows.kdfBeginsRow.laid W) :
    Calls Tryd.prog 5 args W fun e W' => ∃ v, e = .returned v ∧ Rows.kdfBeginsSpec.post enc Tryd.prog Tryd.f5 false true false false W args v W' := by
  have hval := hval0
  have hW' := hW
  obtain ⟨p, q, hTA0, hV, rfl, hfz, hnd⟩ := hW
  have hTA : DataW.TrodAll enc Tryd.prog W 0 (fun _ => true) true Tryd.f5.params.toList args.toList ds p := hTA0
  rw [Tryd.params5] at hTA hval hz
  obtain ⟨v0, vs0, d0, ds0, p0, q0, hargs, rfl, rfl, h0, r0⟩ := trodAll_cons hTA
  obtain ⟨v1, vs1, d1, ds1, p1, q1, rfl, rfl, rfl, h1, r1⟩ := trodAll_cons r0
  obtain ⟨v2, vs2, d2, ds2, p2, q2, rfl, rfl, rfl, h2, r2⟩ := trodAll_cons r1
  obtain ⟨rfl, rfl, rfl⟩ := trodAll_nil r2
  obtain rfl : args = #[v0, v1, v2] := by cases args; simp_all
  obtain ⟨rfl, rfl⟩ := trodVars_none hV
  have hr : ∀ t ∈ Tryd.f5.params.toList, Tryd.prog.readableRec t = true ∧ t < Tryd.prog.types.size := by decide +kernel
  obtain ⟨A0, c0, b0, rfl, lc0, cm0, cl0, hA0, hd0⟩ := open_bytes Tryd.underlying22 Tryd.underlying5 (by kernel_rfl) (hval 0 22 v0 rfl rfl) h0
  obtain ⟨A1, c1, b1, rfl, lc1, cm1, cl1, hA1, hd1⟩ := open_bytes Tryd.underlying22 Tryd.underlying5 (by kernel_rfl) (hval 1 22 v1 rfl rfl) h1
  obtain ⟨a2, z2, rfl, ha2, hz2⟩ := open_two16 (hval 2 37 v2 rfl rfl) h2
  have u0 : b0.length ≤ 140737488351232 := by
    rcases hd0 with ⟨e1, e2⟩ | ⟨el, sp, e1, e2⟩
    · rw [e2]
      decide
    · have h1 := sized_slice hz (j := 0) (t := 22) (e := 5) (elems := el) (spare := sp) rfl (by rw [e1]; rfl) Tryd.underlying22
      have h2 : Tryd.prog.bytesOf 5 = 1 := by kernel_rfl
      have h3 : reachBytes = 140737488351232 := rfl
      rw [h2, Nat.mul_one] at h1
      omega
  have u1 : b1.length ≤ 140737488351232 := by
    rcases hd1 with ⟨e1, e2⟩ | ⟨el, sp, e1, e2⟩
    · rw [e2]
      decide
    · have h1 := sized_slice hz (j := 1) (t := 22) (e := 5) (elems := el) (spare := sp) rfl (by rw [e1]; rfl) Tryd.underlying22
      have h2 : Tryd.prog.bytesOf 5 = 1 := by kernel_rfl
      have h3 : reachBytes = 140737488351232 := rfl
      rw [h2, Nat.mul_one] at h1
      omega
  have hR := roots_one hL
  exact (KdfBegins_ret hR cl0 lc0 cl1 lc1 u0 u1 ha2 hz2).mono fun v W' ⟨hv, hx⟩ => by
    subst hv
    exact post_of_ext (tb := 4) laid hr rfl rfl hW' rfl Tryd.underlying4 rfl hx

theorem laid_met (os : Os) : laidMet Tryd.prog Rows.kdfBeginsRow.laid ((laidWorld os).forCall (fun _ _ => 0) ⟨#[], #[(.slice none 0 0 : Value), (.slice none 0 0 : Value), (.agg #[.int .u16 0, .int .u16 0] : Value)], []⟩).memory :=
  laidMet_of_run' 8 (by kernel_rfl) (by kernel_rfl)
theorem reads (os : Os) {H : Type} (enc : TypeId × Value → H) : ∃ places, DataW.whole enc Tryd.prog ((laidWorld os).forCall (fun _ _ => 0) ⟨#[], #[(.slice none 0 0 : Value), (.slice none 0 0 : Value), (.agg #[.int .u16 0, .int .u16 0] : Value)], []⟩).memory Tryd.f5.params.toList Rows.kdfBeginsSpec.vars false (#[(.slice none 0 0 : Value), (.slice none 0 0 : Value), (.agg #[.int .u16 0, .int .u16 0] : Value)]).toList 8 = some ([.nil, .nil, .agg [.lit (.int .u16 0), .lit (.int .u16 0)]], [], places) :=
  ⟨[], by kernel_rfl⟩

set_option maxRecDepth 100000 in
theorem lifted (os : Os) (started : os.Started) (H : Type) (enc : TypeId × Value → H) (F : Stop.Interp) :
    ReturnsInHanded {} Tryd.checked os 5 .any ((OpenSpec.ofChange Rows.kdfBeginsSpec).preRow enc Tryd.prog Tryd.f5 Rows.kdfBeginsRow.domain false Rows.kdfBeginsRow.laid) (((OpenSpec.ofChange Rows.kdfBeginsSpec).at F).post enc Tryd.prog Tryd.f5 false true false false) := by
  obtain ⟨places, hx⟩ := reads os enc
  refine returnsInHanded_of_row (C := Tryd.checked) (s := OpenSpec.ofChange Rows.kdfBeginsSpec) own started (by kernel_rfl) Tryd.func5
    (witness_row_at (enc := enc) (C := Tryd.checked) false (laidWorld os) #[(.slice none 0 0 : Value), (.slice none 0 0 : Value), (.agg #[.int .u16 0, .int .u16 0] : Value)] rfl (by kernel_rfl) (by kernel_rfl) (by kernel_rfl)
      (OpenSpec.preRow_of_cond 8 hx (by kernel_rfl) (fun k hk => by cases hk) (by kernel_rfl) (laid_met os))) ?_
  intro W base args ds gs before hval hW _ _ hz hL _ _
  exact contract H enc W base args ds gs before hval hW hz hL

theorem over : Rows.KdfBeginsSaid :=
  OpenClaim.holds_of_cond 5 Tryd.f5 rfl rfl rfl rfl rfl rfl rfl ⟨rfl, rfl, rfl, rfl, rfl⟩ rfl rfl rfl rfl rfl (by kernel_rfl) Tryd.func5 (by kernel_rfl)
    (of_decide_eq_true (by kernel_rfl)) (by unfold Func.isWrapper; first | (rw [if_pos (by decide +kernel)]; kernel_rfl) | (rw [if_neg (by decide +kernel)]; exact ⟨rfl, rfl⟩))
    (fun os started H enc _ F => by rw [OpenClaim.pre_eq_preRow]; exact lifted os started H enc F)

theorem plain (f : FuncId) (fn : Func) (hf : Tryd.pinned.checked.prog.funcNamed "reliquary/reliquarylaw05.KdfBegins" = some f) (hfn : Tryd.pinned.checked.prog.funcs[f]? = some fn) :
    false = Tryd.pinned.checked.prog.looks [] ∧ ∀ (j : Nat) t, fn.params[j]? = some t → Tryd.pinned.checked.prog.wantsStandIn t = false := by
  obtain rfl : f = 5 := Option.some.inj ((show Tryd.prog.funcNamed "reliquary/reliquarylaw05.KdfBegins" = some 5 by kernel_rfl).symm.trans hf) |>.symm
  obtain rfl : fn = Tryd.f5 := (Option.some.inj (Tryd.func5.symm.trans hfn)).symm
  refine ⟨by kernel_rfl, fun j t ht => ?_⟩
  have h : ∀ t ∈ Tryd.f5.params, Tryd.prog.wantsStandIn t = false := by decide +kernel
  exact h t (Array.mem_of_getElem? ht)

theorem proved : Rows.KdfBeginsCardSaid :=
  Claim7.holds_tied_plain_at .later [] _ _ _ _ over (fun _ h => by cases h) (by kernel_rfl) (fun _ h => by cases h) kdfBegins_row_tie rfl ⟨rfl, rfl⟩ (by kernel_rfl) rfl plain (by kernel_rfl)
end Go.Proofs.YtmcdcfbhpdacfaaDoor.kdfBeginsFull

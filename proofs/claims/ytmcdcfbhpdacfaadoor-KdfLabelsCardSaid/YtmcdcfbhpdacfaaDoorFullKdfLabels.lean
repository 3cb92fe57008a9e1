import Derived.Test.YtmcdcfbhpdacfaaDoorOpenRows
import Derived.Test.YtmcdcfbhpdacfaaDoorLaid
import Derived.Test.YtmcdcfbhpdacfaaDoorLawKdfLabels
import Derived.Test.YtmcdcfbhpdacfaaDoorOpenArr
import Derived.JoinedCond
import Derived.SizedLaws

/-
  KdfLabels: the given statement, from the walk; the tables start as the program's text lays them, no bound is set on the arguments but the form's own reach.
-/






namespace Go.Proofs.YtmcdcfbhpdacfaaDoor.kdfLabelsFull

open Go Sx Go.ChangeShapes Go.WideShapes Go.ChangeAt Go.RowKit

set_option linter.unusedVariables false

set_option linter.unusedSimpArgs false

set_option maxRecDepth 100000

theorem own : ownKnob Tryd.prog.godebug = none := by kernel_rfl
theorem laid : laidOutB Tryd.prog = true := by kernel_rfl

theorem contract (H : Type) (enc : TypeId × Value → H) (W : World) (base : Nat) (args : Array Value) (ds gs : List (DataW H)) (before : List MemPlace)
    (hval0 : ∀ (j : Nat) t v, Tryd.f4.params[j]? = some t → args[j]? = some v → Value.okWide Tryd.prog W .any base t v)
    (hW : DataW.Whole enc Tryd.prog Tryd.f4.params.toList Rows.kdfLabelsSpec.vars false W args.toList ds gs before) (hz : (DataW.weightsEach Tryd.prog (Tryd.f4.params.toList ++ Rows.kdfLabelsSpec.plain.varTypes Tryd.prog) (ds ++ gs)).all (· ≤ reachBytes) = true) (hL : laidMetH Tryd.prog Rows.kdfLabelsRow.laid W) :
    Calls Tryd.prog 4 args W fun e W' => ∃ v, e = .returned v ∧ Rows.kdfLabelsSpec.post enc Tryd.prog Tryd.f4 false true false false W args v W' := by
  have hval := hval0
  have hW' := hW
  obtain ⟨p, q, hTA0, hV, rfl, hfz, hnd⟩ := hW
  have hTA : DataW.TrodAll enc Tryd.prog W 0 (fun _ => true) true Tryd.f4.params.toList args.toList ds p := hTA0
  rw [Tryd.params4] at hTA hval hz
  obtain ⟨v0, vs0, d0, ds0, p0, q0, hargs, rfl, rfl, h0, r0⟩ := trodAll_cons hTA
  obtain ⟨v1, vs1, d1, ds1, p1, q1, rfl, rfl, rfl, h1, r1⟩ := trodAll_cons r0
  obtain ⟨rfl, rfl, rfl⟩ := trodAll_nil r1
  obtain rfl : args = #[v0, v1] := by cases args; simp_all
  obtain ⟨rfl, rfl⟩ := trodVars_none hV
  have hr : ∀ t ∈ Tryd.f4.params.toList, Tryd.prog.readableRec t = true ∧ t < Tryd.prog.types.size := by decide +kernel
  obtain ⟨x0, rfl, hx0⟩ := open_arr8 Tryd.underlying33 (by kernel_rfl) (hval 0 33 v0 rfl rfl) h0
  obtain ⟨s1, rfl, hd1, l1⟩ := open_str Tryd.underlying9 (hval 1 9 v1 rfl rfl) h1
  have u1 : s1.data.toList.length ≤ 140737488351232 := by
    have h1 := sized_string hz (j := 1) (t := 9) rfl (by rw [hd1]; rfl)
    have h3 : reachBytes = 140737488351232 := rfl
    omega
  have hR := roots_two hL
  exact (KdfLabels_ret hR.1 hR.2 hx0 u1).mono fun v W' ⟨hv, hx⟩ => by
    subst hv
    exact post_of_ext (tb := 4) laid hr rfl rfl hW' rfl Tryd.underlying4 rfl hx

theorem laid_met (os : Os) : laidMet Tryd.prog Rows.kdfLabelsRow.laid ((laidWorld os).forCall (fun _ _ => 0) ⟨#[], #[(.agg (Array.replicate 32 (.int .u8 0)) : Value), (.string ⟨#[]⟩ : Value)], []⟩).memory :=
  laidMet_of_run' 8 (by kernel_rfl) (by kernel_rfl)
theorem reads (os : Os) {H : Type} (enc : TypeId × Value → H) : ∃ places, DataW.whole enc Tryd.prog ((laidWorld os).forCall (fun _ _ => 0) ⟨#[], #[(.agg (Array.replicate 32 (.int .u8 0)) : Value), (.string ⟨#[]⟩ : Value)], []⟩).memory Tryd.f4.params.toList Rows.kdfLabelsSpec.vars false (#[(.agg (Array.replicate 32 (.int .u8 0)) : Value), (.string ⟨#[]⟩ : Value)]).toList 8 = some ([.agg (List.replicate 32 (.lit (.int .u8 0))), .lit (.string [])], [], places) :=
  ⟨[], by kernel_rfl⟩

set_option maxRecDepth 100000 in
theorem lifted (os : Os) (started : os.Started) (H : Type) (enc : TypeId × Value → H) (F : Stop.Interp) :
    ReturnsInHanded {} Tryd.checked os 4 .any ((OpenSpec.ofChange Rows.kdfLabelsSpec).preRow enc Tryd.prog Tryd.f4 Rows.kdfLabelsRow.domain false Rows.kdfLabelsRow.laid) (((OpenSpec.ofChange Rows.kdfLabelsSpec).at F).post enc Tryd.prog Tryd.f4 false true false false) := by
  obtain ⟨places, hx⟩ := reads os enc
  refine returnsInHanded_of_row (C := Tryd.checked) (s := OpenSpec.ofChange Rows.kdfLabelsSpec) own started (by kernel_rfl) Tryd.func4
    (witness_row_at (enc := enc) (C := Tryd.checked) false (laidWorld os) #[(.agg (Array.replicate 32 (.int .u8 0)) : Value), (.string ⟨#[]⟩ : Value)] rfl (by kernel_rfl) (by kernel_rfl) (by kernel_rfl)
      (OpenSpec.preRow_of_cond 8 hx (by kernel_rfl) (fun k hk => by cases hk) (by kernel_rfl) (laid_met os))) ?_
  intro W base args ds gs before hval hW _ _ hz hL _ _
  exact contract H enc W base args ds gs before hval hW hz hL

theorem over : Rows.KdfLabelsSaid :=
  OpenClaim.holds_of_cond 4 Tryd.f4 rfl rfl rfl rfl rfl rfl rfl ⟨rfl, rfl, rfl, rfl, rfl⟩ rfl rfl rfl rfl rfl (by kernel_rfl) Tryd.func4 (by kernel_rfl)
    (of_decide_eq_true (by kernel_rfl)) (by unfold Func.isWrapper; first | (rw [if_pos (by decide +kernel)]; kernel_rfl) | (rw [if_neg (by decide +kernel)]; exact ⟨rfl, rfl⟩))
    (fun os started H enc _ F => by rw [OpenClaim.pre_eq_preRow]; exact lifted os started H enc F)

theorem plain (f : FuncId) (fn : Func) (hf : Tryd.pinned.checked.prog.funcNamed "reliquary/reliquarylaw05.KdfLabels" = some f) (hfn : Tryd.pinned.checked.prog.funcs[f]? = some fn) :
    false = Tryd.pinned.checked.prog.looks [] ∧ ∀ (j : Nat) t, fn.params[j]? = some t → Tryd.pinned.checked.prog.wantsStandIn t = false := by
  obtain rfl : f = 4 := Option.some.inj ((show Tryd.prog.funcNamed "reliquary/reliquarylaw05.KdfLabels" = some 4 by kernel_rfl).symm.trans hf) |>.symm
  obtain rfl : fn = Tryd.f4 := (Option.some.inj (Tryd.func4.symm.trans hfn)).symm
  refine ⟨by kernel_rfl, fun j t ht => ?_⟩
  have h : ∀ t ∈ Tryd.f4.params, Tryd.prog.wantsStandIn t = false := by decide +kernel
  exact h t (Array.mem_of_getElem? ht)

theorem proved : Rows.KdfLabelsCardSaid :=
  Claim7.holds_tied_plain_at .later [] _ _ _ _ over (fun _ h => by cases h) (by kernel_rfl) (fun _ h => by cases h) kdfLabels_row_tie rfl ⟨rfl, rfl⟩ (by kernel_rfl) rfl plain (by kernel_rfl)
end Go.Proofs.YtmcdcfbhpdacfaaDoor.kdfLabelsFull

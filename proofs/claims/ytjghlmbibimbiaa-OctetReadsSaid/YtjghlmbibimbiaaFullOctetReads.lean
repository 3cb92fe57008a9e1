
/-
  OctetReads: the given statement, from the walk.
-/
import Derived.Test.YtjghlmbibimbiaaOpen

import Derived.SizedLaws

import Derived.Test.YtjghlmbibimbiaaOpenActs

import Derived.Test.YtjghlmbibimbiaaLawOctetReads

namespace Go.Proofs.Ytjghlmbibimbiaa.octetReadsFull

open Go Sx Go.ChangeShapes Go.WideShapes Go.ChangeAt Go.RowKit

set_option linter.unusedVariables false

set_option linter.unusedSimpArgs false

theorem own : ownKnob Try.prog.godebug = none := by kernel_rfl
theorem laid : laidOutB Try.prog = true := by kernel_rfl

theorem contract (H : Type) (enc : TypeId × Value → H) (W : World) (base : Nat) (args : Array Value) (ds gs : List (DataW H)) (before : List MemPlace)
    (hval0 : ∀ (j : Nat) t v, Try.f8.params[j]? = some t → args[j]? = some v → Value.okWide Try.prog W .any base t v)
    (hW : DataW.Whole enc Try.prog Try.f8.params.toList Rows.octetReadsSpec.vars false W args.toList ds gs before) (hz : (DataW.weightsEach Try.prog (Try.f8.params.toList ++ Rows.octetReadsSpec.plain.varTypes Try.prog) (ds ++ gs)).all (· ≤ reachBytes) = true) :
    Calls Try.prog 8 args W fun e W' => ∃ v, e = .returned v ∧ Rows.octetReadsSpec.post enc Try.prog Try.f8 false true false false W args v W' := by
  have hval := hval0
  have hW' := hW
  obtain ⟨p, q, hTA0, hV, rfl, hfz, hnd⟩ := hW
  have hTA : DataW.TrodAll enc Try.prog W 0 (fun _ => true) true Try.f8.params.toList args.toList ds p := hTA0
  rw [Try.params8] at hTA hval hz
  obtain ⟨v0, vs0, d0, ds0, p0, q0, hargs, rfl, rfl, h0, r0⟩ := trodAll_cons hTA
  obtain ⟨v1, vs1, d1, ds1, p1, q1, rfl, rfl, rfl, h1, r1⟩ := trodAll_cons r0
  obtain ⟨rfl, rfl, rfl⟩ := trodAll_nil r1
  obtain rfl : args = #[v0, v1] := by cases args; simp_all
  obtain ⟨rfl, rfl⟩ := trodVars_none hV
  have hr : ∀ t ∈ Try.f8.params.toList, Try.prog.readableRec t = true ∧ t < Try.prog.types.size := by decide +kernel
  obtain ⟨A0, c0, b0, rfl, lc0, cm0, cl0, hA0, hd0⟩ := open_bytes Try.underlying25 Try.underlying5 (by kernel_rfl) (hval 0 25 v0 rfl rfl) h0
  obtain ⟨A1, c1, L1, rfl, lc1, cm1, cl1, hA1, hd1, hL1⟩ := open_acts (hval 1 53 v1 rfl rfl) h1
  have u0 : b0.length ≤ 140737488351232 := by
    rcases hd0 with ⟨e1, e2⟩ | ⟨el, sp, e1, e2⟩
    · rw [e2]
      decide
    · have h1 := sized_slice hz (j := 0) (t := 25) (e := 5) (elems := el) (spare := sp) rfl (by rw [e1]; rfl) Try.underlying25
      have h2 : Try.prog.bytesOf 5 = 1 := by kernel_rfl
      have h3 : reachBytes = 140737488351232 := rfl
      rw [h2, Nat.mul_one] at h1
      omega
  exact (OctetReads_ret A0 A1 c0 c1 b0 L1 W u0 lc0 cl0 hA0 (Nat.le_trans lc1 cm1) cl1 hA1 hL1).mono fun v W' ⟨hv, hx⟩ => by
    subst hv
    exact post_of_ext (tb := 4) laid hr rfl rfl hW' rfl Try.underlying4 rfl hx

set_option maxRecDepth 100000 in
theorem lifted (os : Os) (started : os.Started) (H : Type) (enc : TypeId × Value → H) :
    ReturnsInHanded {} Try.checked os 8 .any (Rows.octetReadsSpec.pre6 enc Try.prog Try.f8 Rows.octetReadsRow.domain false) (Rows.octetReadsSpec.post enc Try.prog Try.f8 false true false false) := by
  refine returnsInHanded_of_change_sized (C := Try.checked) own started (by kernel_rfl) Try.func8
    (ChangeSpec.witness6 (enc := enc) (C := Try.checked) false ⟨#[], #[.slice none 0 0, .slice none 0 0], []⟩ 8 (by kernel_rfl) (by kernel_rfl) (by kernel_rfl) (by kernel_rfl)) ?_
  intro W base args ds gs before hval hW hcnd hz _
  exact contract H enc W base args ds gs before hval hW hz

theorem over : Rows.octetReadsRow.holds Try.pinned (OpenSpec.ofChange Rows.octetReadsSpec) :=
  OpenClaim.holds_of_wide 8 Try.f8 rfl rfl rfl rfl rfl rfl rfl ⟨rfl, rfl, rfl, rfl, rfl⟩ rfl rfl rfl rfl rfl (by kernel_rfl) Try.func8 (by kernel_rfl)
    (of_decide_eq_true (by kernel_rfl)) (by unfold Func.isWrapper; first | (rw [if_pos (by decide +kernel)]; kernel_rfl) | (rw [if_neg (by decide +kernel)]; exact ⟨rfl, rfl⟩))
    (fun os started H enc _ => lifted os started H enc)

theorem proved : Rows.OctetReadsSaid :=
  over
end Go.Proofs.Ytjghlmbibimbiaa.octetReadsFull

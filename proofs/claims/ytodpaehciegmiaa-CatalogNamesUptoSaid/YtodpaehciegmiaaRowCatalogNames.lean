import Derived.Test.YtodpaehciegmiaaOpen
import Derived.Test.YtodpaehciegmiaaBulk
import Derived.JoinedCond
import Derived.Test.YtodpaehciegmiaaOpenCat
import Derived.Test.YtodpaehciegmiaaLawCatalogNames

/-
  CatalogNames: the given statement, from the walk.
-/





namespace Go.Proofs.Ytodpaehciegmiaa.catalogNames

open Go Sx Go.ChangeShapes Go.WideShapes Go.ChangeAt Go.RowKit

set_option linter.unusedVariables false

set_option linter.unusedSimpArgs false

set_option maxRecDepth 100000

theorem own : ownKnob Try.prog.godebug = none := by kernel_rfl
theorem laid : laidOutB Try.prog = true := by kernel_rfl

theorem contract (H : Type) (enc : TypeId × Value → H) (W : World) (base : Nat) (args : Array Value) (ds gs : List (DataW H)) (before : List MemPlace)
    (hval0 : ∀ (j : Nat) t v, Try.f4.params[j]? = some t → args[j]? = some v → Value.okWide Try.prog W .any base t v)
    (hW : DataW.Whole enc Try.prog Try.f4.params.toList Rows.catalogNamesSpec.vars false W args.toList ds gs before) (hk : Rows.uptoSmall H (ds ++ gs) = true) :
    Calls Try.prog 4 args W fun e W' => ∃ v, e = .returned v ∧ Rows.catalogNamesSpec.post enc Try.prog Try.f4 false true false false W args v W' := by
  have hval := hval0
  have hW' := hW
  obtain ⟨p, q, hTA0, hV, rfl, hfz, hnd⟩ := hW
  have hTA : DataW.TrodAll enc Try.prog W 0 (fun _ => true) true Try.f4.params.toList args.toList ds p := hTA0
  rw [Try.params4] at hTA hval
  obtain ⟨v0, vs0, d0, ds0, p0, q0, hargs, rfl, rfl, h0, r0⟩ := trodAll_cons hTA
  obtain ⟨v1, vs1, d1, ds1, p1, q1, rfl, rfl, rfl, h1, r1⟩ := trodAll_cons r0
  obtain ⟨v2, vs2, d2, ds2, p2, q2, rfl, rfl, rfl, h2, r2⟩ := trodAll_cons r1
  obtain ⟨rfl, rfl, rfl⟩ := trodAll_nil r2
  obtain rfl : args = #[v0, v1, v2] := by cases args; simp_all
  obtain ⟨rfl, rfl⟩ := trodVars_none hV
  have hr : ∀ t ∈ Try.f4.params.toList, Try.prog.readableRec t = true ∧ t < Try.prog.types.size := by decide +kernel
  obtain ⟨s0, rfl, hd0, l0⟩ := open_str Try.underlying9 (hval 0 9 v0 rfl rfl) h0
  have hb := bulks.bound hk
  simp only [List.append_nil, Rows.uptoBulkAll] at hb
  have u0 : s0.data.toList.length ≤ 1048576 := by
    subst hd0
    have := bulks.string_eq (H := H) s0.data.toList
    omega
  obtain ⟨t1, A1, c1, b1, rfl, hc1, u1⟩ := open_cat (hval 1 29 v1 rfl rfl) h1 (by omega)
  obtain ⟨t2, A2, c2, b2, rfl, hc2, u2⟩ := open_cat (hval 2 29 v2 rfl rfl) h2 (by omega)
  exact (CatalogNames_ret (by rw [show s0.size = s0.data.toList.length from by simp]; omega) hc1 hc2 (by omega) (by omega)).mono fun v W' ⟨hv, hx⟩ => by
    subst hv
    exact post_of_ext (tb := 4) laid hr rfl rfl hW' rfl Try.underlying4 rfl hx

set_option maxRecDepth 100000 in
theorem lifted (os : Os) (started : os.Started) (H : Type) (enc : TypeId × Value → H) (F : Stop.Interp) :
    ReturnsInHanded {} Try.checked os 4 .any ((Rows.OpenSpec.upto Rows.catalogNamesSpec).pre6 enc Try.prog Try.f4 Rows.catalogNamesUptoRow.domain false) (((Rows.OpenSpec.upto Rows.catalogNamesSpec).at F).post enc Try.prog Try.f4 false true false false) := by
  refine returnsInHanded_of_cond (C := Try.checked) (s := Rows.OpenSpec.upto Rows.catalogNamesSpec) (k := Rows.uptoSmall) rfl own started (by kernel_rfl) Try.func4
    (OpenSpec.witness (enc := enc) (C := Try.checked) (s := Rows.OpenSpec.upto Rows.catalogNamesSpec) (k := Rows.uptoSmall) rfl false ⟨#[], #[.string ⟨#[]⟩, (.agg (.int .u32 0 :: (List.replicate 32 (.int .u8 0) ++ [.slice none 0 0])).toArray), (.agg (.int .u32 0 :: (List.replicate 32 (.int .u8 0) ++ [.slice none 0 0])).toArray)], []⟩ 8 (by kernel_rfl) (by kernel_rfl) (by kernel_rfl)
      (x := ([.lit (.string []), .agg [.agg [.lit (.int .u32 0), .agg (List.replicate 32 (.lit (.int .u8 0)))], .nil], .agg [.agg [.lit (.int .u32 0), .agg (List.replicate 32 (.lit (.int .u8 0)))], .nil]], [], [])) (by kernel_rfl) rfl (by kernel_rfl)) ?_
  intro W base args ds gs before hval hW _ hk _
  exact contract H enc W base args ds gs before hval hW hk

theorem over : Rows.catalogNamesUptoRow.holds Try.pinned (Rows.OpenSpec.upto Rows.catalogNamesSpec) :=
  OpenClaim.holds_of_cond 4 Try.f4 rfl rfl rfl rfl rfl rfl rfl ⟨rfl, rfl, rfl, rfl, rfl⟩ rfl rfl rfl rfl rfl (by kernel_rfl) Try.func4 (by kernel_rfl)
    (of_decide_eq_true (by kernel_rfl)) (by unfold Func.isWrapper; first | (rw [if_pos (by decide +kernel)]; kernel_rfl) | (rw [if_neg (by decide +kernel)]; exact ⟨rfl, rfl⟩))
    (fun os started H enc _ F => lifted os started H enc F)

theorem proved : Rows.CatalogNamesUptoSaid :=
  over
end Go.Proofs.Ytodpaehciegmiaa.catalogNames

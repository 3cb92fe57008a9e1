import Derived.Test.YtodpaehciegmiaaOpen
import Derived.SizedLaws
import Derived.Test.YtodpaehciegmiaaOpenCat
import Derived.Test.YtodpaehciegmiaaLawCatalogNames

/-
  CatalogNames: the given statement, from the walk.
-/




namespace Go.Proofs.Ytodpaehciegmiaa.catalogNamesFull

open Go Sx Go.ChangeShapes Go.WideShapes Go.ChangeAt Go.RowKit

set_option linter.unusedVariables false

set_option linter.unusedSimpArgs false

set_option maxRecDepth 100000

theorem own : ownKnob Try.prog.godebug = none := by kernel_rfl
theorem laid : laidOutB Try.prog = true := by kernel_rfl

theorem cat_small {H : Type} {ts : List TypeId} {ds : List (DataW H)} (hz : (DataW.weightsEach Try.prog ts ds).all (· ≤ reachBytes) = true) {j : Nat} {d0 : DataW H} {el sp : List (DataW H)} (ht : ts[j]? = some 29) (hd : ds[j]? = some (.agg [d0, .slice el sp])) : el.length ≤ 2513169434843 := by
  have h1 : (el.length + sp.length) * Try.prog.bytesOf 61 ∈ DataW.weights Try.prog 29 (.agg [d0, .slice el sp]) := by
    unfold DataW.weights
    rw [Try.underlying29]
    show _ ∈ DataW.weightsEach Try.prog [26, 27] [d0, .slice el sp]
    unfold DataW.weightsEach
    refine List.mem_append.2 (.inr ?_)
    unfold DataW.weightsEach
    refine List.mem_append.2 (.inl ?_)
    unfold DataW.weights
    rw [Try.underlying27]
    exact List.mem_cons_self ..
  have h2 := of_decide_eq_true (List.all_eq_true.1 hz _ (DataW.weights_mem_each ht hd _ h1))
  have h3 : Try.prog.bytesOf 61 = 56 := by kernel_rfl
  have h4 : reachBytes = 140737488351232 := rfl
  rw [h3, h4] at h2
  omega

theorem contract (H : Type) (enc : TypeId × Value → H) (W : World) (base : Nat) (args : Array Value) (ds gs : List (DataW H)) (before : List MemPlace)
    (hval0 : ∀ (j : Nat) t v, Try.f4.params[j]? = some t → args[j]? = some v → Value.okWide Try.prog W .any base t v)
    (hW : DataW.Whole enc Try.prog Try.f4.params.toList Rows.catalogNamesSpec.vars false W args.toList ds gs before)
    (hz : (DataW.weightsEach Try.prog (Try.f4.params.toList ++ Rows.catalogNamesSpec.plain.varTypes Try.prog) (ds ++ gs)).all (· ≤ reachBytes) = true) :
    Calls Try.prog 4 args W fun e W' => ∃ v, e = .returned v ∧ Rows.catalogNamesSpec.post enc Try.prog Try.f4 false true false false W args v W' := by
  have hval := hval0
  have hW' := hW
  obtain ⟨p, q, hTA0, hV, rfl, hfz, hnd⟩ := hW
  have hTA : DataW.TrodAll enc Try.prog W 0 (fun _ => true) true Try.f4.params.toList args.toList ds p := hTA0
  rw [Try.params4] at hTA hval hz
  obtain ⟨v0, vs0, d0, ds0, p0, q0, hargs, rfl, rfl, h0, r0⟩ := trodAll_cons hTA
  obtain ⟨v1, vs1, d1, ds1, p1, q1, rfl, rfl, rfl, h1, r1⟩ := trodAll_cons r0
  obtain ⟨v2, vs2, d2, ds2, p2, q2, rfl, rfl, rfl, h2, r2⟩ := trodAll_cons r1
  obtain ⟨rfl, rfl, rfl⟩ := trodAll_nil r2
  obtain rfl : args = #[v0, v1, v2] := by cases args; simp_all
  obtain ⟨rfl, rfl⟩ := trodVars_none hV
  have hr : ∀ t ∈ Try.f4.params.toList, Try.prog.readableRec t = true ∧ t < Try.prog.types.size := by decide +kernel
  obtain ⟨s0, rfl, hd0, l0⟩ := open_str Try.underlying9 (hval 0 9 v0 rfl rfl) h0
  obtain ⟨t1, A1, c1, b1, rfl, hc1, u1, x1, y1, eD1, hD1⟩ := open_catD (hval 1 29 v1 rfl rfl) h1
  have k1 : b1.length ≤ 2513169434843 := by
    rcases hD1 with ⟨e1, e2⟩ | ⟨el, sp, e1, e2⟩
    · rw [e2]
      decide
    · rw [← e2]
      exact cat_small hz (j := 1) (d0 := x1) (sp := sp) rfl (by rw [eD1, e1]; rfl)
  obtain ⟨t2, A2, c2, b2, rfl, hc2, u2, x2, y2, eD2, hD2⟩ := open_catD (hval 2 29 v2 rfl rfl) h2
  have k2 : b2.length ≤ 2513169434843 := by
    rcases hD2 with ⟨e1, e2⟩ | ⟨el, sp, e1, e2⟩
    · rw [e2]
      decide
    · rw [← e2]
      exact cat_small hz (j := 2) (d0 := x2) (sp := sp) rfl (by rw [eD2, e1]; rfl)
  exact (CatalogNames_ret (w := W) l0 hc1 hc2 k1 k2).mono fun v W' ⟨hv, hx⟩ => by
    subst hv
    exact post_of_ext (tb := 4) laid hr rfl rfl hW' rfl Try.underlying4 rfl hx

set_option maxRecDepth 100000 in
theorem lifted (os : Os) (started : os.Started) (H : Type) (enc : TypeId × Value → H) :
    ReturnsInHanded {} Try.checked os 4 .any (Rows.catalogNamesSpec.pre6 enc Try.prog Try.f4 Rows.catalogNamesRow.domain false) (Rows.catalogNamesSpec.post enc Try.prog Try.f4 false true false false) := by
  refine returnsInHanded_of_change_sized (C := Try.checked) own started (by kernel_rfl) Try.func4
    (ChangeSpec.witness6 (enc := enc) (C := Try.checked) false ⟨#[], #[.string ⟨#[]⟩, (.agg (.int .u32 0 :: (List.replicate 32 (.int .u8 0) ++ [.slice none 0 0])).toArray), (.agg (.int .u32 0 :: (List.replicate 32 (.int .u8 0) ++ [.slice none 0 0])).toArray)], []⟩ 8 (by kernel_rfl) (by kernel_rfl) (by kernel_rfl) (by kernel_rfl)) ?_
  intro W base args ds gs before hval hW hcnd hz _
  exact contract H enc W base args ds gs before hval hW hz

theorem over : Rows.catalogNamesRow.holds Try.pinned (OpenSpec.ofChange Rows.catalogNamesSpec) :=
  OpenClaim.holds_of_wide 4 Try.f4 rfl rfl rfl rfl rfl rfl rfl ⟨rfl, rfl, rfl, rfl, rfl⟩ rfl rfl rfl rfl rfl (by kernel_rfl) Try.func4 (by kernel_rfl)
    (of_decide_eq_true (by kernel_rfl)) (by unfold Func.isWrapper; first | (rw [if_pos (by decide +kernel)]; kernel_rfl) | (rw [if_neg (by decide +kernel)]; exact ⟨rfl, rfl⟩))
    (fun os started H enc _ => lifted os started H enc)

theorem proved : Rows.CatalogNamesSaid :=
  over
end Go.Proofs.Ytodpaehciegmiaa.catalogNamesFull

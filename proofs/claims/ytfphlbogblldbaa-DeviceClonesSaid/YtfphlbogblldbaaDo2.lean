import Derived.Test.YtfphlbogblldbaaRd5

/-
  A call told to a device, and to the document's.
-/

namespace Go.Proofs.Ytfphlbogblldbaa

open Go Sx

set_option linter.unusedVariables false

set_option linter.unusedSimpArgs false

set_option maxRecDepth 100000

set_option maxHeartbeats 1000000 in
theorem refFailDown_ret {w : World} {B : Nat → Prop} {D : DV} {v0 : Value} {n : Int} {d : Bool} (h : RefAt w B D v0) (hdn : D.down = true) :
    Ret cx.P 41 #[v0, .int .i64 n, .bool d] w fun v w' => ∃ v1, v = .tuple #[v1, .int .i64 20] ∧ RefAt w' B D v1 ∧ Ext Non w w' := by
  obtain ⟨LA, Lc, told, a, dn, rfl, h⟩ := h
  refine Ret.e3 (C := cx) (n := 18) cxOk Try.func41 rfl rfl rfl ?_
  (repeat ((conv => whnf); first | refine G.seq ?_ | refine G.region cxOk ?_ | refine G.block ?_ | refine G.cond_t rfl ?_ | refine G.cond_f rfl ?_ | refine G.skip ?_ | refine G.exit ?_ | refine G.ret ?_ | refine Cmp.dt (by (first | (with_reducible rfl) | omega)) ?_ | refine Cmp.df (by omega) ?_ | (first | (with_reducible refine Ev.mk _ (u32_xor _ _) ?_) | (with_reducible refine Ev.mk _ (u32_and _ _) ?_) | (with_reducible refine Ev.mk _ (u32_or _ _) ?_) | (with_reducible refine Ev.mk _ (u32_add _ _) ?_) | (with_reducible refine Ev.mk _ (u32_not _) ?_) | (with_reducible refine Ev.mk _ (u8_u32 _) ?_) | refine Ix1.mk _ _ _ rfl (by decide) rfl ?_) | (first | (with_reducible refine Ev.mk _ (IntWalk.i64_in _ ?_) ?_; · omega) | (with_reducible refine Ev.mk _ (wrap_u8_nat _) ?_) | (with_reducible refine Ev.mk _ (shr8 _) ?_) | (with_reducible refine Ev.mk _ (Int.toNat_natCast _) ?_) | (with_reducible refine Ev.mk _ (Int.toNat_ofNat _) ?_)) | refine @Ev.keep (List Value) _ _ ?_ | refine Rd.mk _ (by assumption) (by (first | exact trivial | exact fun x => x)) ?_ | refine Nd.mk (by (first | omega | exact ⟨rfl, rfl⟩ | exact ⟨rfl, by decide⟩ | exact ⟨by decide, rfl⟩ | exact ⟨by omega, by omega, by omega, by (simp [ti5]; omega), rfl⟩ | exact ⟨rfl, Nat.le_of_ble_eq_true rfl⟩ | exact rfl | decide)) ?_))
  refine Al.mk fun tb w1 hN1 => ?_
  have a1 : At w1 tb (rcD D LA Lc told a dn) 46 (0, 0) := hN1.at_
  (repeat ((conv => whnf); first | refine G.seq ?_ | refine G.region cxOk ?_ | refine G.block ?_ | refine G.cond_t rfl ?_ | refine G.cond_f rfl ?_ | refine G.skip ?_ | refine G.exit ?_ | refine G.ret ?_ | refine Cmp.dt (by (first | (with_reducible rfl) | omega)) ?_ | refine Cmp.df (by omega) ?_ | (first | (with_reducible refine Ev.mk _ (u32_xor _ _) ?_) | (with_reducible refine Ev.mk _ (u32_and _ _) ?_) | (with_reducible refine Ev.mk _ (u32_or _ _) ?_) | (with_reducible refine Ev.mk _ (u32_add _ _) ?_) | (with_reducible refine Ev.mk _ (u32_not _) ?_) | (with_reducible refine Ev.mk _ (u8_u32 _) ?_) | refine Ix1.mk _ _ _ rfl (by decide) rfl ?_) | (first | (with_reducible refine Ev.mk _ (IntWalk.i64_in _ ?_) ?_; · omega) | (with_reducible refine Ev.mk _ (wrap_u8_nat _) ?_) | (with_reducible refine Ev.mk _ (shr8 _) ?_) | (with_reducible refine Ev.mk _ (Int.toNat_natCast _) ?_) | (with_reducible refine Ev.mk _ (Int.toNat_ofNat _) ?_)) | refine @Ev.keep (List Value) _ _ ?_ | refine Rd.mk _ (by assumption) (by (first | exact trivial | exact fun x => x)) ?_ | refine Nd.mk (by (first | omega | exact ⟨rfl, rfl⟩ | exact ⟨rfl, by decide⟩ | exact ⟨by decide, rfl⟩ | exact ⟨by omega, by omega, by omega, by (simp [ti5]; omega), rfl⟩ | exact ⟨rfl, Nat.le_of_ble_eq_true rfl⟩ | exact rfl | decide)) ?_))
  refine Al.mk fun rb w2 hN2 => ?_
  have r2 : At w2 rb _ 46 (0, 0) := hN2.at_
  have a2 := a1.ext hN2.ext id
  have g5 : w2.cell? ⟨tb, 5, none⟩ = some (.bool true) := by rw [← hdn]; exact a2.cell (i := 5) rfl
  have l1 := hN1.ge
  have l2 := hN2.ge
  have s1 := hN1.ext.size
  (repeat ((conv => whnf); first | refine G.seq ?_ | refine G.region cxOk ?_ | refine G.block ?_ | refine G.cond_t rfl ?_ | refine G.cond_f rfl ?_ | refine G.skip ?_ | refine G.exit ?_ | refine G.ret ?_ | refine Cmp.dt (by (first | (with_reducible rfl) | omega)) ?_ | refine Cmp.df (by omega) ?_ | (first | (with_reducible refine Ev.mk _ (u32_xor _ _) ?_) | (with_reducible refine Ev.mk _ (u32_and _ _) ?_) | (with_reducible refine Ev.mk _ (u32_or _ _) ?_) | (with_reducible refine Ev.mk _ (u32_add _ _) ?_) | (with_reducible refine Ev.mk _ (u32_not _) ?_) | (with_reducible refine Ev.mk _ (u8_u32 _) ?_) | refine Ix1.mk _ _ _ rfl (by decide) rfl ?_) | (first | (with_reducible refine Ev.mk _ (IntWalk.i64_in _ ?_) ?_; · omega) | (with_reducible refine Ev.mk _ (wrap_u8_nat _) ?_) | (with_reducible refine Ev.mk _ (shr8 _) ?_) | (with_reducible refine Ev.mk _ (Int.toNat_natCast _) ?_) | (with_reducible refine Ev.mk _ (Int.toNat_ofNat _) ?_)) | refine @Ev.keep (List Value) _ _ ?_ | refine Rd.mk _ (by assumption) (by (first | exact trivial | exact fun x => x)) ?_ | refine Nd.mk (by (first | omega | exact ⟨rfl, rfl⟩ | exact ⟨rfl, by decide⟩ | exact ⟨by decide, rfl⟩ | exact ⟨by omega, by omega, by omega, by (simp [ti5]; omega), rfl⟩ | exact ⟨rfl, Nat.le_of_ble_eq_true rfl⟩ | exact rfl | decide)) ?_))
  refine RdA.whole a2 rfl trivial ?_
  (repeat ((conv => whnf); first | refine G.seq ?_ | refine G.region cxOk ?_ | refine G.block ?_ | refine G.cond_t rfl ?_ | refine G.cond_f rfl ?_ | refine G.skip ?_ | refine G.exit ?_ | refine G.ret ?_ | refine Cmp.dt (by (first | (with_reducible rfl) | omega)) ?_ | refine Cmp.df (by omega) ?_ | (first | (with_reducible refine Ev.mk _ (u32_xor _ _) ?_) | (with_reducible refine Ev.mk _ (u32_and _ _) ?_) | (with_reducible refine Ev.mk _ (u32_or _ _) ?_) | (with_reducible refine Ev.mk _ (u32_add _ _) ?_) | (with_reducible refine Ev.mk _ (u32_not _) ?_) | (with_reducible refine Ev.mk _ (u8_u32 _) ?_) | refine Ix1.mk _ _ _ rfl (by decide) rfl ?_) | (first | (with_reducible refine Ev.mk _ (IntWalk.i64_in _ ?_) ?_; · omega) | (with_reducible refine Ev.mk _ (wrap_u8_nat _) ?_) | (with_reducible refine Ev.mk _ (shr8 _) ?_) | (with_reducible refine Ev.mk _ (Int.toNat_natCast _) ?_) | (with_reducible refine Ev.mk _ (Int.toNat_ofNat _) ?_)) | refine @Ev.keep (List Value) _ _ ?_ | refine Rd.mk _ (by assumption) (by (first | exact trivial | exact fun x => x)) ?_ | refine Nd.mk (by (first | omega | exact ⟨rfl, rfl⟩ | exact ⟨rfl, by decide⟩ | exact ⟨by decide, rfl⟩ | exact ⟨by omega, by omega, by omega, by (simp [ti5]; omega), rfl⟩ | exact ⟨rfl, Nat.le_of_ble_eq_true rfl⟩ | exact rfl | decide)) ?_))
  refine StA.all r2 rfl (one_rc _ _ _ _ _ _ _ _ _ _ _) trivial fun w8 r8 x8 => ?_
  have r8 : At w8 rb (rcD D LA Lc told a dn) 46 (0, 0) := r8
  (repeat ((conv => whnf); first | refine G.seq ?_ | refine G.region cxOk ?_ | refine G.block ?_ | refine G.cond_t rfl ?_ | refine G.cond_f rfl ?_ | refine G.skip ?_ | refine G.exit ?_ | refine G.ret ?_ | refine Cmp.dt (by (first | (with_reducible rfl) | omega)) ?_ | refine Cmp.df (by omega) ?_ | (first | (with_reducible refine Ev.mk _ (u32_xor _ _) ?_) | (with_reducible refine Ev.mk _ (u32_and _ _) ?_) | (with_reducible refine Ev.mk _ (u32_or _ _) ?_) | (with_reducible refine Ev.mk _ (u32_add _ _) ?_) | (with_reducible refine Ev.mk _ (u32_not _) ?_) | (with_reducible refine Ev.mk _ (u8_u32 _) ?_) | refine Ix1.mk _ _ _ rfl (by decide) rfl ?_) | (first | (with_reducible refine Ev.mk _ (IntWalk.i64_in _ ?_) ?_; · omega) | (with_reducible refine Ev.mk _ (wrap_u8_nat _) ?_) | (with_reducible refine Ev.mk _ (shr8 _) ?_) | (with_reducible refine Ev.mk _ (Int.toNat_natCast _) ?_) | (with_reducible refine Ev.mk _ (Int.toNat_ofNat _) ?_)) | refine @Ev.keep (List Value) _ _ ?_ | refine Rd.mk _ (by assumption) (by (first | exact trivial | exact fun x => x)) ?_ | refine Nd.mk (by (first | omega | exact ⟨rfl, rfl⟩ | exact ⟨rfl, by decide⟩ | exact ⟨by decide, rfl⟩ | exact ⟨by omega, by omega, by omega, by (simp [ti5]; omega), rfl⟩ | exact ⟨rfl, Nat.le_of_ble_eq_true rfl⟩ | exact rfl | decide)) ?_))
  refine RdA.whole r8 rfl trivial ?_
  have X8 := Ext.own (hN1.ext.trans hN2.ext) x8 (by omega)
  (repeat ((conv => whnf); first | refine G.seq ?_ | refine G.region cxOk ?_ | refine G.block ?_ | refine G.cond_t rfl ?_ | refine G.cond_f rfl ?_ | refine G.skip ?_ | refine G.exit ?_ | refine G.ret ?_ | refine Cmp.dt (by (first | (with_reducible rfl) | omega)) ?_ | refine Cmp.df (by omega) ?_ | (first | (with_reducible refine Ev.mk _ (u32_xor _ _) ?_) | (with_reducible refine Ev.mk _ (u32_and _ _) ?_) | (with_reducible refine Ev.mk _ (u32_or _ _) ?_) | (with_reducible refine Ev.mk _ (u32_add _ _) ?_) | (with_reducible refine Ev.mk _ (u32_not _) ?_) | (with_reducible refine Ev.mk _ (u8_u32 _) ?_) | refine Ix1.mk _ _ _ rfl (by decide) rfl ?_) | (first | (with_reducible refine Ev.mk _ (IntWalk.i64_in _ ?_) ?_; · omega) | (with_reducible refine Ev.mk _ (wrap_u8_nat _) ?_) | (with_reducible refine Ev.mk _ (shr8 _) ?_) | (with_reducible refine Ev.mk _ (Int.toNat_natCast _) ?_) | (with_reducible refine Ev.mk _ (Int.toNat_ofNat _) ?_)) | refine @Ev.keep (List Value) _ _ ?_ | refine Rd.mk _ (by assumption) (by (first | exact trivial | exact fun x => x)) ?_ | refine Nd.mk (by (first | omega | exact ⟨rfl, rfl⟩ | exact ⟨rfl, by decide⟩ | exact ⟨by decide, rfl⟩ | exact ⟨by omega, by omega, by omega, by (simp [ti5]; omega), rfl⟩ | exact ⟨rfl, Nat.le_of_ble_eq_true rfl⟩ | exact rfl | decide)) ?_))
  exact Don.mk ⟨_, rfl, ⟨LA, Lc, told, a, dn, rfl, h.ext X8⟩, X8⟩
/-- What a call does, and what it answers. -/
def actD (x : DA) (D : DV) : DV × Int :=
  if x.kind % 9 = 3 then (if D.down = true then (D, 20) else stepD syncD D)
  else if x.kind % 9 = 4 then (if D.down = true then (D, 20) else stepD id D)
  else if x.kind % 9 = 5 then (if D.down = true then (D, 20) else (failD x.at_ x.done D, 0))
  else if x.kind % 9 = 6 then (startD x.data D, 0)
  else if x.kind % 9 = 7 then (editD x.at_ x.data D, 0)
  else if x.kind % 9 = 8 then (loadD x.data D, 0)
  else writeR x.at_ x.data D
structure AOk (i : Nat) (D : DV) : Prop where
  steps : D.steps ≤ i
  len : D.L.length ≤ 50 * i
  fail : ∀ n dn, D.fail = some (n, dn) → n ≤ 9223372036854775807
theorem AOk.few {i : Nat} {D : DV} (h : AOk i D) (hi : i ≤ 1000000) : Few D := ⟨by have := h.steps; omega, h.fail⟩
theorem AOk.up {i : Nat} {D : DV} (h : AOk i D) : AOk (i + 1) D := ⟨by have := h.steps; omega, by have := h.len; omega, h.fail⟩
theorem AOk.stepR {i : Nat} {D X : DV} (h : AOk i D) (e1 : X.steps = D.steps) (e2 : X.fail = D.fail) (hl : X.L.length ≤ 50 * (i + 1)) : AOk (i + 1) (stepR D X).1 := by
  have hs := h.steps
  have hll := h.len
  cases hf : D.fail with
  | none =>
    have e : Go.Proofs.Ytfphlbogblldbaa.stepR D X = ({ X with steps := X.steps + 1 }, 0) := by unfold Go.Proofs.Ytfphlbogblldbaa.stepR; rw [hf]
    rw [e]
    exact ⟨by show X.steps + 1 ≤ _; omega, hl, fun n dn h => by have h1 : X.fail = some (n, dn) := h; rw [e2, hf] at h1; cases h1⟩
  | some p =>
    obtain ⟨n, dn⟩ := p
    have hn := h.fail n dn hf
    cases n with
    | zero =>
      have e : Go.Proofs.Ytfphlbogblldbaa.stepR D X = ({ (if dn then X else D) with steps := D.steps + 1, down := true, fail := none }, 20) := by unfold Go.Proofs.Ytfphlbogblldbaa.stepR; rw [hf]
      rw [e]
      refine ⟨by show D.steps + 1 ≤ _; omega, ?_, fun n dn h => by cases h⟩
      cases dn with
      | true => exact hl
      | false => show D.L.length ≤ _; omega
    | succ n =>
      have e : Go.Proofs.Ytfphlbogblldbaa.stepR D X = ({ X with steps := X.steps + 1, fail := some (n, dn) }, 0) := by unfold Go.Proofs.Ytfphlbogblldbaa.stepR; rw [hf]
      rw [e]
      exact ⟨by show X.steps + 1 ≤ _; omega, hl, fun n' dn' h => by have h1 : some (n, dn) = some (n', dn') := h; cases h1; omega⟩
theorem AOk.act {i : Nat} {D : DV} {x : DA} (h : AOk i D) (hb : x.data.length ≤ 20000) (hhi : x.at_ ≤ 9223372036854775807) : AOk (i + 1) (actD x D).1 := by
  have hl := h.len
  unfold actD
  split
  · split
    · exact h.up
    · rw [stepD_R (act := syncD) (fun _ _ => rfl)]
      exact h.stepR rfl rfl (Nat.zero_le _)
  split
  · split
    · exact h.up
    · rw [stepD_R (act := id) (fun _ _ => rfl)]
      exact h.stepR rfl rfl (by show D.L.length ≤ _; omega)
  split
  · split
    · exact h.up
    · exact ⟨h.up.steps, h.up.len, fun n dn e => by have e' : some ((max x.at_ 0).toNat, x.done) = some (n, dn) := e; cases e'; omega⟩
  split
  · exact ⟨h.up.steps, Nat.zero_le _, fun n dn e => by cases e⟩
  split
  · unfold editD
    split
    · exact h.up
    · exact ⟨h.up.steps, h.up.len, h.fail⟩
  split
  · unfold loadD
    split
    · exact h.up
    · exact ⟨h.up.steps, Nat.zero_le _, h.fail⟩
  · unfold writeR
    split
    · exact h.up
    split
    · exact h.up
    split
    · exact h.up
    · rw [stepD_R (act := writeD x.at_.toNat x.data) (fun _ _ => rfl)]
      refine h.stepR rfl rfl ?_
      show (D.L ++ loosesI _ _ _).length ≤ _
      have := secN_le (a := x.at_.toNat) hb
      rw [List.length_append, loosesI_length]
      omega
end Go.Proofs.Ytfphlbogblldbaa

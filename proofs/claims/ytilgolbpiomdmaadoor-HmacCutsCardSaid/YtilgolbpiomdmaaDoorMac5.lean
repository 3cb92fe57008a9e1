import Derived.Test.YtilgolbpiomdmaaDoorMac3

/-
  HMAC: a Mac in a later world; a Mac that is not there.
-/

namespace Go.Proofs.YtilgolbpiomdmaaDoor

open Go Sx

set_option linter.unusedVariables false

set_option linter.unusedSimpArgs false

theorem MacAt.ext {S S' : Nat → Prop} {w w' : World} {mb : Nat} {key l : List UInt8} (h : MacAt S w mb key l) (he : Ext S' w w') (hS : ∀ k, S' k → S k) : MacAt S w' mb key l := by
  obtain ⟨hb, h1, h2, h3⟩ := h
  exact ⟨hb, h1.ext he (fun x => h3 (hS _ x)), h2.ext he (fun k hk => .inl (hS k hk)), h3⟩
theorem MacAt.non {S : Nat → Prop} {w w' : World} {mb : Nat} {key l : List UInt8} (h : MacAt S w mb key l) (he : Ext Non w w') : MacAt S w' mb key l := h.ext he (fun _ x => x.elim)
theorem MacAt.lt {S : Nat → Prop} {w : World} {mb : Nat} {key l : List UInt8} (h : MacAt S w mb key l) : mb < w.heap.size := by
  obtain ⟨hb, h1, h2, h3⟩ := h
  exact h1.lt
theorem MacAt.grow {S S' : Nat → Prop} {w w' : World} {mb : Nat} {key l : List UInt8} (h : MacAt S w mb key l) (he : Ext Non w w') (hS : ∀ k, S' k → S k ∨ w.heap.size ≤ k) : MacAt S' w' mb key l := by
  have hlt := h.lt
  obtain ⟨hb, h1, h2, h3⟩ := h
  refine ⟨hb, h1.ext he (fun x => x), h2.grow he (fun k hk => ?_), fun x => ?_⟩
  · rcases hk with hk | hk
    · exact (hS k hk).imp .inl id
    · exact .inl (.inr hk)
  · rcases hS mb x with h4 | h4
    · exact h3 h4
    · omega
theorem HashAt.grow2 {S S' S0 : Nat → Prop} {w w' : World} {hb : Nat} {l : List UInt8} (h : HashAt S w hb l) (he : Ext S0 w w') (h0 : ∀ k, S0 k → S k) (hS : ∀ k, S' k → S k ∨ w.heap.size ≤ k) : HashAt S' w' hb l := by
  have hlt := h.lt
  obtain ⟨A, c, h1, h2, h3, h4, h5⟩ := h
  refine ⟨A, c, h1.ext he (fun x => h5 (h0 _ x)), h2.ext he (fun k hk x => (h4 k hk).2.1 (h0 k x)), h3, fun k hk => ⟨(h4 k hk).1, fun x => ?_, Nat.lt_of_lt_of_le (h4 k hk).2.2 he.size⟩, fun x => ?_⟩
  · rcases hS k x with h6 | h6
    · exact (h4 k hk).2.1 h6
    · have := (h4 k hk).2.2
      omega
  · rcases hS hb x with h6 | h6
    · exact h5 h6
    · omega
theorem MacAt.grow2 {S S' S0 : Nat → Prop} {w w' : World} {mb : Nat} {key l : List UInt8} (h : MacAt S w mb key l) (he : Ext S0 w w') (h0 : ∀ k, S0 k → S k) (hS : ∀ k, S' k → S k ∨ w.heap.size ≤ k) : MacAt S' w' mb key l := by
  have hlt := h.lt
  obtain ⟨hb, h1, h2, h3⟩ := h
  refine ⟨hb, h1.ext he (fun x => h3 (h0 _ x)), h2.grow2 he (fun k hk => .inl (h0 k hk)) (fun k hk => ?_), fun x => ?_⟩
  · rcases hk with hk | hk
    · exact (hS k hk).imp .inl id
    · exact .inl (.inr hk)
  · rcases hS mb x with h4 | h4
    · exact h3 h4
    · omega
theorem WriteMN_ret (x : Value) (w : World) : Ret cx.P 24 #[.pointer none, x] w fun v w' => v = .int .i64 1 ∧ w' = w := by
  refine Ret.e2 (C := cx) (n := 13) cxOk Tryd.func24 rfl rfl rfl ?_
  (repeat ((conv => whnf); first | refine G.seq ?_ | refine G.region cxOk ?_ | refine G.block ?_ | refine G.cond_t rfl ?_ | refine G.cond_f rfl ?_ | refine G.skip ?_ | refine G.exit ?_ | refine G.ret ?_ | refine Cmp.dt (by (first | (with_reducible rfl) | omega)) ?_ | refine Cmp.df (by omega) ?_ | (first | (with_reducible refine Ev.mk _ (u32_xor _ _) ?_) | (with_reducible refine Ev.mk _ (u32_and _ _) ?_) | (with_reducible refine Ev.mk _ (u32_or _ _) ?_) | (with_reducible refine Ev.mk _ (u32_add _ _) ?_) | (with_reducible refine Ev.mk _ (u32_not _) ?_) | (with_reducible refine Ev.mk _ (u8_u32 _) ?_) | refine Ix1.mk _ _ _ rfl (by decide) rfl ?_) | (first | (with_reducible refine Ev.mk _ (IntWalk.i64_in _ ?_) ?_; · omega) | (with_reducible refine Ev.mk _ (wrap_u8_nat _) ?_) | (with_reducible refine Ev.mk _ (shr8 _) ?_) | (with_reducible refine Ev.mk _ (Int.toNat_natCast _) ?_) | (with_reducible refine Ev.mk _ (Int.toNat_ofNat _) ?_)) | refine @Ev.keep (List Value) _ _ ?_ | refine Rd.mk _ (by assumption) (by (first | exact trivial | exact fun x => x)) ?_ | refine Nd.mk (by (first | omega | exact ⟨rfl, rfl⟩ | exact ⟨rfl, by decide⟩ | exact ⟨by decide, rfl⟩ | exact ⟨by omega, by omega, by omega, by (simp [ti5]; omega), rfl⟩ | exact ⟨rfl, Nat.le_of_ble_eq_true rfl⟩ | exact rfl | decide)) ?_))
  exact Don.mk ⟨rfl, rfl⟩
theorem SumMN_ret (w : World) : Ret cx.P 25 #[.pointer none] w fun v w' => v = .agg (bv noSum).toArray ∧ Ext Non w w' := by
  refine Ret.e1 (C := cx) (n := 19) cxOk Tryd.func25 rfl rfl rfl ?_
  (repeat ((conv => whnf); first | refine G.seq ?_ | refine G.region cxOk ?_ | refine G.block ?_ | refine G.cond_t rfl ?_ | refine G.cond_f rfl ?_ | refine G.skip ?_ | refine G.exit ?_ | refine G.ret ?_ | refine Cmp.dt (by (first | (with_reducible rfl) | omega)) ?_ | refine Cmp.df (by omega) ?_ | (first | (with_reducible refine Ev.mk _ (u32_xor _ _) ?_) | (with_reducible refine Ev.mk _ (u32_and _ _) ?_) | (with_reducible refine Ev.mk _ (u32_or _ _) ?_) | (with_reducible refine Ev.mk _ (u32_add _ _) ?_) | (with_reducible refine Ev.mk _ (u32_not _) ?_) | (with_reducible refine Ev.mk _ (u8_u32 _) ?_) | refine Ix1.mk _ _ _ rfl (by decide) rfl ?_) | (first | (with_reducible refine Ev.mk _ (IntWalk.i64_in _ ?_) ?_; · omega) | (with_reducible refine Ev.mk _ (wrap_u8_nat _) ?_) | (with_reducible refine Ev.mk _ (shr8 _) ?_) | (with_reducible refine Ev.mk _ (Int.toNat_natCast _) ?_) | (with_reducible refine Ev.mk _ (Int.toNat_ofNat _) ?_)) | refine @Ev.keep (List Value) _ _ ?_ | refine Rd.mk _ (by assumption) (by (first | exact trivial | exact fun x => x)) ?_ | refine Nd.mk (by (first | omega | exact ⟨rfl, rfl⟩ | exact ⟨rfl, by decide⟩ | exact ⟨by decide, rfl⟩ | exact ⟨by omega, by omega, by omega, by (simp [ti5]; omega), rfl⟩ | exact ⟨rfl, Nat.le_of_ble_eq_true rfl⟩ | exact rfl | decide)) ?_))
  refine Al.mk fun ob w1 hN1 => ?_
  (repeat ((conv => whnf); first | refine G.seq ?_ | refine G.region cxOk ?_ | refine G.block ?_ | refine G.cond_t rfl ?_ | refine G.cond_f rfl ?_ | refine G.skip ?_ | refine G.exit ?_ | refine G.ret ?_ | refine Cmp.dt (by (first | (with_reducible rfl) | omega)) ?_ | refine Cmp.df (by omega) ?_ | (first | (with_reducible refine Ev.mk _ (u32_xor _ _) ?_) | (with_reducible refine Ev.mk _ (u32_and _ _) ?_) | (with_reducible refine Ev.mk _ (u32_or _ _) ?_) | (with_reducible refine Ev.mk _ (u32_add _ _) ?_) | (with_reducible refine Ev.mk _ (u32_not _) ?_) | (with_reducible refine Ev.mk _ (u8_u32 _) ?_) | refine Ix1.mk _ _ _ rfl (by decide) rfl ?_) | (first | (with_reducible refine Ev.mk _ (IntWalk.i64_in _ ?_) ?_; · omega) | (with_reducible refine Ev.mk _ (wrap_u8_nat _) ?_) | (with_reducible refine Ev.mk _ (shr8 _) ?_) | (with_reducible refine Ev.mk _ (Int.toNat_natCast _) ?_) | (with_reducible refine Ev.mk _ (Int.toNat_ofNat _) ?_)) | refine @Ev.keep (List Value) _ _ ?_ | refine Rd.mk _ (by assumption) (by (first | exact trivial | exact fun x => x)) ?_ | refine Nd.mk (by (first | omega | exact ⟨rfl, rfl⟩ | exact ⟨rfl, by decide⟩ | exact ⟨by decide, rfl⟩ | exact ⟨by omega, by omega, by omega, by (simp [ti5]; omega), rfl⟩ | exact ⟨rfl, Nat.le_of_ble_eq_true rfl⟩ | exact rfl | decide)) ?_))
  refine StA.all (vs := bv noSum) hN1.at_ rfl (one_bv _) trivial fun w3 h3 x3 => ?_
  (repeat ((conv => whnf); first | refine G.seq ?_ | refine G.region cxOk ?_ | refine G.block ?_ | refine G.cond_t rfl ?_ | refine G.cond_f rfl ?_ | refine G.skip ?_ | refine G.exit ?_ | refine G.ret ?_ | refine Cmp.dt (by (first | (with_reducible rfl) | omega)) ?_ | refine Cmp.df (by omega) ?_ | (first | (with_reducible refine Ev.mk _ (u32_xor _ _) ?_) | (with_reducible refine Ev.mk _ (u32_and _ _) ?_) | (with_reducible refine Ev.mk _ (u32_or _ _) ?_) | (with_reducible refine Ev.mk _ (u32_add _ _) ?_) | (with_reducible refine Ev.mk _ (u32_not _) ?_) | (with_reducible refine Ev.mk _ (u8_u32 _) ?_) | refine Ix1.mk _ _ _ rfl (by decide) rfl ?_) | (first | (with_reducible refine Ev.mk _ (IntWalk.i64_in _ ?_) ?_; · omega) | (with_reducible refine Ev.mk _ (wrap_u8_nat _) ?_) | (with_reducible refine Ev.mk _ (shr8 _) ?_) | (with_reducible refine Ev.mk _ (Int.toNat_natCast _) ?_) | (with_reducible refine Ev.mk _ (Int.toNat_ofNat _) ?_)) | refine @Ev.keep (List Value) _ _ ?_ | refine Rd.mk _ (by assumption) (by (first | exact trivial | exact fun x => x)) ?_ | refine Nd.mk (by (first | omega | exact ⟨rfl, rfl⟩ | exact ⟨rfl, by decide⟩ | exact ⟨by decide, rfl⟩ | exact ⟨by omega, by omega, by omega, by (simp [ti5]; omega), rfl⟩ | exact ⟨rfl, Nat.le_of_ble_eq_true rfl⟩ | exact rfl | decide)) ?_))
  refine RdA.whole h3 rfl trivial ?_
  (repeat ((conv => whnf); first | refine G.seq ?_ | refine G.region cxOk ?_ | refine G.block ?_ | refine G.cond_t rfl ?_ | refine G.cond_f rfl ?_ | refine G.skip ?_ | refine G.exit ?_ | refine G.ret ?_ | refine Cmp.dt (by (first | (with_reducible rfl) | omega)) ?_ | refine Cmp.df (by omega) ?_ | (first | (with_reducible refine Ev.mk _ (u32_xor _ _) ?_) | (with_reducible refine Ev.mk _ (u32_and _ _) ?_) | (with_reducible refine Ev.mk _ (u32_or _ _) ?_) | (with_reducible refine Ev.mk _ (u32_add _ _) ?_) | (with_reducible refine Ev.mk _ (u32_not _) ?_) | (with_reducible refine Ev.mk _ (u8_u32 _) ?_) | refine Ix1.mk _ _ _ rfl (by decide) rfl ?_) | (first | (with_reducible refine Ev.mk _ (IntWalk.i64_in _ ?_) ?_; · omega) | (with_reducible refine Ev.mk _ (wrap_u8_nat _) ?_) | (with_reducible refine Ev.mk _ (shr8 _) ?_) | (with_reducible refine Ev.mk _ (Int.toNat_natCast _) ?_) | (with_reducible refine Ev.mk _ (Int.toNat_ofNat _) ?_)) | refine @Ev.keep (List Value) _ _ ?_ | refine Rd.mk _ (by assumption) (by (first | exact trivial | exact fun x => x)) ?_ | refine Nd.mk (by (first | omega | exact ⟨rfl, rfl⟩ | exact ⟨rfl, by decide⟩ | exact ⟨by decide, rfl⟩ | exact ⟨by omega, by omega, by omega, by (simp [ti5]; omega), rfl⟩ | exact ⟨rfl, Nat.le_of_ble_eq_true rfl⟩ | exact rfl | decide)) ?_))
  exact Don.mk ⟨rfl, Ext.own hN1.ext x3 hN1.ge⟩
end Go.Proofs.YtilgolbpiomdmaaDoor

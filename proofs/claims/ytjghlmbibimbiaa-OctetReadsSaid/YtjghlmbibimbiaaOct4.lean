
/-
  What every statement of the octet layer asks of known bytes: it is true.
-/
import Derived.Test.YtjghlmbibimbiaaOct3

namespace Go.Proofs.Ytjghlmbibimbiaa

open Go Sx

set_option linter.unusedVariables false

set_option linter.unusedSimpArgs false

theorem awake_ret (w : World) : Ret cx.P 14 #[] w fun v w' => v = .bool true ∧ Ext Non w w' := by
  refine Ret.e0 (C := cx) (n := 27) cxOk Try.func14 rfl rfl ?_
  (repeat ((conv => whnf); first | refine G.seq ?_ | refine G.region cxOk ?_ | refine G.block ?_ | refine G.cond_t rfl ?_ | refine G.cond_f rfl ?_ | refine G.skip ?_ | refine G.exit ?_ | refine G.ret ?_ | refine Cmp.dt (by (first | (with_reducible rfl) | omega)) ?_ | refine Cmp.df (by omega) ?_ | (first | refine Ev.mk _ (IntWalk.i64_in _ (by omega)) ?_ | refine Ev.mk _ (wrap_u8_nat _) ?_ | refine Ev.mk _ (shr8 _) ?_ | refine Ev.mk _ (Int.toNat_natCast _) ?_ | refine Ev.mk _ (Int.toNat_ofNat _) ?_) | refine @Ev.keep (List Value) _ _ ?_ | refine Rd.mk _ (by assumption) (by (first | exact trivial | exact fun x => x)) ?_ | refine Nd.mk (by (first | omega | exact ⟨rfl, rfl⟩ | exact ⟨rfl, by decide⟩ | exact ⟨by decide, rfl⟩ | exact ⟨by omega, by omega, by omega, by (simp [ti5]; omega), rfl⟩ | exact ⟨rfl, Nat.le_of_ble_eq_true rfl⟩ | exact rfl | decide)) ?_))
  refine Al.mk fun b w1 hN => ?_
  (repeat ((conv => whnf); first | refine G.seq ?_ | refine G.region cxOk ?_ | refine G.block ?_ | refine G.cond_t rfl ?_ | refine G.cond_f rfl ?_ | refine G.skip ?_ | refine G.exit ?_ | refine G.ret ?_ | refine Cmp.dt (by (first | (with_reducible rfl) | omega)) ?_ | refine Cmp.df (by omega) ?_ | (first | refine Ev.mk _ (IntWalk.i64_in _ (by omega)) ?_ | refine Ev.mk _ (wrap_u8_nat _) ?_ | refine Ev.mk _ (shr8 _) ?_ | refine Ev.mk _ (Int.toNat_natCast _) ?_ | refine Ev.mk _ (Int.toNat_ofNat _) ?_) | refine @Ev.keep (List Value) _ _ ?_ | refine Rd.mk _ (by assumption) (by (first | exact trivial | exact fun x => x)) ?_ | refine Nd.mk (by (first | omega | exact ⟨rfl, rfl⟩ | exact ⟨rfl, by decide⟩ | exact ⟨by decide, rfl⟩ | exact ⟨by omega, by omega, by omega, by (simp [ti5]; omega), rfl⟩ | exact ⟨rfl, Nat.le_of_ble_eq_true rfl⟩ | exact rfl | decide)) ?_))
  refine Cl.mk (Read_ret (l := [1, 2, 3]) (Cells.whole (cs := bv [1, 2, 3]) hN.at_) (Nat.le_refl _) (fun k hk => by rw [← inBlk_some hk]; exact hN.at_.lt)) ?_
  rintro v w2 ⟨r, rfl, hr, hx2, hge⟩
  (repeat ((conv => whnf); first | refine G.seq ?_ | refine G.region cxOk ?_ | refine G.block ?_ | refine G.cond_t rfl ?_ | refine G.cond_f rfl ?_ | refine G.skip ?_ | refine G.exit ?_ | refine G.ret ?_ | refine Cmp.dt (by (first | (with_reducible rfl) | omega)) ?_ | refine Cmp.df (by omega) ?_ | (first | refine Ev.mk _ (IntWalk.i64_in _ (by omega)) ?_ | refine Ev.mk _ (wrap_u8_nat _) ?_ | refine Ev.mk _ (shr8 _) ?_ | refine Ev.mk _ (Int.toNat_natCast _) ?_ | refine Ev.mk _ (Int.toNat_ofNat _) ?_) | refine @Ev.keep (List Value) _ _ ?_ | refine Rd.mk _ (by assumption) (by (first | exact trivial | exact fun x => x)) ?_ | refine Nd.mk (by (first | omega | exact ⟨rfl, rfl⟩ | exact ⟨rfl, by decide⟩ | exact ⟨by decide, rfl⟩ | exact ⟨by omega, by omega, by omega, by (simp [ti5]; omega), rfl⟩ | exact ⟨rfl, Nat.le_of_ble_eq_true rfl⟩ | exact rfl | decide)) ?_))
  refine Cl.mk (Put16_ret 258 (by omega) w2) ?_
  rintro v w3 ⟨b3, rfl, hN3⟩
  (repeat ((conv => whnf); first | refine G.seq ?_ | refine G.region cxOk ?_ | refine G.block ?_ | refine G.cond_t rfl ?_ | refine G.cond_f rfl ?_ | refine G.skip ?_ | refine G.exit ?_ | refine G.ret ?_ | refine Cmp.dt (by (first | (with_reducible rfl) | omega)) ?_ | refine Cmp.df (by omega) ?_ | (first | refine Ev.mk _ (IntWalk.i64_in _ (by omega)) ?_ | refine Ev.mk _ (wrap_u8_nat _) ?_ | refine Ev.mk _ (shr8 _) ?_ | refine Ev.mk _ (Int.toNat_natCast _) ?_ | refine Ev.mk _ (Int.toNat_ofNat _) ?_) | refine @Ev.keep (List Value) _ _ ?_ | refine Rd.mk _ (by assumption) (by (first | exact trivial | exact fun x => x)) ?_ | refine Nd.mk (by (first | omega | exact ⟨rfl, rfl⟩ | exact ⟨rfl, by decide⟩ | exact ⟨by decide, rfl⟩ | exact ⟨by omega, by omega, by omega, by (simp [ti5]; omega), rfl⟩ | exact ⟨rfl, Nat.le_of_ble_eq_true rfl⟩ | exact rfl | decide)) ?_))
  refine RdS.of (Cells.whole hN3.at_) rfl (fun _ _ => trivial) ?_
  refine Cmp.dt rfl ?_
  (repeat ((conv => whnf); first | refine G.seq ?_ | refine G.region cxOk ?_ | refine G.block ?_ | refine G.cond_t rfl ?_ | refine G.cond_f rfl ?_ | refine G.skip ?_ | refine G.exit ?_ | refine G.ret ?_ | refine Cmp.dt (by (first | (with_reducible rfl) | omega)) ?_ | refine Cmp.df (by omega) ?_ | (first | refine Ev.mk _ (IntWalk.i64_in _ (by omega)) ?_ | refine Ev.mk _ (wrap_u8_nat _) ?_ | refine Ev.mk _ (shr8 _) ?_ | refine Ev.mk _ (Int.toNat_natCast _) ?_ | refine Ev.mk _ (Int.toNat_ofNat _) ?_) | refine @Ev.keep (List Value) _ _ ?_ | refine Rd.mk _ (by assumption) (by (first | exact trivial | exact fun x => x)) ?_ | refine Nd.mk (by (first | omega | exact ⟨rfl, rfl⟩ | exact ⟨rfl, by decide⟩ | exact ⟨by decide, rfl⟩ | exact ⟨by omega, by omega, by omega, by (simp [ti5]; omega), rfl⟩ | exact ⟨rfl, Nat.le_of_ble_eq_true rfl⟩ | exact rfl | decide)) ?_))
  refine Cl.mk (U16_ret (hr.non hN3.ext) (by decide)) ?_
  rintro v w4 ⟨rfl, hr4, hx4⟩
  refine Cmp.dt rfl ?_
  (repeat ((conv => whnf); first | refine G.seq ?_ | refine G.region cxOk ?_ | refine G.block ?_ | refine G.cond_t rfl ?_ | refine G.cond_f rfl ?_ | refine G.skip ?_ | refine G.exit ?_ | refine G.ret ?_ | refine Cmp.dt (by (first | (with_reducible rfl) | omega)) ?_ | refine Cmp.df (by omega) ?_ | (first | refine Ev.mk _ (IntWalk.i64_in _ (by omega)) ?_ | refine Ev.mk _ (wrap_u8_nat _) ?_ | refine Ev.mk _ (shr8 _) ?_ | refine Ev.mk _ (Int.toNat_natCast _) ?_ | refine Ev.mk _ (Int.toNat_ofNat _) ?_) | refine @Ev.keep (List Value) _ _ ?_ | refine Rd.mk _ (by assumption) (by (first | exact trivial | exact fun x => x)) ?_ | refine Nd.mk (by (first | omega | exact ⟨rfl, rfl⟩ | exact ⟨rfl, by decide⟩ | exact ⟨by decide, rfl⟩ | exact ⟨by omega, by omega, by omega, by (simp [ti5]; omega), rfl⟩ | exact ⟨rfl, Nat.le_of_ble_eq_true rfl⟩ | exact rfl | decide)) ?_))
  refine Cl.mk (Left_ret hr4) ?_
  rintro v w5 ⟨rfl, rfl⟩
  refine Cmp.dt rfl ?_
  (repeat ((conv => whnf); first | refine G.seq ?_ | refine G.region cxOk ?_ | refine G.block ?_ | refine G.cond_t rfl ?_ | refine G.cond_f rfl ?_ | refine G.skip ?_ | refine G.exit ?_ | refine G.ret ?_ | refine Cmp.dt (by (first | (with_reducible rfl) | omega)) ?_ | refine Cmp.df (by omega) ?_ | (first | refine Ev.mk _ (IntWalk.i64_in _ (by omega)) ?_ | refine Ev.mk _ (wrap_u8_nat _) ?_ | refine Ev.mk _ (shr8 _) ?_ | refine Ev.mk _ (Int.toNat_natCast _) ?_ | refine Ev.mk _ (Int.toNat_ofNat _) ?_) | refine @Ev.keep (List Value) _ _ ?_ | refine Rd.mk _ (by assumption) (by (first | exact trivial | exact fun x => x)) ?_ | refine Nd.mk (by (first | omega | exact ⟨rfl, rfl⟩ | exact ⟨rfl, by decide⟩ | exact ⟨by decide, rfl⟩ | exact ⟨by omega, by omega, by omega, by (simp [ti5]; omega), rfl⟩ | exact ⟨rfl, Nat.le_of_ble_eq_true rfl⟩ | exact rfl | decide)) ?_))
  refine Don.mk ⟨rfl, (hN.ext.non (hx2.non hN3.ext)).own hx4 (Nat.le_trans hN.ext.size hge)⟩
end Go.Proofs.Ytjghlmbibimbiaa

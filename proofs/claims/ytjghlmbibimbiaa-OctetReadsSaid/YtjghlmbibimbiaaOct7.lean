
/-
  The contracts of the octet functions: noughts.
-/
import Derived.Test.YtjghlmbibimbiaaOct6

namespace Go.Proofs.Ytjghlmbibimbiaa

open Go Sx

set_option linter.unusedVariables false

set_option linter.unusedSimpArgs false

def padS (l : List UInt8) (n : Int) : List UInt8 × Int :=
  if n < 0 ∨ 65536 < n then ([], 2) else if n < l.length then ([], 5) else (l ++ List.replicate (n.toNat - l.length) 0, 0)
theorem bv_replicate (n : Nat) : bv (List.replicate n 0) = List.replicate n (.int .u8 0) := by simp [bv]

theorem Pad_ret {w : World} {A : Option Addr} {c : Nat} {l : List UInt8} (n : Int) (h : Cells w A (bv l)) (hl : l.length < 9223372036854775807) :
    Ret cx.P 25 #[.slice A l.length c, .int .i64 n] w fun v w' => ∃ v1, v = .tuple #[v1, .int .i64 (padS l n).2] ∧ OB w' w.heap.size v1 (padS l n).1 ∧ Ext Non w w' := by
  refine Ret.e2 (C := cx) (n := 25) cxOk Try.func25 rfl rfl rfl ?_
  unfold padS
  (repeat ((conv => whnf); first | refine G.seq ?_ | refine G.region cxOk ?_ | refine G.block ?_ | refine G.cond_t rfl ?_ | refine G.cond_f rfl ?_ | refine G.skip ?_ | refine G.exit ?_ | refine G.ret ?_ | refine Cmp.dt (by (first | (with_reducible rfl) | omega)) ?_ | refine Cmp.df (by omega) ?_ | (first | refine Ev.mk _ (IntWalk.i64_in _ (by omega)) ?_ | refine Ev.mk _ (wrap_u8_nat _) ?_ | refine Ev.mk _ (shr8 _) ?_ | refine Ev.mk _ (Int.toNat_natCast _) ?_ | refine Ev.mk _ (Int.toNat_ofNat _) ?_) | refine @Ev.keep (List Value) _ _ ?_ | refine Rd.mk _ (by assumption) (by (first | exact trivial | exact fun x => x)) ?_ | refine Nd.mk (by (first | omega | exact ⟨rfl, rfl⟩ | exact ⟨rfl, by decide⟩ | exact ⟨by decide, rfl⟩ | exact ⟨by omega, by omega, by omega, by (simp [ti5]; omega), rfl⟩ | exact ⟨rfl, Nat.le_of_ble_eq_true rfl⟩ | exact rfl | decide)) ?_))
  refine Cmp.ds (fun h0 => ?_) (fun h0 => ?_)
  · rw [if_pos (.inl h0)]
    (repeat ((conv => whnf); first | refine G.seq ?_ | refine G.region cxOk ?_ | refine G.block ?_ | refine G.cond_t rfl ?_ | refine G.cond_f rfl ?_ | refine G.skip ?_ | refine G.exit ?_ | refine G.ret ?_ | refine Cmp.dt (by (first | (with_reducible rfl) | omega)) ?_ | refine Cmp.df (by omega) ?_ | (first | refine Ev.mk _ (IntWalk.i64_in _ (by omega)) ?_ | refine Ev.mk _ (wrap_u8_nat _) ?_ | refine Ev.mk _ (shr8 _) ?_ | refine Ev.mk _ (Int.toNat_natCast _) ?_ | refine Ev.mk _ (Int.toNat_ofNat _) ?_) | refine @Ev.keep (List Value) _ _ ?_ | refine Rd.mk _ (by assumption) (by (first | exact trivial | exact fun x => x)) ?_ | refine Nd.mk (by (first | omega | exact ⟨rfl, rfl⟩ | exact ⟨rfl, by decide⟩ | exact ⟨by decide, rfl⟩ | exact ⟨by omega, by omega, by omega, by (simp [ti5]; omega), rfl⟩ | exact ⟨rfl, Nat.le_of_ble_eq_true rfl⟩ | exact rfl | decide)) ?_))
    exact Don.mk ⟨_, rfl, OS.nil _ _ _ _, Ext.refl _ _⟩
  · (repeat ((conv => whnf); first | refine G.seq ?_ | refine G.region cxOk ?_ | refine G.block ?_ | refine G.cond_t rfl ?_ | refine G.cond_f rfl ?_ | refine G.skip ?_ | refine G.exit ?_ | refine G.ret ?_ | refine Cmp.dt (by (first | (with_reducible rfl) | omega)) ?_ | refine Cmp.df (by omega) ?_ | (first | refine Ev.mk _ (IntWalk.i64_in _ (by omega)) ?_ | refine Ev.mk _ (wrap_u8_nat _) ?_ | refine Ev.mk _ (shr8 _) ?_ | refine Ev.mk _ (Int.toNat_natCast _) ?_ | refine Ev.mk _ (Int.toNat_ofNat _) ?_) | refine @Ev.keep (List Value) _ _ ?_ | refine Rd.mk _ (by assumption) (by (first | exact trivial | exact fun x => x)) ?_ | refine Nd.mk (by (first | omega | exact ⟨rfl, rfl⟩ | exact ⟨rfl, by decide⟩ | exact ⟨by decide, rfl⟩ | exact ⟨by omega, by omega, by omega, by (simp [ti5]; omega), rfl⟩ | exact ⟨rfl, Nat.le_of_ble_eq_true rfl⟩ | exact rfl | decide)) ?_))
    refine Cmp.ds (fun h1 => ?_) (fun h1 => ?_)
    · rw [if_pos (.inr h1)]
      (repeat ((conv => whnf); first | refine G.seq ?_ | refine G.region cxOk ?_ | refine G.block ?_ | refine G.cond_t rfl ?_ | refine G.cond_f rfl ?_ | refine G.skip ?_ | refine G.exit ?_ | refine G.ret ?_ | refine Cmp.dt (by (first | (with_reducible rfl) | omega)) ?_ | refine Cmp.df (by omega) ?_ | (first | refine Ev.mk _ (IntWalk.i64_in _ (by omega)) ?_ | refine Ev.mk _ (wrap_u8_nat _) ?_ | refine Ev.mk _ (shr8 _) ?_ | refine Ev.mk _ (Int.toNat_natCast _) ?_ | refine Ev.mk _ (Int.toNat_ofNat _) ?_) | refine @Ev.keep (List Value) _ _ ?_ | refine Rd.mk _ (by assumption) (by (first | exact trivial | exact fun x => x)) ?_ | refine Nd.mk (by (first | omega | exact ⟨rfl, rfl⟩ | exact ⟨rfl, by decide⟩ | exact ⟨by decide, rfl⟩ | exact ⟨by omega, by omega, by omega, by (simp [ti5]; omega), rfl⟩ | exact ⟨rfl, Nat.le_of_ble_eq_true rfl⟩ | exact rfl | decide)) ?_))
      exact Don.mk ⟨_, rfl, OS.nil _ _ _ _, Ext.refl _ _⟩
    · rw [if_neg (by omega)]
      (repeat ((conv => whnf); first | refine G.seq ?_ | refine G.region cxOk ?_ | refine G.block ?_ | refine G.cond_t rfl ?_ | refine G.cond_f rfl ?_ | refine G.skip ?_ | refine G.exit ?_ | refine G.ret ?_ | refine Cmp.dt (by (first | (with_reducible rfl) | omega)) ?_ | refine Cmp.df (by omega) ?_ | (first | refine Ev.mk _ (IntWalk.i64_in _ (by omega)) ?_ | refine Ev.mk _ (wrap_u8_nat _) ?_ | refine Ev.mk _ (shr8 _) ?_ | refine Ev.mk _ (Int.toNat_natCast _) ?_ | refine Ev.mk _ (Int.toNat_ofNat _) ?_) | refine @Ev.keep (List Value) _ _ ?_ | refine Rd.mk _ (by assumption) (by (first | exact trivial | exact fun x => x)) ?_ | refine Nd.mk (by (first | omega | exact ⟨rfl, rfl⟩ | exact ⟨rfl, by decide⟩ | exact ⟨by decide, rfl⟩ | exact ⟨by omega, by omega, by omega, by (simp [ti5]; omega), rfl⟩ | exact ⟨rfl, Nat.le_of_ble_eq_true rfl⟩ | exact rfl | decide)) ?_))
      refine Cmp.ds (fun h2 => ?_) (fun h2 => ?_)
      · rw [if_pos h2]
        (repeat ((conv => whnf); first | refine G.seq ?_ | refine G.region cxOk ?_ | refine G.block ?_ | refine G.cond_t rfl ?_ | refine G.cond_f rfl ?_ | refine G.skip ?_ | refine G.exit ?_ | refine G.ret ?_ | refine Cmp.dt (by (first | (with_reducible rfl) | omega)) ?_ | refine Cmp.df (by omega) ?_ | (first | refine Ev.mk _ (IntWalk.i64_in _ (by omega)) ?_ | refine Ev.mk _ (wrap_u8_nat _) ?_ | refine Ev.mk _ (shr8 _) ?_ | refine Ev.mk _ (Int.toNat_natCast _) ?_ | refine Ev.mk _ (Int.toNat_ofNat _) ?_) | refine @Ev.keep (List Value) _ _ ?_ | refine Rd.mk _ (by assumption) (by (first | exact trivial | exact fun x => x)) ?_ | refine Nd.mk (by (first | omega | exact ⟨rfl, rfl⟩ | exact ⟨rfl, by decide⟩ | exact ⟨by decide, rfl⟩ | exact ⟨by omega, by omega, by omega, by (simp [ti5]; omega), rfl⟩ | exact ⟨rfl, Nat.le_of_ble_eq_true rfl⟩ | exact rfl | decide)) ?_))
        exact Don.mk ⟨_, rfl, OS.nil _ _ _ _, Ext.refl _ _⟩
      · rw [if_neg (by omega)]
        obtain ⟨N, rfl⟩ : ∃ N : Nat, n = (N : Int) := ⟨n.toNat, by omega⟩
        have hle : l.length ≤ N := by omega
        rw [Int.toNat_natCast]
        (repeat ((conv => whnf); first | refine G.seq ?_ | refine G.region cxOk ?_ | refine G.block ?_ | refine G.cond_t rfl ?_ | refine G.cond_f rfl ?_ | refine G.skip ?_ | refine G.exit ?_ | refine G.ret ?_ | refine Cmp.dt (by (first | (with_reducible rfl) | omega)) ?_ | refine Cmp.df (by omega) ?_ | (first | refine Ev.mk _ (IntWalk.i64_in _ (by omega)) ?_ | refine Ev.mk _ (wrap_u8_nat _) ?_ | refine Ev.mk _ (shr8 _) ?_ | refine Ev.mk _ (Int.toNat_natCast _) ?_ | refine Ev.mk _ (Int.toNat_ofNat _) ?_) | refine @Ev.keep (List Value) _ _ ?_ | refine Rd.mk _ (by assumption) (by (first | exact trivial | exact fun x => x)) ?_ | refine Nd.mk (by (first | omega | exact ⟨rfl, rfl⟩ | exact ⟨rfl, by decide⟩ | exact ⟨by decide, rfl⟩ | exact ⟨by omega, by omega, by omega, by (simp [ti5]; omega), rfl⟩ | exact ⟨rfl, Nat.le_of_ble_eq_true rfl⟩ | exact rfl | decide)) ?_))
        refine Al.mk fun b w1 hN => ?_
        (repeat ((conv => whnf); first | refine G.seq ?_ | refine G.region cxOk ?_ | refine G.block ?_ | refine G.cond_t rfl ?_ | refine G.cond_f rfl ?_ | refine G.skip ?_ | refine G.exit ?_ | refine G.ret ?_ | refine Cmp.dt (by (first | (with_reducible rfl) | omega)) ?_ | refine Cmp.df (by omega) ?_ | (first | refine Ev.mk _ (IntWalk.i64_in _ (by omega)) ?_ | refine Ev.mk _ (wrap_u8_nat _) ?_ | refine Ev.mk _ (shr8 _) ?_ | refine Ev.mk _ (Int.toNat_natCast _) ?_ | refine Ev.mk _ (Int.toNat_ofNat _) ?_) | refine @Ev.keep (List Value) _ _ ?_ | refine Rd.mk _ (by assumption) (by (first | exact trivial | exact fun x => x)) ?_ | refine Nd.mk (by (first | omega | exact ⟨rfl, rfl⟩ | exact ⟨rfl, by decide⟩ | exact ⟨by decide, rfl⟩ | exact ⟨by omega, by omega, by omega, by (simp [ti5]; omega), rfl⟩ | exact ⟨rfl, Nat.le_of_ble_eq_true rfl⟩ | exact rfl | decide)) ?_))
        rw [zrep_u8] at hN
        have hmin : min l.length N = l.length := Nat.min_eq_left hle
        refine Run.copy tiB tiU8 (srcB (h.ext hN.ext fun _ _ x => x)) (fun _ => rfl) hN.at_ (by rw [hmin, bv_length, List.length_replicate]; simp [ti5]; omega) (.inl (Nat.le_refl _)) trivial ?_
        intro w2 h2 x2
        (repeat ((conv => whnf); first | refine G.seq ?_ | refine G.region cxOk ?_ | refine G.block ?_ | refine G.cond_t rfl ?_ | refine G.cond_f rfl ?_ | refine G.skip ?_ | refine G.exit ?_ | refine G.ret ?_ | refine Cmp.dt (by (first | (with_reducible rfl) | omega)) ?_ | refine Cmp.df (by omega) ?_ | (first | refine Ev.mk _ (IntWalk.i64_in _ (by omega)) ?_ | refine Ev.mk _ (wrap_u8_nat _) ?_ | refine Ev.mk _ (shr8 _) ?_ | refine Ev.mk _ (Int.toNat_natCast _) ?_ | refine Ev.mk _ (Int.toNat_ofNat _) ?_) | refine @Ev.keep (List Value) _ _ ?_ | refine Rd.mk _ (by assumption) (by (first | exact trivial | exact fun x => x)) ?_ | refine Nd.mk (by (first | omega | exact ⟨rfl, rfl⟩ | exact ⟨rfl, by decide⟩ | exact ⟨by decide, rfl⟩ | exact ⟨by omega, by omega, by omega, by (simp [ti5]; omega), rfl⟩ | exact ⟨rfl, Nat.le_of_ble_eq_true rfl⟩ | exact rfl | decide)) ?_))
        refine Don.mk ⟨_, rfl, ?_, hN.ext.own x2 hN.ge⟩
        rw [hmin] at h2
        have e : ov (bv (List.replicate N 0)) 0 ((bv l).take (l.length * ti5.size)) = bv (l ++ List.replicate (N - l.length) 0) := by
          have hsz : l.length * ti5.size = l.length := by simp [ti5]
          rw [hsz, List.take_of_length_le (by rw [bv_length]; exact Nat.le_refl _), ov, bv_append, bv_replicate, bv_replicate, bv_length]
          simp
        rw [e] at h2
        have el : (l ++ List.replicate (N - l.length) 0).length = N := by simp; omega
        refine ⟨by rw [bv_length, Nat.mul_one], .inr ⟨b, N, [], (0, 0), by rw [el], hN.ge, by rw [el]; exact Nat.le_refl _, by rw [List.append_nil]; exact h2, by rw [List.append_nil, bv_length, el, Nat.mul_one], .inl rfl⟩⟩
theorem refPad_ret {w : World} {A : Option Addr} {c : Nat} {l : List UInt8} (n : Int) (h : Cells w A (bv l)) (hl : l.length < 9223372036854775807) :
    Ret cx.P 26 #[.slice A l.length c, .int .i64 n] w fun v w' => ∃ v1, v = .tuple #[v1, .int .i64 (padS l n).2] ∧ OB w' w.heap.size v1 (padS l n).1 ∧ Ext Non w w' := by
  refine Ret.e2 (C := cx) (n := 30) cxOk Try.func26 rfl rfl rfl ?_
  unfold padS
  (repeat ((conv => whnf); first | refine G.seq ?_ | refine G.region cxOk ?_ | refine G.block ?_ | refine G.cond_t rfl ?_ | refine G.cond_f rfl ?_ | refine G.skip ?_ | refine G.exit ?_ | refine G.ret ?_ | refine Cmp.dt (by (first | (with_reducible rfl) | omega)) ?_ | refine Cmp.df (by omega) ?_ | (first | refine Ev.mk _ (IntWalk.i64_in _ (by omega)) ?_ | refine Ev.mk _ (wrap_u8_nat _) ?_ | refine Ev.mk _ (shr8 _) ?_ | refine Ev.mk _ (Int.toNat_natCast _) ?_ | refine Ev.mk _ (Int.toNat_ofNat _) ?_) | refine @Ev.keep (List Value) _ _ ?_ | refine Rd.mk _ (by assumption) (by (first | exact trivial | exact fun x => x)) ?_ | refine Nd.mk (by (first | omega | exact ⟨rfl, rfl⟩ | exact ⟨rfl, by decide⟩ | exact ⟨by decide, rfl⟩ | exact ⟨by omega, by omega, by omega, by (simp [ti5]; omega), rfl⟩ | exact ⟨rfl, Nat.le_of_ble_eq_true rfl⟩ | exact rfl | decide)) ?_))
  refine Cmp.ds (fun h0 => ?_) (fun h0 => ?_)
  · rw [if_pos (.inl h0)]
    (repeat ((conv => whnf); first | refine G.seq ?_ | refine G.region cxOk ?_ | refine G.block ?_ | refine G.cond_t rfl ?_ | refine G.cond_f rfl ?_ | refine G.skip ?_ | refine G.exit ?_ | refine G.ret ?_ | refine Cmp.dt (by (first | (with_reducible rfl) | omega)) ?_ | refine Cmp.df (by omega) ?_ | (first | refine Ev.mk _ (IntWalk.i64_in _ (by omega)) ?_ | refine Ev.mk _ (wrap_u8_nat _) ?_ | refine Ev.mk _ (shr8 _) ?_ | refine Ev.mk _ (Int.toNat_natCast _) ?_ | refine Ev.mk _ (Int.toNat_ofNat _) ?_) | refine @Ev.keep (List Value) _ _ ?_ | refine Rd.mk _ (by assumption) (by (first | exact trivial | exact fun x => x)) ?_ | refine Nd.mk (by (first | omega | exact ⟨rfl, rfl⟩ | exact ⟨rfl, by decide⟩ | exact ⟨by decide, rfl⟩ | exact ⟨by omega, by omega, by omega, by (simp [ti5]; omega), rfl⟩ | exact ⟨rfl, Nat.le_of_ble_eq_true rfl⟩ | exact rfl | decide)) ?_))
    exact Don.mk ⟨_, rfl, OS.nil _ _ _ _, Ext.refl _ _⟩
  · (repeat ((conv => whnf); first | refine G.seq ?_ | refine G.region cxOk ?_ | refine G.block ?_ | refine G.cond_t rfl ?_ | refine G.cond_f rfl ?_ | refine G.skip ?_ | refine G.exit ?_ | refine G.ret ?_ | refine Cmp.dt (by (first | (with_reducible rfl) | omega)) ?_ | refine Cmp.df (by omega) ?_ | (first | refine Ev.mk _ (IntWalk.i64_in _ (by omega)) ?_ | refine Ev.mk _ (wrap_u8_nat _) ?_ | refine Ev.mk _ (shr8 _) ?_ | refine Ev.mk _ (Int.toNat_natCast _) ?_ | refine Ev.mk _ (Int.toNat_ofNat _) ?_) | refine @Ev.keep (List Value) _ _ ?_ | refine Rd.mk _ (by assumption) (by (first | exact trivial | exact fun x => x)) ?_ | refine Nd.mk (by (first | omega | exact ⟨rfl, rfl⟩ | exact ⟨rfl, by decide⟩ | exact ⟨by decide, rfl⟩ | exact ⟨by omega, by omega, by omega, by (simp [ti5]; omega), rfl⟩ | exact ⟨rfl, Nat.le_of_ble_eq_true rfl⟩ | exact rfl | decide)) ?_))
    refine Cmp.ds (fun h1 => ?_) (fun h1 => ?_)
    · rw [if_pos (.inr h1)]
      (repeat ((conv => whnf); first | refine G.seq ?_ | refine G.region cxOk ?_ | refine G.block ?_ | refine G.cond_t rfl ?_ | refine G.cond_f rfl ?_ | refine G.skip ?_ | refine G.exit ?_ | refine G.ret ?_ | refine Cmp.dt (by (first | (with_reducible rfl) | omega)) ?_ | refine Cmp.df (by omega) ?_ | (first | refine Ev.mk _ (IntWalk.i64_in _ (by omega)) ?_ | refine Ev.mk _ (wrap_u8_nat _) ?_ | refine Ev.mk _ (shr8 _) ?_ | refine Ev.mk _ (Int.toNat_natCast _) ?_ | refine Ev.mk _ (Int.toNat_ofNat _) ?_) | refine @Ev.keep (List Value) _ _ ?_ | refine Rd.mk _ (by assumption) (by (first | exact trivial | exact fun x => x)) ?_ | refine Nd.mk (by (first | omega | exact ⟨rfl, rfl⟩ | exact ⟨rfl, by decide⟩ | exact ⟨by decide, rfl⟩ | exact ⟨by omega, by omega, by omega, by (simp [ti5]; omega), rfl⟩ | exact ⟨rfl, Nat.le_of_ble_eq_true rfl⟩ | exact rfl | decide)) ?_))
      exact Don.mk ⟨_, rfl, OS.nil _ _ _ _, Ext.refl _ _⟩
    · rw [if_neg (by omega)]
      (repeat ((conv => whnf); first | refine G.seq ?_ | refine G.region cxOk ?_ | refine G.block ?_ | refine G.cond_t rfl ?_ | refine G.cond_f rfl ?_ | refine G.skip ?_ | refine G.exit ?_ | refine G.ret ?_ | refine Cmp.dt (by (first | (with_reducible rfl) | omega)) ?_ | refine Cmp.df (by omega) ?_ | (first | refine Ev.mk _ (IntWalk.i64_in _ (by omega)) ?_ | refine Ev.mk _ (wrap_u8_nat _) ?_ | refine Ev.mk _ (shr8 _) ?_ | refine Ev.mk _ (Int.toNat_natCast _) ?_ | refine Ev.mk _ (Int.toNat_ofNat _) ?_) | refine @Ev.keep (List Value) _ _ ?_ | refine Rd.mk _ (by assumption) (by (first | exact trivial | exact fun x => x)) ?_ | refine Nd.mk (by (first | omega | exact ⟨rfl, rfl⟩ | exact ⟨rfl, by decide⟩ | exact ⟨by decide, rfl⟩ | exact ⟨by omega, by omega, by omega, by (simp [ti5]; omega), rfl⟩ | exact ⟨rfl, Nat.le_of_ble_eq_true rfl⟩ | exact rfl | decide)) ?_))
      refine Cmp.ds (fun h2 => ?_) (fun h2 => ?_)
      · rw [if_pos h2]
        (repeat ((conv => whnf); first | refine G.seq ?_ | refine G.region cxOk ?_ | refine G.block ?_ | refine G.cond_t rfl ?_ | refine G.cond_f rfl ?_ | refine G.skip ?_ | refine G.exit ?_ | refine G.ret ?_ | refine Cmp.dt (by (first | (with_reducible rfl) | omega)) ?_ | refine Cmp.df (by omega) ?_ | (first | refine Ev.mk _ (IntWalk.i64_in _ (by omega)) ?_ | refine Ev.mk _ (wrap_u8_nat _) ?_ | refine Ev.mk _ (shr8 _) ?_ | refine Ev.mk _ (Int.toNat_natCast _) ?_ | refine Ev.mk _ (Int.toNat_ofNat _) ?_) | refine @Ev.keep (List Value) _ _ ?_ | refine Rd.mk _ (by assumption) (by (first | exact trivial | exact fun x => x)) ?_ | refine Nd.mk (by (first | omega | exact ⟨rfl, rfl⟩ | exact ⟨rfl, by decide⟩ | exact ⟨by decide, rfl⟩ | exact ⟨by omega, by omega, by omega, by (simp [ti5]; omega), rfl⟩ | exact ⟨rfl, Nat.le_of_ble_eq_true rfl⟩ | exact rfl | decide)) ?_))
        exact Don.mk ⟨_, rfl, OS.nil _ _ _ _, Ext.refl _ _⟩
      · rw [if_neg (by omega)]
        obtain ⟨N, rfl⟩ : ∃ N : Nat, n = (N : Int) := ⟨n.toNat, by omega⟩
        have hle : l.length ≤ N := by omega
        rw [Int.toNat_natCast]
        (repeat ((conv => whnf); first | refine G.seq ?_ | refine G.region cxOk ?_ | refine G.block ?_ | refine G.cond_t rfl ?_ | refine G.cond_f rfl ?_ | refine G.skip ?_ | refine G.exit ?_ | refine G.ret ?_ | refine Cmp.dt (by (first | (with_reducible rfl) | omega)) ?_ | refine Cmp.df (by omega) ?_ | (first | refine Ev.mk _ (IntWalk.i64_in _ (by omega)) ?_ | refine Ev.mk _ (wrap_u8_nat _) ?_ | refine Ev.mk _ (shr8 _) ?_ | refine Ev.mk _ (Int.toNat_natCast _) ?_ | refine Ev.mk _ (Int.toNat_ofNat _) ?_) | refine @Ev.keep (List Value) _ _ ?_ | refine Rd.mk _ (by assumption) (by (first | exact trivial | exact fun x => x)) ?_ | refine Nd.mk (by (first | omega | exact ⟨rfl, rfl⟩ | exact ⟨rfl, by decide⟩ | exact ⟨by decide, rfl⟩ | exact ⟨by omega, by omega, by omega, by (simp [ti5]; omega), rfl⟩ | exact ⟨rfl, Nat.le_of_ble_eq_true rfl⟩ | exact rfl | decide)) ?_))
        refine Al.mk fun b w1 hN => ?_
        (repeat ((conv => whnf); first | refine G.seq ?_ | refine G.region cxOk ?_ | refine G.block ?_ | refine G.cond_t rfl ?_ | refine G.cond_f rfl ?_ | refine G.skip ?_ | refine G.exit ?_ | refine G.ret ?_ | refine Cmp.dt (by (first | (with_reducible rfl) | omega)) ?_ | refine Cmp.df (by omega) ?_ | (first | refine Ev.mk _ (IntWalk.i64_in _ (by omega)) ?_ | refine Ev.mk _ (wrap_u8_nat _) ?_ | refine Ev.mk _ (shr8 _) ?_ | refine Ev.mk _ (Int.toNat_natCast _) ?_ | refine Ev.mk _ (Int.toNat_ofNat _) ?_) | refine @Ev.keep (List Value) _ _ ?_ | refine Rd.mk _ (by assumption) (by (first | exact trivial | exact fun x => x)) ?_ | refine Nd.mk (by (first | omega | exact ⟨rfl, rfl⟩ | exact ⟨rfl, by decide⟩ | exact ⟨by decide, rfl⟩ | exact ⟨by omega, by omega, by omega, by (simp [ti5]; omega), rfl⟩ | exact ⟨rfl, Nat.le_of_ble_eq_true rfl⟩ | exact rfl | decide)) ?_))
        refine Run.appB undB (OB.empty hN rfl) (srcB (h.ext hN.ext fun _ _ x => x)) (by simp; omega) hN.ext.size (fun _ _ => trivial) ?_
        intro A1 c1 w2 hc1 o2 hx2 hb2
        rw [List.nil_append] at o2 hc1 ⊢
        have x2 : Ext Non w w2 := hN.ext.app (OB.empty hN rfl) (Nat.le_refl _) hx2
        (repeat ((conv => whnf); first | refine G.seq ?_ | refine G.region cxOk ?_ | refine G.block ?_ | refine G.cond_t rfl ?_ | refine G.cond_f rfl ?_ | refine G.skip ?_ | refine G.exit ?_ | refine G.ret ?_ | refine Cmp.dt (by (first | (with_reducible rfl) | omega)) ?_ | refine Cmp.df (by omega) ?_ | (first | refine Ev.mk _ (IntWalk.i64_in _ (by omega)) ?_ | refine Ev.mk _ (wrap_u8_nat _) ?_ | refine Ev.mk _ (shr8 _) ?_ | refine Ev.mk _ (Int.toNat_natCast _) ?_ | refine Ev.mk _ (Int.toNat_ofNat _) ?_) | refine @Ev.keep (List Value) _ _ ?_ | refine Rd.mk _ (by assumption) (by (first | exact trivial | exact fun x => x)) ?_ | refine Nd.mk (by (first | omega | exact ⟨rfl, rfl⟩ | exact ⟨rfl, by decide⟩ | exact ⟨by decide, rfl⟩ | exact ⟨by omega, by omega, by omega, by (simp [ti5]; omega), rfl⟩ | exact ⟨rfl, Nat.le_of_ble_eq_true rfl⟩ | exact rfl | decide)) ?_))
        refine G.loop (α := Nat × Value) (fun s => [(1, .int .i64 (N : Int)), (6, s.2)])
          (fun s w' => l.length + s.1 ≤ N ∧ OB w' w.heap.size s.2 (l ++ List.replicate s.1 0) ∧ Ext Non w w') (fun s => N - s.1) (0, _) ⟨rfl, rfl, trivial⟩ ⟨by omega, by simpa using o2, x2⟩ ?_
        rintro ⟨i, v⟩ w3 ⟨hi, o3, x3⟩
        simp only at hi o3 ⊢
        obtain ⟨A3, c3, rfl, _, _, _⟩ := o3.form
        (repeat ((conv => whnf); first | refine G.seq ?_ | refine G.region cxOk ?_ | refine G.block ?_ | refine G.cond_t rfl ?_ | refine G.cond_f rfl ?_ | refine G.skip ?_ | refine G.exit ?_ | refine G.ret ?_ | refine Cmp.dt (by (first | (with_reducible rfl) | omega)) ?_ | refine Cmp.df (by omega) ?_ | (first | refine Ev.mk _ (IntWalk.i64_in _ (by omega)) ?_ | refine Ev.mk _ (wrap_u8_nat _) ?_ | refine Ev.mk _ (shr8 _) ?_ | refine Ev.mk _ (Int.toNat_natCast _) ?_ | refine Ev.mk _ (Int.toNat_ofNat _) ?_) | refine @Ev.keep (List Value) _ _ ?_ | refine Rd.mk _ (by assumption) (by (first | exact trivial | exact fun x => x)) ?_ | refine Nd.mk (by (first | omega | exact ⟨rfl, rfl⟩ | exact ⟨rfl, by decide⟩ | exact ⟨by decide, rfl⟩ | exact ⟨by omega, by omega, by omega, by (simp [ti5]; omega), rfl⟩ | exact ⟨rfl, Nat.le_of_ble_eq_true rfl⟩ | exact rfl | decide)) ?_))
        refine Cmp.ds (fun hlt => ?_) (fun hlt => ?_)
        · have hlt' : l.length + i < N := by simp at hlt; omega
          (repeat ((conv => whnf); first | refine G.seq ?_ | refine G.region cxOk ?_ | refine G.block ?_ | refine G.cond_t rfl ?_ | refine G.cond_f rfl ?_ | refine G.skip ?_ | refine G.exit ?_ | refine G.ret ?_ | refine Cmp.dt (by (first | (with_reducible rfl) | omega)) ?_ | refine Cmp.df (by omega) ?_ | (first | refine Ev.mk _ (IntWalk.i64_in _ (by omega)) ?_ | refine Ev.mk _ (wrap_u8_nat _) ?_ | refine Ev.mk _ (shr8 _) ?_ | refine Ev.mk _ (Int.toNat_natCast _) ?_ | refine Ev.mk _ (Int.toNat_ofNat _) ?_) | refine @Ev.keep (List Value) _ _ ?_ | refine Rd.mk _ (by assumption) (by (first | exact trivial | exact fun x => x)) ?_ | refine Nd.mk (by (first | omega | exact ⟨rfl, rfl⟩ | exact ⟨rfl, by decide⟩ | exact ⟨by decide, rfl⟩ | exact ⟨by omega, by omega, by omega, by (simp [ti5]; omega), rfl⟩ | exact ⟨rfl, Nat.le_of_ble_eq_true rfl⟩ | exact rfl | decide)) ?_))
          refine Al.mk fun b4 w4 hN4 => ?_
          (repeat ((conv => whnf); first | refine G.seq ?_ | refine G.region cxOk ?_ | refine G.block ?_ | refine G.cond_t rfl ?_ | refine G.cond_f rfl ?_ | refine G.skip ?_ | refine G.exit ?_ | refine G.ret ?_ | refine Cmp.dt (by (first | (with_reducible rfl) | omega)) ?_ | refine Cmp.df (by omega) ?_ | (first | refine Ev.mk _ (IntWalk.i64_in _ (by omega)) ?_ | refine Ev.mk _ (wrap_u8_nat _) ?_ | refine Ev.mk _ (shr8 _) ?_ | refine Ev.mk _ (Int.toNat_natCast _) ?_ | refine Ev.mk _ (Int.toNat_ofNat _) ?_) | refine @Ev.keep (List Value) _ _ ?_ | refine Rd.mk _ (by assumption) (by (first | exact trivial | exact fun x => x)) ?_ | refine Nd.mk (by (first | omega | exact ⟨rfl, rfl⟩ | exact ⟨rfl, by decide⟩ | exact ⟨by decide, rfl⟩ | exact ⟨by omega, by omega, by omega, by (simp [ti5]; omega), rfl⟩ | exact ⟨rfl, Nat.le_of_ble_eq_true rfl⟩ | exact rfl | decide)) ?_))
          refine Run.appB undB (l2 := [0]) (o3.keep hN4.ext) (srcB (l := [0]) (c := 1) (Cells.of_at (sp := []) hN4.at_)) (by simp; omega) (Nat.le_trans x3.size hN4.ext.size) (fun _ _ => trivial) ?_
          intro A5 c5 w5 hc5 o5 hx5 hb5
          (repeat ((conv => whnf); first | refine G.seq ?_ | refine G.region cxOk ?_ | refine G.block ?_ | refine G.cond_t rfl ?_ | refine G.cond_f rfl ?_ | refine G.skip ?_ | refine G.exit ?_ | refine G.ret ?_ | refine Cmp.dt (by (first | (with_reducible rfl) | omega)) ?_ | refine Cmp.df (by omega) ?_ | (first | refine Ev.mk _ (IntWalk.i64_in _ (by omega)) ?_ | refine Ev.mk _ (wrap_u8_nat _) ?_ | refine Ev.mk _ (shr8 _) ?_ | refine Ev.mk _ (Int.toNat_natCast _) ?_ | refine Ev.mk _ (Int.toNat_ofNat _) ?_) | refine @Ev.keep (List Value) _ _ ?_ | refine Rd.mk _ (by assumption) (by (first | exact trivial | exact fun x => x)) ?_ | refine Nd.mk (by (first | omega | exact ⟨rfl, rfl⟩ | exact ⟨rfl, by decide⟩ | exact ⟨by decide, rfl⟩ | exact ⟨by omega, by omega, by omega, by (simp [ti5]; omega), rfl⟩ | exact ⟨rfl, Nat.le_of_ble_eq_true rfl⟩ | exact rfl | decide)) ?_))
          refine ⟨(i + 1, _), ⟨rfl, rfl, trivial⟩, ⟨by simp only; omega, ?_, (x3.trans hN4.ext).app (o3.keep hN4.ext) (Nat.le_refl _) hx5⟩, by simp only; omega⟩
          simp only
          rw [List.replicate_succ', ← List.append_assoc]
          exact o5
        · have hi' : i = N - l.length := by simp at hlt; omega
          subst hi'
          (repeat ((conv => whnf); first | refine G.seq ?_ | refine G.region cxOk ?_ | refine G.block ?_ | refine G.cond_t rfl ?_ | refine G.cond_f rfl ?_ | refine G.skip ?_ | refine G.exit ?_ | refine G.ret ?_ | refine Cmp.dt (by (first | (with_reducible rfl) | omega)) ?_ | refine Cmp.df (by omega) ?_ | (first | refine Ev.mk _ (IntWalk.i64_in _ (by omega)) ?_ | refine Ev.mk _ (wrap_u8_nat _) ?_ | refine Ev.mk _ (shr8 _) ?_ | refine Ev.mk _ (Int.toNat_natCast _) ?_ | refine Ev.mk _ (Int.toNat_ofNat _) ?_) | refine @Ev.keep (List Value) _ _ ?_ | refine Rd.mk _ (by assumption) (by (first | exact trivial | exact fun x => x)) ?_ | refine Nd.mk (by (first | omega | exact ⟨rfl, rfl⟩ | exact ⟨rfl, by decide⟩ | exact ⟨by decide, rfl⟩ | exact ⟨by omega, by omega, by omega, by (simp [ti5]; omega), rfl⟩ | exact ⟨rfl, Nat.le_of_ble_eq_true rfl⟩ | exact rfl | decide)) ?_))
          exact Don.mk ⟨_, rfl, o3, x3⟩
theorem cells_at {w : World} {A : Option Addr} {l : List UInt8} (h : Cells w A (bv l)) {i : Nat} (hi : i < l.length) : ∃ b off, A = some ⟨b, off, none⟩ ∧ w.cell? ⟨b, off + i, none⟩ = some (.int .u8 ((l[i]).toNat : Int)) := by
  rcases h with h | ⟨b, off, rfl, h⟩
  · have := congrArg List.length h
    rw [bv_length] at this
    simp at this
    subst this
    exact absurd hi (by simp)
  · have := h i (by rw [bv_length]; exact hi)
    exact ⟨b, off, rfl, by rw [this]; simp [bv]⟩
def nulls (l : List UInt8) : Bool := l.all (· == 0)
theorem nulls_succ {l : List UInt8} {i : Nat} (h : i < l.length) (hn : nulls (l.take i) = true) (hx : l[i] = 0) : nulls (l.take (i + 1)) = true := by
  rw [List.take_succ_eq_append_getElem h, nulls, List.all_append, Bool.and_eq_true]
  exact ⟨hn, by simp [hx]⟩
theorem nz_ret (x : UInt8) (w : World) : Ret cx.P 36 #[.int .u8 (x.toNat : Int)] w fun v w' => v = .bool (decide (x ≠ 0)) ∧ w' = w := by
  refine Ret.e1 (C := cx) (n := 5) cxOk Try.func36 rfl rfl rfl ?_
  (repeat ((conv => whnf); first | refine G.seq ?_ | refine G.region cxOk ?_ | refine G.block ?_ | refine G.cond_t rfl ?_ | refine G.cond_f rfl ?_ | refine G.skip ?_ | refine G.exit ?_ | refine G.ret ?_ | refine Cmp.dt (by (first | (with_reducible rfl) | omega)) ?_ | refine Cmp.df (by omega) ?_ | (first | refine Ev.mk _ (IntWalk.i64_in _ (by omega)) ?_ | refine Ev.mk _ (wrap_u8_nat _) ?_ | refine Ev.mk _ (shr8 _) ?_ | refine Ev.mk _ (Int.toNat_natCast _) ?_ | refine Ev.mk _ (Int.toNat_ofNat _) ?_) | refine @Ev.keep (List Value) _ _ ?_ | refine Rd.mk _ (by assumption) (by (first | exact trivial | exact fun x => x)) ?_ | refine Nd.mk (by (first | omega | exact ⟨rfl, rfl⟩ | exact ⟨rfl, by decide⟩ | exact ⟨by decide, rfl⟩ | exact ⟨by omega, by omega, by omega, by (simp [ti5]; omega), rfl⟩ | exact ⟨rfl, Nat.le_of_ble_eq_true rfl⟩ | exact rfl | decide)) ?_))
  refine Cmp.keep ?_
  (repeat ((conv => whnf); first | refine G.seq ?_ | refine G.region cxOk ?_ | refine G.block ?_ | refine G.cond_t rfl ?_ | refine G.cond_f rfl ?_ | refine G.skip ?_ | refine G.exit ?_ | refine G.ret ?_ | refine Cmp.dt (by (first | (with_reducible rfl) | omega)) ?_ | refine Cmp.df (by omega) ?_ | (first | refine Ev.mk _ (IntWalk.i64_in _ (by omega)) ?_ | refine Ev.mk _ (wrap_u8_nat _) ?_ | refine Ev.mk _ (shr8 _) ?_ | refine Ev.mk _ (Int.toNat_natCast _) ?_ | refine Ev.mk _ (Int.toNat_ofNat _) ?_) | refine @Ev.keep (List Value) _ _ ?_ | refine Rd.mk _ (by assumption) (by (first | exact trivial | exact fun x => x)) ?_ | refine Nd.mk (by (first | omega | exact ⟨rfl, rfl⟩ | exact ⟨rfl, by decide⟩ | exact ⟨by decide, rfl⟩ | exact ⟨by omega, by omega, by omega, by (simp [ti5]; omega), rfl⟩ | exact ⟨rfl, Nat.le_of_ble_eq_true rfl⟩ | exact rfl | decide)) ?_))
  refine Don.mk ⟨?_, rfl⟩
  congr 1
  have : ((x.toNat : Int) ≠ 0) ↔ x ≠ 0 := by
    rw [ne_eq, ne_eq, ← UInt8.toNat_inj]
    simp
  simp [this]
theorem Index_ret {w : World} {A : Option Addr} {c : Nat} {l : List UInt8} (h : Cells w A (bv l)) (hl : l.length < 9223372036854775807) :
    Ret cx.P 41 #[.slice A l.length c, .func (.func 36) #[] #[]] w fun v w' => ∃ z : Int, v = .int .i64 z ∧ (0 ≤ z ↔ nulls l = false) ∧ w' = w := by
  refine Ret.e2 (C := cx) (n := 19) cxOk Try.func41 rfl rfl rfl ?_
  (repeat ((conv => whnf); first | refine G.seq ?_ | refine G.region cxOk ?_ | refine G.block ?_ | refine G.cond_t rfl ?_ | refine G.cond_f rfl ?_ | refine G.skip ?_ | refine G.exit ?_ | refine G.ret ?_ | refine Cmp.dt (by (first | (with_reducible rfl) | omega)) ?_ | refine Cmp.df (by omega) ?_ | (first | refine Ev.mk _ (IntWalk.i64_in _ (by omega)) ?_ | refine Ev.mk _ (wrap_u8_nat _) ?_ | refine Ev.mk _ (shr8 _) ?_ | refine Ev.mk _ (Int.toNat_natCast _) ?_ | refine Ev.mk _ (Int.toNat_ofNat _) ?_) | refine @Ev.keep (List Value) _ _ ?_ | refine Rd.mk _ (by assumption) (by (first | exact trivial | exact fun x => x)) ?_ | refine Nd.mk (by (first | omega | exact ⟨rfl, rfl⟩ | exact ⟨rfl, by decide⟩ | exact ⟨by decide, rfl⟩ | exact ⟨by omega, by omega, by omega, by (simp [ti5]; omega), rfl⟩ | exact ⟨rfl, Nat.le_of_ble_eq_true rfl⟩ | exact rfl | decide)) ?_))
  refine G.loop (α := Nat) (fun i => [(0, .slice A l.length c), (1, .func (.func 36) #[] #[]), (7, .int .i64 (l.length : Int)), (8, .int .i64 (i : Int))])
    (fun i w' => i ≤ l.length ∧ nulls (l.take i) = true ∧ w' = w) (fun i => l.length - i) 0 ⟨rfl, rfl, rfl, rfl, trivial⟩ ⟨Nat.zero_le _, rfl, rfl⟩ ?_
  rintro i w1 ⟨hi, hn, rfl⟩
  (repeat ((conv => whnf); first | refine G.seq ?_ | refine G.region cxOk ?_ | refine G.block ?_ | refine G.cond_t rfl ?_ | refine G.cond_f rfl ?_ | refine G.skip ?_ | refine G.exit ?_ | refine G.ret ?_ | refine Cmp.dt (by (first | (with_reducible rfl) | omega)) ?_ | refine Cmp.df (by omega) ?_ | (first | refine Ev.mk _ (IntWalk.i64_in _ (by omega)) ?_ | refine Ev.mk _ (wrap_u8_nat _) ?_ | refine Ev.mk _ (shr8 _) ?_ | refine Ev.mk _ (Int.toNat_natCast _) ?_ | refine Ev.mk _ (Int.toNat_ofNat _) ?_) | refine @Ev.keep (List Value) _ _ ?_ | refine Rd.mk _ (by assumption) (by (first | exact trivial | exact fun x => x)) ?_ | refine Nd.mk (by (first | omega | exact ⟨rfl, rfl⟩ | exact ⟨rfl, by decide⟩ | exact ⟨by decide, rfl⟩ | exact ⟨by omega, by omega, by omega, by (simp [ti5]; omega), rfl⟩ | exact ⟨rfl, Nat.le_of_ble_eq_true rfl⟩ | exact rfl | decide)) ?_))
  refine Cmp.ds (fun hlt => ?_) (fun hlt => ?_)
  · have hil : i < l.length := by omega
    obtain ⟨b, off, rfl, g⟩ := cells_at h hil
    (repeat ((conv => whnf); first | refine G.seq ?_ | refine G.region cxOk ?_ | refine G.block ?_ | refine G.cond_t rfl ?_ | refine G.cond_f rfl ?_ | refine G.skip ?_ | refine G.exit ?_ | refine G.ret ?_ | refine Cmp.dt (by (first | (with_reducible rfl) | omega)) ?_ | refine Cmp.df (by omega) ?_ | (first | refine Ev.mk _ (IntWalk.i64_in _ (by omega)) ?_ | refine Ev.mk _ (wrap_u8_nat _) ?_ | refine Ev.mk _ (shr8 _) ?_ | refine Ev.mk _ (Int.toNat_natCast _) ?_ | refine Ev.mk _ (Int.toNat_ofNat _) ?_) | refine @Ev.keep (List Value) _ _ ?_ | refine Rd.mk _ (by assumption) (by (first | exact trivial | exact fun x => x)) ?_ | refine Nd.mk (by (first | omega | exact ⟨rfl, rfl⟩ | exact ⟨rfl, by decide⟩ | exact ⟨by decide, rfl⟩ | exact ⟨by omega, by omega, by omega, by (simp [ti5]; omega), rfl⟩ | exact ⟨rfl, Nat.le_of_ble_eq_true rfl⟩ | exact rfl | decide)) ?_))
    refine Ix1.mk b off (off + i) rfl (by omega) (by omega) ?_
    (repeat ((conv => whnf); first | refine G.seq ?_ | refine G.region cxOk ?_ | refine G.block ?_ | refine G.cond_t rfl ?_ | refine G.cond_f rfl ?_ | refine G.skip ?_ | refine G.exit ?_ | refine G.ret ?_ | refine Cmp.dt (by (first | (with_reducible rfl) | omega)) ?_ | refine Cmp.df (by omega) ?_ | (first | refine Ev.mk _ (IntWalk.i64_in _ (by omega)) ?_ | refine Ev.mk _ (wrap_u8_nat _) ?_ | refine Ev.mk _ (shr8 _) ?_ | refine Ev.mk _ (Int.toNat_natCast _) ?_ | refine Ev.mk _ (Int.toNat_ofNat _) ?_) | refine @Ev.keep (List Value) _ _ ?_ | refine Rd.mk _ (by assumption) (by (first | exact trivial | exact fun x => x)) ?_ | refine Nd.mk (by (first | omega | exact ⟨rfl, rfl⟩ | exact ⟨rfl, by decide⟩ | exact ⟨by decide, rfl⟩ | exact ⟨by omega, by omega, by omega, by (simp [ti5]; omega), rfl⟩ | exact ⟨rfl, Nat.le_of_ble_eq_true rfl⟩ | exact rfl | decide)) ?_))
    refine Cl.mk (nz_ret l[i] w1) ?_
    rintro v w2 ⟨rfl, rfl⟩
    by_cases hx : l[i] = 0
    · rw [decide_eq_false (by simpa using hx)]
      (repeat ((conv => whnf); first | refine G.seq ?_ | refine G.region cxOk ?_ | refine G.block ?_ | refine G.cond_t rfl ?_ | refine G.cond_f rfl ?_ | refine G.skip ?_ | refine G.exit ?_ | refine G.ret ?_ | refine Cmp.dt (by (first | (with_reducible rfl) | omega)) ?_ | refine Cmp.df (by omega) ?_ | (first | refine Ev.mk _ (IntWalk.i64_in _ (by omega)) ?_ | refine Ev.mk _ (wrap_u8_nat _) ?_ | refine Ev.mk _ (shr8 _) ?_ | refine Ev.mk _ (Int.toNat_natCast _) ?_ | refine Ev.mk _ (Int.toNat_ofNat _) ?_) | refine @Ev.keep (List Value) _ _ ?_ | refine Rd.mk _ (by assumption) (by (first | exact trivial | exact fun x => x)) ?_ | refine Nd.mk (by (first | omega | exact ⟨rfl, rfl⟩ | exact ⟨rfl, by decide⟩ | exact ⟨by decide, rfl⟩ | exact ⟨by omega, by omega, by omega, by (simp [ti5]; omega), rfl⟩ | exact ⟨rfl, Nat.le_of_ble_eq_true rfl⟩ | exact rfl | decide)) ?_))
      refine ⟨i + 1, ⟨rfl, rfl, rfl, rfl, trivial⟩, ⟨by omega, ?_, rfl⟩, by omega⟩
      exact nulls_succ hil hn hx
    · rw [decide_eq_true (by simpa using hx)]
      (repeat ((conv => whnf); first | refine G.seq ?_ | refine G.region cxOk ?_ | refine G.block ?_ | refine G.cond_t rfl ?_ | refine G.cond_f rfl ?_ | refine G.skip ?_ | refine G.exit ?_ | refine G.ret ?_ | refine Cmp.dt (by (first | (with_reducible rfl) | omega)) ?_ | refine Cmp.df (by omega) ?_ | (first | refine Ev.mk _ (IntWalk.i64_in _ (by omega)) ?_ | refine Ev.mk _ (wrap_u8_nat _) ?_ | refine Ev.mk _ (shr8 _) ?_ | refine Ev.mk _ (Int.toNat_natCast _) ?_ | refine Ev.mk _ (Int.toNat_ofNat _) ?_) | refine @Ev.keep (List Value) _ _ ?_ | refine Rd.mk _ (by assumption) (by (first | exact trivial | exact fun x => x)) ?_ | refine Nd.mk (by (first | omega | exact ⟨rfl, rfl⟩ | exact ⟨rfl, by decide⟩ | exact ⟨by decide, rfl⟩ | exact ⟨by omega, by omega, by omega, by (simp [ti5]; omega), rfl⟩ | exact ⟨rfl, Nat.le_of_ble_eq_true rfl⟩ | exact rfl | decide)) ?_))
      refine Don.mk ⟨_, rfl, ⟨fun _ => ?_, fun _ => by omega⟩, rfl⟩
      simp only [nulls, List.all_eq_false]
      exact ⟨l[i], List.getElem_mem _, by simpa using hx⟩
  · (repeat ((conv => whnf); first | refine G.seq ?_ | refine G.region cxOk ?_ | refine G.block ?_ | refine G.cond_t rfl ?_ | refine G.cond_f rfl ?_ | refine G.skip ?_ | refine G.exit ?_ | refine G.ret ?_ | refine Cmp.dt (by (first | (with_reducible rfl) | omega)) ?_ | refine Cmp.df (by omega) ?_ | (first | refine Ev.mk _ (IntWalk.i64_in _ (by omega)) ?_ | refine Ev.mk _ (wrap_u8_nat _) ?_ | refine Ev.mk _ (shr8 _) ?_ | refine Ev.mk _ (Int.toNat_natCast _) ?_ | refine Ev.mk _ (Int.toNat_ofNat _) ?_) | refine @Ev.keep (List Value) _ _ ?_ | refine Rd.mk _ (by assumption) (by (first | exact trivial | exact fun x => x)) ?_ | refine Nd.mk (by (first | omega | exact ⟨rfl, rfl⟩ | exact ⟨rfl, by decide⟩ | exact ⟨by decide, rfl⟩ | exact ⟨by omega, by omega, by omega, by (simp [ti5]; omega), rfl⟩ | exact ⟨rfl, Nat.le_of_ble_eq_true rfl⟩ | exact rfl | decide)) ?_))
    refine Don.mk ⟨_, rfl, ⟨fun h => absurd h (by decide), fun h => ?_⟩, rfl⟩
    rw [List.take_of_length_le (by omega), h] at hn
    cases hn
theorem Nought_ret {w : World} {A : Option Addr} {c : Nat} {l : List UInt8} (h : Cells w A (bv l)) (hl : l.length < 9223372036854775807) :
    Ret cx.P 27 #[.slice A l.length c] w fun v w' => v = .bool (nulls l) ∧ w' = w := by
  have hC : Ret cx.P 35 #[.slice A l.length c, .func (.func 36) #[] #[]] w fun v w' => v = .bool (!nulls l) ∧ w' = w := by
    refine Ret.e2 (C := cx) (n := 9) cxOk Try.func35 rfl rfl rfl ?_
    (repeat ((conv => whnf); first | refine G.seq ?_ | refine G.region cxOk ?_ | refine G.block ?_ | refine G.cond_t rfl ?_ | refine G.cond_f rfl ?_ | refine G.skip ?_ | refine G.exit ?_ | refine G.ret ?_ | refine Cmp.dt (by (first | (with_reducible rfl) | omega)) ?_ | refine Cmp.df (by omega) ?_ | (first | refine Ev.mk _ (IntWalk.i64_in _ (by omega)) ?_ | refine Ev.mk _ (wrap_u8_nat _) ?_ | refine Ev.mk _ (shr8 _) ?_ | refine Ev.mk _ (Int.toNat_natCast _) ?_ | refine Ev.mk _ (Int.toNat_ofNat _) ?_) | refine @Ev.keep (List Value) _ _ ?_ | refine Rd.mk _ (by assumption) (by (first | exact trivial | exact fun x => x)) ?_ | refine Nd.mk (by (first | omega | exact ⟨rfl, rfl⟩ | exact ⟨rfl, by decide⟩ | exact ⟨by decide, rfl⟩ | exact ⟨by omega, by omega, by omega, by (simp [ti5]; omega), rfl⟩ | exact ⟨rfl, Nat.le_of_ble_eq_true rfl⟩ | exact rfl | decide)) ?_))
    refine Cl.mk (Index_ret h hl) ?_
    rintro v w1 ⟨z, rfl, hz, rfl⟩
    (repeat ((conv => whnf); first | refine G.seq ?_ | refine G.region cxOk ?_ | refine G.block ?_ | refine G.cond_t rfl ?_ | refine G.cond_f rfl ?_ | refine G.skip ?_ | refine G.exit ?_ | refine G.ret ?_ | refine Cmp.dt (by (first | (with_reducible rfl) | omega)) ?_ | refine Cmp.df (by omega) ?_ | (first | refine Ev.mk _ (IntWalk.i64_in _ (by omega)) ?_ | refine Ev.mk _ (wrap_u8_nat _) ?_ | refine Ev.mk _ (shr8 _) ?_ | refine Ev.mk _ (Int.toNat_natCast _) ?_ | refine Ev.mk _ (Int.toNat_ofNat _) ?_) | refine @Ev.keep (List Value) _ _ ?_ | refine Rd.mk _ (by assumption) (by (first | exact trivial | exact fun x => x)) ?_ | refine Nd.mk (by (first | omega | exact ⟨rfl, rfl⟩ | exact ⟨rfl, by decide⟩ | exact ⟨by decide, rfl⟩ | exact ⟨by omega, by omega, by omega, by (simp [ti5]; omega), rfl⟩ | exact ⟨rfl, Nat.le_of_ble_eq_true rfl⟩ | exact rfl | decide)) ?_))
    refine Cmp.keep ?_
    (repeat ((conv => whnf); first | refine G.seq ?_ | refine G.region cxOk ?_ | refine G.block ?_ | refine G.cond_t rfl ?_ | refine G.cond_f rfl ?_ | refine G.skip ?_ | refine G.exit ?_ | refine G.ret ?_ | refine Cmp.dt (by (first | (with_reducible rfl) | omega)) ?_ | refine Cmp.df (by omega) ?_ | (first | refine Ev.mk _ (IntWalk.i64_in _ (by omega)) ?_ | refine Ev.mk _ (wrap_u8_nat _) ?_ | refine Ev.mk _ (shr8 _) ?_ | refine Ev.mk _ (Int.toNat_natCast _) ?_ | refine Ev.mk _ (Int.toNat_ofNat _) ?_) | refine @Ev.keep (List Value) _ _ ?_ | refine Rd.mk _ (by assumption) (by (first | exact trivial | exact fun x => x)) ?_ | refine Nd.mk (by (first | omega | exact ⟨rfl, rfl⟩ | exact ⟨rfl, by decide⟩ | exact ⟨by decide, rfl⟩ | exact ⟨by omega, by omega, by omega, by (simp [ti5]; omega), rfl⟩ | exact ⟨rfl, Nat.le_of_ble_eq_true rfl⟩ | exact rfl | decide)) ?_))
    refine Don.mk ⟨?_, rfl⟩
    congr 1
    cases hn : nulls l
    · rw [hn] at hz
      simpa using hz
    · rw [hn] at hz
      simpa using hz
  refine Ret.e1 (C := cx) (n := 6) cxOk Try.func27 rfl rfl rfl ?_
  (repeat ((conv => whnf); first | refine G.seq ?_ | refine G.region cxOk ?_ | refine G.block ?_ | refine G.cond_t rfl ?_ | refine G.cond_f rfl ?_ | refine G.skip ?_ | refine G.exit ?_ | refine G.ret ?_ | refine Cmp.dt (by (first | (with_reducible rfl) | omega)) ?_ | refine Cmp.df (by omega) ?_ | (first | refine Ev.mk _ (IntWalk.i64_in _ (by omega)) ?_ | refine Ev.mk _ (wrap_u8_nat _) ?_ | refine Ev.mk _ (shr8 _) ?_ | refine Ev.mk _ (Int.toNat_natCast _) ?_ | refine Ev.mk _ (Int.toNat_ofNat _) ?_) | refine @Ev.keep (List Value) _ _ ?_ | refine Rd.mk _ (by assumption) (by (first | exact trivial | exact fun x => x)) ?_ | refine Nd.mk (by (first | omega | exact ⟨rfl, rfl⟩ | exact ⟨rfl, by decide⟩ | exact ⟨by decide, rfl⟩ | exact ⟨by omega, by omega, by omega, by (simp [ti5]; omega), rfl⟩ | exact ⟨rfl, Nat.le_of_ble_eq_true rfl⟩ | exact rfl | decide)) ?_))
  refine Cl.mk hC ?_
  rintro v w1 ⟨rfl, rfl⟩
  cases nulls l
  · (repeat ((conv => whnf); first | refine G.seq ?_ | refine G.region cxOk ?_ | refine G.block ?_ | refine G.cond_t rfl ?_ | refine G.cond_f rfl ?_ | refine G.skip ?_ | refine G.exit ?_ | refine G.ret ?_ | refine Cmp.dt (by (first | (with_reducible rfl) | omega)) ?_ | refine Cmp.df (by omega) ?_ | (first | refine Ev.mk _ (IntWalk.i64_in _ (by omega)) ?_ | refine Ev.mk _ (wrap_u8_nat _) ?_ | refine Ev.mk _ (shr8 _) ?_ | refine Ev.mk _ (Int.toNat_natCast _) ?_ | refine Ev.mk _ (Int.toNat_ofNat _) ?_) | refine @Ev.keep (List Value) _ _ ?_ | refine Rd.mk _ (by assumption) (by (first | exact trivial | exact fun x => x)) ?_ | refine Nd.mk (by (first | omega | exact ⟨rfl, rfl⟩ | exact ⟨rfl, by decide⟩ | exact ⟨by decide, rfl⟩ | exact ⟨by omega, by omega, by omega, by (simp [ti5]; omega), rfl⟩ | exact ⟨rfl, Nat.le_of_ble_eq_true rfl⟩ | exact rfl | decide)) ?_))
    exact Don.mk ⟨rfl, rfl⟩
  · (repeat ((conv => whnf); first | refine G.seq ?_ | refine G.region cxOk ?_ | refine G.block ?_ | refine G.cond_t rfl ?_ | refine G.cond_f rfl ?_ | refine G.skip ?_ | refine G.exit ?_ | refine G.ret ?_ | refine Cmp.dt (by (first | (with_reducible rfl) | omega)) ?_ | refine Cmp.df (by omega) ?_ | (first | refine Ev.mk _ (IntWalk.i64_in _ (by omega)) ?_ | refine Ev.mk _ (wrap_u8_nat _) ?_ | refine Ev.mk _ (shr8 _) ?_ | refine Ev.mk _ (Int.toNat_natCast _) ?_ | refine Ev.mk _ (Int.toNat_ofNat _) ?_) | refine @Ev.keep (List Value) _ _ ?_ | refine Rd.mk _ (by assumption) (by (first | exact trivial | exact fun x => x)) ?_ | refine Nd.mk (by (first | omega | exact ⟨rfl, rfl⟩ | exact ⟨rfl, by decide⟩ | exact ⟨by decide, rfl⟩ | exact ⟨by omega, by omega, by omega, by (simp [ti5]; omega), rfl⟩ | exact ⟨rfl, Nat.le_of_ble_eq_true rfl⟩ | exact rfl | decide)) ?_))
    exact Don.mk ⟨rfl, rfl⟩
theorem refNought_ret {w : World} {A : Option Addr} {c : Nat} {l : List UInt8} (h : Cells w A (bv l)) (hl : l.length < 9223372036854775807) :
    Ret cx.P 28 #[.slice A l.length c] w fun v w' => v = .bool (nulls l) ∧ w' = w := by
  refine Ret.e1 (C := cx) (n := 15) cxOk Try.func28 rfl rfl rfl ?_
  (repeat ((conv => whnf); first | refine G.seq ?_ | refine G.region cxOk ?_ | refine G.block ?_ | refine G.cond_t rfl ?_ | refine G.cond_f rfl ?_ | refine G.skip ?_ | refine G.exit ?_ | refine G.ret ?_ | refine Cmp.dt (by (first | (with_reducible rfl) | omega)) ?_ | refine Cmp.df (by omega) ?_ | (first | refine Ev.mk _ (IntWalk.i64_in _ (by omega)) ?_ | refine Ev.mk _ (wrap_u8_nat _) ?_ | refine Ev.mk _ (shr8 _) ?_ | refine Ev.mk _ (Int.toNat_natCast _) ?_ | refine Ev.mk _ (Int.toNat_ofNat _) ?_) | refine @Ev.keep (List Value) _ _ ?_ | refine Rd.mk _ (by assumption) (by (first | exact trivial | exact fun x => x)) ?_ | refine Nd.mk (by (first | omega | exact ⟨rfl, rfl⟩ | exact ⟨rfl, by decide⟩ | exact ⟨by decide, rfl⟩ | exact ⟨by omega, by omega, by omega, by (simp [ti5]; omega), rfl⟩ | exact ⟨rfl, Nat.le_of_ble_eq_true rfl⟩ | exact rfl | decide)) ?_))
  refine G.loop (α := Nat) (fun i => [(0, .slice A l.length c), (3, .int .i64 (i : Int))])
    (fun i w' => i ≤ l.length ∧ nulls (l.take i) = true ∧ w' = w) (fun i => l.length - i) 0 ⟨rfl, rfl, trivial⟩ ⟨Nat.zero_le _, rfl, rfl⟩ ?_
  rintro i w1 ⟨hi, hn, rfl⟩
  (repeat ((conv => whnf); first | refine G.seq ?_ | refine G.region cxOk ?_ | refine G.block ?_ | refine G.cond_t rfl ?_ | refine G.cond_f rfl ?_ | refine G.skip ?_ | refine G.exit ?_ | refine G.ret ?_ | refine Cmp.dt (by (first | (with_reducible rfl) | omega)) ?_ | refine Cmp.df (by omega) ?_ | (first | refine Ev.mk _ (IntWalk.i64_in _ (by omega)) ?_ | refine Ev.mk _ (wrap_u8_nat _) ?_ | refine Ev.mk _ (shr8 _) ?_ | refine Ev.mk _ (Int.toNat_natCast _) ?_ | refine Ev.mk _ (Int.toNat_ofNat _) ?_) | refine @Ev.keep (List Value) _ _ ?_ | refine Rd.mk _ (by assumption) (by (first | exact trivial | exact fun x => x)) ?_ | refine Nd.mk (by (first | omega | exact ⟨rfl, rfl⟩ | exact ⟨rfl, by decide⟩ | exact ⟨by decide, rfl⟩ | exact ⟨by omega, by omega, by omega, by (simp [ti5]; omega), rfl⟩ | exact ⟨rfl, Nat.le_of_ble_eq_true rfl⟩ | exact rfl | decide)) ?_))
  refine Cmp.ds (fun hlt => ?_) (fun hlt => ?_)
  · have hil : i < l.length := by omega
    obtain ⟨b, off, rfl, g⟩ := cells_at h hil
    (repeat ((conv => whnf); first | refine G.seq ?_ | refine G.region cxOk ?_ | refine G.block ?_ | refine G.cond_t rfl ?_ | refine G.cond_f rfl ?_ | refine G.skip ?_ | refine G.exit ?_ | refine G.ret ?_ | refine Cmp.dt (by (first | (with_reducible rfl) | omega)) ?_ | refine Cmp.df (by omega) ?_ | (first | refine Ev.mk _ (IntWalk.i64_in _ (by omega)) ?_ | refine Ev.mk _ (wrap_u8_nat _) ?_ | refine Ev.mk _ (shr8 _) ?_ | refine Ev.mk _ (Int.toNat_natCast _) ?_ | refine Ev.mk _ (Int.toNat_ofNat _) ?_) | refine @Ev.keep (List Value) _ _ ?_ | refine Rd.mk _ (by assumption) (by (first | exact trivial | exact fun x => x)) ?_ | refine Nd.mk (by (first | omega | exact ⟨rfl, rfl⟩ | exact ⟨rfl, by decide⟩ | exact ⟨by decide, rfl⟩ | exact ⟨by omega, by omega, by omega, by (simp [ti5]; omega), rfl⟩ | exact ⟨rfl, Nat.le_of_ble_eq_true rfl⟩ | exact rfl | decide)) ?_))
    refine Ix1.mk b off (off + i) rfl (by omega) (by omega) ?_
    (repeat ((conv => whnf); first | refine G.seq ?_ | refine G.region cxOk ?_ | refine G.block ?_ | refine G.cond_t rfl ?_ | refine G.cond_f rfl ?_ | refine G.skip ?_ | refine G.exit ?_ | refine G.ret ?_ | refine Cmp.dt (by (first | (with_reducible rfl) | omega)) ?_ | refine Cmp.df (by omega) ?_ | (first | refine Ev.mk _ (IntWalk.i64_in _ (by omega)) ?_ | refine Ev.mk _ (wrap_u8_nat _) ?_ | refine Ev.mk _ (shr8 _) ?_ | refine Ev.mk _ (Int.toNat_natCast _) ?_ | refine Ev.mk _ (Int.toNat_ofNat _) ?_) | refine @Ev.keep (List Value) _ _ ?_ | refine Rd.mk _ (by assumption) (by (first | exact trivial | exact fun x => x)) ?_ | refine Nd.mk (by (first | omega | exact ⟨rfl, rfl⟩ | exact ⟨rfl, by decide⟩ | exact ⟨by decide, rfl⟩ | exact ⟨by omega, by omega, by omega, by (simp [ti5]; omega), rfl⟩ | exact ⟨rfl, Nat.le_of_ble_eq_true rfl⟩ | exact rfl | decide)) ?_))
    refine Cmp.ds (fun hx => ?_) (fun hx => ?_)
    · have hx' : ¬ l[i] = 0 := fun e => hx (by rw [e]; rfl)
      (repeat ((conv => whnf); first | refine G.seq ?_ | refine G.region cxOk ?_ | refine G.block ?_ | refine G.cond_t rfl ?_ | refine G.cond_f rfl ?_ | refine G.skip ?_ | refine G.exit ?_ | refine G.ret ?_ | refine Cmp.dt (by (first | (with_reducible rfl) | omega)) ?_ | refine Cmp.df (by omega) ?_ | (first | refine Ev.mk _ (IntWalk.i64_in _ (by omega)) ?_ | refine Ev.mk _ (wrap_u8_nat _) ?_ | refine Ev.mk _ (shr8 _) ?_ | refine Ev.mk _ (Int.toNat_natCast _) ?_ | refine Ev.mk _ (Int.toNat_ofNat _) ?_) | refine @Ev.keep (List Value) _ _ ?_ | refine Rd.mk _ (by assumption) (by (first | exact trivial | exact fun x => x)) ?_ | refine Nd.mk (by (first | omega | exact ⟨rfl, rfl⟩ | exact ⟨rfl, by decide⟩ | exact ⟨by decide, rfl⟩ | exact ⟨by omega, by omega, by omega, by (simp [ti5]; omega), rfl⟩ | exact ⟨rfl, Nat.le_of_ble_eq_true rfl⟩ | exact rfl | decide)) ?_))
      refine Don.mk ⟨?_, rfl⟩
      congr 1
      symm
      simp only [nulls, List.all_eq_false]
      exact ⟨l[i], List.getElem_mem _, by simpa using hx'⟩
    · have hx' : l[i] = 0 := by
        apply UInt8.toNat_inj.mp
        simpa using hx
      (repeat ((conv => whnf); first | refine G.seq ?_ | refine G.region cxOk ?_ | refine G.block ?_ | refine G.cond_t rfl ?_ | refine G.cond_f rfl ?_ | refine G.skip ?_ | refine G.exit ?_ | refine G.ret ?_ | refine Cmp.dt (by (first | (with_reducible rfl) | omega)) ?_ | refine Cmp.df (by omega) ?_ | (first | refine Ev.mk _ (IntWalk.i64_in _ (by omega)) ?_ | refine Ev.mk _ (wrap_u8_nat _) ?_ | refine Ev.mk _ (shr8 _) ?_ | refine Ev.mk _ (Int.toNat_natCast _) ?_ | refine Ev.mk _ (Int.toNat_ofNat _) ?_) | refine @Ev.keep (List Value) _ _ ?_ | refine Rd.mk _ (by assumption) (by (first | exact trivial | exact fun x => x)) ?_ | refine Nd.mk (by (first | omega | exact ⟨rfl, rfl⟩ | exact ⟨rfl, by decide⟩ | exact ⟨by decide, rfl⟩ | exact ⟨by omega, by omega, by omega, by (simp [ti5]; omega), rfl⟩ | exact ⟨rfl, Nat.le_of_ble_eq_true rfl⟩ | exact rfl | decide)) ?_))
      refine ⟨i + 1, ⟨rfl, rfl, trivial⟩, ⟨by omega, ?_, rfl⟩, by omega⟩
      exact nulls_succ hil hn hx'
  · (repeat ((conv => whnf); first | refine G.seq ?_ | refine G.region cxOk ?_ | refine G.block ?_ | refine G.cond_t rfl ?_ | refine G.cond_f rfl ?_ | refine G.skip ?_ | refine G.exit ?_ | refine G.ret ?_ | refine Cmp.dt (by (first | (with_reducible rfl) | omega)) ?_ | refine Cmp.df (by omega) ?_ | (first | refine Ev.mk _ (IntWalk.i64_in _ (by omega)) ?_ | refine Ev.mk _ (wrap_u8_nat _) ?_ | refine Ev.mk _ (shr8 _) ?_ | refine Ev.mk _ (Int.toNat_natCast _) ?_ | refine Ev.mk _ (Int.toNat_ofNat _) ?_) | refine @Ev.keep (List Value) _ _ ?_ | refine Rd.mk _ (by assumption) (by (first | exact trivial | exact fun x => x)) ?_ | refine Nd.mk (by (first | omega | exact ⟨rfl, rfl⟩ | exact ⟨rfl, by decide⟩ | exact ⟨by decide, rfl⟩ | exact ⟨by omega, by omega, by omega, by (simp [ti5]; omega), rfl⟩ | exact ⟨rfl, Nat.le_of_ble_eq_true rfl⟩ | exact rfl | decide)) ?_))
    refine Don.mk ⟨?_, rfl⟩
    rw [List.take_of_length_le (by omega)] at hn
    rw [hn]
/-- The first i bytes one greater. -/
def incs (l : List UInt8) (i : Nat) : List UInt8 := (l.take i).map (· + 1) ++ l.drop i
theorem incs_length (l : List UInt8) (i : Nat) : (incs l i).length = l.length := by
  simp [incs]
  omega
theorem incs_zero (l : List UInt8) : incs l 0 = l := by simp [incs]
theorem incs_get {l : List UInt8} {i : Nat} (h : i < l.length) : (incs l i)[i]? = some l[i] := by
  rw [incs, List.getElem?_append_right (by simp; omega)]
  simp [Nat.min_eq_left (Nat.le_of_lt h), h]
theorem incs_set {l : List UInt8} {i : Nat} (h : i < l.length) : (bv (incs l i)).set i (.int .u8 (((l[i] + 1).toNat : Nat) : Int)) = bv (incs l (i + 1)) := by
  have e1 : incs l i = (l.take i).map (· + 1) ++ l[i] :: l.drop (i + 1) := by rw [incs, List.drop_eq_getElem_cons h]
  have e2 : incs l (i + 1) = (l.take i).map (· + 1) ++ (l[i] + 1) :: l.drop (i + 1) := by
    rw [incs, List.take_succ_eq_append_getElem h, List.map_append, List.append_assoc]
    rfl
  have hl : ((l.take i).map (· + 1)).length = i := by simp; omega
  rw [e1, e2, bv_append, bv_append, List.set_append_right _ _ (by rw [bv_length, hl]; exact Nat.le_refl _), bv_length, hl, Nat.sub_self]
  rfl
theorem inc_of (x : UInt8) : UInt8.ofNat (x.toNat + 1) = x + 1 := by
  apply UInt8.toNat_inj.mp
  rw [UInt8.toNat_ofNat', UInt8.toNat_add]
  rfl
theorem Sx.Cells.get {w : World} {b off : Nat} {cs : List Value} (h : Cells w (some ⟨b, off, none⟩) cs) {i : Nat} {v : Value} (hv : cs[i]? = some v) : w.cell? ⟨b, off + i, none⟩ = some v := by
  rcases h with rfl | ⟨b', off', e, h⟩
  · simp at hv
  · injection e with e
    injection e with e1 e2 _
    subst e1 e2
    obtain ⟨hi, rfl⟩ := List.getElem?_eq_some_iff.mp hv
    exact h i hi
end Go.Proofs.Ytjghlmbibimbiaa

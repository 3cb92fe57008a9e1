import Derived.Test.YtmoebdncmcigaaaDoorOct6

/-
  The contracts of the octet functions: noughts.
-/

namespace Go.Proofs.YtmoebdncmcigaaaDoor

open Go Sx

set_option linter.unusedVariables false

set_option linter.unusedSimpArgs false

def padS (l : List UInt8) (n : Int) : List UInt8 × Int :=
  if n < 0 ∨ 65536 < n then ([], 2) else if n < l.length then ([], 5) else (l ++ List.replicate (n.toNat - l.length) 0, 0)
theorem bv_replicate (n : Nat) : bv (List.replicate n 0) = List.replicate n (.int .u8 0) := by simp [bv]

theorem Pad_ret {w : World} {A : Option Addr} {c : Nat} {l : List UInt8} (n : Int) (h : Cells w A (bv l)) (hl : l.length < 9223372036854775807) :
    Ret cx.P 38 #[.slice A l.length c, .int .i64 n] w fun v w' => ∃ v1, v = .tuple #[v1, .int .i64 (padS l n).2] ∧ OB w' w.heap.size v1 (padS l n).1 ∧ Ext Non w w' := by
  refine Ret.e2 (C := cx) (n := 25) cxOk Tryd.func38 rfl rfl rfl ?_
  unfold padS
  (repeat ((conv => whnf); first | refine G.seq ?_ | refine G.region cxOk ?_ | refine G.block ?_ | refine G.cond_t rfl ?_ | refine G.cond_f rfl ?_ | refine G.skip ?_ | refine G.exit ?_ | refine G.ret ?_ | refine Cmp.dt (by (first | (with_reducible rfl) | omega)) ?_ | refine Cmp.df (by omega) ?_ | (first | refine Ev.mk _ (IntWalk.i64_in _ (by omega)) ?_ | refine Ev.mk _ (wrap_u8_nat _) ?_ | refine Ev.mk _ (shr8 _) ?_ | refine Ev.mk _ (Int.toNat_natCast _) ?_ | refine Ev.mk _ (Int.toNat_ofNat _) ?_) | refine @Ev.keep (List Value) _ _ ?_ | refine Rd.mk _ (by assumption) (by (first | exact trivial | exact fun x => x)) ?_ | refine Nd.mk (by (first | omega | exact ⟨rfl, rfl⟩ | exact ⟨rfl, by decide⟩ | exact ⟨by decide, rfl⟩ | exact ⟨by omega, by omega, by omega, by (simp [ti5]; omega), rfl⟩ | exact ⟨rfl, Nat.le_of_ble_eq_true rfl⟩ | exact rfl | decide)) ?_))
  refine Cmp.ds (fun h0 => ?_) (fun h0 => ?_)
  · rw [if_pos (.inl h0)]
    (repeat ((conv => whnf); first | refine G.seq ?_ | refine G.region cxOk ?_ | refine G.block ?_ | refine G.cond_t rfl ?_ | refine G.cond_f rfl ?_ | refine G.skip ?_ | refine G.exit ?_ | refine G.ret ?_ | refine Cmp.dt (by (first | (with_reducible rfl) | omega)) ?_ | refine Cmp.df (by omega) ?_ | (first | refine Ev.mk _ (IntWalk.i64_in _ (by omega)) ?_ | refine Ev.mk _ (wrap_u8_nat _) ?_ | refine Ev.mk _ (shr8 _) ?_ | refine Ev.mk _ (Int.toNat_natCast _) ?_ | refine Ev.mk _ (Int.toNat_ofNat _) ?_) | refine @Ev.keep (List Value) _ _ ?_ | refine Rd.mk _ (by assumption) (by (first | exact trivial | exact fun x => x)) ?_ | refine Nd.mk (by (first | omega | exact ⟨rfl, rfl⟩ | exact ⟨rfl, by decide⟩ | exact ⟨by decide, rfl⟩ | exact ⟨by omega, by omega, by omega, by (simp [ti5]; omega), rfl⟩ | exact ⟨rfl, Nat.le_of_ble_eq_true rfl⟩ | exact rfl | decide)) ?_))
    exact Don.mk ⟨_, rfl, OS.nil _ _ _ _, Ext.refl _ _⟩
  · (repeat ((conv => whnf); first | refine G.seq ?_ | refine G.region cxOk ?_ | refine G.block ?_ | refine G.cond_t rfl ?_ | refine G.cond_f rfl ?_ | refine G.skip ?_ | refine G.exit ?_ | refine G.ret ?_ | refine Cmp.dt (by (first | (with_reducible rfl) | omega)) ?_ | refine Cmp.df (by omega) ?_ | (first | refine Ev.mk _ (IntWalk.i64_in _ (by omega)) ?_ | refine Ev.mk _ (wrap_u8_nat _) ?_ | refine Ev.mk _ (shr8 _) ?_ | refine Ev.mk _ (Int.toNat_natCast _) ?_ | refine Ev.mk _ (Int.toNat_ofNat _) ?_) | refine @Ev.keep (List Value) _ _ ?_ | refine Rd.mk _ (by assumption) (by (first | exact trivial | exact fun x => x)) ?_ | refine Nd.mk (by (first | omega | exact ⟨rfl, rfl⟩ | exact ⟨rfl, by decide⟩ | exact ⟨by decide, rfl⟩ | exact ⟨by omega, by omega, by omega, by (simp [ti5]; omega), rfl⟩ | exact ⟨rfl, Nat.le_of_ble_eq_true rfl⟩ | exact rfl | decide)) ?_))
    refine Cmp.ds (fun h1 => ?_) (fun h1 => ?_)
    · rw [if_pos (.inr h1)]
      (repeat ((conv => whnf); first | refine G.seq ?_ | refine G.region cxOk ?_ | refine G.block ?_ | refine G.cond_t rfl ?_ | refine G.cond_f rfl ?_ | refine G.skip ?_ | refine G.exit ?_ | refine G.ret ?_ | refine Cmp.dt (by (first | (with_reducible rfl) | omega)) ?_ | refine Cmp.df (by omega) ?_ | (first | refine Ev.mk _ (IntWalk.i64_in _ (by omega)) ?_ | refine Ev.mk _ (wrap_u8_nat _) ?_ | refine Ev.mk _ (shr8 _) ?_ | refine Ev.mk _ (Int.toNat_natCast _) ?_ | refine Ev.mk _ (Int.toNat_ofNat _) ?_) | refine @Ev.keep (List Value) _ _ ?_ | refine Rd.mk _ (by assumption) (by (first | exact trivial | exact fun x => x)) ?_ | refine Nd.mk (by (first | omega | exact ⟨rfl, rfl⟩ | exact ⟨rfl, by decide⟩ | exact ⟨by decide, rfl⟩ | exact ⟨by omega, by omega, by omega, by (simp [ti5]; omega), rfl⟩ | exact ⟨rfl, Nat.le_of_ble_eq_true rfl⟩ | exact rfl | decide)) ?_))
      exact Don.mk ⟨_, rfl, OS.nil _ _ _ _, Ext.refl _ _⟩
    · rw [if_neg (by omega)]
      (repeat ((conv => whnf); first | refine G.seq ?_ | refine G.region cxOk ?_ | refine G.block ?_ | refine G.cond_t rfl ?_ | refine G.cond_f rfl ?_ | refine G.skip ?_ | refine G.exit ?_ | refine G.ret ?_ | refine Cmp.dt (by (first | (with_reducible rfl) | omega)) ?_ | refine Cmp.df (by omega) ?_ | (first | refine Ev.mk _ (IntWalk.i64_in _ (by omega)) ?_ | refine Ev.mk _ (wrap_u8_nat _) ?_ | refine Ev.mk _ (shr8 _) ?_ | refine Ev.mk _ (Int.toNat_natCast _) ?_ | refine Ev.mk _ (Int.toNat_ofNat _) ?_) | refine @Ev.keep (List Value) _ _ ?_ | refine Rd.mk _ (by assumption) (by (first | exact trivial | exact fun x => x)) ?_ | refine Nd.mk (by (first | omega | exact ⟨rfl, rfl⟩ | exact ⟨rfl, by decide⟩ | exact ⟨by decide, rfl⟩ | exact ⟨by omega, by omega, by omega, by (simp [ti5]; omega), rfl⟩ | exact ⟨rfl, Nat.le_of_ble_eq_true rfl⟩ | exact rfl | decide)) ?_))
      refine Cmp.ds (fun h2 => ?_) (fun h2 => ?_)
      · rw [if_pos h2]
        (repeat ((conv => whnf); first | refine G.seq ?_ | refine G.region cxOk ?_ | refine G.block ?_ | refine G.cond_t rfl ?_ | refine G.cond_f rfl ?_ | refine G.skip ?_ | refine G.exit ?_ | refine G.ret ?_ | refine Cmp.dt (by (first | (with_reducible rfl) | omega)) ?_ | refine Cmp.df (by omega) ?_ | (first | refine Ev.mk _ (IntWalk.i64_in _ (by omega)) ?_ | refine Ev.mk _ (wrap_u8_nat _) ?_ | refine Ev.mk _ (shr8 _) ?_ | refine Ev.mk _ (Int.toNat_natCast _) ?_ | refine Ev.mk _ (Int.toNat_ofNat _) ?_) | refine @Ev.keep (List Value) _ _ ?_ | refine Rd.mk _ (by assumption) (by (first | exact trivial | exact fun x => x)) ?_ | refine Nd.mk (by (first | omega | exact ⟨rfl, rfl⟩ | exact ⟨rfl, by decide⟩ | exact ⟨by decide, rfl⟩ | exact ⟨by omega, by omega, by omega, by (simp [ti5]; omega), rfl⟩ | exact ⟨rfl, Nat.le_of_ble_eq_true rfl⟩ | exact rfl | decide)) ?_))
        exact Don.mk ⟨_, rfl, OS.nil _ _ _ _, Ext.refl _ _⟩
      · rw [if_neg (by omega)]
        obtain ⟨N, rfl⟩ : ∃ N : Nat, n = (N : Int) := ⟨n.toNat, by omega⟩
        have hle : l.length ≤ N := by omega
        rw [Int.toNat_natCast]
        (repeat ((conv => whnf); first | refine G.seq ?_ | refine G.region cxOk ?_ | refine G.block ?_ | refine G.cond_t rfl ?_ | refine G.cond_f rfl ?_ | refine G.skip ?_ | refine G.exit ?_ | refine G.ret ?_ | refine Cmp.dt (by (first | (with_reducible rfl) | omega)) ?_ | refine Cmp.df (by omega) ?_ | (first | refine Ev.mk _ (IntWalk.i64_in _ (by omega)) ?_ | refine Ev.mk _ (wrap_u8_nat _) ?_ | refine Ev.mk _ (shr8 _) ?_ | refine Ev.mk _ (Int.toNat_natCast _) ?_ | refine Ev.mk _ (Int.toNat_ofNat _) ?_) | refine @Ev.keep (List Value) _ _ ?_ | refine Rd.mk _ (by assumption) (by (first | exact trivial | exact fun x => x)) ?_ | refine Nd.mk (by (first | omega | exact ⟨rfl, rfl⟩ | exact ⟨rfl, by decide⟩ | exact ⟨by decide, rfl⟩ | exact ⟨by omega, by omega, by omega, by (simp [ti5]; omega), rfl⟩ | exact ⟨rfl, Nat.le_of_ble_eq_true rfl⟩ | exact rfl | decide)) ?_))
        refine Al.mk fun b w1 hN => ?_
        (repeat ((conv => whnf); first | refine G.seq ?_ | refine G.region cxOk ?_ | refine G.block ?_ | refine G.cond_t rfl ?_ | refine G.cond_f rfl ?_ | refine G.skip ?_ | refine G.exit ?_ | refine G.ret ?_ | refine Cmp.dt (by (first | (with_reducible rfl) | omega)) ?_ | refine Cmp.df (by omega) ?_ | (first | refine Ev.mk _ (IntWalk.i64_in _ (by omega)) ?_ | refine Ev.mk _ (wrap_u8_nat _) ?_ | refine Ev.mk _ (shr8 _) ?_ | refine Ev.mk _ (Int.toNat_natCast _) ?_ | refine Ev.mk _ (Int.toNat_ofNat _) ?_) | refine @Ev.keep (List Value) _ _ ?_ | refine Rd.mk _ (by assumption) (by (first | exact trivial | exact fun x => x)) ?_ | refine Nd.mk (by (first | omega | exact ⟨rfl, rfl⟩ | exact ⟨rfl, by decide⟩ | exact ⟨by decide, rfl⟩ | exact ⟨by omega, by omega, by omega, by (simp [ti5]; omega), rfl⟩ | exact ⟨rfl, Nat.le_of_ble_eq_true rfl⟩ | exact rfl | decide)) ?_))
        rw [zrep_u8] at hN
        have hmin : min l.length N = l.length := Nat.min_eq_left hle
        refine Run.copy tiB tiU8 (srcB (h.ext hN.ext fun _ _ x => x)) (fun _ => rfl) hN.at_ (by rw [hmin, bv_length, List.length_replicate]; simp [ti5]; omega) (.inl (Nat.le_refl _)) trivial ?_
        intro w2 h2 x2
        (repeat ((conv => whnf); first | refine G.seq ?_ | refine G.region cxOk ?_ | refine G.block ?_ | refine G.cond_t rfl ?_ | refine G.cond_f rfl ?_ | refine G.skip ?_ | refine G.exit ?_ | refine G.ret ?_ | refine Cmp.dt (by (first | (with_reducible rfl) | omega)) ?_ | refine Cmp.df (by omega) ?_ | (first | refine Ev.mk _ (IntWalk.i64_in _ (by omega)) ?_ | refine Ev.mk _ (wrap_u8_nat _) ?_ | refine Ev.mk _ (shr8 _) ?_ | refine Ev.mk _ (Int.toNat_natCast _) ?_ | refine Ev.mk _ (Int.toNat_ofNat _) ?_) | refine @Ev.keep (List Value) _ _ ?_ | refine Rd.mk _ (by assumption) (by (first | exact trivial | exact fun x => x)) ?_ | refine Nd.mk (by (first | omega | exact ⟨rfl, rfl⟩ | exact ⟨rfl, by decide⟩ | exact ⟨by decide, rfl⟩ | exact ⟨by omega, by omega, by omega, by (simp [ti5]; omega), rfl⟩ | exact ⟨rfl, Nat.le_of_ble_eq_true rfl⟩ | exact rfl | decide)) ?_))
        refine Don.mk ⟨_, rfl, ?_, hN.ext.own x2 hN.ge⟩
        rw [hmin] at h2
        have e : ov (bv (List.replicate N 0)) 0 ((bv l).take (l.length * ti5.size)) = bv (l ++ List.replicate (N - l.length) 0) := by
          have hsz : l.length * ti5.size = l.length := by simp [ti5]
          rw [hsz, List.take_of_length_le (by rw [bv_length]; exact Nat.le_refl _), ov, bv_append, bv_replicate, bv_replicate, bv_length]
          simp
        rw [e] at h2
        have el : (l ++ List.replicate (N - l.length) 0).length = N := by simp; omega
        refine ⟨by rw [bv_length, Nat.mul_one], .inr ⟨b, N, [], (0, 0), by rw [el], hN.ge, by rw [el]; exact Nat.le_refl _, by rw [List.append_nil]; exact h2, by rw [List.append_nil, bv_length, el, Nat.mul_one], .inl rfl⟩⟩
theorem cells_at {w : World} {A : Option Addr} {l : List UInt8} (h : Cells w A (bv l)) {i : Nat} (hi : i < l.length) : ∃ b off, A = some ⟨b, off, none⟩ ∧ w.cell? ⟨b, off + i, none⟩ = some (.int .u8 ((l[i]).toNat : Int)) := by
  rcases h with h | ⟨b, off, rfl, h⟩
  · have := congrArg List.length h
    rw [bv_length] at this
    simp at this
    subst this
    exact absurd hi (by simp)
  · have := h i (by rw [bv_length]; exact hi)
    exact ⟨b, off, rfl, by rw [this]; simp [bv]⟩
def nulls (l : List UInt8) : Bool := l.all (· == 0)
theorem nulls_succ {l : List UInt8} {i : Nat} (h : i < l.length) (hn : nulls (l.take i) = true) (hx : l[i] = 0) : nulls (l.take (i + 1)) = true := by
  rw [List.take_succ_eq_append_getElem h, nulls, List.all_append, Bool.and_eq_true]
  exact ⟨hn, by simp [hx]⟩
/-- The first i bytes one greater. -/
def incs (l : List UInt8) (i : Nat) : List UInt8 := (l.take i).map (· + 1) ++ l.drop i
theorem incs_length (l : List UInt8) (i : Nat) : (incs l i).length = l.length := by
  simp [incs]
  omega
theorem incs_zero (l : List UInt8) : incs l 0 = l := by simp [incs]
theorem incs_get {l : List UInt8} {i : Nat} (h : i < l.length) : (incs l i)[i]? = some l[i] := by
  rw [incs, List.getElem?_append_right (by simp; omega)]
  simp [Nat.min_eq_left (Nat.le_of_lt h), h]
theorem incs_set {l : List UInt8} {i : Nat} (h : i < l.length) : (bv (incs l i)).set i (.int .u8 (((l[i] + 1).toNat : Nat) : Int)) = bv (incs l (i + 1)) := by
  have e1 : incs l i = (l.take i).map (· + 1) ++ l[i] :: l.drop (i + 1) := by rw [incs, List.drop_eq_getElem_cons h]
  have e2 : incs l (i + 1) = (l.take i).map (· + 1) ++ (l[i] + 1) :: l.drop (i + 1) := by
    rw [incs, List.take_succ_eq_append_getElem h, List.map_append, List.append_assoc]
    rfl
  have hl : ((l.take i).map (· + 1)).length = i := by simp; omega
  rw [e1, e2, bv_append, bv_append, List.set_append_right _ _ (by rw [bv_length, hl]; exact Nat.le_refl _), bv_length, hl, Nat.sub_self]
  rfl
theorem inc_of (x : UInt8) : UInt8.ofNat (x.toNat + 1) = x + 1 := by
  apply UInt8.toNat_inj.mp
  rw [UInt8.toNat_ofNat', UInt8.toNat_add]
  rfl
theorem Sx.Cells.get {w : World} {b off : Nat} {cs : List Value} (h : Cells w (some ⟨b, off, none⟩) cs) {i : Nat} {v : Value} (hv : cs[i]? = some v) : w.cell? ⟨b, off + i, none⟩ = some v := by
  rcases h with rfl | ⟨b', off', e, h⟩
  · simp at hv
  · injection e with e
    injection e with e1 e2 _
    subst e1 e2
    obtain ⟨hi, rfl⟩ := List.getElem?_eq_some_iff.mp hv
    exact h i hi
end Go.Proofs.YtmoebdncmcigaaaDoor

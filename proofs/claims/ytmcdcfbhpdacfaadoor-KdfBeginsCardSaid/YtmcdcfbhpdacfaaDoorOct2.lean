import Derived.Test.YtmcdcfbhpdacfaaDoorOct1

/-
  The contracts of the octet functions: what a reader tells.
-/

namespace Go.Proofs.YtmcdcfbhpdacfaaDoor

open Go Sx

set_option linter.unusedVariables false

set_option linter.unusedSimpArgs false

variable {B : Nat → Prop}

theorem tiB : TIok cx.P 22 ti22 := tabOk _ _ rfl
theorem tiU8 : TIok cx.P 5 ti5 := tabOk _ _ rfl
theorem undB : (∃ e', cx.P.underlying 22 = some (.slice e')) ∨ cx.P.underlying 22 = some .string := .inl ⟨_, TIok.slice (tabOk _ ti22 rfl)⟩
theorem undS : (∃ e', cx.P.underlying 9 = some (.slice e')) ∨ cx.P.underlying 9 = some .string := .inr (TIok.string (tabOk _ ti9 rfl))

/-- A byte slice of the call's own. -/
abbrev OB (w : World) (base : Nat) (v : Value) (l : List UInt8) : Prop := OS w base 5 1 v l.length (bv l)

theorem OB.form {w : World} {base : Nat} {v : Value} {l : List UInt8} (h : OB w base v l) : ∃ A c, v = .slice A l.length c ∧ l.length ≤ c ∧ Cells w A (bv l) ∧ (∀ k, inBlk A k → base ≤ k) := OS.form h
theorem OB.up {w : World} {base base' : Nat} {v : Value} {l : List UInt8} (h : OB w base v l) (hb : base' ≤ base) : OB w base' v l :=
  ⟨h.1, h.2.imp id fun ⟨b, c, sp, fr, h1, h2, h3⟩ => ⟨b, c, sp, fr, h1, Nat.le_trans hb h2, h3⟩⟩
theorem srcB {w : World} {A : Option Addr} {c : Nat} {l : List UInt8} (h : Cells w A (bv l)) : Src cx.P w 1 (.slice A l.length c) l.length (bv l) := Src.slice h (by rw [bv_length, Nat.mul_one]) (one_bv l)
theorem srcS {w : World} (s : ByteArray) : Src cx.P w 1 (.string s) s.data.toList.length (bv s.data.toList) := by
  have := Src.str (P := cx.P) (w := w) s
  rwa [show s.size = s.data.toList.length from by simp] at this
/-- append of bytes onto a slice of the call's own. -/
theorem Run.appB {m0 : Md} {tx ty : Nat} (hx : (∃ e', cx.P.underlying tx = some (.slice e')) ∨ cx.P.underlying tx = some .string) {w : World} {base n : Nat} {v x : Value} {l l2 : List UInt8} {K : Value → World → Prop}
    (h : OB w base v l) (hs : Src cx.P w 1 x n (bv l2)) (hb : l.length + l2.length ≤ 140737488355328) (hbase : base ≤ w.heap.size) (hm : ∀ w', Ext (blkOf v) w w' → m0.W w w')
    (k : ∀ A c w', (l ++ l2).length ≤ c → OB w' base (.slice A (l ++ l2).length c) (l ++ l2) → Ext (blkOf v) w w' → (∀ k, inBlk A k → blkOf v k ∨ w.heap.size ≤ k) → K (.slice A (l ++ l2).length c) w') :
    Run cx.P m0 w (Builtin.append_ #[22, tx] ty #[v, x]) K := by
  have hn : n = l2.length := by have := hs.size; rw [bv_length, Nat.mul_one] at this; exact this.symm
  subst hn
  refine Run.app (m := l2.length) (news := bv l2) tiB tiU8 hx rfl h (one_bv l) hs (by simp [ti5]; omega) (by omega) hbase hm fun A c w' hc h2 hx2 hb2 => ?_
  have e1 : l.length + l2.length = (l ++ l2).length := by simp
  rw [e1] at hc h2 ⊢
  rw [← bv_append] at h2
  exact k A c w' hc h2 hx2 hb2
theorem Run.appB0 {m0 : Md} {tx ty : Nat} (hx : (∃ e', cx.P.underlying tx = some (.slice e')) ∨ cx.P.underlying tx = some .string) {w : World} {base n c0 : Nat} {A0 : Option Addr} {x : Value} {l l2 : List UInt8} {K : Value → World → Prop}
    (h : OB w base (.slice A0 l.length c0) l) (hc0 : c0 ≤ l.length) (hs : Src cx.P w 1 x n (bv l2)) (hb : l.length + l2.length ≤ 140737488355328) (hbase : base ≤ w.heap.size) (hm : ∀ w', Ext Non w w' → m0.W w w')
    (k : ∀ A c w', (l ++ l2).length ≤ c → OB w' base (.slice A (l ++ l2).length c) (l ++ l2) → Ext Non w w' → K (.slice A (l ++ l2).length c) w') :
    Run cx.P m0 w (Builtin.append_ #[22, tx] ty #[.slice A0 l.length c0, x]) K := by
  have hn : n = l2.length := by have := hs.size; rw [bv_length, Nat.mul_one] at this; exact this.symm
  subst hn
  refine Run.app0 (m := l2.length) (news := bv l2) tiB tiU8 hx rfl h hc0 (one_bv l) hs (by simp [ti5]; omega) (by omega) hbase hm fun A c w' hc h2 hx2 => ?_
  have e1 : l.length + l2.length = (l ++ l2).length := by simp
  rw [e1] at hc h2 ⊢
  rw [← bv_append] at h2
  exact k A c w' hc h2 hx2
theorem blkOf_some {k b off n c : Nat} (h : blkOf (.slice (some ⟨b, off, none⟩) n c) k) : b = k := by
  obtain ⟨_, _, _, _, e⟩ := h
  injection e with e _ _
  injection e with e
  injection e
theorem blkOf_inBlk {A : Option Addr} {k n c : Nat} (h : blkOf (.slice A n c) k) : inBlk A k := by
  obtain ⟨o, s, _, _, e⟩ := h
  injection e with e _ _
  exact ⟨o, s, e⟩
theorem OB.empty {w w' : World} {b : Nat} {cs : List Value} (h : New w w' b cs 5 (0, 0)) (hcs : cs = []) : OB w' w.heap.size (.slice (some ⟨b, 0, none⟩) 0 0) [] := by
  subst hcs
  exact OS.new (xs := []) (sp := []) h (Nat.le_refl _) rfl (Nat.le_refl _) rfl (.inl rfl)

theorem Clone_ret {w : World} {A : Option Addr} {c : Nat} {l : List UInt8} (h : Cells w A (bv l)) (hl : l.length ≤ 140737488355328) :
    Ret cx.P 32 #[.slice A l.length c] w fun v w' => OB w' w.heap.size v l ∧ Ext Non w w' := by
  refine Ret.e1 (C := cx) (n := 8) cxOk Tryd.func32 rfl rfl rfl ?_
  (repeat ((conv => whnf); first | refine G.seq ?_ | refine G.region cxOk ?_ | refine G.block ?_ | refine G.cond_t rfl ?_ | refine G.cond_f rfl ?_ | refine G.skip ?_ | refine G.exit ?_ | refine G.ret ?_ | refine Cmp.dt (by (first | (with_reducible rfl) | omega)) ?_ | refine Cmp.df (by omega) ?_ | (first | refine Ev.mk _ (IntWalk.i64_in _ (by omega)) ?_ | refine Ev.mk _ (wrap_u8_nat _) ?_ | refine Ev.mk _ (shr8 _) ?_ | refine Ev.mk _ (Int.toNat_natCast _) ?_ | refine Ev.mk _ (Int.toNat_ofNat _) ?_) | refine @Ev.keep (List Value) _ _ ?_ | refine Rd.mk _ (by assumption) (by (first | exact trivial | exact fun x => x)) ?_ | refine Nd.mk (by (first | omega | exact ⟨rfl, rfl⟩ | exact ⟨rfl, by decide⟩ | exact ⟨by decide, rfl⟩ | exact ⟨by omega, by omega, by omega, by (simp [ti5]; omega), rfl⟩ | exact ⟨rfl, Nat.le_of_ble_eq_true rfl⟩ | exact rfl | decide)) ?_))
  refine Cmp.s (fun hA => ?_) (fun hA => ?_)
  · (repeat ((conv => whnf); first | refine G.seq ?_ | refine G.region cxOk ?_ | refine G.block ?_ | refine G.cond_t rfl ?_ | refine G.cond_f rfl ?_ | refine G.skip ?_ | refine G.exit ?_ | refine G.ret ?_ | refine Cmp.dt (by (first | (with_reducible rfl) | omega)) ?_ | refine Cmp.df (by omega) ?_ | (first | refine Ev.mk _ (IntWalk.i64_in _ (by omega)) ?_ | refine Ev.mk _ (wrap_u8_nat _) ?_ | refine Ev.mk _ (shr8 _) ?_ | refine Ev.mk _ (Int.toNat_natCast _) ?_ | refine Ev.mk _ (Int.toNat_ofNat _) ?_) | refine @Ev.keep (List Value) _ _ ?_ | refine Rd.mk _ (by assumption) (by (first | exact trivial | exact fun x => x)) ?_ | refine Nd.mk (by (first | omega | exact ⟨rfl, rfl⟩ | exact ⟨rfl, by decide⟩ | exact ⟨by decide, rfl⟩ | exact ⟨by omega, by omega, by omega, by (simp [ti5]; omega), rfl⟩ | exact ⟨rfl, Nat.le_of_ble_eq_true rfl⟩ | exact rfl | decide)) ?_))
    have : l = [] := by
      rcases h with h | ⟨b, off, rfl, _⟩
      · simpa [bv] using h
      · simp at hA
    subst this
    exact Don.mk ⟨OS.nil _ _ _ _, Ext.refl _ _⟩
  · (repeat ((conv => whnf); first | refine G.seq ?_ | refine G.region cxOk ?_ | refine G.block ?_ | refine G.cond_t rfl ?_ | refine G.cond_f rfl ?_ | refine G.skip ?_ | refine G.exit ?_ | refine G.ret ?_ | refine Cmp.dt (by (first | (with_reducible rfl) | omega)) ?_ | refine Cmp.df (by omega) ?_ | (first | refine Ev.mk _ (IntWalk.i64_in _ (by omega)) ?_ | refine Ev.mk _ (wrap_u8_nat _) ?_ | refine Ev.mk _ (shr8 _) ?_ | refine Ev.mk _ (Int.toNat_natCast _) ?_ | refine Ev.mk _ (Int.toNat_ofNat _) ?_) | refine @Ev.keep (List Value) _ _ ?_ | refine Rd.mk _ (by assumption) (by (first | exact trivial | exact fun x => x)) ?_ | refine Nd.mk (by (first | omega | exact ⟨rfl, rfl⟩ | exact ⟨rfl, by decide⟩ | exact ⟨by decide, rfl⟩ | exact ⟨by omega, by omega, by omega, by (simp [ti5]; omega), rfl⟩ | exact ⟨rfl, Nat.le_of_ble_eq_true rfl⟩ | exact rfl | decide)) ?_))
    refine Al.mk fun b w1 hN => ?_
    (repeat ((conv => whnf); first | refine G.seq ?_ | refine G.region cxOk ?_ | refine G.block ?_ | refine G.cond_t rfl ?_ | refine G.cond_f rfl ?_ | refine G.skip ?_ | refine G.exit ?_ | refine G.ret ?_ | refine Cmp.dt (by (first | (with_reducible rfl) | omega)) ?_ | refine Cmp.df (by omega) ?_ | (first | refine Ev.mk _ (IntWalk.i64_in _ (by omega)) ?_ | refine Ev.mk _ (wrap_u8_nat _) ?_ | refine Ev.mk _ (shr8 _) ?_ | refine Ev.mk _ (Int.toNat_natCast _) ?_ | refine Ev.mk _ (Int.toNat_ofNat _) ?_) | refine @Ev.keep (List Value) _ _ ?_ | refine Rd.mk _ (by assumption) (by (first | exact trivial | exact fun x => x)) ?_ | refine Nd.mk (by (first | omega | exact ⟨rfl, rfl⟩ | exact ⟨rfl, by decide⟩ | exact ⟨by decide, rfl⟩ | exact ⟨by omega, by omega, by omega, by (simp [ti5]; omega), rfl⟩ | exact ⟨rfl, Nat.le_of_ble_eq_true rfl⟩ | exact rfl | decide)) ?_))
    refine Run.appB undB (OB.empty hN rfl) (srcB (h.ext hN.ext fun _ _ x => x)) (by simp; omega) hN.ext.size (fun _ _ => trivial) ?_
    intro A' c' w2 hc h2 hx2 hb2
    (repeat ((conv => whnf); first | refine G.seq ?_ | refine G.region cxOk ?_ | refine G.block ?_ | refine G.cond_t rfl ?_ | refine G.cond_f rfl ?_ | refine G.skip ?_ | refine G.exit ?_ | refine G.ret ?_ | refine Cmp.dt (by (first | (with_reducible rfl) | omega)) ?_ | refine Cmp.df (by omega) ?_ | (first | refine Ev.mk _ (IntWalk.i64_in _ (by omega)) ?_ | refine Ev.mk _ (wrap_u8_nat _) ?_ | refine Ev.mk _ (shr8 _) ?_ | refine Ev.mk _ (Int.toNat_natCast _) ?_ | refine Ev.mk _ (Int.toNat_ofNat _) ?_) | refine @Ev.keep (List Value) _ _ ?_ | refine Rd.mk _ (by assumption) (by (first | exact trivial | exact fun x => x)) ?_ | refine Nd.mk (by (first | omega | exact ⟨rfl, rfl⟩ | exact ⟨rfl, by decide⟩ | exact ⟨by decide, rfl⟩ | exact ⟨by omega, by omega, by omega, by (simp [ti5]; omega), rfl⟩ | exact ⟨rfl, Nat.le_of_ble_eq_true rfl⟩ | exact rfl | decide)) ?_))
    refine Don.mk ⟨h2, hN.ext.trans' hx2 (fun _ _ x => x) (fun i hi hk => ?_)⟩
    have := blkOf_some hk
    have := hN.ge
    omega

theorem U32_ret {w : World} {r : Nat} {l : List UInt8} {e : Int} (h : Rdr B w r l e) (hl : l.length < 9223372036854775807) :
    Ret cx.P 37 #[ptr r] w fun v w' => v = .int .u32 (bval (nextS l e 4).2.2 : Nat) ∧ Rdr B w' r (nextS l e 4).1 (nextS l e 4).2.1 ∧ Ext (· = r) w w' := by
  refine Ret.e1 (C := cx) (n := 6) cxOk Tryd.func37 rfl rfl rfl ?_
  have h1 : bval (nextS l e (4 : Nat)).2.2 < 4294967296 := Nat.lt_of_lt_of_le (bval_lt _) (Nat.le_trans (Nat.pow_le_pow_right (n := 256) (by decide) (nextS_len l e 4)) (by decide))
  (repeat ((conv => whnf); first | refine G.seq ?_ | refine G.region cxOk ?_ | refine G.block ?_ | refine G.cond_t rfl ?_ | refine G.cond_f rfl ?_ | refine G.skip ?_ | refine G.exit ?_ | refine G.ret ?_ | refine Cmp.dt (by (first | (with_reducible rfl) | omega)) ?_ | refine Cmp.df (by omega) ?_ | (first | refine Ev.mk _ (IntWalk.i64_in _ (by omega)) ?_ | refine Ev.mk _ (wrap_u8_nat _) ?_ | refine Ev.mk _ (shr8 _) ?_ | refine Ev.mk _ (Int.toNat_natCast _) ?_ | refine Ev.mk _ (Int.toNat_ofNat _) ?_) | refine @Ev.keep (List Value) _ _ ?_ | refine Rd.mk _ (by assumption) (by (first | exact trivial | exact fun x => x)) ?_ | refine Nd.mk (by (first | omega | exact ⟨rfl, rfl⟩ | exact ⟨rfl, by decide⟩ | exact ⟨by decide, rfl⟩ | exact ⟨by omega, by omega, by omega, by (simp [ti5]; omega), rfl⟩ | exact ⟨rfl, Nat.le_of_ble_eq_true rfl⟩ | exact rfl | decide)) ?_))
  refine Cl.mk (number_ret 4 (by omega) h hl) ?_
  rintro v w1 ⟨rfl, hr, hx⟩
  refine Ev.mk _ (IntWalk.u32_in _ (by omega)) ?_
  (repeat ((conv => whnf); first | refine G.seq ?_ | refine G.region cxOk ?_ | refine G.block ?_ | refine G.cond_t rfl ?_ | refine G.cond_f rfl ?_ | refine G.skip ?_ | refine G.exit ?_ | refine G.ret ?_ | refine Cmp.dt (by (first | (with_reducible rfl) | omega)) ?_ | refine Cmp.df (by omega) ?_ | (first | refine Ev.mk _ (IntWalk.i64_in _ (by omega)) ?_ | refine Ev.mk _ (wrap_u8_nat _) ?_ | refine Ev.mk _ (shr8 _) ?_ | refine Ev.mk _ (Int.toNat_natCast _) ?_ | refine Ev.mk _ (Int.toNat_ofNat _) ?_) | refine @Ev.keep (List Value) _ _ ?_ | refine Rd.mk _ (by assumption) (by (first | exact trivial | exact fun x => x)) ?_ | refine Nd.mk (by (first | omega | exact ⟨rfl, rfl⟩ | exact ⟨rfl, by decide⟩ | exact ⟨by decide, rfl⟩ | exact ⟨by omega, by omega, by omega, by (simp [ti5]; omega), rfl⟩ | exact ⟨rfl, Nat.le_of_ble_eq_true rfl⟩ | exact rfl | decide)) ?_))
  exact Don.mk ⟨rfl, hr, hx⟩
end Go.Proofs.YtmcdcfbhpdacfaaDoor

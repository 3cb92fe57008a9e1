import Derived.Test.YtodpaehciegmiaaCgG

/-
  What a snapshot that is added, dropped, reverted to or looked for leaves and tells, is as the document says.
-/

namespace Go.Proofs.Ytodpaehciegmiaa

open Go Sx

set_option linter.unusedVariables false

set_option linter.unusedSimpArgs false

set_option maxRecDepth 100000

set_option maxHeartbeats 2000000 in
theorem CatalogActs_ret {A : Option Addr} {c : Nat} {t : NRef} {l : List NSnap} {s : ByteArray} {w : World} (h : CatAt w t A c l) (hn0 : l.length ≤ 9223372036854775807) (hs : s.size ≤ 9223372036854775807) :
    Ret cx.P 7 #[catV t A l.length c, .string s] w fun v w' => v = .bool true ∧ Ext Non w w' := by
  refine Ret.e2 (C := cx) (n := 156) cxOk Try.func7 rfl rfl rfl ?_
  have hlen := cat_len h.top.len
  (repeat ((conv => whnf); first | refine G.seq ?_ | refine G.region cxOk ?_ | refine G.block ?_ | refine G.cond_t rfl ?_ | refine G.cond_f rfl ?_ | refine G.skip ?_ | refine G.exit ?_ | refine G.ret ?_ | refine Cmp.dt (by (first | (with_reducible rfl) | omega)) ?_ | refine Cmp.df (by omega) ?_ | (first | (with_reducible refine Ev.mk _ (u32_xor _ _) ?_) | (with_reducible refine Ev.mk _ (u32_and _ _) ?_) | (with_reducible refine Ev.mk _ (u32_or _ _) ?_) | (with_reducible refine Ev.mk _ (u32_add _ _) ?_) | (with_reducible refine Ev.mk _ (u32_not _) ?_) | (with_reducible refine Ev.mk _ (u8_u32 _) ?_) | refine Ix1.mk _ _ _ rfl (by decide) rfl ?_) | (first | (with_reducible refine Ev.mk _ (IntWalk.i64_in _ ?_) ?_; · omega) | (with_reducible refine Ev.mk _ (wrap_u8_nat _) ?_) | (with_reducible refine Ev.mk _ (shr8 _) ?_) | (with_reducible refine Ev.mk _ (Int.toNat_natCast _) ?_) | (with_reducible refine Ev.mk _ (Int.toNat_ofNat _) ?_)) | refine @Ev.keep (List Value) _ _ ?_ | refine Rd.mk _ (by assumption) (by (first | exact trivial | exact fun x => x)) ?_ | refine Nd.mk (by (first | omega | exact ⟨rfl, rfl⟩ | exact ⟨rfl, by decide⟩ | exact ⟨by decide, rfl⟩ | exact ⟨by omega, by omega, by omega, by (simp [ti5]; omega), rfl⟩ | exact ⟨rfl, Nat.le_of_ble_eq_true rfl⟩ | exact rfl | decide)) ?_))
  refine Al.mk fun tb w1 hN1 => ?_
  have a1 : At w1 tb (nv t ++ [.slice A l.length c]) 29 (0, 0) := hN1.at_
  have x1 := hN1.ext
  (repeat ((conv => whnf); first | refine G.seq ?_ | refine G.region cxOk ?_ | refine G.block ?_ | refine G.cond_t rfl ?_ | refine G.cond_f rfl ?_ | refine G.skip ?_ | refine G.exit ?_ | refine G.ret ?_ | refine Cmp.dt (by (first | (with_reducible rfl) | omega)) ?_ | refine Cmp.df (by omega) ?_ | (first | (with_reducible refine Ev.mk _ (u32_xor _ _) ?_) | (with_reducible refine Ev.mk _ (u32_and _ _) ?_) | (with_reducible refine Ev.mk _ (u32_or _ _) ?_) | (with_reducible refine Ev.mk _ (u32_add _ _) ?_) | (with_reducible refine Ev.mk _ (u32_not _) ?_) | (with_reducible refine Ev.mk _ (u8_u32 _) ?_) | refine Ix1.mk _ _ _ rfl (by decide) rfl ?_) | (first | (with_reducible refine Ev.mk _ (IntWalk.i64_in _ ?_) ?_; · omega) | (with_reducible refine Ev.mk _ (wrap_u8_nat _) ?_) | (with_reducible refine Ev.mk _ (shr8 _) ?_) | (with_reducible refine Ev.mk _ (Int.toNat_natCast _) ?_) | (with_reducible refine Ev.mk _ (Int.toNat_ofNat _) ?_)) | refine @Ev.keep (List Value) _ _ ?_ | refine Rd.mk _ (by assumption) (by (first | exact trivial | exact fun x => x)) ?_ | refine Nd.mk (by (first | omega | exact ⟨rfl, rfl⟩ | exact ⟨rfl, by decide⟩ | exact ⟨by decide, rfl⟩ | exact ⟨by omega, by omega, by omega, by (simp [ti5]; omega), rfl⟩ | exact ⟨rfl, Nat.le_of_ble_eq_true rfl⟩ | exact rfl | decide)) ?_))
  refine RdA.whole a1 (hlen _) trivial ?_
  (repeat ((conv => whnf); first | refine G.seq ?_ | refine G.region cxOk ?_ | refine G.block ?_ | refine G.cond_t rfl ?_ | refine G.cond_f rfl ?_ | refine G.skip ?_ | refine G.exit ?_ | refine G.ret ?_ | refine Cmp.dt (by (first | (with_reducible rfl) | omega)) ?_ | refine Cmp.df (by omega) ?_ | (first | (with_reducible refine Ev.mk _ (u32_xor _ _) ?_) | (with_reducible refine Ev.mk _ (u32_and _ _) ?_) | (with_reducible refine Ev.mk _ (u32_or _ _) ?_) | (with_reducible refine Ev.mk _ (u32_add _ _) ?_) | (with_reducible refine Ev.mk _ (u32_not _) ?_) | (with_reducible refine Ev.mk _ (u8_u32 _) ?_) | refine Ix1.mk _ _ _ rfl (by decide) rfl ?_) | (first | (with_reducible refine Ev.mk _ (IntWalk.i64_in _ ?_) ?_; · omega) | (with_reducible refine Ev.mk _ (wrap_u8_nat _) ?_) | (with_reducible refine Ev.mk _ (shr8 _) ?_) | (with_reducible refine Ev.mk _ (Int.toNat_natCast _) ?_) | (with_reducible refine Ev.mk _ (Int.toNat_ofNat _) ?_)) | refine @Ev.keep (List Value) _ _ ?_ | refine Rd.mk _ (by assumption) (by (first | exact trivial | exact fun x => x)) ?_ | refine Nd.mk (by (first | omega | exact ⟨rfl, rfl⟩ | exact ⟨rfl, by decide⟩ | exact ⟨by decide, rfl⟩ | exact ⟨by omega, by omega, by omega, by (simp [ti5]; omega), rfl⟩ | exact ⟨rfl, Nat.le_of_ble_eq_true rfl⟩ | exact rfl | decide)) ?_))
  refine Cl.mk (Few_ret h.top) ?_
  rintro _ w2 ⟨rfl, x2⟩
  have a2 := a1.ext x2 id
  have z2 := x1.trans x2
  by_cases h3 : l.length ≤ 300
  rotate_left
  · rw [decide_eq_false h3]
    (repeat ((conv => whnf); first | refine G.seq ?_ | refine G.region cxOk ?_ | refine G.block ?_ | refine G.cond_t rfl ?_ | refine G.cond_f rfl ?_ | refine G.skip ?_ | refine G.exit ?_ | refine G.ret ?_ | refine Cmp.dt (by (first | (with_reducible rfl) | omega)) ?_ | refine Cmp.df (by omega) ?_ | (first | (with_reducible refine Ev.mk _ (u32_xor _ _) ?_) | (with_reducible refine Ev.mk _ (u32_and _ _) ?_) | (with_reducible refine Ev.mk _ (u32_or _ _) ?_) | (with_reducible refine Ev.mk _ (u32_add _ _) ?_) | (with_reducible refine Ev.mk _ (u32_not _) ?_) | (with_reducible refine Ev.mk _ (u8_u32 _) ?_) | refine Ix1.mk _ _ _ rfl (by decide) rfl ?_) | (first | (with_reducible refine Ev.mk _ (IntWalk.i64_in _ ?_) ?_; · omega) | (with_reducible refine Ev.mk _ (wrap_u8_nat _) ?_) | (with_reducible refine Ev.mk _ (shr8 _) ?_) | (with_reducible refine Ev.mk _ (Int.toNat_natCast _) ?_) | (with_reducible refine Ev.mk _ (Int.toNat_ofNat _) ?_)) | refine @Ev.keep (List Value) _ _ ?_ | refine Rd.mk _ (by assumption) (by (first | exact trivial | exact fun x => x)) ?_ | refine Nd.mk (by (first | omega | exact ⟨rfl, rfl⟩ | exact ⟨rfl, by decide⟩ | exact ⟨by decide, rfl⟩ | exact ⟨by omega, by omega, by omega, by (simp [ti5]; omega), rfl⟩ | exact ⟨rfl, Nat.le_of_ble_eq_true rfl⟩ | exact rfl | decide)) ?_))
    refine Cl.mk (awake18_ret w2) ?_
    rintro _ w3 ⟨rfl, x3⟩
    (repeat ((conv => whnf); first | refine G.seq ?_ | refine G.region cxOk ?_ | refine G.block ?_ | refine G.cond_t rfl ?_ | refine G.cond_f rfl ?_ | refine G.skip ?_ | refine G.exit ?_ | refine G.ret ?_ | refine Cmp.dt (by (first | (with_reducible rfl) | omega)) ?_ | refine Cmp.df (by omega) ?_ | (first | (with_reducible refine Ev.mk _ (u32_xor _ _) ?_) | (with_reducible refine Ev.mk _ (u32_and _ _) ?_) | (with_reducible refine Ev.mk _ (u32_or _ _) ?_) | (with_reducible refine Ev.mk _ (u32_add _ _) ?_) | (with_reducible refine Ev.mk _ (u32_not _) ?_) | (with_reducible refine Ev.mk _ (u8_u32 _) ?_) | refine Ix1.mk _ _ _ rfl (by decide) rfl ?_) | (first | (with_reducible refine Ev.mk _ (IntWalk.i64_in _ ?_) ?_; · omega) | (with_reducible refine Ev.mk _ (wrap_u8_nat _) ?_) | (with_reducible refine Ev.mk _ (shr8 _) ?_) | (with_reducible refine Ev.mk _ (Int.toNat_natCast _) ?_) | (with_reducible refine Ev.mk _ (Int.toNat_ofNat _) ?_)) | refine @Ev.keep (List Value) _ _ ?_ | refine Rd.mk _ (by assumption) (by (first | exact trivial | exact fun x => x)) ?_ | refine Nd.mk (by (first | omega | exact ⟨rfl, rfl⟩ | exact ⟨rfl, by decide⟩ | exact ⟨by decide, rfl⟩ | exact ⟨by omega, by omega, by omega, by (simp [ti5]; omega), rfl⟩ | exact ⟨rfl, Nat.le_of_ble_eq_true rfl⟩ | exact rfl | decide)) ?_))
    exact Don.mk ⟨rfl, z2.trans x3⟩
  have hn : l.length ≤ 2513169434843 := by omega
  rw [decide_eq_true h3]
  (repeat ((conv => whnf); first | refine G.seq ?_ | refine G.region cxOk ?_ | refine G.block ?_ | refine G.cond_t rfl ?_ | refine G.cond_f rfl ?_ | refine G.skip ?_ | refine G.exit ?_ | refine G.ret ?_ | refine Cmp.dt (by (first | (with_reducible rfl) | omega)) ?_ | refine Cmp.df (by omega) ?_ | (first | (with_reducible refine Ev.mk _ (u32_xor _ _) ?_) | (with_reducible refine Ev.mk _ (u32_and _ _) ?_) | (with_reducible refine Ev.mk _ (u32_or _ _) ?_) | (with_reducible refine Ev.mk _ (u32_add _ _) ?_) | (with_reducible refine Ev.mk _ (u32_not _) ?_) | (with_reducible refine Ev.mk _ (u8_u32 _) ?_) | refine Ix1.mk _ _ _ rfl (by decide) rfl ?_) | (first | (with_reducible refine Ev.mk _ (IntWalk.i64_in _ ?_) ?_; · omega) | (with_reducible refine Ev.mk _ (wrap_u8_nat _) ?_) | (with_reducible refine Ev.mk _ (shr8 _) ?_) | (with_reducible refine Ev.mk _ (Int.toNat_natCast _) ?_) | (with_reducible refine Ev.mk _ (Int.toNat_ofNat _) ?_)) | refine @Ev.keep (List Value) _ _ ?_ | refine Rd.mk _ (by assumption) (by (first | exact trivial | exact fun x => x)) ?_ | refine Nd.mk (by (first | omega | exact ⟨rfl, rfl⟩ | exact ⟨rfl, by decide⟩ | exact ⟨by decide, rfl⟩ | exact ⟨by omega, by omega, by omega, by (simp [ti5]; omega), rfl⟩ | exact ⟨rfl, Nat.le_of_ble_eq_true rfl⟩ | exact rfl | decide)) ?_))
  refine RdA.whole a2 (hlen _) trivial ?_
  (repeat ((conv => whnf); first | refine G.seq ?_ | refine G.region cxOk ?_ | refine G.block ?_ | refine G.cond_t rfl ?_ | refine G.cond_f rfl ?_ | refine G.skip ?_ | refine G.exit ?_ | refine G.ret ?_ | refine Cmp.dt (by (first | (with_reducible rfl) | omega)) ?_ | refine Cmp.df (by omega) ?_ | (first | (with_reducible refine Ev.mk _ (u32_xor _ _) ?_) | (with_reducible refine Ev.mk _ (u32_and _ _) ?_) | (with_reducible refine Ev.mk _ (u32_or _ _) ?_) | (with_reducible refine Ev.mk _ (u32_add _ _) ?_) | (with_reducible refine Ev.mk _ (u32_not _) ?_) | (with_reducible refine Ev.mk _ (u8_u32 _) ?_) | refine Ix1.mk _ _ _ rfl (by decide) rfl ?_) | (first | (with_reducible refine Ev.mk _ (IntWalk.i64_in _ ?_) ?_; · omega) | (with_reducible refine Ev.mk _ (wrap_u8_nat _) ?_) | (with_reducible refine Ev.mk _ (shr8 _) ?_) | (with_reducible refine Ev.mk _ (Int.toNat_natCast _) ?_) | (with_reducible refine Ev.mk _ (Int.toNat_ofNat _) ?_)) | refine @Ev.keep (List Value) _ _ ?_ | refine Rd.mk _ (by assumption) (by (first | exact trivial | exact fun x => x)) ?_ | refine Nd.mk (by (first | omega | exact ⟨rfl, rfl⟩ | exact ⟨rfl, by decide⟩ | exact ⟨by decide, rfl⟩ | exact ⟨by omega, by omega, by omega, by (simp [ti5]; omega), rfl⟩ | exact ⟨rfl, Nat.le_of_ble_eq_true rfl⟩ | exact rfl | decide)) ?_))
  refine Cl.mk (Copy_ret (h.ext z2) hn) ?_
  rintro _ w3 ⟨A0, c0, rfl, hc0, o2, x3⟩
  have a3 := a2.ext x3 id
  have z3 := z2.trans x3
  (repeat ((conv => whnf); first | refine G.seq ?_ | refine G.region cxOk ?_ | refine G.block ?_ | refine G.cond_t rfl ?_ | refine G.cond_f rfl ?_ | refine G.skip ?_ | refine G.exit ?_ | refine G.ret ?_ | refine Cmp.dt (by (first | (with_reducible rfl) | omega)) ?_ | refine Cmp.df (by omega) ?_ | (first | (with_reducible refine Ev.mk _ (u32_xor _ _) ?_) | (with_reducible refine Ev.mk _ (u32_and _ _) ?_) | (with_reducible refine Ev.mk _ (u32_or _ _) ?_) | (with_reducible refine Ev.mk _ (u32_add _ _) ?_) | (with_reducible refine Ev.mk _ (u32_not _) ?_) | (with_reducible refine Ev.mk _ (u8_u32 _) ?_) | refine Ix1.mk _ _ _ rfl (by decide) rfl ?_) | (first | (with_reducible refine Ev.mk _ (IntWalk.i64_in _ ?_) ?_; · omega) | (with_reducible refine Ev.mk _ (wrap_u8_nat _) ?_) | (with_reducible refine Ev.mk _ (shr8 _) ?_) | (with_reducible refine Ev.mk _ (Int.toNat_natCast _) ?_) | (with_reducible refine Ev.mk _ (Int.toNat_ofNat _) ?_)) | refine @Ev.keep (List Value) _ _ ?_ | refine Rd.mk _ (by assumption) (by (first | exact trivial | exact fun x => x)) ?_ | refine Nd.mk (by (first | omega | exact ⟨rfl, rfl⟩ | exact ⟨rfl, by decide⟩ | exact ⟨by decide, rfl⟩ | exact ⟨by omega, by omega, by omega, by (simp [ti5]; omega), rfl⟩ | exact ⟨rfl, Nat.le_of_ble_eq_true rfl⟩ | exact rfl | decide)) ?_))
  refine Al.mk fun cb w4 hN4 => ?_
  (repeat ((conv => whnf); first | refine G.seq ?_ | refine G.region cxOk ?_ | refine G.block ?_ | refine G.cond_t rfl ?_ | refine G.cond_f rfl ?_ | refine G.skip ?_ | refine G.exit ?_ | refine G.ret ?_ | refine Cmp.dt (by (first | (with_reducible rfl) | omega)) ?_ | refine Cmp.df (by omega) ?_ | (first | (with_reducible refine Ev.mk _ (u32_xor _ _) ?_) | (with_reducible refine Ev.mk _ (u32_and _ _) ?_) | (with_reducible refine Ev.mk _ (u32_or _ _) ?_) | (with_reducible refine Ev.mk _ (u32_add _ _) ?_) | (with_reducible refine Ev.mk _ (u32_not _) ?_) | (with_reducible refine Ev.mk _ (u8_u32 _) ?_) | refine Ix1.mk _ _ _ rfl (by decide) rfl ?_) | (first | (with_reducible refine Ev.mk _ (IntWalk.i64_in _ ?_) ?_; · omega) | (with_reducible refine Ev.mk _ (wrap_u8_nat _) ?_) | (with_reducible refine Ev.mk _ (shr8 _) ?_) | (with_reducible refine Ev.mk _ (Int.toNat_natCast _) ?_) | (with_reducible refine Ev.mk _ (Int.toNat_ofNat _) ?_)) | refine @Ev.keep (List Value) _ _ ?_ | refine Rd.mk _ (by assumption) (by (first | exact trivial | exact fun x => x)) ?_ | refine Nd.mk (by (first | omega | exact ⟨rfl, rfl⟩ | exact ⟨rfl, by decide⟩ | exact ⟨by decide, rfl⟩ | exact ⟨by omega, by omega, by omega, by (simp [ti5]; omega), rfl⟩ | exact ⟨rfl, Nat.le_of_ble_eq_true rfl⟩ | exact rfl | decide)) ?_))
  refine Nd.mk (by rw [List.size_toArray, hlen]; rfl) ?_
  refine StA.all (m := .plain) (vs := nv t ++ [.slice A0 l.length c0]) hN4.at_ (by rw [hlen]; rfl) (one_cat _ _ _ _) trivial fun v0 b5 x5 => ?_
  have x35 : Ext Non w3 v0 := Ext.own hN4.ext x5 hN4.ge
  have o5 : OSn v0 w2.heap.size (.slice A0 l.length c0) l := o2.ext (hN4.ext.trans' x5 (fun _ _ x => x.elim) (fun _ _ e => e)) fun k hk e => by
    have := o2.lt hk
    have := hN4.ge
    omega
  have hC5 : CatAt v0 t A0 c0 l := CatAt.of h.top h.snaps hc0 o5
  have b5 : At v0 cb (nv t ++ [.slice A0 l.length c0]) 29 (0, 0) := b5
  have a5 := a3.ext x35 id
  have z5 := z3.trans x35
  have h5 := h.ext z5
  have X0 : Ext Non v0 v0 := Ext.refl _ _
  have hk1 := snapC_ok (s := s) h.top h.snaps hs
  have hk3 := dropC_ok (s := s) h.top h.snaps
  have hk5 := revertC_ok (s := s) h.top h.snaps
  have hk7 := findC_ok (s := s) h.snaps
  obtain ⟨⟨⟨T1, L1⟩, E1⟩, hq1⟩ : ∃ r, snapC t l s = r := ⟨_, rfl⟩
  obtain ⟨⟨⟨T3, L3⟩, E3⟩, hq3⟩ : ∃ r, dropC t l s = r := ⟨_, rfl⟩
  obtain ⟨⟨⟨T5, L5⟩, E5⟩, hq5⟩ : ∃ r, revertC t l s = r := ⟨_, rfl⟩
  obtain ⟨⟨F7, E7⟩, hq7⟩ : ∃ r, findC l s = r := ⟨_, rfl⟩
  rw [hq1] at hk1
  rw [hq3] at hk3
  rw [hq5] at hk5
  rw [hq7] at hk7
  obtain ⟨hT1, hL1, hn1⟩ : RefOk T1 ∧ SnapsOk L1 ∧ L1.length ≤ l.length + 1 := hk1
  obtain ⟨hT3, hL3, hn3⟩ : RefOk T3 ∧ SnapsOk L3 ∧ L3.length ≤ l.length + 1 := hk3
  obtain ⟨hT5, hL5, hn5⟩ : RefOk T5 ∧ SnapsOk L5 ∧ L5.length ≤ l.length + 1 := hk5
  have hF7 : RefOk F7 := hk7
  (repeat ((conv => whnf); first | refine G.seq ?_ | refine G.region cxOk ?_ | refine G.block ?_ | refine G.cond_t rfl ?_ | refine G.cond_f rfl ?_ | refine G.skip ?_ | refine G.exit ?_ | refine G.ret ?_))
  refine RdA.whole (b5.ext X0 id) (hlen _) trivial ?_
  (repeat ((conv => whnf); first | refine G.seq ?_ | refine G.region cxOk ?_ | refine G.block ?_ | refine G.cond_t rfl ?_ | refine G.cond_f rfl ?_ | refine G.skip ?_ | refine G.exit ?_ | refine G.ret ?_))
  refine Cl.mk (Snap_ret (hC5.ext X0) s hn hs) ?_
  rintro _ p1 ⟨hR1, y1⟩
  rw [hq1] at hR1
  obtain ⟨A1, c1, rfl, hc1, o1⟩ : ∃ A2 c2, _ = Value.tuple #[catV T1 A2 L1.length c2, .int .i64 E1] ∧ L1.length ≤ c2 ∧ OSn p1 v0.heap.size (.slice A2 L1.length c2) L1 := hR1
  (repeat ((conv => whnf); first | refine G.seq ?_ | refine G.region cxOk ?_ | refine G.block ?_ | refine G.cond_t rfl ?_ | refine G.cond_f rfl ?_ | refine G.skip ?_ | refine G.exit ?_ | refine G.ret ?_))
  refine Al.mk fun k1 q1 hB1 => ?_
  (repeat ((conv => whnf); first | refine G.seq ?_ | refine G.region cxOk ?_ | refine G.block ?_ | refine G.cond_t rfl ?_ | refine G.cond_f rfl ?_ | refine G.skip ?_ | refine G.exit ?_ | refine G.ret ?_))
  refine Nd.mk (by rw [List.size_toArray, cat_len hT1.len]; rfl) ?_
  refine StA.all (m := .plain) (vs := nv T1 ++ [.slice A1 L1.length c1]) hB1.at_ (by rw [cat_len hT1.len]; rfl) (one_cat _ _ _ _) trivial fun v1 g1 s1 => ?_
  have e1 : Ext Non v0 v1 := y1.trans (Ext.own hB1.ext s1 hB1.ge)
  have X1 := X0.trans e1
  have O1 : OSn v1 v0.heap.size (.slice A1 L1.length c1) L1 := o1.ext (hB1.ext.trans' s1 (fun _ _ x => x.elim) (fun _ _ e => e)) (fun j hj e => by have := o1.lt hj; have := hB1.ge; omega)
  have g1 : At v1 k1 (nv T1 ++ [.slice A1 L1.length c1]) 29 (0, 0) := g1
  (repeat ((conv => whnf); first | refine G.seq ?_ | refine G.region cxOk ?_ | refine G.block ?_ | refine G.cond_t rfl ?_ | refine G.cond_f rfl ?_ | refine G.skip ?_ | refine G.exit ?_ | refine G.ret ?_))
  refine RdA.whole (a5.ext X1 id) (hlen _) trivial ?_
  (repeat ((conv => whnf); first | refine G.seq ?_ | refine G.region cxOk ?_ | refine G.block ?_ | refine G.cond_t rfl ?_ | refine G.cond_f rfl ?_ | refine G.skip ?_ | refine G.exit ?_ | refine G.ret ?_))
  refine Cl.mk (refSnap_ret (h5.ext X1) s hn hs) ?_
  rintro _ p2 ⟨hR2, y2⟩
  rw [hq1] at hR2
  obtain ⟨A2, c2, rfl, hc2, o2⟩ : ∃ A2 c2, _ = Value.tuple #[catV T1 A2 L1.length c2, .int .i64 E1] ∧ L1.length ≤ c2 ∧ OSn p2 v1.heap.size (.slice A2 L1.length c2) L1 := hR2
  (repeat ((conv => whnf); first | refine G.seq ?_ | refine G.region cxOk ?_ | refine G.block ?_ | refine G.cond_t rfl ?_ | refine G.cond_f rfl ?_ | refine G.skip ?_ | refine G.exit ?_ | refine G.ret ?_))
  refine Al.mk fun k2 q2 hB2 => ?_
  (repeat ((conv => whnf); first | refine G.seq ?_ | refine G.region cxOk ?_ | refine G.block ?_ | refine G.cond_t rfl ?_ | refine G.cond_f rfl ?_ | refine G.skip ?_ | refine G.exit ?_ | refine G.ret ?_))
  refine Nd.mk (by rw [List.size_toArray, cat_len hT1.len]; rfl) ?_
  refine StA.all (m := .plain) (vs := nv T1 ++ [.slice A2 L1.length c2]) hB2.at_ (by rw [cat_len hT1.len]; rfl) (one_cat _ _ _ _) trivial fun v2 g2 s2 => ?_
  have e2 : Ext Non v1 v2 := y2.trans (Ext.own hB2.ext s2 hB2.ge)
  have X2 := X1.trans e2
  have O2 : OSn v2 v1.heap.size (.slice A2 L1.length c2) L1 := o2.ext (hB2.ext.trans' s2 (fun _ _ x => x.elim) (fun _ _ e => e)) (fun j hj e => by have := o2.lt hj; have := hB2.ge; omega)
  have g2 : At v2 k2 (nv T1 ++ [.slice A2 L1.length c2]) 29 (0, 0) := g2
  (repeat ((conv => whnf); first | refine G.seq ?_ | refine G.region cxOk ?_ | refine G.block ?_ | refine G.cond_t rfl ?_ | refine G.cond_f rfl ?_ | refine G.skip ?_ | refine G.exit ?_ | refine G.ret ?_))
  refine RdA.whole (b5.ext X2 id) (hlen _) trivial ?_
  (repeat ((conv => whnf); first | refine G.seq ?_ | refine G.region cxOk ?_ | refine G.block ?_ | refine G.cond_t rfl ?_ | refine G.cond_f rfl ?_ | refine G.skip ?_ | refine G.exit ?_ | refine G.ret ?_))
  refine Cl.mk (Drop_ret (hC5.ext X2) s hn) ?_
  rintro _ p3 ⟨hR3, y3⟩
  rw [hq3] at hR3
  obtain ⟨A3, c3, rfl, hc3, o3⟩ : ∃ A2 c2, _ = Value.tuple #[catV T3 A2 L3.length c2, .int .i64 E3] ∧ L3.length ≤ c2 ∧ OSn p3 v2.heap.size (.slice A2 L3.length c2) L3 := hR3
  (repeat ((conv => whnf); first | refine G.seq ?_ | refine G.region cxOk ?_ | refine G.block ?_ | refine G.cond_t rfl ?_ | refine G.cond_f rfl ?_ | refine G.skip ?_ | refine G.exit ?_ | refine G.ret ?_))
  refine Al.mk fun k3 q3 hB3 => ?_
  (repeat ((conv => whnf); first | refine G.seq ?_ | refine G.region cxOk ?_ | refine G.block ?_ | refine G.cond_t rfl ?_ | refine G.cond_f rfl ?_ | refine G.skip ?_ | refine G.exit ?_ | refine G.ret ?_))
  refine Nd.mk (by rw [List.size_toArray, cat_len hT3.len]; rfl) ?_
  refine StA.all (m := .plain) (vs := nv T3 ++ [.slice A3 L3.length c3]) hB3.at_ (by rw [cat_len hT3.len]; rfl) (one_cat _ _ _ _) trivial fun v3 g3 s3 => ?_
  have e3 : Ext Non v2 v3 := y3.trans (Ext.own hB3.ext s3 hB3.ge)
  have X3 := X2.trans e3
  have O3 : OSn v3 v2.heap.size (.slice A3 L3.length c3) L3 := o3.ext (hB3.ext.trans' s3 (fun _ _ x => x.elim) (fun _ _ e => e)) (fun j hj e => by have := o3.lt hj; have := hB3.ge; omega)
  have g3 : At v3 k3 (nv T3 ++ [.slice A3 L3.length c3]) 29 (0, 0) := g3
  (repeat ((conv => whnf); first | refine G.seq ?_ | refine G.region cxOk ?_ | refine G.block ?_ | refine G.cond_t rfl ?_ | refine G.cond_f rfl ?_ | refine G.skip ?_ | refine G.exit ?_ | refine G.ret ?_))
  refine RdA.whole (a5.ext X3 id) (hlen _) trivial ?_
  (repeat ((conv => whnf); first | refine G.seq ?_ | refine G.region cxOk ?_ | refine G.block ?_ | refine G.cond_t rfl ?_ | refine G.cond_f rfl ?_ | refine G.skip ?_ | refine G.exit ?_ | refine G.ret ?_))
  refine Cl.mk (refDrop_ret (h5.ext X3) s hn) ?_
  rintro _ p4 ⟨hR4, y4⟩
  rw [hq3] at hR4
  obtain ⟨A4, c4, rfl, hc4, o4⟩ : ∃ A2 c2, _ = Value.tuple #[catV T3 A2 L3.length c2, .int .i64 E3] ∧ L3.length ≤ c2 ∧ OSn p4 v3.heap.size (.slice A2 L3.length c2) L3 := hR4
  (repeat ((conv => whnf); first | refine G.seq ?_ | refine G.region cxOk ?_ | refine G.block ?_ | refine G.cond_t rfl ?_ | refine G.cond_f rfl ?_ | refine G.skip ?_ | refine G.exit ?_ | refine G.ret ?_))
  refine Al.mk fun k4 q4 hB4 => ?_
  (repeat ((conv => whnf); first | refine G.seq ?_ | refine G.region cxOk ?_ | refine G.block ?_ | refine G.cond_t rfl ?_ | refine G.cond_f rfl ?_ | refine G.skip ?_ | refine G.exit ?_ | refine G.ret ?_))
  refine Nd.mk (by rw [List.size_toArray, cat_len hT3.len]; rfl) ?_
  refine StA.all (m := .plain) (vs := nv T3 ++ [.slice A4 L3.length c4]) hB4.at_ (by rw [cat_len hT3.len]; rfl) (one_cat _ _ _ _) trivial fun v4 g4 s4 => ?_
  have e4 : Ext Non v3 v4 := y4.trans (Ext.own hB4.ext s4 hB4.ge)
  have X4 := X3.trans e4
  have O4 : OSn v4 v3.heap.size (.slice A4 L3.length c4) L3 := o4.ext (hB4.ext.trans' s4 (fun _ _ x => x.elim) (fun _ _ e => e)) (fun j hj e => by have := o4.lt hj; have := hB4.ge; omega)
  have g4 : At v4 k4 (nv T3 ++ [.slice A4 L3.length c4]) 29 (0, 0) := g4
  (repeat ((conv => whnf); first | refine G.seq ?_ | refine G.region cxOk ?_ | refine G.block ?_ | refine G.cond_t rfl ?_ | refine G.cond_f rfl ?_ | refine G.skip ?_ | refine G.exit ?_ | refine G.ret ?_))
  refine RdA.whole (b5.ext X4 id) (hlen _) trivial ?_
  (repeat ((conv => whnf); first | refine G.seq ?_ | refine G.region cxOk ?_ | refine G.block ?_ | refine G.cond_t rfl ?_ | refine G.cond_f rfl ?_ | refine G.skip ?_ | refine G.exit ?_ | refine G.ret ?_))
  refine Cl.mk (Revert_ret (hC5.ext X4) s hn) ?_
  rintro _ p5 ⟨hR5, y5⟩
  rw [hq5] at hR5
  obtain ⟨A5, c5, rfl, hc5, o5⟩ : ∃ A2 c2, _ = Value.tuple #[catV T5 A2 L5.length c2, .int .i64 E5] ∧ L5.length ≤ c2 ∧ OSn p5 v4.heap.size (.slice A2 L5.length c2) L5 := hR5
  (repeat ((conv => whnf); first | refine G.seq ?_ | refine G.region cxOk ?_ | refine G.block ?_ | refine G.cond_t rfl ?_ | refine G.cond_f rfl ?_ | refine G.skip ?_ | refine G.exit ?_ | refine G.ret ?_))
  refine Al.mk fun k5 q5 hB5 => ?_
  (repeat ((conv => whnf); first | refine G.seq ?_ | refine G.region cxOk ?_ | refine G.block ?_ | refine G.cond_t rfl ?_ | refine G.cond_f rfl ?_ | refine G.skip ?_ | refine G.exit ?_ | refine G.ret ?_))
  refine Nd.mk (by rw [List.size_toArray, cat_len hT5.len]; rfl) ?_
  refine StA.all (m := .plain) (vs := nv T5 ++ [.slice A5 L5.length c5]) hB5.at_ (by rw [cat_len hT5.len]; rfl) (one_cat _ _ _ _) trivial fun v5 g5 s5 => ?_
  have e5 : Ext Non v4 v5 := y5.trans (Ext.own hB5.ext s5 hB5.ge)
  have X5 := X4.trans e5
  have O5 : OSn v5 v4.heap.size (.slice A5 L5.length c5) L5 := o5.ext (hB5.ext.trans' s5 (fun _ _ x => x.elim) (fun _ _ e => e)) (fun j hj e => by have := o5.lt hj; have := hB5.ge; omega)
  have g5 : At v5 k5 (nv T5 ++ [.slice A5 L5.length c5]) 29 (0, 0) := g5
  (repeat ((conv => whnf); first | refine G.seq ?_ | refine G.region cxOk ?_ | refine G.block ?_ | refine G.cond_t rfl ?_ | refine G.cond_f rfl ?_ | refine G.skip ?_ | refine G.exit ?_ | refine G.ret ?_))
  refine RdA.whole (a5.ext X5 id) (hlen _) trivial ?_
  (repeat ((conv => whnf); first | refine G.seq ?_ | refine G.region cxOk ?_ | refine G.block ?_ | refine G.cond_t rfl ?_ | refine G.cond_f rfl ?_ | refine G.skip ?_ | refine G.exit ?_ | refine G.ret ?_))
  refine Cl.mk (refRevert_ret (h5.ext X5) s hn) ?_
  rintro _ p6 ⟨hR6, y6⟩
  rw [hq5] at hR6
  obtain ⟨A6, c6, rfl, hc6, o6⟩ : ∃ A2 c2, _ = Value.tuple #[catV T5 A2 L5.length c2, .int .i64 E5] ∧ L5.length ≤ c2 ∧ OSn p6 v5.heap.size (.slice A2 L5.length c2) L5 := hR6
  (repeat ((conv => whnf); first | refine G.seq ?_ | refine G.region cxOk ?_ | refine G.block ?_ | refine G.cond_t rfl ?_ | refine G.cond_f rfl ?_ | refine G.skip ?_ | refine G.exit ?_ | refine G.ret ?_))
  refine Al.mk fun k6 q6 hB6 => ?_
  (repeat ((conv => whnf); first | refine G.seq ?_ | refine G.region cxOk ?_ | refine G.block ?_ | refine G.cond_t rfl ?_ | refine G.cond_f rfl ?_ | refine G.skip ?_ | refine G.exit ?_ | refine G.ret ?_))
  refine Nd.mk (by rw [List.size_toArray, cat_len hT5.len]; rfl) ?_
  refine StA.all (m := .plain) (vs := nv T5 ++ [.slice A6 L5.length c6]) hB6.at_ (by rw [cat_len hT5.len]; rfl) (one_cat _ _ _ _) trivial fun v6 g6 s6 => ?_
  have e6 : Ext Non v5 v6 := y6.trans (Ext.own hB6.ext s6 hB6.ge)
  have X6 := X5.trans e6
  have O6 : OSn v6 v5.heap.size (.slice A6 L5.length c6) L5 := o6.ext (hB6.ext.trans' s6 (fun _ _ x => x.elim) (fun _ _ e => e)) (fun j hj e => by have := o6.lt hj; have := hB6.ge; omega)
  have g6 : At v6 k6 (nv T5 ++ [.slice A6 L5.length c6]) 29 (0, 0) := g6
  (repeat ((conv => whnf); first | refine G.seq ?_ | refine G.region cxOk ?_ | refine G.block ?_ | refine G.cond_t rfl ?_ | refine G.cond_f rfl ?_ | refine G.skip ?_ | refine G.exit ?_ | refine G.ret ?_))
  refine RdA.whole (b5.ext X6 id) (hlen _) trivial ?_
  (repeat ((conv => whnf); first | refine G.seq ?_ | refine G.region cxOk ?_ | refine G.block ?_ | refine G.cond_t rfl ?_ | refine G.cond_f rfl ?_ | refine G.skip ?_ | refine G.exit ?_ | refine G.ret ?_))
  have hc7 := Find_ret (hC5.ext X6) s hn
  rw [hq7] at hc7
  refine Cl.mk hc7 ?_
  rintro _ p7 ⟨rfl, y7⟩
  (repeat ((conv => whnf); first | refine G.seq ?_ | refine G.region cxOk ?_ | refine G.block ?_ | refine G.cond_t rfl ?_ | refine G.cond_f rfl ?_ | refine G.skip ?_ | refine G.exit ?_ | refine G.ret ?_))
  refine Al.mk fun k7 q7 hB7 => ?_
  (repeat ((conv => whnf); first | refine G.seq ?_ | refine G.region cxOk ?_ | refine G.block ?_ | refine G.cond_t rfl ?_ | refine G.cond_f rfl ?_ | refine G.skip ?_ | refine G.exit ?_ | refine G.ret ?_))
  refine Nd.mk (by show (nv F7).toArray.size = _; rw [List.size_toArray, nv_length hF7.len]; rfl) ?_
  refine StA.all (m := .plain) (vs := nv F7) hB7.at_ (by rw [nv_length hF7.len]; rfl) (one_nv _) trivial fun v7 g7 s7 => ?_
  have e7 : Ext Non v6 v7 := y7.trans (Ext.own hB7.ext s7 hB7.ge)
  have X7 := X6.trans e7
  have g7 : At v7 k7 (nv F7) 26 (0, 0) := g7
  (repeat ((conv => whnf); first | refine G.seq ?_ | refine G.region cxOk ?_ | refine G.block ?_ | refine G.cond_t rfl ?_ | refine G.cond_f rfl ?_ | refine G.skip ?_ | refine G.exit ?_ | refine G.ret ?_))
  refine RdA.whole (a5.ext X7 id) (hlen _) trivial ?_
  (repeat ((conv => whnf); first | refine G.seq ?_ | refine G.region cxOk ?_ | refine G.block ?_ | refine G.cond_t rfl ?_ | refine G.cond_f rfl ?_ | refine G.skip ?_ | refine G.exit ?_ | refine G.ret ?_))
  have hc8 := refFind_ret (h5.ext X7) s hn
  rw [hq7] at hc8
  refine Cl.mk hc8 ?_
  rintro _ p8 ⟨rfl, y8⟩
  (repeat ((conv => whnf); first | refine G.seq ?_ | refine G.region cxOk ?_ | refine G.block ?_ | refine G.cond_t rfl ?_ | refine G.cond_f rfl ?_ | refine G.skip ?_ | refine G.exit ?_ | refine G.ret ?_))
  refine Al.mk fun k8 q8 hB8 => ?_
  (repeat ((conv => whnf); first | refine G.seq ?_ | refine G.region cxOk ?_ | refine G.block ?_ | refine G.cond_t rfl ?_ | refine G.cond_f rfl ?_ | refine G.skip ?_ | refine G.exit ?_ | refine G.ret ?_))
  refine Nd.mk (by show (nv F7).toArray.size = _; rw [List.size_toArray, nv_length hF7.len]; rfl) ?_
  refine StA.all (m := .plain) (vs := nv F7) hB8.at_ (by rw [nv_length hF7.len]; rfl) (one_nv _) trivial fun v8 g8 s8 => ?_
  have e8 : Ext Non v7 v8 := y8.trans (Ext.own hB8.ext s8 hB8.ge)
  have X8 := X7.trans e8
  have g8 : At v8 k8 (nv F7) 26 (0, 0) := g8
  have D8 : Ext Non v8 v8 := Ext.refl _ _
  have D7 := e8.trans D8
  have D6 := e7.trans D7
  have D5 := e6.trans D6
  have D4 := e5.trans D5
  have D3 := e4.trans D4
  have D2 := e3.trans D3
  have D1 := e2.trans D2
  (repeat ((conv => whnf); first | refine G.seq ?_ | refine G.region cxOk ?_ | refine G.block ?_ | refine G.cond_t rfl ?_ | refine G.cond_f rfl ?_ | refine G.skip ?_ | refine G.exit ?_ | refine G.ret ?_))
  refine RdA.whole (g1.ext D1 id) (cat_len hT1.len _) trivial ?_
  (repeat ((conv => whnf); first | refine G.seq ?_ | refine G.region cxOk ?_ | refine G.block ?_ | refine G.cond_t rfl ?_ | refine G.cond_f rfl ?_ | refine G.skip ?_ | refine G.exit ?_ | refine G.ret ?_))
  refine RdA.whole (g2.ext D2 id) (cat_len hT1.len _) trivial ?_
  (repeat ((conv => whnf); first | refine G.seq ?_ | refine G.region cxOk ?_ | refine G.block ?_ | refine G.cond_t rfl ?_ | refine G.cond_f rfl ?_ | refine G.skip ?_ | refine G.exit ?_ | refine G.ret ?_))
  refine Cl.mk (told_ret (CatAt.of hT1 hL1 hc1 (O1.keep D1)) (CatAt.of hT1 hL1 hc2 (O2.keep D2)) (by omega)) ?_
  rintro _ u1 ⟨rfl, m1⟩
  have M1 : Ext Non v8 u1 := m1
  (repeat ((conv => whnf); first | refine G.seq ?_ | refine G.region cxOk ?_ | refine G.block ?_ | refine G.cond_t rfl ?_ | refine G.cond_f rfl ?_ | refine G.skip ?_ | refine G.exit ?_ | refine G.ret ?_))
  refine RdA.whole (g3.ext (D3.trans M1) id) (cat_len hT3.len _) trivial ?_
  (repeat ((conv => whnf); first | refine G.seq ?_ | refine G.region cxOk ?_ | refine G.block ?_ | refine G.cond_t rfl ?_ | refine G.cond_f rfl ?_ | refine G.skip ?_ | refine G.exit ?_ | refine G.ret ?_))
  refine RdA.whole (g4.ext (D4.trans M1) id) (cat_len hT3.len _) trivial ?_
  (repeat ((conv => whnf); first | refine G.seq ?_ | refine G.region cxOk ?_ | refine G.block ?_ | refine G.cond_t rfl ?_ | refine G.cond_f rfl ?_ | refine G.skip ?_ | refine G.exit ?_ | refine G.ret ?_))
  refine Cl.mk (told_ret (CatAt.of hT3 hL3 hc3 (O3.keep (D3.trans M1))) (CatAt.of hT3 hL3 hc4 (O4.keep (D4.trans M1))) (by omega)) ?_
  rintro _ u2 ⟨rfl, m2⟩
  have M2 : Ext Non v8 u2 := M1.trans m2
  (repeat ((conv => whnf); first | refine G.seq ?_ | refine G.region cxOk ?_ | refine G.block ?_ | refine G.cond_t rfl ?_ | refine G.cond_f rfl ?_ | refine G.skip ?_ | refine G.exit ?_ | refine G.ret ?_))
  refine RdA.whole (g5.ext (D5.trans M2) id) (cat_len hT5.len _) trivial ?_
  (repeat ((conv => whnf); first | refine G.seq ?_ | refine G.region cxOk ?_ | refine G.block ?_ | refine G.cond_t rfl ?_ | refine G.cond_f rfl ?_ | refine G.skip ?_ | refine G.exit ?_ | refine G.ret ?_))
  refine RdA.whole (g6.ext (D6.trans M2) id) (cat_len hT5.len _) trivial ?_
  (repeat ((conv => whnf); first | refine G.seq ?_ | refine G.region cxOk ?_ | refine G.block ?_ | refine G.cond_t rfl ?_ | refine G.cond_f rfl ?_ | refine G.skip ?_ | refine G.exit ?_ | refine G.ret ?_))
  refine Cl.mk (told_ret (CatAt.of hT5 hL5 hc5 (O5.keep (D5.trans M2))) (CatAt.of hT5 hL5 hc6 (O6.keep (D6.trans M2))) (by omega)) ?_
  rintro _ u3 ⟨rfl, m3⟩
  have M3 : Ext Non v8 u3 := M2.trans m3
  (repeat ((conv => whnf); first | refine G.seq ?_ | refine G.region cxOk ?_ | refine G.block ?_ | refine G.cond_t rfl ?_ | refine G.cond_f rfl ?_ | refine G.skip ?_ | refine G.exit ?_ | refine G.ret ?_))
  refine RdA.whole (g7.ext (D7.trans M3) id) (nv_length hF7.len) trivial ?_
  (repeat ((conv => whnf); first | refine G.seq ?_ | refine G.region cxOk ?_ | refine G.block ?_ | refine G.cond_t rfl ?_ | refine G.cond_f rfl ?_ | refine G.skip ?_ | refine G.exit ?_ | refine G.ret ?_))
  refine RdA.whole (g8.ext (D8.trans M3) id) (nv_length hF7.len) trivial ?_
  (repeat ((conv => whnf); first | refine G.seq ?_ | refine G.region cxOk ?_ | refine G.block ?_ | refine G.cond_t rfl ?_ | refine G.cond_f rfl ?_ | refine G.skip ?_ | refine G.exit ?_ | refine G.ret ?_))
  refine Eqv.ref hF7.len hF7.len rfl rfl ?_
  rw [decide_eq_true (rfl : F7 = F7)]
  (repeat ((conv => whnf); first | refine G.seq ?_ | refine G.region cxOk ?_ | refine G.block ?_ | refine G.cond_t rfl ?_ | refine G.cond_f rfl ?_ | refine G.skip ?_ | refine G.exit ?_ | refine G.ret ?_))
  (try refine Cmp.df (fun h => h rfl) ?_)
  have ge1 := fun k hk => OS.ge O1 (k := k) hk
  have lt1 := fun k hk => OS.lt O1 (k := k) hk
  have ge3 := fun k hk => OS.ge O3 (k := k) hk
  have lt3 := fun k hk => OS.lt O3 (k := k) hk
  have ge5 := fun k hk => OS.ge O5 (k := k) hk
  have lt5 := fun k hk => OS.lt O5 (k := k) hk
  have sz1 := e1.size
  have sz2 := e2.size
  have sz3 := e3.size
  have sz4 := e4.size
  have sz5 := e5.size
  have szb3 := Nat.le_trans y3.size hB3.ge
  have szb5 := Nat.le_trans y5.size hB5.ge
  (repeat ((conv => whnf); first | refine G.seq ?_ | refine G.region cxOk ?_ | refine G.block ?_ | refine G.cond_t rfl ?_ | refine G.cond_f rfl ?_ | refine G.skip ?_ | refine G.exit ?_ | refine G.ret ?_))
  refine RdA.whole (g1.ext (D1.trans M3) id) (cat_len hT1.len _) trivial ?_
  (repeat ((conv => whnf); first | refine G.seq ?_ | refine G.region cxOk ?_ | refine G.block ?_ | refine G.cond_t rfl ?_ | refine G.cond_f rfl ?_ | refine G.skip ?_ | refine G.exit ?_ | refine G.ret ?_))
  refine Cl.mk (turn_ret hT1 hL1 (O1.keep (D1.trans M3)) (by omega) (e1.trans (D1.trans M3)).size) ?_
  intro _ r1 f1
  have g31 := (g3.ext (D3.trans M3) id).ext f1 (fun hk => by have := lt1 _ hk; omega)
  have g51 := (g5.ext (D5.trans M3) id).ext f1 (fun hk => by have := lt1 _ hk; omega)
  have O31 : OSn r1 v2.heap.size (.slice A3 L3.length c3) L3 := OS.ext (O3.keep (D3.trans M3)) f1 (fun k hk hk1 => by have := lt1 _ hk1; have := ge3 _ hk; omega)
  have O51 : OSn r1 v4.heap.size (.slice A5 L5.length c5) L5 := OS.ext (O5.keep (D5.trans M3)) f1 (fun k hk hk1 => by have := lt1 _ hk1; have := ge5 _ hk; omega)
  have Y1 : Ext Non v0 r1 := (X8.trans M3).trans' f1 (fun _ _ x => x) (fun k hk hk1 => by have := ge1 _ hk1; omega)
  (repeat ((conv => whnf); first | refine G.seq ?_ | refine G.region cxOk ?_ | refine G.block ?_ | refine G.cond_t rfl ?_ | refine G.cond_f rfl ?_ | refine G.skip ?_ | refine G.exit ?_ | refine G.ret ?_))
  refine RdA.whole g31 (cat_len hT3.len _) trivial ?_
  (repeat ((conv => whnf); first | refine G.seq ?_ | refine G.region cxOk ?_ | refine G.block ?_ | refine G.cond_t rfl ?_ | refine G.cond_f rfl ?_ | refine G.skip ?_ | refine G.exit ?_ | refine G.ret ?_))
  refine Cl.mk (turn_ret hT3 hL3 O31 (by omega) (Nat.le_trans (e3.trans (D3.trans M3)).size f1.size)) ?_
  intro _ r2 f2
  have g52 := g51.ext f2 (fun hk => by have := lt3 _ hk; omega)
  have O52 : OSn r2 v4.heap.size (.slice A5 L5.length c5) L5 := OS.ext O51 f2 (fun k hk hk1 => by have := lt3 _ hk1; have := ge5 _ hk; omega)
  have Y2 : Ext Non v0 r2 := Y1.trans' f2 (fun _ _ x => x) (fun k hk hk1 => by have := ge3 _ hk1; omega)
  (repeat ((conv => whnf); first | refine G.seq ?_ | refine G.region cxOk ?_ | refine G.block ?_ | refine G.cond_t rfl ?_ | refine G.cond_f rfl ?_ | refine G.skip ?_ | refine G.exit ?_ | refine G.ret ?_))
  refine RdA.whole g52 (cat_len hT5.len _) trivial ?_
  (repeat ((conv => whnf); first | refine G.seq ?_ | refine G.region cxOk ?_ | refine G.block ?_ | refine G.cond_t rfl ?_ | refine G.cond_f rfl ?_ | refine G.skip ?_ | refine G.exit ?_ | refine G.ret ?_))
  refine Cl.mk (turn_ret hT5 hL5 O52 (by omega) (Nat.le_trans (Nat.le_trans (e5.trans (D5.trans M3)).size f1.size) f2.size)) ?_
  intro _ r3 f3
  have Y3 : Ext Non v0 r3 := Y2.trans' f3 (fun _ _ x => x) (fun k hk hk1 => by have := ge5 _ hk1; omega)
  have hCr := hC5.ext Y3
  have hcr := h5.ext Y3
  have ar := a5.ext Y3 id
  have br := b5.ext Y3 id
  clear g52 g51 g31 O52 O51 O31 ge1 ge3 ge5 lt1 lt3 lt5 sz1 sz2 sz3 sz4 sz5 szb3 szb5 f1 f2 f3 Y1 Y2 D1 D2 D3 D4 D5 D6 D7 D8 M1 M2 M3 m1 m2 m3 X1 X2 X3 X4 X5 X6 X7 X8 e1 e2 e3 e4 e5 e6 e7 e8 O1 O2 O3 O4 O5 O6 g1 g2 g3 g4 g5 g6 g7 g8 y1 y2 y3 y4 y5 y6 y7 y8 s1 s2 s3 s4 s5 s6 s7 s8 hB1 hB2 hB3 hB4 hB5 hB6 hB7 hB8 o1 o2 o3 o4 o5 o6 hc1 hc2 hc3 hc4 hc5 hc6 hT1 hT3 hT5 hL1 hL3 hL5 hn1 hn3 hn5 hF7 hq1 hq3 hq5 hq7
  (repeat ((conv => whnf); first | refine G.seq ?_ | refine G.region cxOk ?_ | refine G.block ?_ | refine G.cond_t rfl ?_ | refine G.cond_f rfl ?_ | refine G.skip ?_ | refine G.exit ?_ | refine G.ret ?_))
  refine RdA.whole br (hlen _) trivial ?_
  (repeat ((conv => whnf); first | refine G.seq ?_ | refine G.region cxOk ?_ | refine G.block ?_ | refine G.cond_t rfl ?_ | refine G.cond_f rfl ?_ | refine G.skip ?_ | refine G.exit ?_ | refine G.ret ?_))
  refine Cl.mk (Names_ret hCr hn) ?_
  rintro _ r4 ⟨o4, x4⟩
  obtain ⟨A4n, c4n, rfl, hc4n, hcl4, _⟩ := o4.form
  obtain ⟨t0, t1⟩ := cat_cells (ar.ext x4 id) h.top.len
  (repeat ((conv => whnf); first | refine G.seq ?_ | refine G.region cxOk ?_ | refine G.block ?_ | refine G.cond_t rfl ?_ | refine G.cond_f rfl ?_ | refine G.skip ?_ | refine G.exit ?_ | refine G.ret ?_ | refine Cmp.dt (by (first | (with_reducible rfl) | omega)) ?_ | refine Cmp.df (by omega) ?_ | (first | (with_reducible refine Ev.mk _ (u32_xor _ _) ?_) | (with_reducible refine Ev.mk _ (u32_and _ _) ?_) | (with_reducible refine Ev.mk _ (u32_or _ _) ?_) | (with_reducible refine Ev.mk _ (u32_add _ _) ?_) | (with_reducible refine Ev.mk _ (u32_not _) ?_) | (with_reducible refine Ev.mk _ (u8_u32 _) ?_) | refine Ix1.mk _ _ _ rfl (by decide) rfl ?_) | (first | (with_reducible refine Ev.mk _ (IntWalk.i64_in _ ?_) ?_; · omega) | (with_reducible refine Ev.mk _ (wrap_u8_nat _) ?_) | (with_reducible refine Ev.mk _ (shr8 _) ?_) | (with_reducible refine Ev.mk _ (Int.toNat_natCast _) ?_) | (with_reducible refine Ev.mk _ (Int.toNat_ofNat _) ?_)) | refine @Ev.keep (List Value) _ _ ?_ | refine Rd.mk _ (by assumption) (by (first | exact trivial | exact fun x => x)) ?_ | refine Nd.mk (by (first | omega | exact ⟨rfl, rfl⟩ | exact ⟨rfl, by decide⟩ | exact ⟨by decide, rfl⟩ | exact ⟨by omega, by omega, by omega, by (simp [ti5]; omega), rfl⟩ | exact ⟨rfl, Nat.le_of_ble_eq_true rfl⟩ | exact rfl | decide)) ?_))
  refine G.loop (α := Nat) (fun i => [(2, .pointer (some ⟨tb, 0, none⟩)), (5, .pointer (some ⟨cb, 0, none⟩)), (22, .slice A4n l.length c4n), (23, .int .i64 (i : Int))])
    (fun i w' => i ≤ l.length ∧ Ext Non r4 w') (fun i => l.length - i) 0 ⟨rfl, rfl, rfl, rfl, trivial⟩ ⟨Nat.zero_le _, Ext.refl _ _⟩ ?_
  rintro i r5 ⟨hi, x5'⟩
  (repeat ((conv => whnf); first | refine G.seq ?_ | refine G.region cxOk ?_ | refine G.block ?_ | refine G.cond_t rfl ?_ | refine G.cond_f rfl ?_ | refine G.skip ?_ | refine G.exit ?_ | refine G.ret ?_ | refine Cmp.dt (by (first | (with_reducible rfl) | omega)) ?_ | refine Cmp.df (by omega) ?_ | (first | (with_reducible refine Ev.mk _ (u32_xor _ _) ?_) | (with_reducible refine Ev.mk _ (u32_and _ _) ?_) | (with_reducible refine Ev.mk _ (u32_or _ _) ?_) | (with_reducible refine Ev.mk _ (u32_add _ _) ?_) | (with_reducible refine Ev.mk _ (u32_not _) ?_) | (with_reducible refine Ev.mk _ (u8_u32 _) ?_) | refine Ix1.mk _ _ _ rfl (by decide) rfl ?_) | (first | (with_reducible refine Ev.mk _ (IntWalk.i64_in _ ?_) ?_; · omega) | (with_reducible refine Ev.mk _ (wrap_u8_nat _) ?_) | (with_reducible refine Ev.mk _ (shr8 _) ?_) | (with_reducible refine Ev.mk _ (Int.toNat_natCast _) ?_) | (with_reducible refine Ev.mk _ (Int.toNat_ofNat _) ?_)) | refine @Ev.keep (List Value) _ _ ?_ | refine Rd.mk _ (by assumption) (by (first | exact trivial | exact fun x => x)) ?_ | refine Nd.mk (by (first | omega | exact ⟨rfl, rfl⟩ | exact ⟨rfl, by decide⟩ | exact ⟨by decide, rfl⟩ | exact ⟨by omega, by omega, by omega, by (simp [ti5]; omega), rfl⟩ | exact ⟨rfl, Nat.le_of_ble_eq_true rfl⟩ | exact rfl | decide)) ?_))
  refine Cmp.ds (fun hlt => ?_) (fun hge => ?_)
  · have hil : i < l.length := by omega
    have xd : Ext Non r5 r5.drew := Ext.drew _ _
    have t1' := (x5'.trans xd).cell t1 id
    obtain ⟨ab, ao, e1', ca⟩ := rows_at (hcr.ext ((x4.trans x5').trans xd)).row h.snaps hil
    have k0 : r5.drew.cell? ⟨ab, ao + i * 34, none⟩ = some (.string l[i].1) := ca 0 (by rw [sv, List.length_cons]; omega)
    obtain ⟨nb, no, e2', cn⟩ := Cells.at_ (hcl4.ext (x5'.trans xd) (fun _ _ x => x)) (i := i) (by rw [nms, List.length_map]; exact hil)
    have k1' : r5.drew.cell? ⟨nb, no + i, none⟩ = some (.string l[i].1) := by rw [cn]; simp [nms]
    subst e1' e2'
    have hni : ¬ (l.length : Int) ≤ (i : Int) := by omega
    (repeat ((conv => whnf); first | refine G.seq ?_ | refine G.region cxOk ?_ | refine G.block ?_ | refine G.cond_t rfl ?_ | refine G.cond_f rfl ?_ | refine G.skip ?_ | refine G.exit ?_ | refine G.ret ?_ | refine Cmp.dt (by (first | (with_reducible rfl) | omega)) ?_ | refine Cmp.df (by omega) ?_ | (first | (with_reducible refine Ev.mk _ (u32_xor _ _) ?_) | (with_reducible refine Ev.mk _ (u32_and _ _) ?_) | (with_reducible refine Ev.mk _ (u32_or _ _) ?_) | (with_reducible refine Ev.mk _ (u32_add _ _) ?_) | (with_reducible refine Ev.mk _ (u32_not _) ?_) | (with_reducible refine Ev.mk _ (u8_u32 _) ?_) | refine Ix1.mk _ _ _ rfl (by decide) rfl ?_) | (first | (with_reducible refine Ev.mk _ (IntWalk.i64_in _ ?_) ?_; · omega) | (with_reducible refine Ev.mk _ (wrap_u8_nat _) ?_) | (with_reducible refine Ev.mk _ (shr8 _) ?_) | (with_reducible refine Ev.mk _ (Int.toNat_natCast _) ?_) | (with_reducible refine Ev.mk _ (Int.toNat_ofNat _) ?_)) | refine @Ev.keep (List Value) _ _ ?_ | refine Rd.mk _ (by assumption) (by (first | exact trivial | exact fun x => x)) ?_ | refine Nd.mk (by (first | omega | exact ⟨rfl, rfl⟩ | exact ⟨rfl, by decide⟩ | exact ⟨by decide, rfl⟩ | exact ⟨by omega, by omega, by omega, by (simp [ti5]; omega), rfl⟩ | exact ⟨rfl, Nat.le_of_ble_eq_true rfl⟩ | exact rfl | decide)) ?_))
    refine G.draw cxOk Non (.tk 0 <| .tk 1 <| .tk 2 <| .tk 3 <| .tk 4 <| .tk 5 <| .tk 6 <| .tk 7 <| .tk 8 <| .tk 9 <| .tk 10 <| .tk 11 <| .tk 12 <| .tk 13 <| .tk 14 <| .tk 15 <| .tk 16 <| .tk 17 <| .done) (by kernel_rfl) ?_
    (repeat ((conv => whnf); first | refine G.seq ?_ | refine G.region cxOk ?_ | refine G.block ?_ | refine G.cond_t rfl ?_ | refine G.cond_f rfl ?_ | refine G.skip ?_ | refine G.exit ?_ | refine G.ret ?_ | refine Cmp.dt (by (first | (with_reducible rfl) | omega)) ?_ | refine Cmp.df (by omega) ?_ | (first | (with_reducible refine Ev.mk _ (u32_xor _ _) ?_) | (with_reducible refine Ev.mk _ (u32_and _ _) ?_) | (with_reducible refine Ev.mk _ (u32_or _ _) ?_) | (with_reducible refine Ev.mk _ (u32_add _ _) ?_) | (with_reducible refine Ev.mk _ (u32_not _) ?_) | (with_reducible refine Ev.mk _ (u8_u32 _) ?_) | refine Ix1.mk _ _ _ rfl (by decide) rfl ?_) | (first | (with_reducible refine Ev.mk _ (IntWalk.i64_in _ ?_) ?_; · omega) | (with_reducible refine Ev.mk _ (wrap_u8_nat _) ?_) | (with_reducible refine Ev.mk _ (shr8 _) ?_) | (with_reducible refine Ev.mk _ (Int.toNat_natCast _) ?_) | (with_reducible refine Ev.mk _ (Int.toNat_ofNat _) ?_)) | refine @Ev.keep (List Value) _ _ ?_ | refine Rd.mk _ (by assumption) (by (first | exact trivial | exact fun x => x)) ?_ | refine Nd.mk (by (first | omega | exact ⟨rfl, rfl⟩ | exact ⟨rfl, by decide⟩ | exact ⟨by decide, rfl⟩ | exact ⟨by omega, by omega, by omega, by (simp [ti5]; omega), rfl⟩ | exact ⟨rfl, Nat.le_of_ble_eq_true rfl⟩ | exact rfl | decide)) ?_))
    (repeat (first | (refine Ix1.mk nb no (no + i) rfl (by omega) (by omega) ?_; (repeat ((conv => whnf); first | refine G.seq ?_ | refine G.region cxOk ?_ | refine G.block ?_ | refine G.cond_t rfl ?_ | refine G.cond_f rfl ?_ | refine G.skip ?_ | refine G.exit ?_ | refine G.ret ?_ | refine Cmp.dt (by (first | (with_reducible rfl) | omega)) ?_ | refine Cmp.df (by omega) ?_ | (first | (with_reducible refine Ev.mk _ (u32_xor _ _) ?_) | (with_reducible refine Ev.mk _ (u32_and _ _) ?_) | (with_reducible refine Ev.mk _ (u32_or _ _) ?_) | (with_reducible refine Ev.mk _ (u32_add _ _) ?_) | (with_reducible refine Ev.mk _ (u32_not _) ?_) | (with_reducible refine Ev.mk _ (u8_u32 _) ?_) | refine Ix1.mk _ _ _ rfl (by decide) rfl ?_) | (first | (with_reducible refine Ev.mk _ (IntWalk.i64_in _ ?_) ?_; · omega) | (with_reducible refine Ev.mk _ (wrap_u8_nat _) ?_) | (with_reducible refine Ev.mk _ (shr8 _) ?_) | (with_reducible refine Ev.mk _ (Int.toNat_natCast _) ?_) | (with_reducible refine Ev.mk _ (Int.toNat_ofNat _) ?_)) | refine @Ev.keep (List Value) _ _ ?_ | refine Rd.mk _ (by assumption) (by (first | exact trivial | exact fun x => x)) ?_ | refine Nd.mk (by (first | omega | exact ⟨rfl, rfl⟩ | exact ⟨rfl, by decide⟩ | exact ⟨by decide, rfl⟩ | exact ⟨by omega, by omega, by omega, by (simp [ti5]; omega), rfl⟩ | exact ⟨rfl, Nat.le_of_ble_eq_true rfl⟩ | exact rfl | decide)) ?_))) | (refine Ix.mk ab ao (ao + i * 34) rfl (by omega) (by show ao + (i : Int).toNat * 34 = _; omega) ?_; (repeat ((conv => whnf); first | refine G.seq ?_ | refine G.region cxOk ?_ | refine G.block ?_ | refine G.cond_t rfl ?_ | refine G.cond_f rfl ?_ | refine G.skip ?_ | refine G.exit ?_ | refine G.ret ?_ | refine Cmp.dt (by (first | (with_reducible rfl) | omega)) ?_ | refine Cmp.df (by omega) ?_ | (first | (with_reducible refine Ev.mk _ (u32_xor _ _) ?_) | (with_reducible refine Ev.mk _ (u32_and _ _) ?_) | (with_reducible refine Ev.mk _ (u32_or _ _) ?_) | (with_reducible refine Ev.mk _ (u32_add _ _) ?_) | (with_reducible refine Ev.mk _ (u32_not _) ?_) | (with_reducible refine Ev.mk _ (u8_u32 _) ?_) | refine Ix1.mk _ _ _ rfl (by decide) rfl ?_) | (first | (with_reducible refine Ev.mk _ (IntWalk.i64_in _ ?_) ?_; · omega) | (with_reducible refine Ev.mk _ (wrap_u8_nat _) ?_) | (with_reducible refine Ev.mk _ (shr8 _) ?_) | (with_reducible refine Ev.mk _ (Int.toNat_natCast _) ?_) | (with_reducible refine Ev.mk _ (Int.toNat_ofNat _) ?_)) | refine @Ev.keep (List Value) _ _ ?_ | refine Rd.mk _ (by assumption) (by (first | exact trivial | exact fun x => x)) ?_ | refine Nd.mk (by (first | omega | exact ⟨rfl, rfl⟩ | exact ⟨rfl, by decide⟩ | exact ⟨by decide, rfl⟩ | exact ⟨by omega, by omega, by omega, by (simp [ti5]; omega), rfl⟩ | exact ⟨rfl, Nat.le_of_ble_eq_true rfl⟩ | exact rfl | decide)) ?_)))))
    (try refine Cmp.df (fun h => h rfl) ?_)
    (repeat ((conv => whnf); first | refine G.seq ?_ | refine G.region cxOk ?_ | refine G.block ?_ | refine G.cond_t rfl ?_ | refine G.cond_f rfl ?_ | refine G.skip ?_ | refine G.exit ?_ | refine G.ret ?_ | refine Cmp.dt (by (first | (with_reducible rfl) | omega)) ?_ | refine Cmp.df (by omega) ?_ | (first | (with_reducible refine Ev.mk _ (u32_xor _ _) ?_) | (with_reducible refine Ev.mk _ (u32_and _ _) ?_) | (with_reducible refine Ev.mk _ (u32_or _ _) ?_) | (with_reducible refine Ev.mk _ (u32_add _ _) ?_) | (with_reducible refine Ev.mk _ (u32_not _) ?_) | (with_reducible refine Ev.mk _ (u8_u32 _) ?_) | refine Ix1.mk _ _ _ rfl (by decide) rfl ?_) | (first | (with_reducible refine Ev.mk _ (IntWalk.i64_in _ ?_) ?_; · omega) | (with_reducible refine Ev.mk _ (wrap_u8_nat _) ?_) | (with_reducible refine Ev.mk _ (shr8 _) ?_) | (with_reducible refine Ev.mk _ (Int.toNat_natCast _) ?_) | (with_reducible refine Ev.mk _ (Int.toNat_ofNat _) ?_)) | refine @Ev.keep (List Value) _ _ ?_ | refine Rd.mk _ (by assumption) (by (first | exact trivial | exact fun x => x)) ?_ | refine Nd.mk (by (first | omega | exact ⟨rfl, rfl⟩ | exact ⟨rfl, by decide⟩ | exact ⟨by decide, rfl⟩ | exact ⟨by omega, by omega, by omega, by (simp [ti5]; omega), rfl⟩ | exact ⟨rfl, Nat.le_of_ble_eq_true rfl⟩ | exact rfl | decide)) ?_))
    exact ⟨i + 1, ⟨rfl, rfl, rfl, rfl, trivial⟩, ⟨by omega, x5'.trans xd⟩, by omega⟩
  · obtain rfl : i = l.length := by omega
    have Y5 := (Y3.trans x4).trans x5'
    have t1' := x5'.cell t1 id
    (repeat ((conv => whnf); first | refine G.seq ?_ | refine G.region cxOk ?_ | refine G.block ?_ | refine G.cond_t rfl ?_ | refine G.cond_f rfl ?_ | refine G.skip ?_ | refine G.exit ?_ | refine G.ret ?_ | refine Cmp.dt (by (first | (with_reducible rfl) | omega)) ?_ | refine Cmp.df (by omega) ?_ | (first | (with_reducible refine Ev.mk _ (u32_xor _ _) ?_) | (with_reducible refine Ev.mk _ (u32_and _ _) ?_) | (with_reducible refine Ev.mk _ (u32_or _ _) ?_) | (with_reducible refine Ev.mk _ (u32_add _ _) ?_) | (with_reducible refine Ev.mk _ (u32_not _) ?_) | (with_reducible refine Ev.mk _ (u8_u32 _) ?_) | refine Ix1.mk _ _ _ rfl (by decide) rfl ?_) | (first | (with_reducible refine Ev.mk _ (IntWalk.i64_in _ ?_) ?_; · omega) | (with_reducible refine Ev.mk _ (wrap_u8_nat _) ?_) | (with_reducible refine Ev.mk _ (shr8 _) ?_) | (with_reducible refine Ev.mk _ (Int.toNat_natCast _) ?_) | (with_reducible refine Ev.mk _ (Int.toNat_ofNat _) ?_)) | refine @Ev.keep (List Value) _ _ ?_ | refine Rd.mk _ (by assumption) (by (first | exact trivial | exact fun x => x)) ?_ | refine Nd.mk (by (first | omega | exact ⟨rfl, rfl⟩ | exact ⟨rfl, by decide⟩ | exact ⟨by decide, rfl⟩ | exact ⟨by omega, by omega, by omega, by (simp [ti5]; omega), rfl⟩ | exact ⟨rfl, Nat.le_of_ble_eq_true rfl⟩ | exact rfl | decide)) ?_))
    (try refine Cmp.dt rfl ?_)
    (repeat ((conv => whnf); first | refine G.seq ?_ | refine G.region cxOk ?_ | refine G.block ?_ | refine G.cond_t rfl ?_ | refine G.cond_f rfl ?_ | refine G.skip ?_ | refine G.exit ?_ | refine G.ret ?_ | refine Cmp.dt (by (first | (with_reducible rfl) | omega)) ?_ | refine Cmp.df (by omega) ?_ | (first | (with_reducible refine Ev.mk _ (u32_xor _ _) ?_) | (with_reducible refine Ev.mk _ (u32_and _ _) ?_) | (with_reducible refine Ev.mk _ (u32_or _ _) ?_) | (with_reducible refine Ev.mk _ (u32_add _ _) ?_) | (with_reducible refine Ev.mk _ (u32_not _) ?_) | (with_reducible refine Ev.mk _ (u8_u32 _) ?_) | refine Ix1.mk _ _ _ rfl (by decide) rfl ?_) | (first | (with_reducible refine Ev.mk _ (IntWalk.i64_in _ ?_) ?_; · omega) | (with_reducible refine Ev.mk _ (wrap_u8_nat _) ?_) | (with_reducible refine Ev.mk _ (shr8 _) ?_) | (with_reducible refine Ev.mk _ (Int.toNat_natCast _) ?_) | (with_reducible refine Ev.mk _ (Int.toNat_ofNat _) ?_)) | refine @Ev.keep (List Value) _ _ ?_ | refine Rd.mk _ (by assumption) (by (first | exact trivial | exact fun x => x)) ?_ | refine Nd.mk (by (first | omega | exact ⟨rfl, rfl⟩ | exact ⟨rfl, by decide⟩ | exact ⟨by decide, rfl⟩ | exact ⟨by omega, by omega, by omega, by (simp [ti5]; omega), rfl⟩ | exact ⟨rfl, Nat.le_of_ble_eq_true rfl⟩ | exact rfl | decide)) ?_))
    refine RdA.whole (b5.ext Y5 id) (hlen _) trivial ?_
    (repeat ((conv => whnf); first | refine G.seq ?_ | refine G.region cxOk ?_ | refine G.block ?_ | refine G.cond_t rfl ?_ | refine G.cond_f rfl ?_ | refine G.skip ?_ | refine G.exit ?_ | refine G.ret ?_ | refine Cmp.dt (by (first | (with_reducible rfl) | omega)) ?_ | refine Cmp.df (by omega) ?_ | (first | (with_reducible refine Ev.mk _ (u32_xor _ _) ?_) | (with_reducible refine Ev.mk _ (u32_and _ _) ?_) | (with_reducible refine Ev.mk _ (u32_or _ _) ?_) | (with_reducible refine Ev.mk _ (u32_add _ _) ?_) | (with_reducible refine Ev.mk _ (u32_not _) ?_) | (with_reducible refine Ev.mk _ (u8_u32 _) ?_) | refine Ix1.mk _ _ _ rfl (by decide) rfl ?_) | (first | (with_reducible refine Ev.mk _ (IntWalk.i64_in _ ?_) ?_; · omega) | (with_reducible refine Ev.mk _ (wrap_u8_nat _) ?_) | (with_reducible refine Ev.mk _ (shr8 _) ?_) | (with_reducible refine Ev.mk _ (Int.toNat_natCast _) ?_) | (with_reducible refine Ev.mk _ (Int.toNat_ofNat _) ?_)) | refine @Ev.keep (List Value) _ _ ?_ | refine Rd.mk _ (by assumption) (by (first | exact trivial | exact fun x => x)) ?_ | refine Nd.mk (by (first | omega | exact ⟨rfl, rfl⟩ | exact ⟨rfl, by decide⟩ | exact ⟨by decide, rfl⟩ | exact ⟨by omega, by omega, by omega, by (simp [ti5]; omega), rfl⟩ | exact ⟨rfl, Nat.le_of_ble_eq_true rfl⟩ | exact rfl | decide)) ?_))
    refine RdA.whole (a5.ext Y5 id) (hlen _) trivial ?_
    (repeat ((conv => whnf); first | refine G.seq ?_ | refine G.region cxOk ?_ | refine G.block ?_ | refine G.cond_t rfl ?_ | refine G.cond_f rfl ?_ | refine G.skip ?_ | refine G.exit ?_ | refine G.ret ?_ | refine Cmp.dt (by (first | (with_reducible rfl) | omega)) ?_ | refine Cmp.df (by omega) ?_ | (first | (with_reducible refine Ev.mk _ (u32_xor _ _) ?_) | (with_reducible refine Ev.mk _ (u32_and _ _) ?_) | (with_reducible refine Ev.mk _ (u32_or _ _) ?_) | (with_reducible refine Ev.mk _ (u32_add _ _) ?_) | (with_reducible refine Ev.mk _ (u32_not _) ?_) | (with_reducible refine Ev.mk _ (u8_u32 _) ?_) | refine Ix1.mk _ _ _ rfl (by decide) rfl ?_) | (first | (with_reducible refine Ev.mk _ (IntWalk.i64_in _ ?_) ?_; · omega) | (with_reducible refine Ev.mk _ (wrap_u8_nat _) ?_) | (with_reducible refine Ev.mk _ (shr8 _) ?_) | (with_reducible refine Ev.mk _ (Int.toNat_natCast _) ?_) | (with_reducible refine Ev.mk _ (Int.toNat_ofNat _) ?_)) | refine @Ev.keep (List Value) _ _ ?_ | refine Rd.mk _ (by assumption) (by (first | exact trivial | exact fun x => x)) ?_ | refine Nd.mk (by (first | omega | exact ⟨rfl, rfl⟩ | exact ⟨rfl, by decide⟩ | exact ⟨by decide, rfl⟩ | exact ⟨by omega, by omega, by omega, by (simp [ti5]; omega), rfl⟩ | exact ⟨rfl, Nat.le_of_ble_eq_true rfl⟩ | exact rfl | decide)) ?_))
    refine Cl.mk (refSame_ret (hC5.ext Y5) (h5.ext Y5) hn hn) ?_
    rintro _ r6 ⟨rfl, x6'⟩
    rw [decide_eq_true (⟨rfl, rfl⟩ : t = t ∧ l = l)]
    (repeat ((conv => whnf); first | refine G.seq ?_ | refine G.region cxOk ?_ | refine G.block ?_ | refine G.cond_t rfl ?_ | refine G.cond_f rfl ?_ | refine G.skip ?_ | refine G.exit ?_ | refine G.ret ?_ | refine Cmp.dt (by (first | (with_reducible rfl) | omega)) ?_ | refine Cmp.df (by omega) ?_ | (first | (with_reducible refine Ev.mk _ (u32_xor _ _) ?_) | (with_reducible refine Ev.mk _ (u32_and _ _) ?_) | (with_reducible refine Ev.mk _ (u32_or _ _) ?_) | (with_reducible refine Ev.mk _ (u32_add _ _) ?_) | (with_reducible refine Ev.mk _ (u32_not _) ?_) | (with_reducible refine Ev.mk _ (u8_u32 _) ?_) | refine Ix1.mk _ _ _ rfl (by decide) rfl ?_) | (first | (with_reducible refine Ev.mk _ (IntWalk.i64_in _ ?_) ?_; · omega) | (with_reducible refine Ev.mk _ (wrap_u8_nat _) ?_) | (with_reducible refine Ev.mk _ (shr8 _) ?_) | (with_reducible refine Ev.mk _ (Int.toNat_natCast _) ?_) | (with_reducible refine Ev.mk _ (Int.toNat_ofNat _) ?_)) | refine @Ev.keep (List Value) _ _ ?_ | refine Rd.mk _ (by assumption) (by (first | exact trivial | exact fun x => x)) ?_ | refine Nd.mk (by (first | omega | exact ⟨rfl, rfl⟩ | exact ⟨rfl, by decide⟩ | exact ⟨by decide, rfl⟩ | exact ⟨by omega, by omega, by omega, by (simp [ti5]; omega), rfl⟩ | exact ⟨rfl, Nat.le_of_ble_eq_true rfl⟩ | exact rfl | decide)) ?_))
    refine Cl.mk (awake18_ret _) ?_
    rintro _ r7 ⟨rfl, x7'⟩
    (repeat ((conv => whnf); first | refine G.seq ?_ | refine G.region cxOk ?_ | refine G.block ?_ | refine G.cond_t rfl ?_ | refine G.cond_f rfl ?_ | refine G.skip ?_ | refine G.exit ?_ | refine G.ret ?_ | refine Cmp.dt (by (first | (with_reducible rfl) | omega)) ?_ | refine Cmp.df (by omega) ?_ | (first | (with_reducible refine Ev.mk _ (u32_xor _ _) ?_) | (with_reducible refine Ev.mk _ (u32_and _ _) ?_) | (with_reducible refine Ev.mk _ (u32_or _ _) ?_) | (with_reducible refine Ev.mk _ (u32_add _ _) ?_) | (with_reducible refine Ev.mk _ (u32_not _) ?_) | (with_reducible refine Ev.mk _ (u8_u32 _) ?_) | refine Ix1.mk _ _ _ rfl (by decide) rfl ?_) | (first | (with_reducible refine Ev.mk _ (IntWalk.i64_in _ ?_) ?_; · omega) | (with_reducible refine Ev.mk _ (wrap_u8_nat _) ?_) | (with_reducible refine Ev.mk _ (shr8 _) ?_) | (with_reducible refine Ev.mk _ (Int.toNat_natCast _) ?_) | (with_reducible refine Ev.mk _ (Int.toNat_ofNat _) ?_)) | refine @Ev.keep (List Value) _ _ ?_ | refine Rd.mk _ (by assumption) (by (first | exact trivial | exact fun x => x)) ?_ | refine Nd.mk (by (first | omega | exact ⟨rfl, rfl⟩ | exact ⟨rfl, by decide⟩ | exact ⟨by decide, rfl⟩ | exact ⟨by omega, by omega, by omega, by (simp [ti5]; omega), rfl⟩ | exact ⟨rfl, Nat.le_of_ble_eq_true rfl⟩ | exact rfl | decide)) ?_))
    exact Don.mk ⟨rfl, ((z5.trans Y5).trans x6').trans x7'⟩
end Go.Proofs.Ytodpaehciegmiaa

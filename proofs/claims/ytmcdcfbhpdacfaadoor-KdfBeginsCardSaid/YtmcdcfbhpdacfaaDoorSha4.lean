import Derived.Test.YtmcdcfbhpdacfaaDoorShaH

/-
  SHA-256: the program's Hash: new, written to.
-/

namespace Go.Proofs.YtmcdcfbhpdacfaaDoor

open Go Sx

set_option linter.unusedVariables false

set_option linter.unusedSimpArgs false

theorem stateOf_nil : stateOf [] = s8 := rfl

theorem New_ret (S : Nat → Prop) (w : World) (hS : ∀ k, S k → k < w.heap.size) : Ret cx.P 22 #[] w fun v w' => ∃ hb, v = ptr hb ∧ w.heap.size ≤ hb ∧ HashAt S w' hb [] ∧ Ext Non w w' := by
  refine Ret.e0 (C := cx) (n := 4) cxOk Tryd.func22 rfl rfl ?_
  (repeat ((conv => whnf); first | refine G.seq ?_ | refine G.region cxOk ?_ | refine G.block ?_ | refine G.cond_t rfl ?_ | refine G.cond_f rfl ?_ | refine G.skip ?_ | refine G.exit ?_ | refine G.ret ?_ | refine Cmp.dt (by (first | (with_reducible rfl) | omega)) ?_ | refine Cmp.df (by omega) ?_ | (first | (with_reducible refine Ev.mk _ (u32_xor _ _) ?_) | (with_reducible refine Ev.mk _ (u32_and _ _) ?_) | (with_reducible refine Ev.mk _ (u32_or _ _) ?_) | (with_reducible refine Ev.mk _ (u32_add _ _) ?_) | (with_reducible refine Ev.mk _ (u32_not _) ?_) | (with_reducible refine Ev.mk _ (u8_u32 _) ?_) | refine Ix1.mk _ _ _ rfl (by decide) rfl ?_) | (first | (with_reducible refine Ev.mk _ (IntWalk.i64_in _ ?_) ?_; · omega) | (with_reducible refine Ev.mk _ (wrap_u8_nat _) ?_) | (with_reducible refine Ev.mk _ (shr8 _) ?_) | (with_reducible refine Ev.mk _ (Int.toNat_natCast _) ?_) | (with_reducible refine Ev.mk _ (Int.toNat_ofNat _) ?_)) | refine @Ev.keep (List Value) _ _ ?_ | refine Rd.mk _ (by assumption) (by (first | exact trivial | exact fun x => x)) ?_ | refine Nd.mk (by (first | omega | exact ⟨rfl, rfl⟩ | exact ⟨rfl, by decide⟩ | exact ⟨by decide, rfl⟩ | exact ⟨by omega, by omega, by omega, by (simp [ti5]; omega), rfl⟩ | exact ⟨rfl, Nat.le_of_ble_eq_true rfl⟩ | exact rfl | decide)) ?_))
  refine Cl.mk (first_ret w) ?_
  rintro v w1 ⟨rfl, x1⟩
  (repeat ((conv => whnf); first | refine G.seq ?_ | refine G.region cxOk ?_ | refine G.block ?_ | refine G.cond_t rfl ?_ | refine G.cond_f rfl ?_ | refine G.skip ?_ | refine G.exit ?_ | refine G.ret ?_ | refine Cmp.dt (by (first | (with_reducible rfl) | omega)) ?_ | refine Cmp.df (by omega) ?_ | (first | (with_reducible refine Ev.mk _ (u32_xor _ _) ?_) | (with_reducible refine Ev.mk _ (u32_and _ _) ?_) | (with_reducible refine Ev.mk _ (u32_or _ _) ?_) | (with_reducible refine Ev.mk _ (u32_add _ _) ?_) | (with_reducible refine Ev.mk _ (u32_not _) ?_) | (with_reducible refine Ev.mk _ (u8_u32 _) ?_) | refine Ix1.mk _ _ _ rfl (by decide) rfl ?_) | (first | (with_reducible refine Ev.mk _ (IntWalk.i64_in _ ?_) ?_; · omega) | (with_reducible refine Ev.mk _ (wrap_u8_nat _) ?_) | (with_reducible refine Ev.mk _ (shr8 _) ?_) | (with_reducible refine Ev.mk _ (Int.toNat_natCast _) ?_) | (with_reducible refine Ev.mk _ (Int.toNat_ofNat _) ?_)) | refine @Ev.keep (List Value) _ _ ?_ | refine Rd.mk _ (by assumption) (by (first | exact trivial | exact fun x => x)) ?_ | refine Nd.mk (by (first | omega | exact ⟨rfl, rfl⟩ | exact ⟨rfl, by decide⟩ | exact ⟨by decide, rfl⟩ | exact ⟨by omega, by omega, by omega, by (simp [ti5]; omega), rfl⟩ | exact ⟨rfl, Nat.le_of_ble_eq_true rfl⟩ | exact rfl | decide)) ?_))
  refine Al.mk fun hb w2 hN => ?_
  (repeat ((conv => whnf); first | refine G.seq ?_ | refine G.region cxOk ?_ | refine G.block ?_ | refine G.cond_t rfl ?_ | refine G.cond_f rfl ?_ | refine G.skip ?_ | refine G.exit ?_ | refine G.ret ?_ | refine Cmp.dt (by (first | (with_reducible rfl) | omega)) ?_ | refine Cmp.df (by omega) ?_ | (first | (with_reducible refine Ev.mk _ (u32_xor _ _) ?_) | (with_reducible refine Ev.mk _ (u32_and _ _) ?_) | (with_reducible refine Ev.mk _ (u32_or _ _) ?_) | (with_reducible refine Ev.mk _ (u32_add _ _) ?_) | (with_reducible refine Ev.mk _ (u32_not _) ?_) | (with_reducible refine Ev.mk _ (u8_u32 _) ?_) | refine Ix1.mk _ _ _ rfl (by decide) rfl ?_) | (first | (with_reducible refine Ev.mk _ (IntWalk.i64_in _ ?_) ?_; · omega) | (with_reducible refine Ev.mk _ (wrap_u8_nat _) ?_) | (with_reducible refine Ev.mk _ (shr8 _) ?_) | (with_reducible refine Ev.mk _ (Int.toNat_natCast _) ?_) | (with_reducible refine Ev.mk _ (Int.toNat_ofNat _) ?_)) | refine @Ev.keep (List Value) _ _ ?_ | refine Rd.mk _ (by assumption) (by (first | exact trivial | exact fun x => x)) ?_ | refine Nd.mk (by (first | omega | exact ⟨rfl, rfl⟩ | exact ⟨rfl, by decide⟩ | exact ⟨by decide, rfl⟩ | exact ⟨by omega, by omega, by omega, by (simp [ti5]; omega), rfl⟩ | exact ⟨rfl, Nat.le_of_ble_eq_true rfl⟩ | exact rfl | decide)) ?_))
  refine Don.mk ⟨hb, rfl, Nat.le_trans x1.size hN.ge, ⟨none, 0, hN.at_, .inl rfl, Nat.le_refl _, fun k hk => inBlk_none hk, fun h => ?_⟩, x1.trans hN.ext⟩
  have := hS _ h
  have := x1.size
  have := hN.ge
  omega

set_option maxHeartbeats 800000 in
theorem WriteG_ret {S : Nat → Prop} {w : World} {hb c : Nat} {l b : List UInt8} {A : Option Addr} (h : HashAt S w hb l) (hS : ∀ k, S k → k < w.heap.size) (hg : S 0) (hR : Roots w) (hcl : Cells w A (bv b)) (hc : b.length ≤ c)
    (hA : b ≠ [] → ∀ k, inBlk A k → k ≠ hb) (hl : l.length + b.length ≤ 1152921504606846976) (hlb : b.length ≤ 140737488354000) :
    Ret cx.P 23 #[ptr hb, .slice A b.length c] w fun v w' => v = .int .i64 0 ∧ HashAt S w' hb (l ++ b) ∧ Ext (· = hb) w w' := by
  obtain ⟨A0, c0, hat, hcl0, hc0, hA0, hnS⟩ := h
  have hgb : hb ≠ 0 := fun e => hnS (e ▸ hg)
  have hr64 := restOf_length l
  have hst := state_append l b
  obtain ⟨sF, hsF⟩ : ∃ sF, sF = stateOf (l ++ b) := ⟨_, rfl⟩
  obtain ⟨rF, hrF⟩ : ∃ rF, rF = restOf (l ++ b) := ⟨_, rfl⟩
  rw [← hsF, ← hrF] at hst
  generalize stateOf l = S0 at hat hst
  generalize restOf l = R0 at hat hcl0 hc0 hr64 hst
  have g9 : w.cell? ⟨hb, 9, none⟩ = some (.int .i64 (l.length : Int)) := hat.cell rfl
  refine Ret.e2 (C := cx) (n := 38) cxOk Tryd.func23 rfl rfl rfl ?_
  (repeat ((conv => whnf); first | refine G.seq ?_ | refine G.region cxOk ?_ | refine G.block ?_ | refine G.cond_t rfl ?_ | refine G.cond_f rfl ?_ | refine G.skip ?_ | refine G.exit ?_ | refine G.ret ?_ | refine Cmp.dt (by (first | (with_reducible rfl) | omega)) ?_ | refine Cmp.df (by omega) ?_ | (first | (with_reducible refine Ev.mk _ (u32_xor _ _) ?_) | (with_reducible refine Ev.mk _ (u32_and _ _) ?_) | (with_reducible refine Ev.mk _ (u32_or _ _) ?_) | (with_reducible refine Ev.mk _ (u32_add _ _) ?_) | (with_reducible refine Ev.mk _ (u32_not _) ?_) | (with_reducible refine Ev.mk _ (u8_u32 _) ?_) | refine Ix1.mk _ _ _ rfl (by decide) rfl ?_) | (first | (with_reducible refine Ev.mk _ (IntWalk.i64_in _ ?_) ?_; · omega) | (with_reducible refine Ev.mk _ (wrap_u8_nat _) ?_) | (with_reducible refine Ev.mk _ (shr8 _) ?_) | (with_reducible refine Ev.mk _ (Int.toNat_natCast _) ?_) | (with_reducible refine Ev.mk _ (Int.toNat_ofNat _) ?_)) | refine @Ev.keep (List Value) _ _ ?_ | refine Rd.mk _ (by assumption) (by (first | exact trivial | exact fun x => x)) ?_ | refine Nd.mk (by (first | omega | exact ⟨rfl, rfl⟩ | exact ⟨rfl, by decide⟩ | exact ⟨by decide, rfl⟩ | exact ⟨by omega, by omega, by omega, by (simp [ti5]; omega), rfl⟩ | exact ⟨rfl, Nat.le_of_ble_eq_true rfl⟩ | exact rfl | decide)) ?_))
  refine St1.mk hat (by simp [wvs_length, S8.l_length]) (by simp) trivial fun w1 h1 x1 => ?_
  have e1 : (wvs S0.l ++ [Value.slice A0 R0.length c0, .int .i64 (l.length : Int)]).set 9 (.int .i64 ((l.length : Int) + (b.length : Int))) = wvs S0.l ++ [.slice A0 R0.length c0, .int .i64 ((l.length : Int) + (b.length : Int))] := rfl
  have h1' : At w1 hb (wvs S0.l ++ [.slice A0 R0.length c0, .int .i64 ((l.length : Int) + (b.length : Int))]) 66 (0, 0) := h1
  have g8 : w1.cell? ⟨hb, 8, none⟩ = some (.slice A0 R0.length c0) := h1'.cell rfl
  (repeat ((conv => whnf); first | refine G.seq ?_ | refine G.region cxOk ?_ | refine G.block ?_ | refine G.cond_t rfl ?_ | refine G.cond_f rfl ?_ | refine G.skip ?_ | refine G.exit ?_ | refine G.ret ?_ | refine Cmp.dt (by (first | (with_reducible rfl) | omega)) ?_ | refine Cmp.df (by omega) ?_ | (first | (with_reducible refine Ev.mk _ (u32_xor _ _) ?_) | (with_reducible refine Ev.mk _ (u32_and _ _) ?_) | (with_reducible refine Ev.mk _ (u32_or _ _) ?_) | (with_reducible refine Ev.mk _ (u32_add _ _) ?_) | (with_reducible refine Ev.mk _ (u32_not _) ?_) | (with_reducible refine Ev.mk _ (u8_u32 _) ?_) | refine Ix1.mk _ _ _ rfl (by decide) rfl ?_) | (first | (with_reducible refine Ev.mk _ (IntWalk.i64_in _ ?_) ?_; · omega) | (with_reducible refine Ev.mk _ (wrap_u8_nat _) ?_) | (with_reducible refine Ev.mk _ (shr8 _) ?_) | (with_reducible refine Ev.mk _ (Int.toNat_natCast _) ?_) | (with_reducible refine Ev.mk _ (Int.toNat_ofNat _) ?_)) | refine @Ev.keep (List Value) _ _ ?_ | refine Rd.mk _ (by assumption) (by (first | exact trivial | exact fun x => x)) ?_ | refine Nd.mk (by (first | omega | exact ⟨rfl, rfl⟩ | exact ⟨rfl, by decide⟩ | exact ⟨by decide, rfl⟩ | exact ⟨by omega, by omega, by omega, by (simp [ti5]; omega), rfl⟩ | exact ⟨rfl, Nat.le_of_ble_eq_true rfl⟩ | exact rfl | decide)) ?_))
  refine Al.mk fun pb w2 hN2 => ?_
  have x12 := hN2.ext
  have hps : Parts w2 (some ⟨pb, 0, none⟩) [(A0, c0, R0), (A, c, b)] := by
    refine ⟨Cells.whole hN2.at_, fun k hk => ?_, fun p hp => ?_⟩
    · obtain rfl := inBlk_some hk
      exact hN2.at_.lt
    · simp only [List.mem_cons, List.not_mem_nil, or_false] at hp
      rcases hp with rfl | rfl
      · exact ⟨(hcl0.ext x1 (fun k hk => (hA0 k hk).1)).ext x12 (fun _ _ x => x), hc0⟩
      · exact ⟨(hcl.ext' x1 (fun hne => hA (bv_nil hne))).ext x12 (fun _ _ x => x), hc⟩
  have hj : joinP [(A0, c0, R0), (A, c, b)] = R0 ++ b := by simp [joinP]
  (repeat ((conv => whnf); first | refine G.seq ?_ | refine G.region cxOk ?_ | refine G.block ?_ | refine G.cond_t rfl ?_ | refine G.cond_f rfl ?_ | refine G.skip ?_ | refine G.exit ?_ | refine G.ret ?_ | refine Cmp.dt (by (first | (with_reducible rfl) | omega)) ?_ | refine Cmp.df (by omega) ?_ | (first | (with_reducible refine Ev.mk _ (u32_xor _ _) ?_) | (with_reducible refine Ev.mk _ (u32_and _ _) ?_) | (with_reducible refine Ev.mk _ (u32_or _ _) ?_) | (with_reducible refine Ev.mk _ (u32_add _ _) ?_) | (with_reducible refine Ev.mk _ (u32_not _) ?_) | (with_reducible refine Ev.mk _ (u8_u32 _) ?_) | refine Ix1.mk _ _ _ rfl (by decide) rfl ?_) | (first | (with_reducible refine Ev.mk _ (IntWalk.i64_in _ ?_) ?_; · omega) | (with_reducible refine Ev.mk _ (wrap_u8_nat _) ?_) | (with_reducible refine Ev.mk _ (shr8 _) ?_) | (with_reducible refine Ev.mk _ (Int.toNat_natCast _) ?_) | (with_reducible refine Ev.mk _ (Int.toNat_ofNat _) ?_)) | refine @Ev.keep (List Value) _ _ ?_ | refine Rd.mk _ (by assumption) (by (first | exact trivial | exact fun x => x)) ?_ | refine Nd.mk (by (first | omega | exact ⟨rfl, rfl⟩ | exact ⟨rfl, by decide⟩ | exact ⟨by decide, rfl⟩ | exact ⟨by omega, by omega, by omega, by (simp [ti5]; omega), rfl⟩ | exact ⟨rfl, Nat.le_of_ble_eq_true rfl⟩ | exact rfl | decide)) ?_))
  have t1 : (joinP [(A0, c0, R0), (A, c, b)]).length ≤ 140737488355328 := by rw [hj, List.length_append]; omega
  have t2 : [(A0, c0, R0), (A, c, b)].length ≤ 140737488355328 := by show 2 ≤ 140737488355328; omega
  have t3 := Concat_ret (c := 2) hps t1 t2
  rw [hj] at t3
  refine Cl.mk t3 ?_
  clear t3 t1 t2
  rintro v w3 ⟨o3, x3⟩
  obtain ⟨A3, c3, rfl, hc3, hcl3, hb3⟩ := OB.form o3
  have x13 : Ext Non w1 w3 := x12.trans x3
  have x03 : Ext (· = hb) w w3 := x1.trans (x13.mono fun _ x => x.elim)
  (repeat ((conv => whnf); first | refine G.seq ?_ | refine G.region cxOk ?_ | refine G.block ?_ | refine G.cond_t rfl ?_ | refine G.cond_f rfl ?_ | refine G.skip ?_ | refine G.exit ?_ | refine G.ret ?_ | refine Cmp.dt (by (first | (with_reducible rfl) | omega)) ?_ | refine Cmp.df (by omega) ?_ | (first | (with_reducible refine Ev.mk _ (u32_xor _ _) ?_) | (with_reducible refine Ev.mk _ (u32_and _ _) ?_) | (with_reducible refine Ev.mk _ (u32_or _ _) ?_) | (with_reducible refine Ev.mk _ (u32_add _ _) ?_) | (with_reducible refine Ev.mk _ (u32_not _) ?_) | (with_reducible refine Ev.mk _ (u8_u32 _) ?_) | refine Ix1.mk _ _ _ rfl (by decide) rfl ?_) | (first | (with_reducible refine Ev.mk _ (IntWalk.i64_in _ ?_) ?_; · omega) | (with_reducible refine Ev.mk _ (wrap_u8_nat _) ?_) | (with_reducible refine Ev.mk _ (shr8 _) ?_) | (with_reducible refine Ev.mk _ (Int.toNat_natCast _) ?_) | (with_reducible refine Ev.mk _ (Int.toNat_ofNat _) ?_)) | refine @Ev.keep (List Value) _ _ ?_ | refine Rd.mk _ (by assumption) (by (first | exact trivial | exact fun x => x)) ?_ | refine Nd.mk (by (first | omega | exact ⟨rfl, rfl⟩ | exact ⟨rfl, by decide⟩ | exact ⟨by decide, rfl⟩ | exact ⟨by omega, by omega, by omega, by (simp [ti5]; omega), rfl⟩ | exact ⟨rfl, Nat.le_of_ble_eq_true rfl⟩ | exact rfl | decide)) ?_))
  refine G.loop (α := S8 × Option Addr × Nat × List UInt8) (fun q => [(0, ptr hb), (1, .slice q.2.1 q.2.2.2.length q.2.2.1)])
    (fun q w' => At w' hb (wvs q.1.l ++ [.slice A0 R0.length c0, .int .i64 ((l.length : Int) + (b.length : Int))]) 66 (0, 0) ∧ Cells w' q.2.1 (bv q.2.2.2) ∧ q.2.2.2.length ≤ q.2.2.1 ∧ (∀ k, inBlk q.2.1 k → w.heap.size ≤ k ∧ k < w'.heap.size) ∧
      absorb (q.2.2.2.length / 64) q.1 q.2.2.2 = sF ∧ q.2.2.2.drop (64 * (q.2.2.2.length / 64)) = rF ∧ Ext (· = hb) w w') (fun q => q.2.2.2.length) (S0, A3, c3, R0 ++ b) ⟨rfl, rfl, trivial⟩
    ⟨h1'.ext x13 (fun x => x), hcl3, hc3, fun k hk => ⟨Nat.le_trans (x1.trans (x12.mono fun _ x => x.elim)).size (hb3 k hk), OS.lt o3 (blkOf_of hk)⟩, hst.1.symm, hst.2.symm, x03⟩ ?_
  rintro ⟨s, A4, c4, m⟩ w4 ⟨h4, hcl4, hc4, hA4, ha, hd, hx4⟩
  dsimp only at h4 hcl4 hc4 hA4 ha hd hx4 ⊢
  have hbl : hb < w.heap.size := hat.lt
  (repeat ((conv => whnf); first | refine G.seq ?_ | refine G.region cxOk ?_ | refine G.block ?_ | refine G.cond_t rfl ?_ | refine G.cond_f rfl ?_ | refine G.skip ?_ | refine G.exit ?_ | refine G.ret ?_ | refine Cmp.dt (by (first | (with_reducible rfl) | omega)) ?_ | refine Cmp.df (by omega) ?_ | (first | (with_reducible refine Ev.mk _ (u32_xor _ _) ?_) | (with_reducible refine Ev.mk _ (u32_and _ _) ?_) | (with_reducible refine Ev.mk _ (u32_or _ _) ?_) | (with_reducible refine Ev.mk _ (u32_add _ _) ?_) | (with_reducible refine Ev.mk _ (u32_not _) ?_) | (with_reducible refine Ev.mk _ (u8_u32 _) ?_) | refine Ix1.mk _ _ _ rfl (by decide) rfl ?_) | (first | (with_reducible refine Ev.mk _ (IntWalk.i64_in _ ?_) ?_; · omega) | (with_reducible refine Ev.mk _ (wrap_u8_nat _) ?_) | (with_reducible refine Ev.mk _ (shr8 _) ?_) | (with_reducible refine Ev.mk _ (Int.toNat_natCast _) ?_) | (with_reducible refine Ev.mk _ (Int.toNat_ofNat _) ?_)) | refine @Ev.keep (List Value) _ _ ?_ | refine Rd.mk _ (by assumption) (by (first | exact trivial | exact fun x => x)) ?_ | refine Nd.mk (by (first | omega | exact ⟨rfl, rfl⟩ | exact ⟨rfl, by decide⟩ | exact ⟨by decide, rfl⟩ | exact ⟨by omega, by omega, by omega, by (simp [ti5]; omega), rfl⟩ | exact ⟨rfl, Nat.le_of_ble_eq_true rfl⟩ | exact rfl | decide)) ?_))
  refine Cmp.ds (fun hge => ?_) (fun hlt => ?_)
  · have e64 : (m.take 64).length = 64 := by rw [List.length_take]; omega
    (repeat ((conv => whnf); first | refine G.seq ?_ | refine G.region cxOk ?_ | refine G.block ?_ | refine G.cond_t rfl ?_ | refine G.cond_f rfl ?_ | refine G.skip ?_ | refine G.exit ?_ | refine G.ret ?_ | refine Cmp.dt (by (first | (with_reducible rfl) | omega)) ?_ | refine Cmp.df (by omega) ?_ | (first | (with_reducible refine Ev.mk _ (u32_xor _ _) ?_) | (with_reducible refine Ev.mk _ (u32_and _ _) ?_) | (with_reducible refine Ev.mk _ (u32_or _ _) ?_) | (with_reducible refine Ev.mk _ (u32_add _ _) ?_) | (with_reducible refine Ev.mk _ (u32_not _) ?_) | (with_reducible refine Ev.mk _ (u8_u32 _) ?_) | refine Ix1.mk _ _ _ rfl (by decide) rfl ?_) | (first | (with_reducible refine Ev.mk _ (IntWalk.i64_in _ ?_) ?_; · omega) | (with_reducible refine Ev.mk _ (wrap_u8_nat _) ?_) | (with_reducible refine Ev.mk _ (shr8 _) ?_) | (with_reducible refine Ev.mk _ (Int.toNat_natCast _) ?_) | (with_reducible refine Ev.mk _ (Int.toNat_ofNat _) ?_)) | refine @Ev.keep (List Value) _ _ ?_ | refine Rd.mk _ (by assumption) (by (first | exact trivial | exact fun x => x)) ?_ | refine Nd.mk (by (first | omega | exact ⟨rfl, rfl⟩ | exact ⟨rfl, by decide⟩ | exact ⟨by decide, rfl⟩ | exact ⟨by omega, by omega, by omega, by (simp [ti5]; omega), rfl⟩ | exact ⟨rfl, Nat.le_of_ble_eq_true rfl⟩ | exact rfl | decide)) ?_))
    refine G.draw cxOk Non (.tk 0 <| .tk 1 <| .tk 2 <| .tk 3 <| .tk 4 <| .z 5) (by kernel_rfl) ?_
    (repeat ((conv => whnf); first | refine G.seq ?_ | refine G.region cxOk ?_ | refine G.block ?_ | refine G.cond_t rfl ?_ | refine G.cond_f rfl ?_ | refine G.skip ?_ | refine G.exit ?_ | refine G.ret ?_ | refine Cmp.dt (by (first | (with_reducible rfl) | omega)) ?_ | refine Cmp.df (by omega) ?_ | (first | (with_reducible refine Ev.mk _ (u32_xor _ _) ?_) | (with_reducible refine Ev.mk _ (u32_and _ _) ?_) | (with_reducible refine Ev.mk _ (u32_or _ _) ?_) | (with_reducible refine Ev.mk _ (u32_add _ _) ?_) | (with_reducible refine Ev.mk _ (u32_not _) ?_) | (with_reducible refine Ev.mk _ (u8_u32 _) ?_) | refine Ix1.mk _ _ _ rfl (by decide) rfl ?_) | (first | (with_reducible refine Ev.mk _ (IntWalk.i64_in _ ?_) ?_; · omega) | (with_reducible refine Ev.mk _ (wrap_u8_nat _) ?_) | (with_reducible refine Ev.mk _ (shr8 _) ?_) | (with_reducible refine Ev.mk _ (Int.toNat_natCast _) ?_) | (with_reducible refine Ev.mk _ (Int.toNat_ofNat _) ?_)) | refine @Ev.keep (List Value) _ _ ?_ | refine Rd.mk _ (by assumption) (by (first | exact trivial | exact fun x => x)) ?_ | refine Nd.mk (by (first | omega | exact ⟨rfl, rfl⟩ | exact ⟨rfl, by decide⟩ | exact ⟨by decide, rfl⟩ | exact ⟨by omega, by omega, by omega, by (simp [ti5]; omega), rfl⟩ | exact ⟨rfl, Nat.le_of_ble_eq_true rfl⟩ | exact rfl | decide)) ?_))
    have hadd := add_ret s (b := m.take 64) (c := 64) (w := w4.drew) (A := A4) h4 (Roots.non (hR.ext hx4 (fun e => hgb (Eq.symm e))) (Ext.drew _ _)) hgb (by have := (hcl4.ext (Ext.drew Non _) (fun _ _ x => x)).take 64; rwa [show (bv m).take 64 = bv (m.take 64) from by simp [bv]] at this) e64 (by omega)
      (fun k hk => ⟨fun e => by have := (hA4 k hk).1; omega, (hA4 k hk).2⟩)
    rw [e64] at hadd
    refine Cl.mk hadd ?_
    rintro v w5 ⟨rfl, h5, x5⟩
    (repeat ((conv => whnf); first | refine G.seq ?_ | refine G.region cxOk ?_ | refine G.block ?_ | refine G.cond_t rfl ?_ | refine G.cond_f rfl ?_ | refine G.skip ?_ | refine G.exit ?_ | refine G.ret ?_ | refine Cmp.dt (by (first | (with_reducible rfl) | omega)) ?_ | refine Cmp.df (by omega) ?_ | (first | (with_reducible refine Ev.mk _ (u32_xor _ _) ?_) | (with_reducible refine Ev.mk _ (u32_and _ _) ?_) | (with_reducible refine Ev.mk _ (u32_or _ _) ?_) | (with_reducible refine Ev.mk _ (u32_add _ _) ?_) | (with_reducible refine Ev.mk _ (u32_not _) ?_) | (with_reducible refine Ev.mk _ (u8_u32 _) ?_) | refine Ix1.mk _ _ _ rfl (by decide) rfl ?_) | (first | (with_reducible refine Ev.mk _ (IntWalk.i64_in _ ?_) ?_; · omega) | (with_reducible refine Ev.mk _ (wrap_u8_nat _) ?_) | (with_reducible refine Ev.mk _ (shr8 _) ?_) | (with_reducible refine Ev.mk _ (Int.toNat_natCast _) ?_) | (with_reducible refine Ev.mk _ (Int.toNat_ofNat _) ?_)) | refine @Ev.keep (List Value) _ _ ?_ | refine Rd.mk _ (by assumption) (by (first | exact trivial | exact fun x => x)) ?_ | refine Nd.mk (by (first | omega | exact ⟨rfl, rfl⟩ | exact ⟨rfl, by decide⟩ | exact ⟨by decide, rfl⟩ | exact ⟨by omega, by omega, by omega, by (simp [ti5]; omega), rfl⟩ | exact ⟨rfl, Nat.le_of_ble_eq_true rfl⟩ | exact rfl | decide)) ?_))
    refine Sl.mk (sla A4 64 c4 ti5.size) (m.drop 64).length (c4 - 64) rfl (by simp) rfl ?_
    (repeat ((conv => whnf); first | refine G.seq ?_ | refine G.region cxOk ?_ | refine G.block ?_ | refine G.cond_t rfl ?_ | refine G.cond_f rfl ?_ | refine G.skip ?_ | refine G.exit ?_ | refine G.ret ?_ | refine Cmp.dt (by (first | (with_reducible rfl) | omega)) ?_ | refine Cmp.df (by omega) ?_ | (first | (with_reducible refine Ev.mk _ (u32_xor _ _) ?_) | (with_reducible refine Ev.mk _ (u32_and _ _) ?_) | (with_reducible refine Ev.mk _ (u32_or _ _) ?_) | (with_reducible refine Ev.mk _ (u32_add _ _) ?_) | (with_reducible refine Ev.mk _ (u32_not _) ?_) | (with_reducible refine Ev.mk _ (u8_u32 _) ?_) | refine Ix1.mk _ _ _ rfl (by decide) rfl ?_) | (first | (with_reducible refine Ev.mk _ (IntWalk.i64_in _ ?_) ?_; · omega) | (with_reducible refine Ev.mk _ (wrap_u8_nat _) ?_) | (with_reducible refine Ev.mk _ (shr8 _) ?_) | (with_reducible refine Ev.mk _ (Int.toNat_natCast _) ?_) | (with_reducible refine Ev.mk _ (Int.toNat_ofNat _) ?_)) | refine @Ev.keep (List Value) _ _ ?_ | refine Rd.mk _ (by assumption) (by (first | exact trivial | exact fun x => x)) ?_ | refine Nd.mk (by (first | omega | exact ⟨rfl, rfl⟩ | exact ⟨rfl, by decide⟩ | exact ⟨by decide, rfl⟩ | exact ⟨by omega, by omega, by omega, by (simp [ti5]; omega), rfl⟩ | exact ⟨rfl, Nat.le_of_ble_eq_true rfl⟩ | exact rfl | decide)) ?_))
    have hx5 : Ext (· = hb) w4 w5 := (Ext.drew _ _).trans x5
    refine ⟨(comp s (m.take 64), sla A4 64 c4 ti5.size, c4 - 64, m.drop 64), ⟨rfl, rfl, trivial⟩, ⟨h5, ?_, ?_, ?_, ?_, ?_, hx4.trans hx5⟩, ?_⟩
    · have h0 : Cells w5 A4 (bv m) := hcl4.ext hx5 (fun k hk e => by have := (hA4 k hk).1; omega)
      have := h0.drop 64 c4 (fun e => by subst e; exact List.drop_eq_nil_of_le (by rw [bv_length]; omega)) 1 rfl
      rw [show (bv m).drop 64 = bv (m.drop 64) from by simp [bv]] at this
      exact this
    · simp only [List.length_drop]
      omega
    · intro k hk
      have := hA4 k (inBlk_sla hk)
      exact ⟨this.1, Nat.lt_of_lt_of_le this.2 hx5.size⟩
    · rw [← ha, absorb_step s m 0 (by omega)]
    · rw [← hd]
      simp only [List.drop_drop, List.length_drop]
      congr 1
      omega
    · simp only [List.length_drop]
      omega
  · have e0 : m.length / 64 = 0 := by omega
    rw [e0] at ha hd
    simp only [absorb, Nat.mul_zero, List.drop_zero] at ha hd
    (repeat ((conv => whnf); first | refine G.seq ?_ | refine G.region cxOk ?_ | refine G.block ?_ | refine G.cond_t rfl ?_ | refine G.cond_f rfl ?_ | refine G.skip ?_ | refine G.exit ?_ | refine G.ret ?_ | refine Cmp.dt (by (first | (with_reducible rfl) | omega)) ?_ | refine Cmp.df (by omega) ?_ | (first | (with_reducible refine Ev.mk _ (u32_xor _ _) ?_) | (with_reducible refine Ev.mk _ (u32_and _ _) ?_) | (with_reducible refine Ev.mk _ (u32_or _ _) ?_) | (with_reducible refine Ev.mk _ (u32_add _ _) ?_) | (with_reducible refine Ev.mk _ (u32_not _) ?_) | (with_reducible refine Ev.mk _ (u8_u32 _) ?_) | refine Ix1.mk _ _ _ rfl (by decide) rfl ?_) | (first | (with_reducible refine Ev.mk _ (IntWalk.i64_in _ ?_) ?_; · omega) | (with_reducible refine Ev.mk _ (wrap_u8_nat _) ?_) | (with_reducible refine Ev.mk _ (shr8 _) ?_) | (with_reducible refine Ev.mk _ (Int.toNat_natCast _) ?_) | (with_reducible refine Ev.mk _ (Int.toNat_ofNat _) ?_)) | refine @Ev.keep (List Value) _ _ ?_ | refine Rd.mk _ (by assumption) (by (first | exact trivial | exact fun x => x)) ?_ | refine Nd.mk (by (first | omega | exact ⟨rfl, rfl⟩ | exact ⟨rfl, by decide⟩ | exact ⟨by decide, rfl⟩ | exact ⟨by omega, by omega, by omega, by (simp [ti5]; omega), rfl⟩ | exact ⟨rfl, Nat.le_of_ble_eq_true rfl⟩ | exact rfl | decide)) ?_))
    refine St1.mk h4 (by simp [wvs_length, S8.l_length]) (by simp) trivial fun w5 h5 x5 => ?_
    (repeat ((conv => whnf); first | refine G.seq ?_ | refine G.region cxOk ?_ | refine G.block ?_ | refine G.cond_t rfl ?_ | refine G.cond_f rfl ?_ | refine G.skip ?_ | refine G.exit ?_ | refine G.ret ?_ | refine Cmp.dt (by (first | (with_reducible rfl) | omega)) ?_ | refine Cmp.df (by omega) ?_ | (first | (with_reducible refine Ev.mk _ (u32_xor _ _) ?_) | (with_reducible refine Ev.mk _ (u32_and _ _) ?_) | (with_reducible refine Ev.mk _ (u32_or _ _) ?_) | (with_reducible refine Ev.mk _ (u32_add _ _) ?_) | (with_reducible refine Ev.mk _ (u32_not _) ?_) | (with_reducible refine Ev.mk _ (u8_u32 _) ?_) | refine Ix1.mk _ _ _ rfl (by decide) rfl ?_) | (first | (with_reducible refine Ev.mk _ (IntWalk.i64_in _ ?_) ?_; · omega) | (with_reducible refine Ev.mk _ (wrap_u8_nat _) ?_) | (with_reducible refine Ev.mk _ (shr8 _) ?_) | (with_reducible refine Ev.mk _ (Int.toNat_natCast _) ?_) | (with_reducible refine Ev.mk _ (Int.toNat_ofNat _) ?_)) | refine @Ev.keep (List Value) _ _ ?_ | refine Rd.mk _ (by assumption) (by (first | exact trivial | exact fun x => x)) ?_ | refine Nd.mk (by (first | omega | exact ⟨rfl, rfl⟩ | exact ⟨rfl, by decide⟩ | exact ⟨by decide, rfl⟩ | exact ⟨by omega, by omega, by omega, by (simp [ti5]; omega), rfl⟩ | exact ⟨rfl, Nat.le_of_ble_eq_true rfl⟩ | exact rfl | decide)) ?_))
    refine Don.mk ⟨rfl, ⟨A4, c4, ?_, ?_, ?_, fun k hk => ?_, hnS⟩, hx4.trans x5⟩
    · rw [← hrF, ← hd, ← hsF, ← ha, List.length_append, Int.natCast_add]
      exact h5
    · rw [← hrF, ← hd]
      exact hcl4.ext x5 (fun k hk e => by have := (hA4 k hk).1; omega)
    · rw [← hrF, ← hd]
      exact hc4
    · have := hA4 k hk
      exact ⟨by omega, fun hs => by have := hS k hs; omega, Nat.lt_of_lt_of_le this.2 x5.size⟩

theorem Write_ret {S : Nat → Prop} {w : World} {hb c : Nat} {l b : List UInt8} {A : Option Addr} (h : HashAt S w hb l) (hS : ∀ k, S k → k < w.heap.size) (hg : S 0) (hR : Roots w) (hcl : Cells w A (bv b)) (hc : b.length ≤ c)
    (hA : b ≠ [] → ∀ k, inBlk A k → k ≠ hb) (hl : l.length + b.length ≤ 140737488354000) :
    Ret cx.P 23 #[ptr hb, .slice A b.length c] w fun v w' => v = .int .i64 0 ∧ HashAt S w' hb (l ++ b) ∧ Ext (· = hb) w w' :=
  WriteG_ret h hS hg hR hcl hc hA (by omega) (by omega)
end Go.Proofs.YtmcdcfbhpdacfaaDoor

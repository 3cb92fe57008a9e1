import Derived.Test.YtfphlbogblldbaaDo2

/-
  A call told to both: the walk.
-/

namespace Go.Proofs.Ytfphlbogblldbaa

open Go Sx

set_option linter.unusedVariables false

set_option linter.unusedSimpArgs false

set_option maxRecDepth 100000

/-- Both, side by side. -/
structure Both (w : World) (O R B : Nat → Prop) (db : Nat) (D : DV) (v : Value) : Prop where
  dev : DevAt w O R db D
  ref : RefAt w B D v
  ap : ∀ k, B k → ¬ O k
set_option maxHeartbeats 8000000 in
theorem do_ret {w : World} {O R B : Nat → Prop} {db : Nat} {D : DV} {v0 : Value} {x : DA} {i : Nat} (h : Both w O R B db D v0) (hx : DaOk w x) (hxO : x.data ≠ [] → ∀ k, inBlk x.A k → ¬ O k) (ha : AOk i D) (hi : i ≤ 1000) (hb : x.data.length ≤ 20000) :
    Ret cx.P 24 #[dp db, v0, .agg (dav x).toArray] w fun v w' => ∃ v1 O' R' B', v = .tuple #[v1, .bool true] ∧ Both w' O' R' B' db (actD x D).1 v1 ∧ (∀ k, O' k → O k ∨ w.heap.size ≤ k) ∧ (∀ k, R' k → R k ∨ w.heap.size ≤ k) ∧ (∀ k, B' k → B k ∨ w.heap.size ≤ k) ∧ Ext O w w' := by
  obtain ⟨hd, hr, hap⟩ := h
  obtain ⟨LA, Lc, told, a, dn, rfl, hr⟩ := hr
  refine Ret.e3 (C := cx) (n := 118) cxOk Try.func24 rfl rfl rfl ?_
  (conv => whnf)
  refine G.seq ?_
  (repeat ((conv => whnf); refine G.region cxOk ?_))
  refine Al.mk fun tb w1 hN1 => ?_
  have a1 : At w1 tb (rcD D LA Lc told a dn) 46 (0, 0) := hN1.at_
  (repeat ((conv => whnf); refine G.region cxOk ?_))
  refine Al.mk fun xb w2 hN2 => ?_
  have y2 : At w2 xb (dav x) 34 (0, 0) := hN2.at_
  (repeat ((conv => whnf); refine G.region cxOk ?_))
  refine Al.mk fun rb w3 hN3 => ?_
  have l1 := hN1.ge
  have l2 := hN2.ge
  have l3 := hN3.ge
  have s1 := hN1.ext.size
  have s2 := hN2.ext.size
  have s3 := hN3.ext.size
  have X3 := (hN1.ext.trans hN2.ext).trans hN3.ext
  have r3 : At w3 rb _ 46 (0, 0) := hN3.at_
  have a3 := (a1.ext hN2.ext id).ext hN3.ext id
  have y3 := y2.ext hN3.ext id
  have g2 : w3.cell? ⟨xb, 2, none⟩ = some (.slice x.A x.data.length x.c) := y3.cell (i := 2) rfl
  (repeat ((conv => whnf); refine G.region cxOk ?_))
  refine G.seq ?_
  (repeat ((conv => whnf); first | refine G.region cxOk ?_ | refine @Ev.keep (List Value) _ _ ?_ | refine Nd.mk (by (first | omega | exact ⟨by decide, rfl⟩)) ?_))
  refine Al.mk fun eb w4 hN4 => ?_
  have g2 : w4.cell? ⟨xb, 2, none⟩ = some (.slice x.A x.data.length x.c) := hN4.ext.cell g2 id
  have o4 : OB w4 w3.heap.size (.slice (some ⟨eb, 0, none⟩) 0 0) [] := OS.new (xs := []) (sp := []) hN4 (Nat.le_refl _) rfl (Nat.le_refl _) rfl (.inl rfl)
  have X4 := X3.trans hN4.ext
  (repeat ((conv => whnf); refine Rd.mk _ (by assumption) (by (exact trivial)) ?_))
  refine Run.appB undB o4 (srcB (hx.cl.ext X4 (fun _ _ x => x))) (by rw [List.length_nil]; omega) hN4.ext.size (fun _ _ => trivial) ?_
  intro A5 c5 w5 hc5 o5 x5 hb5
  rw [List.nil_append] at o5 hc5 ⊢
  have x35 : Ext Non w3 w5 := hN4.ext.app o4 (Nat.le_refl _) x5
  have X5 := X3.trans x35
  (repeat ((conv => whnf); refine G.region cxOk ?_))
  refine G.seq ?_
  (repeat ((conv => whnf); refine G.region cxOk ?_))
  have s5 := x35.size
  have a5 := a3.ext x35 id
  have y5 := y3.ext x35 id
  have r5 := r3.ext x35 id
  have hA5 : ∀ k, inBlk A5 k → w3.heap.size ≤ k ∧ k < w5.heap.size := fun k hk => ⟨OS.ge o5 (blkOf_of hk), OS.lt o5 (blkOf_of hk)⟩
  refine G.cut (fun l' q => ∃ e told' a' dn' LA' Lc' O' R' B', e = (actD x D).2 ∧ Sub [(4, .pointer (some ⟨tb, 0, none⟩)), (6, .pointer (some ⟨rb, 0, none⟩)), (8, .slice A5 x.data.length c5), (9, .int .i64 e), (10, .int .i64 e)] l' ∧ DevAt q O' R' db (actD x D).1 ∧
    At q tb (rcD (actD x D).1 LA' Lc' told' a' dn') 46 (0, 0) ∧ RefV q B' (actD x D).1 LA' Lc' told' a' dn' ∧ (∀ k, B' k → ¬ O' k) ∧ (∀ k, O' k → O k ∨ w5.heap.size ≤ k) ∧ (∀ k, R' k → R k ∨ w5.heap.size ≤ k) ∧ (∀ k, B' k → B k ∨ w5.heap.size ≤ k) ∧ Ext (fun k => O k ∨ k = tb) w5 q) ?_ ?_
  · have k0 : w5.cell? ⟨xb, 0, none⟩ = some (.int .u8 (x.kind : Int)) := y5.cell (i := 0) rfl
    have k1 : w5.cell? ⟨xb, 1, none⟩ = some (.int .i64 x.at_) := y5.cell (i := 1) rfl
    have k2 : w5.cell? ⟨xb, 2, none⟩ = some (.slice x.A x.data.length x.c) := y5.cell (i := 2) rfl
    have k3 : w5.cell? ⟨xb, 3, none⟩ = some (.bool x.done) := y5.cell (i := 3) rfl
    have hkd := hx.kind
    have d5 := hd.non X5
    have f5 : RefAt w5 B D (.agg (rcD D LA Lc told a dn).toArray) := ⟨LA, Lc, told, a, dn, rfl, hr.ext X5⟩
    have hfew := ha.few (by omega)
    have hlo := hd.lo
    have t1 := a1.lt
    refine G.seq ?_
    (repeat ((conv => whnf); first | refine G.region cxOk ?_ | refine Rd.mk _ (by assumption) (by (exact trivial)) ?_ | refine Nd.mk (by (omega)) ?_))
    refine Ev.mk _ (tmod9 x.kind) ?_
    (repeat ((conv => whnf); refine G.block ?_))
    obtain ⟨kd, ekd⟩ : ∃ kd, x.kind % 9 = kd := ⟨_, rfl⟩
    have hk9 : kd < 9 := by omega
    rw [ekd]
    by_cases c3 : kd = 3
    · subst c3
      cases hdn : D.down with
      | false =>
        have hact : actD x D = stepD syncD D := by unfold actD; rw [if_pos ekd, if_neg (by rw [hdn]; decide)]
        (repeat ((conv => whnf); first | refine G.seq ?_ | refine G.region cxOk ?_ | refine G.cond_t rfl ?_ | refine Cmp.dt (by (omega)) ?_))
        refine Cl.mk (DvSync_ret d5 hfew hdn) ?_
        rintro _ w6 ⟨rfl, O6, R6, d6, hO6, hR6, x6⟩
        have s6 := x6.size
        have f6 := (hr.ext X5).ext' x6 (fun k hk ho => hap k hk ho)
        have a6 := a5.ext x6 (fun ho => by have := hlo _ ho; omega)
        (repeat ((conv => whnf); refine G.region cxOk ?_))
        refine RdA.whole a6 rfl trivial ?_
        (repeat ((conv => whnf); refine G.seq ?_))
        refine Cl.mk (refSync_ret ⟨LA, Lc, told, a, dn, rfl, f6⟩ hfew.steps hdn) ?_
        rintro _ w7 ⟨v1, rfl, h7, x7⟩
        obtain ⟨LA', Lc', told', a', dn', rfl, hv⟩ := h7
        have a7 := a6.ext x7 id
        have s7 := x7.size
        have lo6 := d6.lo
        (repeat ((conv => whnf); refine Nd.mk (by (first | omega | exact rfl)) ?_))
        refine StA.all a7 rfl (one_rc _ _ _ _ _ _ _ _ _ _ _) trivial fun w8 a8 x8 => ?_
        (repeat ((conv => whnf); refine G.seq ?_))
        exact ⟨_, told', a', dn', LA', Lc', O6, R6, B, by rw [hact], ⟨rfl, rfl, rfl, rfl, rfl, trivial⟩, by rw [hact]; exact (d6.non x7).ext x8 (fun k hk e => by have e' : k = tb := e; exact (hO6 k hk).elim (fun e => by have := hlo k e; omega) (fun e => by omega)) (fun k hk e => by have e' : k = tb := e; exact (hR6 k hk).elim (fun e => by have := hd.lr k e; omega) (fun e => by omega)), by rw [hact]; exact a8, by rw [hact]; exact hv.ext' x8 (fun k hk e => by have e' : k = tb := e; have := hr.lt k hk; omega), fun k hk ho => (hO6 k ho).elim (hap k hk) (fun e => by have := hr.lt k hk; omega), hO6, hR6, fun k hk => .inl hk, (x6.mono fun k h => .inl h).trans ((x7.mono fun _ x => x.elim).trans (x8.mono fun k e => .inr e))⟩
      | true =>
        have hact : actD x D = (D, 20) := by unfold actD; rw [if_pos ekd, if_pos hdn]
        (repeat ((conv => whnf); first | refine G.seq ?_ | refine G.region cxOk ?_ | refine G.cond_t rfl ?_ | refine Cmp.dt (by (omega)) ?_))
        refine Cl.mk (DvSyncDown_ret d5 hdn) ?_
        rintro _ w6 ⟨rfl, x6'⟩
        have x6 : Ext O w5 w6 := x6'.mono fun _ x => x.elim
        have d6 := d5.non x6'
        have hO6 : ∀ k, O k → O k ∨ w5.heap.size ≤ k := fun k hk => .inl hk
        have hR6 : ∀ k, R k → R k ∨ w5.heap.size ≤ k := fun k hk => .inl hk
        have s6 := x6.size
        have f6 := (hr.ext X5).ext' x6 (fun k hk ho => hap k hk ho)
        have a6 := a5.ext x6 (fun ho => by have := hlo _ ho; omega)
        (repeat ((conv => whnf); refine G.region cxOk ?_))
        refine RdA.whole a6 rfl trivial ?_
        (repeat ((conv => whnf); refine G.seq ?_))
        refine Cl.mk (refSyncDown_ret ⟨LA, Lc, told, a, dn, rfl, f6⟩ hdn) ?_
        rintro _ w7 ⟨v1, rfl, h7, x7⟩
        obtain ⟨LA', Lc', told', a', dn', rfl, hv⟩ := h7
        have a7 := a6.ext x7 id
        have s7 := x7.size
        have lo6 := d6.lo
        (repeat ((conv => whnf); refine Nd.mk (by (first | omega | exact rfl)) ?_))
        refine StA.all a7 rfl (one_rc _ _ _ _ _ _ _ _ _ _ _) trivial fun w8 a8 x8 => ?_
        (repeat ((conv => whnf); refine G.seq ?_))
        exact ⟨_, told', a', dn', LA', Lc', O, R, B, by rw [hact], ⟨rfl, rfl, rfl, rfl, rfl, trivial⟩, by rw [hact]; exact (d6.non x7).ext x8 (fun k hk e => by have e' : k = tb := e; exact (hO6 k hk).elim (fun e => by have := hlo k e; omega) (fun e => by omega)) (fun k hk e => by have e' : k = tb := e; exact (hR6 k hk).elim (fun e => by have := hd.lr k e; omega) (fun e => by omega)), by rw [hact]; exact a8, by rw [hact]; exact hv.ext' x8 (fun k hk e => by have e' : k = tb := e; have := hr.lt k hk; omega), fun k hk ho => (hO6 k ho).elim (hap k hk) (fun e => by have := hr.lt k hk; omega), hO6, hR6, fun k hk => .inl hk, (x6.mono fun k h => .inl h).trans ((x7.mono fun _ x => x.elim).trans (x8.mono fun k e => .inr e))⟩
    by_cases c4 : kd = 4
    · subst c4
      cases hdn : D.down with
      | false =>
        have hact : actD x D = stepD id D := by unfold actD; rw [if_neg (by omega), if_pos ekd, if_neg (by rw [hdn]; decide)]
        (repeat ((conv => whnf); first | refine G.seq ?_ | refine G.region cxOk ?_ | refine G.cond_t rfl ?_ | refine G.cond_f rfl ?_ | refine Cmp.dt (by (omega)) ?_ | refine Cmp.df (by omega) ?_))
        refine Cl.mk (DvBeat_ret d5 hfew hdn) ?_
        rintro _ w6 ⟨rfl, O6, R6, d6, hO6, hR6, x6⟩
        have s6 := x6.size
        have f6 := (hr.ext X5).ext' x6 (fun k hk ho => hap k hk ho)
        have a6 := a5.ext x6 (fun ho => by have := hlo _ ho; omega)
        (repeat ((conv => whnf); refine G.region cxOk ?_))
        refine RdA.whole a6 rfl trivial ?_
        (repeat ((conv => whnf); refine G.seq ?_))
        refine Cl.mk (refBeat_ret ⟨LA, Lc, told, a, dn, rfl, f6⟩ hfew.steps hdn) ?_
        rintro _ w7 ⟨v1, rfl, h7, x7⟩
        obtain ⟨LA', Lc', told', a', dn', rfl, hv⟩ := h7
        have a7 := a6.ext x7 id
        have s7 := x7.size
        have lo6 := d6.lo
        (repeat ((conv => whnf); refine Nd.mk (by (first | omega | exact rfl)) ?_))
        refine StA.all a7 rfl (one_rc _ _ _ _ _ _ _ _ _ _ _) trivial fun w8 a8 x8 => ?_
        (repeat ((conv => whnf); refine G.seq ?_))
        exact ⟨_, told', a', dn', LA', Lc', O6, R6, B, by rw [hact], ⟨rfl, rfl, rfl, rfl, rfl, trivial⟩, by rw [hact]; exact (d6.non x7).ext x8 (fun k hk e => by have e' : k = tb := e; exact (hO6 k hk).elim (fun e => by have := hlo k e; omega) (fun e => by omega)) (fun k hk e => by have e' : k = tb := e; exact (hR6 k hk).elim (fun e => by have := hd.lr k e; omega) (fun e => by omega)), by rw [hact]; exact a8, by rw [hact]; exact hv.ext' x8 (fun k hk e => by have e' : k = tb := e; have := hr.lt k hk; omega), fun k hk ho => (hO6 k ho).elim (hap k hk) (fun e => by have := hr.lt k hk; omega), hO6, hR6, fun k hk => .inl hk, (x6.mono fun k h => .inl h).trans ((x7.mono fun _ x => x.elim).trans (x8.mono fun k e => .inr e))⟩
      | true =>
        have hact : actD x D = (D, 20) := by unfold actD; rw [if_neg (by omega), if_pos ekd, if_pos hdn]
        (repeat ((conv => whnf); first | refine G.seq ?_ | refine G.region cxOk ?_ | refine G.cond_t rfl ?_ | refine G.cond_f rfl ?_ | refine Cmp.dt (by (omega)) ?_ | refine Cmp.df (by omega) ?_))
        refine Cl.mk (DvBeatDown_ret d5 hdn) ?_
        rintro _ w6 ⟨rfl, e6⟩
        have x6' : Ext Non w5 w6 := by rw [e6]; exact Ext.refl _ _
        have x6 : Ext O w5 w6 := x6'.mono fun _ x => x.elim
        have d6 := d5.non x6'
        have hO6 : ∀ k, O k → O k ∨ w5.heap.size ≤ k := fun k hk => .inl hk
        have hR6 : ∀ k, R k → R k ∨ w5.heap.size ≤ k := fun k hk => .inl hk
        have s6 := x6.size
        have f6 := (hr.ext X5).ext' x6 (fun k hk ho => hap k hk ho)
        have a6 := a5.ext x6 (fun ho => by have := hlo _ ho; omega)
        (repeat ((conv => whnf); refine G.region cxOk ?_))
        refine RdA.whole a6 rfl trivial ?_
        (repeat ((conv => whnf); refine G.seq ?_))
        refine Cl.mk (refBeatDown_ret ⟨LA, Lc, told, a, dn, rfl, f6⟩ hdn) ?_
        rintro _ w7 ⟨v1, rfl, h7, x7⟩
        obtain ⟨LA', Lc', told', a', dn', rfl, hv⟩ := h7
        have a7 := a6.ext x7 id
        have s7 := x7.size
        have lo6 := d6.lo
        (repeat ((conv => whnf); refine Nd.mk (by (first | omega | exact rfl)) ?_))
        refine StA.all a7 rfl (one_rc _ _ _ _ _ _ _ _ _ _ _) trivial fun w8 a8 x8 => ?_
        (repeat ((conv => whnf); refine G.seq ?_))
        exact ⟨_, told', a', dn', LA', Lc', O, R, B, by rw [hact], ⟨rfl, rfl, rfl, rfl, rfl, trivial⟩, by rw [hact]; exact (d6.non x7).ext x8 (fun k hk e => by have e' : k = tb := e; exact (hO6 k hk).elim (fun e => by have := hlo k e; omega) (fun e => by omega)) (fun k hk e => by have e' : k = tb := e; exact (hR6 k hk).elim (fun e => by have := hd.lr k e; omega) (fun e => by omega)), by rw [hact]; exact a8, by rw [hact]; exact hv.ext' x8 (fun k hk e => by have e' : k = tb := e; have := hr.lt k hk; omega), fun k hk ho => (hO6 k ho).elim (hap k hk) (fun e => by have := hr.lt k hk; omega), hO6, hR6, fun k hk => .inl hk, (x6.mono fun k h => .inl h).trans ((x7.mono fun _ x => x.elim).trans (x8.mono fun k e => .inr e))⟩
    by_cases c5' : kd = 5
    · subst c5'
      cases hdn : D.down with
      | false =>
        have hact : actD x D = (failD x.at_ x.done D, 0) := by unfold actD; rw [if_neg (by omega), if_neg (by omega), if_pos ekd, if_neg (by rw [hdn]; decide)]
        (repeat ((conv => whnf); first | refine G.seq ?_ | refine G.region cxOk ?_ | refine G.cond_t rfl ?_ | refine G.cond_f rfl ?_ | refine Cmp.dt (by (omega)) ?_ | refine Cmp.df (by omega) ?_ | refine Rd.mk _ (by assumption) (by (exact trivial)) ?_))
        refine Cl.mk (DvFail_ret d5 hdn) ?_
        rintro _ w6 ⟨rfl, O6, R6, d6, hO6, hR6, x6⟩
        have k1 := x6.cell k1 (fun ho => by have := hlo xb ho; omega)
        have k3 := x6.cell k3 (fun ho => by have := hlo xb ho; omega)
        have s6 := x6.size
        have f6 := (hr.ext X5).ext' x6 (fun k hk ho => hap k hk ho)
        have a6 := a5.ext x6 (fun ho => by have := hlo _ ho; omega)
        (repeat ((conv => whnf); refine G.region cxOk ?_))
        refine RdA.whole a6 rfl trivial ?_
        (repeat ((conv => whnf); refine Rd.mk _ (by assumption) (by (exact trivial)) ?_))
        refine Cl.mk (refFail_ret ⟨LA, Lc, told, a, dn, rfl, f6⟩ ⟨hx.lo, hx.hi⟩ hdn) ?_
        rintro _ w7 ⟨v1, rfl, h7, x7⟩
        obtain ⟨LA', Lc', told', a', dn', rfl, hv⟩ := h7
        have a7 := a6.ext x7 id
        have s7 := x7.size
        have lo6 := d6.lo
        (repeat ((conv => whnf); refine Nd.mk (by (first | omega | exact rfl)) ?_))
        refine StA.all a7 rfl (one_rc _ _ _ _ _ _ _ _ _ _ _) trivial fun w8 a8 x8 => ?_
        (repeat ((conv => whnf); refine G.seq ?_))
        exact ⟨_, told', a', dn', LA', Lc', O6, R6, B, by rw [hact], ⟨rfl, rfl, rfl, rfl, rfl, trivial⟩, by rw [hact]; exact (d6.non x7).ext x8 (fun k hk e => by have e' : k = tb := e; exact (hO6 k hk).elim (fun e => by have := hlo k e; omega) (fun e => by omega)) (fun k hk e => by have e' : k = tb := e; exact (hR6 k hk).elim (fun e => by have := hd.lr k e; omega) (fun e => by omega)), by rw [hact]; exact a8, by rw [hact]; exact hv.ext' x8 (fun k hk e => by have e' : k = tb := e; have := hr.lt k hk; omega), fun k hk ho => (hO6 k ho).elim (hap k hk) (fun e => by have := hr.lt k hk; omega), hO6, hR6, fun k hk => .inl hk, (x6.mono fun k h => .inl h).trans ((x7.mono fun _ x => x.elim).trans (x8.mono fun k e => .inr e))⟩
      | true =>
        have hact : actD x D = (D, 20) := by unfold actD; rw [if_neg (by omega), if_neg (by omega), if_pos ekd, if_pos hdn]
        (repeat ((conv => whnf); first | refine G.seq ?_ | refine G.region cxOk ?_ | refine G.cond_t rfl ?_ | refine G.cond_f rfl ?_ | refine Cmp.dt (by (omega)) ?_ | refine Cmp.df (by omega) ?_ | refine Rd.mk _ (by assumption) (by (exact trivial)) ?_))
        refine Cl.mk (DvFailDown_ret d5 hdn) ?_
        rintro _ w6 ⟨rfl, e6⟩
        have x6' : Ext Non w5 w6 := by rw [e6]; exact Ext.refl _ _
        have x6 : Ext O w5 w6 := x6'.mono fun _ x => x.elim
        have d6 := d5.non x6'
        have hO6 : ∀ k, O k → O k ∨ w5.heap.size ≤ k := fun k hk => .inl hk
        have hR6 : ∀ k, R k → R k ∨ w5.heap.size ≤ k := fun k hk => .inl hk
        have k1 := x6.cell k1 (fun ho => by have := hlo xb ho; omega)
        have k3 := x6.cell k3 (fun ho => by have := hlo xb ho; omega)
        have s6 := x6.size
        have f6 := (hr.ext X5).ext' x6 (fun k hk ho => hap k hk ho)
        have a6 := a5.ext x6 (fun ho => by have := hlo _ ho; omega)
        (repeat ((conv => whnf); refine G.region cxOk ?_))
        refine RdA.whole a6 rfl trivial ?_
        (repeat ((conv => whnf); refine Rd.mk _ (by assumption) (by (exact trivial)) ?_))
        refine Cl.mk (refFailDown_ret ⟨LA, Lc, told, a, dn, rfl, f6⟩ hdn) ?_
        rintro _ w7 ⟨v1, rfl, h7, x7⟩
        obtain ⟨LA', Lc', told', a', dn', rfl, hv⟩ := h7
        have a7 := a6.ext x7 id
        have s7 := x7.size
        have lo6 := d6.lo
        (repeat ((conv => whnf); refine Nd.mk (by (first | omega | exact rfl)) ?_))
        refine StA.all a7 rfl (one_rc _ _ _ _ _ _ _ _ _ _ _) trivial fun w8 a8 x8 => ?_
        (repeat ((conv => whnf); refine G.seq ?_))
        exact ⟨_, told', a', dn', LA', Lc', O, R, B, by rw [hact], ⟨rfl, rfl, rfl, rfl, rfl, trivial⟩, by rw [hact]; exact (d6.non x7).ext x8 (fun k hk e => by have e' : k = tb := e; exact (hO6 k hk).elim (fun e => by have := hlo k e; omega) (fun e => by omega)) (fun k hk e => by have e' : k = tb := e; exact (hR6 k hk).elim (fun e => by have := hd.lr k e; omega) (fun e => by omega)), by rw [hact]; exact a8, by rw [hact]; exact hv.ext' x8 (fun k hk e => by have e' : k = tb := e; have := hr.lt k hk; omega), fun k hk ho => (hO6 k ho).elim (hap k hk) (fun e => by have := hr.lt k hk; omega), hO6, hR6, fun k hk => .inl hk, (x6.mono fun k h => .inl h).trans ((x7.mono fun _ x => x.elim).trans (x8.mono fun k e => .inr e))⟩
    have o5f := o5.form
    obtain ⟨_, _, e5v, _, cl5, _⟩ := o5f
    obtain ⟨rfl, -, rfl⟩ := Value.slice.inj e5v
    have hBO : x.data ≠ [] → ∀ k, inBlk A5 k → ¬ O k := fun _ k hk ho => by have := (hA5 k hk).1; have := hlo k ho; omega
    have clx : ∀ {W : World}, Ext O w5 W → Cells W x.A (bv x.data) := fun {W} xx => by
      by_cases e : x.data = []
      · exact .inl (by rw [e]; rfl)
      · exact (hx.cl.ext X5 (fun _ _ x => x)).ext xx (hxO e)
    have hkD := hd.ok
    have hln := ha.len
    by_cases c6q : kd = 6
    · have hact : actD x D = (startD x.data D, 0) := by unfold actD; rw [if_neg (by omega), if_neg (by omega), if_neg (by omega), if_pos (ekd.trans c6q)]
      subst c6q
      (repeat ((conv => whnf); first | refine G.seq ?_ | refine G.region cxOk ?_ | refine G.cond_t rfl ?_ | refine G.cond_f rfl ?_ | refine Cmp.dt (by (omega)) ?_ | refine Cmp.df (by omega) ?_))
      refine Cl.mk (DvStart_ret d5 cl5 hBO (by omega)) ?_
      rintro _ w6 ⟨O6, R6, d6, hO6, hR6, x6⟩
      have s6 := x6.size
      have f6 := (hr.ext X5).ext' x6 (fun k hk ho => hap k hk ho)
      have a6 := a5.ext x6 (fun ho => by have := hlo _ ho; omega)
      have cx6 := clx x6
      have k1 := x6.cell k1 (fun ho => by have := hlo xb ho; omega)
      have k2 := x6.cell k2 (fun ho => by have := hlo xb ho; omega)
      (repeat ((conv => whnf); refine G.region cxOk ?_))
      refine RdA.whole a6 rfl trivial ?_
      (repeat ((conv => whnf); refine Rd.mk _ (by assumption) (by (exact trivial)) ?_))
      refine Cl.mk (refStart_ret ⟨LA, Lc, told, a, dn, rfl, f6⟩ hkD cx6 (by omega)) ?_
      rintro _ w7 ⟨h7, x7⟩
      obtain ⟨LA', Lc', told', a', dn', rfl, hv⟩ := h7
      have a7 := a6.ext x7 id
      have s7 := x7.size
      have lo6 := d6.lo
      (repeat ((conv => whnf); refine Nd.mk (by (first | omega | exact rfl)) ?_))
      refine StA.all a7 rfl (one_rc _ _ _ _ _ _ _ _ _ _ _) trivial fun w8 a8 x8 => ?_
      (repeat ((conv => whnf); refine G.seq ?_))
      exact ⟨_, told', a', dn', LA', Lc', O6, R6, B, by rw [hact], ⟨rfl, rfl, rfl, rfl, rfl, trivial⟩, by rw [hact]; exact (d6.non x7).ext x8 (fun k hk e => by have e' : k = tb := e; exact (hO6 k hk).elim (fun e => by have := hlo k e; omega) (fun e => by omega)) (fun k hk e => by have e' : k = tb := e; exact (hR6 k hk).elim (fun e => by have := hd.lr k e; omega) (fun e => by omega)), by rw [hact]; exact a8, by rw [hact]; exact hv.ext' x8 (fun k hk e => by have e' : k = tb := e; have := hr.lt k hk; omega), fun k hk ho => (hO6 k ho).elim (hap k hk) (fun e => by have := hr.lt k hk; omega), hO6, hR6, fun k hk => .inl hk, (x6.mono fun k h => .inl h).trans ((x7.mono fun _ x => x.elim).trans (x8.mono fun k e => .inr e))⟩
    by_cases c7q : kd = 7
    · have hact : actD x D = (editD x.at_ x.data D, 0) := by unfold actD; rw [if_neg (by omega), if_neg (by omega), if_neg (by omega), if_neg (by omega), if_pos (ekd.trans c7q)]
      subst c7q
      (repeat ((conv => whnf); first | refine G.seq ?_ | refine G.region cxOk ?_ | refine G.cond_t rfl ?_ | refine G.cond_f rfl ?_ | refine Cmp.dt (by (omega)) ?_ | refine Cmp.df (by omega) ?_ | refine Rd.mk _ (by assumption) (by (exact trivial)) ?_))
      refine Cl.mk (DvEdit_ret d5 cl5 hBO ⟨hx.lo, hx.hi⟩) ?_
      rintro _ w6 ⟨O6, R6, d6, hO6, hR6, x6⟩
      have s6 := x6.size
      have f6 := (hr.ext X5).ext' x6 (fun k hk ho => hap k hk ho)
      have a6 := a5.ext x6 (fun ho => by have := hlo _ ho; omega)
      have cx6 := clx x6
      have k1 := x6.cell k1 (fun ho => by have := hlo xb ho; omega)
      have k2 := x6.cell k2 (fun ho => by have := hlo xb ho; omega)
      (repeat ((conv => whnf); refine G.region cxOk ?_))
      refine RdA.whole a6 rfl trivial ?_
      (repeat ((conv => whnf); refine Rd.mk _ (by assumption) (by (exact trivial)) ?_))
      refine RdS.of cx6 rfl (fun _ _ => trivial) ?_
      (repeat ((conv => whnf); refine G.seq ?_))
      refine Cl.mk (refEdit_ret ⟨LA, Lc, told, a, dn, rfl, f6⟩ hkD ⟨hx.lo, hx.hi⟩ (by omega)) ?_
      rintro _ w7 ⟨h7, x7⟩
      obtain ⟨LA', Lc', told', a', dn', rfl, hv⟩ := h7
      have a7 := a6.ext x7 id
      have s7 := x7.size
      have lo6 := d6.lo
      (repeat ((conv => whnf); refine Nd.mk (by (first | omega | exact rfl)) ?_))
      refine StA.all a7 rfl (one_rc _ _ _ _ _ _ _ _ _ _ _) trivial fun w8 a8 x8 => ?_
      (repeat ((conv => whnf); refine G.seq ?_))
      exact ⟨_, told', a', dn', LA', Lc', O6, R6, B, by rw [hact], ⟨rfl, rfl, rfl, rfl, rfl, trivial⟩, by rw [hact]; exact (d6.non x7).ext x8 (fun k hk e => by have e' : k = tb := e; exact (hO6 k hk).elim (fun e => by have := hlo k e; omega) (fun e => by omega)) (fun k hk e => by have e' : k = tb := e; exact (hR6 k hk).elim (fun e => by have := hd.lr k e; omega) (fun e => by omega)), by rw [hact]; exact a8, by rw [hact]; exact hv.ext' x8 (fun k hk e => by have e' : k = tb := e; have := hr.lt k hk; omega), fun k hk ho => (hO6 k ho).elim (hap k hk) (fun e => by have := hr.lt k hk; omega), hO6, hR6, fun k hk => .inl hk, (x6.mono fun k h => .inl h).trans ((x7.mono fun _ x => x.elim).trans (x8.mono fun k e => .inr e))⟩
    by_cases c8q : kd = 8
    · have hact : actD x D = (loadD x.data D, 0) := by unfold actD; rw [if_neg (by omega), if_neg (by omega), if_neg (by omega), if_neg (by omega), if_neg (by omega), if_pos (ekd.trans c8q)]
      subst c8q
      (repeat ((conv => whnf); first | refine G.seq ?_ | refine G.region cxOk ?_ | refine G.cond_t rfl ?_ | refine G.cond_f rfl ?_ | refine Cmp.dt (by (omega)) ?_ | refine Cmp.df (by omega) ?_))
      refine Cl.mk (DvLoad_ret d5 cl5) ?_
      rintro _ w6 ⟨O6, R6, d6, hO6, hR6, x6⟩
      have s6 := x6.size
      have f6 := (hr.ext X5).ext' x6 (fun k hk ho => hap k hk ho)
      have a6 := a5.ext x6 (fun ho => by have := hlo _ ho; omega)
      have cx6 := clx x6
      have k1 := x6.cell k1 (fun ho => by have := hlo xb ho; omega)
      have k2 := x6.cell k2 (fun ho => by have := hlo xb ho; omega)
      (repeat ((conv => whnf); refine G.region cxOk ?_))
      refine RdA.whole a6 rfl trivial ?_
      (repeat ((conv => whnf); refine Rd.mk _ (by assumption) (by (exact trivial)) ?_))
      refine RdS.of cx6 rfl (fun _ _ => trivial) ?_
      (repeat ((conv => whnf); refine G.seq ?_))
      refine Cl.mk (refLoad_ret ⟨LA, Lc, told, a, dn, rfl, f6⟩) ?_
      rintro _ w7 ⟨h7, x7⟩
      obtain ⟨LA', Lc', told', a', dn', rfl, hv⟩ := h7
      have a7 := a6.ext x7 id
      have s7 := x7.size
      have lo6 := d6.lo
      (repeat ((conv => whnf); refine Nd.mk (by (first | omega | exact rfl)) ?_))
      refine StA.all a7 rfl (one_rc _ _ _ _ _ _ _ _ _ _ _) trivial fun w8 a8 x8 => ?_
      (repeat ((conv => whnf); refine G.seq ?_))
      exact ⟨_, told', a', dn', LA', Lc', O6, R6, B, by rw [hact], ⟨rfl, rfl, rfl, rfl, rfl, trivial⟩, by rw [hact]; exact (d6.non x7).ext x8 (fun k hk e => by have e' : k = tb := e; exact (hO6 k hk).elim (fun e => by have := hlo k e; omega) (fun e => by omega)) (fun k hk e => by have e' : k = tb := e; exact (hR6 k hk).elim (fun e => by have := hd.lr k e; omega) (fun e => by omega)), by rw [hact]; exact a8, by rw [hact]; exact hv.ext' x8 (fun k hk e => by have e' : k = tb := e; have := hr.lt k hk; omega), fun k hk ho => (hO6 k ho).elim (hap k hk) (fun e => by have := hr.lt k hk; omega), hO6, hR6, fun k hk => .inl hk, (x6.mono fun k h => .inl h).trans ((x7.mono fun _ x => x.elim).trans (x8.mono fun k e => .inr e))⟩
    have hact : actD x D = writeR x.at_ x.data D := by unfold actD; rw [if_neg (by omega), if_neg (by omega), if_neg (by omega), if_neg (by omega), if_neg (by omega), if_neg (by omega)]
    (repeat ((conv => whnf); first | refine G.seq ?_ | refine G.region cxOk ?_ | refine G.cond_f rfl ?_ | refine Cmp.df (by omega) ?_ | refine Rd.mk _ (by assumption) (by (exact trivial)) ?_))
    refine Cl.mk (DvWrite_ret d5 hfew (by omega) cl5 hBO ⟨hx.lo, hx.hi⟩) ?_
    rintro _ w6 ⟨rfl, O6, R6, d6, hO6, hR6, x6⟩
    have s6 := x6.size
    have f6 := (hr.ext X5).ext' x6 (fun k hk ho => hap k hk ho)
    have a6 := a5.ext x6 (fun ho => by have := hlo _ ho; omega)
    have cx6 := clx x6
    have k1 := x6.cell k1 (fun ho => by have := hlo xb ho; omega)
    have k2 := x6.cell k2 (fun ho => by have := hlo xb ho; omega)
    (repeat ((conv => whnf); refine G.region cxOk ?_))
    refine RdA.whole a6 rfl trivial ?_
    (repeat ((conv => whnf); refine Rd.mk _ (by assumption) (by (exact trivial)) ?_))
    refine RdS.of cx6 rfl (fun _ _ => trivial) ?_
    (repeat ((conv => whnf); refine G.seq ?_))
    refine Cl.mk (refWrite_ret ⟨LA, Lc, told, a, dn, rfl, f6⟩ hkD hfew.steps (by omega) ⟨hx.lo, hx.hi⟩ (by omega)) ?_
    rintro _ w7 ⟨v1, rfl, h7, x7⟩
    obtain ⟨LA', Lc', told', a', dn', rfl, hv⟩ := h7
    have a7 := a6.ext x7 id
    have s7 := x7.size
    have lo6 := d6.lo
    (repeat ((conv => whnf); refine Nd.mk (by (first | omega | exact rfl)) ?_))
    refine StA.all a7 rfl (one_rc _ _ _ _ _ _ _ _ _ _ _) trivial fun w8 a8 x8 => ?_
    (repeat ((conv => whnf); refine G.seq ?_))
    exact ⟨_, told', a', dn', LA', Lc', O6, R6, (Grow B w6 w7), by rw [hact], ⟨rfl, rfl, rfl, rfl, rfl, trivial⟩, by rw [hact]; exact (d6.non x7).ext x8 (fun k hk e => by have e' : k = tb := e; exact (hO6 k hk).elim (fun e => by have := hlo k e; omega) (fun e => by omega)) (fun k hk e => by have e' : k = tb := e; exact (hR6 k hk).elim (fun e => by have := hd.lr k e; omega) (fun e => by omega)), by rw [hact]; exact a8, by rw [hact]; exact hv.ext' x8 (fun k hk e => by have e' : k = tb := e; exact hk.elim (fun hk => by have := hr.lt k hk; omega) (fun hk => by omega)), fun k hk ho => hk.elim (fun hk => (hO6 k ho).elim (hap k hk) (fun e => by have := hr.lt k hk; omega)) (fun hk => by have := lo6 k ho; omega), hO6, hR6, fun k hk => hk.imp id (fun hk => by omega), (x6.mono fun k h => .inl h).trans ((x7.mono fun _ x => x.elim).trans (x8.mono fun k e => .inr e))⟩
  · rintro l' q ⟨e, told', a', dn', LA', Lc', O', R', B', he, hS, hd', at', hr', hap', hO', hR', hB', xq⟩
    have hlo := hd.lo
    have oq : OS q w3.heap.size 5 1 (.slice A5 x.data.length c5) x.data.length (bv x.data) := o5.ext xq (fun k hk e => by have := (hA5 k (blkOf_inBlk hk)).1; exact e.elim (fun e => by have := hlo k e; omega) (fun e => by have := a1.lt; omega))
    have t1 := a1.lt
    have t3 := r3.lt
    refine G.weak _ hS ?_
    (repeat ((conv => whnf); first | refine G.seq ?_ | refine G.region cxOk ?_ | refine G.block ?_))
    refine G.loop (α := Nat) (fun j => [(4, .pointer (some ⟨tb, 0, none⟩)), (6, .pointer (some ⟨rb, 0, none⟩)), (8, .slice A5 x.data.length c5), (9, .int .i64 e), (10, .int .i64 e), (11, .int .i64 (j : Int))])
      (fun j W => j ≤ x.data.length ∧ ∃ l, List.length l = x.data.length ∧ OS W w3.heap.size 5 1 (.slice A5 x.data.length c5) x.data.length (bv l) ∧ Ext (inBlk A5) q W) (fun j => x.data.length - j) 0 ⟨rfl, rfl, rfl, rfl, rfl, rfl, trivial⟩ ⟨Nat.zero_le _, x.data, rfl, oq, Ext.refl _ _⟩ ?_
    rintro j W ⟨hj, l, hl, oW, xW⟩
    (repeat ((conv => whnf); first | refine G.seq ?_ | refine G.region cxOk ?_))
    refine Cmp.ds (fun hlt => ?_) (fun hge => ?_)
    · have hjl : j < l.length := by omega
      obtain ⟨ob, hob, hobge, hput⟩ := OS.put oW (i := j) (by rw [bv_length]; omega)
      subst hob
      have gj : W.cell? ⟨ob, j, none⟩ = some (.int .u8 ((l[j].toNat : Nat) : Int)) := by
        obtain ⟨A6, c6, e6, _, hcl6, _⟩ := oW.form
        obtain ⟨rfl, -, rfl⟩ := Value.slice.inj e6
        have := Cells.get hcl6 (i := j) (v := .int .u8 ((l[j].toNat : Nat) : Int)) (by simp [bv, hjl])
        rwa [Nat.zero_add] at this
      (repeat ((conv => whnf); first | refine G.seq ?_ | refine G.region cxOk ?_ | refine G.block ?_ | refine G.cond_t rfl ?_ | refine G.skip ?_))
      refine Ix1.mk ob 0 j rfl (by omega) (by omega) ?_
      (repeat ((conv => whnf); first | ((with_reducible refine Ev.mk _ (wrap_u8_nat _) ?_)) | refine Rd.mk _ (by assumption) (by (exact trivial)) ?_))
      refine Ix1.mk ob 0 j rfl (by omega) (by omega) ?_
      (repeat ((conv => whnf); refine Nd.mk (by (first | omega | exact ⟨rfl, rfl⟩)) ?_))
      refine hput _ _ _ trivial fun w7 o7 x7 => ?_
      (repeat ((conv => whnf); first | refine G.region cxOk ?_ | ((with_reducible refine Ev.mk _ (IntWalk.i64_in _ ?_) ?_; · omega))))
      exact ⟨j + 1, ⟨rfl, rfl, rfl, rfl, rfl, rfl, trivial⟩, ⟨by omega, l.set j (UInt8.ofNat (l[j].toNat + 1)), by rw [List.length_set]; exact hl, by rw [show bv (l.set j (UInt8.ofNat (l[j].toNat + 1))) = (bv l).set j (.int .u8 (((UInt8.ofNat (l[j].toNat + 1)).toNat : Nat) : Int)) from by simp [bv, List.map_set]]; exact o7, xW.trans (x7.mono fun k hk => by subst hk; exact ⟨0, none, rfl⟩)⟩, by omega⟩
    obtain rfl : j = x.data.length := by omega
    have xqW : Ext (fun k => O k ∨ k = tb ∨ inBlk A5 k) w5 W := (xq.mono fun k hk => hk.imp id .inl).trans (xW.mono fun k hk => .inr (.inr hk))
    have n5O : ∀ k, O' k → ¬ inBlk A5 k := fun k hk hk' => by have := hA5 k hk'; exact (hO' k hk).elim (fun e => by have := hlo k e; omega) (fun e => by omega)
    have n5R : ∀ k, R' k → ¬ inBlk A5 k := fun k hk hk' => by have := hA5 k hk'; exact (hR' k hk).elim (fun e => by have := hd.lr k e; omega) (fun e => by omega)
    have n5B : ∀ k, B' k → ¬ inBlk A5 k := fun k hk hk' => by have := hA5 k hk'; exact (hB' k hk).elim (fun e => by have := hr.lt k e; omega) (fun e => by omega)
    have aW := at'.ext xW (fun hk => by have := hA5 _ hk; have := hN2.ge; omega)
    have rW := r5.ext xqW (fun e => e.elim (fun e => by have := hlo _ e; omega) (fun e => e.elim (fun e => by omega) (fun e => by have := hA5 _ e; omega)))
    have dW := hd'.ext xW n5O n5R
    have rfW := hr'.ext' xW n5B
    (repeat ((conv => whnf); first | refine G.seq ?_ | refine G.region cxOk ?_ | refine G.cond_f rfl ?_ | refine G.exit ?_))
    refine RdA.whole aW rfl trivial ?_
    (repeat ((conv => whnf); first | refine Cmp.dt (by (first | (with_reducible rfl) | omega)) ?_ | refine Nd.mk (by (first | omega | exact rfl)) ?_))
    refine StA.all rW rfl (one_rc _ _ _ _ _ _ _ _ _ _ _) trivial fun w8 r8 x8 => ?_
    (repeat ((conv => whnf); refine G.ret ?_))
    refine RdA.whole r8 rfl trivial ?_
    have l3' : rb < w5.heap.size := by omega
    have x08 : Ext O w w8 := (((X5.mono fun _ x => x.elim) : Ext O w w5).trans' xqW (fun _ _ x => x) (fun k hk e => e.elim id (fun e => e.elim (fun e => by omega) (fun e => by have := (hA5 k e).1; omega)))).trans' x8 (fun _ _ x => x) (fun k hk e => by have e' : k = rb := e; omega)
    have d8 := dW.ext x8 (fun k hk e => by have e' : k = rb := e; exact (hO' k hk).elim (fun e => by have := hlo k e; omega) (fun e => by omega)) (fun k hk e => by have e' : k = rb := e; exact (hR' k hk).elim (fun e => by have := hd.lr k e; omega) (fun e => by omega))
    have f8 := rfW.ext' x8 (fun k hk e => by have e' : k = rb := e; exact (hB' k hk).elim (fun e => by have := hr.lt k e; omega) (fun e => by omega))
    (repeat ((conv => whnf); refine G.seq ?_))
    exact Don.mk ⟨_, O', R', B', rfl, ⟨d8, ⟨LA', Lc', told', a', dn', rfl, f8⟩, hap'⟩, fun k hk => (hO' k hk).imp id (fun e => by omega), fun k hk => (hR' k hk).imp id (fun e => by omega), fun k hk => (hB' k hk).imp id (fun e => by omega), x08⟩
end Go.Proofs.Ytfphlbogblldbaa

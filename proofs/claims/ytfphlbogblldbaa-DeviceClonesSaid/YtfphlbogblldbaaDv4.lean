import Derived.Test.YtfphlbogblldbaaDv3

/-
  What a step does: a device's bytes are made safe, or bytes are written.
-/

namespace Go.Proofs.Ytfphlbogblldbaa

open Go Sx

set_option linter.unusedVariables false

set_option linter.unusedSimpArgs false

set_option maxRecDepth 100000

variable {w : World} {O R : Nat → Prop} {db : Nat} {D : DV}

theorem DevC.old {As Af AL pf : Option Addr} {cs cf cL : Nat} (h : DevC w O R db D As Af AL pf cs cf cL) : (∀ k, inBlk As k → k < w.heap.size) ∧ (∀ k, inBlk Af k → k < w.heap.size) ∧ ∀ k, inBlk AL k → k < w.heap.size :=
  ⟨fun k hk => h.os.lt (blkOf_of hk), fun k hk => h.of_.lt (blkOf_of hk), fun k hk => h.oL.lt (blkOf_of hk)⟩
/-- What it owns behind a step: what it owned, and what is new. -/
abbrev More (O : Nat → Prop) (w w' : World) : Nat → Prop := fun k => (O k ∨ w.heap.size ≤ k) ∧ k < w'.heap.size
/-- Its seen bytes are others: laid where they were, or anew; then told. -/
theorem DevC.seen {As Af AL pf : Option Addr} {cs cf cL : Nat} (h : DevC w O R db D As Af AL pf cs cf cL) {w1 w2 : World} {A' : Option Addr} {c' : Nat} {l : List UInt8} (x1 : Ext (inBlk As) w w1) (o1 : OB w1 0 (.slice A' l.length c') l) (hA : ∀ k, inBlk A' k → inBlk As k ∨ w.heap.size ≤ k)
    (a2 : At w2 db (dcells { D with seen := l } A' Af AL pf c' cf cL) 59 (0, 0)) (x2 : Ext (· = db) w1 w2) : DevC w2 (More O w w2) R db { D with seen := l } A' Af AL pf c' cf cL := by
  have hdb := h.at_.lt
  have hold := h.old
  have hs12 := Nat.le_trans x1.size x2.size
  have nAdb : ∀ k, inBlk A' k → k ≠ db := fun k hk e => (hA k hk).elim (fun h' => (h.ks k h').2.1 e) (fun h' => by omega)
  have x12 : Ext (fun k => inBlk As k ∨ k = db) w w2 := (x1.mono fun _ h => .inl h).trans (x2.mono fun _ h => .inr h)
  have up : ∀ k, O k → More O w w2 k := fun k hk => ⟨.inl hk, Nat.lt_of_lt_of_le (h.lo k hk) hs12⟩
  refine ⟨a2, o1.ext x2 (fun k hk => nAdb k (blkOf_inBlk hk)), h.of_.ext x12 (fun k hk e => ?_), h.oL.ext x12 (fun k hk e => ?_), up _ h.odb, fun k hk => ⟨⟨(hA k hk).imp (fun h' => (h.ks k h').1) id, Nat.lt_of_lt_of_le (o1.lt (blkOf_of hk)) x2.size⟩, nAdb k hk, fun hf => ?_, fun hL => ?_⟩, fun k hk => ⟨up k (h.kf k hk).1, (h.kf k hk).2⟩, fun k hk => ⟨up k (h.kL k hk).1, (h.kL k hk).2⟩, h.fl.ext x12 (fun k hk e => ?_), fun k hk => hk.2, fun k hk => Nat.lt_of_lt_of_le (h.lr k hk) hs12, fun k hk ho => ?_⟩
  · exact e.elim (fun h' => (h.ks k h').2.2.1 (blkOf_inBlk hk)) (h.kf k (blkOf_inBlk hk)).2.1
  · exact e.elim (fun h' => (h.ks k h').2.2.2 (blkOf_inBlk hk)) (h.kL k (blkOf_inBlk hk)).2
  · exact (hA k hk).elim (fun h' => (h.ks k h').2.2.1 hf) (fun h' => by have := hold.2.1 k hf; omega)
  · exact (hA k hk).elim (fun h' => (h.ks k h').2.2.2 hL) (fun h' => by have := hold.2.2 k hL; omega)
  · exact e.elim (fun h' => h.ro k hk (h.ks k h').1) (fun h' => h.ro k hk (by rw [h']; exact h.odb))
  · exact ho.1.elim (h.ro k hk) (fun h' => by have := h.lr k hk; omega)
/-- Its loose writes are others. -/
theorem DevC.loose {As Af AL pf : Option Addr} {cs cf cL : Nat} (h : DevC w O R db D As Af AL pf cs cf cL) {w1 w2 : World} {A' : Option Addr} {c' : Nat} {l : List LW} (x1 : Ext (inBlk AL) w w1) (o1 : OLw w1 0 (.slice A' l.length c') l) (hA : ∀ k, inBlk A' k → inBlk AL k ∨ w.heap.size ≤ k)
    (a2 : At w2 db (dcells { D with L := l } As Af A' pf cs cf c') 59 (0, 0)) (x2 : Ext (· = db) w1 w2) : DevC w2 (More O w w2) R db { D with L := l } As Af A' pf cs cf c' := by
  have hdb := h.at_.lt
  have hold := h.old
  have hs12 := Nat.le_trans x1.size x2.size
  have nAdb : ∀ k, inBlk A' k → k ≠ db := fun k hk e => (hA k hk).elim (fun h' => (h.kL k h').2 e) (fun h' => by omega)
  have x12 : Ext (fun k => inBlk AL k ∨ k = db) w w2 := (x1.mono fun _ h => .inl h).trans (x2.mono fun _ h => .inr h)
  have up : ∀ k, O k → More O w w2 k := fun k hk => ⟨.inl hk, Nat.lt_of_lt_of_le (h.lo k hk) hs12⟩
  refine ⟨a2, h.os.ext x12 (fun k hk e => ?_), h.of_.ext x12 (fun k hk e => ?_), o1.ext x2 (fun k hk => nAdb k (blkOf_inBlk hk)), up _ h.odb, fun k hk => ⟨up k (h.ks k hk).1, (h.ks k hk).2.1, (h.ks k hk).2.2.1, fun hL => ?_⟩, fun k hk => ⟨up k (h.kf k hk).1, (h.kf k hk).2.1, fun hL => ?_⟩, fun k hk => ⟨⟨(hA k hk).imp (fun h' => (h.kL k h').1) id, Nat.lt_of_lt_of_le (o1.lt (blkOf_of hk)) x2.size⟩, nAdb k hk⟩, h.fl.ext x12 (fun k hk e => ?_), fun k hk => hk.2, fun k hk => Nat.lt_of_lt_of_le (h.lr k hk) hs12, fun k hk ho => ?_⟩
  · exact e.elim (h.ks k (blkOf_inBlk hk)).2.2.2 (h.ks k (blkOf_inBlk hk)).2.1
  · exact e.elim (h.kf k (blkOf_inBlk hk)).2.2 (h.kf k (blkOf_inBlk hk)).2.1
  · exact (hA k hL).elim (h.ks k hk).2.2.2 (fun h' => by have := hold.1 k hk; omega)
  · exact (hA k hL).elim (h.kf k hk).2.2 (fun h' => by have := hold.2.1 k hk; omega)
  · exact e.elim (fun h' => h.ro k hk (h.kL k h').1) (fun h' => h.ro k hk (by rw [h']; exact h.odb))
  · exact ho.1.elim (h.ro k hk) (fun h' => by have := h.lr k hk; omega)
/-- Its safe bytes are others. -/
theorem DevC.safe {As Af AL pf : Option Addr} {cs cf cL : Nat} (h : DevC w O R db D As Af AL pf cs cf cL) {w1 w2 : World} {A' : Option Addr} {c' : Nat} {l : List UInt8} (x1 : Ext (inBlk Af) w w1) (o1 : OB w1 0 (.slice A' l.length c') l) (hA : ∀ k, inBlk A' k → inBlk Af k ∨ w.heap.size ≤ k)
    (a2 : At w2 db (dcells { D with safe := l } As A' AL pf cs c' cL) 59 (0, 0)) (x2 : Ext (· = db) w1 w2) : DevC w2 (More O w w2) R db { D with safe := l } As A' AL pf cs c' cL := by
  have hdb := h.at_.lt
  have hold := h.old
  have hs12 := Nat.le_trans x1.size x2.size
  have nAdb : ∀ k, inBlk A' k → k ≠ db := fun k hk e => (hA k hk).elim (fun h' => (h.kf k h').2.1 e) (fun h' => by omega)
  have x12 : Ext (fun k => inBlk Af k ∨ k = db) w w2 := (x1.mono fun _ h => .inl h).trans (x2.mono fun _ h => .inr h)
  have up : ∀ k, O k → More O w w2 k := fun k hk => ⟨.inl hk, Nat.lt_of_lt_of_le (h.lo k hk) hs12⟩
  refine ⟨a2, h.os.ext x12 (fun k hk e => ?_), o1.ext x2 (fun k hk => nAdb k (blkOf_inBlk hk)), h.oL.ext x12 (fun k hk e => ?_), up _ h.odb, fun k hk => ⟨up k (h.ks k hk).1, (h.ks k hk).2.1, fun hf => ?_, (h.ks k hk).2.2.2⟩, fun k hk => ⟨⟨(hA k hk).imp (fun h' => (h.kf k h').1) id, Nat.lt_of_lt_of_le (o1.lt (blkOf_of hk)) x2.size⟩, nAdb k hk, fun hL => ?_⟩, fun k hk => ⟨up k (h.kL k hk).1, (h.kL k hk).2⟩, h.fl.ext x12 (fun k hk e => ?_), fun k hk => hk.2, fun k hk => Nat.lt_of_lt_of_le (h.lr k hk) hs12, fun k hk ho => ?_⟩
  · exact e.elim (h.ks k (blkOf_inBlk hk)).2.2.1 (h.ks k (blkOf_inBlk hk)).2.1
  · exact e.elim (fun h' => (h.kf k h').2.2 (blkOf_inBlk hk)) (h.kL k (blkOf_inBlk hk)).2
  · exact (hA k hf).elim (h.ks k hk).2.2.1 (fun h' => by have := hold.1 k hk; omega)
  · exact (hA k hk).elim (fun h' => (h.kf k h').2.2 hL) (fun h' => by have := hold.2.2 k hL; omega)
  · exact e.elim (fun h' => h.ro k hk (h.kf k h').1) (fun h' => h.ro k hk (by rw [h']; exact h.odb))
  · exact ho.1.elim (h.ro k hk) (fun h' => by have := h.lr k hk; omega)
/-- What else it tells is another. -/
theorem DevC.word {As Af AL pf : Option Addr} {cs cf cL : Nat} (h : DevC w O R db D As Af AL pf cs cf cL) {w2 : World} {D' : DV} (e1 : D'.seen = D.seen) (e2 : D'.safe = D.safe) (e3 : D'.L = D.L) {pf' : Option Addr} (x2 : Ext (· = db) w w2)
    (a2 : At w2 db (dcells D' As Af AL pf' cs cf cL) 59 (0, 0)) (hf : FailAt w R pf' D'.fail) : DevC w2 O R db D' As Af AL pf' cs cf cL :=
  ⟨a2, by rw [e1]; exact h.os.ext x2 (fun k hk => (h.ks k (blkOf_inBlk hk)).2.1), by rw [e2]; exact h.of_.ext x2 (fun k hk => (h.kf k (blkOf_inBlk hk)).2.1), by rw [e3]; exact h.oL.ext x2 (fun k hk => (h.kL k (blkOf_inBlk hk)).2), h.odb, h.ks, h.kf, h.kL,
    hf.ext x2 (fun k hk e => h.ro k hk (by rw [e]; exact h.odb)), fun k hk => Nat.lt_of_lt_of_le (h.lo k hk) x2.size, fun k hk => Nat.lt_of_lt_of_le (h.lr k hk) x2.size, h.ro⟩
theorem Left.of {O' : Nat → Prop} {w' : World} (h : DevAt w' O' R db D) (hO : ∀ k, O' k → O k ∨ w.heap.size ≤ k) (x : Ext O w w') : Left O R w db D w' := ⟨O', R, h, hO, fun _ h => .inl h, x⟩
theorem sync1_ret {xb : Nat} (h : DevAt w O R db D) (hx : w.cell? ⟨xb, 0, none⟩ = some (dp db)) (hxb : ¬ O xb) :
    Ret cx.P 32 #[.pointer (some ⟨xb, 0, none⟩)] w fun _ w' => Left O R w db (syncD D) w' := by
  refine Ret.e1 (C := cx) (n := 12) cxOk Try.func32 rfl rfl rfl ?_
  obtain ⟨hk, As, Af, AL, pf, cs, cf, cL, h⟩ := h
  have xd : Ext Non w w.drew := Ext.drew _ _
  have hd := h.ext xd (fun _ _ x => x) (fun _ _ x => x)
  have g0 := xd.cell hx id
  have g1 : w.drew.cell? ⟨db, 1, none⟩ = some (.slice As D.seen.length cs) := hd.at_.cell (i := 1) rfl
  obtain ⟨_, _, e, hcc, hcl, _⟩ := hd.os.form
  obtain ⟨rfl, -, rfl⟩ := Value.slice.inj e
  have := hk.most
  have := hk.seen
  have nxb : ¬ xb = db := fun e => hxb (by rw [e]; exact h.odb)
  refine G.draw cxOk (fun k => k = db) (.tk 0 <| .tk 1 <| .tk 2 <| .tk 3 <| .tk 4 <| .w 5 <| .w 6 <| .tk 7 <| .tk 8 <| .w 9 <| .tk 10 <| .tk 11 <| .z 12) (by kernel_rfl) ?_
  (repeat ((conv => whnf); first | refine G.seq ?_ | refine G.region cxOk ?_ | refine G.block ?_ | refine G.cond_t rfl ?_ | refine G.cond_f rfl ?_ | refine G.skip ?_ | refine G.exit ?_ | refine G.ret ?_ | refine Cmp.dt (by (first | (with_reducible rfl) | omega)) ?_ | refine Cmp.df (by omega) ?_ | (first | (with_reducible refine Ev.mk _ (u32_xor _ _) ?_) | (with_reducible refine Ev.mk _ (u32_and _ _) ?_) | (with_reducible refine Ev.mk _ (u32_or _ _) ?_) | (with_reducible refine Ev.mk _ (u32_add _ _) ?_) | (with_reducible refine Ev.mk _ (u32_not _) ?_) | (with_reducible refine Ev.mk _ (u8_u32 _) ?_) | refine Ix1.mk _ _ _ rfl (by decide) rfl ?_) | (first | (with_reducible refine Ev.mk _ (IntWalk.i64_in _ ?_) ?_; · omega) | (with_reducible refine Ev.mk _ (wrap_u8_nat _) ?_) | (with_reducible refine Ev.mk _ (shr8 _) ?_) | (with_reducible refine Ev.mk _ (Int.toNat_natCast _) ?_) | (with_reducible refine Ev.mk _ (Int.toNat_ofNat _) ?_)) | refine @Ev.keep (List Value) _ _ ?_ | refine Rd.mk _ (by assumption) (by (first | exact trivial | exact fun x => x)) ?_ | refine Nd.mk (by (first | omega | exact ⟨rfl, rfl⟩ | exact ⟨rfl, by decide⟩ | exact ⟨by decide, rfl⟩ | exact ⟨by omega, by omega, by omega, by (simp [ti5]; omega), rfl⟩ | exact ⟨rfl, Nat.le_of_ble_eq_true rfl⟩ | exact rfl | decide)) ?_))
  refine Rd.mk _ g0 nxb ?_
  (repeat ((conv => whnf); first | refine G.seq ?_ | refine G.region cxOk ?_ | refine G.block ?_ | refine G.cond_t rfl ?_ | refine G.cond_f rfl ?_ | refine G.skip ?_ | refine G.exit ?_ | refine G.ret ?_ | refine Cmp.dt (by (first | (with_reducible rfl) | omega)) ?_ | refine Cmp.df (by omega) ?_ | (first | (with_reducible refine Ev.mk _ (u32_xor _ _) ?_) | (with_reducible refine Ev.mk _ (u32_and _ _) ?_) | (with_reducible refine Ev.mk _ (u32_or _ _) ?_) | (with_reducible refine Ev.mk _ (u32_add _ _) ?_) | (with_reducible refine Ev.mk _ (u32_not _) ?_) | (with_reducible refine Ev.mk _ (u8_u32 _) ?_) | refine Ix1.mk _ _ _ rfl (by decide) rfl ?_) | (first | (with_reducible refine Ev.mk _ (IntWalk.i64_in _ ?_) ?_; · omega) | (with_reducible refine Ev.mk _ (wrap_u8_nat _) ?_) | (with_reducible refine Ev.mk _ (shr8 _) ?_) | (with_reducible refine Ev.mk _ (Int.toNat_natCast _) ?_) | (with_reducible refine Ev.mk _ (Int.toNat_ofNat _) ?_)) | refine @Ev.keep (List Value) _ _ ?_ | refine Rd.mk _ (by assumption) (by (first | exact trivial | exact fun x => x)) ?_ | refine Nd.mk (by (first | omega | exact ⟨rfl, rfl⟩ | exact ⟨rfl, by decide⟩ | exact ⟨by decide, rfl⟩ | exact ⟨by omega, by omega, by omega, by (simp [ti5]; omega), rfl⟩ | exact ⟨rfl, Nat.le_of_ble_eq_true rfl⟩ | exact rfl | decide)) ?_))
  refine Rd.mk _ g0 nxb ?_
  (repeat ((conv => whnf); first | refine G.seq ?_ | refine G.region cxOk ?_ | refine G.block ?_ | refine G.cond_t rfl ?_ | refine G.cond_f rfl ?_ | refine G.skip ?_ | refine G.exit ?_ | refine G.ret ?_ | refine Cmp.dt (by (first | (with_reducible rfl) | omega)) ?_ | refine Cmp.df (by omega) ?_ | (first | (with_reducible refine Ev.mk _ (u32_xor _ _) ?_) | (with_reducible refine Ev.mk _ (u32_and _ _) ?_) | (with_reducible refine Ev.mk _ (u32_or _ _) ?_) | (with_reducible refine Ev.mk _ (u32_add _ _) ?_) | (with_reducible refine Ev.mk _ (u32_not _) ?_) | (with_reducible refine Ev.mk _ (u8_u32 _) ?_) | refine Ix1.mk _ _ _ rfl (by decide) rfl ?_) | (first | (with_reducible refine Ev.mk _ (IntWalk.i64_in _ ?_) ?_; · omega) | (with_reducible refine Ev.mk _ (wrap_u8_nat _) ?_) | (with_reducible refine Ev.mk _ (shr8 _) ?_) | (with_reducible refine Ev.mk _ (Int.toNat_natCast _) ?_) | (with_reducible refine Ev.mk _ (Int.toNat_ofNat _) ?_)) | refine @Ev.keep (List Value) _ _ ?_ | refine Rd.mk _ (by assumption) (by (first | exact trivial | exact fun x => x)) ?_ | refine Nd.mk (by (first | omega | exact ⟨rfl, rfl⟩ | exact ⟨rfl, by decide⟩ | exact ⟨by decide, rfl⟩ | exact ⟨by omega, by omega, by omega, by (simp [ti5]; omega), rfl⟩ | exact ⟨rfl, Nat.le_of_ble_eq_true rfl⟩ | exact rfl | decide)) ?_))
  refine Rd.mk _ g0 nxb ?_
  (repeat ((conv => whnf); first | refine G.seq ?_ | refine G.region cxOk ?_ | refine G.block ?_ | refine G.cond_t rfl ?_ | refine G.cond_f rfl ?_ | refine G.skip ?_ | refine G.exit ?_ | refine G.ret ?_ | refine Cmp.dt (by (first | (with_reducible rfl) | omega)) ?_ | refine Cmp.df (by omega) ?_ | (first | (with_reducible refine Ev.mk _ (u32_xor _ _) ?_) | (with_reducible refine Ev.mk _ (u32_and _ _) ?_) | (with_reducible refine Ev.mk _ (u32_or _ _) ?_) | (with_reducible refine Ev.mk _ (u32_add _ _) ?_) | (with_reducible refine Ev.mk _ (u32_not _) ?_) | (with_reducible refine Ev.mk _ (u8_u32 _) ?_) | refine Ix1.mk _ _ _ rfl (by decide) rfl ?_) | (first | (with_reducible refine Ev.mk _ (IntWalk.i64_in _ ?_) ?_; · omega) | (with_reducible refine Ev.mk _ (wrap_u8_nat _) ?_) | (with_reducible refine Ev.mk _ (shr8 _) ?_) | (with_reducible refine Ev.mk _ (Int.toNat_natCast _) ?_) | (with_reducible refine Ev.mk _ (Int.toNat_ofNat _) ?_)) | refine @Ev.keep (List Value) _ _ ?_ | refine Rd.mk _ (by assumption) (by (first | exact trivial | exact fun x => x)) ?_ | refine Nd.mk (by (first | omega | exact ⟨rfl, rfl⟩ | exact ⟨rfl, by decide⟩ | exact ⟨by decide, rfl⟩ | exact ⟨by omega, by omega, by omega, by (simp [ti5]; omega), rfl⟩ | exact ⟨rfl, Nat.le_of_ble_eq_true rfl⟩ | exact rfl | decide)) ?_))
  refine Cl.dr (Clone_ret (c := cs) hcl (by omega)) (fun _ _ hp => hp.2.mono fun _ x => x.elim) ?_
  rintro _ w2 ⟨o2, x2⟩
  obtain ⟨A2, c2, rfl, hc2, _, hA2⟩ := OB.form o2
  have h2 := hd.ext x2 (fun _ _ x => x) (fun _ _ x => x)
  (repeat ((conv => whnf); first | refine G.seq ?_ | refine G.region cxOk ?_ | refine G.block ?_ | refine G.cond_t rfl ?_ | refine G.cond_f rfl ?_ | refine G.skip ?_ | refine G.exit ?_ | refine G.ret ?_ | refine Cmp.dt (by (first | (with_reducible rfl) | omega)) ?_ | refine Cmp.df (by omega) ?_ | (first | (with_reducible refine Ev.mk _ (u32_xor _ _) ?_) | (with_reducible refine Ev.mk _ (u32_and _ _) ?_) | (with_reducible refine Ev.mk _ (u32_or _ _) ?_) | (with_reducible refine Ev.mk _ (u32_add _ _) ?_) | (with_reducible refine Ev.mk _ (u32_not _) ?_) | (with_reducible refine Ev.mk _ (u8_u32 _) ?_) | refine Ix1.mk _ _ _ rfl (by decide) rfl ?_) | (first | (with_reducible refine Ev.mk _ (IntWalk.i64_in _ ?_) ?_; · omega) | (with_reducible refine Ev.mk _ (wrap_u8_nat _) ?_) | (with_reducible refine Ev.mk _ (shr8 _) ?_) | (with_reducible refine Ev.mk _ (Int.toNat_natCast _) ?_) | (with_reducible refine Ev.mk _ (Int.toNat_ofNat _) ?_)) | refine @Ev.keep (List Value) _ _ ?_ | refine Rd.mk _ (by assumption) (by (first | exact trivial | exact fun x => x)) ?_ | refine Nd.mk (by (first | omega | exact ⟨rfl, rfl⟩ | exact ⟨rfl, by decide⟩ | exact ⟨by decide, rfl⟩ | exact ⟨by omega, by omega, by omega, by (simp [ti5]; omega), rfl⟩ | exact ⟨rfl, Nat.le_of_ble_eq_true rfl⟩ | exact rfl | decide)) ?_))
  refine St1.mk h2.at_ (by exact (by decide : 2 < 7)) (by decide) rfl fun w3 a3 x3 => ?_
  have h3 := DevC.safe hd (x2.mono fun _ x => x.elim) (OB.up o2 (Nat.zero_le _)) (fun k hk => .inr (hA2 k hk)) a3 x3
  (repeat ((conv => whnf); first | refine G.seq ?_ | refine G.region cxOk ?_ | refine G.block ?_ | refine G.cond_t rfl ?_ | refine G.cond_f rfl ?_ | refine G.skip ?_ | refine G.exit ?_ | refine G.ret ?_ | refine Cmp.dt (by (first | (with_reducible rfl) | omega)) ?_ | refine Cmp.df (by omega) ?_ | (first | (with_reducible refine Ev.mk _ (u32_xor _ _) ?_) | (with_reducible refine Ev.mk _ (u32_and _ _) ?_) | (with_reducible refine Ev.mk _ (u32_or _ _) ?_) | (with_reducible refine Ev.mk _ (u32_add _ _) ?_) | (with_reducible refine Ev.mk _ (u32_not _) ?_) | (with_reducible refine Ev.mk _ (u8_u32 _) ?_) | refine Ix1.mk _ _ _ rfl (by decide) rfl ?_) | (first | (with_reducible refine Ev.mk _ (IntWalk.i64_in _ ?_) ?_; · omega) | (with_reducible refine Ev.mk _ (wrap_u8_nat _) ?_) | (with_reducible refine Ev.mk _ (shr8 _) ?_) | (with_reducible refine Ev.mk _ (Int.toNat_natCast _) ?_) | (with_reducible refine Ev.mk _ (Int.toNat_ofNat _) ?_)) | refine @Ev.keep (List Value) _ _ ?_ | refine Rd.mk _ (by assumption) (by (first | exact trivial | exact fun x => x)) ?_ | refine Nd.mk (by (first | omega | exact ⟨rfl, rfl⟩ | exact ⟨rfl, by decide⟩ | exact ⟨by decide, rfl⟩ | exact ⟨by omega, by omega, by omega, by (simp [ti5]; omega), rfl⟩ | exact ⟨rfl, Nat.le_of_ble_eq_true rfl⟩ | exact rfl | decide)) ?_))
  refine St1.mk a3 (by exact (by decide : 3 < 7)) (by decide) trivial fun w4 a4 x4 => ?_
  have h4 := DevC.loose (l := []) h3 (Ext.refl _ _) (OS.nil _ _ _ _) (fun k hk => inBlk_none hk) a4 x4
  (repeat ((conv => whnf); first | refine G.seq ?_ | refine G.region cxOk ?_ | refine G.block ?_ | refine G.cond_t rfl ?_ | refine G.cond_f rfl ?_ | refine G.skip ?_ | refine G.exit ?_ | refine G.ret ?_ | refine Cmp.dt (by (first | (with_reducible rfl) | omega)) ?_ | refine Cmp.df (by omega) ?_ | (first | (with_reducible refine Ev.mk _ (u32_xor _ _) ?_) | (with_reducible refine Ev.mk _ (u32_and _ _) ?_) | (with_reducible refine Ev.mk _ (u32_or _ _) ?_) | (with_reducible refine Ev.mk _ (u32_add _ _) ?_) | (with_reducible refine Ev.mk _ (u32_not _) ?_) | (with_reducible refine Ev.mk _ (u8_u32 _) ?_) | refine Ix1.mk _ _ _ rfl (by decide) rfl ?_) | (first | (with_reducible refine Ev.mk _ (IntWalk.i64_in _ ?_) ?_; · omega) | (with_reducible refine Ev.mk _ (wrap_u8_nat _) ?_) | (with_reducible refine Ev.mk _ (shr8 _) ?_) | (with_reducible refine Ev.mk _ (Int.toNat_natCast _) ?_) | (with_reducible refine Ev.mk _ (Int.toNat_ofNat _) ?_)) | refine @Ev.keep (List Value) _ _ ?_ | refine Rd.mk _ (by assumption) (by (first | exact trivial | exact fun x => x)) ?_ | refine Nd.mk (by (first | omega | exact ⟨rfl, rfl⟩ | exact ⟨rfl, by decide⟩ | exact ⟨by decide, rfl⟩ | exact ⟨by omega, by omega, by omega, by (simp [ti5]; omega), rfl⟩ | exact ⟨rfl, Nat.le_of_ble_eq_true rfl⟩ | exact rfl | decide)) ?_))
  refine Don.mk (Left.of ⟨⟨hk.most, hk.seen, hk.seen, fun x hx => (by cases hx), fun x hx => (by cases hx)⟩, _, _, _, _, _, _, _, h4⟩ (fun k hk' => hk'.1.elim (fun h' => h'.1) fun h' => .inr (Nat.le_trans (Nat.le_trans x2.size x3.size) h')) ?_)
  have odb := h.odb
  exact (xd.mono fun _ x => x.elim).trans ((x2.mono fun _ x => x.elim).trans ((x3.mono fun k e => by subst e; exact odb).trans (x4.mono fun k e => by subst e; exact odb)))
theorem beat1_ret (h : DevAt w O R db D) : Ret cx.P 38 #[] w fun _ w' => Left O R w db D w' := by
  refine Ret.e0 (C := cx) (n := 0) cxOk Try.func38 rfl rfl ?_
  (repeat ((conv => whnf); first | refine G.seq ?_ | refine G.region cxOk ?_ | refine G.block ?_ | refine G.cond_t rfl ?_ | refine G.cond_f rfl ?_ | refine G.skip ?_ | refine G.exit ?_ | refine G.ret ?_ | refine Cmp.dt (by (first | (with_reducible rfl) | omega)) ?_ | refine Cmp.df (by omega) ?_ | (first | (with_reducible refine Ev.mk _ (u32_xor _ _) ?_) | (with_reducible refine Ev.mk _ (u32_and _ _) ?_) | (with_reducible refine Ev.mk _ (u32_or _ _) ?_) | (with_reducible refine Ev.mk _ (u32_add _ _) ?_) | (with_reducible refine Ev.mk _ (u32_not _) ?_) | (with_reducible refine Ev.mk _ (u8_u32 _) ?_) | refine Ix1.mk _ _ _ rfl (by decide) rfl ?_) | (first | (with_reducible refine Ev.mk _ (IntWalk.i64_in _ ?_) ?_; · omega) | (with_reducible refine Ev.mk _ (wrap_u8_nat _) ?_) | (with_reducible refine Ev.mk _ (shr8 _) ?_) | (with_reducible refine Ev.mk _ (Int.toNat_natCast _) ?_) | (with_reducible refine Ev.mk _ (Int.toNat_ofNat _) ?_)) | refine @Ev.keep (List Value) _ _ ?_ | refine Rd.mk _ (by assumption) (by (first | exact trivial | exact fun x => x)) ?_ | refine Nd.mk (by (first | omega | exact ⟨rfl, rfl⟩ | exact ⟨rfl, by decide⟩ | exact ⟨by decide, rfl⟩ | exact ⟨by omega, by omega, by omega, by (simp [ti5]; omega), rfl⟩ | exact ⟨rfl, Nat.le_of_ble_eq_true rfl⟩ | exact rfl | decide)) ?_))
  exact Don.mk (Left.of h (fun k hk => .inl hk) (Ext.refl _ _))
/-! ### A write -/
theorem DevC.ce {B : Nat} {w w' : World} {As Af AL pf : Option Addr} {cs cf cL : Nat} (h : DevC w O R db D As Af AL pf cs cf cL) (hc : CE B w w') : DevC w' O R db D As Af AL pf cs cf cL :=
  ⟨hc.at_ h.at_, h.os.ce hc, h.of_.ce hc, h.oL.ce hc, h.odb, h.ks, h.kf, h.kL, by
    have hf := h.fl
    cases hD : D.fail with
    | none => rw [hD] at hf; exact hf
    | some x =>
      rw [hD] at hf
      obtain ⟨n, dn⟩ := x
      obtain ⟨fb, e, hat, h1⟩ := hf
      exact ⟨fb, e, hc.at_ hat, h1⟩, fun k hk => Nat.lt_of_lt_of_le (h.lo k hk) hc.size, fun k hk => Nat.lt_of_lt_of_le (h.lr k hk) hc.size, h.ro⟩
theorem Left.ce {B : Nat} {w W W' : World} (h : Left O R w db D W) (hc : CE B W W') (hB : w.heap.size ≤ B) : Left O R w db D W' := by
  obtain ⟨O', R', ⟨hk, As, Af, AL, pf, cs, cf, cL, h⟩, h1, h2, x⟩ := h
  exact ⟨O', R', ⟨hk, As, Af, AL, pf, cs, cf, cL, h.ce hc⟩, h1, h2, x.ce hc hB⟩
/-- A write under way: i sectors' writes are loose. -/
def wrI (a i : Nat) (b : List UInt8) (D : DV) : DV := { D with seen := laidL D.seen a b, L := D.L ++ loosesI (laidL D.seen a b) a i }
theorem secS_bound {a n i : Nat} (h : secS a i < a + n) : i * 512 ≤ n + 511 := by
  unfold secS at h
  have := Nat.mod_lt a (show 0 < 512 by decide)
  omega
theorem secN_of {a n i : Nat} (h : ¬ (0 < n ∧ secS a i < a + n)) (hp : ∀ j, j < i → 0 < n ∧ secS a j < a + n) : i = secN a n := by
  unfold secN
  by_cases hn : n = 0
  · rw [if_pos hn]
    by_cases hi : i = 0
    · exact hi
    · have := (hp 0 (by omega)).1; omega
  · rw [if_neg hn]
    have h1 : ¬ secS a i < a + n := fun h' => h ⟨by omega, h'⟩
    unfold secS at h1
    by_cases hi : i = 0
    · subst hi; omega
    · have h2 := (hp (i - 1) (by omega)).2
      unfold secS at h2
      omega
end Go.Proofs.Ytfphlbogblldbaa

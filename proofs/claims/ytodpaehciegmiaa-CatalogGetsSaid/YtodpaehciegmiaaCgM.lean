import Derived.Test.YtodpaehciegmiaaCg9
import Derived.Test.YtodpaehciegmiaaCg6
import Derived.Test.YtodpaehciegmiaaOct3
import Derived.Test.YtodpaehciegmiaaOct9

/-
  A catalog read from bytes: plain, and the closure that reads a ref.
-/




namespace Go.Proofs.Ytodpaehciegmiaa

open Go Sx

set_option linter.unusedVariables false

set_option linter.unusedSimpArgs false

set_option maxRecDepth 100000

def pad32 (o : List UInt8) : List UInt8 := o ++ List.replicate (32 - o.length) 0
/-- A ref read: what is left, the error, the ref. -/
def refS (l : List UInt8) (e : Int) : (List UInt8 × Int) × NRef :=
  (((nextS (nextS l e 4).1 (nextS l e 4).2.1 32).1, (nextS (nextS l e 4).1 (nextS l e 4).2.1 32).2.1), (bval (nextS l e 4).2.2, pad32 (nextS (nextS l e 4).1 (nextS l e 4).2.1 32).2.2))
theorem nextS_all (l : List UInt8) (e : Int) (n : Nat) : (nextS l e n).2.2.length = n ∨ (nextS l e n).2.2 = [] := by
  unfold nextS
  split
  · exact .inr rfl
  split
  · exact .inr rfl
  split
  · exact .inr rfl
  · refine .inl ?_
    show (l.take (n : Int).toNat).length = n
    rw [List.length_take]
    omega
theorem pad32_len {o : List UInt8} (h : o.length = 32 ∨ o = []) : (pad32 o).length = 32 := by
  unfold pad32
  rw [List.length_append, List.length_replicate]
  rcases h with h | rfl
  · omega
  · rfl
theorem refS_ok (l : List UInt8) (e : Int) : RefOk (refS l e).2 := by
  refine ⟨?_, pad32_len (nextS_all _ _ 32)⟩
  exact Nat.lt_of_lt_of_le (bval_lt _) (Nat.le_trans (Nat.pow_le_pow_right (n := 256) (by decide) (nextS_len l e (4 : Nat))) (by decide))
theorem refS_le (l : List UInt8) (e : Int) : (refS l e).1.1.length ≤ l.length := Nat.le_trans (nextS_le _ _ _) (nextS_le _ _ _)
/-- The state of a reading: what is left, the error, the snapshots. -/
abbrev RdS' := List UInt8 × Int × List NSnap
def stepS (s : RdS') : RdS' :=
  ((refS (textS s.1 s.2.1 16).1 (textS s.1 s.2.1 16).2.1).1.1, (refS (textS s.1 s.2.1 16).1 (textS s.1 s.2.1 16).2.1).1.2, s.2.2 ++ [(⟨(textS s.1 s.2.1 16).2.2.toArray⟩, (refS (textS s.1 s.2.1 16).1 (textS s.1 s.2.1 16).2.1).2)])
def runS : Nat → RdS' → RdS'
  | 0, s => s
  | k + 1, s => if s.2.1 = 0 then runS k (stepS s) else s
theorem runS_stop {k : Nat} {s : RdS'} (h : s.2.1 ≠ 0) : runS k s = s := by
  cases k with
  | zero => rfl
  | succ k => exact if_neg h
theorem runS_go {k : Nat} {s : RdS'} (h : s.2.1 = 0) : runS (k + 1) s = runS k (stepS s) := if_pos h
def startS (b : List UInt8) : RdS' := ((nextS (refS b 0).1.1 (refS b 0).1.2 1).1, (nextS (refS b 0).1.1 (refS b 0).1.2 1).2.1, [])
def cntS (b : List UInt8) : Nat := bval (nextS (refS b 0).1.1 (refS b 0).1.2 1).2.2
def endS (b : List UInt8) : RdS' := runS (cntS b) (startS b)
def getC (b : List UInt8) : NCat × Int :=
  if (endS b).2.1 ≠ 0 ∨ checkC (refS b 0).2 (endS b).2.2 ≠ 0 ∨ putB (refS b 0).2 (endS b).2.2 ≠ b then (noCat, 4) else (((refS b 0).2, (endS b).2.2), 0)
theorem textS_le (l : List UInt8) (e m : Int) : (textS l e m).1.length ≤ l.length := by
  unfold textS
  split
  · exact Nat.zero_le _
  · exact Nat.le_trans (nextS_le _ _ _) (nextS_le _ _ _)
theorem textS_len (l : List UInt8) (e m : Int) : (textS l e m).2.2.length ≤ l.length := by
  unfold textS
  split
  · exact Nat.zero_le _
  · exact Nat.le_trans (nextS_len' _ _ _) (nextS_le _ _ _)
theorem cntS_lt (b : List UInt8) : cntS b < 256 := Nat.lt_of_lt_of_le (bval_lt _) (Nat.le_trans (Nat.pow_le_pow_right (n := 256) (by decide) (nextS_len _ _ (1 : Nat))) (by decide))
/-- What is held all along. -/
structure SOk (b : List UInt8) (s : RdS') : Prop where
  le : s.1.length ≤ b.length
  snaps : SnapsOk s.2.2
theorem SOk.start (b : List UInt8) : SOk b (startS b) := ⟨Nat.le_trans (nextS_le _ _ _) (refS_le _ _), fun x hx => by cases hx⟩
theorem SOk.step {b : List UInt8} {s : RdS'} (h : SOk b s) (hb : b.length ≤ 140737488355328) : SOk b (stepS s) := by
  refine ⟨Nat.le_trans (refS_le _ _) (Nat.le_trans (textS_le _ _ _) h.le), fun x hx => ?_⟩
  rcases List.mem_append.1 (show x ∈ s.2.2 ++ _ from hx) with hx | hx
  · exact h.snaps x hx
  · obtain rfl := List.mem_singleton.1 hx
    refine ⟨refS_ok _ _, ?_⟩
    show (⟨(textS s.1 s.2.1 16).2.2.toArray⟩ : ByteArray).size ≤ _
    have h1 := textS_len s.1 s.2.1 16
    have h2 := h.le
    have h3 : (⟨(textS s.1 s.2.1 16).2.2.toArray⟩ : ByteArray).size = (textS s.1 s.2.1 16).2.2.length := by simp [ByteArray.size]
    omega
theorem stepS_length (s : RdS') : (stepS s).2.2.length = s.2.2.length + 1 := by
  show (s.2.2 ++ [_]).length = _
  rw [List.length_append]
  rfl

variable {B : Nat → Prop}
set_option maxHeartbeats 2000000 in
theorem Get1_ret {w : World} {r tb : Nat} {l : List UInt8} {e : Int} (h : Rdr B w r l e) (hB : ∀ k, B k → k < w.heap.size) (hl : l.length ≤ 140737488355328) (hp : w.cell? ⟨tb, 0, none⟩ = some (ptr r)) (htb : tb ≠ r) :
    Ret cx.P 50 #[.pointer (some ⟨tb, 0, none⟩)] w fun v w' => v = .agg (nv (refS l e).2).toArray ∧ Rdr B w' r (refS l e).1.1 (refS l e).1.2 ∧ Ext (· = r) w w' := by
  refine Ret.e1 (C := cx) (n := 12) cxOk Try.func50 rfl rfl rfl ?_
  have hok := refS_ok l e
  have hlen1 := nextS_le l e 4
  have hub : bval (nextS l e (4 : Nat)).2.2 < 4294967296 := Nat.lt_of_lt_of_le (bval_lt _) (Nat.le_trans (Nat.pow_le_pow_right (n := 256) (by decide) (nextS_len l e 4)) (by decide))
  have hall := nextS_all (nextS l e 4).1 (nextS l e 4).2.1 32
  have hrlt : r < w.heap.size := by
    obtain ⟨_, _, hat, _⟩ := h
    exact hat.lt
  unfold refS at hok ⊢
  (repeat ((conv => whnf); first | refine G.seq ?_ | refine G.region cxOk ?_ | refine G.block ?_ | refine G.cond_t rfl ?_ | refine G.cond_f rfl ?_ | refine G.skip ?_ | refine G.exit ?_ | refine G.ret ?_ | refine Cmp.dt (by (first | (with_reducible rfl) | omega)) ?_ | refine Cmp.df (by omega) ?_ | (first | (with_reducible refine Ev.mk _ (u32_xor _ _) ?_) | (with_reducible refine Ev.mk _ (u32_and _ _) ?_) | (with_reducible refine Ev.mk _ (u32_or _ _) ?_) | (with_reducible refine Ev.mk _ (u32_add _ _) ?_) | (with_reducible refine Ev.mk _ (u32_not _) ?_) | (with_reducible refine Ev.mk _ (u8_u32 _) ?_) | refine Ix1.mk _ _ _ rfl (by decide) rfl ?_) | (first | (with_reducible refine Ev.mk _ (IntWalk.i64_in _ ?_) ?_; · omega) | (with_reducible refine Ev.mk _ (wrap_u8_nat _) ?_) | (with_reducible refine Ev.mk _ (shr8 _) ?_) | (with_reducible refine Ev.mk _ (Int.toNat_natCast _) ?_) | (with_reducible refine Ev.mk _ (Int.toNat_ofNat _) ?_)) | refine @Ev.keep (List Value) _ _ ?_ | refine Rd.mk _ (by assumption) (by (first | exact trivial | exact fun x => x)) ?_ | refine Nd.mk (by (first | omega | exact ⟨rfl, rfl⟩ | exact ⟨rfl, by decide⟩ | exact ⟨by decide, rfl⟩ | exact ⟨by omega, by omega, by omega, by (simp [ti5]; omega), rfl⟩ | exact ⟨rfl, Nat.le_of_ble_eq_true rfl⟩ | exact rfl | decide)) ?_))
  refine Al.mk fun ob w1 hN1 => ?_
  have g1 := hN1.ge
  have a1 : At w1 ob _ 26 (0, 0) := hN1.at_
  have p1 := hN1.ext.cell hp id
  have h1 := h.non hN1.ext
  have s1 := hN1.ext.size
  (repeat ((conv => whnf); first | refine G.seq ?_ | refine G.region cxOk ?_ | refine G.block ?_ | refine G.cond_t rfl ?_ | refine G.cond_f rfl ?_ | refine G.skip ?_ | refine G.exit ?_ | refine G.ret ?_ | refine Cmp.dt (by (first | (with_reducible rfl) | omega)) ?_ | refine Cmp.df (by omega) ?_ | (first | (with_reducible refine Ev.mk _ (u32_xor _ _) ?_) | (with_reducible refine Ev.mk _ (u32_and _ _) ?_) | (with_reducible refine Ev.mk _ (u32_or _ _) ?_) | (with_reducible refine Ev.mk _ (u32_add _ _) ?_) | (with_reducible refine Ev.mk _ (u32_not _) ?_) | (with_reducible refine Ev.mk _ (u8_u32 _) ?_) | refine Ix1.mk _ _ _ rfl (by decide) rfl ?_) | (first | (with_reducible refine Ev.mk _ (IntWalk.i64_in _ ?_) ?_; · omega) | (with_reducible refine Ev.mk _ (wrap_u8_nat _) ?_) | (with_reducible refine Ev.mk _ (shr8 _) ?_) | (with_reducible refine Ev.mk _ (Int.toNat_natCast _) ?_) | (with_reducible refine Ev.mk _ (Int.toNat_ofNat _) ?_)) | refine @Ev.keep (List Value) _ _ ?_ | refine Rd.mk _ (by assumption) (by (first | exact trivial | exact fun x => x)) ?_ | refine Nd.mk (by (first | omega | exact ⟨rfl, rfl⟩ | exact ⟨rfl, by decide⟩ | exact ⟨by decide, rfl⟩ | exact ⟨by omega, by omega, by omega, by (simp [ti5]; omega), rfl⟩ | exact ⟨rfl, Nat.le_of_ble_eq_true rfl⟩ | exact rfl | decide)) ?_))
  refine Cl.mk (U32_ret h1 (by omega)) ?_
  generalize hs1 : nextS l e 4 = q1 at *
  obtain ⟨l1, e1, o1⟩ := q1
  dsimp only at hok hlen1 hub hall ⊢
  generalize bval o1 = u at *
  rintro _ w2 ⟨rfl, h2, x2⟩
  have s2 := x2.size
  have a2 := a1.ext x2 (fun e => by omega)
  (repeat ((conv => whnf); first | refine G.seq ?_ | refine G.region cxOk ?_ | refine G.block ?_ | refine G.cond_t rfl ?_ | refine G.cond_f rfl ?_ | refine G.skip ?_ | refine G.exit ?_ | refine G.ret ?_ | refine Cmp.dt (by (first | (with_reducible rfl) | omega)) ?_ | refine Cmp.df (by omega) ?_ | (first | (with_reducible refine Ev.mk _ (u32_xor _ _) ?_) | (with_reducible refine Ev.mk _ (u32_and _ _) ?_) | (with_reducible refine Ev.mk _ (u32_or _ _) ?_) | (with_reducible refine Ev.mk _ (u32_add _ _) ?_) | (with_reducible refine Ev.mk _ (u32_not _) ?_) | (with_reducible refine Ev.mk _ (u8_u32 _) ?_) | refine Ix1.mk _ _ _ rfl (by decide) rfl ?_) | (first | (with_reducible refine Ev.mk _ (IntWalk.i64_in _ ?_) ?_; · omega) | (with_reducible refine Ev.mk _ (wrap_u8_nat _) ?_) | (with_reducible refine Ev.mk _ (shr8 _) ?_) | (with_reducible refine Ev.mk _ (Int.toNat_natCast _) ?_) | (with_reducible refine Ev.mk _ (Int.toNat_ofNat _) ?_)) | refine @Ev.keep (List Value) _ _ ?_ | refine Rd.mk _ (by assumption) (by (first | exact trivial | exact fun x => x)) ?_ | refine Nd.mk (by (first | omega | exact ⟨rfl, rfl⟩ | exact ⟨rfl, by decide⟩ | exact ⟨by decide, rfl⟩ | exact ⟨by omega, by omega, by omega, by (simp [ti5]; omega), rfl⟩ | exact ⟨rfl, Nat.le_of_ble_eq_true rfl⟩ | exact rfl | decide)) ?_))
  refine Al.mk fun nb w3 hN3 => ?_
  have g3 := hN3.ge
  have n3 : At w3 nb _ 26 (0, 0) := hN3.at_
  (repeat ((conv => whnf); first | refine G.seq ?_ | refine G.region cxOk ?_ | refine G.block ?_ | refine G.cond_t rfl ?_ | refine G.cond_f rfl ?_ | refine G.skip ?_ | refine G.exit ?_ | refine G.ret ?_ | refine Cmp.dt (by (first | (with_reducible rfl) | omega)) ?_ | refine Cmp.df (by omega) ?_ | (first | (with_reducible refine Ev.mk _ (u32_xor _ _) ?_) | (with_reducible refine Ev.mk _ (u32_and _ _) ?_) | (with_reducible refine Ev.mk _ (u32_or _ _) ?_) | (with_reducible refine Ev.mk _ (u32_add _ _) ?_) | (with_reducible refine Ev.mk _ (u32_not _) ?_) | (with_reducible refine Ev.mk _ (u8_u32 _) ?_) | refine Ix1.mk _ _ _ rfl (by decide) rfl ?_) | (first | (with_reducible refine Ev.mk _ (IntWalk.i64_in _ ?_) ?_; · omega) | (with_reducible refine Ev.mk _ (wrap_u8_nat _) ?_) | (with_reducible refine Ev.mk _ (shr8 _) ?_) | (with_reducible refine Ev.mk _ (Int.toNat_natCast _) ?_) | (with_reducible refine Ev.mk _ (Int.toNat_ofNat _) ?_)) | refine @Ev.keep (List Value) _ _ ?_ | refine Rd.mk _ (by assumption) (by (first | exact trivial | exact fun x => x)) ?_ | refine Nd.mk (by (first | omega | exact ⟨rfl, rfl⟩ | exact ⟨rfl, by decide⟩ | exact ⟨by decide, rfl⟩ | exact ⟨by omega, by omega, by omega, by (simp [ti5]; omega), rfl⟩ | exact ⟨rfl, Nat.le_of_ble_eq_true rfl⟩ | exact rfl | decide)) ?_))
  refine StA.all (m := .plain) (vs := nv (u, List.replicate 32 0)) n3 rfl (one_nv _) trivial fun w4 n4 x4 => ?_
  have h4 := (h2.non hN3.ext).ext x4 (fun e => by omega) (fun k hk e => by have := hB k hk; have e' : k = nb := e; omega)
  have a4 := (a2.ext hN3.ext id).ext x4 (fun e => by have := a2.lt; omega)
  have la2 := a2.lt
  have p4 := (hN3.ext.cell (x2.cell p1 htb) id)
  have p4 := x4.cell p4 (fun e => by have e' : tb = nb := e; have : tb < w.heap.size := World.block_lt_of_cell? _ _ hp; omega)
  have xd : Ext Non w4 w4.drew := Ext.drew _ _
  have s3 := hN3.ext.size
  have s4 := x4.size
  (repeat ((conv => whnf); first | refine G.seq ?_ | refine G.region cxOk ?_ | refine G.block ?_ | refine G.cond_t rfl ?_ | refine G.cond_f rfl ?_ | refine G.skip ?_ | refine G.exit ?_ | refine G.ret ?_ | refine Cmp.dt (by (first | (with_reducible rfl) | omega)) ?_ | refine Cmp.df (by omega) ?_ | (first | (with_reducible refine Ev.mk _ (u32_xor _ _) ?_) | (with_reducible refine Ev.mk _ (u32_and _ _) ?_) | (with_reducible refine Ev.mk _ (u32_or _ _) ?_) | (with_reducible refine Ev.mk _ (u32_add _ _) ?_) | (with_reducible refine Ev.mk _ (u32_not _) ?_) | (with_reducible refine Ev.mk _ (u8_u32 _) ?_) | refine Ix1.mk _ _ _ rfl (by decide) rfl ?_) | (first | (with_reducible refine Ev.mk _ (IntWalk.i64_in _ ?_) ?_; · omega) | (with_reducible refine Ev.mk _ (wrap_u8_nat _) ?_) | (with_reducible refine Ev.mk _ (shr8 _) ?_) | (with_reducible refine Ev.mk _ (Int.toNat_natCast _) ?_) | (with_reducible refine Ev.mk _ (Int.toNat_ofNat _) ?_)) | refine @Ev.keep (List Value) _ _ ?_ | refine Rd.mk _ (by assumption) (by (first | exact trivial | exact fun x => x)) ?_ | refine Nd.mk (by (first | omega | exact ⟨rfl, rfl⟩ | exact ⟨rfl, by decide⟩ | exact ⟨by decide, rfl⟩ | exact ⟨by omega, by omega, by omega, by (simp [ti5]; omega), rfl⟩ | exact ⟨rfl, Nat.le_of_ble_eq_true rfl⟩ | exact rfl | decide)) ?_))
  refine G.draw cxOk (fun k => k = r ∨ w4.heap.size ≤ k) (.tk 0 <| .tk 1 <| .tk 2 <| .w 3 <| .z 4) (by kernel_rfl) ?_
  (repeat ((conv => whnf); first | refine G.seq ?_ | refine G.region cxOk ?_ | refine G.block ?_ | refine G.cond_t rfl ?_ | refine G.cond_f rfl ?_ | refine G.skip ?_ | refine G.exit ?_ | refine G.ret ?_ | refine Cmp.dt (by (first | (with_reducible rfl) | omega)) ?_ | refine Cmp.df (by omega) ?_ | (first | (with_reducible refine Ev.mk _ (u32_xor _ _) ?_) | (with_reducible refine Ev.mk _ (u32_and _ _) ?_) | (with_reducible refine Ev.mk _ (u32_or _ _) ?_) | (with_reducible refine Ev.mk _ (u32_add _ _) ?_) | (with_reducible refine Ev.mk _ (u32_not _) ?_) | (with_reducible refine Ev.mk _ (u8_u32 _) ?_) | refine Ix1.mk _ _ _ rfl (by decide) rfl ?_) | (first | (with_reducible refine Ev.mk _ (IntWalk.i64_in _ ?_) ?_; · omega) | (with_reducible refine Ev.mk _ (wrap_u8_nat _) ?_) | (with_reducible refine Ev.mk _ (shr8 _) ?_) | (with_reducible refine Ev.mk _ (Int.toNat_natCast _) ?_) | (with_reducible refine Ev.mk _ (Int.toNat_ofNat _) ?_)) | refine @Ev.keep (List Value) _ _ ?_ | refine Rd.mk _ (by assumption) (by (first | exact trivial | exact fun x => x)) ?_ | refine Nd.mk (by (first | omega | exact ⟨rfl, rfl⟩ | exact ⟨rfl, by decide⟩ | exact ⟨by decide, rfl⟩ | exact ⟨by omega, by omega, by omega, by (simp [ti5]; omega), rfl⟩ | exact ⟨rfl, Nat.le_of_ble_eq_true rfl⟩ | exact rfl | decide)) ?_))
  have ltb : tb < w.heap.size := World.block_lt_of_cell? _ _ hp
  refine Rd.mk _ (xd.cell p4 id) (fun e => e.elim htb (fun e => by have e' : w4.heap.size ≤ tb := e; omega)) ?_
  (repeat ((conv => whnf); first | refine G.seq ?_ | refine G.region cxOk ?_ | refine G.block ?_ | refine G.cond_t rfl ?_ | refine G.cond_f rfl ?_ | refine G.skip ?_ | refine G.exit ?_ | refine G.ret ?_ | refine Cmp.dt (by (first | (with_reducible rfl) | omega)) ?_ | refine Cmp.df (by omega) ?_ | (first | (with_reducible refine Ev.mk _ (u32_xor _ _) ?_) | (with_reducible refine Ev.mk _ (u32_and _ _) ?_) | (with_reducible refine Ev.mk _ (u32_or _ _) ?_) | (with_reducible refine Ev.mk _ (u32_add _ _) ?_) | (with_reducible refine Ev.mk _ (u32_not _) ?_) | (with_reducible refine Ev.mk _ (u8_u32 _) ?_) | refine Ix1.mk _ _ _ rfl (by decide) rfl ?_) | (first | (with_reducible refine Ev.mk _ (IntWalk.i64_in _ ?_) ?_; · omega) | (with_reducible refine Ev.mk _ (wrap_u8_nat _) ?_) | (with_reducible refine Ev.mk _ (shr8 _) ?_) | (with_reducible refine Ev.mk _ (Int.toNat_natCast _) ?_) | (with_reducible refine Ev.mk _ (Int.toNat_ofNat _) ?_)) | refine @Ev.keep (List Value) _ _ ?_ | refine Rd.mk _ (by assumption) (by (first | exact trivial | exact fun x => x)) ?_ | refine Nd.mk (by (first | omega | exact ⟨rfl, rfl⟩ | exact ⟨rfl, by decide⟩ | exact ⟨by decide, rfl⟩ | exact ⟨by omega, by omega, by omega, by (simp [ti5]; omega), rfl⟩ | exact ⟨rfl, Nat.le_of_ble_eq_true rfl⟩ | exact rfl | decide)) ?_))
  refine Cl.dr (Take_ret 32 (h4.non xd) (by omega)) (fun v w' h => h.2.2.mono fun _ e => .inl e) ?_
  generalize hs2 : nextS l1 e1 32 = q2 at *
  obtain ⟨l2, e2, o2⟩ := q2
  have hall : o2.length = 32 ∨ o2 = [] := hall
  dsimp only at hok ⊢
  rintro _ w5 ⟨o5, h5, x5⟩
  obtain ⟨A5, c5, rfl, hl5, hcl5, hb5⟩ := OB.form o5
  have n5 := (n4.ext xd id).ext x5 (fun e => by omega)
  have ho2 : o2.length ≤ 32 := by rcases hall with h | rfl; omega; exact Nat.zero_le _
  (repeat ((conv => whnf); first | refine G.seq ?_ | refine G.region cxOk ?_ | refine G.block ?_ | refine G.cond_t rfl ?_ | refine G.cond_f rfl ?_ | refine G.skip ?_ | refine G.exit ?_ | refine G.ret ?_ | refine Cmp.dt (by (first | (with_reducible rfl) | omega)) ?_ | refine Cmp.df (by omega) ?_ | (first | (with_reducible refine Ev.mk _ (u32_xor _ _) ?_) | (with_reducible refine Ev.mk _ (u32_and _ _) ?_) | (with_reducible refine Ev.mk _ (u32_or _ _) ?_) | (with_reducible refine Ev.mk _ (u32_add _ _) ?_) | (with_reducible refine Ev.mk _ (u32_not _) ?_) | (with_reducible refine Ev.mk _ (u8_u32 _) ?_) | refine Ix1.mk _ _ _ rfl (by decide) rfl ?_) | (first | (with_reducible refine Ev.mk _ (IntWalk.i64_in _ ?_) ?_; · omega) | (with_reducible refine Ev.mk _ (wrap_u8_nat _) ?_) | (with_reducible refine Ev.mk _ (shr8 _) ?_) | (with_reducible refine Ev.mk _ (Int.toNat_natCast _) ?_) | (with_reducible refine Ev.mk _ (Int.toNat_ofNat _) ?_)) | refine @Ev.keep (List Value) _ _ ?_ | refine Rd.mk _ (by assumption) (by (first | exact trivial | exact fun x => x)) ?_ | refine Nd.mk (by (first | omega | exact ⟨rfl, rfl⟩ | exact ⟨rfl, by decide⟩ | exact ⟨by decide, rfl⟩ | exact ⟨by omega, by omega, by omega, by (simp [ti5]; omega), rfl⟩ | exact ⟨rfl, Nat.le_of_ble_eq_true rfl⟩ | exact rfl | decide)) ?_))
  refine Run.copy tiB tiU8 (srcB (l := o2) (c := c5) hcl5) (fun _ => rfl) n5 (by rw [nv_length rfl]; simp [ti5]; omega) (.inl (Nat.zero_le _)) trivial ?_
  intro w6 n6 x6
  have n6' : At w6 nb (nv (u, pad32 o2)) 26 (0, 0) := by
    rcases hall with h | rfl
    · have e1 : List.take (min o2.length 32 * ti5.size) (bv o2) = bv o2 := List.take_of_length_le (by rw [bv_length, h]; exact Nat.le_refl _)
      rw [e1] at n6
      have e2 : pad32 o2 = o2 := by unfold pad32; rw [h]; exact List.append_nil _
      rw [e2]
      have e3 : ov (nv (u, List.replicate 32 0)) 1 (bv o2) = nv (u, o2) := by
        unfold ov
        rw [bv_length, h]
        show Value.int .u32 u :: (bv o2 ++ []) = _
        rw [List.append_nil]
        rfl
      rw [← e3]
      exact n6
    · have e1 : List.take (min ([] : List UInt8).length 32 * ti5.size) (bv []) = [] := rfl
      rw [e1, ov_nil] at n6
      exact n6
  have h6 := h5.ext x6 (fun e => by have e' : r = nb := e; omega) (fun k hk e => by have := hB k hk; have e' : k = nb := e; omega)
  have s5 := x5.size
  have a6 := ((a4.ext xd id).ext x5 (fun e => by omega)).ext x6 (fun e => by have e' : ob = nb := e; omega)
  have hn6 := nv_length hok.len
  (repeat ((conv => whnf); first | refine G.seq ?_ | refine G.region cxOk ?_ | refine G.block ?_ | refine G.cond_t rfl ?_ | refine G.cond_f rfl ?_ | refine G.skip ?_ | refine G.exit ?_ | refine G.ret ?_ | refine Cmp.dt (by (first | (with_reducible rfl) | omega)) ?_ | refine Cmp.df (by omega) ?_ | (first | (with_reducible refine Ev.mk _ (u32_xor _ _) ?_) | (with_reducible refine Ev.mk _ (u32_and _ _) ?_) | (with_reducible refine Ev.mk _ (u32_or _ _) ?_) | (with_reducible refine Ev.mk _ (u32_add _ _) ?_) | (with_reducible refine Ev.mk _ (u32_not _) ?_) | (with_reducible refine Ev.mk _ (u8_u32 _) ?_) | refine Ix1.mk _ _ _ rfl (by decide) rfl ?_) | (first | (with_reducible refine Ev.mk _ (IntWalk.i64_in _ ?_) ?_; · omega) | (with_reducible refine Ev.mk _ (wrap_u8_nat _) ?_) | (with_reducible refine Ev.mk _ (shr8 _) ?_) | (with_reducible refine Ev.mk _ (Int.toNat_natCast _) ?_) | (with_reducible refine Ev.mk _ (Int.toNat_ofNat _) ?_)) | refine @Ev.keep (List Value) _ _ ?_ | refine Rd.mk _ (by assumption) (by (first | exact trivial | exact fun x => x)) ?_ | refine Nd.mk (by (first | omega | exact ⟨rfl, rfl⟩ | exact ⟨rfl, by decide⟩ | exact ⟨by decide, rfl⟩ | exact ⟨by omega, by omega, by omega, by (simp [ti5]; omega), rfl⟩ | exact ⟨rfl, Nat.le_of_ble_eq_true rfl⟩ | exact rfl | decide)) ?_))
  refine RdA.whole n6' (hn6.trans rfl) trivial ?_
  (repeat ((conv => whnf); first | refine G.seq ?_ | refine G.region cxOk ?_ | refine G.block ?_ | refine G.cond_t rfl ?_ | refine G.cond_f rfl ?_ | refine G.skip ?_ | refine G.exit ?_ | refine G.ret ?_ | refine Cmp.dt (by (first | (with_reducible rfl) | omega)) ?_ | refine Cmp.df (by omega) ?_ | (first | (with_reducible refine Ev.mk _ (u32_xor _ _) ?_) | (with_reducible refine Ev.mk _ (u32_and _ _) ?_) | (with_reducible refine Ev.mk _ (u32_or _ _) ?_) | (with_reducible refine Ev.mk _ (u32_add _ _) ?_) | (with_reducible refine Ev.mk _ (u32_not _) ?_) | (with_reducible refine Ev.mk _ (u8_u32 _) ?_) | refine Ix1.mk _ _ _ rfl (by decide) rfl ?_) | (first | (with_reducible refine Ev.mk _ (IntWalk.i64_in _ ?_) ?_; · omega) | (with_reducible refine Ev.mk _ (wrap_u8_nat _) ?_) | (with_reducible refine Ev.mk _ (shr8 _) ?_) | (with_reducible refine Ev.mk _ (Int.toNat_natCast _) ?_) | (with_reducible refine Ev.mk _ (Int.toNat_ofNat _) ?_)) | refine @Ev.keep (List Value) _ _ ?_ | refine Rd.mk _ (by assumption) (by (first | exact trivial | exact fun x => x)) ?_ | refine Nd.mk (by (first | omega | exact ⟨rfl, rfl⟩ | exact ⟨rfl, by decide⟩ | exact ⟨by decide, rfl⟩ | exact ⟨by omega, by omega, by omega, by (simp [ti5]; omega), rfl⟩ | exact ⟨rfl, Nat.le_of_ble_eq_true rfl⟩ | exact rfl | decide)) ?_))
  refine Nd.mk (by rw [List.size_toArray, hn6]; rfl) ?_
  refine StA.all (m := .plain) (vs := nv (u, pad32 o2)) a6 (by rw [hn6]; rfl) (one_nv _) trivial fun w7 a7 x7 => ?_
  (repeat ((conv => whnf); first | refine G.seq ?_ | refine G.region cxOk ?_ | refine G.block ?_ | refine G.cond_t rfl ?_ | refine G.cond_f rfl ?_ | refine G.skip ?_ | refine G.exit ?_ | refine G.ret ?_ | refine Cmp.dt (by (first | (with_reducible rfl) | omega)) ?_ | refine Cmp.df (by omega) ?_ | (first | (with_reducible refine Ev.mk _ (u32_xor _ _) ?_) | (with_reducible refine Ev.mk _ (u32_and _ _) ?_) | (with_reducible refine Ev.mk _ (u32_or _ _) ?_) | (with_reducible refine Ev.mk _ (u32_add _ _) ?_) | (with_reducible refine Ev.mk _ (u32_not _) ?_) | (with_reducible refine Ev.mk _ (u8_u32 _) ?_) | refine Ix1.mk _ _ _ rfl (by decide) rfl ?_) | (first | (with_reducible refine Ev.mk _ (IntWalk.i64_in _ ?_) ?_; · omega) | (with_reducible refine Ev.mk _ (wrap_u8_nat _) ?_) | (with_reducible refine Ev.mk _ (shr8 _) ?_) | (with_reducible refine Ev.mk _ (Int.toNat_natCast _) ?_) | (with_reducible refine Ev.mk _ (Int.toNat_ofNat _) ?_)) | refine @Ev.keep (List Value) _ _ ?_ | refine Rd.mk _ (by assumption) (by (first | exact trivial | exact fun x => x)) ?_ | refine Nd.mk (by (first | omega | exact ⟨rfl, rfl⟩ | exact ⟨rfl, by decide⟩ | exact ⟨by decide, rfl⟩ | exact ⟨by omega, by omega, by omega, by (simp [ti5]; omega), rfl⟩ | exact ⟨rfl, Nat.le_of_ble_eq_true rfl⟩ | exact rfl | decide)) ?_))
  refine RdA.whole a7 (hn6.trans rfl) trivial ?_
  (repeat ((conv => whnf); first | refine G.seq ?_ | refine G.region cxOk ?_ | refine G.block ?_ | refine G.cond_t rfl ?_ | refine G.cond_f rfl ?_ | refine G.skip ?_ | refine G.exit ?_ | refine G.ret ?_ | refine Cmp.dt (by (first | (with_reducible rfl) | omega)) ?_ | refine Cmp.df (by omega) ?_ | (first | (with_reducible refine Ev.mk _ (u32_xor _ _) ?_) | (with_reducible refine Ev.mk _ (u32_and _ _) ?_) | (with_reducible refine Ev.mk _ (u32_or _ _) ?_) | (with_reducible refine Ev.mk _ (u32_add _ _) ?_) | (with_reducible refine Ev.mk _ (u32_not _) ?_) | (with_reducible refine Ev.mk _ (u8_u32 _) ?_) | refine Ix1.mk _ _ _ rfl (by decide) rfl ?_) | (first | (with_reducible refine Ev.mk _ (IntWalk.i64_in _ ?_) ?_; · omega) | (with_reducible refine Ev.mk _ (wrap_u8_nat _) ?_) | (with_reducible refine Ev.mk _ (shr8 _) ?_) | (with_reducible refine Ev.mk _ (Int.toNat_natCast _) ?_) | (with_reducible refine Ev.mk _ (Int.toNat_ofNat _) ?_)) | refine @Ev.keep (List Value) _ _ ?_ | refine Rd.mk _ (by assumption) (by (first | exact trivial | exact fun x => x)) ?_ | refine Nd.mk (by (first | omega | exact ⟨rfl, rfl⟩ | exact ⟨rfl, by decide⟩ | exact ⟨by decide, rfl⟩ | exact ⟨by omega, by omega, by omega, by (simp [ti5]; omega), rfl⟩ | exact ⟨rfl, Nat.le_of_ble_eq_true rfl⟩ | exact rfl | decide)) ?_))
  refine Don.mk ⟨rfl, h6.ext x7 (fun e => by have e' : r = ob := e; omega) (fun k hk e => by have := hB k hk; have e' : k = ob := e; omega), ?_⟩
  refine ((((((hN1.ext.mono fun _ x => x.elim) : Ext (· = r) w w1).trans x2).trans' hN3.ext (fun _ _ x => x) (fun _ _ x => x.elim)).trans' x4 (fun _ _ x => x) (fun k hk e => by have e' : k = nb := e; omega)).trans (Ext.drew _ w4)).trans x5 |>.trans' x6 (fun _ _ x => x) (fun k hk e => by have e' : k = nb := e; omega) |>.trans' x7 (fun _ _ x => x) (fun k hk e => by have e' : k = ob := e; omega)
end Go.Proofs.Ytodpaehciegmiaa

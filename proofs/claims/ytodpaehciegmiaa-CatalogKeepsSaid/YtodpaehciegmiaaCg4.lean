import Derived.Test.YtodpaehciegmiaaCg3
import Derived.Test.YtodpaehciegmiaaSxA

/-
  Rows of snapshots of the call's own: append, slices.Grow of nothing, slices.Concat, slices.Clone; a catalog's copy.
-/


namespace Go.Proofs.Ytodpaehciegmiaa.Sx

open Go

set_option linter.unusedVariables false

set_option linter.unusedSimpArgs false

set_option maxHeartbeats 1000000 in
/-- append of noughts onto no slice. -/
theorem append_none {P : Program} {ts ti ty e sz0 by0 : Nat} {z0 : Value} {ei : TI} (ht : TIok P ts ⟨.slice e, sz0, by0, z0⟩) (he : TIok P e ei) {k : IntKind} (hx : P.underlying ti = some (.int k)) (hz : ei.zero.cells.size = ei.size)
    {w : World} {m : Nat} (hm : 0 < m) (hs : 0 < ei.size) (hb : m * ei.bytes ≤ 140737488355328) (h63 : m ≤ 140737488355328) :
    ∃ b c' sp w', (Builtin.append_ #[ts, ti] ty #[.slice none 0 0, .int .i64 (m : Int)]).run P w = .ok (.slice (some ⟨b, 0, none⟩) m c') w' ∧ New w w' b sp e (0, 0) ∧ m ≤ c' ∧ sp.length = c' * ei.size := by
  obtain ⟨i, hi, hi1, hi2, hi3⟩ := he.get
  have hi63 : IntKind.i64.max = 9223372036854775807 := by decide
  have h3 : ¬ (((0 + m : Nat) : Int) > IntKind.i64.max) := by omega
  have hw : IntKind.i64.wrap (m : Int) = (m : Int) := IntWalk.i64_in _ (by omega)
  have h4 : ¬ ((m : Int) < 0) := by omega
  have h5 : ¬ ((m : Int) * (ei.bytes : Int) > 2 ^ 48) := by
    have : ((m * ei.bytes : Nat) : Int) ≤ 140737488355328 := by omega
    rw [Int.natCast_mul] at this
    omega
  have h6 : ¬ (m * ei.size = 0) := fun h => by
    rcases Nat.mul_eq_zero.1 h with h | h <;> omega
  have hc : ¬ (0 + m ≤ 0) := by omega
  have hg := growslice_fits (need := 0 + m) (old := 0) (bytes := ei.bytes) (by omega) (by rw [Nat.zero_add]; exact hb)
  have h2 : ¬ (Builtin.nextslicecap (0 + m) 0 * ei.bytes > 2 ^ 48) := by omega
  have hge := grownCap_ge w (0 + m) 0 e
  have hcap : ∀ q, q = Question.appendCap (0 + m) 0 e → q.cut (w.tape w.drawn q) = grownCap w (0 + m) 0 e := by rintro q rfl; rfl
  have hold : (Builtin.firstCells ei.size 0 (.slice none 0 0)).run P w.drew = .ok #[] w.drew := by
    have := (Src.slice (P := P) (w := w) (A := none) (m := 0) (c := 0) (sz := ei.size) (news := []) (.inl rfl) (by simp) (by simp)).cells w.drew 0 rfl (Nat.le_refl _)
    simpa using this
  have hdr : ({ heap := w.heap, tape := w.tape, drawn := w.drawn + 1, os := w.os, output := w.output } : World) = w.drew := rfl
  have e1 : #[] ++ Builtin.zeroCells ei.zero.cells m ++ Builtin.zeroCells ei.zero.cells (grownCap w (0 + m) 0 e - (0 + m)) = ((Builtin.zeroCells ei.zero.cells m).toList ++ (Builtin.zeroCells ei.zero.cells (grownCap w (0 + m) 0 e - (0 + m))).toList).toArray := by
    apply Array.ext'; simp
  refine ⟨w.heap.size, grownCap w (0 + m) 0 e, (Builtin.zeroCells ei.zero.cells m).toList ++ (Builtin.zeroCells ei.zero.cells (grownCap w (0 + m) 0 e - (0 + m))).toList, w.drew.alloc (.cells ((Builtin.zeroCells ei.zero.cells m).toList ++ (Builtin.zeroCells ei.zero.cells (grownCap w (0 + m) 0 e - (0 + m))).toList).toArray e), ?_, ?_, by omega, ?_⟩
  · simp only [Builtin.append_, List.getElem?_toArray, List.getElem?_cons_zero, List.getElem?_cons_succ, Sem.run_bind, run_underlying ht.slice, run_underlying hx, Result.andThen_ok, he.run_size, Sem.run_pure, if_true, asInt, asIntOf, pure_bind, hw, if_neg h4, typeInfo, run_program, hi, hi2, if_neg h5, Int.toNat_natCast, if_neg hc]
    rw [if_neg (fun h => h3 h.1)]
    simp only [Sem.run_bind, run_program, Result.andThen_ok, hi, hi2, if_neg h2, Bool.not_true, Bool.false_eq_true, if_false, Sem.run_pure, Sem.run_ite, he.run_zero, run_choose, Question.forced, run_askRoom, hdr, hold, if_neg h6, newRow, run_newObj, hcap _ rfl, e1]
    rw [Nat.zero_add]
    rfl
  · exact ⟨(Ext.drew _ _).trans (Ext.alloc _ _ _), Nat.le_refl _, heap_alloc_new w.drew _⟩
  · simp only [List.length_append, zeroCells_len, hz, ← Nat.add_mul]
    congr 1
    omega
end Go.Proofs.Ytodpaehciegmiaa.Sx

namespace Go.Proofs.Ytodpaehciegmiaa

open Go Sx

set_option linter.unusedVariables false

set_option maxRecDepth 100000

theorem tiSn : TIok cx.P 27 ti27 := tabOk _ _ rfl
theorem tiS61 : TIok cx.P 61 ti61 := tabOk _ _ rfl
theorem undSn : (∃ e', cx.P.underlying 27 = some (.slice e')) ∨ cx.P.underlying 27 = some .string := .inl ⟨_, TIok.slice tiSn⟩
/-- A row of snapshots of the call's own. -/
abbrev OSn (w : World) (base : Nat) (v : Value) (l : List NSnap) : Prop := OS w base 61 34 v l.length (svs l)
theorem srcSn {w : World} {A : Option Addr} {c : Nat} {l : List NSnap} (hl : SnapsOk l) (h : Cells w A (svs l)) : Src cx.P w 34 (.slice A l.length c) l.length (svs l) := Src.slice h (svs_length hl) (one_svs l)
theorem Run.appS {m0 : Md} {w : World} {base : Nat} {ty : Nat} {v x : Value} {l l2 : List NSnap} {K : Value → World → Prop}
    (h : OSn w base v l) (hs : Src cx.P w 34 x l2.length (svs l2)) (hb : l.length + l2.length ≤ 2513169434843) (hbase : base ≤ w.heap.size)
    (hm : ∀ w', Ext (blkOf v) w w' → m0.W w w')
    (k : ∀ A c w', (l ++ l2).length ≤ c → OSn w' base (.slice A (l ++ l2).length c) (l ++ l2) → Ext (blkOf v) w w' → (∀ k, inBlk A k → blkOf v k ∨ w.heap.size ≤ k) → K (.slice A (l ++ l2).length c) w') :
    Run cx.P m0 w (Builtin.append_ #[27, 27] ty #[v, x]) K := by
  refine Run.app (ei := ti61) tiSn tiS61 undSn rfl h (one_svs l) hs (by show _ * 56 ≤ _; omega) (by omega) hbase hm ?_
  intro A c w' h1 h2 h3 h4
  have e1 : l.length + l2.length = (l ++ l2).length := by simp
  rw [← svs_append] at h2
  rw [e1] at h1 h2 ⊢
  exact k A c w' h1 h2 h3 h4
theorem GrowS_ret (n : Nat) (hn : n ≤ 2513169434843) (w : World) :
    Ret cx.P 64 #[.slice none 0 0, .int .i64 (n : Int)] w fun v w' => OSn w' w.heap.size v [] ∧ Ext Non w w' := by
  refine Ret.e2 (C := cx) (n := 27) cxOk Try.func64 rfl rfl rfl ?_
  (repeat ((conv => whnf); first | refine G.seq ?_ | refine G.region cxOk ?_ | refine G.block ?_ | refine G.cond_t rfl ?_ | refine G.cond_f rfl ?_ | refine G.skip ?_ | refine G.exit ?_ | refine G.ret ?_ | refine Cmp.dt (by (first | (with_reducible rfl) | omega)) ?_ | refine Cmp.df (by omega) ?_ | (first | refine Ev.mk _ (IntWalk.i64_in _ (by omega)) ?_ | refine Ev.mk _ (wrap_u8_nat _) ?_ | refine Ev.mk _ (shr8 _) ?_ | refine Ev.mk _ (Int.toNat_natCast _) ?_ | refine Ev.mk _ (Int.toNat_ofNat _) ?_) | refine @Ev.keep (List Value) _ _ ?_ | refine Rd.mk _ (by assumption) (by (first | exact trivial | exact fun x => x)) ?_ | refine Nd.mk (by (first | omega | exact ⟨rfl, rfl⟩ | exact ⟨rfl, by decide⟩ | exact ⟨by decide, rfl⟩ | exact ⟨by omega, by omega, by omega, by (simp [ti5]; omega), rfl⟩ | exact ⟨rfl, Nat.le_of_ble_eq_true rfl⟩ | exact rfl | decide)) ?_))
  by_cases h0 : n = 0
  · subst h0
    (repeat ((conv => whnf); first | refine G.seq ?_ | refine G.region cxOk ?_ | refine G.block ?_ | refine G.cond_t rfl ?_ | refine G.cond_f rfl ?_ | refine G.skip ?_ | refine G.exit ?_ | refine G.ret ?_ | refine Cmp.dt (by (first | (with_reducible rfl) | omega)) ?_ | refine Cmp.df (by omega) ?_ | (first | refine Ev.mk _ (IntWalk.i64_in _ (by omega)) ?_ | refine Ev.mk _ (wrap_u8_nat _) ?_ | refine Ev.mk _ (shr8 _) ?_ | refine Ev.mk _ (Int.toNat_natCast _) ?_ | refine Ev.mk _ (Int.toNat_ofNat _) ?_) | refine @Ev.keep (List Value) _ _ ?_ | refine Rd.mk _ (by assumption) (by (first | exact trivial | exact fun x => x)) ?_ | refine Nd.mk (by (first | omega | exact ⟨rfl, rfl⟩ | exact ⟨rfl, by decide⟩ | exact ⟨by decide, rfl⟩ | exact ⟨by omega, by omega, by omega, by (simp [ti5]; omega), rfl⟩ | exact ⟨rfl, Nat.le_of_ble_eq_true rfl⟩ | exact rfl | decide)) ?_))
    exact Don.mk ⟨OS.nil _ _ _ _, Ext.refl _ _⟩
  · refine Cmp.dt (by omega) ?_
    (repeat ((conv => whnf); first | refine G.seq ?_ | refine G.region cxOk ?_ | refine G.block ?_ | refine G.cond_t rfl ?_ | refine G.cond_f rfl ?_ | refine G.skip ?_ | refine G.exit ?_ | refine G.ret ?_ | refine Cmp.dt (by (first | (with_reducible rfl) | omega)) ?_ | refine Cmp.df (by omega) ?_ | (first | refine Ev.mk _ (IntWalk.i64_in _ (by omega)) ?_ | refine Ev.mk _ (wrap_u8_nat _) ?_ | refine Ev.mk _ (shr8 _) ?_ | refine Ev.mk _ (Int.toNat_natCast _) ?_ | refine Ev.mk _ (Int.toNat_ofNat _) ?_) | refine @Ev.keep (List Value) _ _ ?_ | refine Rd.mk _ (by assumption) (by (first | exact trivial | exact fun x => x)) ?_ | refine Nd.mk (by (first | omega | exact ⟨rfl, rfl⟩ | exact ⟨rfl, by decide⟩ | exact ⟨by decide, rfl⟩ | exact ⟨by omega, by omega, by omega, by (simp [ti5]; omega), rfl⟩ | exact ⟨rfl, Nat.le_of_ble_eq_true rfl⟩ | exact rfl | decide)) ?_))
    have e0 : ((n : Int) - (((0 : Nat) : Int) - ((0 : Nat) : Int))) = (n : Int) := by omega
    rw [e0]
    obtain ⟨b, c', sp, w1, r1, hN1, hc, hl⟩ := append_none (P := cx.P) (ty := 27) (w := w) (m := n) (ei := ti61) tiSn tiS61 (TIok.int (tabOk 3 ti3 rfl)) rfl (by omega) (by decide) (by show _ * 56 ≤ _; omega) (by omega)
    refine ⟨_, w1, r1, trivial, ?_⟩
    have o0 : OSn w1 w.heap.size (.slice (some ⟨b, 0, none⟩) 0 c') [] := OS.new (xs := []) (sp := sp) hN1 (Nat.le_refl _) rfl (Nat.zero_le _) hl (.inl rfl)
    (repeat ((conv => whnf); first | refine G.seq ?_ | refine G.region cxOk ?_ | refine G.block ?_ | refine G.cond_t rfl ?_ | refine G.cond_f rfl ?_ | refine G.skip ?_ | refine G.exit ?_ | refine G.ret ?_ | refine Cmp.dt (by (first | (with_reducible rfl) | omega)) ?_ | refine Cmp.df (by omega) ?_ | (first | refine Ev.mk _ (IntWalk.i64_in _ (by omega)) ?_ | refine Ev.mk _ (wrap_u8_nat _) ?_ | refine Ev.mk _ (shr8 _) ?_ | refine Ev.mk _ (Int.toNat_natCast _) ?_ | refine Ev.mk _ (Int.toNat_ofNat _) ?_) | refine @Ev.keep (List Value) _ _ ?_ | refine Rd.mk _ (by assumption) (by (first | exact trivial | exact fun x => x)) ?_ | refine Nd.mk (by (first | omega | exact ⟨rfl, rfl⟩ | exact ⟨rfl, by decide⟩ | exact ⟨by decide, rfl⟩ | exact ⟨by omega, by omega, by omega, by (simp [ti5]; omega), rfl⟩ | exact ⟨rfl, Nat.le_of_ble_eq_true rfl⟩ | exact rfl | decide)) ?_))
    exact Don.mk ⟨o0, hN1.ext⟩

/-- Parts: rows of snapshots that stand in a slice. -/
abbrev SPart := Option Addr × Nat × List NSnap
def spv (p : SPart) : Value := .slice p.1 p.2.2.length p.2.1
def sjoin (ps : List SPart) : List NSnap := ps.flatMap fun p => p.2.2
structure SParts (w : World) (A : Option Addr) (ps : List SPart) : Prop where
  row : Cells w A (ps.map spv)
  each : ∀ p ∈ ps, Cells w p.1 (svs p.2.2) ∧ SnapsOk p.2.2
theorem SParts.ext {w w' : World} {A : Option Addr} {ps : List SPart} (h : SParts w A ps) (he : Ext Non w w') : SParts w' A ps :=
  ⟨h.row.ext he (fun _ _ x => x), fun p hp => ⟨(h.each p hp).1.ext he (fun _ _ x => x), (h.each p hp).2⟩⟩
theorem sjoin_take {ps : List SPart} {i : Nat} (h : i < ps.length) : sjoin (ps.take (i + 1)) = sjoin (ps.take i) ++ ps[i].2.2 := by
  rw [List.take_succ_eq_append_getElem h, sjoin, List.flatMap_append]
  simp [sjoin]
theorem sjoin_le {ps : List SPart} (i : Nat) : (sjoin (ps.take i)).length ≤ (sjoin ps).length := by
  have : sjoin ps = sjoin (ps.take i) ++ sjoin (ps.drop i) := by rw [sjoin, sjoin, sjoin, ← List.flatMap_append, List.take_append_drop]
  rw [this, List.length_append]
  omega
theorem ConcatS_ret {A : Option Addr} {c : Nat} {ps : List SPart} {w : World} (h : SParts w A ps) (hl : (sjoin ps).length ≤ 2513169434843) (hn : ps.length ≤ 2513169434843) :
    Ret cx.P 45 #[.slice A ps.length c] w fun v w' => OSn w' w.heap.size v (sjoin ps) ∧ Ext Non w w' := by
  refine Ret.e1 (C := cx) (n := 36) cxOk Try.func45 rfl rfl rfl ?_
  (repeat ((conv => whnf); first | refine G.seq ?_ | refine G.region cxOk ?_ | refine G.block ?_ | refine G.cond_t rfl ?_ | refine G.cond_f rfl ?_ | refine G.skip ?_ | refine G.exit ?_ | refine G.ret ?_ | refine Cmp.dt (by (first | (with_reducible rfl) | omega)) ?_ | refine Cmp.df (by omega) ?_ | (first | refine Ev.mk _ (IntWalk.i64_in _ (by omega)) ?_ | refine Ev.mk _ (wrap_u8_nat _) ?_ | refine Ev.mk _ (shr8 _) ?_ | refine Ev.mk _ (Int.toNat_natCast _) ?_ | refine Ev.mk _ (Int.toNat_ofNat _) ?_) | refine @Ev.keep (List Value) _ _ ?_ | refine Rd.mk _ (by assumption) (by (first | exact trivial | exact fun x => x)) ?_ | refine Nd.mk (by (first | omega | exact ⟨rfl, rfl⟩ | exact ⟨rfl, by decide⟩ | exact ⟨by decide, rfl⟩ | exact ⟨by omega, by omega, by omega, by (simp [ti5]; omega), rfl⟩ | exact ⟨rfl, Nat.le_of_ble_eq_true rfl⟩ | exact rfl | decide)) ?_))
  refine G.loop (α := Nat) (fun i => [(0, .slice A ps.length c), (3, .int .i64 ((sjoin (ps.take i)).length : Int)), (9, .slice A ps.length c), (10, .int .i64 (ps.length : Int)), (11, .int .i64 (i : Int))])
    (fun i w' => i ≤ ps.length ∧ w' = w) (fun i => ps.length - i) 0 ⟨rfl, rfl, rfl, rfl, rfl, trivial⟩ ⟨Nat.zero_le _, rfl⟩ ?_
  rintro i w1 ⟨hi, rfl⟩
  (repeat ((conv => whnf); first | refine G.seq ?_ | refine G.region cxOk ?_ | refine G.block ?_ | refine G.cond_t rfl ?_ | refine G.cond_f rfl ?_ | refine G.skip ?_ | refine G.exit ?_ | refine G.ret ?_ | refine Cmp.dt (by (first | (with_reducible rfl) | omega)) ?_ | refine Cmp.df (by omega) ?_ | (first | refine Ev.mk _ (IntWalk.i64_in _ (by omega)) ?_ | refine Ev.mk _ (wrap_u8_nat _) ?_ | refine Ev.mk _ (shr8 _) ?_ | refine Ev.mk _ (Int.toNat_natCast _) ?_ | refine Ev.mk _ (Int.toNat_ofNat _) ?_) | refine @Ev.keep (List Value) _ _ ?_ | refine Rd.mk _ (by assumption) (by (first | exact trivial | exact fun x => x)) ?_ | refine Nd.mk (by (first | omega | exact ⟨rfl, rfl⟩ | exact ⟨rfl, by decide⟩ | exact ⟨by decide, rfl⟩ | exact ⟨by omega, by omega, by omega, by (simp [ti5]; omega), rfl⟩ | exact ⟨rfl, Nat.le_of_ble_eq_true rfl⟩ | exact rfl | decide)) ?_))
  refine Cmp.ds (fun hlt => ?_) (fun hlt => ?_)
  · have hil : i < ps.length := by omega
    obtain ⟨b, off, rfl, g⟩ := Cells.at_ h.row (i := i) (by simpa using hil)
    rw [List.getElem_map] at g
    have hjl := sjoin_le (ps := ps) (i + 1)
    have hj := sjoin_take hil
    rw [hj, List.length_append] at hjl
    (repeat ((conv => whnf); first | refine G.seq ?_ | refine G.region cxOk ?_ | refine G.block ?_ | refine G.cond_t rfl ?_ | refine G.cond_f rfl ?_ | refine G.skip ?_ | refine G.exit ?_ | refine G.ret ?_ | refine Cmp.dt (by (first | (with_reducible rfl) | omega)) ?_ | refine Cmp.df (by omega) ?_ | (first | refine Ev.mk _ (IntWalk.i64_in _ (by omega)) ?_ | refine Ev.mk _ (wrap_u8_nat _) ?_ | refine Ev.mk _ (shr8 _) ?_ | refine Ev.mk _ (Int.toNat_natCast _) ?_ | refine Ev.mk _ (Int.toNat_ofNat _) ?_) | refine @Ev.keep (List Value) _ _ ?_ | refine Rd.mk _ (by assumption) (by (first | exact trivial | exact fun x => x)) ?_ | refine Nd.mk (by (first | omega | exact ⟨rfl, rfl⟩ | exact ⟨rfl, by decide⟩ | exact ⟨by decide, rfl⟩ | exact ⟨by omega, by omega, by omega, by (simp [ti5]; omega), rfl⟩ | exact ⟨rfl, Nat.le_of_ble_eq_true rfl⟩ | exact rfl | decide)) ?_))
    refine Ix1.mk b off (off + i) rfl (by omega) (by omega) ?_
    (repeat ((conv => whnf); first | refine G.seq ?_ | refine G.region cxOk ?_ | refine G.block ?_ | refine G.cond_t rfl ?_ | refine G.cond_f rfl ?_ | refine G.skip ?_ | refine G.exit ?_ | refine G.ret ?_ | refine Cmp.dt (by (first | (with_reducible rfl) | omega)) ?_ | refine Cmp.df (by omega) ?_ | (first | refine Ev.mk _ (IntWalk.i64_in _ (by omega)) ?_ | refine Ev.mk _ (wrap_u8_nat _) ?_ | refine Ev.mk _ (shr8 _) ?_ | refine Ev.mk _ (Int.toNat_natCast _) ?_ | refine Ev.mk _ (Int.toNat_ofNat _) ?_) | refine @Ev.keep (List Value) _ _ ?_ | refine Rd.mk _ (by assumption) (by (first | exact trivial | exact fun x => x)) ?_ | refine Nd.mk (by (first | omega | exact ⟨rfl, rfl⟩ | exact ⟨rfl, by decide⟩ | exact ⟨by decide, rfl⟩ | exact ⟨by omega, by omega, by omega, by (simp [ti5]; omega), rfl⟩ | exact ⟨rfl, Nat.le_of_ble_eq_true rfl⟩ | exact rfl | decide)) ?_))
    refine ⟨i + 1, ⟨rfl, ?_, rfl, rfl, rfl, trivial⟩, ⟨by omega, rfl⟩, by omega⟩
    rw [hj, List.length_append]
    rfl
  · obtain rfl : i = ps.length := by omega
    rw [List.take_of_length_le (Nat.le_refl _)]
    (repeat ((conv => whnf); first | refine G.seq ?_ | refine G.region cxOk ?_ | refine G.block ?_ | refine G.cond_t rfl ?_ | refine G.cond_f rfl ?_ | refine G.skip ?_ | refine G.exit ?_ | refine G.ret ?_ | refine Cmp.dt (by (first | (with_reducible rfl) | omega)) ?_ | refine Cmp.df (by omega) ?_ | (first | refine Ev.mk _ (IntWalk.i64_in _ (by omega)) ?_ | refine Ev.mk _ (wrap_u8_nat _) ?_ | refine Ev.mk _ (shr8 _) ?_ | refine Ev.mk _ (Int.toNat_natCast _) ?_ | refine Ev.mk _ (Int.toNat_ofNat _) ?_) | refine @Ev.keep (List Value) _ _ ?_ | refine Rd.mk _ (by assumption) (by (first | exact trivial | exact fun x => x)) ?_ | refine Nd.mk (by (first | omega | exact ⟨rfl, rfl⟩ | exact ⟨rfl, by decide⟩ | exact ⟨by decide, rfl⟩ | exact ⟨by omega, by omega, by omega, by (simp [ti5]; omega), rfl⟩ | exact ⟨rfl, Nat.le_of_ble_eq_true rfl⟩ | exact rfl | decide)) ?_))
    refine Cl.mk (GrowS_ret _ hl w1) ?_
    rintro v w2 ⟨o2, x2⟩
    (repeat ((conv => whnf); first | refine G.seq ?_ | refine G.region cxOk ?_ | refine G.block ?_ | refine G.cond_t rfl ?_ | refine G.cond_f rfl ?_ | refine G.skip ?_ | refine G.exit ?_ | refine G.ret ?_ | refine Cmp.dt (by (first | (with_reducible rfl) | omega)) ?_ | refine Cmp.df (by omega) ?_ | (first | refine Ev.mk _ (IntWalk.i64_in _ (by omega)) ?_ | refine Ev.mk _ (wrap_u8_nat _) ?_ | refine Ev.mk _ (shr8 _) ?_ | refine Ev.mk _ (Int.toNat_natCast _) ?_ | refine Ev.mk _ (Int.toNat_ofNat _) ?_) | refine @Ev.keep (List Value) _ _ ?_ | refine Rd.mk _ (by assumption) (by (first | exact trivial | exact fun x => x)) ?_ | refine Nd.mk (by (first | omega | exact ⟨rfl, rfl⟩ | exact ⟨rfl, by decide⟩ | exact ⟨by decide, rfl⟩ | exact ⟨by omega, by omega, by omega, by (simp [ti5]; omega), rfl⟩ | exact ⟨rfl, Nat.le_of_ble_eq_true rfl⟩ | exact rfl | decide)) ?_))
    refine G.loop (α := Nat × Value) (fun s => [(6, s.2), (25, .slice A ps.length c), (26, .int .i64 (ps.length : Int)), (27, .int .i64 (s.1 : Int))])
      (fun s w' => s.1 ≤ ps.length ∧ OSn w' w1.heap.size s.2 (sjoin (ps.take s.1)) ∧ Ext Non w1 w') (fun s => ps.length - s.1) (0, v) ⟨rfl, rfl, rfl, rfl, trivial⟩ ⟨Nat.zero_le _, o2, x2⟩ ?_
    rintro ⟨i, v⟩ w3 ⟨hi, o3, x3⟩
    simp only at hi o3 ⊢
    obtain ⟨A3, c3, rfl, _, _, _⟩ := o3.form
    (repeat ((conv => whnf); first | refine G.seq ?_ | refine G.region cxOk ?_ | refine G.block ?_ | refine G.cond_t rfl ?_ | refine G.cond_f rfl ?_ | refine G.skip ?_ | refine G.exit ?_ | refine G.ret ?_ | refine Cmp.dt (by (first | (with_reducible rfl) | omega)) ?_ | refine Cmp.df (by omega) ?_ | (first | refine Ev.mk _ (IntWalk.i64_in _ (by omega)) ?_ | refine Ev.mk _ (wrap_u8_nat _) ?_ | refine Ev.mk _ (shr8 _) ?_ | refine Ev.mk _ (Int.toNat_natCast _) ?_ | refine Ev.mk _ (Int.toNat_ofNat _) ?_) | refine @Ev.keep (List Value) _ _ ?_ | refine Rd.mk _ (by assumption) (by (first | exact trivial | exact fun x => x)) ?_ | refine Nd.mk (by (first | omega | exact ⟨rfl, rfl⟩ | exact ⟨rfl, by decide⟩ | exact ⟨by decide, rfl⟩ | exact ⟨by omega, by omega, by omega, by (simp [ti5]; omega), rfl⟩ | exact ⟨rfl, Nat.le_of_ble_eq_true rfl⟩ | exact rfl | decide)) ?_))
    refine Cmp.ds (fun hlt => ?_) (fun hlt => ?_)
    · have hil : i < ps.length := by omega
      have h3 := h.ext x3
      obtain ⟨b, off, rfl, g⟩ := Cells.at_ h3.row (i := i) (by simpa using hil)
      rw [List.getElem_map] at g
      have hjl := sjoin_le (ps := ps) (i + 1)
      have hj := sjoin_take hil
      rw [hj, List.length_append] at hjl
      have hpe := h3.each _ (List.getElem_mem hil)
      (repeat ((conv => whnf); first | refine G.seq ?_ | refine G.region cxOk ?_ | refine G.block ?_ | refine G.cond_t rfl ?_ | refine G.cond_f rfl ?_ | refine G.skip ?_ | refine G.exit ?_ | refine G.ret ?_ | refine Cmp.dt (by (first | (with_reducible rfl) | omega)) ?_ | refine Cmp.df (by omega) ?_ | (first | refine Ev.mk _ (IntWalk.i64_in _ (by omega)) ?_ | refine Ev.mk _ (wrap_u8_nat _) ?_ | refine Ev.mk _ (shr8 _) ?_ | refine Ev.mk _ (Int.toNat_natCast _) ?_ | refine Ev.mk _ (Int.toNat_ofNat _) ?_) | refine @Ev.keep (List Value) _ _ ?_ | refine Rd.mk _ (by assumption) (by (first | exact trivial | exact fun x => x)) ?_ | refine Nd.mk (by (first | omega | exact ⟨rfl, rfl⟩ | exact ⟨rfl, by decide⟩ | exact ⟨by decide, rfl⟩ | exact ⟨by omega, by omega, by omega, by (simp [ti5]; omega), rfl⟩ | exact ⟨rfl, Nat.le_of_ble_eq_true rfl⟩ | exact rfl | decide)) ?_))
      refine Ix1.mk b off (off + i) rfl (by omega) (by omega) ?_
      (repeat ((conv => whnf); first | refine G.seq ?_ | refine G.region cxOk ?_ | refine G.block ?_ | refine G.cond_t rfl ?_ | refine G.cond_f rfl ?_ | refine G.skip ?_ | refine G.exit ?_ | refine G.ret ?_ | refine Cmp.dt (by (first | (with_reducible rfl) | omega)) ?_ | refine Cmp.df (by omega) ?_ | (first | refine Ev.mk _ (IntWalk.i64_in _ (by omega)) ?_ | refine Ev.mk _ (wrap_u8_nat _) ?_ | refine Ev.mk _ (shr8 _) ?_ | refine Ev.mk _ (Int.toNat_natCast _) ?_ | refine Ev.mk _ (Int.toNat_ofNat _) ?_) | refine @Ev.keep (List Value) _ _ ?_ | refine Rd.mk _ (by assumption) (by (first | exact trivial | exact fun x => x)) ?_ | refine Nd.mk (by (first | omega | exact ⟨rfl, rfl⟩ | exact ⟨rfl, by decide⟩ | exact ⟨by decide, rfl⟩ | exact ⟨by omega, by omega, by omega, by (simp [ti5]; omega), rfl⟩ | exact ⟨rfl, Nat.le_of_ble_eq_true rfl⟩ | exact rfl | decide)) ?_))
      refine Run.appS o3 (srcSn hpe.2 hpe.1) (by omega) x3.size (fun _ _ => trivial) ?_
      intro A4 c4 w4 hc4 o4 x4 hb4
      (repeat ((conv => whnf); first | refine G.seq ?_ | refine G.region cxOk ?_ | refine G.block ?_ | refine G.cond_t rfl ?_ | refine G.cond_f rfl ?_ | refine G.skip ?_ | refine G.exit ?_ | refine G.ret ?_ | refine Cmp.dt (by (first | (with_reducible rfl) | omega)) ?_ | refine Cmp.df (by omega) ?_ | (first | refine Ev.mk _ (IntWalk.i64_in _ (by omega)) ?_ | refine Ev.mk _ (wrap_u8_nat _) ?_ | refine Ev.mk _ (shr8 _) ?_ | refine Ev.mk _ (Int.toNat_natCast _) ?_ | refine Ev.mk _ (Int.toNat_ofNat _) ?_) | refine @Ev.keep (List Value) _ _ ?_ | refine Rd.mk _ (by assumption) (by (first | exact trivial | exact fun x => x)) ?_ | refine Nd.mk (by (first | omega | exact ⟨rfl, rfl⟩ | exact ⟨rfl, by decide⟩ | exact ⟨by decide, rfl⟩ | exact ⟨by omega, by omega, by omega, by (simp [ti5]; omega), rfl⟩ | exact ⟨rfl, Nat.le_of_ble_eq_true rfl⟩ | exact rfl | decide)) ?_))
      refine ⟨(i + 1, _), ⟨rfl, rfl, rfl, rfl, trivial⟩, ⟨by simp only; omega, by simp only; rw [hj]; exact o4, x3.app o3 (Nat.le_refl _) x4⟩, by simp only; omega⟩
    · obtain rfl : i = ps.length := by omega
      rw [List.take_of_length_le (Nat.le_refl _)] at o3
      (repeat ((conv => whnf); first | refine G.seq ?_ | refine G.region cxOk ?_ | refine G.block ?_ | refine G.cond_t rfl ?_ | refine G.cond_f rfl ?_ | refine G.skip ?_ | refine G.exit ?_ | refine G.ret ?_ | refine Cmp.dt (by (first | (with_reducible rfl) | omega)) ?_ | refine Cmp.df (by omega) ?_ | (first | refine Ev.mk _ (IntWalk.i64_in _ (by omega)) ?_ | refine Ev.mk _ (wrap_u8_nat _) ?_ | refine Ev.mk _ (shr8 _) ?_ | refine Ev.mk _ (Int.toNat_natCast _) ?_ | refine Ev.mk _ (Int.toNat_ofNat _) ?_) | refine @Ev.keep (List Value) _ _ ?_ | refine Rd.mk _ (by assumption) (by (first | exact trivial | exact fun x => x)) ?_ | refine Nd.mk (by (first | omega | exact ⟨rfl, rfl⟩ | exact ⟨rfl, by decide⟩ | exact ⟨by decide, rfl⟩ | exact ⟨by omega, by omega, by omega, by (simp [ti5]; omega), rfl⟩ | exact ⟨rfl, Nat.le_of_ble_eq_true rfl⟩ | exact rfl | decide)) ?_))
      refine Don.mk ⟨?_, x3⟩
      have e : List.take ps.length ps = ps := List.take_of_length_le (Nat.le_refl _)
      rw [e]
      exact o3
theorem Copy_ret {A : Option Addr} {c : Nat} {t : NRef} {l : List NSnap} {w : World} (h : CatAt w t A c l) (hn : l.length ≤ 2513169434843) :
    Ret cx.P 12 #[catV t A l.length c] w fun v w' => ∃ A2 c2, v = catV t A2 l.length c2 ∧ l.length ≤ c2 ∧ OSn w' w.heap.size (.slice A2 l.length c2) l ∧ Ext Non w w' := by
  refine Ret.e1 (C := cx) (n := 9) cxOk Try.func12 rfl rfl rfl ?_
  have hlen : ∀ v, (nv t ++ [v]).length = 34 := fun v => by rw [List.length_append, nv_length h.top.len]; rfl
  (repeat ((conv => whnf); first | refine G.seq ?_ | refine G.region cxOk ?_ | refine G.block ?_ | refine G.cond_t rfl ?_ | refine G.cond_f rfl ?_ | refine G.skip ?_ | refine G.exit ?_ | refine G.ret ?_ | refine Cmp.dt (by (first | (with_reducible rfl) | omega)) ?_ | refine Cmp.df (by omega) ?_ | (first | (with_reducible refine Ev.mk _ (u32_xor _ _) ?_) | (with_reducible refine Ev.mk _ (u32_and _ _) ?_) | (with_reducible refine Ev.mk _ (u32_or _ _) ?_) | (with_reducible refine Ev.mk _ (u32_add _ _) ?_) | (with_reducible refine Ev.mk _ (u32_not _) ?_) | (with_reducible refine Ev.mk _ (u8_u32 _) ?_) | refine Ix1.mk _ _ _ rfl (by decide) rfl ?_) | (first | (with_reducible refine Ev.mk _ (IntWalk.i64_in _ ?_) ?_; · omega) | (with_reducible refine Ev.mk _ (wrap_u8_nat _) ?_) | (with_reducible refine Ev.mk _ (shr8 _) ?_) | (with_reducible refine Ev.mk _ (Int.toNat_natCast _) ?_) | (with_reducible refine Ev.mk _ (Int.toNat_ofNat _) ?_)) | refine @Ev.keep (List Value) _ _ ?_ | refine Rd.mk _ (by assumption) (by (first | exact trivial | exact fun x => x)) ?_ | refine Nd.mk (by (first | omega | exact ⟨rfl, rfl⟩ | exact ⟨rfl, by decide⟩ | exact ⟨by decide, rfl⟩ | exact ⟨by omega, by omega, by omega, by (simp [ti5]; omega), rfl⟩ | exact ⟨rfl, Nat.le_of_ble_eq_true rfl⟩ | exact rfl | decide)) ?_))
  refine Al.mk fun tb w1 hN1 => ?_
  have a1 : At w1 tb (nv t ++ [.slice A l.length c]) 29 (0, 0) := hN1.at_
  (repeat ((conv => whnf); first | refine G.seq ?_ | refine G.region cxOk ?_ | refine G.block ?_ | refine G.cond_t rfl ?_ | refine G.cond_f rfl ?_ | refine G.skip ?_ | refine G.exit ?_ | refine G.ret ?_ | refine Cmp.dt (by (first | (with_reducible rfl) | omega)) ?_ | refine Cmp.df (by omega) ?_ | (first | (with_reducible refine Ev.mk _ (u32_xor _ _) ?_) | (with_reducible refine Ev.mk _ (u32_and _ _) ?_) | (with_reducible refine Ev.mk _ (u32_or _ _) ?_) | (with_reducible refine Ev.mk _ (u32_add _ _) ?_) | (with_reducible refine Ev.mk _ (u32_not _) ?_) | (with_reducible refine Ev.mk _ (u8_u32 _) ?_) | refine Ix1.mk _ _ _ rfl (by decide) rfl ?_) | (first | (with_reducible refine Ev.mk _ (IntWalk.i64_in _ ?_) ?_; · omega) | (with_reducible refine Ev.mk _ (wrap_u8_nat _) ?_) | (with_reducible refine Ev.mk _ (shr8 _) ?_) | (with_reducible refine Ev.mk _ (Int.toNat_natCast _) ?_) | (with_reducible refine Ev.mk _ (Int.toNat_ofNat _) ?_)) | refine @Ev.keep (List Value) _ _ ?_ | refine Rd.mk _ (by assumption) (by (first | exact trivial | exact fun x => x)) ?_ | refine Nd.mk (by (first | omega | exact ⟨rfl, rfl⟩ | exact ⟨rfl, by decide⟩ | exact ⟨by decide, rfl⟩ | exact ⟨by omega, by omega, by omega, by (simp [ti5]; omega), rfl⟩ | exact ⟨rfl, Nat.le_of_ble_eq_true rfl⟩ | exact rfl | decide)) ?_))
  refine Al.mk fun rb w2 hN2 => ?_
  have hr2 : At w2 rb _ 29 (0, 0) := hN2.at_
  have a2 := a1.ext hN2.ext id
  (repeat ((conv => whnf); first | refine G.seq ?_ | refine G.region cxOk ?_ | refine G.block ?_ | refine G.cond_t rfl ?_ | refine G.cond_f rfl ?_ | refine G.skip ?_ | refine G.exit ?_ | refine G.ret ?_ | refine Cmp.dt (by (first | (with_reducible rfl) | omega)) ?_ | refine Cmp.df (by omega) ?_ | (first | (with_reducible refine Ev.mk _ (u32_xor _ _) ?_) | (with_reducible refine Ev.mk _ (u32_and _ _) ?_) | (with_reducible refine Ev.mk _ (u32_or _ _) ?_) | (with_reducible refine Ev.mk _ (u32_add _ _) ?_) | (with_reducible refine Ev.mk _ (u32_not _) ?_) | (with_reducible refine Ev.mk _ (u8_u32 _) ?_) | refine Ix1.mk _ _ _ rfl (by decide) rfl ?_) | (first | (with_reducible refine Ev.mk _ (IntWalk.i64_in _ ?_) ?_; · omega) | (with_reducible refine Ev.mk _ (wrap_u8_nat _) ?_) | (with_reducible refine Ev.mk _ (shr8 _) ?_) | (with_reducible refine Ev.mk _ (Int.toNat_natCast _) ?_) | (with_reducible refine Ev.mk _ (Int.toNat_ofNat _) ?_)) | refine @Ev.keep (List Value) _ _ ?_ | refine Rd.mk _ (by assumption) (by (first | exact trivial | exact fun x => x)) ?_ | refine Nd.mk (by (first | omega | exact ⟨rfl, rfl⟩ | exact ⟨rfl, by decide⟩ | exact ⟨by decide, rfl⟩ | exact ⟨by omega, by omega, by omega, by (simp [ti5]; omega), rfl⟩ | exact ⟨rfl, Nat.le_of_ble_eq_true rfl⟩ | exact rfl | decide)) ?_))
  refine Al.mk fun eb w3 hN3 => ?_
  have a3 := a2.ext hN3.ext id
  have hr3 := hr2.ext hN3.ext id
  have x3 := (hN1.ext.trans hN2.ext).trans hN3.ext
  obtain ⟨t0, t1⟩ := cat_cells a3 h.top.len
  have o3 : OSn w3 w.heap.size (.slice (some ⟨eb, 0, none⟩) 0 0) [] := (OS.new (xs := []) (sp := []) hN3 (hN1.ext.trans hN2.ext).size rfl (Nat.le_refl _) rfl (.inl rfl))
  (repeat ((conv => whnf); first | refine G.seq ?_ | refine G.region cxOk ?_ | refine G.block ?_ | refine G.cond_t rfl ?_ | refine G.cond_f rfl ?_ | refine G.skip ?_ | refine G.exit ?_ | refine G.ret ?_ | refine Cmp.dt (by (first | (with_reducible rfl) | omega)) ?_ | refine Cmp.df (by omega) ?_ | (first | (with_reducible refine Ev.mk _ (u32_xor _ _) ?_) | (with_reducible refine Ev.mk _ (u32_and _ _) ?_) | (with_reducible refine Ev.mk _ (u32_or _ _) ?_) | (with_reducible refine Ev.mk _ (u32_add _ _) ?_) | (with_reducible refine Ev.mk _ (u32_not _) ?_) | (with_reducible refine Ev.mk _ (u8_u32 _) ?_) | refine Ix1.mk _ _ _ rfl (by decide) rfl ?_) | (first | (with_reducible refine Ev.mk _ (IntWalk.i64_in _ ?_) ?_; · omega) | (with_reducible refine Ev.mk _ (wrap_u8_nat _) ?_) | (with_reducible refine Ev.mk _ (shr8 _) ?_) | (with_reducible refine Ev.mk _ (Int.toNat_natCast _) ?_) | (with_reducible refine Ev.mk _ (Int.toNat_ofNat _) ?_)) | refine @Ev.keep (List Value) _ _ ?_ | refine Rd.mk _ (by assumption) (by (first | exact trivial | exact fun x => x)) ?_ | refine Nd.mk (by (first | omega | exact ⟨rfl, rfl⟩ | exact ⟨rfl, by decide⟩ | exact ⟨by decide, rfl⟩ | exact ⟨by omega, by omega, by omega, by (simp [ti5]; omega), rfl⟩ | exact ⟨rfl, Nat.le_of_ble_eq_true rfl⟩ | exact rfl | decide)) ?_))
  refine Run.appS o3 (srcSn h.snaps (h.ext x3).row) (by simp; omega) x3.size (fun _ _ => trivial) ?_
  intro A4 c4 w4 hc4 o4 x4 hb4
  have x04 := x3.app o3 (Nat.le_refl _) x4
  have htb : ¬ blkOf (.slice (some ⟨eb, 0, none⟩) 0 0) tb := fun ⟨o, s, n, c, e⟩ => by
    injection e with e _ _
    injection e with e
    injection e with e _ _
    have h1 := a2.lt
    have h2 := hN3.ge
    omega
  have hrb : ¬ blkOf (.slice (some ⟨eb, 0, none⟩) 0 0) rb := fun ⟨o, s, n, c, e⟩ => by
    injection e with e _ _
    injection e with e
    injection e with e _ _
    have h1 := hr2.lt
    have h2 := hN3.ge
    omega
  have a4 := a3.ext x4 htb
  have hr4 := hr3.ext x4 hrb
  have hnt : ∀ k, blkOf (.slice A4 ([] ++ l).length c4) k → k ≠ tb ∧ k ≠ rb := fun k hk => by
    obtain ⟨o, s, n, c, e⟩ := hk
    have := hb4 k ⟨o, s, by injection e⟩
    rcases this with this | this
    · exact ⟨fun e => htb (e ▸ this), fun e => hrb (e ▸ this)⟩
    · have h1 := a3.lt
      have h2 := hr3.lt
      exact ⟨by omega, by omega⟩
  (repeat ((conv => whnf); first | refine G.seq ?_ | refine G.region cxOk ?_ | refine G.block ?_ | refine G.cond_t rfl ?_ | refine G.cond_f rfl ?_ | refine G.skip ?_ | refine G.exit ?_ | refine G.ret ?_ | refine Cmp.dt (by (first | (with_reducible rfl) | omega)) ?_ | refine Cmp.df (by omega) ?_ | (first | (with_reducible refine Ev.mk _ (u32_xor _ _) ?_) | (with_reducible refine Ev.mk _ (u32_and _ _) ?_) | (with_reducible refine Ev.mk _ (u32_or _ _) ?_) | (with_reducible refine Ev.mk _ (u32_add _ _) ?_) | (with_reducible refine Ev.mk _ (u32_not _) ?_) | (with_reducible refine Ev.mk _ (u8_u32 _) ?_) | refine Ix1.mk _ _ _ rfl (by decide) rfl ?_) | (first | (with_reducible refine Ev.mk _ (IntWalk.i64_in _ ?_) ?_; · omega) | (with_reducible refine Ev.mk _ (wrap_u8_nat _) ?_) | (with_reducible refine Ev.mk _ (shr8 _) ?_) | (with_reducible refine Ev.mk _ (Int.toNat_natCast _) ?_) | (with_reducible refine Ev.mk _ (Int.toNat_ofNat _) ?_)) | refine @Ev.keep (List Value) _ _ ?_ | refine Rd.mk _ (by assumption) (by (first | exact trivial | exact fun x => x)) ?_ | refine Nd.mk (by (first | omega | exact ⟨rfl, rfl⟩ | exact ⟨rfl, by decide⟩ | exact ⟨by decide, rfl⟩ | exact ⟨by omega, by omega, by omega, by (simp [ti5]; omega), rfl⟩ | exact ⟨rfl, Nat.le_of_ble_eq_true rfl⟩ | exact rfl | decide)) ?_))
  refine St1.mk a4 (by rw [hlen]; omega) (fun h => absurd h.2 (Nat.not_lt_zero _)) trivial fun w5 a5 x5 => ?_
  have hr5 := hr4.ext x5 (fun e => by have h1 := a1.lt; have h2 := hN2.ge; omega)
  have hset : (nv t ++ [Value.slice A l.length c]).set 33 (.slice A4 ([] ++ l).length c4) = nv t ++ [.slice A4 ([] ++ l).length c4] := by
    rw [List.set_append_right _ _ (by rw [nv_length h.top.len]; omega), nv_length h.top.len]
    rfl
  rw [hset] at a5
  have o5 : OSn w5 w.heap.size (.slice A4 ([] ++ l).length c4) ([] ++ l) := o4.ext x5 fun k hk e => (hnt k hk).1 e
  have x05 : Ext Non w w5 := Ext.own x04 x5 hN1.ge
  (repeat ((conv => whnf); first | refine G.seq ?_ | refine G.region cxOk ?_ | refine G.block ?_ | refine G.cond_t rfl ?_ | refine G.cond_f rfl ?_ | refine G.skip ?_ | refine G.exit ?_ | refine G.ret ?_ | refine Cmp.dt (by (first | (with_reducible rfl) | omega)) ?_ | refine Cmp.df (by omega) ?_ | (first | (with_reducible refine Ev.mk _ (u32_xor _ _) ?_) | (with_reducible refine Ev.mk _ (u32_and _ _) ?_) | (with_reducible refine Ev.mk _ (u32_or _ _) ?_) | (with_reducible refine Ev.mk _ (u32_add _ _) ?_) | (with_reducible refine Ev.mk _ (u32_not _) ?_) | (with_reducible refine Ev.mk _ (u8_u32 _) ?_) | refine Ix1.mk _ _ _ rfl (by decide) rfl ?_) | (first | (with_reducible refine Ev.mk _ (IntWalk.i64_in _ ?_) ?_; · omega) | (with_reducible refine Ev.mk _ (wrap_u8_nat _) ?_) | (with_reducible refine Ev.mk _ (shr8 _) ?_) | (with_reducible refine Ev.mk _ (Int.toNat_natCast _) ?_) | (with_reducible refine Ev.mk _ (Int.toNat_ofNat _) ?_)) | refine @Ev.keep (List Value) _ _ ?_ | refine Rd.mk _ (by assumption) (by (first | exact trivial | exact fun x => x)) ?_ | refine Nd.mk (by (first | omega | exact ⟨rfl, rfl⟩ | exact ⟨rfl, by decide⟩ | exact ⟨by decide, rfl⟩ | exact ⟨by omega, by omega, by omega, by (simp [ti5]; omega), rfl⟩ | exact ⟨rfl, Nat.le_of_ble_eq_true rfl⟩ | exact rfl | decide)) ?_))
  refine RdA.whole a5 (hlen _) trivial ?_
  (repeat ((conv => whnf); first | refine G.seq ?_ | refine G.region cxOk ?_ | refine G.block ?_ | refine G.cond_t rfl ?_ | refine G.cond_f rfl ?_ | refine G.skip ?_ | refine G.exit ?_ | refine G.ret ?_ | refine Cmp.dt (by (first | (with_reducible rfl) | omega)) ?_ | refine Cmp.df (by omega) ?_ | (first | (with_reducible refine Ev.mk _ (u32_xor _ _) ?_) | (with_reducible refine Ev.mk _ (u32_and _ _) ?_) | (with_reducible refine Ev.mk _ (u32_or _ _) ?_) | (with_reducible refine Ev.mk _ (u32_add _ _) ?_) | (with_reducible refine Ev.mk _ (u32_not _) ?_) | (with_reducible refine Ev.mk _ (u8_u32 _) ?_) | refine Ix1.mk _ _ _ rfl (by decide) rfl ?_) | (first | (with_reducible refine Ev.mk _ (IntWalk.i64_in _ ?_) ?_; · omega) | (with_reducible refine Ev.mk _ (wrap_u8_nat _) ?_) | (with_reducible refine Ev.mk _ (shr8 _) ?_) | (with_reducible refine Ev.mk _ (Int.toNat_natCast _) ?_) | (with_reducible refine Ev.mk _ (Int.toNat_ofNat _) ?_)) | refine @Ev.keep (List Value) _ _ ?_ | refine Rd.mk _ (by assumption) (by (first | exact trivial | exact fun x => x)) ?_ | refine Nd.mk (by (first | omega | exact ⟨rfl, rfl⟩ | exact ⟨rfl, by decide⟩ | exact ⟨by decide, rfl⟩ | exact ⟨by omega, by omega, by omega, by (simp [ti5]; omega), rfl⟩ | exact ⟨rfl, Nat.le_of_ble_eq_true rfl⟩ | exact rfl | decide)) ?_))
  refine Nd.mk (by rw [List.size_toArray, hlen]; rfl) ?_
  have h1 : ∀ v ∈ nv t ++ [Value.slice A4 ([] ++ l).length c4], v.oneCell' = true := fun v hv => by
    rcases List.mem_append.1 hv with hv | hv
    · exact one_nv _ v hv
    · obtain rfl := List.mem_singleton.1 hv
      rfl
  refine StA.all (m := .plain) (vs := nv t ++ [.slice A4 ([] ++ l).length c4]) hr5 (by rw [hlen]; rfl) h1 trivial fun w6 hr6 x6 => ?_
  have o6 : OSn w6 w.heap.size (.slice A4 ([] ++ l).length c4) ([] ++ l) := o5.ext x6 fun k hk e => (hnt k hk).2 e
  have x06 : Ext Non w w6 := Ext.own x05 x6 (Nat.le_trans hN1.ext.size hN2.ge)
  (repeat ((conv => whnf); first | refine G.seq ?_ | refine G.region cxOk ?_ | refine G.block ?_ | refine G.cond_t rfl ?_ | refine G.cond_f rfl ?_ | refine G.skip ?_ | refine G.exit ?_ | refine G.ret ?_ | refine Cmp.dt (by (first | (with_reducible rfl) | omega)) ?_ | refine Cmp.df (by omega) ?_ | (first | (with_reducible refine Ev.mk _ (u32_xor _ _) ?_) | (with_reducible refine Ev.mk _ (u32_and _ _) ?_) | (with_reducible refine Ev.mk _ (u32_or _ _) ?_) | (with_reducible refine Ev.mk _ (u32_add _ _) ?_) | (with_reducible refine Ev.mk _ (u32_not _) ?_) | (with_reducible refine Ev.mk _ (u8_u32 _) ?_) | refine Ix1.mk _ _ _ rfl (by decide) rfl ?_) | (first | (with_reducible refine Ev.mk _ (IntWalk.i64_in _ ?_) ?_; · omega) | (with_reducible refine Ev.mk _ (wrap_u8_nat _) ?_) | (with_reducible refine Ev.mk _ (shr8 _) ?_) | (with_reducible refine Ev.mk _ (Int.toNat_natCast _) ?_) | (with_reducible refine Ev.mk _ (Int.toNat_ofNat _) ?_)) | refine @Ev.keep (List Value) _ _ ?_ | refine Rd.mk _ (by assumption) (by (first | exact trivial | exact fun x => x)) ?_ | refine Nd.mk (by (first | omega | exact ⟨rfl, rfl⟩ | exact ⟨rfl, by decide⟩ | exact ⟨by decide, rfl⟩ | exact ⟨by omega, by omega, by omega, by (simp [ti5]; omega), rfl⟩ | exact ⟨rfl, Nat.le_of_ble_eq_true rfl⟩ | exact rfl | decide)) ?_))
  refine RdA.whole hr6 (hlen _) trivial ?_
  (repeat ((conv => whnf); first | refine G.seq ?_ | refine G.region cxOk ?_ | refine G.block ?_ | refine G.cond_t rfl ?_ | refine G.cond_f rfl ?_ | refine G.skip ?_ | refine G.exit ?_ | refine G.ret ?_ | refine Cmp.dt (by (first | (with_reducible rfl) | omega)) ?_ | refine Cmp.df (by omega) ?_ | (first | (with_reducible refine Ev.mk _ (u32_xor _ _) ?_) | (with_reducible refine Ev.mk _ (u32_and _ _) ?_) | (with_reducible refine Ev.mk _ (u32_or _ _) ?_) | (with_reducible refine Ev.mk _ (u32_add _ _) ?_) | (with_reducible refine Ev.mk _ (u32_not _) ?_) | (with_reducible refine Ev.mk _ (u8_u32 _) ?_) | refine Ix1.mk _ _ _ rfl (by decide) rfl ?_) | (first | (with_reducible refine Ev.mk _ (IntWalk.i64_in _ ?_) ?_; · omega) | (with_reducible refine Ev.mk _ (wrap_u8_nat _) ?_) | (with_reducible refine Ev.mk _ (shr8 _) ?_) | (with_reducible refine Ev.mk _ (Int.toNat_natCast _) ?_) | (with_reducible refine Ev.mk _ (Int.toNat_ofNat _) ?_)) | refine @Ev.keep (List Value) _ _ ?_ | refine Rd.mk _ (by assumption) (by (first | exact trivial | exact fun x => x)) ?_ | refine Nd.mk (by (first | omega | exact ⟨rfl, rfl⟩ | exact ⟨rfl, by decide⟩ | exact ⟨by decide, rfl⟩ | exact ⟨by omega, by omega, by omega, by (simp [ti5]; omega), rfl⟩ | exact ⟨rfl, Nat.le_of_ble_eq_true rfl⟩ | exact rfl | decide)) ?_))
  exact Don.mk ⟨A4, c4, rfl, hc4, o6, x06⟩
end Go.Proofs.Ytodpaehciegmiaa

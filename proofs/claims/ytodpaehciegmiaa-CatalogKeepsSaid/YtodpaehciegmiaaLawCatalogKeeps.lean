import Derived.Test.YtodpaehciegmiaaCgL
import Derived.Test.YtodpaehciegmiaaOpenInts
import Derived.Test.YtodpaehciegmiaaOpenStr

/-
  A snapshot keeps its tree: the walk.
-/



namespace Go.Proofs.Ytodpaehciegmiaa

open Go Sx

set_option linter.unusedVariables false

set_option linter.unusedSimpArgs false

set_option maxRecDepth 100000

theorem ints_at {w : World} {k : IntKind} {A : Option Addr} {T : List Int} (h : Cells w A (ivs k T)) {i : Nat} (hi : i < T.length) : ∃ b off, A = some ⟨b, off, none⟩ ∧ w.cell? ⟨b, off + i, none⟩ = some (.int k T[i]) := by
  rcases h with e | ⟨b, off, rfl, h⟩
  · have := congrArg List.length e
    rw [ivs_length, List.length_nil] at this
    omega
  · refine ⟨b, off, rfl, ?_⟩
    rw [h i (by rw [ivs_length]; exact hi)]
    simp [ivs]
theorem strs_at' {w : World} {A : Option Addr} {ns : List ByteArray} (h : Cells w A (strs ns)) {i : Nat} (hi : i < ns.length) : ∃ b off, A = some ⟨b, off, none⟩ ∧ w.cell? ⟨b, off + i, none⟩ = some (.string ns[i]) := by
  rcases h with e | ⟨b, off, rfl, h⟩
  · have := congrArg List.length e
    simp [strs] at this
    subst this
    exact absurd hi (by simp)
  · refine ⟨b, off, rfl, ?_⟩
    rw [h i (by simp [strs]; exact hi)]
    simp [strs]
theorem ov_whole {cs vs : List Value} (h : vs.length = cs.length) : ov cs 0 vs = vs := by simp [ov, h]
theorem tmod4 (t : Nat) : ((t : Nat) : Int).tmod 4 = ((t % 4 : Nat) : Int) := by
  rw [Int.tmod_eq_emod_of_nonneg (by omega)]
  omega
def top1 (n : Nat) : NRef := (n, 1 :: List.replicate 31 0)
theorem top1_ok {n : Nat} (h : n < 4294967296) : RefOk (top1 n) := ⟨h, rfl⟩
theorem top1_good {n : Nat} (h : n ≠ 0) : goodT (top1 n) = true := decide_eq_true (.inl h)

set_option maxHeartbeats 4000000 in
theorem CatalogKeeps_ret {A A1 : Option Addr} {c c1 : Nat} {ns : List ByteArray} {T : List Int} {w : World} (h : Cells w A (strs ns)) (hs : ∀ s ∈ ns, s.size ≤ 9223372036854775807) (hn : ns.length ≤ 9223372036854775807) (hT : Cells w A1 (ivs .u32 T)) (hTb : ∀ z ∈ T, 0 ≤ z ∧ z ≤ 4294967295) :
    Ret cx.P 6 #[.slice A ns.length c, .slice A1 T.length c1] w fun v w' => v = .bool true ∧ Ext Non w w' := by
  refine Ret.e2 (C := cx) (n := 171) cxOk Try.func6 rfl rfl rfl ?_
  by_cases h40 : 40 < ns.length
  · (repeat ((conv => whnf); first | refine G.seq ?_ | refine G.region cxOk ?_ | refine G.cond_t rfl ?_ | refine Cmp.dt (by (omega)) ?_))
    refine Cl.mk (awake18_ret w) ?_
    rintro _ w3 ⟨rfl, x3⟩
    (repeat ((conv => whnf); refine G.ret ?_))
    exact Don.mk ⟨rfl, x3⟩
  refine G.seq ?_
  (repeat ((conv => whnf); refine G.region cxOk ?_))
  refine G.seq ?_
  (repeat ((conv => whnf); refine G.region cxOk ?_))
  refine G.seq ?_
  (repeat ((conv => whnf); first | refine G.region cxOk ?_ | refine G.cond_f rfl ?_ | refine G.skip ?_ | refine Cmp.df (by omega) ?_))
  refine G.seq ?_
  (repeat ((conv => whnf); first | refine G.region cxOk ?_ | refine @Ev.keep (List Value) _ _ ?_))
  refine Al.mk fun cb w1 hN1 => ?_
  (repeat ((conv => whnf); refine Nd.mk (by (first | omega | exact rfl)) ?_))
  refine StA.all (m := .plain) (vs := nv noRef ++ [.slice none 0 0]) hN1.at_ rfl (one_cat _ _ _ _) trivial fun w2 a2 x2 => ?_
  have cge := hN1.ge
  have x02 : Ext Non w w2 := Ext.own hN1.ext x2 cge
  obtain ⟨base, hbase⟩ : ∃ base, w.heap.size = base := ⟨_, rfl⟩
  have K0 : KM w2 base (· = cb) cb (.slice none 0 0) (.slice none 0 0) noRef [] [] :=
    ⟨⟨none, 0, a2, ⟨noRef_ok, snapsOk_nil, .inl rfl, Nat.le_refl _⟩, fun k ⟨_, _, e⟩ => (by cases e)⟩, OP.nil _ _ _ _, OP.nil _ _ _ _, fun k ⟨_, _, _, _, e⟩ => (by injection e with e; cases e), fun k ⟨_, _, _, _, e⟩ => (by injection e with e; cases e), rfl, fun p hp => (by cases hp)⟩
  clear hN1 a2 x2
  refine G.seq ?_
  (repeat ((conv => whnf); refine G.region cxOk ?_))
  refine G.seq ?_
  (repeat ((conv => whnf); refine G.region cxOk ?_))
  refine G.seq ?_
  (repeat ((conv => whnf); refine G.region cxOk ?_))
  refine G.seq ?_
  (repeat ((conv => whnf); first | refine G.region cxOk ?_ | refine G.block ?_))
  refine G.loop (α := Nat × Value × Value) (fun q => [(0, .slice A ns.length c), (1, .slice A1 T.length c1), (5, .pointer (some ⟨cb, 0, none⟩)), (6, q.2.1), (7, q.2.2), (8, .int .i64 (q.1 : Int))])
    (fun q u => q.1 ≤ ns.length ∧ base ≤ u.heap.size ∧ Ext Non w u ∧ ∃ t l P, KM u base (· = cb) cb q.2.1 q.2.2 t l P ∧ goodT t = true ∧ Kp l P ∧ l.length ≤ q.1) (fun q => ns.length - q.1) (0, .slice none 0 0, .slice none 0 0) ⟨rfl, rfl, rfl, rfl, rfl, rfl, trivial⟩ ⟨Nat.zero_le _, by have := x02.size; omega, x02, noRef, [], [], K0, by decide, Kp.nil, Nat.le_refl _⟩ ?_
  rintro ⟨i, vN, vK⟩ u ⟨hi, hbu, xu, t, l, P, K, ht, hkp, hln⟩
  clear K0 x02
  simp only at hi K hln ⊢
  refine G.seq ?_
  refine G.seq ?_
  (repeat ((conv => whnf); refine G.region cxOk ?_))
  refine Cmp.ds (fun hlt => ?_) (fun hge => ?_)
  rotate_left
  · obtain rfl : i = ns.length := by omega
    have hPe := hkp.perm.length_eq
    obtain ⟨AN, cN, AK, cK', eN, eK, hcN, hcK, hclN, hclK⟩ := K.nform
    subst eN eK
    obtain ⟨AA, cc, av, cv, gv⟩ := K.row
    obtain ⟨t0, t1⟩ := cat_cells av cv.top.len
    have hlen := cat_len cv.top.len
    (repeat ((conv => whnf); first | refine G.seq ?_ | refine G.region cxOk ?_ | refine G.cond_f rfl ?_ | refine G.exit ?_ | refine Cmp.dt (by (omega)) ?_ | refine Rd.mk _ (by assumption) (by (exact trivial)) ?_))
    refine RdA.whole av (hlen _) trivial ?_
    (repeat ((conv => whnf); refine G.seq ?_))
    refine Cl.mk (Check_ret cv (by omega)) ?_
    rintro _ v7 ⟨rfl, x7⟩
    rw [hkp.check ht (by omega)]
    (repeat ((conv => whnf); refine Cmp.dt (by (first | (with_reducible rfl) | omega)) ?_))
    refine Cl.mk (awake18_ret v7) ?_
    rintro _ v8 ⟨rfl, x8⟩
    (repeat ((conv => whnf); refine G.ret ?_))
    exact Don.mk ⟨rfl, (xu.trans x7).trans x8⟩
  have hil : i < ns.length := by omega
  (repeat ((conv => whnf); first | refine G.cond_t rfl ?_ | refine G.skip ?_))
  refine G.seq ?_
  refine G.block ?_
  have hTok := K.row.elim fun A hA => hA.elim fun c hc => hc.2.1.top
  refine G.cut (fun l' v => Sub [(0, .slice A ns.length c), (1, .slice A1 T.length c1), (5, .pointer (some ⟨cb, 0, none⟩)), (6, vN), (7, vK), (8, .int .i64 (i : Int))] l' ∧ base ≤ v.heap.size ∧ Ext Non w v ∧ ∃ t', KM v base (· = cb) cb vN vK t' l P ∧ goodT t' = true) ?_ ?_
  · by_cases hiT : i < T.length
    · obtain ⟨b1, o1, rfl, g1⟩ := ints_at (hT.ext xu (fun _ _ x => x)) hiT
      have hz := hTb _ (List.getElem_mem hiT)
      obtain ⟨n, en⟩ : ∃ n : Nat, T[i] = (n : Int) := ⟨T[i].toNat, by omega⟩
      rw [en] at g1 hz
      by_cases hn0 : n = 0
      · subst hn0
        (repeat ((conv => whnf); first | refine G.seq ?_ | refine G.region cxOk ?_ | refine Cmp.dt (by (omega)) ?_))
        refine Ix1.mk b1 o1 (o1 + i) rfl (by omega) (by omega) ?_
        (repeat ((conv => whnf); first | refine G.cond_f rfl ?_ | refine G.skip ?_ | refine Cmp.df (by omega) ?_ | refine Rd.mk _ (by assumption) (by (exact trivial)) ?_))
        (try refine Cmp.df (fun h => h rfl) ?_)
        (repeat ((conv => whnf); refine G.seq ?_))
        exact ⟨⟨rfl, rfl, rfl, rfl, rfl, rfl, trivial⟩, hbu, xu, t, K, ht⟩
      · have hn0' : ¬ (n : Int) = 0 := by omega
        obtain ⟨AA, cc, a1, c2, h3⟩ := K.row
        (repeat ((conv => whnf); first | refine G.seq ?_ | refine G.region cxOk ?_ | refine Cmp.dt (by (omega)) ?_))
        refine Ix1.mk b1 o1 (o1 + i) rfl (by omega) (by omega) ?_
        (repeat ((conv => whnf); first | refine G.region cxOk ?_ | refine G.cond_t rfl ?_ | refine Cmp.dt (by (omega)) ?_ | refine Rd.mk _ (by assumption) (by (exact trivial)) ?_))
        (try refine Cmp.dt (by omega) ?_)
        (repeat ((conv => whnf); refine G.seq ?_))
        refine Ix1.mk b1 o1 (o1 + i) rfl (by omega) (by omega) ?_
        (repeat ((conv => whnf); first | refine @Ev.keep (List Value) _ _ ?_ | refine Rd.mk _ (by assumption) (by (exact trivial)) ?_ | refine Nd.mk (by (first | omega | exact ⟨rfl, by decide⟩ | exact ⟨rfl, Nat.le_of_ble_eq_true rfl⟩ | exact rfl)) ?_))
        refine StA.mk (vs := nv (top1 n)) a1 (by rw [nv_length rfl, cat_len c2.top.len]; decide) (.inl (Nat.le_refl _)) (one_nv _) trivial fun v av xv => ?_
        rw [ov_top c2.top.len rfl] at av
        (repeat ((conv => whnf); refine G.seq ?_))
        exact ⟨⟨rfl, rfl, rfl, rfl, rfl, rfl, trivial⟩, Nat.le_trans hbu xv.size, Ext.own xu xv (by omega), top1 n, K.top xv c2 h3 (top1_ok (by omega)) av, top1_good hn0⟩
    · (repeat ((conv => whnf); first | refine G.seq ?_ | refine G.region cxOk ?_ | refine G.cond_f rfl ?_ | refine G.skip ?_ | refine Cmp.df (by omega) ?_))
      exact ⟨⟨rfl, rfl, rfl, rfl, rfl, rfl, trivial⟩, hbu, xu, t, K, ht⟩
  rintro l' v ⟨hsub, hbv, xv, t', Kv, ht'⟩
  refine G.weak _ hsub ?_
  clear hsub K ht hTok
  have hTok := Kv.row.elim fun A hA => hA.elim fun c hc => hc.2.1.top
  obtain ⟨s, es⟩ : ∃ s, ns[i]'hil = s := ⟨_, rfl⟩
  have hsz : s.size ≤ 9223372036854775807 := by rw [← es]; exact hs _ (List.getElem_mem _)
  have hsnap := hkp.snap ht' (by omega) s
  obtain ⟨AA, cc, av, cv, gv⟩ := Kv.row
  obtain ⟨⟨⟨T1, L1⟩, E1⟩, hq1⟩ : ∃ r, snapC t' l s = r := ⟨_, rfl⟩
  have hk1 := snapC_ok (s := s) cv.top cv.snaps hsz
  rw [hq1] at hk1 hsnap
  obtain ⟨hT1, hL1, hn1⟩ : RefOk T1 ∧ SnapsOk L1 ∧ L1.length ≤ l.length + 1 := hk1
  have hlen := cat_len hTok.len
  have hlen1 := cat_len hT1.len
  have lcb := av.lt
  have hE : E1 = 0 ∨ E1 = 23 ∨ E1 = 44 := hsnap.imp (fun x => x.1) id
  have hvN : ∀ k, blkOf vN k → k < v.heap.size := fun k hk => (Kv.bN k hk).2.1
  have hvK : ∀ k, blkOf vK k → k < v.heap.size := fun k hk => (Kv.bK k hk).2.1
  refine G.cut (fun l' u2 => ∃ kb A2 c2, Sub [(0, .slice A ns.length c), (1, .slice A1 T.length c1), (5, .pointer (some ⟨cb, 0, none⟩)), (6, vN), (7, vK), (8, .int .i64 (i : Int)), (9, .pointer (some ⟨kb, 0, none⟩)), (10, .int .i64 E1)] l' ∧ KM u2 base (fun k => k = cb ∨ k = kb) cb vN vK t' l P ∧
    At u2 kb (nv T1 ++ [.slice A2 L1.length c2]) 29 (0, 0) ∧ CatAt u2 T1 A2 c2 L1 ∧ (∀ k, inBlk A2 k → v.heap.size ≤ k ∧ k < u2.heap.size ∧ k ≠ kb) ∧ v.heap.size ≤ kb ∧ Ext Non v u2) ?_ ?_
  · have xd : Ext Non v v.drew := Ext.drew _ _
    obtain ⟨nb, no, eA, hc⟩ := strs_at' (h.ext (xv.trans xd) (fun _ _ x => x)) hil
    rw [es] at hc
    subst eA
    have hnb : nb < v.drew.heap.size := World.block_lt_of_cell? _ _ hc
    have hnb' : ¬ v.heap.size ≤ nb := fun e => by have : v.drew.heap.size = v.heap.size := rfl; omega
    have lA' : ¬ v.heap.size ≤ cb := by omega
    refine G.draw cxOk (fun k => v.heap.size ≤ k) (.tk 0 <| .tk 1 <| .tk 2 <| .tk 3 <| .tk 4 <| .alt 5 (.tk 6 <| .tk 7 <| .tk 8 <| .w 9 <| .w 10 <| .tk 11 <| .done) (.w 9 (.w 5 <| .tk 6 <| .tk 7 <| .tk 8 <| .w 10 <| .tk 11 <| .done))) (by kernel_rfl) ?_
    (repeat ((conv => whnf); refine G.seq ?_))
    refine RdA.whole (av.ext xd id) (hlen _) lA' ?_
    (repeat ((conv => whnf); refine G.seq ?_))
    refine Ix1.mk nb no (no + i) rfl (by omega) (by omega) ?_
    (repeat ((conv => whnf); refine G.seq ?_))
    refine Rd.mk _ hc hnb' ?_
    (repeat ((conv => whnf); refine G.seq ?_))
    constructor
    · (repeat ((conv => whnf); refine G.seq ?_))
      refine Cl.dr (Snap_ret (cv.ext xd) _ (by omega) hsz) (fun _ _ hp => hp.2.mono fun _ x => x.elim) ?_
      rintro _ p1 ⟨hR1, y1⟩
      rw [hq1] at hR1
      obtain ⟨A3, c3, rfl, hc3, o3⟩ : ∃ A2 c2, _ = Value.tuple #[catV T1 A2 L1.length c2, .int .i64 E1] ∧ L1.length ≤ c2 ∧ OSn p1 v.heap.size (.slice A2 L1.length c2) L1 := hR1
      (repeat ((conv => whnf); refine G.seq ?_))
      refine Al.mk fun kb q1 hB1 => ?_
      (repeat ((conv => whnf); refine G.seq ?_))
      refine Nd.mk (by rw [List.size_toArray, hlen1]; rfl) ?_
      have kge : v.heap.size ≤ kb := Nat.le_trans y1.size hB1.ge
      refine StA.all (m := .any _) (vs := nv T1 ++ [.slice A3 L1.length c3]) hB1.at_ (by rw [hlen1]; rfl) (one_cat _ _ _ _) kge fun v1 g1 s1 => ?_
      have hlt3 : ∀ j, inBlk A3 j → j < kb := fun j hj => by have := o3.lt (blkOf_of hj); have := hB1.ge; omega
      have hge3 : ∀ j, inBlk A3 j → v.heap.size ≤ j := fun j hj => OS.ge o3 (blkOf_of hj)
      have o3' : OSn v1 v.heap.size (.slice A3 L1.length c3) L1 := o3.ext (hB1.ext.trans' s1 (fun _ _ x => x.elim) (fun _ _ e => e)) (fun j hj e => by have := o3.lt hj; have := hB1.ge; omega)
      have l1 := g1.lt
      have X1 : Ext Non v v1 := (xd.trans y1).trans (Ext.own hB1.ext s1 hB1.ge)
      (repeat ((conv => whnf); refine G.seq ?_))
      exact ⟨kb, A3, c3, ⟨rfl, rfl, rfl, rfl, rfl, rfl, rfl, rfl, trivial⟩, Kv.more X1 kge, g1, CatAt.of (w0 := v) hT1 hL1 hc3 o3', fun k hk => ⟨hge3 k hk, by have := hlt3 k hk; omega, by have := hlt3 k hk; omega⟩, kge, X1⟩
    · (repeat ((conv => whnf); refine G.seq ?_))
      refine Al.mk fun kb q1 hB1 => ?_
      have kge : v.heap.size ≤ kb := hB1.ge
      have g0 : At q1 kb _ 29 (0, 0) := hB1.at_
      have kl := g0.lt
      (repeat ((conv => whnf); refine G.seq ?_))
      refine Cl.dr (Snap_ret (cv.ext (xd.trans hB1.ext)) _ (by omega) hsz) (fun _ _ hp => hp.2.mono fun _ x => x.elim) ?_
      rintro _ p1 ⟨hR1, y1⟩
      rw [hq1] at hR1
      obtain ⟨A3, c3, rfl, hc3, o3⟩ : ∃ A2 c2, _ = Value.tuple #[catV T1 A2 L1.length c2, .int .i64 E1] ∧ L1.length ≤ c2 ∧ OSn p1 q1.heap.size (.slice A2 L1.length c2) L1 := hR1
      (repeat ((conv => whnf); refine G.seq ?_))
      refine Nd.mk (by rw [List.size_toArray, hlen1]; rfl) ?_
      refine StA.all (m := .any _) (vs := nv T1 ++ [.slice A3 L1.length c3]) (g0.ext y1 id) (by rw [hlen1]; rfl) (one_cat _ _ _ _) kge fun v1 g1 s1 => ?_
      have hlt3 : ∀ j, inBlk A3 j → j < v1.heap.size := fun j hj => by have := o3.lt (blkOf_of hj); have := s1.size; omega
      have hge3 : ∀ j, inBlk A3 j → q1.heap.size ≤ j := fun j hj => OS.ge o3 (blkOf_of hj)
      have o3' : OSn v1 q1.heap.size (.slice A3 L1.length c3) L1 := o3.ext s1 (fun j hj e => by have := o3.ge hj; omega)
      have X1 : Ext Non v v1 := Ext.own (xd.trans (hB1.ext.trans y1)) s1 kge
      have sq := hB1.ext.size
      have sq' : v.drew.heap.size = v.heap.size := rfl
      (repeat ((conv => whnf); refine G.seq ?_))
      exact ⟨kb, A3, c3, ⟨rfl, rfl, rfl, rfl, rfl, rfl, rfl, rfl, trivial⟩, Kv.more X1 kge, g1, CatAt.of (w0 := q1) hT1 hL1 hc3 o3', fun k hk => ⟨by have := hge3 k hk; omega, hlt3 k hk, by have := hge3 k hk; omega⟩, kge, X1⟩
  rintro l' u2 ⟨kb, A2, c2, hsub, K2, gk, cK, gK, kge, yu⟩
  refine G.weak _ hsub ?_
  clear hsub Kv av cv gv
  have hkbu := gk.lt
  have syu := yu.size
  have hnkb : kb ≠ cb := by omega
  refine G.cut (fun l' v3 => ∃ vN' vK' l2 P2 A2 c2 T1, Sub [(0, .slice A ns.length c), (1, .slice A1 T.length c1), (5, .pointer (some ⟨cb, 0, none⟩)), (6, vN'), (7, vK'), (8, .int .i64 (i : Int)), (9, .pointer (some ⟨kb, 0, none⟩)), (10, .int .i64 E1)] l' ∧ KM v3 base (fun k => k = cb ∨ k = kb) cb vN' vK' t' l2 P2 ∧
    At v3 kb (nv T1 ++ [.slice A2 (List.length L1) c2]) 29 (0, 0) ∧ RefOk T1 ∧ Kp l2 P2 ∧ l2.length ≤ i + 1 ∧ Ext Non w v3 ∧ base ≤ v3.heap.size) ?_ ?_
  · refine G.seq ?_
    (repeat ((conv => whnf); refine G.region cxOk ?_))
    refine Cmp.ds (fun hz => ?_) (fun hz => ?_)
    rotate_left
    · (repeat ((conv => whnf); first | refine G.cond_f rfl ?_ | refine G.skip ?_))
      exact ⟨vN, vK, l, P, A2, c2, T1, ⟨rfl, rfl, rfl, rfl, rfl, rfl, rfl, rfl, trivial⟩, K2, gk, hT1, hkp, by omega, xv.trans yu, by omega⟩
    obtain ⟨-, e1, hkp2⟩ : E1 = 0 ∧ T1 = t' ∧ Kp L1 (P ++ [(s, t')]) := hsnap.elim id (fun e => by simp only at e; omega)
    subst e1
    (repeat ((conv => whnf); refine G.cond_t rfl ?_))
    have xwu : Ext Non w u2 := xv.trans yu
    have hXlt : ∀ k, (k = cb ∨ k = kb) → k < u2.heap.size := fun k hk => by omega
    have hbu2 : base ≤ u2.heap.size := by omega
    have hPl : P.length ≤ 1000000 := by have := hkp.perm.length_eq; omega
    have hl32 := hT1.len
    have hnt := nv_length hl32
    have fin : ∀ {a a' b b' : World} {vN' vK' : Value}, Ext Non u2 a → Ext (blkOf vN) a a' → Ext Non a' b → Ext (blkOf vK) b b' → OP a' base 9 1 vN' (P.length + 1) (kNm P ++ [.string s]) → OP b' base 26 33 vK' (P.length + 1) (kRf P ++ nv T1) →
        (∀ k, blkOf vN' k → blkOf vN k ∨ (a.heap.size ≤ k ∧ k < a'.heap.size)) → (∀ k, blkOf vK' k → blkOf vK k ∨ (b.heap.size ≤ k ∧ k < b'.heap.size)) →
        KM b' base (fun k => k = cb ∨ k = kb) cb vN' vK' T1 l (P ++ [(s, T1)]) ∧ At b' kb (nv T1 ++ [.slice A2 L1.length c2]) 29 (0, 0) ∧ CatAt b' T1 A2 c2 L1 ∧ (∀ k, inBlk A2 k → k < b'.heap.size ∧ ¬ (k = cb ∨ k = kb) ∧ ¬ blkOf vN' k ∧ ¬ blkOf vK' k) ∧ Ext Non w b' ∧ base ≤ b'.heap.size := by
      intro a a' b b' vN' vK' x1 xN x2 xK hN hK bN bK
      obtain ⟨g, he⟩ := K2.grow2 hXlt hbu2 x1 xN x2 xK hN hK bN bK
      have sz := he.size
      have z1 := x1.size
      have z2 := xN.size
      have z3 := x2.size
      exact ⟨g, gk.ext he (fun e => e.elim (fun e => (K2.bN _ e).2.2.1 (.inr rfl)) (fun e => (K2.bK _ e).2.2 (.inr rfl))), cK.extK he (fun k hk e => by have := (gK k hk).1; exact e.elim (fun e => by have := hvN k e; omega) (fun e => by have := hvK k e; omega)),
        fun k hk => ⟨by have := gK k hk; omega, by have := gK k hk; omega, fun e => by have h1 := gK k hk; exact (bN k e).elim (fun e => by have := hvN k e; omega) (fun e => by omega), fun e => by have h1 := gK k hk; exact (bK k e).elim (fun e => by have := hvK k e; omega) (fun e => by omega)⟩,
        xwu.trans' he (fun _ _ x => x) (fun k hk e => by exact e.elim (fun e => by have := (K2.bN k e).1; omega) (fun e => by have := (K2.bK k e).1; omega)), by omega⟩
    refine G.cut (fun l' v2 => ∃ vN' vK', Sub [(0, .slice A ns.length c), (1, .slice A1 T.length c1), (5, .pointer (some ⟨cb, 0, none⟩)), (6, vN'), (7, vK'), (8, .int .i64 (i : Int)), (9, .pointer (some ⟨kb, 0, none⟩)), (10, .int .i64 E1)] l' ∧
      KM v2 base (fun k => k = cb ∨ k = kb) cb vN' vK' T1 l (P ++ [(s, T1)]) ∧ At v2 kb (nv T1 ++ [.slice A2 L1.length c2]) 29 (0, 0) ∧ CatAt v2 T1 A2 c2 L1 ∧ (∀ k, inBlk A2 k → k < v2.heap.size ∧ ¬ (k = cb ∨ k = kb) ∧ ¬ blkOf vN' k ∧ ¬ blkOf vK' k) ∧ Ext Non w v2 ∧ base ≤ v2.heap.size) ?_ ?_
    · obtain ⟨AA, cc, av, cv, gv⟩ := K2.row
      have xd : Ext Non u2 u2.drew := Ext.drew _ _
      obtain ⟨nb, no, eA, hc⟩ := strs_at' (h.ext (xwu.trans xd) (fun _ _ x => x)) hil
      rw [es] at hc
      have hnbw : nb < base := by
        obtain ⟨nb2, no2, eA2, hc2⟩ := strs_at' h hil
        have : nb2 < w.heap.size := World.block_lt_of_cell? _ _ hc2
        rw [eA] at eA2
        injection eA2 with eA2
        injection eA2 with e1 _ _
        omega
      subst eA
      have nS : ∀ {k}, k < base ∨ k = cb → ¬ (blkOf vN k ∨ blkOf vK k ∨ u2.heap.size ≤ k) := fun {k} hk e => by
        rcases e with e | e | e
        · have h1 := K2.bN k e
          exact hk.elim (fun hk => by omega) (fun hk => h1.2.2.1 (.inl hk))
        · have h1 := K2.bK k e
          exact hk.elim (fun hk => by omega) (fun hk => h1.2.2 (.inl hk))
        · exact hk.elim (fun hk => by omega) (fun hk => by omega)
      obtain ⟨t0, -⟩ := cat_cells (av.ext xd id) hl32
      refine G.draw cxOk (fun k => blkOf vN k ∨ blkOf vK k ∨ u2.heap.size ≤ k) (.tk 0 <| .tk 1 <| .tk 2 <| .tk 3 <| .tk 4 <| .tk 7 <| .tk 8 <| .tk 9 <| .alt 5 (.alt 6 (.w 10 <| .w 11 <| .tk 12 <| .tk 13 <| .done) (.w 10 (.w 6 <| .w 11 <| .tk 12 <| .tk 13 <| .done))) (.w 10 (.w 5 <| .w 6 <| .w 11 <| .tk 12 <| .tk 13 <| .done))) (by kernel_rfl) ?_
      (repeat ((conv => whnf); refine G.seq ?_))
      refine Ix1.mk nb no (no + i) rfl (by omega) (by omega) ?_
      (repeat ((conv => whnf); refine G.seq ?_))
      refine Rd.mk _ hc (nS (.inl hnbw)) ?_
      (repeat ((conv => whnf); refine G.seq ?_))
      refine RdA.of (nv T1) t0 hnt (nS (.inr rfl)) ?_
      (repeat ((conv => whnf); refine G.seq ?_))
      constructor
      · (repeat ((conv => whnf); first | refine @Ev.keep (List Value) _ _ ?_ | refine Nd.mk (by (first | omega | exact ⟨rfl, by decide⟩ | exact ⟨by decide, rfl⟩)) ?_))
        refine Al.mk fun sb q1 hB1 => ?_
        have b1 : At q1 sb [.string s] 9 (0, 0) := hB1.at_
        have y1 := xd.trans hB1.ext
        have z1 := y1.size
        constructor
        · (repeat ((conv => whnf); refine G.seq ?_))
          refine Run.appNm (K2.nm.non y1) b1 hPl (by omega) (fun w' x => x.mono fun k h => .inl h) ?_
          intro vN' q2 oN xN bN
          have z2 := xN.size
          (repeat ((conv => whnf); refine Nd.mk (by (exact ⟨by decide, rfl⟩)) ?_))
          refine Nd.mk ⟨hnt, Nat.le_of_ble_eq_true rfl⟩ ?_
          refine Ev.mk (nv T1) (ov_whole (vs := nv T1) (hnt.trans rfl)) ?_
          (repeat ((conv => whnf); refine @Ev.keep (List Value) _ _ ?_))
          refine Al.mk fun rb q3 hB3 => ?_
          have b3 : At q3 rb (nv T1) 26 (0, 0) := hB3.at_
          have z3 := hB3.ext.size
          (repeat ((conv => whnf); refine G.seq ?_))
          refine Run.appRf (K2.kpAt y1 xN hB3.ext) hl32 b3 hPl (by omega) (fun w' x => x.mono fun k h => .inr (.inl h)) ?_
          intro vK' q4 oK xK bK
          (repeat ((conv => whnf); refine G.seq ?_))
          exact ⟨vN', vK', ⟨rfl, rfl, rfl, rfl, rfl, rfl, rfl, rfl, trivial⟩, fin y1 xN hB3.ext xK oN oK bN bK⟩
        · (repeat ((conv => whnf); refine Nd.mk (by (exact ⟨by decide, rfl⟩)) ?_))
          refine Nd.mk ⟨hnt, Nat.le_of_ble_eq_true rfl⟩ ?_
          refine Ev.mk (nv T1) (ov_whole (vs := nv T1) (hnt.trans rfl)) ?_
          (repeat ((conv => whnf); refine @Ev.keep (List Value) _ _ ?_))
          refine Al.mk fun rb q2 hB2 => ?_
          have b2 : At q2 rb (nv T1) 26 (0, 0) := hB2.at_
          have y2 := y1.trans hB2.ext
          have z2 := y2.size
          (repeat ((conv => whnf); refine G.seq ?_))
          refine Run.appNm (K2.nm.non y2) (b1.ext hB2.ext id) hPl (by omega) (fun w' x => x.mono fun k h => .inl h) ?_
          intro vN' q3 oN xN bN
          have z3 := xN.size
          (repeat ((conv => whnf); refine G.seq ?_))
          refine Run.appRf (K2.kpAt y2 xN (Ext.refl _ _)) hl32 (b2.ext xN (fun e => by have h1 := (K2.bN _ e).2.1; have := hB2.ge; omega)) hPl (by omega) (fun w' x => x.mono fun k h => .inr (.inl h)) ?_
          intro vK' q4 oK xK bK
          (repeat ((conv => whnf); refine G.seq ?_))
          exact ⟨vN', vK', ⟨rfl, rfl, rfl, rfl, rfl, rfl, rfl, rfl, trivial⟩, fin y2 xN (Ext.refl _ _) xK oN oK bN bK⟩
      · (repeat ((conv => whnf); refine Nd.mk (by (exact ⟨by decide, rfl⟩)) ?_))
        refine Nd.mk ⟨hnt, Nat.le_of_ble_eq_true rfl⟩ ?_
        refine Ev.mk (nv T1) (ov_whole (vs := nv T1) (hnt.trans rfl)) ?_
        (repeat ((conv => whnf); refine @Ev.keep (List Value) _ _ ?_))
        refine Al.mk fun rb q1 hB1 => ?_
        have b1 : At q1 rb (nv T1) 26 (0, 0) := hB1.at_
        have y1 := xd.trans hB1.ext
        have z1 := y1.size
        (repeat ((conv => whnf); first | refine @Ev.keep (List Value) _ _ ?_ | refine Nd.mk (by (first | omega | exact ⟨rfl, by decide⟩ | exact ⟨by decide, rfl⟩)) ?_))
        refine Al.mk fun sb q2 hB2 => ?_
        have b2 : At q2 sb [.string s] 9 (0, 0) := hB2.at_
        have y2 := y1.trans hB2.ext
        have z2 := y2.size
        have zd : u2.drew.heap.size = u2.heap.size := rfl
        (repeat ((conv => whnf); refine G.seq ?_))
        refine Run.appNm (K2.nm.non y2) b2 hPl (by omega) (fun w' x => x.mono fun k h => .inl h) ?_
        intro vN' q3 oN xN bN
        have z3 := xN.size
        (repeat ((conv => whnf); refine G.seq ?_))
        refine Run.appRf (K2.kpAt y2 xN (Ext.refl _ _)) hl32 ((b1.ext hB2.ext id).ext xN (fun e => by have h1 := (K2.bN _ e).2.1; have := hB1.ge; omega)) hPl (by omega) (fun w' x => x.mono fun k h => .inr (.inl h)) ?_
        intro vK' q4 oK xK bK
        (repeat ((conv => whnf); refine G.seq ?_))
        exact ⟨vN', vK', ⟨rfl, rfl, rfl, rfl, rfl, rfl, rfl, rfl, trivial⟩, fin y2 xN (Ext.refl _ _) xK oN oK bN bK⟩
    rintro l' v2 ⟨vN', vK', hsub, K3, gk3, cK3, gK3, xw3, hb3⟩
    refine G.weak _ hsub ?_
    obtain ⟨AA, cc, av, cv, gv⟩ := K3.row
    (repeat ((conv => whnf); refine G.region cxOk ?_))
    refine RdA.whole gk3 (hlen _) trivial ?_
    (repeat ((conv => whnf); refine G.seq ?_))
    refine Nd.mk (by rw [List.size_toArray, hlen]; rfl) ?_
    refine StA.all (m := .plain) (vs := nv T1 ++ [.slice A2 L1.length c2]) av (by rw [hlen, hlen]) (one_cat _ _ _ _) trivial fun v4 g4 x4 => ?_
    (repeat ((conv => whnf); refine G.seq ?_))
    exact ⟨vN', vK', L1, P ++ [(s, T1)], A2, c2, T1, ⟨rfl, rfl, rfl, rfl, rfl, rfl, rfl, rfl, trivial⟩, K3.put x4 g4 (cK3.extK x4 (fun k hk e => (gK3 k hk).2.1 (.inl e))) (fun k hk => ⟨Nat.lt_of_lt_of_le (gK3 k hk).1 x4.size, (gK3 k hk).2⟩),
      gk3.ext x4 (fun e => hnkb e), hT1, hkp2, by omega, Ext.own xw3 x4 (by omega), Nat.le_trans hb3 x4.size⟩
  rintro l' v3 ⟨vN', vK', l2, P2, A3, c3, T3, hsub, K3, gk3, hT3, hkp3, hl3, xw3, hb3⟩
  refine G.weak _ hsub ?_
  clear hsub K2 gk cK gK hkp hq1 hsnap hT1 hL1 hn1 hlen1 hvN hvK yu hkbu syu
  refine G.cut (fun l' u => u = v3 ∧ Sub [(0, .slice A ns.length c), (1, .slice A1 T.length c1), (5, .pointer (some ⟨cb, 0, none⟩)), (6, vN'), (7, vK'), (8, .int .i64 (i : Int)), (9, .pointer (some ⟨kb, 0, none⟩))] l') ?_ ?_
  · rcases hE with rfl | rfl | rfl
    · (repeat ((conv => whnf); first | refine G.seq ?_ | refine G.region cxOk ?_ | refine G.cond_f rfl ?_ | refine G.skip ?_ | refine Cmp.df (by omega) ?_))
      exact ⟨rfl, ⟨rfl, rfl, rfl, rfl, rfl, rfl, rfl, trivial⟩⟩
    · (repeat ((conv => whnf); first | refine G.seq ?_ | refine G.region cxOk ?_ | refine G.cond_f rfl ?_ | refine G.skip ?_ | refine Cmp.dt (by (omega)) ?_ | refine Cmp.df (by omega) ?_))
      exact ⟨rfl, ⟨rfl, rfl, rfl, rfl, rfl, rfl, rfl, trivial⟩⟩
    · (repeat ((conv => whnf); first | refine G.seq ?_ | refine G.region cxOk ?_ | refine G.cond_f rfl ?_ | refine G.skip ?_ | refine Cmp.dt (by (omega)) ?_ | refine Cmp.df (by omega) ?_))
      exact ⟨rfl, ⟨rfl, rfl, rfl, rfl, rfl, rfl, rfl, trivial⟩⟩
  rintro l' u3 ⟨rfl, hsub⟩
  refine G.weak _ hsub ?_
  clear hsub hE
  refine G.cut (fun l' v4 => ∃ vN vK l P, Sub [(0, .slice A ns.length c), (1, .slice A1 T.length c1), (5, .pointer (some ⟨cb, 0, none⟩)), (6, vN), (7, vK), (8, .int .i64 (i : Int))] l' ∧ KM v4 base (fun k => k = cb) cb vN vK t' l P ∧ Kp l P ∧ l.length ≤ i + 1 ∧ Ext Non w v4 ∧ base ≤ v4.heap.size) ?_ ?_
  · have K3' : KM u3 base (fun k => k = cb) cb vN' vK' t' l2 P2 := K3.mono (fun k hk => .inl hk) rfl
    refine G.seq ?_
    refine G.region cxOk ?_
    (repeat ((conv => whnf); refine Nd.mk (by (omega)) ?_))
    refine Ev.mk _ (tmod4 i) ?_
    (repeat ((conv => whnf); refine G.region cxOk ?_))
    refine Cmp.ds (fun h3 => ?_) (fun h3 => ?_)
    rotate_left
    · (repeat ((conv => whnf); first | refine G.cond_f rfl ?_ | refine G.skip ?_))
      exact ⟨vN', vK', l2, P2, ⟨rfl, rfl, rfl, rfl, rfl, rfl, trivial⟩, K3', hkp3, hl3, xw3, hb3⟩
    obtain ⟨AN, cN, AK, cK', eN, eK, hcN, hcK, hclN, hclK⟩ := K3.nform
    subst eN eK
    cases P2 with
    | nil =>
      (repeat ((conv => whnf); refine G.region cxOk ?_))
      refine Cmp.df (by simp) ?_
      (repeat ((conv => whnf); first | refine G.cond_f rfl ?_ | refine G.skip ?_))
      exact ⟨_, _, l2, [], ⟨rfl, rfl, rfl, rfl, rfl, rfl, trivial⟩, K3', hkp3, hl3, xw3, hb3⟩
    | cons p P2 =>
    (repeat ((conv => whnf); refine G.region cxOk ?_))
    refine Cmp.dt (by rw [List.length_cons]; omega) ?_
    (repeat ((conv => whnf); refine G.cond_t rfl ?_))
    have hd := hkp3.drop ht' (by omega)
    obtain ⟨⟨⟨T2, L2⟩, E2⟩, hq2⟩ : ∃ r, dropC t' l2 p.1 = r := ⟨_, rfl⟩
    rw [hq2] at hd
    obtain ⟨e2, e3, hkp4⟩ : E2 = 0 ∧ T2 = t' ∧ Kp L2 P2 := hd
    subst e2 e3
    obtain ⟨AA, cc, av, cv, gv⟩ := K3.row
    have xd : Ext Non u3 u3.drew := Ext.drew _ _
    obtain ⟨bn, on, eA, gn⟩ := kNm_at (hclN.ext xd (fun _ _ x => x)) (i := 0) (by simp)
    subst eA
    have hbN := K3.bN bn ⟨_, _, _, _, rfl⟩
    have lk3 := gk3.lt
    have lcb3 := av.lt
    have hP2 : (p :: P2).length = P2.length + 1 := rfl
    have hle2 := hkp3.perm.length_eq
    have hle4 := hkp4.perm.length_eq
    have nS : ∀ {k}, k < u3.heap.size → k ≠ kb → ¬ (k = kb ∨ u3.heap.size ≤ k) := fun {k} h1 h2 e => e.elim h2 (fun e => by omega)
    refine G.seq ?_
    refine G.draw cxOk (fun k => k = kb ∨ u3.heap.size ≤ k) (.tk 0 <| .tk 1 <| .tk 2 <| .tk 3 <| .w 4 <| .tk 5 <| .tk 6 <| .tk 7 <| .w 8 <| .tk 9 <| .done) (by kernel_rfl) ?_
    (repeat ((conv => whnf); refine G.seq ?_))
    refine RdA.whole (av.ext xd id) (hlen _) (nS lcb3 (fun e => hnkb e.symm)) ?_
    (repeat ((conv => whnf); refine G.seq ?_))
    refine Ix1.mk bn on (on + 0) rfl (by omega) (by omega) ?_
    (repeat ((conv => whnf); refine G.seq ?_))
    refine Rd.mk _ gn (nS hbN.2.1 (fun e => hbN.2.2.1 (.inr e))) ?_
    (repeat ((conv => whnf); refine G.seq ?_))
    refine Cl.dr (Drop_ret (cv.ext xd) _ (by omega)) (fun _ _ hp => hp.2.mono fun _ x => x.elim) ?_
    rintro _ p1 ⟨hR1, y1⟩
    rw [show ((p :: P2)[0]'(by simp)).1 = p.1 from rfl, hq2] at hR1
    obtain ⟨A4, c4, rfl, hc4, o4⟩ : ∃ A2 c2, _ = Value.tuple #[catV T2 A2 L2.length c2, .int .i64 0] ∧ L2.length ≤ c2 ∧ OSn p1 u3.heap.size (.slice A2 L2.length c2) L2 := hR1
    (repeat ((conv => whnf); refine G.seq ?_))
    refine Nd.mk (by rw [List.size_toArray, hlen]; rfl) ?_
    refine StA.all (m := .any fun k => k = kb ∨ u3.heap.size ≤ k) (vs := nv T2 ++ [.slice A4 L2.length c4]) (gk3.ext (xd.trans y1) id) (by rw [hlen, cat_len hT3.len]) (one_cat _ _ _ _) (show kb = kb ∨ _ from .inl rfl) fun v5 g5 x5 => ?_
    have ge4 : ∀ j, inBlk A4 j → u3.heap.size ≤ j := fun j hj => OS.ge o4 (blkOf_of hj)
    have lt4 : ∀ j, inBlk A4 j → j < p1.heap.size := fun j hj => o4.lt (blkOf_of hj)
    have o4' : OSn v5 u3.heap.size (.slice A4 L2.length c4) L2 := o4.ext x5 (fun j hj e => by have e' : j = kb := e; have := OS.ge o4 hj; omega)
    have c5 : CatAt v5 T2 A4 c4 L2 := CatAt.of (w0 := u3) cv.top (Drop_snaps cv hq2) hc4 o4'
    have s15 := y1.size
    have s5 := x5.size
    have K5 : KM v5 base (fun k => k = cb ∨ k = kb) cb (.slice (some ⟨bn, on, none⟩) (p :: P2).length cN) (.slice AK (p :: P2).length cK') T2 l2 (p :: P2) := (K3.non (xd.trans y1)).ext x5 (fun k _ e => ⟨.inr e, fun e2 => by have e' : k = kb := e; omega⟩)
    have xd5 : Ext Non v5 v5.drew := Ext.drew _ _
    obtain ⟨AA5, cc5, av5, cv5, gv5⟩ := (K5.non xd5).row
    have hx5 : Ext Non u3 v5 ∨ True := .inr trivial
    have X5 : Ext Non w v5 := Ext.own (xw3.trans (xd.trans y1)) x5 (by omega)
    (repeat ((conv => whnf); first | refine G.seq ?_ | refine G.region cxOk ?_ | refine G.cond_f rfl ?_ | refine G.skip ?_ | refine Cmp.df (by omega) ?_))
    refine G.draw cxOk (fun k => k = cb) (.tk 0 <| .tk 1 <| .tk 2 <| .tk 3 <| .tk 4 <| .w 5 <| .tk 6 <| .tk 7 <| .done) (by kernel_rfl) ?_
    (repeat ((conv => whnf); refine G.seq ?_))
    refine RdA.whole (g5.ext xd5 id) (hlen _) hnkb ?_
    (repeat ((conv => whnf); first | ((with_reducible refine Ev.mk _ (Int.toNat_natCast _) ?_)) | refine Nd.mk (by (omega)) ?_))
    (try refine Nd.mk (by rw [hP2]; omega) ?_)
    (repeat ((conv => whnf); refine G.seq ?_))
    refine Sl.mk (sla (some ⟨bn, on, none⟩) 1 cN 1) P2.length (cN - 1) rfl rfl rfl ?_
    (repeat ((conv => whnf); first | ((with_reducible refine Ev.mk _ (Int.toNat_natCast _) ?_)) | refine Nd.mk (by (omega)) ?_))
    (try refine Nd.mk (by rw [hP2]; omega) ?_)
    (repeat ((conv => whnf); refine G.seq ?_))
    refine Sl.mk (sla AK 1 cK' 33) P2.length (cK' - 1) rfl rfl rfl ?_
    (repeat ((conv => whnf); refine G.seq ?_))
    refine Nd.mk (by rw [List.size_toArray, hlen]; rfl) ?_
    refine StA.all (m := .any fun k => k = cb) (vs := nv T2 ++ [.slice A4 L2.length c4]) av5 (by rw [hlen, hlen]) (one_cat _ _ _ _) rfl fun v6 g6 x6 => ?_
    have s6 := x6.size
    have sd5 : v5.drew.heap.size = v5.heap.size := rfl
    have sd3 : u3.drew.heap.size = u3.heap.size := rfl
    have K6 := ((K5.non xd5).cut.mono (X' := fun k => k = cb) (fun k hk => .inl hk) rfl).put x6 g6 ((c5.ext xd5).extK x6 (fun k hk e => by have e' : k = cb := e; have := ge4 k hk; omega))
      (fun k hk => ⟨by have := lt4 k hk; omega, fun e => by have := ge4 k hk; omega, fun e => by have := ge4 k hk; have := (K3.bN k (blkOf_sla e)).2.1; omega, fun e => by have := ge4 k hk; have := (K3.bK k (blkOf_sla e)).2.1; omega⟩)
    (repeat ((conv => whnf); refine G.seq ?_))
    exact ⟨_, _, L2, P2, ⟨rfl, rfl, rfl, rfl, rfl, rfl, trivial⟩, K6, hkp4, by omega, Ext.own (X5.trans xd5) x6 (by omega), by omega⟩
  rintro l' v4 ⟨vN, vK, l, P, hsub, K, hkp, hln, xw4, hb4⟩
  refine G.weak _ hsub ?_
  clear hsub
  have hTok := K.row.elim fun A hA => hA.elim fun c hc => hc.2.1.top
  have hlen := cat_len hTok.len
  obtain ⟨AN, cN, AK, cK', eN, eK, hcN, hcK, hclN, hclK⟩ := K.nform
  subst eN eK
  have hPe := hkp.perm.length_eq
  refine G.seq ?_
  (repeat ((conv => whnf); first | refine G.region cxOk ?_ | refine G.block ?_))
  refine G.loop (α := Nat) (fun j => [(0, .slice A ns.length c), (1, .slice A1 T.length c1), (5, .pointer (some ⟨cb, 0, none⟩)), (6, .slice AN P.length cN), (7, .slice AK P.length cK'), (8, .int .i64 (i : Int)), (11, .int .i64 (j : Int))])
    (fun j u => j ≤ P.length ∧ Ext Non v4 u) (fun j => P.length - j) 0 ⟨rfl, rfl, rfl, rfl, rfl, rfl, rfl, trivial⟩ ⟨Nat.zero_le _, Ext.refl _ _⟩ ?_
  rintro j u5 ⟨hj, x5⟩
  refine G.seq ?_
  refine G.seq ?_
  (repeat ((conv => whnf); refine G.region cxOk ?_))
  refine Cmp.ds (fun hlt => ?_) (fun hge => ?_)
  rotate_left
  · (repeat ((conv => whnf); first | refine G.region cxOk ?_ | refine G.cond_f rfl ?_ | refine G.exit ?_ | ((with_reducible refine Ev.mk _ (IntWalk.i64_in _ ?_) ?_; · omega))))
    exact ⟨(i + 1, _, _), ⟨rfl, rfl, rfl, rfl, rfl, rfl, trivial⟩, ⟨by show i + 1 ≤ _; omega, Nat.le_trans hb4 x5.size, xw4.trans x5, t', l, P, K.non x5, ht', hkp, hln⟩, by show _ - (i + 1) < _; omega⟩
  have hjl : j < P.length := by omega
  have K5 := K.non x5
  obtain ⟨AA, cc, av, cv, gv⟩ := K5.row
  have lcb5 := av.lt
  obtain ⟨bn, on, eA, gn⟩ := kNm_at (hclN.ext x5 (fun _ _ x => x)) hjl
  obtain ⟨bk, ok, eA2, gr⟩ := kRf_at (hclK.ext x5 (fun _ _ x => x)) K.ok hjl
  have hq : P[j] ∈ P := List.getElem_mem _
  obtain ⟨q, eq⟩ : ∃ q, P[j] = q := ⟨_, rfl⟩
  rw [eq] at gn gr hq
  have hf := hkp.find hq
  have hrv := hkp.revert ht' (by omega) hq
  have hq32 := (K.ok q hq).len
  have hnq := nv_length hq32
  have hqlen := cat_len hq32
  have ltn : bn < u5.heap.size := World.block_lt_of_cell? _ _ gn
  have ltk : bk < u5.heap.size := World.block_lt_of_cell? _ _ (gr 0 (by rw [hnq]; decide))
  subst eA eA2
  (repeat ((conv => whnf); first | refine G.cond_t rfl ?_ | refine G.skip ?_))
  refine G.seq ?_
  refine G.block ?_
  refine G.cut (fun l' u6 => ∃ fb, Sub [(0, .slice A ns.length c), (1, .slice A1 T.length c1), (5, .pointer (some ⟨cb, 0, none⟩)), (6, .slice (some ⟨bn, on, none⟩) P.length cN), (7, .slice (some ⟨bk, ok, none⟩) P.length cK'), (8, .int .i64 (i : Int)), (11, .int .i64 (j : Int)), (12, .pointer (some ⟨fb, 0, none⟩)), (13, .int .i64 0)] l' ∧
    At u6 fb (nv q.2) 26 (0, 0) ∧ Ext Non u5 u6) ?_ ?_
  · have xd : Ext Non u5 u5.drew := Ext.drew _ _
    have sd : u5.drew.heap.size = u5.heap.size := rfl
    refine G.draw cxOk (fun k => u5.heap.size ≤ k) (.tk 0 <| .tk 1 <| .tk 2 <| .tk 3 <| .tk 4 <| .alt 5 (.tk 6 <| .tk 7 <| .tk 8 <| .w 9 <| .w 10 <| .tk 11 <| .done) (.w 9 (.w 5 <| .tk 6 <| .tk 7 <| .tk 8 <| .w 10 <| .tk 11 <| .done))) (by kernel_rfl) ?_
    (repeat ((conv => whnf); refine G.seq ?_))
    refine RdA.whole (av.ext xd id) (hlen _) (Nat.not_le.2 lcb5) ?_
    (repeat ((conv => whnf); refine G.seq ?_))
    refine Ix1.mk bn on (on + j) rfl (by omega) (by omega) ?_
    (repeat ((conv => whnf); refine G.seq ?_))
    refine Rd.mk _ (xd.cell gn id) (Nat.not_le.2 ltn) ?_
    (repeat ((conv => whnf); refine G.seq ?_))
    constructor
    · (repeat ((conv => whnf); refine G.seq ?_))
      refine Cl.dr (Find_ret (cv.ext xd) _ (by omega)) (fun _ _ hp => hp.2.mono fun _ x => x.elim) ?_
      rintro _ p1 ⟨hR, y1⟩
      rw [hf] at hR
      subst hR
      (repeat ((conv => whnf); refine G.seq ?_))
      refine Al.mk fun fb q1 hB1 => ?_
      (repeat ((conv => whnf); refine G.seq ?_))
      refine Nd.mk (by rw [List.size_toArray, hnq]; rfl) ?_
      refine StA.all (m := .any _) (vs := nv q.2) hB1.at_ (by rw [hnq]; rfl) (one_nv _) (Nat.le_trans y1.size hB1.ge) fun u6 g6 x6 => ?_
      (repeat ((conv => whnf); refine G.seq ?_))
      exact ⟨fb, ⟨rfl, rfl, rfl, rfl, rfl, rfl, rfl, rfl, rfl, trivial⟩, g6, (xd.trans y1).trans (Ext.own hB1.ext x6 hB1.ge)⟩
    · (repeat ((conv => whnf); refine G.seq ?_))
      refine Al.mk fun fb q1 hB1 => ?_
      have g0 : At q1 fb _ 26 (0, 0) := hB1.at_
      have kl := g0.lt
      (repeat ((conv => whnf); refine G.seq ?_))
      refine Cl.dr (Find_ret (cv.ext (xd.trans hB1.ext)) _ (by omega)) (fun _ _ hp => hp.2.mono fun _ x => x.elim) ?_
      rintro _ p1 ⟨hR, y1⟩
      rw [hf] at hR
      subst hR
      (repeat ((conv => whnf); refine G.seq ?_))
      refine Nd.mk (by rw [List.size_toArray, hnq]; rfl) ?_
      refine StA.all (m := .any _) (vs := nv q.2) (g0.ext y1 id) (by rw [hnq]; rfl) (one_nv _) hB1.ge fun u6 g6 x6 => ?_
      (repeat ((conv => whnf); refine G.seq ?_))
      exact ⟨fb, ⟨rfl, rfl, rfl, rfl, rfl, rfl, rfl, rfl, rfl, trivial⟩, g6, Ext.own (xd.trans (hB1.ext.trans y1)) x6 hB1.ge⟩
  rintro l' u6 ⟨fb, hsub, gf, x6⟩
  refine G.weak _ hsub ?_
  clear hsub
  have s6 := x6.size
  refine G.cut (fun l' u7 => ∃ rb A5 c5, Sub [(0, .slice A ns.length c), (1, .slice A1 T.length c1), (5, .pointer (some ⟨cb, 0, none⟩)), (6, .slice (some ⟨bn, on, none⟩) P.length cN), (7, .slice (some ⟨bk, ok, none⟩) P.length cK'), (8, .int .i64 (i : Int)), (11, .int .i64 (j : Int)), (12, .pointer (some ⟨fb, 0, none⟩)), (13, .int .i64 0), (14, .pointer (some ⟨rb, 0, none⟩)), (15, .int .i64 0)] l' ∧
    At u7 rb (nv q.2 ++ [.slice A5 l.length c5]) 29 (0, 0) ∧ Ext Non u6 u7) ?_ ?_
  · have xd : Ext Non u6 u6.drew := Ext.drew _ _
    have sd : u6.drew.heap.size = u6.heap.size := rfl
    have xd6 := x6.trans xd
    refine G.draw cxOk (fun k => u6.heap.size ≤ k) (.tk 0 <| .tk 1 <| .tk 2 <| .tk 3 <| .tk 4 <| .alt 5 (.tk 6 <| .tk 7 <| .tk 8 <| .w 9 <| .w 10 <| .tk 11 <| .done) (.w 9 (.w 5 <| .tk 6 <| .tk 7 <| .tk 8 <| .w 10 <| .tk 11 <| .done))) (by kernel_rfl) ?_
    (repeat ((conv => whnf); refine G.seq ?_))
    refine RdA.whole (av.ext xd6 id) (hlen _) (Nat.not_le.2 (Nat.lt_of_lt_of_le lcb5 s6)) ?_
    (repeat ((conv => whnf); refine G.seq ?_))
    refine Ix1.mk bn on (on + j) rfl (by omega) (by omega) ?_
    (repeat ((conv => whnf); refine G.seq ?_))
    refine Rd.mk _ (xd6.cell gn id) (Nat.not_le.2 (Nat.lt_of_lt_of_le ltn s6)) ?_
    (repeat ((conv => whnf); refine G.seq ?_))
    constructor
    · (repeat ((conv => whnf); refine G.seq ?_))
      refine Cl.dr (Revert_ret (cv.ext xd6) _ (by omega)) (fun _ _ hp => hp.2.mono fun _ x => x.elim) ?_
      rintro _ p1 ⟨hR, y1⟩
      rw [hrv] at hR
      obtain ⟨A5, c5, rfl, -, -⟩ : ∃ A2 c2, _ = Value.tuple #[catV q.2 A2 l.length c2, .int .i64 0] ∧ l.length ≤ c2 ∧ OSn p1 u6.heap.size (.slice A2 l.length c2) l := hR
      (repeat ((conv => whnf); refine G.seq ?_))
      refine Al.mk fun rb q1 hB1 => ?_
      (repeat ((conv => whnf); refine G.seq ?_))
      refine Nd.mk (by rw [List.size_toArray, hqlen]; rfl) ?_
      refine StA.all (m := .any _) (vs := nv q.2 ++ [.slice A5 l.length c5]) hB1.at_ (by rw [hqlen]; rfl) (one_cat _ _ _ _) (Nat.le_trans y1.size hB1.ge) fun u7 g7 x7 => ?_
      (repeat ((conv => whnf); refine G.seq ?_))
      exact ⟨rb, A5, c5, ⟨rfl, rfl, rfl, rfl, rfl, rfl, rfl, rfl, rfl, rfl, rfl, trivial⟩, g7, (xd.trans y1).trans (Ext.own hB1.ext x7 hB1.ge)⟩
    · (repeat ((conv => whnf); refine G.seq ?_))
      refine Al.mk fun rb q1 hB1 => ?_
      have g0 : At q1 rb _ 29 (0, 0) := hB1.at_
      have kl := g0.lt
      (repeat ((conv => whnf); refine G.seq ?_))
      refine Cl.dr (Revert_ret (cv.ext (xd6.trans hB1.ext)) _ (by omega)) (fun _ _ hp => hp.2.mono fun _ x => x.elim) ?_
      rintro _ p1 ⟨hR, y1⟩
      rw [hrv] at hR
      obtain ⟨A5, c5, rfl, -, -⟩ : ∃ A2 c2, _ = Value.tuple #[catV q.2 A2 l.length c2, .int .i64 0] ∧ l.length ≤ c2 ∧ OSn p1 q1.heap.size (.slice A2 l.length c2) l := hR
      (repeat ((conv => whnf); refine G.seq ?_))
      refine Nd.mk (by rw [List.size_toArray, hqlen]; rfl) ?_
      refine StA.all (m := .any _) (vs := nv q.2 ++ [.slice A5 l.length c5]) (g0.ext y1 id) (by rw [hqlen]; rfl) (one_cat _ _ _ _) hB1.ge fun u7 g7 x7 => ?_
      (repeat ((conv => whnf); refine G.seq ?_))
      exact ⟨rb, A5, c5, ⟨rfl, rfl, rfl, rfl, rfl, rfl, rfl, rfl, rfl, rfl, rfl, trivial⟩, g7, Ext.own (xd.trans (hB1.ext.trans y1)) x7 hB1.ge⟩
  rintro l' u7 ⟨rb, A5, c5, hsub, gr7, x7⟩
  refine G.weak _ hsub ?_
  clear hsub
  have xd : Ext Non u7 u7.drew := Ext.drew _ _
  have x57 := (x6.trans x7).trans xd
  have gf7 := gf.ext (x7.trans xd) id
  have gr8 := gr7.ext xd id
  obtain ⟨t0, t1⟩ := cat_cells gr8 hq32
  have grk : ∀ m (hm : m < (nv q.2).length), u7.drew.cell? ⟨bk, ok + j * 33 + m, none⟩ = some (nv q.2)[m] := fun m hm => x57.cell (gr m hm) id
  refine G.seq ?_
  refine G.draw cxOk Non (.tk 0 <| .tk 1 <| .tk 2 <| .tk 3 <| .tk 4 <| .tk 5 <| .tk 6 <| .tk 7 <| .tk 8 <| .tk 9 <| .tk 10 <| .tk 11 <| .tk 12 <| .tk 13 <| .tk 14 <| .tk 15 <| .tk 16 <| .tk 17 <| .tk 18 <| .tk 19 <| .tk 20 <| .tk 21 <| .tk 22 <| .tk 23 <| .tk 24 <| .tk 25 <| .tk 26 <| .tk 27 <| .tk 28 <| .tk 29 <| .tk 30 <| .done) (by kernel_rfl) ?_
  (repeat ((conv => whnf); refine Cmp.df (by omega) ?_))
  refine RdA.whole gf7 (hnq.trans rfl) id ?_
  (repeat ((conv => whnf); refine G.seq ?_))
  refine Ix.mk bk ok (ok + j * 33) rfl (by omega) (by show ok + (j : Int).toNat * 33 = _; omega) ?_
  (repeat ((conv => whnf); refine G.seq ?_))
  refine RdA.of (nv q.2) grk (hnq.trans rfl) id ?_
  (repeat ((conv => whnf); refine G.seq ?_))
  refine Eqv.ref hq32 hq32 rfl rfl ?_
  rw [decide_eq_true (rfl : q.2 = q.2)]
  (repeat ((conv => whnf); refine G.seq ?_))
  refine RdA.of (nv q.2) t0 (hnq.trans rfl) id ?_
  (repeat ((conv => whnf); refine G.seq ?_))
  refine Ix.mk bk ok (ok + j * 33) rfl (by omega) (by show ok + (j : Int).toNat * 33 = _; omega) ?_
  (repeat ((conv => whnf); refine G.seq ?_))
  refine RdA.of (nv q.2) grk (hnq.trans rfl) id ?_
  (repeat ((conv => whnf); refine G.seq ?_))
  refine Eqv.ref hq32 hq32 rfl rfl ?_
  rw [decide_eq_true (rfl : q.2 = q.2)]
  (repeat ((conv => whnf); first | refine G.region cxOk ?_ | refine G.cond_f rfl ?_ | refine G.skip ?_ | refine Cmp.df (by omega) ?_ | ((with_reducible refine Ev.mk _ (IntWalk.i64_in _ ?_) ?_; · omega)) | refine Rd.mk _ (by assumption) (by (exact fun x => x)) ?_))
  (try refine Cmp.df (by omega) ?_)
  (repeat ((conv => whnf); refine G.seq ?_))
  exact ⟨j + 1, ⟨rfl, rfl, rfl, rfl, rfl, rfl, rfl, trivial⟩, ⟨hjl, x5.trans x57⟩, by omega⟩
end Go.Proofs.Ytodpaehciegmiaa

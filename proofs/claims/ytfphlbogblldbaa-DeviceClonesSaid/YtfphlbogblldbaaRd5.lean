import Derived.Test.YtfphlbogblldbaaRd4

/-
  The document's device: bytes written.
-/

namespace Go.Proofs.Ytfphlbogblldbaa

open Go Sx

set_option linter.unusedVariables false

set_option linter.unusedSimpArgs false

set_option maxRecDepth 100000

theorem tiRl : TIok cx.P 44 ti44 := tabOk _ _ rfl
theorem tiRl1 : TIok cx.P 81 ti81 := tabOk _ _ rfl
theorem undRl : (∃ e', cx.P.underlying 44 = some (.slice e')) ∨ cx.P.underlying 44 = some .string := .inl ⟨_, TIok.slice tiRl⟩
theorem one_rlvs (l : List LW) : ∀ v ∈ rlvs l, v.oneCell' = true := fun v hv => by
  obtain ⟨x, _, hx⟩ := List.mem_flatMap.1 hv
  simp only [rlv, List.mem_cons, List.not_mem_nil, or_false] at hx
  rcases hx with rfl | rfl | rfl <;> rfl
theorem rlvs_append (a b : List LW) : rlvs (a ++ b) = rlvs a ++ rlvs b := by simp [rlvs]
abbrev ORl (w : World) (base : Nat) (v : Value) (l : List LW) : Prop := OS w base 81 3 v l.length (rlvs l)
theorem srcRl {w : World} {A : Option Addr} {c : Nat} {l : List LW} (h : Cells w A (rlvs l)) : Src cx.P w 3 (.slice A l.length c) l.length (rlvs l) := Src.slice h (rlvs_length l) (one_rlvs l)
theorem Run.appRl {m0 : Md} {w : World} {base : Nat} {ty : Nat} {v x : Value} {l l2 : List LW} {K : Value → World → Prop}
    (h : ORl w base v l) (hs : Src cx.P w 3 x l2.length (rlvs l2)) (hb : l.length + l2.length ≤ 1000000000) (hbase : base ≤ w.heap.size)
    (hm : ∀ w', Ext (blkOf v) w w' → m0.W w w')
    (k : ∀ A c w', (l ++ l2).length ≤ c → ORl w' base (.slice A (l ++ l2).length c) (l ++ l2) → Ext (blkOf v) w w' → (∀ k, inBlk A k → blkOf v k ∨ w.heap.size ≤ k) → K (.slice A (l ++ l2).length c) w') :
    Run cx.P m0 w (Builtin.append_ #[44, 44] ty #[v, x]) K := by
  refine Run.app (ei := ti81) tiRl tiRl1 undRl rfl h (one_rlvs l) hs (by show _ * 32 ≤ _; omega) (by omega) hbase hm ?_
  intro A c w' h1 h2 h3 h4
  have e1 : l.length + l2.length = (l ++ l2).length := by simp
  rw [← rlvs_append] at h2
  rw [e1] at h1 h2 ⊢
  exact k A c w' h1 h2 h3 h4
/-- What a call adds to the blocks of the list. -/
abbrev Grow (B : Nat → Prop) (w w' : World) : Nat → Prop := fun k => B k ∨ (w.heap.size ≤ k ∧ k < w'.heap.size)
theorem looseOf_rlv {S : List UInt8} {s : Nat} (hs : s ≤ S.length) : rlv (looseOf S s) = [.int .i64 (s : Int), .string ⟨((S.take (min (s + 512) S.length)).drop s).toArray⟩, .int .i64 ((min (s + 512) S.length : Nat) : Int)] := by
  have e1 : min (s + 512) S.length - s = min 512 (S.length - s) := by omega
  have e2 : s + min 512 (S.length - s) = min (s + 512) S.length := by omega
  show [Value.int .i64 (s : Int), .string ⟨((looseOf S s).2.2.take (looseOf S s).2.1).toArray⟩, .int .i64 ((s + min 512 (S.length - s) : Nat) : Int)] = _
  rw [loose_take, List.drop_take, e1, e2]
theorem tdivQ (t : Nat) : ((t : Nat) : Int).tdiv 512 = ((t / 512 : Nat) : Int) := by
  rw [Int.tdiv_eq_ediv_of_nonneg (by omega)]
  omega
set_option maxHeartbeats 4000000 in
theorem refWrite_ret {w : World} {B : Nat → Prop} {D : DV} {v0 : Value} {n : Int} {b : List UInt8} (h : RefAt w B D v0) (hk : DvOk D) (hs : D.steps ≤ 1000000000) (hLn : D.L.length ≤ 100000000) (hn : -9223372036854775808 ≤ n ∧ n ≤ 9223372036854775807) (hb : b.length ≤ 100000000) :
    Ret cx.P 45 #[v0, .int .i64 n, .string ⟨b.toArray⟩] w fun v w' => ∃ v1, v = .tuple #[v1, .int .i64 (writeR n b D).2] ∧ RefAt w' (Grow B w w') (writeR n b D).1 v1 ∧ Ext Non w w' := by
  obtain ⟨LA, Lc, told, a, dn, rfl, h⟩ := h
  refine Ret.e3 (C := cx) (n := 88) cxOk Try.func45 rfl rfl rfl ?_
  have zb := str_size b
  have zs := str_size D.seen
  have hms := hk.seen
  have hmm := hk.most
  obtain ⟨S0, eS⟩ : ∃ S : ByteArray, ⟨D.seen.toArray⟩ = S := ⟨_, rfl⟩
  obtain ⟨T, eT⟩ : ∃ T : ByteArray, ⟨b.toArray⟩ = T := ⟨_, rfl⟩
  rw [eS] at zs
  rw [eT] at zb ⊢
  (repeat ((conv => whnf); first | refine G.seq ?_ | refine G.region cxOk ?_))
  refine Al.mk fun tb w1 hN1 => ?_
  have a1 : At w1 tb (rcD D LA Lc told a dn) 46 (0, 0) := hN1.at_
  (repeat ((conv => whnf); refine G.seq ?_))
  refine Al.mk fun rb w2 hN2 => ?_
  have r2 : At w2 rb _ 46 (0, 0) := hN2.at_
  have a2 := a1.ext hN2.ext id
  have g0 : w2.cell? ⟨tb, 0, none⟩ = some (.int .i64 (D.most : Int)) := a2.cell (i := 0) rfl
  have g1 : w2.cell? ⟨tb, 1, none⟩ = some (.string S0) := by rw [← eS]; exact a2.cell (i := 1) rfl
  have g5 : w2.cell? ⟨tb, 5, none⟩ = some (.bool D.down) := a2.cell (i := 5) rfl
  have l1 := hN1.ge
  have l2 := hN2.ge
  have t1 := a1.lt
  have t2 := r2.lt
  have s1 := hN1.ext.size
  have s2 := hN2.ext.size
  have X2 := hN1.ext.trans hN2.ext
  have refuse : ∀ w8, Ext (· = rb) w2 w8 → ∃ v1, Value.agg (rcD D LA Lc told a dn).toArray = v1 ∧ RefAt w8 (Grow B w w8) D v1 ∧ Ext Non w w8 := fun w8 x8 => by
    have X8 : Ext Non w w8 := Ext.own X2 x8 (by omega)
    have h8 := h.ext X8
    exact ⟨_, rfl, RefAt.mono ⟨LA, Lc, told, a, dn, rfl, h8⟩ (fun k hk => .inl hk) (fun k hk => hk.elim (h8.lt k) (fun e => e.2)), X8⟩
  by_cases hA : D.down = true ∨ (D.down = false ∧ (n < 0 ∨ (D.seen.length : Int) < n ∨ (D.most : Int) - n < (b.length : Int)))
  · have hsplit : D.down = true ∨ (D.down = false ∧ n < 0) ∨ (D.down = false ∧ ¬ n < 0 ∧ (D.seen.length : Int) < n) ∨ (D.down = false ∧ ¬ n < 0 ∧ ¬ (D.seen.length : Int) < n ∧ (D.most : Int) - n < (b.length : Int)) := by
      rcases hA with h | ⟨h, h2⟩
      · exact .inl h
      · rcases h2 with h2 | h2 | h2
        · exact .inr (.inl ⟨h, h2⟩)
        · exact .inr (.inr (.inl ⟨h, by omega, h2⟩))
        · by_cases h3 : n < 0
          · exact .inr (.inl ⟨h, h3⟩)
          · by_cases h4 : (D.seen.length : Int) < n
            · exact .inr (.inr (.inl ⟨h, h3, h4⟩))
            · exact .inr (.inr (.inr ⟨h, h3, h4, h2⟩))
    rcases hsplit with hd | ⟨hd, hc⟩ | ⟨hd, hc, hc2⟩ | ⟨hd, hc, hc2, hc3⟩
    · have ew : writeR n b D = (D, 20) := by unfold writeR; rw [if_pos hd]
      rw [ew]
      rw [hd] at g5
      (repeat ((conv => whnf); first | refine G.seq ?_ | refine G.region cxOk ?_ | refine G.block ?_ | refine G.cond_t rfl ?_ | refine Rd.mk _ (by assumption) (by (exact trivial)) ?_))
      refine RdA.whole a2 rfl trivial ?_
      (repeat ((conv => whnf); refine Nd.mk (by (first | omega | exact rfl)) ?_))
      refine StA.all r2 rfl (one_rc _ _ _ _ _ _ _ _ _ _ _) trivial fun w8 r8 x8 => ?_
      have r8 : At w8 rb (rcD D LA Lc told a dn) 46 (0, 0) := r8
      (repeat ((conv => whnf); refine G.ret ?_))
      refine RdA.whole r8 rfl trivial ?_
      (repeat ((conv => whnf); refine G.seq ?_))
      obtain ⟨v1, rfl, h8⟩ := refuse w8 x8
      exact Don.mk ⟨_, rfl, h8⟩
    · have ew : writeR n b D = (D, 43) := by unfold writeR; rw [if_neg (by rw [hd]; decide), if_pos (by omega)]
      rw [ew]
      rw [hd] at g5
      (repeat ((conv => whnf); first | refine G.seq ?_ | refine G.region cxOk ?_ | refine G.block ?_ | refine G.cond_t rfl ?_ | refine G.cond_f rfl ?_ | refine Cmp.dt (by (omega)) ?_ | refine Rd.mk _ (by assumption) (by (exact trivial)) ?_))
      refine RdA.whole a2 rfl trivial ?_
      (repeat ((conv => whnf); refine Nd.mk (by (first | omega | exact rfl)) ?_))
      refine StA.all r2 rfl (one_rc _ _ _ _ _ _ _ _ _ _ _) trivial fun w8 r8 x8 => ?_
      have r8 : At w8 rb (rcD D LA Lc told a dn) 46 (0, 0) := r8
      (repeat ((conv => whnf); refine G.ret ?_))
      refine RdA.whole r8 rfl trivial ?_
      (repeat ((conv => whnf); refine G.seq ?_))
      obtain ⟨v1, rfl, h8⟩ := refuse w8 x8
      exact Don.mk ⟨_, rfl, h8⟩
    · have ew : writeR n b D = (D, 43) := by unfold writeR; rw [if_neg (by rw [hd]; decide), if_pos (by omega)]
      rw [ew]
      rw [hd] at g5
      (repeat ((conv => whnf); first | refine G.seq ?_ | refine G.region cxOk ?_ | refine G.block ?_ | refine G.cond_t rfl ?_ | refine G.cond_f rfl ?_ | refine Cmp.dt (by (omega)) ?_ | refine Cmp.df (by omega) ?_ | refine Rd.mk _ (by assumption) (by (exact trivial)) ?_))
      refine RdA.whole a2 rfl trivial ?_
      (repeat ((conv => whnf); refine Nd.mk (by (first | omega | exact rfl)) ?_))
      refine StA.all r2 rfl (one_rc _ _ _ _ _ _ _ _ _ _ _) trivial fun w8 r8 x8 => ?_
      have r8 : At w8 rb (rcD D LA Lc told a dn) 46 (0, 0) := r8
      (repeat ((conv => whnf); refine G.ret ?_))
      refine RdA.whole r8 rfl trivial ?_
      (repeat ((conv => whnf); refine G.seq ?_))
      obtain ⟨v1, rfl, h8⟩ := refuse w8 x8
      exact Don.mk ⟨_, rfl, h8⟩
    · have ew : writeR n b D = (D, 21) := by unfold writeR; rw [if_neg (by rw [hd]; decide), if_neg (by omega), if_pos (by omega)]
      rw [ew]
      rw [hd] at g5
      (repeat ((conv => whnf); first | refine G.seq ?_ | refine G.region cxOk ?_ | refine G.block ?_ | refine G.cond_t rfl ?_ | refine G.cond_f rfl ?_ | refine Cmp.dt (by (omega)) ?_ | refine Cmp.df (by omega) ?_ | ((with_reducible refine Ev.mk _ (IntWalk.i64_in _ ?_) ?_; · omega)) | refine Rd.mk _ (by assumption) (by (exact trivial)) ?_))
      refine RdA.whole a2 rfl trivial ?_
      (repeat ((conv => whnf); refine Nd.mk (by (first | omega | exact rfl)) ?_))
      refine StA.all r2 rfl (one_rc _ _ _ _ _ _ _ _ _ _ _) trivial fun w8 r8 x8 => ?_
      have r8 : At w8 rb (rcD D LA Lc told a dn) 46 (0, 0) := r8
      (repeat ((conv => whnf); refine G.ret ?_))
      refine RdA.whole r8 rfl trivial ?_
      (repeat ((conv => whnf); refine G.seq ?_))
      obtain ⟨v1, rfl, h8⟩ := refuse w8 x8
      exact Don.mk ⟨_, rfl, h8⟩
  have hd : D.down = false := by cases hdn : D.down with
    | true => exact absurd (.inl hdn) hA
    | false => rfl
  have hA2 : ¬ (n < 0 ∨ (D.seen.length : Int) < n ∨ (D.most : Int) - n < (b.length : Int)) := fun h => hA (.inr ⟨hd, h⟩)
  obtain ⟨m, rfl⟩ : ∃ m : Nat, n = (m : Int) := ⟨n.toNat, by omega⟩
  have ew : writeR (m : Int) b D = stepR D (writeD m b D) := by
    unfold writeR
    rw [if_neg (by rw [hd]; decide), if_neg (by omega), if_neg (by omega), Int.toNat_natCast]
    exact stepD_R (act := writeD m b) (fun _ _ => rfl)
  rw [ew]
  rw [hd] at g5
  (repeat ((conv => whnf); first | refine G.seq ?_ | refine G.region cxOk ?_ | refine G.block ?_ | refine G.cond_f rfl ?_ | refine G.skip ?_ | refine Cmp.df (by omega) ?_ | ((with_reducible refine Ev.mk _ (IntWalk.i64_in _ ?_) ?_; · omega)) | refine Rd.mk _ (by assumption) (by (exact trivial)) ?_))
  refine RdA.whole a2 rfl trivial ?_
  (repeat ((conv => whnf); refine G.seq ?_))
  refine Al.mk fun xb w3 hN3 => ?_
  (repeat ((conv => whnf); refine Nd.mk (by (first | omega | exact rfl)) ?_))
  refine StA.all hN3.at_ rfl (one_rc _ _ _ _ _ _ _ _ _ _ _) trivial fun w4 y4 x4 => ?_
  have y4 : At w4 xb (rcD D LA Lc told a dn) 46 (0, 0) := y4
  have l3 := hN3.ge
  have s3 := hN3.ext.size
  have s4 := x4.size
  have t3 := y4.lt
  have X4 := Ext.own (X2.trans hN3.ext) x4 (by omega)
  have a4 := (a2.ext hN3.ext id).ext x4 (fun e => by have e' : tb = xb := e; omega)
  have r4 := (r2.ext hN3.ext id).ext x4 (fun e => by have e' : rb = xb := e; omega)
  have g1 : w4.cell? ⟨tb, 1, none⟩ = some (.string ⟨D.seen.toArray⟩) := a4.cell (i := 1) rfl
  subst eT
  (repeat ((conv => whnf); first | refine G.seq ?_ | refine G.region cxOk ?_ | refine Rd.mk _ (by assumption) (by (exact trivial)) ?_))
  refine Cl.mk (laid_ret (s := D.seen) (b := b) (a := m) w4 (by omega) hb (by omega)) ?_
  rintro _ w5 ⟨rfl, x5⟩
  have y5 := y4.ext x5 id
  have s5 := x5.size
  (repeat ((conv => whnf); refine Nd.mk (by (first | omega | exact ⟨rfl, rfl⟩)) ?_))
  refine St1.mk y5 (by exact (by decide : 1 < 9)) (by decide) trivial fun w6 y6 x6 => ?_
  obtain ⟨Z, eZ⟩ : ∃ Z, laidL D.seen m b = Z := ⟨_, rfl⟩
  have y6 : At w6 xb (rc D.most Z D.safe LA D.L.length Lc D.steps D.down told a dn) 46 (0, 0) := by rw [← eZ]; exact y6
  have hZl : Z.length ≤ 16777216 := by rw [← eZ]; exact Nat.le_trans (laidL_le hms (by omega)) hmm
  have s6 := x6.size
  have X6 : Ext Non w w6 := Ext.own (X4.trans x5) x6 (by omega)
  (repeat ((conv => whnf); first | refine G.seq ?_ | refine G.region cxOk ?_ | refine Nd.mk (by (omega)) ?_))
  refine Ev.mk _ ((congrArg _ (tdivQ m)).trans (IntWalk.i64_in _ (by omega))) ?_
  (repeat ((conv => whnf); first | refine G.block ?_ | ((with_reducible refine Ev.mk _ (IntWalk.i64_in _ ?_) ?_; · omega))))
  refine G.loop (α := Nat) (fun j => [(1, .int .i64 (m : Int)), (2, .string ⟨b.toArray⟩), (3, .pointer (some ⟨tb, 0, none⟩)), (6, .pointer (some ⟨rb, 0, none⟩)), (8, .pointer (some ⟨xb, 0, none⟩)), (9, .int .i64 ((secS m j : Nat) : Int))])
    (fun j W => j ≤ secN m b.length ∧ ∃ A' c', At W xb (rc D.most Z D.safe A' (D.L ++ loosesI Z m j).length c' D.steps D.down told a dn) 46 (0, 0) ∧ Cells W A' (rlvs (D.L ++ loosesI Z m j)) ∧ (D.L ++ loosesI Z m j).length ≤ c' ∧ (D.L ++ loosesI Z m j ≠ [] → ∀ k, inBlk A' k → B k ∨ w6.heap.size ≤ k) ∧ Ext (· = xb) w6 W)
    (fun j => secN m b.length - j) 0 ⟨rfl, rfl, rfl, rfl, rfl, by rw [show secS m 0 = m / 512 * 512 from rfl]; rfl, trivial⟩ ⟨Nat.zero_le _, LA, Lc, by rw [show D.L ++ loosesI Z m 0 = D.L from List.append_nil _]; exact y6, by rw [show D.L ++ loosesI Z m 0 = D.L from List.append_nil _]; exact h.cl.ext X6 (fun _ _ x => x), by rw [show D.L ++ loosesI Z m 0 = D.L from List.append_nil _]; exact h.lc, by rw [show D.L ++ loosesI Z m 0 = D.L from List.append_nil _]; exact fun e k hk => .inl (h.bl e k hk), Ext.refl _ _⟩ ?_
  rintro j W ⟨hj, A', c', yW, hcl, hlc, hbl, xW⟩
  have hsec := secN m b.length
  obtain ⟨q, eq⟩ : ∃ q, secS m j = q := ⟨_, rfl⟩
  have eqd : q = (m / 512 + j) * 512 := eq.symm
  have hsn : secN m b.length = if b.length = 0 then 0 else (m + b.length - 1) / 512 - m / 512 + 1 := rfl
  have hjb : j ≤ 40000000 := by rw [hsn] at hj; split at hj <;> omega
  have hll : (D.L ++ loosesI Z m j).length = D.L.length + j := by rw [List.length_append, loosesI_length]
  have els : loosesI Z m (j + 1) = loosesI Z m j ++ [looseOf Z q] := by rw [loosesI_succ, eq]
  rw [eq]
  have k1 : W.cell? ⟨xb, 1, none⟩ = some (.string ⟨Z.toArray⟩) := yW.cell (i := 1) rfl
  have k3 : W.cell? ⟨xb, 3, none⟩ = some (.slice A' (D.L ++ loosesI Z m j).length c') := yW.cell (i := 3) rfl
  have xbl : xb < W.heap.size := yW.lt
  have zZ := str_size Z
  have sW := xW.size
  have aW : At W tb (rcD D LA Lc told a dn) 46 (0, 0) := (a4.ext x5 id).ext (x6.trans xW) (fun e => by have e' : tb = xb := e; omega)
  have rW := (r4.ext x5 id).ext (x6.trans xW) (fun e => by have e' : rb = xb := e; omega)
  have XW : Ext Non w W := Ext.own X6 xW (by omega)
  have hB : ∀ k, (B k ∨ (w6.heap.size ≤ k ∧ k < W.heap.size)) → k < W.heap.size := fun k hk => hk.elim (fun e => by have := h.lt k e; have := XW.size; omega) (fun e => e.2)
  have hD : RefV W (fun k => B k ∨ (w6.heap.size ≤ k ∧ k < W.heap.size)) D LA Lc told a dn := by
    have h0 := h.ext XW
    exact ⟨h0.tl, h0.lo, h0.hi, h0.cl, h0.lc, fun e k hk => .inl (h0.bl e k hk), hB⟩
  have hbl' : D.L ++ loosesI Z m j ≠ [] → ∀ k, inBlk A' k → B k ∨ (w6.heap.size ≤ k ∧ k < W.heap.size) := fun e k hk => (hbl e k hk).imp id fun e2 => ⟨e2, hcl.lt (fun e3 => e (by have h1 := rlvs_length (D.L ++ loosesI Z m j); rw [e3] at h1; exact List.eq_nil_of_length_eq_zero (by have h2 : 0 = (D.L ++ loosesI Z m j).length * 3 := h1; omega))) hk⟩
  have hX : j = secN m b.length → RefV W (fun k => B k ∨ (w6.heap.size ≤ k ∧ k < W.heap.size)) (writeD m b D) A' c' told a dn := fun e => by
    subst e
    subst eZ
    exact ⟨h.tl, h.lo, h.hi, hcl, hlc, hbl', hB⟩
  have yX : j = secN m b.length → At W xb (rcD (writeD m b D) A' c' told a dn) 46 (0, 0) := fun e => by
    subst e
    subst eZ
    exact yW
  (repeat ((conv => whnf); first | refine G.seq ?_ | refine G.region cxOk ?_ | ((with_reducible refine Ev.mk _ (IntWalk.i64_in _ ?_) ?_; · omega))))
  refine Cmp.ds (fun hlt => ?_) (fun hge => ?_)
  · by_cases hb0 : b.length = 0
    · have hjN : j = secN m b.length := by rw [hsn, if_pos hb0] at hj ⊢; omega
      (repeat ((conv => whnf); first | refine G.seq ?_ | refine G.region cxOk ?_ | refine G.cond_f rfl ?_ | refine G.exit ?_ | refine Cmp.df (by omega) ?_))
      (try refine Cmp.df (by omega) ?_)
      (repeat ((conv => whnf); refine G.seq ?_))
      refine RdA.whole aW rfl trivial ?_
      (repeat ((conv => whnf); refine G.seq ?_))
      refine RdA.whole (yX hjN) rfl trivial ?_
      (repeat ((conv => whnf); refine G.seq ?_))
      refine Cl.mk (refStep_ret hD (hX hjN) hs rfl rfl) ?_
      rintro _ w7 ⟨v1, rfl, h7, x7⟩
      obtain ⟨LA', Lc', told', a', dn', rfl, hv⟩ := h7
      have r7 := rW.ext x7 id
      have s7 := x7.size
      (repeat ((conv => whnf); refine Nd.mk (by (first | omega | exact rfl)) ?_))
      refine StA.all r7 rfl (one_rc _ _ _ _ _ _ _ _ _ _ _) trivial fun w8 r8 x8 => ?_
      (repeat ((conv => whnf); refine G.ret ?_))
      refine RdA.whole r8 rfl trivial ?_
      have X8 := Ext.own (XW.trans x7) x8 (by omega)
      have s8 := x8.size
      (repeat ((conv => whnf); refine G.seq ?_))
      exact Don.mk ⟨_, rfl, RefAt.mono ⟨LA', Lc', told', a', dn', rfl, hv.ext' x8 (fun k hk e => by have e' : k = rb := e; exact hk.elim (fun e2 => by have := h.lt k e2; omega) (fun e2 => by omega))⟩ (fun k hk => hk.imp id (fun e => by omega)) (fun k hk => hk.elim (fun e => by have := h.lt k e; have := X8.size; omega) (fun e => e.2)), X8⟩
    · have hj' : j < secN m b.length := by rw [hsn, if_neg hb0]; omega
      have hbz : b ≠ [] := fun e => hb0 (by rw [e]; rfl)
      have hqZ : q ≤ Z.length := by rw [← eZ, laidL_length hbz]; omega
      (repeat ((conv => whnf); first | refine G.seq ?_ | refine G.region cxOk ?_ | refine G.block ?_ | refine G.cond_t rfl ?_ | refine G.skip ?_ | refine Cmp.dt (by (omega)) ?_))
      (try refine Cmp.dt (by omega) ?_)
      have xd : Ext Non W W.drew := Ext.drew _ _
      have nxb : ¬ W.heap.size ≤ xb := by omega
      (repeat ((conv => whnf); refine G.seq ?_))
      refine G.draw cxOk (fun k => W.heap.size ≤ k) (.tk 0 <| .tk 1 <| .tk 2 <| .tk 4 <| .tk 5 <| .tk 6 <| .tk 7 <| .tk 8 <| .tk 9 <| .tk 10 <| .tk 11 <| .tk 12 <| .tk 13 <| .tk 14 <| .tk 15 <| .tk 16 <| .tk 17 <| .tk 18 <| .tk 19 <| .tk 20 <| .tk 21 <| .alt 3 (.w 22 <| .w 23 <| .tk 24 <| .z 25) (.w 22 (.w 3 <| .w 23 <| .tk 24 <| .z 25))) (by kernel_rfl) ?_
      (repeat ((conv => whnf); refine G.seq ?_))
      refine Rd.mk _ (xd.cell k3 id) nxb ?_
      (repeat ((conv => whnf); refine G.seq ?_))
      refine Rd.mk _ (xd.cell k1 id) nxb ?_
      (repeat ((conv => whnf); ((with_reducible refine Ev.mk _ (IntWalk.i64_in _ ?_) ?_; · omega))))
      refine Rd.mk _ (xd.cell k1 id) nxb ?_
      (repeat ((conv => whnf); refine G.seq ?_))
      refine Ev.mk ((min (q + 512) Z.length : Nat) : Int) (by split <;> omega) ?_
      (repeat ((conv => whnf); first | ((with_reducible refine Ev.mk _ (Int.toNat_natCast _) ?_)) | refine Nd.mk (by (omega)) ?_))
      refine Ev.mk (⟨((Z.take (min (q + 512) Z.length)).drop q).toArray⟩ : ByteArray) (str_cut _ _ _) ?_
      (repeat ((conv => whnf); ((with_reducible refine Ev.mk _ (IntWalk.i64_in _ ?_) ?_; · omega))))
      refine Rd.mk _ (xd.cell k1 id) nxb ?_
      (repeat ((conv => whnf); refine G.seq ?_))
      refine Ev.mk ((min (q + 512) Z.length : Nat) : Int) (by split <;> omega) ?_
      (repeat ((conv => whnf); first | refine @Ev.keep (List Value) _ _ ?_ | refine Nd.mk (by (first | omega | exact ⟨rfl, by decide⟩ | exact ⟨rfl, Nat.le_of_ble_eq_true rfl⟩)) ?_))
      have eL : D.L ++ loosesI Z m (j + 1) = (D.L ++ loosesI Z m j) ++ [looseOf Z q] := by rw [els, List.append_assoc]
      refine ⟨?_, ?_⟩
      · (repeat ((conv => whnf); refine G.seq ?_))
        refine Run.appRl (l := []) (l2 := D.L ++ loosesI Z m j) (OS.nil _ W.heap.size _ _) (srcRl (hcl.ext xd (fun _ _ x => x))) (by rw [List.length_nil]; omega) (Nat.le_refl _) (fun w' x => x.mono fun k hk => by obtain ⟨_, _, _, _, e⟩ := hk; cases e) ?_
        intro A7 c7 w7 hc7 o7 x7 hb7
        rw [List.nil_append] at hc7 o7 ⊢
        have x7 : Ext Non W.drew w7 := x7.mono fun k hk => by obtain ⟨_, _, _, _, e⟩ := hk; cases e
        (repeat ((conv => whnf); first | refine @Ev.keep (List Value) _ _ ?_ | refine Nd.mk (by (first | omega | exact ⟨rfl, by decide⟩ | exact ⟨by decide, rfl⟩)) ?_))
        refine Al.mk fun lb w9 hN9 => ?_
        have c9 : Cells w9 (some ⟨lb, 0, none⟩) (rlvs [looseOf Z q]) := by
          have t := Cells.whole hN9.at_
          rw [show rlvs [looseOf Z q] = rlv (looseOf Z q) from List.append_nil _, looseOf_rlv hqZ]
          exact t
        have oP : ORl w9 W.heap.size (.slice A7 (D.L ++ loosesI Z m j).length c7) (D.L ++ loosesI Z m j) := o7.ext hN9.ext (fun _ _ x => x)
        have cP : Cells w9 (some ⟨lb, 0, none⟩) (rlvs [looseOf Z q]) := c9
        have xP : Ext Non W w9 := (xd.trans x7).trans hN9.ext
        have sP := xP.size
        have yP := yW.ext xP id
        (repeat ((conv => whnf); refine G.seq ?_))
        refine Run.appRl (l := D.L ++ loosesI Z m j) (l2 := [looseOf Z q]) oP (srcRl cP) (by rw [List.length_singleton]; omega) sP (fun w' x => x.mono fun k hk => OS.ge oP hk) ?_
        intro A8 c8 w10 hc8 o8 x8 hb8
        have y10 := yP.ext x8 (fun hk => by have := OS.ge oP hk; omega)
        have hb8' : ∀ k, inBlk A8 k → W.heap.size ≤ k := fun k hk => (hb8 k hk).elim (fun e => OS.ge oP e) (fun e => by omega)
        (repeat ((conv => whnf); refine Nd.mk (by (first | omega | exact ⟨rfl, rfl⟩)) ?_))
        refine St1.mk y10 (by exact (by decide : 3 < 9)) (by decide) trivial fun w11 y11 x11 => ?_
        obtain ⟨_, _, e, _, hcl8, _⟩ := OS.form o8
        obtain ⟨rfl, -, rfl⟩ := Value.slice.inj e
        have hcl11 := hcl8.ext x11 (fun k hk e => by have := hb8' k hk; have e' : k = xb := e; omega)
        have X11 : Ext (· = xb) w6 w11 := (xW.trans (((xP.mono fun _ x => x.elim) : Ext (· = xb) W w9))).trans' ((x8.trans' x11 (T := fun k => W.heap.size ≤ k ∨ k = xb) (fun k _ hk => .inl (OS.ge oP hk)) (fun k _ hk => .inr hk))) (fun _ _ x => x) (fun k hk e => e.elim (fun e => by omega) id)
        (repeat ((conv => whnf); first | refine G.region cxOk ?_ | ((with_reducible refine Ev.mk _ (IntWalk.i64_in _ ?_) ?_; · omega))))
        exact ⟨j + 1, ⟨rfl, rfl, rfl, rfl, rfl, by rw [show secS m (j + 1) = q + 512 from by rw [eqd]; unfold secS; omega]; rfl, trivial⟩, ⟨hj', A8, c8, by rw [eL]; exact y11, by rw [eL]; exact hcl11, by rw [eL]; exact hc8, fun _ k hk => .inr (by have := hb8' k hk; omega), X11⟩, by omega⟩
      · (repeat ((conv => whnf); first | refine @Ev.keep (List Value) _ _ ?_ | refine Nd.mk (by (first | omega | exact ⟨rfl, by decide⟩ | exact ⟨by decide, rfl⟩)) ?_))
        refine Al.mk fun lb w9 hN9 => ?_
        have c9 : Cells w9 (some ⟨lb, 0, none⟩) (rlvs [looseOf Z q]) := by
          have t := Cells.whole hN9.at_
          rw [show rlvs [looseOf Z q] = rlv (looseOf Z q) from List.append_nil _, looseOf_rlv hqZ]
          exact t
        (repeat ((conv => whnf); refine G.seq ?_))
        refine Run.appRl (l := []) (l2 := D.L ++ loosesI Z m j) (OS.nil _ W.heap.size _ _) (srcRl ((hcl.ext xd (fun _ _ x => x)).ext hN9.ext (fun _ _ x => x))) (by rw [List.length_nil]; omega) (hN9.ext.size) (fun w' x => x.mono fun k hk => by obtain ⟨_, _, _, _, e⟩ := hk; cases e) ?_
        intro A7 c7 w7 hc7 o7 x7 hb7
        rw [List.nil_append] at hc7 o7 ⊢
        have x7 : Ext Non w9 w7 := x7.mono fun k hk => by obtain ⟨_, _, _, _, e⟩ := hk; cases e
        have oP : ORl w7 W.heap.size (.slice A7 (D.L ++ loosesI Z m j).length c7) (D.L ++ loosesI Z m j) := o7
        have cP : Cells w7 (some ⟨lb, 0, none⟩) (rlvs [looseOf Z q]) := c9.ext x7 (fun _ _ x => x)
        have xP : Ext Non W w7 := (xd.trans hN9.ext).trans x7
        have sP := xP.size
        have yP := yW.ext xP id
        (repeat ((conv => whnf); refine G.seq ?_))
        refine Run.appRl (l := D.L ++ loosesI Z m j) (l2 := [looseOf Z q]) oP (srcRl cP) (by rw [List.length_singleton]; omega) sP (fun w' x => x.mono fun k hk => OS.ge oP hk) ?_
        intro A8 c8 w10 hc8 o8 x8 hb8
        have y10 := yP.ext x8 (fun hk => by have := OS.ge oP hk; omega)
        have hb8' : ∀ k, inBlk A8 k → W.heap.size ≤ k := fun k hk => (hb8 k hk).elim (fun e => OS.ge oP e) (fun e => by omega)
        (repeat ((conv => whnf); refine Nd.mk (by (first | omega | exact ⟨rfl, rfl⟩)) ?_))
        refine St1.mk y10 (by exact (by decide : 3 < 9)) (by decide) trivial fun w11 y11 x11 => ?_
        obtain ⟨_, _, e, _, hcl8, _⟩ := OS.form o8
        obtain ⟨rfl, -, rfl⟩ := Value.slice.inj e
        have hcl11 := hcl8.ext x11 (fun k hk e => by have := hb8' k hk; have e' : k = xb := e; omega)
        have X11 : Ext (· = xb) w6 w11 := (xW.trans (((xP.mono fun _ x => x.elim) : Ext (· = xb) W w7))).trans' ((x8.trans' x11 (T := fun k => W.heap.size ≤ k ∨ k = xb) (fun k _ hk => .inl (OS.ge oP hk)) (fun k _ hk => .inr hk))) (fun _ _ x => x) (fun k hk e => e.elim (fun e => by omega) id)
        (repeat ((conv => whnf); first | refine G.region cxOk ?_ | ((with_reducible refine Ev.mk _ (IntWalk.i64_in _ ?_) ?_; · omega))))
        exact ⟨j + 1, ⟨rfl, rfl, rfl, rfl, rfl, by rw [show secS m (j + 1) = q + 512 from by rw [eqd]; unfold secS; omega]; rfl, trivial⟩, ⟨hj', A8, c8, by rw [eL]; exact y11, by rw [eL]; exact hcl11, by rw [eL]; exact hc8, fun _ k hk => .inr (by have := hb8' k hk; omega), X11⟩, by omega⟩
  · have hjN : j = secN m b.length := by
      rw [hsn] at hj ⊢
      by_cases hb0 : b.length = 0
      · rw [if_pos hb0] at hj ⊢; omega
      · rw [if_neg hb0] at hj ⊢; omega
    (repeat ((conv => whnf); first | refine G.seq ?_ | refine G.region cxOk ?_ | refine G.cond_f rfl ?_ | refine G.exit ?_))
    refine RdA.whole aW rfl trivial ?_
    (repeat ((conv => whnf); refine G.seq ?_))
    refine RdA.whole (yX hjN) rfl trivial ?_
    (repeat ((conv => whnf); refine G.seq ?_))
    refine Cl.mk (refStep_ret hD (hX hjN) hs rfl rfl) ?_
    rintro _ w7 ⟨v1, rfl, h7, x7⟩
    obtain ⟨LA', Lc', told', a', dn', rfl, hv⟩ := h7
    have r7 := rW.ext x7 id
    have s7 := x7.size
    (repeat ((conv => whnf); refine Nd.mk (by (first | omega | exact rfl)) ?_))
    refine StA.all r7 rfl (one_rc _ _ _ _ _ _ _ _ _ _ _) trivial fun w8 r8 x8 => ?_
    (repeat ((conv => whnf); refine G.ret ?_))
    refine RdA.whole r8 rfl trivial ?_
    have X8 := Ext.own (XW.trans x7) x8 (by omega)
    have s8 := x8.size
    (repeat ((conv => whnf); refine G.seq ?_))
    exact Don.mk ⟨_, rfl, RefAt.mono ⟨LA', Lc', told', a', dn', rfl, hv.ext' x8 (fun k hk e => by have e' : k = rb := e; exact hk.elim (fun e2 => by have := h.lt k e2; omega) (fun e2 => by omega))⟩ (fun k hk => hk.imp id (fun e => by omega)) (fun k hk => hk.elim (fun e => by have := h.lt k e; have := X8.size; omega) (fun e => e.2)), X8⟩
end Go.Proofs.Ytfphlbogblldbaa

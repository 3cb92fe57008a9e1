import Derived.Test.YtmoebdncmcigaaaDoorNod4

/-
  A node that is laid is read as it was, if its refs may be; what is read is laid so.
-/

namespace Go.Proofs.YtmoebdncmcigaaaDoor

open Go Sx

set_option linter.unusedVariables false

set_option linter.unusedSimpArgs false

set_option maxRecDepth 100000

set_option maxHeartbeats 3000000 in
theorem NodeBack_ret {A : Option Addr} {c : Nat} {n : List NRef} {raw : List UInt8} {w : World} (hR : Roots w) (hn : NodeOk n) (h : Cells w A (bv raw)) (hc : raw.length ≤ c) (hA : ∀ k, inBlk A k → k < w.heap.size) (hl : raw.length ≤ 140737488351232) :
    Ret cx.P 6 #[.agg (ncs n).toArray, .slice A raw.length c] w fun v w' => v = .bool true ∧ Ext Non w w' := by
  refine Ret.e2 (C := cx) (n := 95) cxOk Tryd.func6 rfl rfl rfl ?_
  have hlen : (ncs n).length = 264 := by rw [ncs_length hn.each, hn.len]
  have hok := resN_ok raw
  have hlenM : (ncs (resN raw)).length = 264 := by rw [ncs_length hok.each, hok.len]
  (repeat ((conv => whnf); first | refine G.seq ?_ | refine G.region cxOk ?_))
  refine Al.mk fun nb w1 hN1 => ?_
  have x1 := hN1.ext
  have hn1 : At w1 nb (ncs n) 39 (0, 0) := hN1.at_
  have tG := NodeGet_ret (c := c) (h.ext x1 fun _ _ x => x) hc (fun k hk => Nat.lt_of_lt_of_le (hA k hk) x1.size) (by omega)
  (repeat ((conv => whnf); first | refine G.seq ?_ | refine G.region cxOk ?_))
  refine Cl.mk tG ?_
  clear tG
  rintro v w2 ⟨rfl, x2⟩
  (repeat ((conv => whnf); refine G.seq ?_))
  refine Al.mk fun mb w3 hN3 => ?_
  (repeat ((conv => whnf); refine G.seq ?_))
  refine Nd.mk (by rw [List.size_toArray, hlenM]; rfl) ?_
  refine StA.all (vs := ncs (resN raw)) hN3.at_ (by rw [hlenM]; rfl) (one_ncs _) trivial fun w4 h4 x4 => ?_
  have x14 : Ext Non w1 w4 := Ext.own (x2.trans hN3.ext) x4 (Nat.le_trans x2.size hN3.ge)
  have x04 := x1.trans x14
  have hn4 := hn1.ext x14 (fun x => x)
  -- behind the first test
  refine G.cut (fun l' w' => Sub [(1, .slice A raw.length c), (2, .pointer (some ⟨nb, 0, none⟩)), (39, .bool false)] l' ∧ Ext Non w4 w') ?_ ?_
  · by_cases hk : okN raw = true
    · have e1 : errN raw = 0 := by rw [errN, if_pos hk]
      have e2 : putN (resN raw) = raw := by rw [resN, if_pos hk]; exact put_parse (okN_iff hk)
      have hPm := NodePut_ret hok
      rw [e2] at hPm
      rw [e1]
      obtain ⟨CM, hCM⟩ : ∃ C, ncs (resN raw) = C := ⟨_, rfl⟩
      rw [hCM] at h4 hlenM hPm ⊢
      (repeat ((conv => whnf); refine G.seq ?_))
      refine G.flow2 cxOk Non (Up w4 Non) undef (fun _ => False) [Fl.is (.int .i64 0), Fl.is (.bool true), Fl.is (.bool true), Fl.is (.agg CM.toArray), Fl.ob w4.heap.size raw, Fl.is (.string ⟨(raw).toArray⟩), Fl.is (.slice A raw.length c), Fl.is (.string ⟨(raw).toArray⟩), Fl.is (.bool false), Fl.is (.bool false), Fl.is (.bool false), Fl.is (.int .i64 0), Fl.is (.bool false), Fl.is (.bool false), Fl.is undef, Fl.is undef, Fl.is undef, Fl.is undef, Fl.is undef, Fl.is undef, Fl.is undef, Fl.is (.bool false), Fl.is (.bool false)] [[], [(0, false)], [(1, false)], [(2, false)], [(2, false), (3, false)], [(2, false), (4, false)], [(2, false)], [(2, false), (6, false)], [(2, false), (5, false), (7, false)], [(2, false), (8, false)], [(9, false)], [(10, false)], [(10, false), (11, false)], [(10, false), (12, false)], [(13, false)], [(13, false)], [(13, false)], [(16, false)], [(16, false)], [(16, false)], [(13, false)], [(10, false), (13, false), (20, false)], [(10, false), (21, false)]] [22] (fun b h => .inl h) (fun _ h => h.elim) ⟨True.intro, fun _ h => h.elim⟩ (by kernel_rfl) (by kernel_rfl) (by kernel_rfl) ⟨?_, ?_, ?_, ?_, ?_, ?_, ?_, ?_, ?_, ?_, ?_, ?_, ?_, ?_, ?_, ?_, ?_, ?_, ?_, ?_, ?_, ?_, ?_, trivial⟩ ?_
      · intro wF EF 
        have yF : Ext Non w4 wF := EF.ext0
        have bF : w4.heap.size ≤ wF.heap.size := yF.size
        have zF : Ext Non w wF := x04.trans yF
        (repeat ((conv => whnf); refine G.seq ?_))
        exact ⟨fun _ => False, ⟨rfl, fun _ h => h⟩, fun _ h => h.elim⟩
      · intro wF EF v0 f0 h0 s0
        obtain ⟨rfl, -⟩ := h0
        have yF : Ext Non w4 wF := EF.ext0
        have bF : w4.heap.size ≤ wF.heap.size := yF.size
        have zF : Ext Non w wF := x04.trans yF
        (repeat ((conv => whnf); refine Cmp.dt (by (first | (with_reducible rfl) | omega)) ?_))
        (try refine Cmp.dt rfl ?_)
        (repeat ((conv => whnf); refine G.seq ?_))
        exact ⟨fun _ => False, ⟨rfl, fun _ h => h⟩, fun _ h => h.elim⟩
      · intro wF EF v1 f1 h1 s1
        obtain ⟨rfl, -⟩ := h1
        have yF : Ext Non w4 wF := EF.ext0
        have bF : w4.heap.size ≤ wF.heap.size := yF.size
        have zF : Ext Non w wF := x04.trans yF
        (repeat ((conv => whnf); refine G.seq ?_))
        exact ⟨fun _ => False, ⟨rfl, fun _ h => h⟩, fun _ h => h.elim⟩
      · intro wF EF v2 f2 h2 s2
        obtain ⟨rfl, -⟩ := h2
        have yF : Ext Non w4 wF := EF.ext0
        have bF : w4.heap.size ≤ wF.heap.size := yF.size
        have zF : Ext Non w wF := x04.trans yF
        (repeat ((conv => whnf); refine G.seq ?_))
        refine RdA.whole (h4.ext yF (fun x => x)) hlenM (by first | trivial | exact fun x => x) ?_
        (repeat ((conv => whnf); refine G.seq ?_))
        exact ⟨fun _ => False, ⟨rfl, fun _ h => h⟩, fun _ h => h.elim⟩
      · intro wF EF v2 f2 h2 s2 v3 f3 h3 s3
        obtain ⟨rfl, -⟩ := h2
        obtain ⟨rfl, -⟩ := h3
        have yF : Ext Non w4 wF := EF.ext0
        have bF : w4.heap.size ≤ wF.heap.size := yF.size
        have zF : Ext Non w wF := x04.trans yF
        (repeat ((conv => whnf); refine G.seq ?_))
        refine Cl.dr (hPm wF) (fun v w' h => h.2.mono fun _ x => x.elim) ?_
        rintro v w9 ⟨o9, x9⟩
        exact Fl.obNew o9 (Nat.le_refl _) bF
      · intro wF EF v2 f2 h2 s2 v4 f4 h4 s4
        obtain ⟨rfl, -⟩ := h2
        obtain ⟨o4, b4⟩ := h4
        obtain ⟨A4, c4, rfl, l4, g4, e4⟩ := OB.form o4
        have yF : Ext Non w4 wF := EF.ext0
        have bF : w4.heap.size ≤ wF.heap.size := yF.size
        have zF : Ext Non w wF := x04.trans yF
        (repeat ((conv => whnf); refine G.seq ?_))
        refine RdS.of g4 rfl (fun _ _ => trivial) ?_
        exact ⟨fun _ => False, ⟨rfl, fun _ h => h⟩, fun _ h => h.elim⟩
      · intro wF EF v2 f2 h2 s2
        obtain ⟨rfl, -⟩ := h2
        have yF : Ext Non w4 wF := EF.ext0
        have bF : w4.heap.size ≤ wF.heap.size := yF.size
        have zF : Ext Non w wF := x04.trans yF
        (repeat ((conv => whnf); refine G.seq ?_))
        exact ⟨fun _ => False, ⟨rfl, fun _ h => h⟩, fun _ h => h.elim⟩
      · intro wF EF v2 f2 h2 s2 v6 f6 h6 s6
        obtain ⟨rfl, -⟩ := h2
        obtain ⟨rfl, -⟩ := h6
        have yF : Ext Non w4 wF := EF.ext0
        have bF : w4.heap.size ≤ wF.heap.size := yF.size
        have zF : Ext Non w wF := x04.trans yF
        (repeat ((conv => whnf); refine G.seq ?_))
        refine RdS.of (h.ext zF (fun k hk x => x)) rfl (fun _ _ => trivial) ?_
        exact ⟨fun _ => False, ⟨rfl, fun _ h => h⟩, fun _ h => h.elim⟩
      · intro wF EF v2 f2 h2 s2 v5 f5 h5 s5 v7 f7 h7 s7
        obtain ⟨rfl, -⟩ := h2
        obtain ⟨rfl, -⟩ := h5
        obtain ⟨rfl, -⟩ := h7
        have yF : Ext Non w4 wF := EF.ext0
        have bF : w4.heap.size ≤ wF.heap.size := yF.size
        have zF : Ext Non w wF := x04.trans yF
        (repeat ((conv => whnf); refine G.seq ?_))
        (try refine Cmp.df (fun h => h rfl) ?_)
        (repeat ((conv => whnf); refine G.seq ?_))
        exact ⟨fun _ => False, ⟨rfl, fun _ h => h⟩, fun _ h => h.elim⟩
      · intro wF EF v2 f2 h2 s2 v8 f8 h8 s8
        obtain ⟨rfl, -⟩ := h2
        obtain ⟨rfl, -⟩ := h8
        have yF : Ext Non w4 wF := EF.ext0
        have bF : w4.heap.size ≤ wF.heap.size := yF.size
        have zF : Ext Non w wF := x04.trans yF
        (repeat ((conv => whnf); refine G.seq ?_))
        exact ⟨fun _ => False, ⟨rfl, fun _ h => h⟩, fun _ h => h.elim⟩
      · intro wF EF v9 f9 h9 s9
        obtain ⟨rfl, -⟩ := h9
        have yF : Ext Non w4 wF := EF.ext0
        have bF : w4.heap.size ≤ wF.heap.size := yF.size
        have zF : Ext Non w wF := x04.trans yF
        (repeat ((conv => whnf); refine G.seq ?_))
        exact ⟨fun _ => False, ⟨rfl, fun _ h => h⟩, fun _ h => h.elim⟩
      · intro wF EF v10 f10 h10 s10
        obtain ⟨rfl, -⟩ := h10
        have yF : Ext Non w4 wF := EF.ext0
        have bF : w4.heap.size ≤ wF.heap.size := yF.size
        have zF : Ext Non w wF := x04.trans yF
        (repeat ((conv => whnf); refine G.seq ?_))
        exact ⟨fun _ => False, ⟨rfl, fun _ h => h⟩, fun _ h => h.elim⟩
      · intro wF EF v10 f10 h10 s10 v11 f11 h11 s11
        obtain ⟨rfl, -⟩ := h10
        obtain ⟨rfl, -⟩ := h11
        have yF : Ext Non w4 wF := EF.ext0
        have bF : w4.heap.size ≤ wF.heap.size := yF.size
        have zF : Ext Non w wF := x04.trans yF
        (repeat ((conv => whnf); refine Cmp.df (by omega) ?_))
        (try refine Cmp.df (fun h => h rfl) ?_)
        (repeat ((conv => whnf); refine G.seq ?_))
        exact ⟨fun _ => False, ⟨rfl, fun _ h => h⟩, fun _ h => h.elim⟩
      · intro wF EF v10 f10 h10 s10 v12 f12 h12 s12
        obtain ⟨rfl, -⟩ := h10
        obtain ⟨rfl, -⟩ := h12
        have yF : Ext Non w4 wF := EF.ext0
        have bF : w4.heap.size ≤ wF.heap.size := yF.size
        have zF : Ext Non w wF := x04.trans yF
        (repeat ((conv => whnf); refine G.seq ?_))
        exact ⟨fun _ => False, ⟨rfl, fun _ h => h⟩, fun _ h => h.elim⟩
      · intro wF EF v13 f13 h13 s13
        obtain ⟨rfl, -⟩ := h13
        have yF : Ext Non w4 wF := EF.ext0
        have bF : w4.heap.size ≤ wF.heap.size := yF.size
        have zF : Ext Non w wF := x04.trans yF
        exact ⟨fun _ => False, ⟨rfl, fun _ h => h⟩, fun _ h => h.elim⟩
      · intro wF EF v13 f13 h13 s13
        obtain ⟨rfl, -⟩ := h13
        have yF : Ext Non w4 wF := EF.ext0
        have bF : w4.heap.size ≤ wF.heap.size := yF.size
        have zF : Ext Non w wF := x04.trans yF
        exact ⟨fun _ => False, ⟨rfl, fun _ h => h⟩, fun _ h => h.elim⟩
      · intro wF EF v13 f13 h13 s13
        obtain ⟨rfl, -⟩ := h13
        have yF : Ext Non w4 wF := EF.ext0
        have bF : w4.heap.size ≤ wF.heap.size := yF.size
        have zF : Ext Non w wF := x04.trans yF
        exact ⟨fun _ => False, ⟨rfl, fun _ h => h⟩, fun _ h => h.elim⟩
      · intro wF EF v16 f16 h16 s16
        obtain ⟨rfl, -⟩ := h16
        have yF : Ext Non w4 wF := EF.ext0
        have bF : w4.heap.size ≤ wF.heap.size := yF.size
        have zF : Ext Non w wF := x04.trans yF
        exact ⟨fun _ => False, ⟨rfl, fun _ h => h⟩, fun _ h => h.elim⟩
      · intro wF EF v16 f16 h16 s16
        obtain ⟨rfl, -⟩ := h16
        have yF : Ext Non w4 wF := EF.ext0
        have bF : w4.heap.size ≤ wF.heap.size := yF.size
        have zF : Ext Non w wF := x04.trans yF
        exact ⟨fun _ => False, ⟨rfl, fun _ h => h⟩, fun _ h => h.elim⟩
      · intro wF EF v16 f16 h16 s16
        obtain ⟨rfl, -⟩ := h16
        have yF : Ext Non w4 wF := EF.ext0
        have bF : w4.heap.size ≤ wF.heap.size := yF.size
        have zF : Ext Non w wF := x04.trans yF
        exact ⟨fun _ => False, ⟨rfl, fun _ h => h⟩, fun _ h => h.elim⟩
      · intro wF EF v13 f13 h13 s13
        obtain ⟨rfl, -⟩ := h13
        have yF : Ext Non w4 wF := EF.ext0
        have bF : w4.heap.size ≤ wF.heap.size := yF.size
        have zF : Ext Non w wF := x04.trans yF
        exact ⟨fun _ => False, ⟨rfl, fun _ h => h⟩, fun _ h => h.elim⟩
      · intro wF EF v10 f10 h10 s10 v13 f13 h13 s13 v20 f20 h20 s20
        obtain ⟨rfl, -⟩ := h10
        obtain ⟨rfl, -⟩ := h13
        obtain ⟨rfl, -⟩ := h20
        have yF : Ext Non w4 wF := EF.ext0
        have bF : w4.heap.size ≤ wF.heap.size := yF.size
        have zF : Ext Non w wF := x04.trans yF
        (repeat ((conv => whnf); refine G.seq ?_))
        exact ⟨fun _ => False, ⟨rfl, fun _ h => h⟩, fun _ h => h.elim⟩
      · intro wF EF v10 f10 h10 s10 v21 f21 h21 s21
        obtain ⟨rfl, -⟩ := h10
        obtain ⟨rfl, -⟩ := h21
        have yF : Ext Non w4 wF := EF.ext0
        have bF : w4.heap.size ≤ wF.heap.size := yF.size
        have zF : Ext Non w wF := x04.trans yF
        (repeat ((conv => whnf); refine G.seq ?_))
        exact ⟨fun _ => False, ⟨rfl, fun _ h => h⟩, fun _ h => h.elim⟩
      intro wE EE v22 f22 h22 s22
      obtain ⟨rfl, -⟩ := h22
      have yE : Ext Non w4 wE := EE.ext0
      have bE : w4.heap.size ≤ wE.heap.size := yE.size
      have zE : Ext Non w wE := x04.trans yE
      (repeat ((conv => whnf); first | refine G.cond_f rfl ?_ | refine G.skip ?_))
      exact ⟨⟨rfl, rfl, rfl, trivial⟩, yE⟩
    · have hk' : okN raw = false := by simpa using hk
      have e1 : errN raw = 4 := by rw [errN, if_neg hk]
      have e2 : resN raw = noNode := by rw [resN, if_neg hk]
      have z264 : (ncs noNode).length = 264 := by kernel_rfl
      rw [e2] at h4
      rw [e1, e2]
      (repeat ((conv => whnf); refine G.seq ?_))
      refine G.flow2 cxOk Non (Up w4 Non) undef (fun _ => False) [Fl.is (.int .i64 4), Fl.is (.bool false), Fl.is (.bool false), Fl.is undef, Fl.is undef, Fl.is undef, Fl.is undef, Fl.is undef, Fl.is undef, Fl.is (.bool false), Fl.is (.bool false), Fl.is (.int .i64 4), Fl.is (.bool true), Fl.is (.bool true), Fl.is (.int .i64 4), Fl.is (.bool false), Fl.is (.bool false), Fl.is (.agg (ncs noNode).toArray), Fl.is (.agg (ncs noNode).toArray), Fl.is (.bool false), Fl.is (.bool false), Fl.is (.bool false), Fl.is (.bool false)] [[], [(0, false)], [(1, false)], [(2, false)], [(2, false)], [(2, false)], [(2, false)], [(2, false)], [(2, false)], [(2, false), (8, false)], [(9, false)], [(10, false)], [(10, false), (11, false)], [(10, false), (12, false)], [(13, false)], [(13, false), (14, false)], [(13, false), (15, false)], [(16, false)], [(16, false)], [(16, false), (17, false), (18, false)], [(13, false), (16, false), (19, false)], [(10, false), (13, false), (20, false)], [(10, false), (21, false)]] [22] (fun b h => .inl h) (fun _ h => h.elim) ⟨True.intro, fun _ h => h.elim⟩ (by kernel_rfl) (by kernel_rfl) (by kernel_rfl) ⟨?_, ?_, ?_, ?_, ?_, ?_, ?_, ?_, ?_, ?_, ?_, ?_, ?_, ?_, ?_, ?_, ?_, ?_, ?_, ?_, ?_, ?_, ?_, trivial⟩ ?_
      · intro wF EF 
        have yF : Ext Non w4 wF := EF.ext0
        have bF : w4.heap.size ≤ wF.heap.size := yF.size
        have zF : Ext Non w wF := x04.trans yF
        (repeat ((conv => whnf); refine G.seq ?_))
        exact ⟨fun _ => False, ⟨rfl, fun _ h => h⟩, fun _ h => h.elim⟩
      · intro wF EF v0 f0 h0 s0
        obtain ⟨rfl, -⟩ := h0
        have yF : Ext Non w4 wF := EF.ext0
        have bF : w4.heap.size ≤ wF.heap.size := yF.size
        have zF : Ext Non w wF := x04.trans yF
        (repeat ((conv => whnf); refine Cmp.df (by omega) ?_))
        exact ⟨fun _ => False, ⟨rfl, fun _ h => h⟩, fun _ h => h.elim⟩
      · intro wF EF v1 f1 h1 s1
        obtain ⟨rfl, -⟩ := h1
        have yF : Ext Non w4 wF := EF.ext0
        have bF : w4.heap.size ≤ wF.heap.size := yF.size
        have zF : Ext Non w wF := x04.trans yF
        (repeat ((conv => whnf); refine G.seq ?_))
        exact ⟨fun _ => False, ⟨rfl, fun _ h => h⟩, fun _ h => h.elim⟩
      · intro wF EF v2 f2 h2 s2
        obtain ⟨rfl, -⟩ := h2
        have yF : Ext Non w4 wF := EF.ext0
        have bF : w4.heap.size ≤ wF.heap.size := yF.size
        have zF : Ext Non w wF := x04.trans yF
        exact ⟨fun _ => False, ⟨rfl, fun _ h => h⟩, fun _ h => h.elim⟩
      · intro wF EF v2 f2 h2 s2
        obtain ⟨rfl, -⟩ := h2
        have yF : Ext Non w4 wF := EF.ext0
        have bF : w4.heap.size ≤ wF.heap.size := yF.size
        have zF : Ext Non w wF := x04.trans yF
        exact ⟨fun _ => False, ⟨rfl, fun _ h => h⟩, fun _ h => h.elim⟩
      · intro wF EF v2 f2 h2 s2
        obtain ⟨rfl, -⟩ := h2
        have yF : Ext Non w4 wF := EF.ext0
        have bF : w4.heap.size ≤ wF.heap.size := yF.size
        have zF : Ext Non w wF := x04.trans yF
        exact ⟨fun _ => False, ⟨rfl, fun _ h => h⟩, fun _ h => h.elim⟩
      · intro wF EF v2 f2 h2 s2
        obtain ⟨rfl, -⟩ := h2
        have yF : Ext Non w4 wF := EF.ext0
        have bF : w4.heap.size ≤ wF.heap.size := yF.size
        have zF : Ext Non w wF := x04.trans yF
        exact ⟨fun _ => False, ⟨rfl, fun _ h => h⟩, fun _ h => h.elim⟩
      · intro wF EF v2 f2 h2 s2
        obtain ⟨rfl, -⟩ := h2
        have yF : Ext Non w4 wF := EF.ext0
        have bF : w4.heap.size ≤ wF.heap.size := yF.size
        have zF : Ext Non w wF := x04.trans yF
        exact ⟨fun _ => False, ⟨rfl, fun _ h => h⟩, fun _ h => h.elim⟩
      · intro wF EF v2 f2 h2 s2
        obtain ⟨rfl, -⟩ := h2
        have yF : Ext Non w4 wF := EF.ext0
        have bF : w4.heap.size ≤ wF.heap.size := yF.size
        have zF : Ext Non w wF := x04.trans yF
        exact ⟨fun _ => False, ⟨rfl, fun _ h => h⟩, fun _ h => h.elim⟩
      · intro wF EF v2 f2 h2 s2 v8 f8 h8 s8
        obtain ⟨rfl, -⟩ := h2
        obtain ⟨rfl, -⟩ := h8
        have yF : Ext Non w4 wF := EF.ext0
        have bF : w4.heap.size ≤ wF.heap.size := yF.size
        have zF : Ext Non w wF := x04.trans yF
        (repeat ((conv => whnf); refine G.seq ?_))
        exact ⟨fun _ => False, ⟨rfl, fun _ h => h⟩, fun _ h => h.elim⟩
      · intro wF EF v9 f9 h9 s9
        obtain ⟨rfl, -⟩ := h9
        have yF : Ext Non w4 wF := EF.ext0
        have bF : w4.heap.size ≤ wF.heap.size := yF.size
        have zF : Ext Non w wF := x04.trans yF
        (repeat ((conv => whnf); refine G.seq ?_))
        exact ⟨fun _ => False, ⟨rfl, fun _ h => h⟩, fun _ h => h.elim⟩
      · intro wF EF v10 f10 h10 s10
        obtain ⟨rfl, -⟩ := h10
        have yF : Ext Non w4 wF := EF.ext0
        have bF : w4.heap.size ≤ wF.heap.size := yF.size
        have zF : Ext Non w wF := x04.trans yF
        (repeat ((conv => whnf); refine G.seq ?_))
        exact ⟨fun _ => False, ⟨rfl, fun _ h => h⟩, fun _ h => h.elim⟩
      · intro wF EF v10 f10 h10 s10 v11 f11 h11 s11
        obtain ⟨rfl, -⟩ := h10
        obtain ⟨rfl, -⟩ := h11
        have yF : Ext Non w4 wF := EF.ext0
        have bF : w4.heap.size ≤ wF.heap.size := yF.size
        have zF : Ext Non w wF := x04.trans yF
        (repeat ((conv => whnf); refine Cmp.dt (by (omega)) ?_))
        exact ⟨fun _ => False, ⟨rfl, fun _ h => h⟩, fun _ h => h.elim⟩
      · intro wF EF v10 f10 h10 s10 v12 f12 h12 s12
        obtain ⟨rfl, -⟩ := h10
        obtain ⟨rfl, -⟩ := h12
        have yF : Ext Non w4 wF := EF.ext0
        have bF : w4.heap.size ≤ wF.heap.size := yF.size
        have zF : Ext Non w wF := x04.trans yF
        (repeat ((conv => whnf); refine G.seq ?_))
        exact ⟨fun _ => False, ⟨rfl, fun _ h => h⟩, fun _ h => h.elim⟩
      · intro wF EF v13 f13 h13 s13
        obtain ⟨rfl, -⟩ := h13
        have yF : Ext Non w4 wF := EF.ext0
        have bF : w4.heap.size ≤ wF.heap.size := yF.size
        have zF : Ext Non w wF := x04.trans yF
        (repeat ((conv => whnf); refine G.seq ?_))
        exact ⟨fun _ => False, ⟨rfl, fun _ h => h⟩, fun _ h => h.elim⟩
      · intro wF EF v13 f13 h13 s13 v14 f14 h14 s14
        obtain ⟨rfl, -⟩ := h13
        obtain ⟨rfl, -⟩ := h14
        have yF : Ext Non w4 wF := EF.ext0
        have bF : w4.heap.size ≤ wF.heap.size := yF.size
        have zF : Ext Non w wF := x04.trans yF
        (repeat ((conv => whnf); refine Cmp.df (by omega) ?_))
        (try refine Cmp.df (fun h => h rfl) ?_)
        (repeat ((conv => whnf); refine G.seq ?_))
        exact ⟨fun _ => False, ⟨rfl, fun _ h => h⟩, fun _ h => h.elim⟩
      · intro wF EF v13 f13 h13 s13 v15 f15 h15 s15
        obtain ⟨rfl, -⟩ := h13
        obtain ⟨rfl, -⟩ := h15
        have yF : Ext Non w4 wF := EF.ext0
        have bF : w4.heap.size ≤ wF.heap.size := yF.size
        have zF : Ext Non w wF := x04.trans yF
        (repeat ((conv => whnf); refine G.seq ?_))
        exact ⟨fun _ => False, ⟨rfl, fun _ h => h⟩, fun _ h => h.elim⟩
      · intro wF EF v16 f16 h16 s16
        obtain ⟨rfl, -⟩ := h16
        have yF : Ext Non w4 wF := EF.ext0
        have bF : w4.heap.size ≤ wF.heap.size := yF.size
        have zF : Ext Non w wF := x04.trans yF
        (repeat ((conv => whnf); refine G.seq ?_))
        refine RdA.whole (h4.ext yF (fun x => x)) z264 (by first | trivial | exact fun x => x) ?_
        (repeat ((conv => whnf); refine G.seq ?_))
        exact ⟨fun _ => False, ⟨rfl, fun _ h => h⟩, fun _ h => h.elim⟩
      · intro wF EF v16 f16 h16 s16
        obtain ⟨rfl, -⟩ := h16
        have yF : Ext Non w4 wF := EF.ext0
        have bF : w4.heap.size ≤ wF.heap.size := yF.size
        have zF : Ext Non w wF := x04.trans yF
        (repeat ((conv => whnf); refine @Ev.keep (List Value) _ _ ?_))
        exact ⟨fun _ => False, ⟨by kernel_rfl, fun _ h => h⟩, fun _ h => h.elim⟩
      · intro wF EF v16 f16 h16 s16 v17 f17 h17 s17 v18 f18 h18 s18
        obtain ⟨rfl, -⟩ := h16
        obtain ⟨rfl, -⟩ := h17
        obtain ⟨rfl, -⟩ := h18
        have yF : Ext Non w4 wF := EF.ext0
        have bF : w4.heap.size ≤ wF.heap.size := yF.size
        have zF : Ext Non w wF := x04.trans yF
        (repeat ((conv => whnf); refine G.seq ?_))
        refine Eqv.nodeT noNode_ok rfl rfl ?_
        exact ⟨fun _ => False, ⟨rfl, fun _ h => h⟩, fun _ h => h.elim⟩
      · intro wF EF v13 f13 h13 s13 v16 f16 h16 s16 v19 f19 h19 s19
        obtain ⟨rfl, -⟩ := h13
        obtain ⟨rfl, -⟩ := h16
        obtain ⟨rfl, -⟩ := h19
        have yF : Ext Non w4 wF := EF.ext0
        have bF : w4.heap.size ≤ wF.heap.size := yF.size
        have zF : Ext Non w wF := x04.trans yF
        (repeat ((conv => whnf); refine G.seq ?_))
        exact ⟨fun _ => False, ⟨rfl, fun _ h => h⟩, fun _ h => h.elim⟩
      · intro wF EF v10 f10 h10 s10 v13 f13 h13 s13 v20 f20 h20 s20
        obtain ⟨rfl, -⟩ := h10
        obtain ⟨rfl, -⟩ := h13
        obtain ⟨rfl, -⟩ := h20
        have yF : Ext Non w4 wF := EF.ext0
        have bF : w4.heap.size ≤ wF.heap.size := yF.size
        have zF : Ext Non w wF := x04.trans yF
        (repeat ((conv => whnf); refine G.seq ?_))
        exact ⟨fun _ => False, ⟨rfl, fun _ h => h⟩, fun _ h => h.elim⟩
      · intro wF EF v10 f10 h10 s10 v21 f21 h21 s21
        obtain ⟨rfl, -⟩ := h10
        obtain ⟨rfl, -⟩ := h21
        have yF : Ext Non w4 wF := EF.ext0
        have bF : w4.heap.size ≤ wF.heap.size := yF.size
        have zF : Ext Non w wF := x04.trans yF
        (repeat ((conv => whnf); refine G.seq ?_))
        exact ⟨fun _ => False, ⟨rfl, fun _ h => h⟩, fun _ h => h.elim⟩
      intro wE EE v22 f22 h22 s22
      obtain ⟨rfl, -⟩ := h22
      have yE : Ext Non w4 wE := EE.ext0
      have bE : w4.heap.size ≤ wE.heap.size := yE.size
      have zE : Ext Non w wE := x04.trans yE
      (repeat ((conv => whnf); first | refine G.cond_f rfl ?_ | refine G.skip ?_))
      exact ⟨⟨rfl, rfl, rfl, trivial⟩, yE⟩
  rintro l' w5 ⟨hs, x45⟩
  refine G.weak _ hs ?_
  clear hs h4 hlenM hok
  have x05 := x04.trans x45
  have hn5 := hn4.ext x45 (fun x => x)
  clear hn4
  (repeat ((conv => whnf); first | refine G.seq ?_ | refine G.region cxOk ?_ | refine G.block ?_))
  refine G.loop (α := Nat) (fun i => [(1, .slice A raw.length c), (2, .pointer (some ⟨nb, 0, none⟩)), (39, .bool false), (7, .bool ((n.take i).all goodR)), (8, .bool (emptyN (n.take i))), (9, .int .i64 (i : Int))])
    (fun i w' => i ≤ 8 ∧ w' = w5) (fun i => 8 - i) 0 ⟨rfl, rfl, rfl, rfl, rfl, rfl, trivial⟩ ⟨Nat.zero_le _, rfl⟩ ?_
  rintro i w6 ⟨hi, rfl⟩
  (repeat ((conv => whnf); first | refine G.seq ?_ | refine G.region cxOk ?_))
  refine Cmp.ds (fun hlt => ?_) (fun hge => ?_)
  · have hi8 : i < n.length := by rw [hn.len]; omega
    have hmt : (n.take (i + 1)).all goodR = ((n.take i).all goodR && goodR n[i]) := by
      rw [List.take_succ_eq_append_getElem hi8, List.all_append]
      simp
    have het := empty_take hi8
    have hrk := hn.each _ (List.getElem_mem hi8)
    have hg := fun j (hj : j < 33) => ncs_get hn.each hi8 hj
    generalize n[i] = r at *
    have hr2 := hrk.len
    have g0 : w6.cell? ⟨nb, i * 33, none⟩ = some (.int .u32 (r.1 : Int)) := hn5.cell (hg 0 (by decide))
    have hrd : ∀ j (hj : j < (nv r).length), w6.cell? ⟨nb, i * 33 + j, none⟩ = some (nv r)[j] := fun j hj => by
      rw [nv_length hr2] at hj
      exact hn5.cell (by rw [hg j hj]; exact List.getElem?_eq_getElem _)
    cases hm : (n.take i).all goodR <;> cases he : emptyN (n.take i)
    · (repeat ((conv => whnf); first | refine G.seq ?_ | refine G.region cxOk ?_ | refine G.block ?_ | refine G.cond_t rfl ?_ | refine G.skip ?_ | ((with_reducible refine Ev.mk _ (IntWalk.i64_in _ ?_) ?_; · omega))))
      exact ⟨i + 1, ⟨rfl, rfl, rfl, by rw [hmt, hm]; rfl, by rw [het, he]; rfl, rfl, trivial⟩, ⟨by omega, rfl⟩, by omega⟩
    · by_cases h0 : r.1 = 0
      · have h0' : (r.1 : Int) = 0 := by omega
        (repeat ((conv => whnf); first | refine G.seq ?_ | refine G.region cxOk ?_ | refine G.block ?_ | refine G.cond_t rfl ?_ | refine G.skip ?_))
        refine Ix.mk nb 0 (i * 33) rfl (by omega) (by show 0 + (i : Int).toNat * 33 = _; omega) ?_
        (repeat ((conv => whnf); first | refine G.region cxOk ?_ | refine Cmp.dt (by (omega)) ?_ | ((with_reducible refine Ev.mk _ (IntWalk.i64_in _ ?_) ?_; · omega)) | refine Rd.mk _ (by assumption) (by (exact trivial)) ?_))
        (first | refine Cmp.dt h0' ?_ | refine Cmp.df h0' ?_ | skip)
        (repeat ((conv => whnf); refine G.seq ?_))
        exact ⟨i + 1, ⟨rfl, rfl, rfl, by rw [hmt, hm]; rfl, by rw [het, he, decide_eq_true h0]; rfl, rfl, trivial⟩, ⟨by omega, rfl⟩, by omega⟩
      · have h0' : ¬ (r.1 : Int) = 0 := by omega
        (repeat ((conv => whnf); first | refine G.seq ?_ | refine G.region cxOk ?_ | refine G.block ?_ | refine G.cond_t rfl ?_ | refine G.skip ?_))
        refine Ix.mk nb 0 (i * 33) rfl (by omega) (by show 0 + (i : Int).toNat * 33 = _; omega) ?_
        (repeat ((conv => whnf); first | refine G.region cxOk ?_ | refine Cmp.df (by omega) ?_ | ((with_reducible refine Ev.mk _ (IntWalk.i64_in _ ?_) ?_; · omega)) | refine Rd.mk _ (by assumption) (by (exact trivial)) ?_))
        (first | refine Cmp.dt h0' ?_ | refine Cmp.df h0' ?_ | skip)
        (repeat ((conv => whnf); refine G.seq ?_))
        exact ⟨i + 1, ⟨rfl, rfl, rfl, by rw [hmt, hm]; rfl, by rw [het, he, decide_eq_false h0]; rfl, rfl, trivial⟩, ⟨by omega, rfl⟩, by omega⟩
    · (repeat ((conv => whnf); first | refine G.seq ?_ | refine G.region cxOk ?_ | refine G.block ?_ | refine G.cond_t rfl ?_ | refine G.skip ?_))
      refine Ix.mk nb 0 (i * 33) rfl (by omega) (by show 0 + (i : Int).toNat * 33 = _; omega) ?_
      by_cases h0 : r.1 = 0
      · have h0' : (r.1 : Int) = 0 := by omega
        (repeat ((conv => whnf); first | refine Cmp.df (by omega) ?_ | refine Rd.mk _ (by assumption) (by (exact trivial)) ?_))
        (first | refine Cmp.df (fun h => h h0') ?_ | skip)
        (repeat ((conv => whnf); refine G.seq ?_))
        refine Ix.mk nb 0 (i * 33) rfl (by omega) (by show 0 + (i : Int).toNat * 33 = _; omega) ?_
        (repeat ((conv => whnf); refine G.seq ?_))
        refine RdA.of (nv r) hrd (nv_length hr2) trivial ?_
        (repeat ((conv => whnf); refine @Ev.keep (List Value) _ _ ?_))
        refine Eqv.ref (r := r) (q := noRef) hr2 rfl rfl rfl ?_
        by_cases h1 : r = noRef
        · rw [decide_eq_true h1]
          (repeat ((conv => whnf); first | refine G.region cxOk ?_ | ((with_reducible refine Ev.mk _ (IntWalk.i64_in _ ?_) ?_; · omega))))
          exact ⟨i + 1, ⟨rfl, rfl, rfl, by rw [hmt, hm, show goodR r = true from decide_eq_true (.inr h1)]; rfl, by rw [het, he]; rfl, rfl, trivial⟩, ⟨by omega, rfl⟩, by omega⟩
        · rw [decide_eq_false h1]
          (repeat ((conv => whnf); first | refine G.region cxOk ?_ | ((with_reducible refine Ev.mk _ (IntWalk.i64_in _ ?_) ?_; · omega))))
          exact ⟨i + 1, ⟨rfl, rfl, rfl, by rw [hmt, hm, show goodR r = false from decide_eq_false (fun h => h.elim (fun h => h h0) h1)]; rfl, by rw [het, he]; rfl, rfl, trivial⟩, ⟨by omega, rfl⟩, by omega⟩
      · have h0' : ¬ (r.1 : Int) = 0 := by omega
        (repeat ((conv => whnf); first | refine G.region cxOk ?_ | refine Cmp.dt (by (omega)) ?_ | ((with_reducible refine Ev.mk _ (IntWalk.i64_in _ ?_) ?_; · omega)) | refine Rd.mk _ (by assumption) (by (exact trivial)) ?_))
        (first | refine Cmp.dt h0' ?_ | skip)
        (repeat ((conv => whnf); refine G.seq ?_))
        exact ⟨i + 1, ⟨rfl, rfl, rfl, by rw [hmt, hm, show goodR r = true from decide_eq_true (.inl h0)]; rfl, by rw [het, he]; rfl, rfl, trivial⟩, ⟨by omega, rfl⟩, by omega⟩
    · (repeat ((conv => whnf); first | refine G.seq ?_ | refine G.region cxOk ?_ | refine G.block ?_ | refine G.cond_t rfl ?_ | refine G.skip ?_))
      refine Ix.mk nb 0 (i * 33) rfl (by omega) (by show 0 + (i : Int).toNat * 33 = _; omega) ?_
      by_cases h0 : r.1 = 0
      · have h0' : (r.1 : Int) = 0 := by omega
        (repeat ((conv => whnf); first | refine Cmp.df (by omega) ?_ | refine Rd.mk _ (by assumption) (by (exact trivial)) ?_))
        (first | refine Cmp.df (fun h => h h0') ?_ | skip)
        (repeat ((conv => whnf); refine G.seq ?_))
        refine Ix.mk nb 0 (i * 33) rfl (by omega) (by show 0 + (i : Int).toNat * 33 = _; omega) ?_
        (repeat ((conv => whnf); refine G.seq ?_))
        refine RdA.of (nv r) hrd (nv_length hr2) trivial ?_
        (repeat ((conv => whnf); refine @Ev.keep (List Value) _ _ ?_))
        refine Eqv.ref (r := r) (q := noRef) hr2 rfl rfl rfl ?_
        by_cases h1 : r = noRef
        · rw [decide_eq_true h1]
          (repeat ((conv => whnf); refine G.region cxOk ?_))
          refine Ix.mk nb 0 (i * 33) rfl (by omega) (by show 0 + (i : Int).toNat * 33 = _; omega) ?_
          (repeat ((conv => whnf); first | refine G.region cxOk ?_ | refine Cmp.dt (by (omega)) ?_ | ((with_reducible refine Ev.mk _ (IntWalk.i64_in _ ?_) ?_; · omega)) | refine Rd.mk _ (by assumption) (by (exact trivial)) ?_))
          (first | refine Cmp.dt h0' ?_ | refine Cmp.df h0' ?_ | skip)
          (repeat ((conv => whnf); refine G.seq ?_))
          exact ⟨i + 1, ⟨rfl, rfl, rfl, by rw [hmt, hm, show goodR r = true from decide_eq_true (.inr h1)]; rfl, by rw [het, he, decide_eq_true h0]; rfl, rfl, trivial⟩, ⟨by omega, rfl⟩, by omega⟩
        · rw [decide_eq_false h1]
          (repeat ((conv => whnf); refine G.region cxOk ?_))
          refine Ix.mk nb 0 (i * 33) rfl (by omega) (by show 0 + (i : Int).toNat * 33 = _; omega) ?_
          (repeat ((conv => whnf); first | refine G.region cxOk ?_ | refine Cmp.dt (by (omega)) ?_ | ((with_reducible refine Ev.mk _ (IntWalk.i64_in _ ?_) ?_; · omega)) | refine Rd.mk _ (by assumption) (by (exact trivial)) ?_))
          (first | refine Cmp.dt h0' ?_ | refine Cmp.df h0' ?_ | skip)
          (repeat ((conv => whnf); refine G.seq ?_))
          exact ⟨i + 1, ⟨rfl, rfl, rfl, by rw [hmt, hm, show goodR r = false from decide_eq_false (fun h => h.elim (fun h => h h0) h1)]; rfl, by rw [het, he, decide_eq_true h0]; rfl, rfl, trivial⟩, ⟨by omega, rfl⟩, by omega⟩
      · have h0' : ¬ (r.1 : Int) = 0 := by omega
        (repeat ((conv => whnf); first | refine G.region cxOk ?_ | refine Cmp.dt (by (omega)) ?_ | refine Rd.mk _ (by assumption) (by (exact trivial)) ?_))
        (first | refine Cmp.dt h0' ?_ | skip)
        (repeat ((conv => whnf); refine G.seq ?_))
        refine Ix.mk nb 0 (i * 33) rfl (by omega) (by show 0 + (i : Int).toNat * 33 = _; omega) ?_
        (repeat ((conv => whnf); first | refine G.region cxOk ?_ | refine Cmp.df (by omega) ?_ | ((with_reducible refine Ev.mk _ (IntWalk.i64_in _ ?_) ?_; · omega)) | refine Rd.mk _ (by assumption) (by (exact trivial)) ?_))
        (first | refine Cmp.dt h0' ?_ | refine Cmp.df h0' ?_ | skip)
        (repeat ((conv => whnf); refine G.seq ?_))
        exact ⟨i + 1, ⟨rfl, rfl, rfl, by rw [hmt, hm, show goodR r = true from decide_eq_true (.inl h0)]; rfl, by rw [het, he, decide_eq_false h0]; rfl, rfl, trivial⟩, ⟨by omega, rfl⟩, by omega⟩
  · obtain rfl : i = 8 := by omega
    rw [List.take_of_length_le (by rw [hn.len]; exact Nat.le_refl _)]
    have hP := NodePut_ret hn
    have hokp := ok_put hn
    have hpl : (putN n).length = 288 := by rw [putN_length hn.each, hn.len]
    have hEm := NodeEmpty_ret hn
    have hnn := @Eqv.nodeT
    generalize emptyN n = em at *
    obtain ⟨CN, hCN⟩ : ∃ C, ncs n = C := ⟨_, rfl⟩
    rw [hCN] at hn5 hlen hP hEm
    have hresP : resN (putN n) = if n.all goodR = true then n else noNode := by
      rw [resN, hokp, parse_put hn]
    have herrP : errN (putN n) = if n.all goodR = true then 0 else 4 := by rw [errN, hokp]
    have hgood := resN_ok (putN n)
    have hlenP : (ncs (resN (putN n))).length = 264 := by rw [ncs_length hgood.each, hgood.len]
    have tG := fun A c w h1 h2 h3 => NodeGet_ret (A := A) (c := c) (b := putN n) (w := w) h1 h2 h3 (by omega)
    generalize resN (putN n) = RN at *
    generalize errN (putN n) = EN at *
    generalize putN n = P at *
    (repeat ((conv => whnf); first | refine G.seq ?_ | refine G.region cxOk ?_ | refine G.cond_f rfl ?_ | refine G.exit ?_))
    refine RdA.whole hn5 hlen trivial ?_
    (repeat ((conv => whnf); refine G.seq ?_))
    refine Cl.mk (hP w6) ?_
    rintro v w7 ⟨o7, x7⟩
    obtain ⟨A7, c7, rfl, hl7, hcl7, hb7⟩ := OB.form o7
    (repeat ((conv => whnf); refine G.seq ?_))
    refine Cl.mk (tG A7 c7 w7 hcl7 hl7 (fun k hk => OS.lt o7 (blkOf_of hk))) ?_
    clear tG
    rintro v w8 ⟨rfl, x8⟩
    obtain ⟨CR, hCR⟩ : ∃ C, ncs RN = C := ⟨_, rfl⟩
    rw [hCR] at hlenP ⊢
    (repeat ((conv => whnf); refine G.seq ?_))
    refine Al.mk fun xb w9 hN9 => ?_
    (repeat ((conv => whnf); refine G.seq ?_))
    refine Nd.mk (by rw [List.size_toArray, hlenP]; rfl) ?_
    refine StA.all (vs := CR) hN9.at_ (by rw [hlenP]; rfl) (by rw [← hCR]; exact one_ncs _) trivial fun wA hA' xA => ?_
    have x6A : Ext Non w6 wA := Ext.own ((x7.trans x8).trans hN9.ext) xA (Nat.le_trans (x7.trans x8).size hN9.ge)
    have x0A := x05.trans x6A
    have hnA := hn5.ext x6A (fun x => x)
    have tE := hEm wA
    cases hm : n.all goodR
    · rw [hm, if_neg (by decide)] at herrP
      subst herrP
      (repeat ((conv => whnf); first | refine G.seq ?_ | refine G.region cxOk ?_ | refine Cmp.dt (by (first | (with_reducible rfl) | omega)) ?_ | refine Cmp.df (by omega) ?_))
      (first | refine Cmp.t rfl ?_ | skip)
      (repeat ((conv => whnf); refine G.seq ?_))
      refine RdA.whole hnA hlen trivial ?_
      (repeat ((conv => whnf); refine G.seq ?_))
      refine Cl.mk tE ?_
      rintro v wB ⟨rfl, xB⟩
      (repeat ((conv => whnf); refine Cmp.dt (by (first | (with_reducible rfl) | omega)) ?_))
      refine Cl.mk (awake15_ret wB (hR.non (x0A.trans xB))) ?_
      rintro v wC ⟨rfl, xC⟩
      (repeat ((conv => whnf); refine G.ret ?_))
      exact Don.mk ⟨rfl, (x0A.trans xB).trans xC⟩
    · rw [hm, if_pos rfl] at herrP hresP
      subst herrP hresP
      (repeat ((conv => whnf); first | refine G.seq ?_ | refine G.region cxOk ?_ | refine Cmp.dt (by (first | (with_reducible rfl) | omega)) ?_))
      (first | refine Cmp.t rfl ?_ | skip)
      (repeat ((conv => whnf); refine G.seq ?_))
      refine RdA.whole hA' hlenP trivial ?_
      (repeat ((conv => whnf); refine G.seq ?_))
      refine RdA.whole hnA hlen trivial ?_
      (repeat ((conv => whnf); refine G.seq ?_))
      refine Eqv.nodeT hn (by rw [hCR]) (by rw [hCN]) ?_
      (repeat ((conv => whnf); refine G.seq ?_))
      refine RdA.whole hnA hlen trivial ?_
      (repeat ((conv => whnf); refine G.seq ?_))
      refine Cl.mk tE ?_
      rintro v wB ⟨rfl, xB⟩
      (repeat ((conv => whnf); refine Cmp.dt (by (first | (with_reducible rfl) | omega)) ?_))
      refine Cl.mk (awake15_ret wB (hR.non (x0A.trans xB))) ?_
      rintro v wC ⟨rfl, xC⟩
      (repeat ((conv => whnf); refine G.ret ?_))
      exact Don.mk ⟨rfl, (x0A.trans xB).trans xC⟩
end Go.Proofs.YtmoebdncmcigaaaDoor

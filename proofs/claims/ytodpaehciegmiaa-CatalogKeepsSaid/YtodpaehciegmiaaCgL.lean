import Derived.Test.YtodpaehciegmiaaCgK
import Derived.Test.YtodpaehciegmiaaCg9
import Derived.Test.YtodpaehciegmiaaOP
import Derived.Test.YtodpaehciegmiaaCgC
import Derived.Test.YtodpaehciegmiaaCgG

/-
  The catalog, the names and the trees that CatalogKeeps holds, in memory.
-/





namespace Go.Proofs.Ytodpaehciegmiaa

open Go Sx

set_option linter.unusedVariables false

set_option linter.unusedSimpArgs false

set_option maxRecDepth 100000

def kNm (P : List NSnap) : List Value := P.map fun p => .string p.1
def kRf (P : List NSnap) : List Value := P.flatMap fun p => nv p.2
theorem one_kNm (P : List NSnap) : ∀ v ∈ kNm P, v.oneCell' = true := fun v hv => by
  obtain ⟨x, _, rfl⟩ := List.mem_map.1 hv
  rfl
theorem one_kRf (P : List NSnap) : ∀ v ∈ kRf P, v.oneCell' = true := fun v hv => by
  obtain ⟨x, _, hx⟩ := List.mem_flatMap.1 hv
  exact one_nv _ v hx
theorem kRf_snoc (P : List NSnap) (s : ByteArray) (t : NRef) : kRf (P ++ [(s, t)]) = kRf P ++ nv t := by simp [kRf]
theorem kNm_snoc (P : List NSnap) (s : ByteArray) (t : NRef) : kNm (P ++ [(s, t)]) = kNm P ++ [.string s] := by simp [kNm]

theorem CatAt.extK {w w' : World} {S : Nat → Prop} {t : NRef} {A : Option Addr} {c : Nat} {l : List NSnap} (h : CatAt w t A c l) (he : Ext S w w') (hS : ∀ k, inBlk A k → ¬ S k) : CatAt w' t A c l := ⟨h.top, h.snaps, h.row.ext he hS, h.cap⟩
structure KM (w : World) (base : Nat) (X : Nat → Prop) (cb : Nat) (vN vK : Value) (t : NRef) (l P : List NSnap) : Prop where
  row : ∃ A c, At w cb (nv t ++ [.slice A l.length c]) 29 (0, 0) ∧ CatAt w t A c l ∧ ∀ k, inBlk A k → k < w.heap.size ∧ ¬ X k ∧ ¬ blkOf vN k ∧ ¬ blkOf vK k
  nm : OP w base 9 1 vN P.length (kNm P)
  kp : OP w base 26 33 vK P.length (kRf P)
  bN : ∀ k, blkOf vN k → base ≤ k ∧ k < w.heap.size ∧ ¬ X k ∧ ¬ blkOf vK k
  bK : ∀ k, blkOf vK k → base ≤ k ∧ k < w.heap.size ∧ ¬ X k
  xcb : X cb
  ok : ∀ p ∈ P, RefOk p.2
theorem KM.ext {w w' : World} {base : Nat} {X S : Nat → Prop} {cb : Nat} {vN vK : Value} {t : NRef} {l P : List NSnap} (h : KM w base X cb vN vK t l P) (he : Ext S w w') (hS : ∀ k, k < w.heap.size → S k → X k ∧ k ≠ cb) : KM w' base X cb vN vK t l P := by
  obtain ⟨A, c, h1, h2, h3⟩ := h.row
  have hs := he.size
  refine ⟨⟨A, c, h1.ext he (fun e => (hS _ h1.lt e).2 rfl), h2.extK he (fun k hk e => (h3 k hk).2.1 (hS k (h3 k hk).1 e).1), fun k hk => ⟨Nat.lt_of_lt_of_le (h3 k hk).1 hs, (h3 k hk).2⟩⟩,
    h.nm.ext he (fun k hk e => (h.bN k hk).2.2.1 (hS k (h.bN k hk).2.1 e).1), h.kp.ext he (fun k hk e => (h.bK k hk).2.2 (hS k (h.bK k hk).2.1 e).1),
    fun k hk => ⟨(h.bN k hk).1, Nat.lt_of_lt_of_le (h.bN k hk).2.1 hs, (h.bN k hk).2.2⟩, fun k hk => ⟨(h.bK k hk).1, Nat.lt_of_lt_of_le (h.bK k hk).2.1 hs, (h.bK k hk).2.2⟩, h.xcb, h.ok⟩
theorem KM.non {w w' : World} {base : Nat} {X : Nat → Prop} {cb : Nat} {vN vK : Value} {t : NRef} {l P : List NSnap} (h : KM w base X cb vN vK t l P) (he : Ext Non w w') : KM w' base X cb vN vK t l P := h.ext he (fun _ _ x => x.elim)
theorem KM.mono {w : World} {base : Nat} {X X' : Nat → Prop} {cb : Nat} {vN vK : Value} {t : NRef} {l P : List NSnap} (h : KM w base X cb vN vK t l P) (hX : ∀ k, X' k → X k) (hc : X' cb) : KM w base X' cb vN vK t l P := by
  obtain ⟨A, c, h1, h2, h3⟩ := h.row
  exact ⟨⟨A, c, h1, h2, fun k hk => ⟨(h3 k hk).1, fun e => (h3 k hk).2.1 (hX k e), (h3 k hk).2.2⟩⟩, h.nm, h.kp, fun k hk => ⟨(h.bN k hk).1, (h.bN k hk).2.1, fun e => (h.bN k hk).2.2.1 (hX k e), (h.bN k hk).2.2.2⟩,
    fun k hk => ⟨(h.bK k hk).1, (h.bK k hk).2.1, fun e => (h.bK k hk).2.2 (hX k e)⟩, hc, h.ok⟩
/-- A new block beside all. -/
theorem KM.more {w w' : World} {base kb : Nat} {X : Nat → Prop} {cb : Nat} {vN vK : Value} {t : NRef} {l P : List NSnap} (h : KM w base X cb vN vK t l P) (he : Ext Non w w') (hk : w.heap.size ≤ kb) : KM w' base (fun k => X k ∨ k = kb) cb vN vK t l P := by
  obtain ⟨A, c, h1, h2, h3⟩ := h.row
  have hs := he.size
  refine ⟨⟨A, c, h1.ext he id, h2.ext he, fun k hk => ⟨Nat.lt_of_lt_of_le (h3 k hk).1 hs, fun e => e.elim (h3 k hk).2.1 (fun e => by have := (h3 k hk).1; omega), (h3 k hk).2.2⟩⟩, h.nm.non he, h.kp.non he,
    fun k hk => ⟨(h.bN k hk).1, Nat.lt_of_lt_of_le (h.bN k hk).2.1 hs, fun e => e.elim (h.bN k hk).2.2.1 (fun e => by have := (h.bN k hk).2.1; omega), (h.bN k hk).2.2.2⟩,
    fun k hk => ⟨(h.bK k hk).1, Nat.lt_of_lt_of_le (h.bK k hk).2.1 hs, fun e => e.elim (h.bK k hk).2.2 (fun e => by have := (h.bK k hk).2.1; omega)⟩, .inl h.xcb, h.ok⟩
/-- Another catalog in the box. -/
theorem KM.put {w w' : World} {base c' : Nat} {X : Nat → Prop} {cb : Nat} {vN vK : Value} {t t' : NRef} {l l' P : List NSnap} {A' : Option Addr} (h : KM w base X cb vN vK t l P) (he : Ext (· = cb) w w')
    (hat : At w' cb (nv t' ++ [.slice A' l'.length c']) 29 (0, 0)) (hc : CatAt w' t' A' c' l') (hA : ∀ k, inBlk A' k → k < w'.heap.size ∧ ¬ X k ∧ ¬ blkOf vN k ∧ ¬ blkOf vK k) : KM w' base X cb vN vK t' l' P := by
  have hs := he.size
  have hx := h.xcb
  exact ⟨⟨A', c', hat, hc, hA⟩, h.nm.ext he (fun k hk e => (h.bN k hk).2.2.1 (by have e' : k = cb := e; rw [e']; exact hx)), h.kp.ext he (fun k hk e => (h.bK k hk).2.2 (by have e' : k = cb := e; rw [e']; exact hx)),
    fun k hk => ⟨(h.bN k hk).1, Nat.lt_of_lt_of_le (h.bN k hk).2.1 hs, (h.bN k hk).2.2⟩, fun k hk => ⟨(h.bK k hk).1, Nat.lt_of_lt_of_le (h.bK k hk).2.1 hs, (h.bK k hk).2.2⟩, hx, h.ok⟩
/-- Another top in the box. -/
theorem ov_top {t t' : NRef} {v : Value} (ht : t.2.length = 32) (ht' : t'.2.length = 32) : ov (nv t ++ [v]) 0 (nv t') = nv t' ++ [v] := by
  have h1 := nv_length ht
  have h2 := nv_length ht'
  unfold ov
  rw [List.take_zero, Nat.zero_add, h2, ← h1, List.drop_left, List.nil_append]
theorem KM.top {w w' : World} {base : Nat} {X : Nat → Prop} {cb : Nat} {vN vK : Value} {t t' : NRef} {l P : List NSnap} {A : Option Addr} {c : Nat} (h : KM w base X cb vN vK t l P) (he : Ext (· = cb) w w') (h2 : CatAt w t A c l) (h3 : ∀ k, inBlk A k → k < w.heap.size ∧ ¬ X k ∧ ¬ blkOf vN k ∧ ¬ blkOf vK k)
    (ht : RefOk t') (hat : At w' cb (nv t' ++ [.slice A l.length c]) 29 (0, 0)) : KM w' base X cb vN vK t' l P := by
  have hx := h.xcb
  exact h.put he hat ⟨ht, h2.snaps, h2.row.ext he (fun k hk e => (h3 k hk).2.1 (by have e' : k = cb := e; rw [e']; exact hx)), h2.cap⟩ (fun k hk => ⟨Nat.lt_of_lt_of_le (h3 k hk).1 he.size, (h3 k hk).2⟩)
/-- A name and a tree behind the others. -/
theorem KM.grow {w w' : World} {base : Nat} {X : Nat → Prop} {cb : Nat} {vN vK vN' vK' : Value} {t : NRef} {l P : List NSnap} {s : ByteArray} (h : KM w base X cb vN vK t l P) (he : Ext (fun k => blkOf vN k ∨ blkOf vK k) w w')
    (hN : OP w' base 9 1 vN' (P.length + 1) (kNm P ++ [.string s])) (hK : OP w' base 26 33 vK' (P.length + 1) (kRf P ++ nv t)) (hX : ∀ k, X k → k < w.heap.size) (hb : base ≤ w.heap.size)
    (bN : ∀ k, blkOf vN' k → blkOf vN k ∨ (w.heap.size ≤ k ∧ k < w'.heap.size)) (bK : ∀ k, blkOf vK' k → blkOf vK k ∨ (w.heap.size ≤ k ∧ k < w'.heap.size)) (nb : ∀ k, blkOf vN' k → blkOf vK' k → k < w.heap.size) : KM w' base X cb vN' vK' t l (P ++ [(s, t)]) := by
  obtain ⟨A, c, h1, h2, h3⟩ := h.row
  have hs := he.size
  refine ⟨⟨A, c, h1.ext he (fun e => e.elim (fun e => (h.bN _ e).2.2.1 h.xcb) (fun e => (h.bK _ e).2.2 h.xcb)), h2.extK he (fun k hk e => e.elim (h3 k hk).2.2.1 (h3 k hk).2.2.2),
      fun k hk => ⟨Nat.lt_of_lt_of_le (h3 k hk).1 hs, (h3 k hk).2.1, fun e => (bN k e).elim (h3 k hk).2.2.1 (fun e => by have := (h3 k hk).1; omega), fun e => (bK k e).elim (h3 k hk).2.2.2 (fun e => by have := (h3 k hk).1; omega)⟩⟩,
    ?_, ?_, fun k hk => ⟨?_, ?_, ?_, fun e => ?_⟩, fun k hk => ⟨?_, ?_, ?_⟩, h.xcb, fun p hp => ?_⟩
  · rw [kNm_snoc, List.length_append]
    exact hN
  · rw [kRf_snoc, List.length_append]
    exact hK
  · exact (bN k hk).elim (fun e => (h.bN k e).1) (fun e => by omega)
  · exact (bN k hk).elim (fun e => Nat.lt_of_lt_of_le (h.bN k e).2.1 hs) (fun e => e.2)
  · exact fun e2 => (bN k hk).elim (fun e => (h.bN k e).2.2.1 e2) (fun e => by have := hX k e2; omega)
  · have hlt := nb k hk e
    exact (bN k hk).elim (fun e1 => (bK k e).elim (h.bN k e1).2.2.2 (fun e2 => by omega)) (fun e1 => by omega)
  · exact (bK k hk).elim (fun e => (h.bK k e).1) (fun e => by omega)
  · exact (bK k hk).elim (fun e => Nat.lt_of_lt_of_le (h.bK k e).2.1 hs) (fun e => e.2)
  · exact fun e2 => (bK k hk).elim (fun e => (h.bK k e).2.2 e2) (fun e => by have := hX k e2; omega)
  · rcases List.mem_append.1 hp with hp | hp
    · exact h.ok p hp
    · obtain rfl := List.mem_singleton.1 hp
      exact h2.top
/-- The first name and the first tree cut off. -/
theorem KM.cut {w : World} {base cN cK : Nat} {X : Nat → Prop} {cb : Nat} {AN AK : Option Addr} {t : NRef} {l P : List NSnap} {p : NSnap} (h : KM w base X cb (.slice AN (p :: P).length cN) (.slice AK (p :: P).length cK) t l (p :: P)) :
    KM w base X cb (.slice (sla AN 1 cN 1) P.length (cN - 1)) (.slice (sla AK 1 cK 33) P.length (cK - 1)) t l P := by
  obtain ⟨A, c, h1, h2, h3⟩ := h.row
  have hp := nv_length (h.ok p (List.mem_cons_self ..)).len
  refine ⟨⟨A, c, h1, h2, fun k hk => ⟨(h3 k hk).1, (h3 k hk).2.1, fun e => (h3 k hk).2.2.1 (blkOf_sla e), fun e => (h3 k hk).2.2.2 (blkOf_sla e)⟩⟩, ?_, ?_,
    fun k hk => ⟨(h.bN k (blkOf_sla hk)).1, (h.bN k (blkOf_sla hk)).2.1, (h.bN k (blkOf_sla hk)).2.2.1, fun e => (h.bN k (blkOf_sla hk)).2.2.2 (blkOf_sla e)⟩, fun k hk => ⟨(h.bK k (blkOf_sla hk)).1, (h.bK k (blkOf_sla hk)).2.1, (h.bK k (blkOf_sla hk)).2.2⟩, h.xcb, fun q hq => h.ok q (List.mem_cons_of_mem _ hq)⟩
  · exact h.nm.drop (k := 1) (by rw [List.length_cons]; omega)
  · have := h.kp.drop (k := 1) (by rw [List.length_cons]; omega)
    rw [show kRf (p :: P) = nv p.2 ++ kRf P from rfl, Nat.one_mul, ← hp, List.drop_left, hp] at this
    exact this
theorem KM.nform {w : World} {base : Nat} {X : Nat → Prop} {cb : Nat} {vN vK : Value} {t : NRef} {l P : List NSnap} (h : KM w base X cb vN vK t l P) :
    ∃ AN cN AK cK, vN = .slice AN P.length cN ∧ vK = .slice AK P.length cK ∧ P.length ≤ cN ∧ P.length ≤ cK ∧ Cells w AN (kNm P) ∧ Cells w AK (kRf P) := by
  obtain ⟨AN, cN, e1, h1, h2⟩ := h.nm.form
  obtain ⟨AK, cK, e2, h3, h4⟩ := h.kp.form
  exact ⟨AN, cN, AK, cK, e1, e2, h1, h3, h2, h4⟩
theorem kNm_at {w : World} {A : Option Addr} {P : List NSnap} (h : Cells w A (kNm P)) {i : Nat} (hi : i < P.length) : ∃ b off, A = some ⟨b, off, none⟩ ∧ w.cell? ⟨b, off + i, none⟩ = some (.string P[i].1) := by
  rcases h with e | ⟨b, off, rfl, h⟩
  · have := congrArg List.length e
    simp [kNm] at this
    subst this
    exact absurd hi (by simp)
  · refine ⟨b, off, rfl, ?_⟩
    rw [h i (by simp [kNm]; exact hi)]
    simp [kNm]
theorem kRf_at {w : World} {A : Option Addr} {P : List NSnap} (h : Cells w A (kRf P)) (hok : ∀ p ∈ P, RefOk p.2) {i : Nat} (hi : i < P.length) :
    ∃ b off, A = some ⟨b, off, none⟩ ∧ ∀ j (hj : j < (nv P[i].2).length), w.cell? ⟨b, off + i * 33 + j, none⟩ = some (nv P[i].2)[j] := by
  have hl : ∀ x ∈ P, (nv x.2).length = 33 := fun x hx => nv_length (hok x hx).len
  have hlen : (kRf P).length = P.length * 33 := flat_length hl
  rcases h with e | ⟨b, off, rfl, h⟩
  · rw [e, List.length_nil] at hlen
    omega
  · refine ⟨b, off, rfl, fun j hj => ?_⟩
    have hj' : j < 33 := by rw [hl _ (List.getElem_mem hi)] at hj; exact hj
    have hij : i * 33 + j < (kRf P).length := by omega
    rw [Nat.add_assoc, h (i * 33 + j) hij]
    have := flat_get (f := fun p : NSnap => nv p.2) hl hi hj'
    rw [show (P.flatMap fun p => nv p.2) = kRf P from rfl, List.getElem?_eq_getElem hij, List.getElem?_eq_getElem hj] at this
    exact this
theorem Drop_snaps {w : World} {t : NRef} {A : Option Addr} {c : Nat} {l : List NSnap} {s : ByteArray} (h : CatAt w t A c l) {T : NRef} {L : List NSnap} {E : Int} (e : dropC t l s = ((T, L), E)) : SnapsOk L := by
  have := (dropC_ok (s := s) h.top h.snaps).2.1
  rw [e] at this
  exact this
theorem KM.kpAt {u a a' b : World} {base : Nat} {X : Nat → Prop} {cb : Nat} {vN vK : Value} {t : NRef} {l P : List NSnap} (h : KM u base X cb vN vK t l P) (x1 : Ext Non u a) (xN : Ext (blkOf vN) a a') (x2 : Ext Non a' b) : OP b base 26 33 vK P.length (kRf P) :=
  ((h.kp.non x1).ext xN (fun k hk e => (h.bN k e).2.2.2 hk)).non x2
/-- Both append, one behind the other. -/
theorem KM.grow2 {u a a' b b' : World} {base : Nat} {X : Nat → Prop} {cb : Nat} {vN vK vN' vK' : Value} {t : NRef} {l P : List NSnap} {s : ByteArray} (h : KM u base X cb vN vK t l P) (hX : ∀ k, X k → k < u.heap.size) (hb : base ≤ u.heap.size)
    (x1 : Ext Non u a) (xN : Ext (blkOf vN) a a') (x2 : Ext Non a' b) (xK : Ext (blkOf vK) b b')
    (hN : OP a' base 9 1 vN' (P.length + 1) (kNm P ++ [.string s])) (hK : OP b' base 26 33 vK' (P.length + 1) (kRf P ++ nv t))
    (bN : ∀ k, blkOf vN' k → blkOf vN k ∨ (a.heap.size ≤ k ∧ k < a'.heap.size)) (bK : ∀ k, blkOf vK' k → blkOf vK k ∨ (b.heap.size ≤ k ∧ k < b'.heap.size)) : KM b' base X cb vN' vK' t l (P ++ [(s, t)]) ∧ Ext (fun k => blkOf vN k ∨ blkOf vK k) u b' := by
  have s1 := x1.size
  have s2 := xN.size
  have s3 := x2.size
  have s4 := xK.size
  have he : Ext (fun k => blkOf vN k ∨ blkOf vK k) u b' := (((x1.mono fun _ x => x.elim).trans (xN.mono fun _ x => .inl x)).trans (x2.mono fun _ x => x.elim)).trans (xK.mono fun _ x => .inr x)
  refine ⟨h.grow he ((hN.non x2).ext xK (fun k hk e => (bN k hk).elim (fun e1 => (h.bN k e1).2.2.2 e) (fun e1 => by have := (h.bK k e).2.1; omega))) hK hX hb (fun k hk => (bN k hk).imp id (fun e => by omega)) (fun k hk => (bK k hk).imp id (fun e => by omega)) (fun k h1 h2 => ?_), he⟩
  exact (bN k h1).elim (fun e => (h.bN k e).2.1) (fun e => (bK k h2).elim (fun e2 => (h.bK k e2).2.1) (fun e2 => by omega))
theorem Run.appNm {m0 : Md} {w : World} {base b ty t : Nat} {fr : Nat × Nat} {v : Value} {P : List NSnap} {s : ByteArray} {K : Value → World → Prop} (h : OP w base 9 1 v P.length (kNm P)) (hat : At w b [.string s] t fr) (hP : P.length ≤ 1000000) (hbase : base ≤ w.heap.size)
    (hm : ∀ w', Ext (blkOf v) w w' → m0.W w w')
    (k : ∀ v' w', OP w' base 9 1 v' (P.length + 1) (kNm P ++ [.string s]) → Ext (blkOf v) w w' → (∀ k, blkOf v' k → blkOf v k ∨ (w.heap.size ≤ k ∧ k < w'.heap.size)) → K v' w') :
    Run cx.P m0 w (Builtin.append_ #[44, 44] ty #[v, .slice (some ⟨b, 0, none⟩) 1 1]) K := by
  have tiSt : TIok cx.P 44 ti44 := tabOk _ _ rfl
  have tiS9 : TIok cx.P 9 ti9 := tabOk _ _ rfl
  have s5 : Src cx.P w 1 (.slice (some ⟨b, 0, none⟩) 1 1) 1 [.string s] := Src.slice (Cells.whole hat) rfl (fun v hv => by
    obtain rfl := List.mem_singleton.1 hv
    rfl)
  exact Run.appP (ei := ti9) tiSt tiS9 (.inl ⟨_, TIok.slice tiSt⟩) rfl h (one_kNm _) s5 (by show _ * 16 ≤ _; omega) (by omega) hbase hm k
theorem Run.appRf {m0 : Md} {w : World} {base b ty t : Nat} {fr : Nat × Nat} {v : Value} {P : List NSnap} {r : NRef} {K : Value → World → Prop} (h : OP w base 26 33 v P.length (kRf P)) (hr : r.2.length = 32) (hat : At w b (nv r) t fr) (hP : P.length ≤ 1000000) (hbase : base ≤ w.heap.size)
    (hm : ∀ w', Ext (blkOf v) w w' → m0.W w w')
    (k : ∀ v' w', OP w' base 26 33 v' (P.length + 1) (kRf P ++ nv r) → Ext (blkOf v) w w' → (∀ k, blkOf v' k → blkOf v k ∨ (w.heap.size ≤ k ∧ k < w'.heap.size)) → K v' w') :
    Run cx.P m0 w (Builtin.append_ #[50, 50] ty #[v, .slice (some ⟨b, 0, none⟩) 1 1]) K := by
  have tiSt : TIok cx.P 50 ti50 := tabOk _ _ rfl
  have tiS9 : TIok cx.P 26 ti26 := tabOk _ _ rfl
  have s5 : Src cx.P w 33 (.slice (some ⟨b, 0, none⟩) 1 1) 1 (nv r) := Src.slice (Cells.whole hat) (by rw [nv_length hr]) (one_nv _)
  exact Run.appP (ei := ti26) tiSt tiS9 (.inl ⟨_, TIok.slice tiSt⟩) rfl h (one_kRf _) s5 (by show _ * 36 ≤ _; omega) (by omega) hbase hm k
end Go.Proofs.Ytodpaehciegmiaa

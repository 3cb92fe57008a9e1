import Derived.Test.YtmoebdncmcigaaaDoorNod3
import Derived.Test.YtmoebdncmcigaaaDoorNode2

/-
  Nodes: whether two are the same; what is laid is read as it was; what every right program lays.
-/


namespace Go.Proofs.YtmoebdncmcigaaaDoor

open Go Sx

set_option linter.unusedVariables false

set_option linter.unusedSimpArgs false

set_option maxRecDepth 100000

theorem part_node {n : List NRef} (hn : ∀ r ∈ n, RefOk r) {i : Nat} (hi : i < n.length) (w : World) : (part 37 (ncs n).toArray (i * cx.P.cellsOf 37)).run cx.P w = .ok (.agg (nv (n.getD i noRef)).toArray) w := by
  have hc : cx.P.cellsOf 37 = 33 := by kernel_rfl
  rw [hc]
  obtain ⟨v, h1, h2⟩ := part_sound (P := cx.P) (tabOk 37 ti37 rfl) (cs := (ncs n).toArray) (off := i * 33) (K := fun v => v = .agg (nv (n.getD i noRef)).toArray) (by
    refine Ev.mk (nv (n.getD i noRef)) ?_ rfl
    show ((ncs n).drop (i * 33)).take 33 = _
    rw [ncs_at hn hi, List.getD_eq_getElem?_getD, List.getElem?_eq_getElem hi, Option.getD_some])
  rw [h1, h2]
theorem eqItems_node (d : Nat) {n m : List NRef} (hn : ∀ r ∈ n, RefOk r) (hm : ∀ r ∈ m, RefOk r) : ∀ (is : List Nat) (w : World), (∀ i ∈ is, i < n.length ∧ i < m.length) →
    (Op.eqItems (d + 1 + 1 + 1) 37 (cx.P.cellsOf 37) (ncs n).toArray (ncs m).toArray is).run cx.P w = .ok (is.all fun i => decide (n.getD i noRef = m.getD i noRef)) w
  | [], w, _ => rfl
  | i :: is, w, h => by
    have h0 := h i (by simp)
    have g : ∀ {n : List NRef}, (∀ r ∈ n, RefOk r) → i < n.length → (n.getD i noRef).2.length = 32 := fun {n} hn hi => by
      rw [List.getD_eq_getElem?_getD, List.getElem?_eq_getElem hi, Option.getD_some]
      exact (hn _ (List.getElem_mem hi)).len
    simp only [Op.eqItems, Sem.run_bind, part_node hn h0.1, part_node hm h0.2, Result.andThen_ok]
    erw [eq_refD d (g hn h0.1) (g hm h0.2) w]
    simp only [Result.andThen_ok, List.all_cons]
    by_cases e : n.getD i noRef = m.getD i noRef
    · rw [decide_eq_true e, Bool.true_and]
      exact eqItems_node d hn hm is w fun j hj => h j (by simp [hj])
    · rw [decide_eq_false e, Bool.false_and]
      rfl
theorem eq_node {n m : List NRef} (hn : NodeOk n) (hm : NodeOk m) (w : World) : (Op.equal 39 (.agg (ncs n).toArray) (.agg (ncs m).toArray)).run cx.P w = .ok (decide (n = m)) w := by
  obtain ⟨i, hi, _⟩ := (tabOk 37 ti37 rfl).get
  have hu : cx.P.underlying 39 = some (.array 8 37) := TIok.array (tabOk _ ti39 rfl)
  refine (run_equalIn_array (P := cx.P) w 9999 (ncs n).toArray (ncs m).toArray hu hi).trans ?_
  refine (eqItems_node 9996 hn.each hm.each (List.range 8) w (fun j hj => by have := List.mem_range.1 hj; rw [hn.len, hm.len]; omega)).trans ?_
  refine congrArg (fun r => Result.ok r w) ?_
  by_cases e : n = m
  · subst e
    simp
  · rw [decide_eq_false e]
    cases hq : (List.range 8).all fun i => decide (n.getD i noRef = m.getD i noRef)
    · rfl
    · exfalso
      apply e
      rw [List.all_eq_true] at hq
      apply List.ext_getElem (by rw [hn.len, hm.len])
      intro j h1 h2
      have := hq j (List.mem_range.2 (by rw [hn.len] at h1; exact h1))
      simpa [List.getD_eq_getElem?_getD, h1, h2] using this
theorem Eqv.node {n m : List NRef} (hn : NodeOk n) (hm : NodeOk m) {x y : Value} {K : Bool → Prop} (hx : x = .agg (ncs n).toArray) (hy : y = .agg (ncs m).toArray) (k : K (decide (n = m))) : Eqv cx.P 39 x y K := by
  subst hx hy
  exact ⟨_, rfl, eq_node hn hm, fun op X Y w => run_eqGuard_agg w op _ X Y _ _ (by kernel_rfl), k⟩
theorem Eqv.nodeT {n : List NRef} (hn : NodeOk n) {x y : Value} {K : Bool → Prop} (hx : x = .agg (ncs n).toArray) (hy : y = .agg (ncs n).toArray) (k : K true) : Eqv cx.P 39 x y K := Eqv.node hn hn hx hy (by rw [decide_eq_true rfl]; exact k)

theorem bval_beN (k n : Nat) : bval (be k n) = n % 256 ^ k := by
  induction k generalizing n with
  | zero => simp [be, bval, Nat.mod_one]
  | succ k ih =>
    rw [be, bval_snoc, ih, UInt8.toNat_ofNat', show 256 ^ (k + 1) = 256 * 256 ^ k from by rw [Nat.pow_succ, Nat.mul_comm], Nat.mod_mul, show (2 : Nat) ^ 8 = 256 from rfl]
    omega
theorem be_bvalN (l : List UInt8) : be l.length (bval l) = l := by
  have key : ∀ (m : Nat) (l : List UInt8), l.length = m → be l.length (bval l) = l := by
    intro m
    induction m with
    | zero => intro l hl; rw [List.length_eq_zero_iff.1 hl]; rfl
    | succ m ih =>
      intro l hl
      have hne : l ≠ [] := fun e => by rw [e] at hl; cases hl
      obtain ⟨q, x, rfl⟩ : ∃ q x, l = q ++ [x] := ⟨l.dropLast, l.getLast hne, (List.dropLast_concat_getLast hne).symm⟩
      have hq : q.length = m := by rw [List.length_append, List.length_singleton] at hl; omega
      have := ih q hq
      rw [List.length_append, List.length_singleton, be, bval_snoc, show (bval q * 256 + x.toNat) / 256 = bval q from by have := x.toNat_lt; omega, this]
      congr 2
      have h1 : UInt8.ofNat (bval q * 256 + x.toNat) = x := by
        apply UInt8.toNat_inj.1
        rw [UInt8.toNat_ofNat']
        have := x.toNat_lt
        omega
      exact h1
  exact key _ l rfl
theorem refAt_put {n : List NRef} (h : ∀ r ∈ n, RefOk r) {i : Nat} (hi : i < n.length) : refAt (putN n) i = n[i] := by
  have hr := h _ (List.getElem_mem hi)
  have e : (putN n).drop (i * 36) = (be 4 n[i].1 ++ n[i].2) ++ putN (n.drop (i + 1)) := by
    rw [putN_drop h, List.drop_eq_getElem_cons hi]
    rfl
  have lb := be_length 4 n[i].1
  unfold refAt
  rw [← List.drop_drop, e, List.append_assoc, List.take_left' lb, List.drop_left' lb, List.take_left' hr.len, bval_beN, Nat.mod_eq_of_lt (by have := hr.at_; omega)]
theorem parse_put {n : List NRef} (hn : NodeOk n) : parseN (putN n) = n := by
  refine List.ext_getElem (by simp [parseN, hn.len]) fun i h1 h2 => ?_
  simp only [parseN, List.getElem_map, List.getElem_range]
  exact refAt_put hn.each h2
theorem ok_put {n : List NRef} (hn : NodeOk n) : okN (putN n) = n.all goodR := by
  unfold okN
  rw [parse_put hn, decide_eq_true (by rw [putN_length hn.each, hn.len]), Bool.true_and]
theorem put_parse {b : List UInt8} (h : b.length = 288) : putN (parseN b) = b := by
  have hok := parseN_ok h
  have key : ∀ i, i ≤ 8 → putN ((parseN b).take i) = b.take (i * 36) := by
    intro i
    induction i with
    | zero => intro _; simp [putN]
    | succ i ih =>
      intro hi
      have hil : i < (parseN b).length := by rw [hok.len]; omega
      have hg : (parseN b)[i] = refAt b i := by simp [parseN]
      rw [putN_take hil, ih (by omega), hg, List.append_assoc]
      have e1 : be 4 (refAt b i).1 = (b.drop (i * 36)).take 4 := by
        have hl : ((b.drop (i * 36)).take 4).length = 4 := by rw [List.length_take, List.length_drop]; omega
        have := be_bvalN ((b.drop (i * 36)).take 4)
        rwa [hl] at this
      have e2 : (refAt b i).2 = ((b.drop (i * 36)).drop 4).take 32 := by
        show (b.drop (i * 36 + 4)).take 32 = _
        rw [List.drop_drop]
      rw [e1, e2, show (i + 1) * 36 = i * 36 + (4 + 32) from by omega, List.take_add, (List.take_add : List.take (4 + 32) (List.drop (i * 36) b) = _)]
  have := key 8 (Nat.le_refl _)
  rw [List.take_of_length_le (by rw [hok.len]; exact Nat.le_refl _), List.take_of_length_le (by omega)] at this
  exact this
theorem okN_iff {b : List UInt8} (h : okN b = true) : b.length = 288 := by
  unfold okN at h
  rw [Bool.and_eq_true, decide_eq_true_eq] at h
  exact h.1

def nodeK : List NRef := List.replicate 7 noRef ++ [(258, List.replicate 32 0)]
theorem nodeK_ok : NodeOk nodeK := ⟨rfl, fun r hr => by
  rcases List.mem_append.1 hr with hr | hr
  · rw [List.eq_of_mem_replicate hr]
    exact noRef_ok
  · rw [List.mem_singleton.1 hr]
    exact ⟨by decide, rfl⟩⟩
def shaN : List UInt8 := [84, 94, 165, 56, 70, 16, 3, 239, 220, 140, 129, 194, 68, 83, 27, 0, 63, 111, 38, 207, 204, 246, 192, 7, 59, 50, 57, 253, 237, 244, 148, 70]
def shaPg : List UInt8 := [54, 96, 49, 90, 154, 243, 223, 37, 93, 143, 25, 171, 7, 126, 71, 151, 130, 43, 65, 72, 138, 14, 42, 4, 188, 106, 247, 18, 19, 194, 50, 116]
theorem sha_node : sha (wordN ++ []) = shaN := by
  rw [sha_F]
  kernel_rfl
theorem sha_page : sha (wordP ++ []) = shaPg := by
  rw [sha_F]
  kernel_rfl

set_option maxHeartbeats 1000000 in
theorem awake15_ret (w : World) (hR : Roots w) : Ret cx.P 20 #[] w fun v w' => v = .bool true ∧ Ext Non w w' := by
  refine Ret.e0 (C := cx) (n := 49) cxOk Tryd.func20 rfl rfl ?_
  have hpl : (putN nodeK).length = 288 := by rw [putN_length nodeK_ok.each]; rfl
  have h254 : (putN nodeK)[254]? = some 1 := by kernel_rfl
  have h255 : (putN nodeK)[255]? = some 2 := by kernel_rfl
  have hres : resN (putN nodeK) = nodeK := by rw [resN, ok_put nodeK_ok, parse_put nodeK_ok]; rfl
  have herr : errN (putN nodeK) = 0 := by rw [errN, ok_put nodeK_ok]; rfl
  have hl264 : (ncs nodeK).length = 264 := by kernel_rfl
  have hcK : ncs nodeK = ov (vcells ti39.zero) 231 (nv (258, List.replicate 32 0)) := by kernel_rfl
  have hat7 : (ncs nodeK)[231]? = some (.int .u32 258) := by kernel_rfl
  have hem : emptyN nodeK = false := by kernel_rfl
  (repeat ((conv => whnf); first | refine G.seq ?_ | refine G.region cxOk ?_ | refine G.block ?_ | refine G.cond_t rfl ?_ | refine G.cond_f rfl ?_ | refine G.skip ?_ | refine G.exit ?_ | refine G.ret ?_ | refine Cmp.dt (by (first | (with_reducible rfl) | omega)) ?_ | refine Cmp.df (by omega) ?_ | (first | (with_reducible refine Ev.mk _ (u32_xor _ _) ?_) | (with_reducible refine Ev.mk _ (u32_and _ _) ?_) | (with_reducible refine Ev.mk _ (u32_or _ _) ?_) | (with_reducible refine Ev.mk _ (u32_add _ _) ?_) | (with_reducible refine Ev.mk _ (u32_not _) ?_) | (with_reducible refine Ev.mk _ (u8_u32 _) ?_) | refine Ix1.mk _ _ _ rfl (by decide) rfl ?_) | (first | (with_reducible refine Ev.mk _ (IntWalk.i64_in _ ?_) ?_; · omega) | (with_reducible refine Ev.mk _ (wrap_u8_nat _) ?_) | (with_reducible refine Ev.mk _ (shr8 _) ?_) | (with_reducible refine Ev.mk _ (Int.toNat_natCast _) ?_) | (with_reducible refine Ev.mk _ (Int.toNat_ofNat _) ?_)) | refine Rd.mk _ (by assumption) (by (first | exact trivial | exact fun x => x)) ?_ | refine Nd.mk (by (first | omega | exact ⟨rfl, rfl⟩ | exact ⟨rfl, by decide⟩ | exact ⟨by decide, rfl⟩ | exact ⟨by omega, by omega, by omega, by (simp [ti5]; omega), rfl⟩ | exact ⟨rfl, Nat.le_of_ble_eq_true rfl⟩ | exact rfl | decide)) ?_))
  refine Ev.mk (nv (258, List.replicate 32 0)) (by kernel_rfl) ?_
  refine @Ev.keep (List Value) _ _ ?_
  (repeat ((conv => whnf); first | refine G.seq ?_ | refine G.region cxOk ?_ | refine G.block ?_ | refine G.cond_t rfl ?_ | refine G.cond_f rfl ?_ | refine G.skip ?_ | refine G.exit ?_ | refine G.ret ?_ | refine Cmp.dt (by (first | (with_reducible rfl) | omega)) ?_ | refine Cmp.df (by omega) ?_ | (first | (with_reducible refine Ev.mk _ (u32_xor _ _) ?_) | (with_reducible refine Ev.mk _ (u32_and _ _) ?_) | (with_reducible refine Ev.mk _ (u32_or _ _) ?_) | (with_reducible refine Ev.mk _ (u32_add _ _) ?_) | (with_reducible refine Ev.mk _ (u32_not _) ?_) | (with_reducible refine Ev.mk _ (u8_u32 _) ?_) | refine Ix1.mk _ _ _ rfl (by decide) rfl ?_) | (first | (with_reducible refine Ev.mk _ (IntWalk.i64_in _ ?_) ?_; · omega) | (with_reducible refine Ev.mk _ (wrap_u8_nat _) ?_) | (with_reducible refine Ev.mk _ (shr8 _) ?_) | (with_reducible refine Ev.mk _ (Int.toNat_natCast _) ?_) | (with_reducible refine Ev.mk _ (Int.toNat_ofNat _) ?_)) | refine Rd.mk _ (by assumption) (by (first | exact trivial | exact fun x => x)) ?_ | refine Nd.mk (by (first | omega | exact ⟨rfl, rfl⟩ | exact ⟨rfl, by decide⟩ | exact ⟨by decide, rfl⟩ | exact ⟨by omega, by omega, by omega, by (simp [ti5]; omega), rfl⟩ | exact ⟨rfl, Nat.le_of_ble_eq_true rfl⟩ | exact rfl | decide)) ?_))
  (first | refine Nd.mk ⟨rfl, by decide⟩ ?_ | skip)
  refine Ev.mk (ncs nodeK) hcK.symm ?_
  refine @Ev.keep (List Value) _ _ ?_
  have tP := NodePut_ret nodeK_ok w
  obtain ⟨NK, hNK⟩ : ∃ N, ncs nodeK = N := ⟨_, rfl⟩
  rw [hNK] at tP hat7 hl264 ⊢
  (repeat ((conv => whnf); first | refine G.seq ?_ | refine G.region cxOk ?_ | refine G.block ?_ | refine G.cond_t rfl ?_ | refine G.cond_f rfl ?_ | refine G.skip ?_ | refine G.exit ?_ | refine G.ret ?_ | refine Cmp.dt (by (first | (with_reducible rfl) | omega)) ?_ | refine Cmp.df (by omega) ?_ | (first | (with_reducible refine Ev.mk _ (u32_xor _ _) ?_) | (with_reducible refine Ev.mk _ (u32_and _ _) ?_) | (with_reducible refine Ev.mk _ (u32_or _ _) ?_) | (with_reducible refine Ev.mk _ (u32_add _ _) ?_) | (with_reducible refine Ev.mk _ (u32_not _) ?_) | (with_reducible refine Ev.mk _ (u8_u32 _) ?_) | refine Ix1.mk _ _ _ rfl (by decide) rfl ?_) | (first | (with_reducible refine Ev.mk _ (IntWalk.i64_in _ ?_) ?_; · omega) | (with_reducible refine Ev.mk _ (wrap_u8_nat _) ?_) | (with_reducible refine Ev.mk _ (shr8 _) ?_) | (with_reducible refine Ev.mk _ (Int.toNat_natCast _) ?_) | (with_reducible refine Ev.mk _ (Int.toNat_ofNat _) ?_)) | refine @Ev.keep (List Value) _ _ ?_ | refine Rd.mk _ (by assumption) (by (first | exact trivial | exact fun x => x)) ?_ | refine Nd.mk (by (first | omega | exact ⟨rfl, rfl⟩ | exact ⟨rfl, by decide⟩ | exact ⟨by decide, rfl⟩ | exact ⟨by omega, by omega, by omega, by (simp [ti5]; omega), rfl⟩ | exact ⟨rfl, Nat.le_of_ble_eq_true rfl⟩ | exact rfl | decide)) ?_))
  refine Cl.mk tP ?_
  clear tP
  rintro v w1 ⟨o1, x1⟩
  obtain ⟨A1, c1, rfl, hl1, hcl1, hb1⟩ := OB.form o1
  have tG := NodeGet_ret (c := c1) hcl1 hl1 (fun k hk => OS.lt o1 (blkOf_of hk)) (by omega)
  rw [hres, herr, hNK] at tG
  generalize putN nodeK = PB at *
  (repeat ((conv => whnf); first | refine G.seq ?_ | refine G.region cxOk ?_ | refine G.block ?_ | refine G.cond_t rfl ?_ | refine G.cond_f rfl ?_ | refine G.skip ?_ | refine G.exit ?_ | refine G.ret ?_ | refine Cmp.dt (by (first | (with_reducible rfl) | omega)) ?_ | refine Cmp.df (by omega) ?_ | (first | (with_reducible refine Ev.mk _ (u32_xor _ _) ?_) | (with_reducible refine Ev.mk _ (u32_and _ _) ?_) | (with_reducible refine Ev.mk _ (u32_or _ _) ?_) | (with_reducible refine Ev.mk _ (u32_add _ _) ?_) | (with_reducible refine Ev.mk _ (u32_not _) ?_) | (with_reducible refine Ev.mk _ (u8_u32 _) ?_) | refine Ix1.mk _ _ _ rfl (by decide) rfl ?_) | (first | (with_reducible refine Ev.mk _ (IntWalk.i64_in _ ?_) ?_; · omega) | (with_reducible refine Ev.mk _ (wrap_u8_nat _) ?_) | (with_reducible refine Ev.mk _ (shr8 _) ?_) | (with_reducible refine Ev.mk _ (Int.toNat_natCast _) ?_) | (with_reducible refine Ev.mk _ (Int.toNat_ofNat _) ?_)) | refine @Ev.keep (List Value) _ _ ?_ | refine Rd.mk _ (by assumption) (by (first | exact trivial | exact fun x => x)) ?_ | refine Nd.mk (by (first | omega | exact ⟨rfl, rfl⟩ | exact ⟨rfl, by decide⟩ | exact ⟨by decide, rfl⟩ | exact ⟨by omega, by omega, by omega, by (simp [ti5]; omega), rfl⟩ | exact ⟨rfl, Nat.le_of_ble_eq_true rfl⟩ | exact rfl | decide)) ?_))
  refine Cl.mk tG ?_
  clear tG
  rintro v w2 ⟨rfl, x2⟩
  have x02 := x1.trans x2
  (repeat ((conv => whnf); first | refine G.seq ?_ | refine G.region cxOk ?_ | refine G.block ?_ | refine G.cond_t rfl ?_ | refine G.cond_f rfl ?_ | refine G.skip ?_ | refine G.exit ?_ | refine G.ret ?_ | refine Cmp.dt (by (first | (with_reducible rfl) | omega)) ?_ | refine Cmp.df (by omega) ?_ | (first | (with_reducible refine Ev.mk _ (u32_xor _ _) ?_) | (with_reducible refine Ev.mk _ (u32_and _ _) ?_) | (with_reducible refine Ev.mk _ (u32_or _ _) ?_) | (with_reducible refine Ev.mk _ (u32_add _ _) ?_) | (with_reducible refine Ev.mk _ (u32_not _) ?_) | (with_reducible refine Ev.mk _ (u8_u32 _) ?_) | refine Ix1.mk _ _ _ rfl (by decide) rfl ?_) | (first | (with_reducible refine Ev.mk _ (IntWalk.i64_in _ ?_) ?_; · omega) | (with_reducible refine Ev.mk _ (wrap_u8_nat _) ?_) | (with_reducible refine Ev.mk _ (shr8 _) ?_) | (with_reducible refine Ev.mk _ (Int.toNat_natCast _) ?_) | (with_reducible refine Ev.mk _ (Int.toNat_ofNat _) ?_)) | refine @Ev.keep (List Value) _ _ ?_ | refine Rd.mk _ (by assumption) (by (first | exact trivial | exact fun x => x)) ?_ | refine Nd.mk (by (first | omega | exact ⟨rfl, rfl⟩ | exact ⟨rfl, by decide⟩ | exact ⟨by decide, rfl⟩ | exact ⟨by omega, by omega, by omega, by (simp [ti5]; omega), rfl⟩ | exact ⟨rfl, Nat.le_of_ble_eq_true rfl⟩ | exact rfl | decide)) ?_))
  refine Al.mk fun nb w3 hN3 => ?_
  (repeat ((conv => whnf); first | refine G.seq ?_ | refine G.region cxOk ?_ | refine G.block ?_ | refine G.cond_t rfl ?_ | refine G.cond_f rfl ?_ | refine G.skip ?_ | refine G.exit ?_ | refine G.ret ?_ | refine Cmp.dt (by (first | (with_reducible rfl) | omega)) ?_ | refine Cmp.df (by omega) ?_ | (first | (with_reducible refine Ev.mk _ (u32_xor _ _) ?_) | (with_reducible refine Ev.mk _ (u32_and _ _) ?_) | (with_reducible refine Ev.mk _ (u32_or _ _) ?_) | (with_reducible refine Ev.mk _ (u32_add _ _) ?_) | (with_reducible refine Ev.mk _ (u32_not _) ?_) | (with_reducible refine Ev.mk _ (u8_u32 _) ?_) | refine Ix1.mk _ _ _ rfl (by decide) rfl ?_) | (first | (with_reducible refine Ev.mk _ (IntWalk.i64_in _ ?_) ?_; · omega) | (with_reducible refine Ev.mk _ (wrap_u8_nat _) ?_) | (with_reducible refine Ev.mk _ (shr8 _) ?_) | (with_reducible refine Ev.mk _ (Int.toNat_natCast _) ?_) | (with_reducible refine Ev.mk _ (Int.toNat_ofNat _) ?_)) | refine @Ev.keep (List Value) _ _ ?_ | refine Rd.mk _ (by assumption) (by (first | exact trivial | exact fun x => x)) ?_ | refine Nd.mk (by (first | omega | exact ⟨rfl, rfl⟩ | exact ⟨rfl, by decide⟩ | exact ⟨by decide, rfl⟩ | exact ⟨by omega, by omega, by omega, by (simp [ti5]; omega), rfl⟩ | exact ⟨rfl, Nat.le_of_ble_eq_true rfl⟩ | exact rfl | decide)) ?_))
  refine Nd.mk (by rw [List.size_toArray, hl264]; rfl) ?_
  refine StA.all (vs := NK) hN3.at_ (by rw [hl264]; rfl) (by rw [← hNK]; exact one_ncs _) trivial fun w4 h4 x4 => ?_
  have x24 : Ext Non w2 w4 := Ext.own hN3.ext x4 hN3.ge
  have x04 := x02.trans x24
  have hcl4 := (hcl1.ext x2 (fun _ _ x => x)).ext x24 (fun _ _ x => x)
  obtain ⟨pb, po, rfl, g254⟩ := cells_at hcl4 (i := 254) (by omega)
  have e254 : PB[254]'(by omega) = 1 := by
    rw [List.getElem?_eq_getElem (by omega)] at h254
    exact Option.some.inj h254
  have g255 : w4.cell? ⟨pb, po + 255, none⟩ = some (.int .u8 2) := by
    have := Cells.get hcl4 (i := 255) (v := .int .u8 2) (by rw [bv_get (by omega)]; rw [List.getElem?_eq_getElem (by omega)] at h255; rw [Option.some.inj h255]; rfl)
    exact this
  rw [e254] at g254
  have g254' : w4.cell? ⟨pb, po + 254, none⟩ = some (.int .u8 1) := g254
  have g7 : w4.cell? ⟨nb, 231, none⟩ = some (.int .u32 258) := h4.cell hat7
  have hpl' : (PB.length : Int) = 288 := by omega
  (repeat ((conv => whnf); first | refine G.seq ?_ | refine G.region cxOk ?_ | refine G.block ?_ | refine G.cond_t rfl ?_ | refine G.cond_f rfl ?_ | refine G.skip ?_ | refine G.exit ?_ | refine G.ret ?_ | refine Cmp.dt (by (first | (with_reducible rfl) | omega)) ?_ | refine Cmp.df (by omega) ?_ | (first | (with_reducible refine Ev.mk _ (u32_xor _ _) ?_) | (with_reducible refine Ev.mk _ (u32_and _ _) ?_) | (with_reducible refine Ev.mk _ (u32_or _ _) ?_) | (with_reducible refine Ev.mk _ (u32_add _ _) ?_) | (with_reducible refine Ev.mk _ (u32_not _) ?_) | (with_reducible refine Ev.mk _ (u8_u32 _) ?_) | refine Ix1.mk _ _ _ rfl (by decide) rfl ?_) | (first | (with_reducible refine Ev.mk _ (IntWalk.i64_in _ ?_) ?_; · omega) | (with_reducible refine Ev.mk _ (wrap_u8_nat _) ?_) | (with_reducible refine Ev.mk _ (shr8 _) ?_) | (with_reducible refine Ev.mk _ (Int.toNat_natCast _) ?_) | (with_reducible refine Ev.mk _ (Int.toNat_ofNat _) ?_)) | refine @Ev.keep (List Value) _ _ ?_ | refine Rd.mk _ (by assumption) (by (first | exact trivial | exact fun x => x)) ?_ | refine Nd.mk (by (first | omega | exact ⟨rfl, rfl⟩ | exact ⟨rfl, by decide⟩ | exact ⟨by decide, rfl⟩ | exact ⟨by omega, by omega, by omega, by (simp [ti5]; omega), rfl⟩ | exact ⟨rfl, Nat.le_of_ble_eq_true rfl⟩ | exact rfl | decide)) ?_))
  (first | refine Cmp.dt hpl' ?_ | skip)
  (repeat ((conv => whnf); first | refine G.seq ?_ | refine G.region cxOk ?_ | refine G.block ?_ | refine G.cond_t rfl ?_ | refine G.cond_f rfl ?_ | refine G.skip ?_ | refine G.exit ?_ | refine G.ret ?_ | refine Cmp.dt (by (first | (with_reducible rfl) | omega)) ?_ | refine Cmp.df (by omega) ?_ | (first | (with_reducible refine Ev.mk _ (u32_xor _ _) ?_) | (with_reducible refine Ev.mk _ (u32_and _ _) ?_) | (with_reducible refine Ev.mk _ (u32_or _ _) ?_) | (with_reducible refine Ev.mk _ (u32_add _ _) ?_) | (with_reducible refine Ev.mk _ (u32_not _) ?_) | (with_reducible refine Ev.mk _ (u8_u32 _) ?_) | refine Ix1.mk _ _ _ rfl (by decide) rfl ?_) | (first | (with_reducible refine Ev.mk _ (IntWalk.i64_in _ ?_) ?_; · omega) | (with_reducible refine Ev.mk _ (wrap_u8_nat _) ?_) | (with_reducible refine Ev.mk _ (shr8 _) ?_) | (with_reducible refine Ev.mk _ (Int.toNat_natCast _) ?_) | (with_reducible refine Ev.mk _ (Int.toNat_ofNat _) ?_)) | refine @Ev.keep (List Value) _ _ ?_ | refine Rd.mk _ (by assumption) (by (first | exact trivial | exact fun x => x)) ?_ | refine Nd.mk (by (first | omega | exact ⟨rfl, rfl⟩ | exact ⟨rfl, by decide⟩ | exact ⟨by decide, rfl⟩ | exact ⟨by omega, by omega, by omega, by (simp [ti5]; omega), rfl⟩ | exact ⟨rfl, Nat.le_of_ble_eq_true rfl⟩ | exact rfl | decide)) ?_))
  refine Ix1.mk pb po (po + 254) rfl (by omega) rfl ?_
  (repeat ((conv => whnf); first | refine G.seq ?_ | refine G.region cxOk ?_ | refine G.block ?_ | refine G.cond_t rfl ?_ | refine G.cond_f rfl ?_ | refine G.skip ?_ | refine G.exit ?_ | refine G.ret ?_ | refine Cmp.dt (by (first | (with_reducible rfl) | omega)) ?_ | refine Cmp.df (by omega) ?_ | (first | (with_reducible refine Ev.mk _ (u32_xor _ _) ?_) | (with_reducible refine Ev.mk _ (u32_and _ _) ?_) | (with_reducible refine Ev.mk _ (u32_or _ _) ?_) | (with_reducible refine Ev.mk _ (u32_add _ _) ?_) | (with_reducible refine Ev.mk _ (u32_not _) ?_) | (with_reducible refine Ev.mk _ (u8_u32 _) ?_) | refine Ix1.mk _ _ _ rfl (by decide) rfl ?_) | (first | (with_reducible refine Ev.mk _ (IntWalk.i64_in _ ?_) ?_; · omega) | (with_reducible refine Ev.mk _ (wrap_u8_nat _) ?_) | (with_reducible refine Ev.mk _ (shr8 _) ?_) | (with_reducible refine Ev.mk _ (Int.toNat_natCast _) ?_) | (with_reducible refine Ev.mk _ (Int.toNat_ofNat _) ?_)) | refine @Ev.keep (List Value) _ _ ?_ | refine Rd.mk _ (by assumption) (by (first | exact trivial | exact fun x => x)) ?_ | refine Nd.mk (by (first | omega | exact ⟨rfl, rfl⟩ | exact ⟨rfl, by decide⟩ | exact ⟨by decide, rfl⟩ | exact ⟨by omega, by omega, by omega, by (simp [ti5]; omega), rfl⟩ | exact ⟨rfl, Nat.le_of_ble_eq_true rfl⟩ | exact rfl | decide)) ?_))
  refine Ix1.mk pb po (po + 255) rfl (by omega) rfl ?_
  (repeat ((conv => whnf); first | refine G.seq ?_ | refine G.region cxOk ?_ | refine G.block ?_ | refine G.cond_t rfl ?_ | refine G.cond_f rfl ?_ | refine G.skip ?_ | refine G.exit ?_ | refine G.ret ?_ | refine Cmp.dt (by (first | (with_reducible rfl) | omega)) ?_ | refine Cmp.df (by omega) ?_ | (first | (with_reducible refine Ev.mk _ (u32_xor _ _) ?_) | (with_reducible refine Ev.mk _ (u32_and _ _) ?_) | (with_reducible refine Ev.mk _ (u32_or _ _) ?_) | (with_reducible refine Ev.mk _ (u32_add _ _) ?_) | (with_reducible refine Ev.mk _ (u32_not _) ?_) | (with_reducible refine Ev.mk _ (u8_u32 _) ?_) | refine Ix1.mk _ _ _ rfl (by decide) rfl ?_) | (first | (with_reducible refine Ev.mk _ (IntWalk.i64_in _ ?_) ?_; · omega) | (with_reducible refine Ev.mk _ (wrap_u8_nat _) ?_) | (with_reducible refine Ev.mk _ (shr8 _) ?_) | (with_reducible refine Ev.mk _ (Int.toNat_natCast _) ?_) | (with_reducible refine Ev.mk _ (Int.toNat_ofNat _) ?_)) | refine @Ev.keep (List Value) _ _ ?_ | refine Rd.mk _ (by assumption) (by (first | exact trivial | exact fun x => x)) ?_ | refine Nd.mk (by (first | omega | exact ⟨rfl, rfl⟩ | exact ⟨rfl, by decide⟩ | exact ⟨by decide, rfl⟩ | exact ⟨by omega, by omega, by omega, by (simp [ti5]; omega), rfl⟩ | exact ⟨rfl, Nat.le_of_ble_eq_true rfl⟩ | exact rfl | decide)) ?_))
  refine Ix.mk nb 0 231 rfl (by decide) rfl ?_
  (repeat ((conv => whnf); first | refine G.seq ?_ | refine G.region cxOk ?_ | refine G.block ?_ | refine G.cond_t rfl ?_ | refine G.cond_f rfl ?_ | refine G.skip ?_ | refine G.exit ?_ | refine G.ret ?_ | refine Cmp.dt (by (first | (with_reducible rfl) | omega)) ?_ | refine Cmp.df (by omega) ?_ | (first | (with_reducible refine Ev.mk _ (u32_xor _ _) ?_) | (with_reducible refine Ev.mk _ (u32_and _ _) ?_) | (with_reducible refine Ev.mk _ (u32_or _ _) ?_) | (with_reducible refine Ev.mk _ (u32_add _ _) ?_) | (with_reducible refine Ev.mk _ (u32_not _) ?_) | (with_reducible refine Ev.mk _ (u8_u32 _) ?_) | refine Ix1.mk _ _ _ rfl (by decide) rfl ?_) | (first | (with_reducible refine Ev.mk _ (IntWalk.i64_in _ ?_) ?_; · omega) | (with_reducible refine Ev.mk _ (wrap_u8_nat _) ?_) | (with_reducible refine Ev.mk _ (shr8 _) ?_) | (with_reducible refine Ev.mk _ (Int.toNat_natCast _) ?_) | (with_reducible refine Ev.mk _ (Int.toNat_ofNat _) ?_)) | refine @Ev.keep (List Value) _ _ ?_ | refine Rd.mk _ (by assumption) (by (first | exact trivial | exact fun x => x)) ?_ | refine Nd.mk (by (first | omega | exact ⟨rfl, rfl⟩ | exact ⟨rfl, by decide⟩ | exact ⟨by decide, rfl⟩ | exact ⟨by omega, by omega, by omega, by (simp [ti5]; omega), rfl⟩ | exact ⟨rfl, Nat.le_of_ble_eq_true rfl⟩ | exact rfl | decide)) ?_))
  refine RdA.whole h4 hl264 trivial ?_
  have tE := NodeEmpty_ret nodeK_ok w4
  rw [hNK, hem] at tE
  (repeat ((conv => whnf); first | refine G.seq ?_ | refine G.region cxOk ?_ | refine G.block ?_ | refine G.cond_t rfl ?_ | refine G.cond_f rfl ?_ | refine G.skip ?_ | refine G.exit ?_ | refine G.ret ?_ | refine Cmp.dt (by (first | (with_reducible rfl) | omega)) ?_ | refine Cmp.df (by omega) ?_ | (first | (with_reducible refine Ev.mk _ (u32_xor _ _) ?_) | (with_reducible refine Ev.mk _ (u32_and _ _) ?_) | (with_reducible refine Ev.mk _ (u32_or _ _) ?_) | (with_reducible refine Ev.mk _ (u32_add _ _) ?_) | (with_reducible refine Ev.mk _ (u32_not _) ?_) | (with_reducible refine Ev.mk _ (u8_u32 _) ?_) | refine Ix1.mk _ _ _ rfl (by decide) rfl ?_) | (first | (with_reducible refine Ev.mk _ (IntWalk.i64_in _ ?_) ?_; · omega) | (with_reducible refine Ev.mk _ (wrap_u8_nat _) ?_) | (with_reducible refine Ev.mk _ (shr8 _) ?_) | (with_reducible refine Ev.mk _ (Int.toNat_natCast _) ?_) | (with_reducible refine Ev.mk _ (Int.toNat_ofNat _) ?_)) | refine @Ev.keep (List Value) _ _ ?_ | refine Rd.mk _ (by assumption) (by (first | exact trivial | exact fun x => x)) ?_ | refine Nd.mk (by (first | omega | exact ⟨rfl, rfl⟩ | exact ⟨rfl, by decide⟩ | exact ⟨by decide, rfl⟩ | exact ⟨by omega, by omega, by omega, by (simp [ti5]; omega), rfl⟩ | exact ⟨rfl, Nat.le_of_ble_eq_true rfl⟩ | exact rfl | decide)) ?_))
  refine Cl.mk tE ?_
  clear tE
  rintro v w5 ⟨rfl, x5⟩
  have x05 := x04.trans x5
  (repeat ((conv => whnf); first | refine G.seq ?_ | refine G.region cxOk ?_ | refine G.block ?_ | refine G.cond_t rfl ?_ | refine G.cond_f rfl ?_ | refine G.skip ?_ | refine G.exit ?_ | refine G.ret ?_ | refine Cmp.dt (by (first | (with_reducible rfl) | omega)) ?_ | refine Cmp.df (by omega) ?_ | (first | (with_reducible refine Ev.mk _ (u32_xor _ _) ?_) | (with_reducible refine Ev.mk _ (u32_and _ _) ?_) | (with_reducible refine Ev.mk _ (u32_or _ _) ?_) | (with_reducible refine Ev.mk _ (u32_add _ _) ?_) | (with_reducible refine Ev.mk _ (u32_not _) ?_) | (with_reducible refine Ev.mk _ (u8_u32 _) ?_) | refine Ix1.mk _ _ _ rfl (by decide) rfl ?_) | (first | (with_reducible refine Ev.mk _ (IntWalk.i64_in _ ?_) ?_; · omega) | (with_reducible refine Ev.mk _ (wrap_u8_nat _) ?_) | (with_reducible refine Ev.mk _ (shr8 _) ?_) | (with_reducible refine Ev.mk _ (Int.toNat_natCast _) ?_) | (with_reducible refine Ev.mk _ (Int.toNat_ofNat _) ?_)) | refine @Ev.keep (List Value) _ _ ?_ | refine Rd.mk _ (by assumption) (by (first | exact trivial | exact fun x => x)) ?_ | refine Nd.mk (by (first | omega | exact ⟨rfl, rfl⟩ | exact ⟨rfl, by decide⟩ | exact ⟨by decide, rfl⟩ | exact ⟨by omega, by omega, by omega, by (simp [ti5]; omega), rfl⟩ | exact ⟨rfl, Nat.le_of_ble_eq_true rfl⟩ | exact rfl | decide)) ?_))
  have t1 := NodeSum_ret (A := none) (c := 0) (b := []) (w := w5) (.inl rfl) (Nat.le_refl _) (hR.non x05) (by decide)
  rw [sha_node] at t1
  refine Cl.mk t1 ?_
  clear t1
  rintro v w6 ⟨rfl, x6⟩
  have x06 := x05.trans x6
  (repeat ((conv => whnf); first | refine G.seq ?_ | refine G.region cxOk ?_ | refine G.block ?_ | refine G.cond_t rfl ?_ | refine G.cond_f rfl ?_ | refine G.skip ?_ | refine G.exit ?_ | refine G.ret ?_ | refine Cmp.dt (by (first | (with_reducible rfl) | omega)) ?_ | refine Cmp.df (by omega) ?_ | (first | (with_reducible refine Ev.mk _ (u32_xor _ _) ?_) | (with_reducible refine Ev.mk _ (u32_and _ _) ?_) | (with_reducible refine Ev.mk _ (u32_or _ _) ?_) | (with_reducible refine Ev.mk _ (u32_add _ _) ?_) | (with_reducible refine Ev.mk _ (u32_not _) ?_) | (with_reducible refine Ev.mk _ (u8_u32 _) ?_) | refine Ix1.mk _ _ _ rfl (by decide) rfl ?_) | (first | (with_reducible refine Ev.mk _ (IntWalk.i64_in _ ?_) ?_; · omega) | (with_reducible refine Ev.mk _ (wrap_u8_nat _) ?_) | (with_reducible refine Ev.mk _ (shr8 _) ?_) | (with_reducible refine Ev.mk _ (Int.toNat_natCast _) ?_) | (with_reducible refine Ev.mk _ (Int.toNat_ofNat _) ?_)) | refine @Ev.keep (List Value) _ _ ?_ | refine Rd.mk _ (by assumption) (by (first | exact trivial | exact fun x => x)) ?_ | refine Nd.mk (by (first | omega | exact ⟨rfl, rfl⟩ | exact ⟨rfl, by decide⟩ | exact ⟨by decide, rfl⟩ | exact ⟨by omega, by omega, by omega, by (simp [ti5]; omega), rfl⟩ | exact ⟨rfl, Nat.le_of_ble_eq_true rfl⟩ | exact rfl | decide)) ?_))
  have t2 := NodePage_ret (A := none) (c := 0) (b := []) (w := w6) (.inl rfl) (Nat.le_refl _) (hR.non x06) (by decide)
  rw [sha_page] at t2
  refine Cl.mk t2 ?_
  clear t2
  rintro v w7 ⟨rfl, x7⟩
  (repeat ((conv => whnf); first | refine G.seq ?_ | refine G.region cxOk ?_ | refine G.block ?_ | refine G.cond_t rfl ?_ | refine G.cond_f rfl ?_ | refine G.skip ?_ | refine G.exit ?_ | refine G.ret ?_ | refine Cmp.dt (by (first | (with_reducible rfl) | omega)) ?_ | refine Cmp.df (by omega) ?_ | (first | (with_reducible refine Ev.mk _ (u32_xor _ _) ?_) | (with_reducible refine Ev.mk _ (u32_and _ _) ?_) | (with_reducible refine Ev.mk _ (u32_or _ _) ?_) | (with_reducible refine Ev.mk _ (u32_add _ _) ?_) | (with_reducible refine Ev.mk _ (u32_not _) ?_) | (with_reducible refine Ev.mk _ (u8_u32 _) ?_) | refine Ix1.mk _ _ _ rfl (by decide) rfl ?_) | (first | (with_reducible refine Ev.mk _ (IntWalk.i64_in _ ?_) ?_; · omega) | (with_reducible refine Ev.mk _ (wrap_u8_nat _) ?_) | (with_reducible refine Ev.mk _ (shr8 _) ?_) | (with_reducible refine Ev.mk _ (Int.toNat_natCast _) ?_) | (with_reducible refine Ev.mk _ (Int.toNat_ofNat _) ?_)) | refine @Ev.keep (List Value) _ _ ?_ | refine Rd.mk _ (by assumption) (by (first | exact trivial | exact fun x => x)) ?_ | refine Nd.mk (by (first | omega | exact ⟨rfl, rfl⟩ | exact ⟨rfl, by decide⟩ | exact ⟨by decide, rfl⟩ | exact ⟨by omega, by omega, by omega, by (simp [ti5]; omega), rfl⟩ | exact ⟨rfl, Nat.le_of_ble_eq_true rfl⟩ | exact rfl | decide)) ?_))
  refine Eqv.sumF (a := shaN) (b := shaPg) rfl rfl (by decide) rfl rfl ?_
  (repeat ((conv => whnf); first | refine G.seq ?_ | refine G.region cxOk ?_ | refine G.block ?_ | refine G.cond_t rfl ?_ | refine G.cond_f rfl ?_ | refine G.skip ?_ | refine G.exit ?_ | refine G.ret ?_ | refine Cmp.dt (by (first | (with_reducible rfl) | omega)) ?_ | refine Cmp.df (by omega) ?_ | (first | (with_reducible refine Ev.mk _ (u32_xor _ _) ?_) | (with_reducible refine Ev.mk _ (u32_and _ _) ?_) | (with_reducible refine Ev.mk _ (u32_or _ _) ?_) | (with_reducible refine Ev.mk _ (u32_add _ _) ?_) | (with_reducible refine Ev.mk _ (u32_not _) ?_) | (with_reducible refine Ev.mk _ (u8_u32 _) ?_) | refine Ix1.mk _ _ _ rfl (by decide) rfl ?_) | (first | (with_reducible refine Ev.mk _ (IntWalk.i64_in _ ?_) ?_; · omega) | (with_reducible refine Ev.mk _ (wrap_u8_nat _) ?_) | (with_reducible refine Ev.mk _ (shr8 _) ?_) | (with_reducible refine Ev.mk _ (Int.toNat_natCast _) ?_) | (with_reducible refine Ev.mk _ (Int.toNat_ofNat _) ?_)) | refine @Ev.keep (List Value) _ _ ?_ | refine Rd.mk _ (by assumption) (by (first | exact trivial | exact fun x => x)) ?_ | refine Nd.mk (by (first | omega | exact ⟨rfl, rfl⟩ | exact ⟨rfl, by decide⟩ | exact ⟨by decide, rfl⟩ | exact ⟨by omega, by omega, by omega, by (simp [ti5]; omega), rfl⟩ | exact ⟨rfl, Nat.le_of_ble_eq_true rfl⟩ | exact rfl | decide)) ?_))
  exact Don.mk ⟨rfl, x06.trans x7⟩
end Go.Proofs.YtmoebdncmcigaaaDoor

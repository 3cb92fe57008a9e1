/-
  Noughts stand behind any bytes as the document says.
-/
import Derived.Test.YtjghlmbibimbiaaOct7
namespace Go.Proofs.Ytjghlmbibimbiaa
open Go Sx
set_option linter.unusedVariables false

/-- The first i bytes one greater. -/
def incs (l : List UInt8) (i : Nat) : List UInt8 := (l.take i).map (· + 1) ++ l.drop i
theorem incs_length (l : List UInt8) (i : Nat) : (incs l i).length = l.length := by
  simp [incs]
  omega
theorem incs_zero (l : List UInt8) : incs l 0 = l := by simp [incs]
theorem incs_get {l : List UInt8} {i : Nat} (h : i < l.length) : (incs l i)[i]? = some l[i] := by
  rw [incs, List.getElem?_append_right (by simp; omega)]
  simp [Nat.min_eq_left (Nat.le_of_lt h), h]
theorem incs_set {l : List UInt8} {i : Nat} (h : i < l.length) : (bv (incs l i)).set i (.int .u8 (((l[i] + 1).toNat : Nat) : Int)) = bv (incs l (i + 1)) := by
  have e1 : incs l i = (l.take i).map (· + 1) ++ l[i] :: l.drop (i + 1) := by rw [incs, List.drop_eq_getElem_cons h]
  have e2 : incs l (i + 1) = (l.take i).map (· + 1) ++ (l[i] + 1) :: l.drop (i + 1) := by
    rw [incs, List.take_succ_eq_append_getElem h, List.map_append, List.append_assoc]
    rfl
  have hl : ((l.take i).map (· + 1)).length = i := by simp; omega
  rw [e1, e2, bv_append, bv_append, List.set_append_right _ _ (by rw [bv_length, hl]; exact Nat.le_refl _), bv_length, hl, Nat.sub_self]
  rfl
theorem inc_of (x : UInt8) : UInt8.ofNat (x.toNat + 1) = x + 1 := by
  apply UInt8.toNat_inj.mp
  rw [UInt8.toNat_ofNat', UInt8.toNat_add]
  rfl
theorem Sx.Cells.get {w : World} {b off : Nat} {cs : List Value} (h : Cells w (some ⟨b, off, none⟩) cs) {i : Nat} {v : Value} (hv : cs[i]? = some v) : w.cell? ⟨b, off + i, none⟩ = some v := by
  rcases h with rfl | ⟨b', off', e, h⟩
  · simp at hv
  · injection e with e
    injection e with e1 e2 _
    subst e1 e2
    obtain ⟨hi, rfl⟩ := List.getElem?_eq_some_iff.mp hv
    exact h i hi
theorem OctetPads_ret (A0 : Option Addr) (c0 : Nat) (l : List UInt8) (n : Int) (w : World) (hl : l.length ≤ 1048576) (hc0 : Cells w A0 (bv l)) :
    Ret cx.P 7 #[.slice A0 l.length c0, .int .i64 n] w fun v w' => v = .bool true ∧ Ext Non w w' := by
  refine Ret.e2 (C := cx) (n := 80) cxOk Try.func7 rfl rfl rfl ?_
  (repeat ((conv => whnf); first | refine G.seq ?_ | refine G.region cxOk ?_ | refine G.block ?_ | refine G.cond_t rfl ?_ | refine G.cond_f rfl ?_ | refine G.skip ?_ | refine G.exit ?_ | refine G.ret ?_ | refine Cmp.dt (by (first | (with_reducible rfl) | omega)) ?_ | refine Cmp.df (by omega) ?_ | (first | refine Ev.mk _ (IntWalk.i64_in _ (by omega)) ?_ | refine Ev.mk _ (wrap_u8_nat _) ?_ | refine Ev.mk _ (shr8 _) ?_ | refine Ev.mk _ (Int.toNat_natCast _) ?_ | refine Ev.mk _ (Int.toNat_ofNat _) ?_) | refine @Ev.keep (List Value) _ _ ?_ | refine Rd.mk _ (by assumption) trivial ?_ | refine Nd.mk (by (first | omega | exact ⟨rfl, rfl⟩ | exact ⟨rfl, by decide⟩ | exact ⟨by decide, rfl⟩ | exact ⟨by omega, by omega, by omega, by (simp [ti5]; omega), rfl⟩)) ?_))
  refine Al.mk fun b1 w1 hN1 => ?_
  (repeat ((conv => whnf); first | refine G.seq ?_ | refine G.region cxOk ?_ | refine G.block ?_ | refine G.cond_t rfl ?_ | refine G.cond_f rfl ?_ | refine G.skip ?_ | refine G.exit ?_ | refine G.ret ?_ | refine Cmp.dt (by (first | (with_reducible rfl) | omega)) ?_ | refine Cmp.df (by omega) ?_ | (first | refine Ev.mk _ (IntWalk.i64_in _ (by omega)) ?_ | refine Ev.mk _ (wrap_u8_nat _) ?_ | refine Ev.mk _ (shr8 _) ?_ | refine Ev.mk _ (Int.toNat_natCast _) ?_ | refine Ev.mk _ (Int.toNat_ofNat _) ?_) | refine @Ev.keep (List Value) _ _ ?_ | refine Rd.mk _ (by assumption) trivial ?_ | refine Nd.mk (by (first | omega | exact ⟨rfl, rfl⟩ | exact ⟨rfl, by decide⟩ | exact ⟨by decide, rfl⟩ | exact ⟨by omega, by omega, by omega, by (simp [ti5]; omega), rfl⟩)) ?_))
  refine Run.appB undB (OB.empty hN1 rfl) (srcB (hc0.ext hN1.ext fun _ _ x => x)) (by simp; omega) hN1.ext.size (fun _ _ => trivial) ?_
  intro A2 c2 w2 hc2 o2 hx2 hb2
  rw [List.nil_append] at o2 hc2 ⊢
  have x2 : Ext Non w w2 := hN1.ext.app (OB.empty hN1 rfl) (Nat.le_refl _) hx2
  obtain ⟨_, _, e2, _, cl2, _⟩ := o2.form
  obtain ⟨rfl, -, rfl⟩ := Value.slice.inj e2
  (repeat ((conv => whnf); first | refine G.seq ?_ | refine G.region cxOk ?_ | refine G.block ?_ | refine G.cond_t rfl ?_ | refine G.cond_f rfl ?_ | refine G.skip ?_ | refine G.exit ?_ | refine G.ret ?_ | refine Cmp.dt (by (first | (with_reducible rfl) | omega)) ?_ | refine Cmp.df (by omega) ?_ | (first | refine Ev.mk _ (IntWalk.i64_in _ (by omega)) ?_ | refine Ev.mk _ (wrap_u8_nat _) ?_ | refine Ev.mk _ (shr8 _) ?_ | refine Ev.mk _ (Int.toNat_natCast _) ?_ | refine Ev.mk _ (Int.toNat_ofNat _) ?_) | refine @Ev.keep (List Value) _ _ ?_ | refine Rd.mk _ (by assumption) trivial ?_ | refine Nd.mk (by (first | omega | exact ⟨rfl, rfl⟩ | exact ⟨rfl, by decide⟩ | exact ⟨by decide, rfl⟩ | exact ⟨by omega, by omega, by omega, by (simp [ti5]; omega), rfl⟩)) ?_))
  refine Cl.mk (Pad_ret n cl2 (by omega)) ?_
  rintro v w3 ⟨v3, rfl, o3, x3⟩
  obtain ⟨A3, c3, rfl, _, _, _⟩ := o3.form
  (repeat ((conv => whnf); first | refine G.seq ?_ | refine G.region cxOk ?_ | refine G.block ?_ | refine G.cond_t rfl ?_ | refine G.cond_f rfl ?_ | refine G.skip ?_ | refine G.exit ?_ | refine G.ret ?_ | refine Cmp.dt (by (first | (with_reducible rfl) | omega)) ?_ | refine Cmp.df (by omega) ?_ | (first | refine Ev.mk _ (IntWalk.i64_in _ (by omega)) ?_ | refine Ev.mk _ (wrap_u8_nat _) ?_ | refine Ev.mk _ (shr8 _) ?_ | refine Ev.mk _ (Int.toNat_natCast _) ?_ | refine Ev.mk _ (Int.toNat_ofNat _) ?_) | refine @Ev.keep (List Value) _ _ ?_ | refine Rd.mk _ (by assumption) trivial ?_ | refine Nd.mk (by (first | omega | exact ⟨rfl, rfl⟩ | exact ⟨rfl, by decide⟩ | exact ⟨by decide, rfl⟩ | exact ⟨by omega, by omega, by omega, by (simp [ti5]; omega), rfl⟩)) ?_))
  refine Cl.mk (refPad_ret n (hc0.ext (x2.trans x3) fun _ _ x => x) (by omega)) ?_
  rintro v w4 ⟨v4, rfl, o4, x4⟩
  obtain ⟨A4, c4, rfl, _, cl4, ge4⟩ := o4.form
  have lt3 : ∀ k, inBlk A3 k → k < w3.heap.size := fun k hk => o3.lt (blkOf_of hk)
  have lt2 : ∀ k, inBlk A2 k → k < w2.heap.size := fun k hk => o2.lt (blkOf_of hk)
  generalize hpl : padS l n = q at *
  obtain ⟨pl, pe⟩ := q
  simp only at o3 o4 cl4 ⊢
  have hpn : pl.length ≤ 1048576 := by
    unfold padS at hpl
    (repeat' split at hpl) <;> (injection hpl with h1 h2; subst h1) <;> simp <;> omega
  (repeat ((conv => whnf); first | refine G.seq ?_ | refine G.region cxOk ?_ | refine G.block ?_ | refine G.cond_t rfl ?_ | refine G.cond_f rfl ?_ | refine G.skip ?_ | refine G.exit ?_ | refine G.ret ?_ | refine Cmp.dt (by (first | (with_reducible rfl) | omega)) ?_ | refine Cmp.df (by omega) ?_ | (first | refine Ev.mk _ (IntWalk.i64_in _ (by omega)) ?_ | refine Ev.mk _ (wrap_u8_nat _) ?_ | refine Ev.mk _ (shr8 _) ?_ | refine Ev.mk _ (Int.toNat_natCast _) ?_ | refine Ev.mk _ (Int.toNat_ofNat _) ?_) | refine @Ev.keep (List Value) _ _ ?_ | refine Rd.mk _ (by assumption) trivial ?_ | refine Nd.mk (by (first | omega | exact ⟨rfl, rfl⟩ | exact ⟨rfl, by decide⟩ | exact ⟨by decide, rfl⟩ | exact ⟨by omega, by omega, by omega, by (simp [ti5]; omega), rfl⟩)) ?_))
  refine G.loop (α := Nat) (fun i => [(0, .slice A0 l.length c0), (5, .slice A2 l.length c2), (6, .slice A3 pl.length c3), (7, .int .i64 pe), (8, .slice A4 pl.length c4), (9, .int .i64 pe), (10, .int .i64 (i : Int))])
    (fun i w' => i ≤ pl.length ∧ OS w' w2.heap.size 5 1 (.slice A3 pl.length c3) pl.length (bv (incs pl i)) ∧ Ext (inBlk A3) w4 w') (fun i => pl.length - i) 0 ⟨rfl, rfl, rfl, rfl, rfl, rfl, rfl, trivial⟩
    ⟨Nat.zero_le _, by rw [incs_zero]; exact o3.keep x4, Ext.refl _ _⟩ ?_
  rintro i w5 ⟨hi, o5, x5⟩
  (repeat ((conv => whnf); first | refine G.seq ?_ | refine G.region cxOk ?_ | refine G.block ?_ | refine G.cond_t rfl ?_ | refine G.cond_f rfl ?_ | refine G.skip ?_ | refine G.exit ?_ | refine G.ret ?_ | refine Cmp.dt (by (first | (with_reducible rfl) | omega)) ?_ | refine Cmp.df (by omega) ?_ | (first | refine Ev.mk _ (IntWalk.i64_in _ (by omega)) ?_ | refine Ev.mk _ (wrap_u8_nat _) ?_ | refine Ev.mk _ (shr8 _) ?_ | refine Ev.mk _ (Int.toNat_natCast _) ?_ | refine Ev.mk _ (Int.toNat_ofNat _) ?_) | refine @Ev.keep (List Value) _ _ ?_ | refine Rd.mk _ (by assumption) trivial ?_ | refine Nd.mk (by (first | omega | exact ⟨rfl, rfl⟩ | exact ⟨rfl, by decide⟩ | exact ⟨by decide, rfl⟩ | exact ⟨by omega, by omega, by omega, by (simp [ti5]; omega), rfl⟩)) ?_))
  refine Cmp.ds (fun hlt => ?_) (fun hlt => ?_)
  · have hil : i < pl.length := by omega
    obtain ⟨b3, rfl, hb3, put⟩ := (o5.keep (Ext.drew _ _)).put (i := i) (by rw [bv_length, incs_length]; exact hil)
    have f5 := o5.form
    obtain ⟨_, _, e5, _, cl5, _⟩ := f5
    obtain ⟨e5, -, -⟩ := Value.slice.inj e5
    subst e5
    have gx : w5.cell? ⟨b3, i, none⟩ = some (.int .u8 (pl[i].toNat : Int)) := by
      have := cl5.get (i := i) (v := .int .u8 (pl[i].toNat : Int)) (by rw [bv, List.getElem?_map, incs_get hil]; rfl)
      rwa [Nat.zero_add] at this
    have cl45 := cl4.ext x5 (fun k hk hk3 => by have := lt3 k hk3; have := ge4 k hk; omega)
    obtain ⟨b4, off4, rfl, gy⟩ := cells_at cl45 hil
    (repeat ((conv => whnf); first | refine G.seq ?_ | refine G.region cxOk ?_ | refine G.block ?_ | refine G.cond_t rfl ?_ | refine G.cond_f rfl ?_ | refine G.skip ?_ | refine G.exit ?_ | refine G.ret ?_ | refine Cmp.dt (by (first | (with_reducible rfl) | omega)) ?_ | refine Cmp.df (by omega) ?_ | (first | refine Ev.mk _ (IntWalk.i64_in _ (by omega)) ?_ | refine Ev.mk _ (wrap_u8_nat _) ?_ | refine Ev.mk _ (shr8 _) ?_ | refine Ev.mk _ (Int.toNat_natCast _) ?_ | refine Ev.mk _ (Int.toNat_ofNat _) ?_) | refine @Ev.keep (List Value) _ _ ?_ | refine Rd.mk _ (by assumption) trivial ?_ | refine Nd.mk (by (first | omega | exact ⟨rfl, rfl⟩ | exact ⟨rfl, by decide⟩ | exact ⟨by decide, rfl⟩ | exact ⟨by omega, by omega, by omega, by (simp [ti5]; omega), rfl⟩)) ?_))
    refine G.draw cxOk Non (.tk 0 <| .tk 1 <| .tk 2 <| .tk 3 <| .tk 4 <| .tk 5 <| .tk 6 <| .tk 7 <| .tk 8 <| .tk 9 <| .tk 10 <| .tk 11 <| .tk 12 <| .tk 13 <| .tk 14 <| .done) (by kernel_rfl) ?_
    (repeat ((conv => whnf); first | refine G.seq ?_ | refine G.region cxOk ?_ | refine G.block ?_ | refine G.cond_t rfl ?_ | refine G.cond_f rfl ?_ | refine G.skip ?_ | refine G.exit ?_ | refine G.ret ?_ | refine Cmp.dt (by (first | (with_reducible rfl) | omega)) ?_ | refine Cmp.df (by omega) ?_ | (first | refine Ev.mk _ (IntWalk.i64_in _ (by omega)) ?_ | refine Ev.mk _ (wrap_u8_nat _) ?_ | refine Ev.mk _ (shr8 _) ?_ | refine Ev.mk _ (Int.toNat_natCast _) ?_ | refine Ev.mk _ (Int.toNat_ofNat _) ?_) | refine @Ev.keep (List Value) _ _ ?_ | refine Rd.mk _ (by assumption) trivial ?_ | refine Nd.mk (by (first | omega | exact ⟨rfl, rfl⟩ | exact ⟨rfl, by decide⟩ | exact ⟨by decide, rfl⟩ | exact ⟨by omega, by omega, by omega, by (simp [ti5]; omega), rfl⟩)) ?_))
    refine Ix1.mk b3 0 i rfl (by omega) (by omega) ?_
    (repeat ((conv => whnf); first | refine G.seq ?_ | refine G.region cxOk ?_ | refine G.block ?_ | refine G.cond_t rfl ?_ | refine G.cond_f rfl ?_ | refine G.skip ?_ | refine G.exit ?_ | refine G.ret ?_ | refine Cmp.dt (by (first | (with_reducible rfl) | omega)) ?_ | refine Cmp.df (by omega) ?_ | (first | refine Ev.mk _ (IntWalk.i64_in _ (by omega)) ?_ | refine Ev.mk _ (wrap_u8_nat _) ?_ | refine Ev.mk _ (shr8 _) ?_ | refine Ev.mk _ (Int.toNat_natCast _) ?_ | refine Ev.mk _ (Int.toNat_ofNat _) ?_) | refine @Ev.keep (List Value) _ _ ?_ | refine Rd.mk _ (by assumption) trivial ?_ | refine Nd.mk (by (first | omega | exact ⟨rfl, rfl⟩ | exact ⟨rfl, by decide⟩ | exact ⟨by decide, rfl⟩ | exact ⟨by omega, by omega, by omega, by (simp [ti5]; omega), rfl⟩)) ?_))
    refine Rd.mk _ gx (fun x => x) ?_
    (repeat ((conv => whnf); first | refine G.seq ?_ | refine G.region cxOk ?_ | refine G.block ?_ | refine G.cond_t rfl ?_ | refine G.cond_f rfl ?_ | refine G.skip ?_ | refine G.exit ?_ | refine G.ret ?_ | refine Cmp.dt (by (first | (with_reducible rfl) | omega)) ?_ | refine Cmp.df (by omega) ?_ | (first | refine Ev.mk _ (IntWalk.i64_in _ (by omega)) ?_ | refine Ev.mk _ (wrap_u8_nat _) ?_ | refine Ev.mk _ (shr8 _) ?_ | refine Ev.mk _ (Int.toNat_natCast _) ?_ | refine Ev.mk _ (Int.toNat_ofNat _) ?_) | refine @Ev.keep (List Value) _ _ ?_ | refine Rd.mk _ (by assumption) trivial ?_ | refine Nd.mk (by (first | omega | exact ⟨rfl, rfl⟩ | exact ⟨rfl, by decide⟩ | exact ⟨by decide, rfl⟩ | exact ⟨by omega, by omega, by omega, by (simp [ti5]; omega), rfl⟩)) ?_))
    refine Ix1.mk b4 off4 (off4 + i) rfl (by omega) (by omega) ?_
    (repeat ((conv => whnf); first | refine G.seq ?_ | refine G.region cxOk ?_ | refine G.block ?_ | refine G.cond_t rfl ?_ | refine G.cond_f rfl ?_ | refine G.skip ?_ | refine G.exit ?_ | refine G.ret ?_ | refine Cmp.dt (by (first | (with_reducible rfl) | omega)) ?_ | refine Cmp.df (by omega) ?_ | (first | refine Ev.mk _ (IntWalk.i64_in _ (by omega)) ?_ | refine Ev.mk _ (wrap_u8_nat _) ?_ | refine Ev.mk _ (shr8 _) ?_ | refine Ev.mk _ (Int.toNat_natCast _) ?_ | refine Ev.mk _ (Int.toNat_ofNat _) ?_) | refine @Ev.keep (List Value) _ _ ?_ | refine Rd.mk _ (by assumption) trivial ?_ | refine Nd.mk (by (first | omega | exact ⟨rfl, rfl⟩ | exact ⟨rfl, by decide⟩ | exact ⟨by decide, rfl⟩ | exact ⟨by omega, by omega, by omega, by (simp [ti5]; omega), rfl⟩)) ?_))
    refine Rd.mk _ gy (fun x => x) ?_
    (repeat ((conv => whnf); first | refine G.seq ?_ | refine G.region cxOk ?_ | refine G.block ?_ | refine G.cond_t rfl ?_ | refine G.cond_f rfl ?_ | refine G.skip ?_ | refine G.exit ?_ | refine G.ret ?_ | refine Cmp.dt (by (first | (with_reducible rfl) | omega)) ?_ | refine Cmp.df (by omega) ?_ | (first | refine Ev.mk _ (IntWalk.i64_in _ (by omega)) ?_ | refine Ev.mk _ (wrap_u8_nat _) ?_ | refine Ev.mk _ (shr8 _) ?_ | refine Ev.mk _ (Int.toNat_natCast _) ?_ | refine Ev.mk _ (Int.toNat_ofNat _) ?_) | refine @Ev.keep (List Value) _ _ ?_ | refine Rd.mk _ (by assumption) trivial ?_ | refine Nd.mk (by (first | omega | exact ⟨rfl, rfl⟩ | exact ⟨rfl, by decide⟩ | exact ⟨by decide, rfl⟩ | exact ⟨by omega, by omega, by omega, by (simp [ti5]; omega), rfl⟩)) ?_))
    refine Ix1.mk b3 0 i rfl (by omega) (by omega) ?_
    (repeat ((conv => whnf); first | refine G.seq ?_ | refine G.region cxOk ?_ | refine G.block ?_ | refine G.cond_t rfl ?_ | refine G.cond_f rfl ?_ | refine G.skip ?_ | refine G.exit ?_ | refine G.ret ?_ | refine Cmp.dt (by (first | (with_reducible rfl) | omega)) ?_ | refine Cmp.df (by omega) ?_ | (first | refine Ev.mk _ (IntWalk.i64_in _ (by omega)) ?_ | refine Ev.mk _ (wrap_u8_nat _) ?_ | refine Ev.mk _ (shr8 _) ?_ | refine Ev.mk _ (Int.toNat_natCast _) ?_ | refine Ev.mk _ (Int.toNat_ofNat _) ?_) | refine @Ev.keep (List Value) _ _ ?_ | refine Rd.mk _ (by assumption) trivial ?_ | refine Nd.mk (by (first | omega | exact ⟨rfl, rfl⟩ | exact ⟨rfl, by decide⟩ | exact ⟨by decide, rfl⟩ | exact ⟨by omega, by omega, by omega, by (simp [ti5]; omega), rfl⟩)) ?_))
    refine Ix1.mk b3 0 i rfl (by omega) (by omega) ?_
    (repeat ((conv => whnf); first | refine G.seq ?_ | refine G.region cxOk ?_ | refine G.block ?_ | refine G.cond_t rfl ?_ | refine G.cond_f rfl ?_ | refine G.skip ?_ | refine G.exit ?_ | refine G.ret ?_ | refine Cmp.dt (by (first | (with_reducible rfl) | omega)) ?_ | refine Cmp.df (by omega) ?_ | (first | refine Ev.mk _ (IntWalk.i64_in _ (by omega)) ?_ | refine Ev.mk _ (wrap_u8_nat _) ?_ | refine Ev.mk _ (shr8 _) ?_ | refine Ev.mk _ (Int.toNat_natCast _) ?_ | refine Ev.mk _ (Int.toNat_ofNat _) ?_) | refine @Ev.keep (List Value) _ _ ?_ | refine Rd.mk _ (by assumption) trivial ?_ | refine Nd.mk (by (first | omega | exact ⟨rfl, rfl⟩ | exact ⟨rfl, by decide⟩ | exact ⟨by decide, rfl⟩ | exact ⟨by omega, by omega, by omega, by (simp [ti5]; omega), rfl⟩)) ?_))
    refine put .plain _ _ trivial fun w6 o6 x6 => ?_
    rw [inc_of, incs_set hil] at o6
    (repeat ((conv => whnf); first | refine G.seq ?_ | refine G.region cxOk ?_ | refine G.block ?_ | refine G.cond_t rfl ?_ | refine G.cond_f rfl ?_ | refine G.skip ?_ | refine G.exit ?_ | refine G.ret ?_ | refine Cmp.dt (by (first | (with_reducible rfl) | omega)) ?_ | refine Cmp.df (by omega) ?_ | (first | refine Ev.mk _ (IntWalk.i64_in _ (by omega)) ?_ | refine Ev.mk _ (wrap_u8_nat _) ?_ | refine Ev.mk _ (shr8 _) ?_ | refine Ev.mk _ (Int.toNat_natCast _) ?_ | refine Ev.mk _ (Int.toNat_ofNat _) ?_) | refine @Ev.keep (List Value) _ _ ?_ | refine Rd.mk _ (by assumption) trivial ?_ | refine Nd.mk (by (first | omega | exact ⟨rfl, rfl⟩ | exact ⟨rfl, by decide⟩ | exact ⟨by decide, rfl⟩ | exact ⟨by omega, by omega, by omega, by (simp [ti5]; omega), rfl⟩)) ?_))
    refine ⟨i + 1, ⟨rfl, rfl, rfl, rfl, rfl, rfl, rfl, trivial⟩, ⟨by omega, o6, (x5.non (Ext.drew _ _)).trans (x6.mono fun k e => ⟨0, none, by rw [e]⟩)⟩, by omega⟩
  · have cl25 := cl2.ext (x3.trans x4) (fun _ _ x => x) |>.ext x5 (fun k hk hk3 => by obtain ⟨A', c', e', _, _, hb⟩ := o3.form; obtain ⟨e', -, -⟩ := Value.slice.inj e'; subst e'; have := hb k hk3; have := lt2 k hk; omega)
    have x05 : Ext Non w w5 := ((x2.trans x3).trans x4).trans' x5 (fun _ _ x => x) (fun k hk hk3 => by obtain ⟨A', c', e', _, _, hb⟩ := o3.form; obtain ⟨e', -, -⟩ := Value.slice.inj e'; subst e'; have := hb k hk3; have := x2.size; omega)
    (repeat ((conv => whnf); first | refine G.seq ?_ | refine G.region cxOk ?_ | refine G.block ?_ | refine G.cond_t rfl ?_ | refine G.cond_f rfl ?_ | refine G.skip ?_ | refine G.exit ?_ | refine G.ret ?_ | refine Cmp.dt (by (first | (with_reducible rfl) | omega)) ?_ | refine Cmp.df (by omega) ?_ | (first | refine Ev.mk _ (IntWalk.i64_in _ (by omega)) ?_ | refine Ev.mk _ (wrap_u8_nat _) ?_ | refine Ev.mk _ (shr8 _) ?_ | refine Ev.mk _ (Int.toNat_natCast _) ?_ | refine Ev.mk _ (Int.toNat_ofNat _) ?_) | refine @Ev.keep (List Value) _ _ ?_ | refine Rd.mk _ (by assumption) trivial ?_ | refine Nd.mk (by (first | omega | exact ⟨rfl, rfl⟩ | exact ⟨rfl, by decide⟩ | exact ⟨by decide, rfl⟩ | exact ⟨by omega, by omega, by omega, by (simp [ti5]; omega), rfl⟩)) ?_))
    refine Cl.mk (Nought_ret cl25 (by omega)) ?_
    rintro v w6 ⟨rfl, rfl⟩
    (repeat ((conv => whnf); first | refine G.seq ?_ | refine G.region cxOk ?_ | refine G.block ?_ | refine G.cond_t rfl ?_ | refine G.cond_f rfl ?_ | refine G.skip ?_ | refine G.exit ?_ | refine G.ret ?_ | refine Cmp.dt (by (first | (with_reducible rfl) | omega)) ?_ | refine Cmp.df (by omega) ?_ | (first | refine Ev.mk _ (IntWalk.i64_in _ (by omega)) ?_ | refine Ev.mk _ (wrap_u8_nat _) ?_ | refine Ev.mk _ (shr8 _) ?_ | refine Ev.mk _ (Int.toNat_natCast _) ?_ | refine Ev.mk _ (Int.toNat_ofNat _) ?_) | refine @Ev.keep (List Value) _ _ ?_ | refine Rd.mk _ (by assumption) trivial ?_ | refine Nd.mk (by (first | omega | exact ⟨rfl, rfl⟩ | exact ⟨rfl, by decide⟩ | exact ⟨by decide, rfl⟩ | exact ⟨by omega, by omega, by omega, by (simp [ti5]; omega), rfl⟩)) ?_))
    refine Cl.mk (refNought_ret (hc0.ext x05 fun _ _ x => x) (by omega)) ?_
    rintro v w7 ⟨rfl, rfl⟩
    (repeat ((conv => whnf); first | refine G.seq ?_ | refine G.region cxOk ?_ | refine G.block ?_ | refine G.cond_t rfl ?_ | refine G.cond_f rfl ?_ | refine G.skip ?_ | refine G.exit ?_ | refine G.ret ?_ | refine Cmp.dt (by (first | (with_reducible rfl) | omega)) ?_ | refine Cmp.df (by omega) ?_ | (first | refine Ev.mk _ (IntWalk.i64_in _ (by omega)) ?_ | refine Ev.mk _ (wrap_u8_nat _) ?_ | refine Ev.mk _ (shr8 _) ?_ | refine Ev.mk _ (Int.toNat_natCast _) ?_ | refine Ev.mk _ (Int.toNat_ofNat _) ?_) | refine @Ev.keep (List Value) _ _ ?_ | refine Rd.mk _ (by assumption) trivial ?_ | refine Nd.mk (by (first | omega | exact ⟨rfl, rfl⟩ | exact ⟨rfl, by decide⟩ | exact ⟨by decide, rfl⟩ | exact ⟨by omega, by omega, by omega, by (simp [ti5]; omega), rfl⟩)) ?_))
    refine RdS.of cl25 rfl (fun _ _ => trivial) ?_
    (repeat ((conv => whnf); first | refine G.seq ?_ | refine G.region cxOk ?_ | refine G.block ?_ | refine G.cond_t rfl ?_ | refine G.cond_f rfl ?_ | refine G.skip ?_ | refine G.exit ?_ | refine G.ret ?_ | refine Cmp.dt (by (first | (with_reducible rfl) | omega)) ?_ | refine Cmp.df (by omega) ?_ | (first | refine Ev.mk _ (IntWalk.i64_in _ (by omega)) ?_ | refine Ev.mk _ (wrap_u8_nat _) ?_ | refine Ev.mk _ (shr8 _) ?_ | refine Ev.mk _ (Int.toNat_natCast _) ?_ | refine Ev.mk _ (Int.toNat_ofNat _) ?_) | refine @Ev.keep (List Value) _ _ ?_ | refine Rd.mk _ (by assumption) trivial ?_ | refine Nd.mk (by (first | omega | exact ⟨rfl, rfl⟩ | exact ⟨rfl, by decide⟩ | exact ⟨by decide, rfl⟩ | exact ⟨by omega, by omega, by omega, by (simp [ti5]; omega), rfl⟩)) ?_))
    refine RdS.of (hc0.ext x05 fun _ _ x => x) rfl (fun _ _ => trivial) ?_
    (repeat ((conv => whnf); first | refine G.seq ?_ | refine G.region cxOk ?_ | refine G.block ?_ | refine G.cond_t rfl ?_ | refine G.cond_f rfl ?_ | refine G.skip ?_ | refine G.exit ?_ | refine G.ret ?_ | refine Cmp.dt (by (first | (with_reducible rfl) | omega)) ?_ | refine Cmp.df (by omega) ?_ | (first | refine Ev.mk _ (IntWalk.i64_in _ (by omega)) ?_ | refine Ev.mk _ (wrap_u8_nat _) ?_ | refine Ev.mk _ (shr8 _) ?_ | refine Ev.mk _ (Int.toNat_natCast _) ?_ | refine Ev.mk _ (Int.toNat_ofNat _) ?_) | refine @Ev.keep (List Value) _ _ ?_ | refine Rd.mk _ (by assumption) trivial ?_ | refine Nd.mk (by (first | omega | exact ⟨rfl, rfl⟩ | exact ⟨rfl, by decide⟩ | exact ⟨by decide, rfl⟩ | exact ⟨by omega, by omega, by omega, by (simp [ti5]; omega), rfl⟩)) ?_))
    refine Cl.mk (awake_ret _) ?_
    rintro v w8 ⟨rfl, x8⟩
    (repeat ((conv => whnf); first | refine G.seq ?_ | refine G.region cxOk ?_ | refine G.block ?_ | refine G.cond_t rfl ?_ | refine G.cond_f rfl ?_ | refine G.skip ?_ | refine G.exit ?_ | refine G.ret ?_ | refine Cmp.dt (by (first | (with_reducible rfl) | omega)) ?_ | refine Cmp.df (by omega) ?_ | (first | refine Ev.mk _ (IntWalk.i64_in _ (by omega)) ?_ | refine Ev.mk _ (wrap_u8_nat _) ?_ | refine Ev.mk _ (shr8 _) ?_ | refine Ev.mk _ (Int.toNat_natCast _) ?_ | refine Ev.mk _ (Int.toNat_ofNat _) ?_) | refine @Ev.keep (List Value) _ _ ?_ | refine Rd.mk _ (by assumption) trivial ?_ | refine Nd.mk (by (first | omega | exact ⟨rfl, rfl⟩ | exact ⟨rfl, by decide⟩ | exact ⟨by decide, rfl⟩ | exact ⟨by omega, by omega, by omega, by (simp [ti5]; omega), rfl⟩)) ?_))
    exact Don.mk ⟨rfl, x05.trans x8⟩
end Go.Proofs.Ytjghlmbibimbiaa

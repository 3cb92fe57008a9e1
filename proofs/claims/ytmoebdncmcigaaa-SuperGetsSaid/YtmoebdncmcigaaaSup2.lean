
/-
  The image's first sector, laid.
-/
import Derived.Test.YtmoebdncmcigaaaSx12

import Derived.Test.YtmoebdncmcigaaaCat

import Derived.Test.YtmoebdncmcigaaaSup1

import Derived.Test.YtmoebdncmcigaaaMark

namespace Go.Proofs.Ytmoebdncmcigaaa

open Go Sx

set_option linter.unusedVariables false

set_option linter.unusedSimpArgs false

def magicS : List UInt8 := [82, 69, 76, 73, 81, 85, 65, 82, 89]
def headS (cl per : Nat) : List UInt8 := magicS ++ ([1] ++ (be 2 cl ++ [UInt8.ofNat per]))
def fullS (cl per : Nat) : List UInt8 := headS cl per ++ List.replicate 499 0
theorem headS_length (cl per : Nat) : (headS cl per).length = 13 := by simp [headS, magicS, be_length]
def Fa.ob (base : Nat) (l : List UInt8) : Fa base Non := ⟨fun v w => OB w base v l, fun _ _ _ h e => OS.exf h e fun _ _ x => x⟩
theorem Parts.exf {B : Nat} {w w' : World} {A : Option Addr} {ps : List Part} (h : Parts w A ps) (he : Exf B Non w w') : Parts w' A ps :=
  ⟨Cells.exf h.row he (fun _ _ x => x), fun k hk => Nat.lt_of_lt_of_le (h.lt k hk) he.size, fun p hp => ⟨Cells.exf (h.each p hp).1 he (fun _ _ x => x), (h.each p hp).2⟩⟩
def Fa.parts (base : Nat) (l : List UInt8) : Fa base Non :=
  ⟨fun v w' => ∃ A c ps, v = .slice A ps.length c ∧ Parts w' A ps ∧ joinP ps = l ∧ ps.length ≤ 1000, by
    rintro v w' w'' ⟨A, c, ps, e, h, e2, e3⟩ he
    exact ⟨A, c, ps, e, Parts.exf h he, e2, e3⟩⟩
def Fa.obE (base : Nat) (l : List UInt8) (z : Int) : Fa base Non :=
  ⟨fun v w' => ∃ v1, v = .tuple #[v1, .int .i64 z] ∧ OB w' base v1 l, by
    rintro v w' w'' ⟨v1, e, h⟩ he
    exact ⟨v1, e, OS.exf h he fun _ _ x => x⟩⟩

theorem Put_ret (cl per : Int) (w : World) : Ret cx.P 19 #[geo cl per] w fun v w' => ∃ v1, v = .tuple #[v1, .int .i64 (if mayS cl per = true then 0 else 2)] ∧ OB w' w.heap.size v1 (if mayS cl per = true then fullS cl.toNat per.toNat else []) ∧ Ext Non w w' := by
  refine Ret.e1 (C := cx) (n := 23) cxOk Try.func19 rfl rfl rfl ?_
  (repeat ((conv => whnf); first | refine G.seq ?_ | refine G.region cxOk ?_ | refine G.block ?_ | refine G.cond_t rfl ?_ | refine G.cond_f rfl ?_ | refine G.skip ?_ | refine G.exit ?_ | refine G.ret ?_ | refine Cmp.dt (by (first | (with_reducible rfl) | omega)) ?_ | refine Cmp.df (by omega) ?_ | (first | refine Ev.mk _ (IntWalk.i64_in _ (by omega)) ?_ | refine Ev.mk _ (wrap_u8_nat _) ?_ | refine Ev.mk _ (shr8 _) ?_ | refine Ev.mk _ (Int.toNat_natCast _) ?_ | refine Ev.mk _ (Int.toNat_ofNat _) ?_) | refine @Ev.keep (List Value) _ _ ?_ | refine Rd.mk _ (by assumption) (by (first | exact trivial | exact fun x => x)) ?_ | refine Nd.mk (by (first | omega | exact ⟨rfl, rfl⟩ | exact ⟨rfl, by decide⟩ | exact ⟨by decide, rfl⟩ | exact ⟨by omega, by omega, by omega, by (simp [ti5]; omega), rfl⟩ | exact ⟨rfl, Nat.le_of_ble_eq_true rfl⟩ | exact rfl | decide)) ?_))
  refine Al.mk fun b w1 hN => ?_
  (repeat ((conv => whnf); first | refine G.seq ?_ | refine G.region cxOk ?_ | refine G.block ?_ | refine G.cond_t rfl ?_ | refine G.cond_f rfl ?_ | refine G.skip ?_ | refine G.exit ?_ | refine G.ret ?_ | refine Cmp.dt (by (first | (with_reducible rfl) | omega)) ?_ | refine Cmp.df (by omega) ?_ | (first | refine Ev.mk _ (IntWalk.i64_in _ (by omega)) ?_ | refine Ev.mk _ (wrap_u8_nat _) ?_ | refine Ev.mk _ (shr8 _) ?_ | refine Ev.mk _ (Int.toNat_natCast _) ?_ | refine Ev.mk _ (Int.toNat_ofNat _) ?_) | refine @Ev.keep (List Value) _ _ ?_ | refine Rd.mk _ (by assumption) (by (first | exact trivial | exact fun x => x)) ?_ | refine Nd.mk (by (first | omega | exact ⟨rfl, rfl⟩ | exact ⟨rfl, by decide⟩ | exact ⟨by decide, rfl⟩ | exact ⟨by omega, by omega, by omega, by (simp [ti5]; omega), rfl⟩ | exact ⟨rfl, Nat.le_of_ble_eq_true rfl⟩ | exact rfl | decide)) ?_))
  refine RdA.whole hN.at_ rfl trivial ?_
  (repeat ((conv => whnf); first | refine G.seq ?_ | refine G.region cxOk ?_ | refine G.block ?_ | refine G.cond_t rfl ?_ | refine G.cond_f rfl ?_ | refine G.skip ?_ | refine G.exit ?_ | refine G.ret ?_ | refine Cmp.dt (by (first | (with_reducible rfl) | omega)) ?_ | refine Cmp.df (by omega) ?_ | (first | refine Ev.mk _ (IntWalk.i64_in _ (by omega)) ?_ | refine Ev.mk _ (wrap_u8_nat _) ?_ | refine Ev.mk _ (shr8 _) ?_ | refine Ev.mk _ (Int.toNat_natCast _) ?_ | refine Ev.mk _ (Int.toNat_ofNat _) ?_) | refine @Ev.keep (List Value) _ _ ?_ | refine Rd.mk _ (by assumption) (by (first | exact trivial | exact fun x => x)) ?_ | refine Nd.mk (by (first | omega | exact ⟨rfl, rfl⟩ | exact ⟨rfl, by decide⟩ | exact ⟨by decide, rfl⟩ | exact ⟨by omega, by omega, by omega, by (simp [ti5]; omega), rfl⟩ | exact ⟨rfl, Nat.le_of_ble_eq_true rfl⟩ | exact rfl | decide)) ?_))
  refine Cl.mk (may_ret cl per w1) ?_
  rintro v w2 ⟨rfl, x2⟩
  have h2 := hN.at_.ext x2 (fun x => x)
  have x02 := hN.ext.trans x2
  cases hm : mayS cl per
  · (repeat ((conv => whnf); first | refine G.seq ?_ | refine G.region cxOk ?_ | refine G.block ?_ | refine G.cond_t rfl ?_ | refine G.cond_f rfl ?_ | refine G.skip ?_ | refine G.exit ?_ | refine G.ret ?_ | refine Cmp.dt (by (first | (with_reducible rfl) | omega)) ?_ | refine Cmp.df (by omega) ?_ | (first | refine Ev.mk _ (IntWalk.i64_in _ (by omega)) ?_ | refine Ev.mk _ (wrap_u8_nat _) ?_ | refine Ev.mk _ (shr8 _) ?_ | refine Ev.mk _ (Int.toNat_natCast _) ?_ | refine Ev.mk _ (Int.toNat_ofNat _) ?_) | refine @Ev.keep (List Value) _ _ ?_ | refine Rd.mk _ (by assumption) (by (first | exact trivial | exact fun x => x)) ?_ | refine Nd.mk (by (first | omega | exact ⟨rfl, rfl⟩ | exact ⟨rfl, by decide⟩ | exact ⟨by decide, rfl⟩ | exact ⟨by omega, by omega, by omega, by (simp [ti5]; omega), rfl⟩ | exact ⟨rfl, Nat.le_of_ble_eq_true rfl⟩ | exact rfl | decide)) ?_))
    exact Don.mk ⟨_, rfl, OS.nil _ _ _ _, x02⟩
  · simp [mayS] at hm
    obtain ⟨C, rfl⟩ : ∃ C : Nat, cl = (C : Int) := ⟨cl.toNat, by omega⟩
    obtain ⟨R, rfl⟩ : ∃ R : Nat, per = (R : Int) := ⟨per.toNat, by omega⟩
    simp only [Int.toNat_natCast, if_true]
    have d0 := h2.cell (i := 0) rfl
    have d1 := h2.cell (i := 1) rfl
    (repeat ((conv => whnf); first | refine G.seq ?_ | refine G.region cxOk ?_ | refine G.block ?_ | refine G.cond_t rfl ?_ | refine G.cond_f rfl ?_ | refine G.skip ?_ | refine G.exit ?_ | refine G.ret ?_ | refine Cmp.dt (by (first | (with_reducible rfl) | omega)) ?_ | refine Cmp.df (by omega) ?_ | (first | refine Ev.mk _ (IntWalk.i64_in _ (by omega)) ?_ | refine Ev.mk _ (wrap_u8_nat _) ?_ | refine Ev.mk _ (shr8 _) ?_ | refine Ev.mk _ (Int.toNat_natCast _) ?_ | refine Ev.mk _ (Int.toNat_ofNat _) ?_) | refine @Ev.keep (List Value) _ _ ?_ | refine Rd.mk _ (by assumption) (by (first | exact trivial | exact fun x => x)) ?_ | refine Nd.mk (by (first | omega | exact ⟨rfl, rfl⟩ | exact ⟨rfl, by decide⟩ | exact ⟨by decide, rfl⟩ | exact ⟨by omega, by omega, by omega, by (simp [ti5]; omega), rfl⟩ | exact ⟨rfl, Nat.le_of_ble_eq_true rfl⟩ | exact rfl | decide)) ?_))
    refine G.flow cxOk w.heap.size Non [Fa.ob w.heap.size magicS, Fa.ob w.heap.size magicS, Fa.ob w.heap.size [1], Fa.is (.pointer (some ⟨b, 0, none⟩)), Fa.is (.int .i64 (C : Int)), Fa.is (.int .u16 (C : Int)), Fa.ob w.heap.size (be 2 C),
      Fa.is (.pointer (some ⟨b, 1, none⟩)), Fa.is (.int .i64 (R : Int)), Fa.is (.int .u8 ((UInt8.ofNat R).toNat : Int)), Fa.ob w.heap.size [UInt8.ofNat R],
      Fa.parts w.heap.size (headS C R), Fa.ob w.heap.size (headS C R), Fa.obE w.heap.size (fullS C R) 0,
      Fa.ob w.heap.size (fullS C R), Fa.is (.int .i64 0), Fa.ob w.heap.size (fullS C R), Fa.is (.int .i64 0)] [16, 17] (by kernel_rfl) (by kernel_rfl) ⟨?_, ?_, ?_, ?_, ?_, ?_, ?_, ?_, ?_, ?_, ?_, ?_, ?_, ?_, ?_, ?_, ?_, ?_, trivial⟩ ?_
    · intro w3 x3
      have hs := Nat.le_trans x02.size x3.size
      (repeat ((conv => whnf); first | refine G.seq ?_ | refine G.region cxOk ?_ | refine G.block ?_ | refine G.cond_t rfl ?_ | refine G.cond_f rfl ?_ | refine G.skip ?_ | refine G.exit ?_ | refine G.ret ?_ | refine Cmp.dt (by (first | (with_reducible rfl) | omega)) ?_ | refine Cmp.df (by omega) ?_ | (first | refine Ev.mk _ (IntWalk.i64_in _ (by omega)) ?_ | refine Ev.mk _ (wrap_u8_nat _) ?_ | refine Ev.mk _ (shr8 _) ?_ | refine Ev.mk _ (Int.toNat_natCast _) ?_ | refine Ev.mk _ (Int.toNat_ofNat _) ?_) | refine @Ev.keep (List Value) _ _ ?_ | refine Rd.mk _ (by assumption) (by (first | exact trivial | exact fun x => x)) ?_ | refine Nd.mk (by (first | omega | exact ⟨rfl, rfl⟩ | exact ⟨rfl, by decide⟩ | exact ⟨by decide, rfl⟩ | exact ⟨by omega, by omega, by omega, by (simp [ti5]; omega), rfl⟩ | exact ⟨rfl, Nat.le_of_ble_eq_true rfl⟩ | exact rfl | decide)) ?_))
      refine Al.mk fun b3 w4 hN4 => ?_
      exact OS.new (sp := []) (xs := bv magicS) hN4 hs rfl (Nat.le_refl _) rfl (.inl rfl)
    · intro w3 x3 v0 h0
      obtain ⟨A, c, rfl, _⟩ := OB.form h0
      (repeat ((conv => whnf); first | refine G.seq ?_ | refine G.region cxOk ?_ | refine G.block ?_ | refine G.cond_t rfl ?_ | refine G.cond_f rfl ?_ | refine G.skip ?_ | refine G.exit ?_ | refine G.ret ?_ | refine Cmp.dt (by (first | (with_reducible rfl) | omega)) ?_ | refine Cmp.df (by omega) ?_ | (first | refine Ev.mk _ (IntWalk.i64_in _ (by omega)) ?_ | refine Ev.mk _ (wrap_u8_nat _) ?_ | refine Ev.mk _ (shr8 _) ?_ | refine Ev.mk _ (Int.toNat_natCast _) ?_ | refine Ev.mk _ (Int.toNat_ofNat _) ?_) | refine @Ev.keep (List Value) _ _ ?_ | refine Rd.mk _ (by assumption) (by (first | exact trivial | exact fun x => x)) ?_ | refine Nd.mk (by (first | omega | exact ⟨rfl, rfl⟩ | exact ⟨rfl, by decide⟩ | exact ⟨by decide, rfl⟩ | exact ⟨by omega, by omega, by omega, by (simp [ti5]; omega), rfl⟩ | exact ⟨rfl, Nat.le_of_ble_eq_true rfl⟩ | exact rfl | decide)) ?_))
      exact Mk.bytes (l := magicS) h0 (by decide) (Nat.le_refl _) fun w4 x4 o4 => o4
    · intro w3 x3
      have hs := Nat.le_trans x02.size x3.size
      (repeat ((conv => whnf); first | refine G.seq ?_ | refine G.region cxOk ?_ | refine G.block ?_ | refine G.cond_t rfl ?_ | refine G.cond_f rfl ?_ | refine G.skip ?_ | refine G.exit ?_ | refine G.ret ?_ | refine Cmp.dt (by (first | (with_reducible rfl) | omega)) ?_ | refine Cmp.df (by omega) ?_ | (first | refine Ev.mk _ (IntWalk.i64_in _ (by omega)) ?_ | refine Ev.mk _ (wrap_u8_nat _) ?_ | refine Ev.mk _ (shr8 _) ?_ | refine Ev.mk _ (Int.toNat_natCast _) ?_ | refine Ev.mk _ (Int.toNat_ofNat _) ?_) | refine @Ev.keep (List Value) _ _ ?_ | refine Rd.mk _ (by assumption) (by (first | exact trivial | exact fun x => x)) ?_ | refine Nd.mk (by (first | omega | exact ⟨rfl, rfl⟩ | exact ⟨rfl, by decide⟩ | exact ⟨by decide, rfl⟩ | exact ⟨by omega, by omega, by omega, by (simp [ti5]; omega), rfl⟩ | exact ⟨rfl, Nat.le_of_ble_eq_true rfl⟩ | exact rfl | decide)) ?_))
      refine Al.mk fun b3 w4 hN4 => ?_
      exact OS.new (sp := []) (xs := bv [1]) hN4 hs rfl (Nat.le_refl _) rfl (.inl rfl)
    · intro w3 x3
      (repeat ((conv => whnf); first | refine G.seq ?_ | refine G.region cxOk ?_ | refine G.block ?_ | refine G.cond_t rfl ?_ | refine G.cond_f rfl ?_ | refine G.skip ?_ | refine G.exit ?_ | refine G.ret ?_ | refine Cmp.dt (by (first | (with_reducible rfl) | omega)) ?_ | refine Cmp.df (by omega) ?_ | (first | refine Ev.mk _ (IntWalk.i64_in _ (by omega)) ?_ | refine Ev.mk _ (wrap_u8_nat _) ?_ | refine Ev.mk _ (shr8 _) ?_ | refine Ev.mk _ (Int.toNat_natCast _) ?_ | refine Ev.mk _ (Int.toNat_ofNat _) ?_) | refine @Ev.keep (List Value) _ _ ?_ | refine Rd.mk _ (by assumption) (by (first | exact trivial | exact fun x => x)) ?_ | refine Nd.mk (by (first | omega | exact ⟨rfl, rfl⟩ | exact ⟨rfl, by decide⟩ | exact ⟨by decide, rfl⟩ | exact ⟨by omega, by omega, by omega, by (simp [ti5]; omega), rfl⟩ | exact ⟨rfl, Nat.le_of_ble_eq_true rfl⟩ | exact rfl | decide)) ?_))
      rfl
    · intro w3 x3 v3 h3
      obtain rfl : v3 = _ := h3
      have g := x3.cell (a := ⟨b, 0, none⟩) d0 (fun x => x)
      (repeat ((conv => whnf); first | refine G.seq ?_ | refine G.region cxOk ?_ | refine G.block ?_ | refine G.cond_t rfl ?_ | refine G.cond_f rfl ?_ | refine G.skip ?_ | refine G.exit ?_ | refine G.ret ?_ | refine Cmp.dt (by (first | (with_reducible rfl) | omega)) ?_ | refine Cmp.df (by omega) ?_ | (first | refine Ev.mk _ (IntWalk.i64_in _ (by omega)) ?_ | refine Ev.mk _ (wrap_u8_nat _) ?_ | refine Ev.mk _ (shr8 _) ?_ | refine Ev.mk _ (Int.toNat_natCast _) ?_ | refine Ev.mk _ (Int.toNat_ofNat _) ?_) | refine @Ev.keep (List Value) _ _ ?_ | refine Rd.mk _ (by assumption) (by (first | exact trivial | exact fun x => x)) ?_ | refine Nd.mk (by (first | omega | exact ⟨rfl, rfl⟩ | exact ⟨rfl, by decide⟩ | exact ⟨by decide, rfl⟩ | exact ⟨by omega, by omega, by omega, by (simp [ti5]; omega), rfl⟩ | exact ⟨rfl, Nat.le_of_ble_eq_true rfl⟩ | exact rfl | decide)) ?_))
      rfl
    · intro w3 x3 v3 h3
      obtain rfl : v3 = _ := h3
      (repeat ((conv => whnf); first | refine G.seq ?_ | refine G.region cxOk ?_ | refine G.block ?_ | refine G.cond_t rfl ?_ | refine G.cond_f rfl ?_ | refine G.skip ?_ | refine G.exit ?_ | refine G.ret ?_ | refine Cmp.dt (by (first | (with_reducible rfl) | omega)) ?_ | refine Cmp.df (by omega) ?_ | (first | refine Ev.mk _ (IntWalk.i64_in _ (by omega)) ?_ | refine Ev.mk _ (wrap_u8_nat _) ?_ | refine Ev.mk _ (shr8 _) ?_ | refine Ev.mk _ (Int.toNat_natCast _) ?_ | refine Ev.mk _ (Int.toNat_ofNat _) ?_) | refine @Ev.keep (List Value) _ _ ?_ | refine Rd.mk _ (by assumption) (by (first | exact trivial | exact fun x => x)) ?_ | refine Nd.mk (by (first | omega | exact ⟨rfl, rfl⟩ | exact ⟨rfl, by decide⟩ | exact ⟨by decide, rfl⟩ | exact ⟨by omega, by omega, by omega, by (simp [ti5]; omega), rfl⟩ | exact ⟨rfl, Nat.le_of_ble_eq_true rfl⟩ | exact rfl | decide)) ?_))
      refine Ev.mk (C : Int) (IntWalk.u16_in _ (by omega)) ?_
      rfl
    · intro w3 x3 v3 h3
      obtain rfl : v3 = _ := h3
      have hs := Nat.le_trans x02.size x3.size
      (repeat ((conv => whnf); first | refine G.seq ?_ | refine G.region cxOk ?_ | refine G.block ?_ | refine G.cond_t rfl ?_ | refine G.cond_f rfl ?_ | refine G.skip ?_ | refine G.exit ?_ | refine G.ret ?_ | refine Cmp.dt (by (first | (with_reducible rfl) | omega)) ?_ | refine Cmp.df (by omega) ?_ | (first | refine Ev.mk _ (IntWalk.i64_in _ (by omega)) ?_ | refine Ev.mk _ (wrap_u8_nat _) ?_ | refine Ev.mk _ (shr8 _) ?_ | refine Ev.mk _ (Int.toNat_natCast _) ?_ | refine Ev.mk _ (Int.toNat_ofNat _) ?_) | refine @Ev.keep (List Value) _ _ ?_ | refine Rd.mk _ (by assumption) (by (first | exact trivial | exact fun x => x)) ?_ | refine Nd.mk (by (first | omega | exact ⟨rfl, rfl⟩ | exact ⟨rfl, by decide⟩ | exact ⟨by decide, rfl⟩ | exact ⟨by omega, by omega, by omega, by (simp [ti5]; omega), rfl⟩ | exact ⟨rfl, Nat.le_of_ble_eq_true rfl⟩ | exact rfl | decide)) ?_))
      refine Cl.dr (Put16_ret C (by omega) w3) (fun v w' ⟨b, _, h⟩ => h.ext) ?_
      rintro v w4 ⟨b4, rfl, hN4⟩
      exact OS.new (n := 2) (c := 2) (sp := []) (xs := bv (be 2 C)) (by rw [List.append_nil]; exact hN4) hs (by rw [bv_length, be_length]) (Nat.le_refl _) (by rw [List.append_nil, bv_length, be_length]) (.inl rfl)
    · intro w3 x3
      (repeat ((conv => whnf); first | refine G.seq ?_ | refine G.region cxOk ?_ | refine G.block ?_ | refine G.cond_t rfl ?_ | refine G.cond_f rfl ?_ | refine G.skip ?_ | refine G.exit ?_ | refine G.ret ?_ | refine Cmp.dt (by (first | (with_reducible rfl) | omega)) ?_ | refine Cmp.df (by omega) ?_ | (first | refine Ev.mk _ (IntWalk.i64_in _ (by omega)) ?_ | refine Ev.mk _ (wrap_u8_nat _) ?_ | refine Ev.mk _ (shr8 _) ?_ | refine Ev.mk _ (Int.toNat_natCast _) ?_ | refine Ev.mk _ (Int.toNat_ofNat _) ?_) | refine @Ev.keep (List Value) _ _ ?_ | refine Rd.mk _ (by assumption) (by (first | exact trivial | exact fun x => x)) ?_ | refine Nd.mk (by (first | omega | exact ⟨rfl, rfl⟩ | exact ⟨rfl, by decide⟩ | exact ⟨by decide, rfl⟩ | exact ⟨by omega, by omega, by omega, by (simp [ti5]; omega), rfl⟩ | exact ⟨rfl, Nat.le_of_ble_eq_true rfl⟩ | exact rfl | decide)) ?_))
      rfl
    · intro w3 x3 v3 h3
      obtain rfl : v3 = _ := h3
      have g := x3.cell (a := ⟨b, 1, none⟩) d1 (fun x => x)
      (repeat ((conv => whnf); first | refine G.seq ?_ | refine G.region cxOk ?_ | refine G.block ?_ | refine G.cond_t rfl ?_ | refine G.cond_f rfl ?_ | refine G.skip ?_ | refine G.exit ?_ | refine G.ret ?_ | refine Cmp.dt (by (first | (with_reducible rfl) | omega)) ?_ | refine Cmp.df (by omega) ?_ | (first | refine Ev.mk _ (IntWalk.i64_in _ (by omega)) ?_ | refine Ev.mk _ (wrap_u8_nat _) ?_ | refine Ev.mk _ (shr8 _) ?_ | refine Ev.mk _ (Int.toNat_natCast _) ?_ | refine Ev.mk _ (Int.toNat_ofNat _) ?_) | refine @Ev.keep (List Value) _ _ ?_ | refine Rd.mk _ (by assumption) (by (first | exact trivial | exact fun x => x)) ?_ | refine Nd.mk (by (first | omega | exact ⟨rfl, rfl⟩ | exact ⟨rfl, by decide⟩ | exact ⟨by decide, rfl⟩ | exact ⟨by omega, by omega, by omega, by (simp [ti5]; omega), rfl⟩ | exact ⟨rfl, Nat.le_of_ble_eq_true rfl⟩ | exact rfl | decide)) ?_))
      rfl
    · intro w3 x3 v3 h3
      obtain rfl : v3 = _ := h3
      (repeat ((conv => whnf); first | refine G.seq ?_ | refine G.region cxOk ?_ | refine G.block ?_ | refine G.cond_t rfl ?_ | refine G.cond_f rfl ?_ | refine G.skip ?_ | refine G.exit ?_ | refine G.ret ?_ | refine Cmp.dt (by (first | (with_reducible rfl) | omega)) ?_ | refine Cmp.df (by omega) ?_ | (first | refine Ev.mk _ (IntWalk.i64_in _ (by omega)) ?_ | refine Ev.mk _ (wrap_u8_nat _) ?_ | refine Ev.mk _ (shr8 _) ?_ | refine Ev.mk _ (Int.toNat_natCast _) ?_ | refine Ev.mk _ (Int.toNat_ofNat _) ?_) | refine @Ev.keep (List Value) _ _ ?_ | refine Rd.mk _ (by assumption) (by (first | exact trivial | exact fun x => x)) ?_ | refine Nd.mk (by (first | omega | exact ⟨rfl, rfl⟩ | exact ⟨rfl, by decide⟩ | exact ⟨by decide, rfl⟩ | exact ⟨by omega, by omega, by omega, by (simp [ti5]; omega), rfl⟩ | exact ⟨rfl, Nat.le_of_ble_eq_true rfl⟩ | exact rfl | decide)) ?_))
      rfl
    · intro w3 x3 v3 h3
      obtain rfl : v3 = _ := h3
      have hs := Nat.le_trans x02.size x3.size
      (repeat ((conv => whnf); first | refine G.seq ?_ | refine G.region cxOk ?_ | refine G.block ?_ | refine G.cond_t rfl ?_ | refine G.cond_f rfl ?_ | refine G.skip ?_ | refine G.exit ?_ | refine G.ret ?_ | refine Cmp.dt (by (first | (with_reducible rfl) | omega)) ?_ | refine Cmp.df (by omega) ?_ | (first | refine Ev.mk _ (IntWalk.i64_in _ (by omega)) ?_ | refine Ev.mk _ (wrap_u8_nat _) ?_ | refine Ev.mk _ (shr8 _) ?_ | refine Ev.mk _ (Int.toNat_natCast _) ?_ | refine Ev.mk _ (Int.toNat_ofNat _) ?_) | refine @Ev.keep (List Value) _ _ ?_ | refine Rd.mk _ (by assumption) (by (first | exact trivial | exact fun x => x)) ?_ | refine Nd.mk (by (first | omega | exact ⟨rfl, rfl⟩ | exact ⟨rfl, by decide⟩ | exact ⟨by decide, rfl⟩ | exact ⟨by omega, by omega, by omega, by (simp [ti5]; omega), rfl⟩ | exact ⟨rfl, Nat.le_of_ble_eq_true rfl⟩ | exact rfl | decide)) ?_))
      refine Al.mk fun b3 w4 hN4 => ?_
      exact OS.new (n := 1) (c := 1) (sp := []) (xs := bv [UInt8.ofNat R]) hN4 hs rfl (Nat.le_refl _) rfl (.inl rfl)
    · intro w3 x3 v1 h1 v2 h2' v6 h6 v10 h10
      obtain ⟨A1, c1, rfl, l1, k1, _⟩ := OB.form h1
      obtain ⟨A2, c2, rfl, l2, k2, _⟩ := OB.form h2'
      obtain ⟨A6, c6, rfl, l6, k6, _⟩ := OB.form h6
      obtain ⟨A10, c10, rfl, l10, k10, _⟩ := OB.form h10
      (repeat ((conv => whnf); first | refine G.seq ?_ | refine G.region cxOk ?_ | refine G.block ?_ | refine G.cond_t rfl ?_ | refine G.cond_f rfl ?_ | refine G.skip ?_ | refine G.exit ?_ | refine G.ret ?_ | refine Cmp.dt (by (first | (with_reducible rfl) | omega)) ?_ | refine Cmp.df (by omega) ?_ | (first | refine Ev.mk _ (IntWalk.i64_in _ (by omega)) ?_ | refine Ev.mk _ (wrap_u8_nat _) ?_ | refine Ev.mk _ (shr8 _) ?_ | refine Ev.mk _ (Int.toNat_natCast _) ?_ | refine Ev.mk _ (Int.toNat_ofNat _) ?_) | refine @Ev.keep (List Value) _ _ ?_ | refine Rd.mk _ (by assumption) (by (first | exact trivial | exact fun x => x)) ?_ | refine Nd.mk (by (first | omega | exact ⟨rfl, rfl⟩ | exact ⟨rfl, by decide⟩ | exact ⟨by decide, rfl⟩ | exact ⟨by omega, by omega, by omega, by (simp [ti5]; omega), rfl⟩ | exact ⟨rfl, Nat.le_of_ble_eq_true rfl⟩ | exact rfl | decide)) ?_))
      refine Al.mk fun b3 w4 hN4 => ?_
      refine ⟨some ⟨b3, 0, none⟩, 4, [(A1, c1, magicS), (A2, c2, [1]), (A6, c6, be 2 C), (A10, c10, [UInt8.ofNat R])], rfl, ⟨Cells.whole hN4.at_, fun k hk => ?_, fun p hp => ?_⟩, by simp [joinP, headS], by simp⟩
      · obtain ⟨o, sp, e⟩ := hk
        injection e with e
        injection e with e _ _
        subst e
        exact hN4.at_.lt
      · have key : ∀ {A : Option Addr} {c : Nat} {l : List UInt8}, OB w3 w.heap.size (.slice A l.length c) l → l.length ≤ c → Cells w3 A (bv l) → Cells w4 A (bv l) ∧ l.length ≤ c := fun ho hl hk =>
          ⟨hk.ext hN4.ext (fun _ _ x => x), hl⟩
        simp only [List.mem_cons, List.not_mem_nil, or_false] at hp
        rcases hp with rfl | rfl | rfl | rfl
        · exact key h1 l1 k1
        · exact key h2' l2 k2
        · exact key h6 l6 k6
        · exact key h10 l10 k10
    · intro w3 x3 v11 h11 v6 h6
      obtain ⟨A, c, ps, rfl, hp, hj, hn⟩ := h11
      have hs := Nat.le_trans x02.size x3.size
      (repeat ((conv => whnf); first | refine G.seq ?_ | refine G.region cxOk ?_ | refine G.block ?_ | refine G.cond_t rfl ?_ | refine G.cond_f rfl ?_ | refine G.skip ?_ | refine G.exit ?_ | refine G.ret ?_ | refine Cmp.dt (by (first | (with_reducible rfl) | omega)) ?_ | refine Cmp.df (by omega) ?_ | (first | refine Ev.mk _ (IntWalk.i64_in _ (by omega)) ?_ | refine Ev.mk _ (wrap_u8_nat _) ?_ | refine Ev.mk _ (shr8 _) ?_ | refine Ev.mk _ (Int.toNat_natCast _) ?_ | refine Ev.mk _ (Int.toNat_ofNat _) ?_) | refine @Ev.keep (List Value) _ _ ?_ | refine Rd.mk _ (by assumption) (by (first | exact trivial | exact fun x => x)) ?_ | refine Nd.mk (by (first | omega | exact ⟨rfl, rfl⟩ | exact ⟨rfl, by decide⟩ | exact ⟨by decide, rfl⟩ | exact ⟨by omega, by omega, by omega, by (simp [ti5]; omega), rfl⟩ | exact ⟨rfl, Nat.le_of_ble_eq_true rfl⟩ | exact rfl | decide)) ?_))
      refine Cl.dr (Concat_ret hp (by rw [hj, headS_length]; decide) (by omega)) (fun v w' h => h.2) ?_
      rintro v w4 ⟨o4, x4⟩
      rw [hj] at o4
      exact OB.up o4 hs
    · intro w3 x3 v12 h12 v12' h12'
      obtain ⟨A, c, rfl, _, k12, _⟩ := OB.form h12
      have hs := Nat.le_trans x02.size x3.size
      (repeat ((conv => whnf); first | refine G.seq ?_ | refine G.region cxOk ?_ | refine G.block ?_ | refine G.cond_t rfl ?_ | refine G.cond_f rfl ?_ | refine G.skip ?_ | refine G.exit ?_ | refine G.ret ?_ | refine Cmp.dt (by (first | (with_reducible rfl) | omega)) ?_ | refine Cmp.df (by omega) ?_ | (first | refine Ev.mk _ (IntWalk.i64_in _ (by omega)) ?_ | refine Ev.mk _ (wrap_u8_nat _) ?_ | refine Ev.mk _ (shr8 _) ?_ | refine Ev.mk _ (Int.toNat_natCast _) ?_ | refine Ev.mk _ (Int.toNat_ofNat _) ?_) | refine @Ev.keep (List Value) _ _ ?_ | refine Rd.mk _ (by assumption) (by (first | exact trivial | exact fun x => x)) ?_ | refine Nd.mk (by (first | omega | exact ⟨rfl, rfl⟩ | exact ⟨rfl, by decide⟩ | exact ⟨by decide, rfl⟩ | exact ⟨by omega, by omega, by omega, by (simp [ti5]; omega), rfl⟩ | exact ⟨rfl, Nat.le_of_ble_eq_true rfl⟩ | exact rfl | decide)) ?_))
      refine Cl.dr (Pad_ret 512 k12 (by rw [headS_length]; decide)) (fun v w' ⟨_, _, _, h⟩ => h) ?_
      have e : padS (headS C R) 512 = (fullS C R, 0) := by
        unfold padS fullS
        rw [if_neg (by decide), if_neg (by rw [headS_length]; decide), headS_length]
        rfl
      rw [e]
      rintro v w4 ⟨v4, rfl, o4, x4⟩
      exact ⟨v4, rfl, OB.up o4 hs⟩
    · intro w3 x3 v13 h13
      obtain ⟨v4, rfl, o4⟩ := h13
      (repeat ((conv => whnf); first | refine G.seq ?_ | refine G.region cxOk ?_ | refine G.block ?_ | refine G.cond_t rfl ?_ | refine G.cond_f rfl ?_ | refine G.skip ?_ | refine G.exit ?_ | refine G.ret ?_ | refine Cmp.dt (by (first | (with_reducible rfl) | omega)) ?_ | refine Cmp.df (by omega) ?_ | (first | refine Ev.mk _ (IntWalk.i64_in _ (by omega)) ?_ | refine Ev.mk _ (wrap_u8_nat _) ?_ | refine Ev.mk _ (shr8 _) ?_ | refine Ev.mk _ (Int.toNat_natCast _) ?_ | refine Ev.mk _ (Int.toNat_ofNat _) ?_) | refine @Ev.keep (List Value) _ _ ?_ | refine Rd.mk _ (by assumption) (by (first | exact trivial | exact fun x => x)) ?_ | refine Nd.mk (by (first | omega | exact ⟨rfl, rfl⟩ | exact ⟨rfl, by decide⟩ | exact ⟨by decide, rfl⟩ | exact ⟨by omega, by omega, by omega, by (simp [ti5]; omega), rfl⟩ | exact ⟨rfl, Nat.le_of_ble_eq_true rfl⟩ | exact rfl | decide)) ?_))
      exact o4
    · intro w3 x3 v13 h13
      obtain ⟨v4, rfl, o4⟩ := h13
      (repeat ((conv => whnf); first | refine G.seq ?_ | refine G.region cxOk ?_ | refine G.block ?_ | refine G.cond_t rfl ?_ | refine G.cond_f rfl ?_ | refine G.skip ?_ | refine G.exit ?_ | refine G.ret ?_ | refine Cmp.dt (by (first | (with_reducible rfl) | omega)) ?_ | refine Cmp.df (by omega) ?_ | (first | refine Ev.mk _ (IntWalk.i64_in _ (by omega)) ?_ | refine Ev.mk _ (wrap_u8_nat _) ?_ | refine Ev.mk _ (shr8 _) ?_ | refine Ev.mk _ (Int.toNat_natCast _) ?_ | refine Ev.mk _ (Int.toNat_ofNat _) ?_) | refine @Ev.keep (List Value) _ _ ?_ | refine Rd.mk _ (by assumption) (by (first | exact trivial | exact fun x => x)) ?_ | refine Nd.mk (by (first | omega | exact ⟨rfl, rfl⟩ | exact ⟨rfl, by decide⟩ | exact ⟨by decide, rfl⟩ | exact ⟨by omega, by omega, by omega, by (simp [ti5]; omega), rfl⟩ | exact ⟨rfl, Nat.le_of_ble_eq_true rfl⟩ | exact rfl | decide)) ?_))
      rfl
    · intro w3 x3 v14 h14
      iterate 17 (intro _ _)
      (repeat ((conv => whnf); first | refine G.seq ?_ | refine G.region cxOk ?_ | refine G.block ?_ | refine G.cond_t rfl ?_ | refine G.cond_f rfl ?_ | refine G.skip ?_ | refine G.exit ?_ | refine G.ret ?_ | refine Cmp.dt (by (first | (with_reducible rfl) | omega)) ?_ | refine Cmp.df (by omega) ?_ | (first | refine Ev.mk _ (IntWalk.i64_in _ (by omega)) ?_ | refine Ev.mk _ (wrap_u8_nat _) ?_ | refine Ev.mk _ (shr8 _) ?_ | refine Ev.mk _ (Int.toNat_natCast _) ?_ | refine Ev.mk _ (Int.toNat_ofNat _) ?_) | refine @Ev.keep (List Value) _ _ ?_ | refine Rd.mk _ (by assumption) (by (first | exact trivial | exact fun x => x)) ?_ | refine Nd.mk (by (first | omega | exact ⟨rfl, rfl⟩ | exact ⟨rfl, by decide⟩ | exact ⟨by decide, rfl⟩ | exact ⟨by omega, by omega, by omega, by (simp [ti5]; omega), rfl⟩ | exact ⟨rfl, Nat.le_of_ble_eq_true rfl⟩ | exact rfl | decide)) ?_))
      exact h14
    · intro w3 x3 v15 h15
      obtain rfl : v15 = _ := h15
      iterate 18 (intro _ _)
      (repeat ((conv => whnf); first | refine G.seq ?_ | refine G.region cxOk ?_ | refine G.block ?_ | refine G.cond_t rfl ?_ | refine G.cond_f rfl ?_ | refine G.skip ?_ | refine G.exit ?_ | refine G.ret ?_ | refine Cmp.dt (by (first | (with_reducible rfl) | omega)) ?_ | refine Cmp.df (by omega) ?_ | (first | refine Ev.mk _ (IntWalk.i64_in _ (by omega)) ?_ | refine Ev.mk _ (wrap_u8_nat _) ?_ | refine Ev.mk _ (shr8 _) ?_ | refine Ev.mk _ (Int.toNat_natCast _) ?_ | refine Ev.mk _ (Int.toNat_ofNat _) ?_) | refine @Ev.keep (List Value) _ _ ?_ | refine Rd.mk _ (by assumption) (by (first | exact trivial | exact fun x => x)) ?_ | refine Nd.mk (by (first | omega | exact ⟨rfl, rfl⟩ | exact ⟨rfl, by decide⟩ | exact ⟨by decide, rfl⟩ | exact ⟨by omega, by omega, by omega, by (simp [ti5]; omega), rfl⟩ | exact ⟨rfl, Nat.le_of_ble_eq_true rfl⟩ | exact rfl | decide)) ?_))
      rfl
    · intro w3 x3 v16 h16 v17 h17
      obtain rfl : v17 = _ := h17
      (repeat ((conv => whnf); first | refine G.seq ?_ | refine G.region cxOk ?_ | refine G.block ?_ | refine G.cond_t rfl ?_ | refine G.cond_f rfl ?_ | refine G.skip ?_ | refine G.exit ?_ | refine G.ret ?_ | refine Cmp.dt (by (first | (with_reducible rfl) | omega)) ?_ | refine Cmp.df (by omega) ?_ | (first | refine Ev.mk _ (IntWalk.i64_in _ (by omega)) ?_ | refine Ev.mk _ (wrap_u8_nat _) ?_ | refine Ev.mk _ (shr8 _) ?_ | refine Ev.mk _ (Int.toNat_natCast _) ?_ | refine Ev.mk _ (Int.toNat_ofNat _) ?_) | refine @Ev.keep (List Value) _ _ ?_ | refine Rd.mk _ (by assumption) (by (first | exact trivial | exact fun x => x)) ?_ | refine Nd.mk (by (first | omega | exact ⟨rfl, rfl⟩ | exact ⟨rfl, by decide⟩ | exact ⟨by decide, rfl⟩ | exact ⟨by omega, by omega, by omega, by (simp [ti5]; omega), rfl⟩ | exact ⟨rfl, Nat.le_of_ble_eq_true rfl⟩ | exact rfl | decide)) ?_))
      exact Don.mk ⟨_, rfl, h16, x3.ext (x02.non (Ext.drew _ _)) (Nat.le_refl _)⟩
end Go.Proofs.Ytmoebdncmcigaaa

import Derived.Test.YtfphlbogblldbaaDvA
import Derived.Test.YtfphlbogblldbaaDv8
import Derived.Test.YtfphlbogblldbaaOpenRows

/-
  The calls of a device, opened out of an argument's reading; few; written.
-/



namespace Go.Proofs.Ytfphlbogblldbaa

open Go Sx Go.ChangeShapes Go.WideShapes Go.ChangeAt Go.RowKit

set_option linter.unusedVariables false

set_option linter.unusedSimpArgs false

set_option maxRecDepth 100000

/-- A call: what, where, the bytes, done. -/
structure DA where
  kind : Nat
  at_ : Int
  A : Option Addr
  c : Nat
  data : List UInt8
  done : Bool
instance : Inhabited DA := ⟨⟨0, 0, none, 0, [], false⟩⟩
def dav (x : DA) : List Value := [.int .u8 (x.kind : Int), .int .i64 x.at_, .slice x.A x.data.length x.c, .bool x.done]
structure DaOk (w : World) (x : DA) : Prop where
  kind : x.kind < 256
  lo : -9223372036854775808 ≤ x.at_
  hi : x.at_ ≤ 9223372036854775807
  cl : Cells w x.A (bv x.data)
  lc : x.data.length ≤ x.c
  bound : x.data.length ≤ 9223372036854775807
structure DActs (w : World) (A : Option Addr) (L : List DA) : Prop where
  at_ : L = [] ∨ ∃ b off, A = some ⟨b, off, none⟩ ∧ ∀ i (h : i < L.length) j (hj : j < (dav L[i]).length), w.cell? ⟨b, off + i * 4 + j, none⟩ = some (dav L[i])[j]
  ok : ∀ x ∈ L, DaOk w x
theorem DActs.ext {w w' : World} {A : Option Addr} {L : List DA} (h : DActs w A L) (x : Ext Non w w') : DActs w' A L := by
  refine ⟨h.at_.imp id fun ⟨b, off, e, hc⟩ => ⟨b, off, e, fun i hi j hj => x.cell (hc i hi j hj) (fun h => h)⟩, fun y hy => ?_⟩
  obtain ⟨h1, h2, h3, h4, h5, h6⟩ := h.ok y hy
  exact ⟨h1, h2, h3, h4.ext x (fun _ _ x => x), h5, h6⟩
theorem DActs.get {w : World} {A : Option Addr} {L : List DA} (h : DActs w A L) {i : Nat} (hi : i < L.length) :
    ∃ b off, A = some ⟨b, off, none⟩ ∧ w.cell? ⟨b, off + i * 4, none⟩ = some (.int .u8 (L[i].kind : Int)) ∧ w.cell? ⟨b, off + i * 4 + 1, none⟩ = some (.int .i64 L[i].at_) ∧ w.cell? ⟨b, off + i * 4 + 2, none⟩ = some (.slice L[i].A L[i].data.length L[i].c) ∧ w.cell? ⟨b, off + i * 4 + 3, none⟩ = some (.bool L[i].done) := by
  rcases h.at_ with e | ⟨b, off, e, hc⟩
  · subst e
    exact absurd hi (by simp)
  · exact ⟨b, off, e, hc i hi 0 (by exact (by decide : 0 < 4)), hc i hi 1 (by exact (by decide : 1 < 4)), hc i hi 2 (by exact (by decide : 2 < 4)), hc i hi 3 (by exact (by decide : 3 < 4))⟩

section

variable {H : Type} {enc : TypeId × Value → H}
theorem trod_da {m base : Nat} {w : World} {spare : Nat → Bool} {held : Bool} {cs : List Value} {x : DataW H × List MemPlace}
    (hf : DataW.trod enc Try.prog w base spare held m 34 cs = some x) : ∃ y : DA, cs = dav y ∧ DaOk w y := by
  obtain ⟨xs, k, _, hx0, hlen, hxs, hel⟩ := DataW.trod_struct Try.underlying34 hf
  have e0 : Try.prog.cellsOf 34 = 4 := by kernel_rfl
  have e1 : Try.prog.cellsOf 5 = 1 := by kernel_rfl
  have e2 : Try.prog.cellsOf 3 = 1 := by kernel_rfl
  have e3 : Try.prog.cellsOf 23 = 1 := by kernel_rfl
  have e4 : Try.prog.cellsOf 4 = 1 := by kernel_rfl
  rw [e0] at hlen
  have hx : xs.length = 4 := hxs
  obtain ⟨c0, c1, c2, c3, rfl⟩ : ∃ c0 c1 c2 c3, cs = [c0, c1, c2, c3] := by
    match cs, hlen with
    | [c0, c1, c2, c3], _ => exact ⟨c0, c1, c2, c3, rfl⟩
  have h1 := hel 0 _ rfl
  have h2 := hel 1 _ rfl
  have h3 := hel 2 _ rfl
  have h4 := hel 3 _ rfl
  rw [List.getElem?_eq_getElem (by omega)] at h1 h2 h3 h4
  simp only [List.getElem_toArray, List.getElem_cons_zero, List.getElem_cons_succ, e1, e2, e3, e4] at h1 h2 h3 h4
  obtain ⟨a, ha, _, hwa⟩ := DataW.trod_int Try.underlying5 h1
  obtain ⟨z, hz, _, hwz⟩ := DataW.trod_int Try.underlying3 h2
  obtain ⟨B, c, l, hc2, hlc, hcl, hd⟩ := open_elem h3
  have hbl : l.length ≤ 9223372036854775807 := by
    rcases open_ints tiB.slice tiU8.int (by kernel_rfl) h3 with ⟨hh, _⟩ | ⟨a, len, cap, zs, hh, _, hl2, hm2, _⟩
    · have e := hc2.symm.trans hh
      simp at e
      omega
    · have e := hc2.symm.trans hh
      simp at e
      have e9 : maxLen = 9223372036854775807 := rfl
      omega
  obtain ⟨dn, hdn, _⟩ := DataW.trod_bool Try.underlying4 h4
  simp at ha hz hc2 hdn
  subst ha hz hc2 hdn
  obtain ⟨k, rfl, hk⟩ := nat_of hwa rfl
  simp only [Lit.wf, Bool.and_eq_true, decide_eq_true_eq, show IntKind.min .i64 = -9223372036854775808 from rfl, show IntKind.max .i64 = 9223372036854775807 from rfl] at hwz
  simp only [show IntKind.max .u8 = 255 from rfl] at hk
  exact ⟨⟨k, z, B, c, l, dn⟩, rfl, by dsimp only; omega, hwz.1, hwz.2, hcl, hlc, hbl⟩
theorem open_das {r : Reach} {b0 base : Nat} {w : World} {spare : Nat → Bool} {held : Bool} {v : Value} {d : DataW H} {ps : List MemPlace}
    (hval : Value.okWide Try.prog w r b0 22 v) (hd : DataW.Trod enc Try.prog w base spare held 22 v d ps) :
    ∃ A c L, v = .slice A (List.length L) c ∧ DActs w A L ∧ L.length ≤ 9223372036854775807 := by
  obtain ⟨a0, len, cap, rfl⟩ := okWide_slice Try.underlying22 hval
  obtain ⟨fuel, hf⟩ := hd
  have e4 : Try.prog.cellsOf 34 = 4 := by kernel_rfl
  rcases DataW.trod_slice Try.underlying22 hf with ⟨h, hx⟩ | ⟨a, len', cap', elems, rest, n, _, h, hx, hb', hl, hm, hlen, hel, _, _⟩
  · simp [Value.cells] at h
    obtain ⟨rfl, rfl, rfl⟩ := h
    exact ⟨none, 0, [], rfl, ⟨.inl rfl, fun x hx => by cases hx⟩, by decide⟩
  · simp [Value.cells] at h
    obtain ⟨rfl, rfl, rfl⟩ := h
    obtain ⟨rfl, rfl⟩ := Prod.mk.inj hx
    have e9 : maxLen = 9223372036854775807 := rfl
    obtain ⟨b, off, spot⟩ := a
    have hspot : 0 < len → spot = none := fun h0 => by
      have h1 := hel 0 h0
      rw [List.getElem?_eq_getElem (by omega)] at h1
      obtain ⟨cs, h2, h3⟩ := Option.bind_eq_some_iff.mp h1
      rw [e4] at h2
      obtain ⟨_, h4, h5⟩ := World.cells?_some h2
      have g0 := h5 0 (by decide)
      rw [List.getElem?_eq_getElem (by omega)] at g0
      simpa [Addr.add] using World.cell?_spot g0
    have each : ∀ i, i < len → ∃ y : DA, (∀ j (hj : j < (dav y).length), w.cell? ⟨b, off + i * 4 + j, none⟩ = some (dav y)[j]) ∧ DaOk w y := fun i hi => by
      obtain rfl := hspot (by omega)
      have h1 := hel i hi
      rw [List.getElem?_eq_getElem (by omega)] at h1
      obtain ⟨cs, h2, h3⟩ := Option.bind_eq_some_iff.mp h1
      rw [e4] at h2
      obtain ⟨_, h4, h5⟩ := World.cells?_some h2
      obtain ⟨y, rfl, hok⟩ := trod_da h3
      refine ⟨y, fun j hj => ?_, hok⟩
      have := h5 j (by exact hj)
      rw [add_plain, add_plain] at this
      rw [this]
      exact List.getElem?_eq_getElem hj
    obtain ⟨l, hll, hp⟩ := pick_list (α := DA) each
    subst hll
    refine ⟨some ⟨b, off, spot⟩, cap, l, rfl, ⟨?_, fun y hy => ?_⟩, by omega⟩
    · by_cases h0 : l = []
      · exact .inl h0
      · obtain rfl := hspot (List.length_pos_iff.2 h0)
        exact .inr ⟨b, off, rfl, fun i hi => (hp i hi).1⟩
    · obtain ⟨i, hi, rfl⟩ := List.getElem_of_mem hy
      exact (hp i hi).2
end

/-! ### few -/
def daN (L : List DA) : Nat := (L.map fun x => min x.data.length 20001).sum
def fewB (L : List DA) : Bool := decide (L.length ≤ 40 ∧ daN L ≤ 20000)
theorem daN_take {L : List DA} {i : Nat} (h : i < L.length) : daN (L.take (i + 1)) = daN (L.take i) + min L[i].data.length 20001 := by
  unfold daN
  rw [List.take_succ_eq_append_getElem h, List.map_append, List.sum_append]
  simp
theorem daN_le (L : List DA) : daN L ≤ L.length * 20001 := by
  induction L with
  | nil => exact Nat.zero_le _
  | cons x L ih =>
    unfold daN at ih ⊢
    rw [List.map_cons, List.sum_cons, List.length_cons, Nat.succ_mul]
    omega
theorem daN_mem {L : List DA} {x : DA} (h : x ∈ L) : min x.data.length 20001 ≤ daN L := by
  unfold daN
  induction L with
  | nil => cases h
  | cons y L ih =>
    rw [List.map_cons, List.sum_cons]
    rcases List.mem_cons.1 h with rfl | h
    · omega
    · have := ih h; omega
theorem fewB_len {L : List DA} (h : fewB L = true) : L.length ≤ 40 ∧ ∀ x ∈ L, x.data.length ≤ 20000 := by
  have h := of_decide_eq_true h
  exact ⟨h.1, fun x hx => by have := daN_mem hx; omega⟩
theorem few_ret {A : Option Addr} {c : Nat} {L : List DA} {w : World} (h : DActs w A L) (hL : L.length ≤ 9223372036854775807) :
    Ret cx.P 8 #[.slice A L.length c] w fun v w' => v = .bool (fewB L) ∧ w' = w := by
  refine Ret.e1 (C := cx) (n := 25) cxOk Try.func8 rfl rfl rfl ?_
  by_cases hbig : 40 < L.length
  · (repeat ((conv => whnf); first | refine G.seq ?_ | refine G.region cxOk ?_ | refine G.block ?_ | refine G.cond_t rfl ?_ | refine G.cond_f rfl ?_ | refine G.skip ?_ | refine G.exit ?_ | refine G.ret ?_ | refine Cmp.dt (by (first | (with_reducible rfl) | omega)) ?_ | refine Cmp.df (by omega) ?_ | (first | (with_reducible refine Ev.mk _ (u32_xor _ _) ?_) | (with_reducible refine Ev.mk _ (u32_and _ _) ?_) | (with_reducible refine Ev.mk _ (u32_or _ _) ?_) | (with_reducible refine Ev.mk _ (u32_add _ _) ?_) | (with_reducible refine Ev.mk _ (u32_not _) ?_) | (with_reducible refine Ev.mk _ (u8_u32 _) ?_) | refine Ix1.mk _ _ _ rfl (by decide) rfl ?_) | (first | (with_reducible refine Ev.mk _ (IntWalk.i64_in _ ?_) ?_; · omega) | (with_reducible refine Ev.mk _ (wrap_u8_nat _) ?_) | (with_reducible refine Ev.mk _ (shr8 _) ?_) | (with_reducible refine Ev.mk _ (Int.toNat_natCast _) ?_) | (with_reducible refine Ev.mk _ (Int.toNat_ofNat _) ?_)) | refine @Ev.keep (List Value) _ _ ?_ | refine Rd.mk _ (by assumption) (by (first | exact trivial | exact fun x => x)) ?_ | refine Nd.mk (by (first | omega | exact ⟨rfl, rfl⟩ | exact ⟨rfl, by decide⟩ | exact ⟨by decide, rfl⟩ | exact ⟨by omega, by omega, by omega, by (simp [ti5]; omega), rfl⟩ | exact ⟨rfl, Nat.le_of_ble_eq_true rfl⟩ | exact rfl | decide)) ?_))
    refine Don.mk ⟨?_, rfl⟩
    rw [show fewB L = false from decide_eq_false (by omega)]
  (repeat ((conv => whnf); first | refine G.seq ?_ | refine G.region cxOk ?_ | refine G.block ?_ | refine G.cond_t rfl ?_ | refine G.cond_f rfl ?_ | refine G.skip ?_ | refine G.exit ?_ | refine G.ret ?_ | refine Cmp.dt (by (first | (with_reducible rfl) | omega)) ?_ | refine Cmp.df (by omega) ?_ | (first | (with_reducible refine Ev.mk _ (u32_xor _ _) ?_) | (with_reducible refine Ev.mk _ (u32_and _ _) ?_) | (with_reducible refine Ev.mk _ (u32_or _ _) ?_) | (with_reducible refine Ev.mk _ (u32_add _ _) ?_) | (with_reducible refine Ev.mk _ (u32_not _) ?_) | (with_reducible refine Ev.mk _ (u8_u32 _) ?_) | refine Ix1.mk _ _ _ rfl (by decide) rfl ?_) | (first | (with_reducible refine Ev.mk _ (IntWalk.i64_in _ ?_) ?_; · omega) | (with_reducible refine Ev.mk _ (wrap_u8_nat _) ?_) | (with_reducible refine Ev.mk _ (shr8 _) ?_) | (with_reducible refine Ev.mk _ (Int.toNat_natCast _) ?_) | (with_reducible refine Ev.mk _ (Int.toNat_ofNat _) ?_)) | refine @Ev.keep (List Value) _ _ ?_ | refine Rd.mk _ (by assumption) (by (first | exact trivial | exact fun x => x)) ?_ | refine Nd.mk (by (first | omega | exact ⟨rfl, rfl⟩ | exact ⟨rfl, by decide⟩ | exact ⟨by decide, rfl⟩ | exact ⟨by omega, by omega, by omega, by (simp [ti5]; omega), rfl⟩ | exact ⟨rfl, Nat.le_of_ble_eq_true rfl⟩ | exact rfl | decide)) ?_))
  refine G.loop (α := Nat) (fun i => [(0, .slice A L.length c), (3, .int .i64 ((daN (L.take i) : Nat) : Int)), (4, .int .i64 (i : Int))])
    (fun i W => i ≤ L.length ∧ W = w) (fun i => L.length - i) 0 ⟨rfl, rfl, rfl, trivial⟩ ⟨Nat.zero_le _, rfl⟩ ?_
  rintro i W ⟨hi, rfl⟩
  have hle := daN_le (L.take i)
  rw [List.length_take, Nat.min_eq_left hi] at hle
  obtain ⟨n, en⟩ : ∃ n, daN (L.take i) = n := ⟨_, rfl⟩
  rw [en] at hle ⊢
  have hle2 : i * 20001 ≤ 40 * 20001 := Nat.mul_le_mul_right _ (by omega)
  (repeat ((conv => whnf); first | refine G.seq ?_ | refine G.region cxOk ?_ | refine G.block ?_ | refine G.cond_t rfl ?_ | refine G.cond_f rfl ?_ | refine G.skip ?_ | refine G.exit ?_ | refine G.ret ?_ | refine Cmp.dt (by (first | (with_reducible rfl) | omega)) ?_ | refine Cmp.df (by omega) ?_ | (first | (with_reducible refine Ev.mk _ (u32_xor _ _) ?_) | (with_reducible refine Ev.mk _ (u32_and _ _) ?_) | (with_reducible refine Ev.mk _ (u32_or _ _) ?_) | (with_reducible refine Ev.mk _ (u32_add _ _) ?_) | (with_reducible refine Ev.mk _ (u32_not _) ?_) | (with_reducible refine Ev.mk _ (u8_u32 _) ?_) | refine Ix1.mk _ _ _ rfl (by decide) rfl ?_) | (first | (with_reducible refine Ev.mk _ (IntWalk.i64_in _ ?_) ?_; · omega) | (with_reducible refine Ev.mk _ (wrap_u8_nat _) ?_) | (with_reducible refine Ev.mk _ (shr8 _) ?_) | (with_reducible refine Ev.mk _ (Int.toNat_natCast _) ?_) | (with_reducible refine Ev.mk _ (Int.toNat_ofNat _) ?_)) | refine @Ev.keep (List Value) _ _ ?_ | refine Rd.mk _ (by assumption) (by (first | exact trivial | exact fun x => x)) ?_ | refine Nd.mk (by (first | omega | exact ⟨rfl, rfl⟩ | exact ⟨rfl, by decide⟩ | exact ⟨by decide, rfl⟩ | exact ⟨by omega, by omega, by omega, by (simp [ti5]; omega), rfl⟩ | exact ⟨rfl, Nat.le_of_ble_eq_true rfl⟩ | exact rfl | decide)) ?_))
  refine Cmp.ds (fun hlt => ?_) (fun hge => ?_)
  · have hi' : i < L.length := by omega
    obtain ⟨b, off, rfl, g0, g1, g2, g3⟩ := h.get hi'
    have hd := (h.ok _ (List.getElem_mem hi')).bound
    have hs := daN_take hi'
    obtain ⟨n2, en2⟩ : ∃ n2, daN (L.take (i + 1)) = n2 := ⟨_, rfl⟩
    rw [en, en2] at hs
    (repeat ((conv => whnf); first | refine G.seq ?_ | refine G.region cxOk ?_ | refine G.block ?_ | refine G.cond_t rfl ?_ | refine G.cond_f rfl ?_ | refine G.skip ?_ | refine G.exit ?_ | refine G.ret ?_ | refine Cmp.dt (by (first | (with_reducible rfl) | omega)) ?_ | refine Cmp.df (by omega) ?_ | (first | (with_reducible refine Ev.mk _ (u32_xor _ _) ?_) | (with_reducible refine Ev.mk _ (u32_and _ _) ?_) | (with_reducible refine Ev.mk _ (u32_or _ _) ?_) | (with_reducible refine Ev.mk _ (u32_add _ _) ?_) | (with_reducible refine Ev.mk _ (u32_not _) ?_) | (with_reducible refine Ev.mk _ (u8_u32 _) ?_) | refine Ix1.mk _ _ _ rfl (by decide) rfl ?_) | (first | (with_reducible refine Ev.mk _ (IntWalk.i64_in _ ?_) ?_; · omega) | (with_reducible refine Ev.mk _ (wrap_u8_nat _) ?_) | (with_reducible refine Ev.mk _ (shr8 _) ?_) | (with_reducible refine Ev.mk _ (Int.toNat_natCast _) ?_) | (with_reducible refine Ev.mk _ (Int.toNat_ofNat _) ?_)) | refine @Ev.keep (List Value) _ _ ?_ | refine Rd.mk _ (by assumption) (by (first | exact trivial | exact fun x => x)) ?_ | refine Nd.mk (by (first | omega | exact ⟨rfl, rfl⟩ | exact ⟨rfl, by decide⟩ | exact ⟨by decide, rfl⟩ | exact ⟨by omega, by omega, by omega, by (simp [ti5]; omega), rfl⟩ | exact ⟨rfl, Nat.le_of_ble_eq_true rfl⟩ | exact rfl | decide)) ?_))
    refine Ix.mk b off (off + i * 4) rfl (by omega) (by show off + ((i : Nat) : Int).toNat * 4 = _; omega) ?_
    (repeat ((conv => whnf); first | refine G.seq ?_ | refine G.region cxOk ?_ | refine G.block ?_ | refine G.cond_t rfl ?_ | refine G.cond_f rfl ?_ | refine G.skip ?_ | refine G.exit ?_ | refine G.ret ?_ | refine Cmp.dt (by (first | (with_reducible rfl) | omega)) ?_ | refine Cmp.df (by omega) ?_ | (first | (with_reducible refine Ev.mk _ (u32_xor _ _) ?_) | (with_reducible refine Ev.mk _ (u32_and _ _) ?_) | (with_reducible refine Ev.mk _ (u32_or _ _) ?_) | (with_reducible refine Ev.mk _ (u32_add _ _) ?_) | (with_reducible refine Ev.mk _ (u32_not _) ?_) | (with_reducible refine Ev.mk _ (u8_u32 _) ?_) | refine Ix1.mk _ _ _ rfl (by decide) rfl ?_) | (first | (with_reducible refine Ev.mk _ (IntWalk.i64_in _ ?_) ?_; · omega) | (with_reducible refine Ev.mk _ (wrap_u8_nat _) ?_) | (with_reducible refine Ev.mk _ (shr8 _) ?_) | (with_reducible refine Ev.mk _ (Int.toNat_natCast _) ?_) | (with_reducible refine Ev.mk _ (Int.toNat_ofNat _) ?_)) | refine @Ev.keep (List Value) _ _ ?_ | refine Rd.mk _ (by assumption) (by (first | exact trivial | exact fun x => x)) ?_ | refine Nd.mk (by (first | omega | exact ⟨rfl, rfl⟩ | exact ⟨rfl, by decide⟩ | exact ⟨by decide, rfl⟩ | exact ⟨by omega, by omega, by omega, by (simp [ti5]; omega), rfl⟩ | exact ⟨rfl, Nat.le_of_ble_eq_true rfl⟩ | exact rfl | decide)) ?_))
    refine Ev.mk ((min L[i].data.length 20001 : Nat) : Int) (by split <;> omega) ?_
    (repeat ((conv => whnf); first | refine G.seq ?_ | refine G.region cxOk ?_ | refine G.block ?_ | refine G.cond_t rfl ?_ | refine G.cond_f rfl ?_ | refine G.skip ?_ | refine G.exit ?_ | refine G.ret ?_ | refine Cmp.dt (by (first | (with_reducible rfl) | omega)) ?_ | refine Cmp.df (by omega) ?_ | (first | (with_reducible refine Ev.mk _ (u32_xor _ _) ?_) | (with_reducible refine Ev.mk _ (u32_and _ _) ?_) | (with_reducible refine Ev.mk _ (u32_or _ _) ?_) | (with_reducible refine Ev.mk _ (u32_add _ _) ?_) | (with_reducible refine Ev.mk _ (u32_not _) ?_) | (with_reducible refine Ev.mk _ (u8_u32 _) ?_) | refine Ix1.mk _ _ _ rfl (by decide) rfl ?_) | (first | (with_reducible refine Ev.mk _ (IntWalk.i64_in _ ?_) ?_; · omega) | (with_reducible refine Ev.mk _ (wrap_u8_nat _) ?_) | (with_reducible refine Ev.mk _ (shr8 _) ?_) | (with_reducible refine Ev.mk _ (Int.toNat_natCast _) ?_) | (with_reducible refine Ev.mk _ (Int.toNat_ofNat _) ?_)) | refine @Ev.keep (List Value) _ _ ?_ | refine Rd.mk _ (by assumption) (by (first | exact trivial | exact fun x => x)) ?_ | refine Nd.mk (by (first | omega | exact ⟨rfl, rfl⟩ | exact ⟨rfl, by decide⟩ | exact ⟨by decide, rfl⟩ | exact ⟨by omega, by omega, by omega, by (simp [ti5]; omega), rfl⟩ | exact ⟨rfl, Nat.le_of_ble_eq_true rfl⟩ | exact rfl | decide)) ?_))
    exact ⟨i + 1, ⟨rfl, by rw [en2, hs]; rfl, rfl, trivial⟩, ⟨hi', rfl⟩, by omega⟩
  obtain rfl : i = L.length := by omega
  rw [List.take_length] at en
  have ef : ∀ b : Bool, (n ≤ 20000 ↔ b = true) → fewB L = b := fun b hb => by
    unfold fewB
    rw [en]
    cases b with
    | true => exact decide_eq_true ⟨by omega, hb.2 rfl⟩
    | false => exact decide_eq_false fun h => by have := hb.1 h.2; cases this
  (repeat ((conv => whnf); first | refine G.seq ?_ | refine G.region cxOk ?_ | refine G.block ?_ | refine G.cond_t rfl ?_ | refine G.cond_f rfl ?_ | refine G.skip ?_ | refine G.exit ?_ | refine G.ret ?_ | refine Cmp.dt (by (first | (with_reducible rfl) | omega)) ?_ | refine Cmp.df (by omega) ?_ | (first | (with_reducible refine Ev.mk _ (u32_xor _ _) ?_) | (with_reducible refine Ev.mk _ (u32_and _ _) ?_) | (with_reducible refine Ev.mk _ (u32_or _ _) ?_) | (with_reducible refine Ev.mk _ (u32_add _ _) ?_) | (with_reducible refine Ev.mk _ (u32_not _) ?_) | (with_reducible refine Ev.mk _ (u8_u32 _) ?_) | refine Ix1.mk _ _ _ rfl (by decide) rfl ?_) | (first | (with_reducible refine Ev.mk _ (IntWalk.i64_in _ ?_) ?_; · omega) | (with_reducible refine Ev.mk _ (wrap_u8_nat _) ?_) | (with_reducible refine Ev.mk _ (shr8 _) ?_) | (with_reducible refine Ev.mk _ (Int.toNat_natCast _) ?_) | (with_reducible refine Ev.mk _ (Int.toNat_ofNat _) ?_)) | refine @Ev.keep (List Value) _ _ ?_ | refine Rd.mk _ (by assumption) (by (first | exact trivial | exact fun x => x)) ?_ | refine Nd.mk (by (first | omega | exact ⟨rfl, rfl⟩ | exact ⟨rfl, by decide⟩ | exact ⟨by decide, rfl⟩ | exact ⟨by omega, by omega, by omega, by (simp [ti5]; omega), rfl⟩ | exact ⟨rfl, Nat.le_of_ble_eq_true rfl⟩ | exact rfl | decide)) ?_))
  refine Cmp.ds (fun hlt => ?_) (fun hge => ?_)
  · (repeat ((conv => whnf); first | refine G.seq ?_ | refine G.region cxOk ?_ | refine G.block ?_ | refine G.cond_t rfl ?_ | refine G.cond_f rfl ?_ | refine G.skip ?_ | refine G.exit ?_ | refine G.ret ?_ | refine Cmp.dt (by (first | (with_reducible rfl) | omega)) ?_ | refine Cmp.df (by omega) ?_ | (first | (with_reducible refine Ev.mk _ (u32_xor _ _) ?_) | (with_reducible refine Ev.mk _ (u32_and _ _) ?_) | (with_reducible refine Ev.mk _ (u32_or _ _) ?_) | (with_reducible refine Ev.mk _ (u32_add _ _) ?_) | (with_reducible refine Ev.mk _ (u32_not _) ?_) | (with_reducible refine Ev.mk _ (u8_u32 _) ?_) | refine Ix1.mk _ _ _ rfl (by decide) rfl ?_) | (first | (with_reducible refine Ev.mk _ (IntWalk.i64_in _ ?_) ?_; · omega) | (with_reducible refine Ev.mk _ (wrap_u8_nat _) ?_) | (with_reducible refine Ev.mk _ (shr8 _) ?_) | (with_reducible refine Ev.mk _ (Int.toNat_natCast _) ?_) | (with_reducible refine Ev.mk _ (Int.toNat_ofNat _) ?_)) | refine @Ev.keep (List Value) _ _ ?_ | refine Rd.mk _ (by assumption) (by (first | exact trivial | exact fun x => x)) ?_ | refine Nd.mk (by (first | omega | exact ⟨rfl, rfl⟩ | exact ⟨rfl, by decide⟩ | exact ⟨by decide, rfl⟩ | exact ⟨by omega, by omega, by omega, by (simp [ti5]; omega), rfl⟩ | exact ⟨rfl, Nat.le_of_ble_eq_true rfl⟩ | exact rfl | decide)) ?_))
    exact Don.mk ⟨by rw [ef true ⟨fun _ => rfl, fun _ => by omega⟩], rfl⟩
  · (repeat ((conv => whnf); first | refine G.seq ?_ | refine G.region cxOk ?_ | refine G.block ?_ | refine G.cond_t rfl ?_ | refine G.cond_f rfl ?_ | refine G.skip ?_ | refine G.exit ?_ | refine G.ret ?_ | refine Cmp.dt (by (first | (with_reducible rfl) | omega)) ?_ | refine Cmp.df (by omega) ?_ | (first | (with_reducible refine Ev.mk _ (u32_xor _ _) ?_) | (with_reducible refine Ev.mk _ (u32_and _ _) ?_) | (with_reducible refine Ev.mk _ (u32_or _ _) ?_) | (with_reducible refine Ev.mk _ (u32_add _ _) ?_) | (with_reducible refine Ev.mk _ (u32_not _) ?_) | (with_reducible refine Ev.mk _ (u8_u32 _) ?_) | refine Ix1.mk _ _ _ rfl (by decide) rfl ?_) | (first | (with_reducible refine Ev.mk _ (IntWalk.i64_in _ ?_) ?_; · omega) | (with_reducible refine Ev.mk _ (wrap_u8_nat _) ?_) | (with_reducible refine Ev.mk _ (shr8 _) ?_) | (with_reducible refine Ev.mk _ (Int.toNat_natCast _) ?_) | (with_reducible refine Ev.mk _ (Int.toNat_ofNat _) ?_)) | refine @Ev.keep (List Value) _ _ ?_ | refine Rd.mk _ (by assumption) (by (first | exact trivial | exact fun x => x)) ?_ | refine Nd.mk (by (first | omega | exact ⟨rfl, rfl⟩ | exact ⟨rfl, by decide⟩ | exact ⟨by decide, rfl⟩ | exact ⟨by omega, by omega, by omega, by (simp [ti5]; omega), rfl⟩ | exact ⟨rfl, Nat.le_of_ble_eq_true rfl⟩ | exact rfl | decide)) ?_))
    exact Don.mk ⟨by rw [ef false ⟨fun h => by omega, fun h => by cases h⟩], rfl⟩

/-! ### written -/
def wr1 (D : DV) (x : DA) : DV := if x.kind % 9 = 3 then (stepD syncD D).1 else (writeR x.at_ x.data D).1
def wrt (L : List DA) : DV := L.foldl wr1 (newD 20000)
theorem wrt_snoc {L : List DA} {i : Nat} (h : i < L.length) : wrt (L.take (i + 1)) = wr1 (wrt (L.take i)) L[i] := by
  unfold wrt
  rw [List.take_succ_eq_append_getElem h, List.foldl_append]
  rfl
structure WOk (i : Nat) (D : DV) : Prop where
  down : D.down = false
  fail : D.fail = none
  most : D.most = 20000
  steps : D.steps ≤ i
  len : D.L.length ≤ 50 * i
  lay : layAll D.safe D.L = D.seen
  le : D.safe.length ≤ D.seen.length
theorem loosesI_length (seen : List UInt8) (a i : Nat) : (loosesI seen a i).length = i := by simp [loosesI]
theorem secN_le {a n : Nat} (h : n ≤ 20000) : secN a n ≤ 50 := by
  unfold secN
  split <;> omega
theorem WOk.sync {i : Nat} {D : DV} (h : WOk i D) : WOk (i + 1) (stepD syncD D).1 := by
  rw [stepD_none h.fail]
  exact ⟨h.down, h.fail, h.most, Nat.succ_le_succ h.steps, Nat.zero_le _, rfl, Nat.le_refl _⟩
theorem WOk.up {i : Nat} {D : DV} (h : WOk i D) : WOk (i + 1) D := ⟨h.down, h.fail, h.most, by have := h.steps; omega, by have := h.len; omega, h.lay, h.le⟩
theorem WOk.write {i : Nat} {D : DV} {a : Int} {b : List UInt8} (h : WOk i D) (hb : b.length ≤ 20000) : WOk (i + 1) (writeR a b D).1 := by
  unfold writeR
  rw [if_neg (by rw [h.down]; decide)]
  split
  · exact h.up
  split
  · exact h.up
  rename_i h1 h2
  rw [stepD_none h.fail]
  have hl := secN_le (a := a.toNat) hb
  have h3 := h.len
  refine ⟨h.down, h.fail, h.most, Nat.succ_le_succ h.steps, ?_, ?_, ?_⟩
  · show (D.L ++ loosesI _ _ _).length ≤ _
    rw [List.length_append, loosesI_length]
    omega
  · show layAll D.safe (D.L ++ loosesI _ _ _) = laidL _ _ _
    rw [layAll_append, h.lay]
    exact layAll_write (by omega)
  · show D.safe.length ≤ (laidL D.seen a.toNat b).length
    have := h.le
    by_cases hb0 : b = []
    · subst hb0; rw [laidL_nil]; exact h.le
    · rw [laidL_length hb0]; omega
theorem WOk.step {i : Nat} {D : DV} {x : DA} (h : WOk i D) (hb : x.data.length ≤ 20000) : WOk (i + 1) (wr1 D x) := by
  unfold wr1
  split
  · exact h.sync
  · exact h.write hb
theorem wrt_ok {L : List DA} (h : ∀ x ∈ L, x.data.length ≤ 20000) : ∀ i, i ≤ L.length → WOk i (wrt (L.take i))
  | 0, _ => ⟨rfl, rfl, rfl, Nat.le_refl _, Nat.le_refl _, rfl, Nat.le_refl _⟩
  | i + 1, hi => by
    rw [wrt_snoc (by omega)]
    exact (wrt_ok h i (by omega)).step (h _ (List.getElem_mem _))
theorem WOk.few {i : Nat} {D : DV} (h : WOk i D) (hi : i ≤ 1000000) : Few D := ⟨by have := h.steps; omega, fun n dn e => by rw [h.fail] at e; cases e⟩
theorem tmod9 (t : Nat) : ((t : Nat) : Int).tmod 9 = ((t % 9 : Nat) : Int) := by
  rw [Int.tmod_eq_emod_of_nonneg (by omega)]
  omega
set_option maxHeartbeats 4000000 in
theorem written_ret {A : Option Addr} {c : Nat} {L : List DA} {w : World} (h : DActs w A L) (hf : fewB L = true) :
    Ret cx.P 10 #[.slice A L.length c] w fun v w' => ∃ db, v = dp db ∧ Own w db (wrt L) w' ∧ WOk L.length (wrt L) := by
  obtain ⟨hL, hdat⟩ := fewB_len hf
  refine Ret.e1 (C := cx) (n := 34) cxOk Try.func10 rfl rfl rfl ?_
  (repeat ((conv => whnf); first | refine G.seq ?_ | refine G.region cxOk ?_ | refine G.block ?_ | refine G.cond_t rfl ?_ | refine G.cond_f rfl ?_ | refine G.skip ?_ | refine G.exit ?_ | refine G.ret ?_ | refine Cmp.dt (by (first | (with_reducible rfl) | omega)) ?_ | refine Cmp.df (by omega) ?_ | (first | (with_reducible refine Ev.mk _ (u32_xor _ _) ?_) | (with_reducible refine Ev.mk _ (u32_and _ _) ?_) | (with_reducible refine Ev.mk _ (u32_or _ _) ?_) | (with_reducible refine Ev.mk _ (u32_add _ _) ?_) | (with_reducible refine Ev.mk _ (u32_not _) ?_) | (with_reducible refine Ev.mk _ (u8_u32 _) ?_) | refine Ix1.mk _ _ _ rfl (by decide) rfl ?_) | (first | (with_reducible refine Ev.mk _ (IntWalk.i64_in _ ?_) ?_; · omega) | (with_reducible refine Ev.mk _ (wrap_u8_nat _) ?_) | (with_reducible refine Ev.mk _ (shr8 _) ?_) | (with_reducible refine Ev.mk _ (Int.toNat_natCast _) ?_) | (with_reducible refine Ev.mk _ (Int.toNat_ofNat _) ?_)) | refine @Ev.keep (List Value) _ _ ?_ | refine Rd.mk _ (by assumption) (by (first | exact trivial | exact fun x => x)) ?_ | refine Nd.mk (by (first | omega | exact ⟨rfl, rfl⟩ | exact ⟨rfl, by decide⟩ | exact ⟨by decide, rfl⟩ | exact ⟨by omega, by omega, by omega, by (simp [ti5]; omega), rfl⟩ | exact ⟨rfl, Nat.le_of_ble_eq_true rfl⟩ | exact rfl | decide)) ?_))
  refine Cl.mk (OwnNew_ret 20000 w) ?_
  rintro _ w1 ⟨db, rfl, h1⟩
  (repeat ((conv => whnf); first | refine G.seq ?_ | refine G.region cxOk ?_ | refine G.block ?_ | refine G.cond_t rfl ?_ | refine G.cond_f rfl ?_ | refine G.skip ?_ | refine G.exit ?_ | refine G.ret ?_ | refine Cmp.dt (by (first | (with_reducible rfl) | omega)) ?_ | refine Cmp.df (by omega) ?_ | (first | (with_reducible refine Ev.mk _ (u32_xor _ _) ?_) | (with_reducible refine Ev.mk _ (u32_and _ _) ?_) | (with_reducible refine Ev.mk _ (u32_or _ _) ?_) | (with_reducible refine Ev.mk _ (u32_add _ _) ?_) | (with_reducible refine Ev.mk _ (u32_not _) ?_) | (with_reducible refine Ev.mk _ (u8_u32 _) ?_) | refine Ix1.mk _ _ _ rfl (by decide) rfl ?_) | (first | (with_reducible refine Ev.mk _ (IntWalk.i64_in _ ?_) ?_; · omega) | (with_reducible refine Ev.mk _ (wrap_u8_nat _) ?_) | (with_reducible refine Ev.mk _ (shr8 _) ?_) | (with_reducible refine Ev.mk _ (Int.toNat_natCast _) ?_) | (with_reducible refine Ev.mk _ (Int.toNat_ofNat _) ?_)) | refine @Ev.keep (List Value) _ _ ?_ | refine Rd.mk _ (by assumption) (by (first | exact trivial | exact fun x => x)) ?_ | refine Nd.mk (by (first | omega | exact ⟨rfl, rfl⟩ | exact ⟨rfl, by decide⟩ | exact ⟨by decide, rfl⟩ | exact ⟨by omega, by omega, by omega, by (simp [ti5]; omega), rfl⟩ | exact ⟨rfl, Nat.le_of_ble_eq_true rfl⟩ | exact rfl | decide)) ?_))
  refine G.loop (α := Nat) (fun i => [(0, .slice A L.length c), (3, dp db), (4, .int .i64 (i : Int))])
    (fun i W => i ≤ L.length ∧ Own w db (wrt (L.take i)) W) (fun i => L.length - i) 0 ⟨rfl, rfl, rfl, trivial⟩ ⟨Nat.zero_le _, h1⟩ ?_
  rintro i W ⟨hi, hO⟩
  have hk := wrt_ok hdat i hi
  have hs := fun h => wrt_snoc (L := L) (i := i) h
  obtain ⟨D, eD⟩ : ∃ D, wrt (L.take i) = D := ⟨_, rfl⟩
  rw [eD] at hO hk
  (repeat ((conv => whnf); first | refine G.seq ?_ | refine G.region cxOk ?_ | refine G.block ?_ | refine G.cond_t rfl ?_ | refine G.cond_f rfl ?_ | refine G.skip ?_ | refine G.exit ?_ | refine G.ret ?_ | refine Cmp.dt (by (first | (with_reducible rfl) | omega)) ?_ | refine Cmp.df (by omega) ?_ | (first | (with_reducible refine Ev.mk _ (u32_xor _ _) ?_) | (with_reducible refine Ev.mk _ (u32_and _ _) ?_) | (with_reducible refine Ev.mk _ (u32_or _ _) ?_) | (with_reducible refine Ev.mk _ (u32_add _ _) ?_) | (with_reducible refine Ev.mk _ (u32_not _) ?_) | (with_reducible refine Ev.mk _ (u8_u32 _) ?_) | refine Ix1.mk _ _ _ rfl (by decide) rfl ?_) | (first | (with_reducible refine Ev.mk _ (IntWalk.i64_in _ ?_) ?_; · omega) | (with_reducible refine Ev.mk _ (wrap_u8_nat _) ?_) | (with_reducible refine Ev.mk _ (shr8 _) ?_) | (with_reducible refine Ev.mk _ (Int.toNat_natCast _) ?_) | (with_reducible refine Ev.mk _ (Int.toNat_ofNat _) ?_)) | refine @Ev.keep (List Value) _ _ ?_ | refine Rd.mk _ (by assumption) (by (first | exact trivial | exact fun x => x)) ?_ | refine Nd.mk (by (first | omega | exact ⟨rfl, rfl⟩ | exact ⟨rfl, by decide⟩ | exact ⟨by decide, rfl⟩ | exact ⟨by omega, by omega, by omega, by (simp [ti5]; omega), rfl⟩ | exact ⟨rfl, Nat.le_of_ble_eq_true rfl⟩ | exact rfl | decide)) ?_))
  refine Cmp.ds (fun hlt => ?_) (fun hge => ?_)
  · have hi' : i < L.length := by omega
    have hs := hs hi'
    rw [eD] at hs
    obtain ⟨b, off, rfl, g0, g1, g2, g3⟩ := (h.ext hO.ext).get hi'
    have hok := h.ok _ (List.getElem_mem hi')
    have hd := hdat _ (List.getElem_mem hi')
    obtain ⟨x, ex⟩ : ∃ x, L[i] = x := ⟨_, rfl⟩
    rw [ex] at hs g0 g1 g2 g3 hok hd
    have hkd := hok.kind
    (repeat ((conv => whnf); first | refine G.seq ?_ | refine G.region cxOk ?_ | refine G.block ?_ | refine G.cond_t rfl ?_ | refine G.cond_f rfl ?_ | refine G.skip ?_ | refine G.exit ?_ | refine G.ret ?_ | refine Cmp.dt (by (first | (with_reducible rfl) | omega)) ?_ | refine Cmp.df (by omega) ?_ | (first | (with_reducible refine Ev.mk _ (u32_xor _ _) ?_) | (with_reducible refine Ev.mk _ (u32_and _ _) ?_) | (with_reducible refine Ev.mk _ (u32_or _ _) ?_) | (with_reducible refine Ev.mk _ (u32_add _ _) ?_) | (with_reducible refine Ev.mk _ (u32_not _) ?_) | (with_reducible refine Ev.mk _ (u8_u32 _) ?_) | refine Ix1.mk _ _ _ rfl (by decide) rfl ?_) | (first | (with_reducible refine Ev.mk _ (IntWalk.i64_in _ ?_) ?_; · omega) | (with_reducible refine Ev.mk _ (wrap_u8_nat _) ?_) | (with_reducible refine Ev.mk _ (shr8 _) ?_) | (with_reducible refine Ev.mk _ (Int.toNat_natCast _) ?_) | (with_reducible refine Ev.mk _ (Int.toNat_ofNat _) ?_)) | refine @Ev.keep (List Value) _ _ ?_ | refine Rd.mk _ (by assumption) (by (first | exact trivial | exact fun x => x)) ?_ | refine Nd.mk (by (first | omega | exact ⟨rfl, rfl⟩ | exact ⟨rfl, by decide⟩ | exact ⟨by decide, rfl⟩ | exact ⟨by omega, by omega, by omega, by (simp [ti5]; omega), rfl⟩ | exact ⟨rfl, Nat.le_of_ble_eq_true rfl⟩ | exact rfl | decide)) ?_))
    refine Ix.mk b off (off + i * 4) rfl (by omega) (by show off + ((i : Nat) : Int).toNat * 4 = _; omega) ?_
    (repeat ((conv => whnf); first | refine G.seq ?_ | refine G.region cxOk ?_ | refine G.block ?_ | refine G.cond_t rfl ?_ | refine G.cond_f rfl ?_ | refine G.skip ?_ | refine G.exit ?_ | refine G.ret ?_ | refine Cmp.dt (by (first | (with_reducible rfl) | omega)) ?_ | refine Cmp.df (by omega) ?_ | (first | (with_reducible refine Ev.mk _ (u32_xor _ _) ?_) | (with_reducible refine Ev.mk _ (u32_and _ _) ?_) | (with_reducible refine Ev.mk _ (u32_or _ _) ?_) | (with_reducible refine Ev.mk _ (u32_add _ _) ?_) | (with_reducible refine Ev.mk _ (u32_not _) ?_) | (with_reducible refine Ev.mk _ (u8_u32 _) ?_) | refine Ix1.mk _ _ _ rfl (by decide) rfl ?_) | (first | (with_reducible refine Ev.mk _ (IntWalk.i64_in _ ?_) ?_; · omega) | (with_reducible refine Ev.mk _ (wrap_u8_nat _) ?_) | (with_reducible refine Ev.mk _ (shr8 _) ?_) | (with_reducible refine Ev.mk _ (Int.toNat_natCast _) ?_) | (with_reducible refine Ev.mk _ (Int.toNat_ofNat _) ?_)) | refine @Ev.keep (List Value) _ _ ?_ | refine Rd.mk _ (by assumption) (by (first | exact trivial | exact fun x => x)) ?_ | refine Nd.mk (by (first | omega | exact ⟨rfl, rfl⟩ | exact ⟨rfl, by decide⟩ | exact ⟨by decide, rfl⟩ | exact ⟨by omega, by omega, by omega, by (simp [ti5]; omega), rfl⟩ | exact ⟨rfl, Nat.le_of_ble_eq_true rfl⟩ | exact rfl | decide)) ?_))
    refine Ev.mk _ (tmod9 x.kind) ?_
    (repeat ((conv => whnf); first | refine G.seq ?_ | refine G.region cxOk ?_ | refine G.block ?_ | refine G.cond_t rfl ?_ | refine G.cond_f rfl ?_ | refine G.skip ?_ | refine G.exit ?_ | refine G.ret ?_ | refine Cmp.dt (by (first | (with_reducible rfl) | omega)) ?_ | refine Cmp.df (by omega) ?_ | (first | (with_reducible refine Ev.mk _ (u32_xor _ _) ?_) | (with_reducible refine Ev.mk _ (u32_and _ _) ?_) | (with_reducible refine Ev.mk _ (u32_or _ _) ?_) | (with_reducible refine Ev.mk _ (u32_add _ _) ?_) | (with_reducible refine Ev.mk _ (u32_not _) ?_) | (with_reducible refine Ev.mk _ (u8_u32 _) ?_) | refine Ix1.mk _ _ _ rfl (by decide) rfl ?_) | (first | (with_reducible refine Ev.mk _ (IntWalk.i64_in _ ?_) ?_; · omega) | (with_reducible refine Ev.mk _ (wrap_u8_nat _) ?_) | (with_reducible refine Ev.mk _ (shr8 _) ?_) | (with_reducible refine Ev.mk _ (Int.toNat_natCast _) ?_) | (with_reducible refine Ev.mk _ (Int.toNat_ofNat _) ?_)) | refine @Ev.keep (List Value) _ _ ?_ | refine Rd.mk _ (by assumption) (by (first | exact trivial | exact fun x => x)) ?_ | refine Nd.mk (by (first | omega | exact ⟨rfl, rfl⟩ | exact ⟨rfl, by decide⟩ | exact ⟨by decide, rfl⟩ | exact ⟨by omega, by omega, by omega, by (simp [ti5]; omega), rfl⟩ | exact ⟨rfl, Nat.le_of_ble_eq_true rfl⟩ | exact rfl | decide)) ?_))
    refine Cmp.ds (fun h3 => ?_) (fun h3 => ?_)
    · have e1 : wr1 D x = (stepD syncD D).1 := if_pos (by omega)
      rw [e1] at hs
      (repeat ((conv => whnf); first | refine G.seq ?_ | refine G.region cxOk ?_ | refine G.block ?_ | refine G.cond_t rfl ?_ | refine G.cond_f rfl ?_ | refine G.skip ?_ | refine G.exit ?_ | refine G.ret ?_ | refine Cmp.dt (by (first | (with_reducible rfl) | omega)) ?_ | refine Cmp.df (by omega) ?_ | (first | (with_reducible refine Ev.mk _ (u32_xor _ _) ?_) | (with_reducible refine Ev.mk _ (u32_and _ _) ?_) | (with_reducible refine Ev.mk _ (u32_or _ _) ?_) | (with_reducible refine Ev.mk _ (u32_add _ _) ?_) | (with_reducible refine Ev.mk _ (u32_not _) ?_) | (with_reducible refine Ev.mk _ (u8_u32 _) ?_) | refine Ix1.mk _ _ _ rfl (by decide) rfl ?_) | (first | (with_reducible refine Ev.mk _ (IntWalk.i64_in _ ?_) ?_; · omega) | (with_reducible refine Ev.mk _ (wrap_u8_nat _) ?_) | (with_reducible refine Ev.mk _ (shr8 _) ?_) | (with_reducible refine Ev.mk _ (Int.toNat_natCast _) ?_) | (with_reducible refine Ev.mk _ (Int.toNat_ofNat _) ?_)) | refine @Ev.keep (List Value) _ _ ?_ | refine Rd.mk _ (by assumption) (by (first | exact trivial | exact fun x => x)) ?_ | refine Nd.mk (by (first | omega | exact ⟨rfl, rfl⟩ | exact ⟨rfl, by decide⟩ | exact ⟨by decide, rfl⟩ | exact ⟨by omega, by omega, by omega, by (simp [ti5]; omega), rfl⟩ | exact ⟨rfl, Nat.le_of_ble_eq_true rfl⟩ | exact rfl | decide)) ?_))
      refine Cl.mk (OwnSync_ret hO (hk.few (by omega)) hk.down) ?_
      rintro _ w2 ⟨rfl, h2⟩
      (repeat ((conv => whnf); first | refine G.seq ?_ | refine G.region cxOk ?_ | refine G.block ?_ | refine G.cond_t rfl ?_ | refine G.cond_f rfl ?_ | refine G.skip ?_ | refine G.exit ?_ | refine G.ret ?_ | refine Cmp.dt (by (first | (with_reducible rfl) | omega)) ?_ | refine Cmp.df (by omega) ?_ | (first | (with_reducible refine Ev.mk _ (u32_xor _ _) ?_) | (with_reducible refine Ev.mk _ (u32_and _ _) ?_) | (with_reducible refine Ev.mk _ (u32_or _ _) ?_) | (with_reducible refine Ev.mk _ (u32_add _ _) ?_) | (with_reducible refine Ev.mk _ (u32_not _) ?_) | (with_reducible refine Ev.mk _ (u8_u32 _) ?_) | refine Ix1.mk _ _ _ rfl (by decide) rfl ?_) | (first | (with_reducible refine Ev.mk _ (IntWalk.i64_in _ ?_) ?_; · omega) | (with_reducible refine Ev.mk _ (wrap_u8_nat _) ?_) | (with_reducible refine Ev.mk _ (shr8 _) ?_) | (with_reducible refine Ev.mk _ (Int.toNat_natCast _) ?_) | (with_reducible refine Ev.mk _ (Int.toNat_ofNat _) ?_)) | refine @Ev.keep (List Value) _ _ ?_ | refine Rd.mk _ (by assumption) (by (first | exact trivial | exact fun x => x)) ?_ | refine Nd.mk (by (first | omega | exact ⟨rfl, rfl⟩ | exact ⟨rfl, by decide⟩ | exact ⟨by decide, rfl⟩ | exact ⟨by omega, by omega, by omega, by (simp [ti5]; omega), rfl⟩ | exact ⟨rfl, Nat.le_of_ble_eq_true rfl⟩ | exact rfl | decide)) ?_))
      exact ⟨i + 1, ⟨rfl, rfl, rfl, trivial⟩, ⟨hi', by rw [hs]; exact h2⟩, by omega⟩
    · have e1 : wr1 D x = (writeR x.at_ x.data D).1 := if_neg (by omega)
      rw [e1] at hs
      have hl := hk.len
      (repeat ((conv => whnf); first | refine G.seq ?_ | refine G.region cxOk ?_ | refine G.block ?_ | refine G.cond_t rfl ?_ | refine G.cond_f rfl ?_ | refine G.skip ?_ | refine G.exit ?_ | refine G.ret ?_ | refine Cmp.dt (by (first | (with_reducible rfl) | omega)) ?_ | refine Cmp.df (by omega) ?_ | (first | (with_reducible refine Ev.mk _ (u32_xor _ _) ?_) | (with_reducible refine Ev.mk _ (u32_and _ _) ?_) | (with_reducible refine Ev.mk _ (u32_or _ _) ?_) | (with_reducible refine Ev.mk _ (u32_add _ _) ?_) | (with_reducible refine Ev.mk _ (u32_not _) ?_) | (with_reducible refine Ev.mk _ (u8_u32 _) ?_) | refine Ix1.mk _ _ _ rfl (by decide) rfl ?_) | (first | (with_reducible refine Ev.mk _ (IntWalk.i64_in _ ?_) ?_; · omega) | (with_reducible refine Ev.mk _ (wrap_u8_nat _) ?_) | (with_reducible refine Ev.mk _ (shr8 _) ?_) | (with_reducible refine Ev.mk _ (Int.toNat_natCast _) ?_) | (with_reducible refine Ev.mk _ (Int.toNat_ofNat _) ?_)) | refine @Ev.keep (List Value) _ _ ?_ | refine Rd.mk _ (by assumption) (by (first | exact trivial | exact fun x => x)) ?_ | refine Nd.mk (by (first | omega | exact ⟨rfl, rfl⟩ | exact ⟨rfl, by decide⟩ | exact ⟨by decide, rfl⟩ | exact ⟨by omega, by omega, by omega, by (simp [ti5]; omega), rfl⟩ | exact ⟨rfl, Nat.le_of_ble_eq_true rfl⟩ | exact rfl | decide)) ?_))
      refine G.draw cxOk (fun _ => False) (.tk 0 <| .tk 1 <| .tk 2 <| .tk 3 <| .tk 4 <| .tk 5 <| .tk 6 <| .tk 7 <| .tk 8 <| .tk 9 <| .tk 10 <| .z 11) (by kernel_rfl) ?_
      (repeat ((conv => whnf); first | refine G.seq ?_ | refine G.region cxOk ?_ | refine G.block ?_ | refine G.cond_t rfl ?_ | refine G.cond_f rfl ?_ | refine G.skip ?_ | refine G.exit ?_ | refine G.ret ?_ | refine Cmp.dt (by (first | (with_reducible rfl) | omega)) ?_ | refine Cmp.df (by omega) ?_ | (first | (with_reducible refine Ev.mk _ (u32_xor _ _) ?_) | (with_reducible refine Ev.mk _ (u32_and _ _) ?_) | (with_reducible refine Ev.mk _ (u32_or _ _) ?_) | (with_reducible refine Ev.mk _ (u32_add _ _) ?_) | (with_reducible refine Ev.mk _ (u32_not _) ?_) | (with_reducible refine Ev.mk _ (u8_u32 _) ?_) | refine Ix1.mk _ _ _ rfl (by decide) rfl ?_) | (first | (with_reducible refine Ev.mk _ (IntWalk.i64_in _ ?_) ?_; · omega) | (with_reducible refine Ev.mk _ (wrap_u8_nat _) ?_) | (with_reducible refine Ev.mk _ (shr8 _) ?_) | (with_reducible refine Ev.mk _ (Int.toNat_natCast _) ?_) | (with_reducible refine Ev.mk _ (Int.toNat_ofNat _) ?_)) | refine @Ev.keep (List Value) _ _ ?_ | refine Rd.mk _ (by assumption) (by (first | exact trivial | exact fun x => x)) ?_ | refine Nd.mk (by (first | omega | exact ⟨rfl, rfl⟩ | exact ⟨rfl, by decide⟩ | exact ⟨by decide, rfl⟩ | exact ⟨by omega, by omega, by omega, by (simp [ti5]; omega), rfl⟩ | exact ⟨rfl, Nat.le_of_ble_eq_true rfl⟩ | exact rfl | decide)) ?_))
      refine Ix.mk b off (off + i * 4) rfl (by omega) (by show off + ((i : Nat) : Int).toNat * 4 = _; omega) ?_
      (repeat ((conv => whnf); first | refine G.seq ?_ | refine G.region cxOk ?_ | refine G.block ?_ | refine G.cond_t rfl ?_ | refine G.cond_f rfl ?_ | refine G.skip ?_ | refine G.exit ?_ | refine G.ret ?_ | refine Cmp.dt (by (first | (with_reducible rfl) | omega)) ?_ | refine Cmp.df (by omega) ?_ | (first | (with_reducible refine Ev.mk _ (u32_xor _ _) ?_) | (with_reducible refine Ev.mk _ (u32_and _ _) ?_) | (with_reducible refine Ev.mk _ (u32_or _ _) ?_) | (with_reducible refine Ev.mk _ (u32_add _ _) ?_) | (with_reducible refine Ev.mk _ (u32_not _) ?_) | (with_reducible refine Ev.mk _ (u8_u32 _) ?_) | refine Ix1.mk _ _ _ rfl (by decide) rfl ?_) | (first | (with_reducible refine Ev.mk _ (IntWalk.i64_in _ ?_) ?_; · omega) | (with_reducible refine Ev.mk _ (wrap_u8_nat _) ?_) | (with_reducible refine Ev.mk _ (shr8 _) ?_) | (with_reducible refine Ev.mk _ (Int.toNat_natCast _) ?_) | (with_reducible refine Ev.mk _ (Int.toNat_ofNat _) ?_)) | refine @Ev.keep (List Value) _ _ ?_ | refine Rd.mk _ (by assumption) (by (first | exact trivial | exact fun x => x)) ?_ | refine Nd.mk (by (first | omega | exact ⟨rfl, rfl⟩ | exact ⟨rfl, by decide⟩ | exact ⟨by decide, rfl⟩ | exact ⟨by omega, by omega, by omega, by (simp [ti5]; omega), rfl⟩ | exact ⟨rfl, Nat.le_of_ble_eq_true rfl⟩ | exact rfl | decide)) ?_))
      refine Ix.mk b off (off + i * 4) rfl (by omega) (by show off + ((i : Nat) : Int).toNat * 4 = _; omega) ?_
      (repeat ((conv => whnf); first | refine G.seq ?_ | refine G.region cxOk ?_ | refine G.block ?_ | refine G.cond_t rfl ?_ | refine G.cond_f rfl ?_ | refine G.skip ?_ | refine G.exit ?_ | refine G.ret ?_ | refine Cmp.dt (by (first | (with_reducible rfl) | omega)) ?_ | refine Cmp.df (by omega) ?_ | (first | (with_reducible refine Ev.mk _ (u32_xor _ _) ?_) | (with_reducible refine Ev.mk _ (u32_and _ _) ?_) | (with_reducible refine Ev.mk _ (u32_or _ _) ?_) | (with_reducible refine Ev.mk _ (u32_add _ _) ?_) | (with_reducible refine Ev.mk _ (u32_not _) ?_) | (with_reducible refine Ev.mk _ (u8_u32 _) ?_) | refine Ix1.mk _ _ _ rfl (by decide) rfl ?_) | (first | (with_reducible refine Ev.mk _ (IntWalk.i64_in _ ?_) ?_; · omega) | (with_reducible refine Ev.mk _ (wrap_u8_nat _) ?_) | (with_reducible refine Ev.mk _ (shr8 _) ?_) | (with_reducible refine Ev.mk _ (Int.toNat_natCast _) ?_) | (with_reducible refine Ev.mk _ (Int.toNat_ofNat _) ?_)) | refine @Ev.keep (List Value) _ _ ?_ | refine Rd.mk _ (by assumption) (by (first | exact trivial | exact fun x => x)) ?_ | refine Nd.mk (by (first | omega | exact ⟨rfl, rfl⟩ | exact ⟨rfl, by decide⟩ | exact ⟨by decide, rfl⟩ | exact ⟨by omega, by omega, by omega, by (simp [ti5]; omega), rfl⟩ | exact ⟨rfl, Nat.le_of_ble_eq_true rfl⟩ | exact rfl | decide)) ?_))
      refine Cl.mk (OwnWrite_ret (c := x.c) (hO.non (Ext.drew _ _)) (hk.few (by omega)) (by omega) hok.cl ⟨hok.lo, hok.hi⟩) ?_
      rintro _ w2 ⟨rfl, h2⟩
      (repeat ((conv => whnf); first | refine G.seq ?_ | refine G.region cxOk ?_ | refine G.block ?_ | refine G.cond_t rfl ?_ | refine G.cond_f rfl ?_ | refine G.skip ?_ | refine G.exit ?_ | refine G.ret ?_ | refine Cmp.dt (by (first | (with_reducible rfl) | omega)) ?_ | refine Cmp.df (by omega) ?_ | (first | (with_reducible refine Ev.mk _ (u32_xor _ _) ?_) | (with_reducible refine Ev.mk _ (u32_and _ _) ?_) | (with_reducible refine Ev.mk _ (u32_or _ _) ?_) | (with_reducible refine Ev.mk _ (u32_add _ _) ?_) | (with_reducible refine Ev.mk _ (u32_not _) ?_) | (with_reducible refine Ev.mk _ (u8_u32 _) ?_) | refine Ix1.mk _ _ _ rfl (by decide) rfl ?_) | (first | (with_reducible refine Ev.mk _ (IntWalk.i64_in _ ?_) ?_; · omega) | (with_reducible refine Ev.mk _ (wrap_u8_nat _) ?_) | (with_reducible refine Ev.mk _ (shr8 _) ?_) | (with_reducible refine Ev.mk _ (Int.toNat_natCast _) ?_) | (with_reducible refine Ev.mk _ (Int.toNat_ofNat _) ?_)) | refine @Ev.keep (List Value) _ _ ?_ | refine Rd.mk _ (by assumption) (by (first | exact trivial | exact fun x => x)) ?_ | refine Nd.mk (by (first | omega | exact ⟨rfl, rfl⟩ | exact ⟨rfl, by decide⟩ | exact ⟨by decide, rfl⟩ | exact ⟨by omega, by omega, by omega, by (simp [ti5]; omega), rfl⟩ | exact ⟨rfl, Nat.le_of_ble_eq_true rfl⟩ | exact rfl | decide)) ?_))
      exact ⟨i + 1, ⟨rfl, rfl, rfl, trivial⟩, ⟨hi', by rw [hs]; exact h2⟩, by omega⟩
  obtain rfl : i = L.length := by omega
  rw [List.take_length] at eD
  subst eD
  (repeat ((conv => whnf); first | refine G.seq ?_ | refine G.region cxOk ?_ | refine G.block ?_ | refine G.cond_t rfl ?_ | refine G.cond_f rfl ?_ | refine G.skip ?_ | refine G.exit ?_ | refine G.ret ?_ | refine Cmp.dt (by (first | (with_reducible rfl) | omega)) ?_ | refine Cmp.df (by omega) ?_ | (first | (with_reducible refine Ev.mk _ (u32_xor _ _) ?_) | (with_reducible refine Ev.mk _ (u32_and _ _) ?_) | (with_reducible refine Ev.mk _ (u32_or _ _) ?_) | (with_reducible refine Ev.mk _ (u32_add _ _) ?_) | (with_reducible refine Ev.mk _ (u32_not _) ?_) | (with_reducible refine Ev.mk _ (u8_u32 _) ?_) | refine Ix1.mk _ _ _ rfl (by decide) rfl ?_) | (first | (with_reducible refine Ev.mk _ (IntWalk.i64_in _ ?_) ?_; · omega) | (with_reducible refine Ev.mk _ (wrap_u8_nat _) ?_) | (with_reducible refine Ev.mk _ (shr8 _) ?_) | (with_reducible refine Ev.mk _ (Int.toNat_natCast _) ?_) | (with_reducible refine Ev.mk _ (Int.toNat_ofNat _) ?_)) | refine @Ev.keep (List Value) _ _ ?_ | refine Rd.mk _ (by assumption) (by (first | exact trivial | exact fun x => x)) ?_ | refine Nd.mk (by (first | omega | exact ⟨rfl, rfl⟩ | exact ⟨rfl, by decide⟩ | exact ⟨by decide, rfl⟩ | exact ⟨by omega, by omega, by omega, by (simp [ti5]; omega), rfl⟩ | exact ⟨rfl, Nat.le_of_ble_eq_true rfl⟩ | exact rfl | decide)) ?_))
  exact Don.mk ⟨db, rfl, hO, hk⟩
end Go.Proofs.Ytfphlbogblldbaa


/-
  The conditions of an operation that reads memory at most are sound: the theorem.
-/
import Derived.Test.YtjghlmbibimbiaaSx6

namespace Go.Proofs.Ytjghlmbibimbiaa.Sx

open Go

set_option linter.unusedVariables false

set_option linter.unusedSimpArgs false

section

variable {P : Program} {tab : Tab} {l : Env} {ρ : Operand → Value}

/-- The operation's value, the same in every later world that the mode asks of. -/
def RdOk (P : Program) (m : Md) (ρ : Operand → Value) (o : Oper) (w : World) (K : Value → Prop) : Prop :=
  ∃ v, m.R w (fun w' => (execOp ρ o).run P w' = .ok (.value v) w') ∧ K v
theorem RdOk.const {m : Md} {o : Oper} {w : World} {K : Value → Prop} {v : Value} (h : ∀ w', (execOp ρ o).run P w' = .ok (.value v) w') (k : K v) : RdOk P m ρ o w K := ⟨v, Md.R_all h, k⟩
theorem RdOk.sem {m : Md} {o : Oper} {w : World} {K : Value → Prop} {v : Value} {s : Sem Value} (he : execOp ρ o = (do pure (Next.value (← s)) : Sem Next)) (h : ∀ w', s.run P w' = .ok v w') (k : K v) : RdOk P m ρ o w K :=
  .const (fun w' => by rw [he]; simp [h w']) k

theorem slice_sound (hT : TabOk P tab) (hρ : Agree l ρ) {t e : Nat} {ti ei : TI} (ht : P.underlying t = some (.slice e)) (hei : TIok P e ei) {A : Option Addr} {n c : Nat} {lo hi mx : Option Operand} {K : Value → Prop}
    (hne : ¬ (hi = none ∧ mx.isSome)) (h : boundVC l mx c c fun m => boundVC l hi m n fun h => lowVC l lo A h m ei.size K) :
    ∃ v, (∀ w, (Instr.sliceAt t (.slice A n c) (lo.map ρ) (hi.map ρ) (mx.map ρ)).run P w = .ok v w) ∧ K v := by
  obtain ⟨m, h1, hm⟩ := bound_sound hρ h
  obtain ⟨hh, h2, hhh⟩ := bound_sound hρ h1
  obtain ⟨j, h3, hj⟩ := low_sound hρ h2
  refine ⟨_, fun w => ?_, h3⟩
  have hb := run_sliceBounds (P := P) (ρ := ρ) true (len := n) (cap := c) hne hm hhh hj w
  simp [Instr.sliceAt, Instr.slice, run_underlying ht, hb, hei.run_size]

theorem sliceArr_sound (hT : TabOk P tab) (hρ : Agree l ρ) {t e N : Nat} {ei : TI} (ht : P.underlying t = some (.array N e)) (hei : TIok P e ei) {b off : Nat} {lo hi mx : Option Operand} {K : Value → Prop}
    (hne : ¬ (hi = none ∧ mx.isSome)) (h : boundVC l mx N N fun m => boundVC l hi m N fun h => lowVC l lo (some ⟨b, off, none⟩) h m ei.size K) :
    ∃ v, (∀ w, (Instr.sliceAt t (.pointer (some ⟨b, off, none⟩)) (lo.map ρ) (hi.map ρ) (mx.map ρ)).run P w = .ok v w) ∧ K v := by
  obtain ⟨m, h1, hm⟩ := bound_sound hρ h
  obtain ⟨hh, h2, hhh⟩ := bound_sound hρ h1
  obtain ⟨j, h3, hj⟩ := low_sound hρ h2
  refine ⟨_, fun w => ?_, h3⟩
  have hb := run_sliceBounds (P := P) (ρ := ρ) false (len := N) (cap := N) hne hm hhh hj w
  simp only [Instr.sliceAt, Sem.run_bind, run_underlying ht, Result.andThen_ok, Instr.sureAddr, pure_bind, hb, hei.run_size, Sem.run_pure, Option.map_some]
  split <;> rfl

theorem sliceStr_sound (hT : TabOk P tab) (hρ : Agree l ρ) {t : Nat} (ht : P.underlying t = some .string) {s : ByteArray} {lo hi : Option Operand} {K : Value → Prop}
    (h : boundVC l hi s.size s.size fun h => boundVC l lo h 0 fun j => Ev (s.extract j h) fun z => K (.string z)) :
    ∃ v, (∀ w, (Instr.sliceAt t (.string s) (lo.map ρ) (hi.map ρ) none).run P w = .ok v w) ∧ K v := by
  obtain ⟨hh, h2, hhh⟩ := bound_sound hρ h
  obtain ⟨j, h3, hj⟩ := bound_sound hρ h2
  refine ⟨_, fun w => ?_, h3.out⟩
  have hb := run_sliceBounds (P := P) (ρ := ρ) false (len := s.size) (cap := s.size) (lo := lo) (hi := hi) (mx := none) (by simp) rfl hhh hj w
  simp only [Option.map_none] at hb
  simp [Instr.sliceAt, Instr.slice, run_underlying ht, hb]

theorem ix_sound {t e : Nat} {ei : TI} {A : Option Addr} {n c : Nat} {k : IntKind} {j : Int} {K : Value → Prop} (ht : P.underlying t = some (.slice e)) (hei : TIok P e ei) (h : Ix A n j ei.size K) :
    ∃ v, (∀ w, (Instr.indexAt t (.slice A n c) (.int k j)).run P w = .ok v w) ∧ K v := by
  obtain ⟨b, o, rfl, hj, hk⟩ := h.out
  exact ⟨_, fun w => by simp [Instr.indexAt, asIntOf, run_underlying ht, hj.1, hj.2, hei.run_size, add_none], hk⟩
theorem ixArr_sound {t e n : Nat} {ei : TI} {b off : Nat} {k : IntKind} {j : Int} {K : Value → Prop} (ht : P.underlying t = some (.array n e)) (hei : TIok P e ei) (h : Ix (some ⟨b, off, none⟩) n j ei.size K) :
    ∃ v, (∀ w, (Instr.indexAt t (.pointer (some ⟨b, off, none⟩)) (.int k j)).run P w = .ok v w) ∧ K v := by
  obtain ⟨b', o', he, hj, hk⟩ := h.out
  injection he with he
  injection he with e1 e2 _
  subst e1 e2
  exact ⟨_, fun w => by simp [Instr.indexAt, asIntOf, run_underlying ht, hj.1, hj.2, hei.run_size, add_none, Instr.sureAddr], hk⟩

theorem build_struct (hT : TabOk P tab) {t sz by_ : Nat} {fs : List (Nat × Nat)} {z : Value} (ht : TIok P t ⟨.struct fs, sz, by_, z⟩) (ha : allIn tab fs = true) {vs : List (Nat × Value)} {K : List Value → Prop}
    (h : fillVC (structPlace tab fs) (vcells z) vs K) : ∃ cs, (∀ w, (Instr.build t vs.toArray).run P w = .ok (.agg cs.toArray) w) ∧ K cs := by
  obtain ⟨f, h1, h2⟩ := ht.struct
  obtain ⟨cs, h3, h4⟩ := fill_sound vs (vcells z) h
  refine ⟨cs, fun w => ?_, h4⟩
  obtain ⟨fl⟩ := f
  simp only at h2
  subst h2
  obtain ⟨pl, h5, h6⟩ := places_sound hT fl ha w
  have hz : z.cells = (vcells z).toArray := by rw [← vcells_eq]
  simp only [Instr.build, Sem.run_bind, ht.run_zero, Result.andThen_ok, run_underlying h1, List.mapM_toArray, Sem.run_map, h5]
  have hp : (fun i => pl.toArray[i]?) = structPlace tab (fl.map (fun f => (f.offset, f.type))) := by
    funext i
    rw [← h6 i]
    simp
  simp only [hp, hz, h3, List.toList_toArray]
  rfl
theorem build_array (hT : TabOk P tab) {t sz by_ n e : Nat} {ei : TI} {z : Value} (ht : TIok P t ⟨.array n e, sz, by_, z⟩) (hei : TIok P e ei) {vs : List (Nat × Value)} {K : List Value → Prop}
    (h : fillVC (fun i => some (i * ei.size, ei.size)) (vcells z) vs K) : ∃ cs, (∀ w, (Instr.build t vs.toArray).run P w = .ok (.agg cs.toArray) w) ∧ K cs := by
  obtain ⟨cs, h3, h4⟩ := fill_sound vs (vcells z) h
  refine ⟨cs, fun w => ?_, h4⟩
  have hz : z.cells = (vcells z).toArray := by rw [← vcells_eq]
  simp only [Instr.build, Sem.run_bind, ht.run_zero, Result.andThen_ok, run_underlying ht.array, hei.run_size, hz, h3, List.toList_toArray]
  rfl

theorem load_one {t : Nat} {ti : TI} (ht : TIok P t ti) (ha : isAggT ti.ty = false) {w : World} {a : Addr} {v : Value} (h : w.cell? a = some v) :
    (Instr.loadAt t (.pointer (some a))).run P w = .ok v w := by
  simp [Instr.loadAt, Instr.sureAddr, loadVar, ht.run_agg, ha, h]
theorem load_agg {t : Nat} {ti : TI} (ht : TIok P t ti) (ha : isAggT ti.ty = true) {w : World} {b off : Nat} {cs : List Value} (hl : cs.length = ti.size)
    (h : ∀ i (h : i < cs.length), w.cell? ⟨b, off + i, none⟩ = some cs[i]) : (Instr.loadAt t (.pointer (some ⟨b, off, none⟩))).run P w = .ok (.agg cs.toArray) w := by
  have := run_loadCells_list (P := P) w ⟨b, off, none⟩ cs (fun j v hj => by
    obtain ⟨h1, h2⟩ := List.getElem?_eq_some_iff.1 hj
    rw [add_none, h j h1, h2])
  rw [hl] at this
  simp [Instr.loadAt, Instr.sureAddr, loadVar, ht.run_agg, ha, ht.run_size, this]

theorem fieldAt_sound (hT : TabOk P tab) {s sz by_ : Nat} {fs : List (Nat × Nat)} {z : Value} (hs : TIok P s ⟨.struct fs, sz, by_, z⟩) {f fo size : Nat} (hp : structPlace tab fs f = some (fo, size)) (hz : Nat.beq size 0 = false) (b off : Nat) (w : World) :
    (Instr.fieldAt s (.pointer (some ⟨b, off, none⟩)) f).run P w = .ok (.pointer (some ⟨b, off + fo, none⟩)) w := by
  obtain ⟨fl, h1, h2⟩ := hs.struct
  unfold structPlace at hp
  split at hp
  · cases hp
  · rename_i o ft hn
    split at hp
    · cases hp
    · rename_i fi hfi
      simp only [Option.some.injEq, Prod.mk.injEq] at hp
      obtain ⟨rfl, rfl⟩ := hp
      rw [nth_eq, ← h2] at hn
      simp only [List.getElem?_map, Option.map_eq_some_iff] at hn
      obtain ⟨fd, hfd, he⟩ := hn
      simp only [Prod.mk.injEq] at he
      have hfd' : fl[f]? = some fd := by simpa using hfd
      have hne : ¬ fi.size = 0 := fun e => by rw [e] at hz; simp at hz
      have hsz := (hT _ _ hfi).run_size w
      rw [← he.2] at hsz
      simp [Instr.fieldAt, run_underlying h1, hfd', Instr.sureAddr, fieldPlace, hsz, hne, add_none, he.1]

theorem field_sound (hT : TabOk P tab) {s sz by_ : Nat} {fs : List (Nat × Nat)} {z : Value} (hs : TIok P s ⟨.struct fs, sz, by_, z⟩) {f fo ft : Nat} {fi : TI} (hn : nth f fs = some (fo, ft)) (hfi : tlook ft tab = some fi) {cs : Array Value} {K : Value → Prop}
    (h : partVC fi cs.toList fo K) : ∃ v, (∀ w, (Instr.field s (.agg cs) f).run P w = .ok v w) ∧ K v := by
  obtain ⟨fl, h1, h2⟩ := hs.struct
  rw [nth_eq, ← h2] at hn
  simp only [List.getElem?_map, Option.map_eq_some_iff] at hn
  obtain ⟨fd, hfd, he⟩ := hn
  simp only [Prod.mk.injEq] at he
  have hfd' : fl[f]? = some fd := by simpa using hfd
  obtain ⟨v, hv, hk⟩ := part_sound (hT _ _ hfi) h
  exact ⟨v, fun w => by simp [Instr.field, run_underlying h1, hfd', asAgg, he.1, he.2, hv], hk⟩

theorem index_arr {t n e : Nat} {ei : TI} (ht : P.underlying t = some (.array n e)) (hei : TIok P e ei) {cs : Array Value} {k : IntKind} {j : Int} {K : Value → Prop} (h : Nd (0 ≤ j ∧ j < (n : Int)) (match isAggT ei.ty with
        | true => Ev ((cs.toList.drop (j.toNat * ei.size)).take ei.size) fun l => K (.agg l.toArray)
        | false => ∃ v, cs.toList[j.toNat * ei.size]? = some v ∧ K v)) : ∃ v, (∀ w, (Instr.index t (.agg cs) (.int k j)).run P w = .ok v w) ∧ K v := by
  have hp : partVC ei cs.toList (j.toNat * ei.size) K := by
    unfold partVC
    have := h.k
    cases hg : isAggT ei.ty with
    | true => rw [hg] at this; exact this
    | false =>
      rw [hg] at this
      obtain ⟨v, h1, h2⟩ := this
      simp only [nth_eq, h1]
      exact h2
  obtain ⟨v, hv, hk⟩ := part_sound hei hp
  exact ⟨v, fun w => by simp [Instr.index, asIntOf, run_underlying ht, h.h.1, h.h.2, hei.run_size, hv], hk⟩
theorem index_str {t : Nat} (ht : P.underlying t = some .string) {s : ByteArray} {k : IntKind} {j : Int} (h0 : 0 ≤ j) (h1 : j < (s.size : Int)) (w : World) :
    (Instr.index t (.string s) (.int k j)).run P w = .ok (.int .u8 ((s.data.toList[j.toNat]?.getD 0).toNat : Int)) w := by
  have hlt : j.toNat < s.size := by omega
  have e1 : s[j.toNat]? = some s[j.toNat] := by simp [hlt]
  have e2 : s.data.toList[j.toNat]?.getD 0 = s[j.toNat] := by
    have : j.toNat < s.data.toList.length := by simpa using hlt
    rw [List.getElem?_eq_getElem this]
    rfl
  rw [e2]
  simp [Instr.index, asIntOf, run_underlying ht, h0, e1]

theorem rd_sound (hT : TabOk P tab) {m : Md} {o : Oper} {w : World} {K : Value → Prop} (hρ : Agree l ρ) (h : rdVC P tab m l o w K) : RdOk P m ρ o w K := by
  obtain ⟨dst, op, type, pos, after, guard⟩ := o
  cases op with
  | move x =>
    simp only [rdVC] at h
    split at h
    · rename_i v hv; exact .const (fun w' => by simp [execOp, hρ _ _ hv]) h
    · exact h.elim
  | assign x =>
    simp only [rdVC] at h
    split at h
    · rename_i v hv; exact .const (fun w' => by simp [execOp, hρ _ _ hv]) h
    · exact h.elim
  | pick c a b =>
    simp only [rdVC] at h
    split at h
    · rename_i hc
      split at h
      · rename_i v hv; exact .const (fun w' => by simp [execOp, hρ _ _ hc, hρ _ _ hv, asBool]) h
      · exact h.elim
    · rename_i hc
      split at h
      · rename_i v hv; exact .const (fun w' => by simp [execOp, hρ _ _ hc, hρ _ _ hv, asBool]) h
      · exact h.elim
    · exact h.elim
  | nilCheck x =>
    simp only [rdVC] at h
    split at h
    · rename_i a hx; exact .const (fun w' => by simp [execOp, hρ _ _ hx]) h
    · rename_i f fi ca hx; exact .const (fun w' => by simp [execOp, hρ _ _ hx]) h
    · exact h.elim
  | binOp op t x y yt =>
    simp only [rdVC] at h
    split at h
    · rename_i a hx
      split at h
      · rename_i b hy
        obtain ⟨v, h1, h2⟩ := bin_sound hT h
        exact .sem (s := do eqGuard op t x y a b; binOp op t a b) (by simp [execOp, hρ _ _ hx, hρ _ _ hy]) (fun w' => h1 x y w') h2
      · exact h.elim
    · exact h.elim
  | unOp op t x =>
    simp only [rdVC] at h
    split at h
    · rename_i a hx
      obtain ⟨v, h1, h2⟩ := un_sound (P := P) h
      exact .sem (by simp [execOp, hρ _ _ hx]) h1 h2
    · exact h.elim
  | convert s d x =>
    simp only [rdVC] at h
    split at h
    · rename_i si k _ _ _ _ n hs hd hx
      obtain ⟨ds, hds, _⟩ := (hT _ _ hs).und
      refine .sem (s := convert s d (ρ x)) (by simp [execOp]) (fun w' => ?_) h.out
      simp [hρ _ _ hx, convert, run_underlying hds, run_underlying (hT _ _ hd).int, Conv.intToInt]
    · rename_i si _ _ _ b hs hd hx
      obtain ⟨ds, hds, _⟩ := (hT _ _ hs).und
      refine .sem (s := convert s d (ρ x)) (by simp [execOp]) (fun w' => ?_) h
      simp [hρ _ _ hx, convert, run_underlying hds, run_underlying (hT _ _ hd).string]
    · rename_i e _ _ _ _ _ _ A n c hs hd hx
      split at h
      · rename_i he
        obtain ⟨bs, hl, hr, hk⟩ := h.out
        refine ⟨_, Md.R_mono hr fun w' hb => ?_, hk⟩
        subst hl
        simp [execOp, hρ _ _ hx, run_bytes (hT _ _ hs).slice (hT _ _ he).int (hT _ _ hd).string hb c]
      · exact h.elim
    · exact h.elim
  | makeFunc fn fi ca =>
    simp only [rdVC] at h
    split at h
    · rename_i f hf
      split at h
      · rename_i c hc
        have e1 : fi.map ρ = f.toArray := by exact Array.ext' (by rw [Array.toList_map, hρ.evls hf])
        have e2 : ca.map ρ = c.toArray := by exact Array.ext' (by rw [Array.toList_map, hρ.evls hc])
        exact .const (fun w' => by simp [execOp, Instr.makeFunc, e1, e2]) h
      · exact h.elim
    · exact h.elim
  | load t x =>
    simp only [rdVC] at h
    split at h
    · rename_i ti b off ht hx
      split at h
      · rename_i ha
        obtain ⟨cs, hl, hr, hk⟩ := h.out
        refine ⟨_, Md.R_mono hr fun w' hc => ?_, hk⟩
        simp [execOp, hρ _ _ hx, load_agg (hT _ _ ht) ha hl hc]
      · rename_i ha
        obtain ⟨v, hr, hk⟩ := h.out
        refine ⟨_, Md.R_mono hr fun w' hc => ?_, hk⟩
        simp [execOp, hρ _ _ hx, load_one (hT _ _ ht) ha hc]
    · exact h.elim
  | fieldAddr s x f =>
    simp only [rdVC] at h
    split at h
    · rename_i fs _ _ _ b off hs hx
      split at h
      · rename_i fo size hp
        split at h
        · rename_i hz
          exact .sem (s := Instr.fieldAt s (ρ x) f) (by simp [execOp]) (fun w' => by rw [hρ _ _ hx]; exact fieldAt_sound hT (hT _ _ hs) hp hz b off w') h
        · exact h.elim
      · exact h.elim
    · exact h.elim
  | field s x f =>
    simp only [rdVC] at h
    split at h
    · rename_i fs _ _ _ cs hs hx
      split at h
      · rename_i fo ft hn
        split at h
        · rename_i fi hfi
          obtain ⟨v, h1, h2⟩ := field_sound hT (hT _ _ hs) hn hfi h
          exact .sem (s := Instr.field s (ρ x) f) (by simp [execOp]) (fun w' => by rw [hρ _ _ hx]; exact h1 w') h2
        · exact h.elim
      · exact h.elim
    · exact h.elim
  | indexAddr t x i =>
    simp only [rdVC] at h
    split at h
    · rename_i e _ _ _ A n c k j ht hx hi
      split at h
      · rename_i ei he
        obtain ⟨v, h1, h2⟩ := ix_sound (c := c) (k := k) (hT _ _ ht).slice (hT _ _ he) (ix_of h)
        exact .sem (s := Instr.indexAt t (ρ x) (ρ i)) (by simp [execOp]) (fun w' => by rw [hρ _ _ hx, hρ _ _ hi]; exact h1 w') h2
      · exact h.elim
    · rename_i n e _ _ _ b off k j ht hx hi
      split at h
      · rename_i ei he
        obtain ⟨v, h1, h2⟩ := ixArr_sound (k := k) (hT _ _ ht).array (hT _ _ he) (ix_of h)
        exact .sem (s := Instr.indexAt t (ρ x) (ρ i)) (by simp [execOp]) (fun w' => by rw [hρ _ _ hx, hρ _ _ hi]; exact h1 w') h2
      · exact h.elim
    · exact h.elim
  | index t x i =>
    simp only [rdVC] at h
    split at h
    · rename_i n e _ _ _ cs k j ht hx hi
      split at h
      · rename_i ei he
        obtain ⟨v, h1, h2⟩ := index_arr (k := k) (hT _ _ ht).array (hT _ _ he) h
        exact .sem (s := Instr.index t (ρ x) (ρ i)) (by simp [execOp]) (fun w' => by rw [hρ _ _ hx, hρ _ _ hi]; exact h1 w') h2
      · exact h.elim
    · rename_i _ _ _ s k j ht hx hi
      exact .sem (s := Instr.index t (ρ x) (ρ i)) (by simp [execOp]) (fun w' => by rw [hρ _ _ hx, hρ _ _ hi]; exact index_str (hT _ _ ht).string h.h.1 h.h.2 w') h.k.out
    · exact h.elim
  | slice t x lo hi mx =>
    simp only [rdVC] at h
    split at h
    · rename_i e _ _ _ A n c ht hx
      split at h
      · rename_i ei he
        have hne : ¬ (hi = none ∧ mx.isSome) := by
          rintro ⟨rfl, h2⟩
          cases mx with
          | none => simp at h2
          | some y => exact (show False from h)
        have h' : boundVC l mx c c fun m => boundVC l hi m n fun h => lowVC l lo A h m ei.size K := by
          split at h
          · exact h.elim
          · exact h
        obtain ⟨v, h1, h2⟩ := slice_sound hT hρ (ti := ei) (hT _ _ ht).slice (hT _ _ he) hne h'
        exact .sem (s := Instr.sliceAt t (ρ x) (lo.map ρ) (hi.map ρ) (mx.map ρ)) (by simp [execOp]) (fun w' => by rw [hρ _ _ hx]; exact h1 w') h2
      · exact h.elim
    · rename_i n e _ _ _ b off ht hx
      split at h
      · rename_i ei he
        have hne : ¬ (hi = none ∧ mx.isSome) := by
          rintro ⟨rfl, h2⟩
          cases mx with
          | none => simp at h2
          | some y => exact (show False from h)
        have h' : boundVC l mx n n fun m => boundVC l hi m n fun h => lowVC l lo (some ⟨b, off, none⟩) h m ei.size K := by
          split at h
          · exact h.elim
          · exact h
        obtain ⟨v, h1, h2⟩ := sliceArr_sound hT hρ (hT _ _ ht).array (hT _ _ he) hne h'
        exact .sem (s := Instr.sliceAt t (ρ x) (lo.map ρ) (hi.map ρ) (mx.map ρ)) (by simp [execOp]) (fun w' => by rw [hρ _ _ hx]; exact h1 w') h2
      · exact h.elim
    · rename_i _ _ _ s ht hx
      split at h
      · exact h.elim
      · obtain ⟨v, h1, h2⟩ := sliceStr_sound hT hρ (hT _ _ ht).string h
        exact .sem (s := Instr.sliceAt t (ρ x) (lo.map ρ) (hi.map ρ) none) (by simp [execOp]) (fun w' => by rw [hρ _ _ hx]; exact h1 w') h2
    · exact h.elim
  | extract x i =>
    simp only [rdVC] at h
    split at h
    · rename_i vs hx
      split at h
      · rename_i v hv
        rw [nth_eq] at hv
        have hv' : vs[i]? = some v := by simpa using hv
        exact .const (fun w' => by simp [execOp, hρ _ _ hx, Instr.extract, hv']) h
      · exact h.elim
    · exact h.elim
  | build t ps =>
    simp only [rdVC] at h
    split at h
    · rename_i fs _ _ z vs ht hp
      split at h
      · rename_i ha
        obtain ⟨cs, h1, h2⟩ := build_struct hT (hT _ _ ht) ha h
        refine .sem (s := Instr.build t (ps.map fun (i, x) => (i, ρ x))) (by simp [execOp]) (fun w' => ?_) h2
        have : (ps.map fun (i, x) => (i, ρ x)) = vs.toArray := by rw [← evparts_sound hρ hp]; apply Array.ext'; simp
        rw [this]
        exact h1 w'
      · exact h.elim
    · rename_i n e _ _ z vs ht hp
      split at h
      · rename_i ei he
        obtain ⟨cs, h1, h2⟩ := build_array hT (hT _ _ ht) (hT _ _ he) h
        refine .sem (s := Instr.build t (ps.map fun (i, x) => (i, ρ x))) (by simp [execOp]) (fun w' => ?_) h2
        have : (ps.map fun (i, x) => (i, ρ x)) = vs.toArray := by rw [← evparts_sound hρ hp]; apply Array.ext'; simp
        rw [this]
        exact h1 w'
      · exact h.elim
    · exact h.elim
  | call c =>
    obtain ⟨callee, args, argTypes⟩ := c
    obtain ⟨args⟩ := args
    obtain ⟨argTypes⟩ := argTypes
    simp only [rdVC] at h
    split at h
    · rename_i x t
      split at h
      · rename_i ht hx
        exact .const (fun w' => by simp [execOp, resolve, invoke, builtin, Builtin.len_, hρ _ _ hx, run_underlying (hT _ _ ht).slice, goInt]) h
      · rename_i ht hx
        exact .const (fun w' => by simp [execOp, resolve, invoke, builtin, Builtin.len_, hρ _ _ hx, run_underlying (hT _ _ ht).string, goInt]) h
      · rename_i ht hx
        exact .const (fun w' => by simp [execOp, resolve, invoke, builtin, Builtin.len_, run_underlying (hT _ _ ht).array, goInt]) h
      · exact h.elim
    · rename_i x t
      split at h
      · rename_i ht hx
        exact .const (fun w' => by simp [execOp, resolve, invoke, builtin, Builtin.cap_, hρ _ _ hx, run_underlying (hT _ _ ht).slice, goInt]) h
      · exact h.elim
    · split at h
      · rename_i hx hy
        exact .const (fun w' => by simp [execOp, resolve, invoke, builtin, Builtin.min_, Builtin.min2, hρ _ _ hx, hρ _ _ hy]) h.out
      · exact h.elim
    · split at h
      · rename_i hx hy
        exact .const (fun w' => by simp [execOp, resolve, invoke, builtin, Builtin.max_, Builtin.max2, hρ _ _ hx, hρ _ _ hy]) h.out
      · exact h.elim
    · exact h.elim
  | _ => exact h.elim
end

end Go.Proofs.Ytjghlmbibimbiaa.Sx


/-
  Regions, orders, and a function's entry, by the conditions of their operations.
-/
import Derived.Test.YtjghlmbibimbiaaSx8

namespace Go.Proofs.Ytjghlmbibimbiaa.Sx

open Go

set_option linter.unusedVariables false

set_option linter.unusedSimpArgs false

/-- The program at hand: its types, and which functions can be called. -/
structure Cx where
  P : Program
  tab : Tab
  lo : Nat
  hi : Nat
structure Cx.Ok (C : Cx) : Prop where
  tab : TabOk C.P C.tab
  fns : Fns C.P C.lo C.hi
  mixed : C.P.follows .mixedOrders = true

def isRd (tab : Tab) (o : Oper) : Bool :=
  match o.op with
  | .move _ | .assign _ | .pick .. | .nilCheck _ | .binOp .. | .unOp .. | .makeFunc .. | .load .. | .fieldAddr .. | .field .. | .indexAddr .. | .index .. | .slice .. | .extract .. | .build .. => true
  | .convert _ d _ => match tlook d tab with
    | some ⟨.slice _, _, _, _⟩ => false
    | _ => true
  | .call c => match c.callee with
    | .builtin .len | .builtin .cap | .builtin .min | .builtin .max => true
    | _ => false
  | _ => false
def opVC (C : Cx) (m : Md) (l : Env) (o : Oper) (w : World) (K : Value → World → Prop) : Prop :=
  match isRd C.tab o with
  | true => rdVC C.P C.tab m l o w fun v => K v w
  | false => wrVC C.P C.tab C.lo C.hi m l o w K
def putE (n : Nat) (l : Env) (dst : Option Tmp) (v : Value) : Env :=
  match dst with
  | none => l
  | some d => match Nat.blt d n with
    | true => (d, v) :: l
    | false => l
theorem Fr.putE {n : Nat} {l : Env} {a : Act} (h : Fr n l a) (dst : Option Tmp) (v : Value) : Fr n (Sx.putE n l dst v) (a.put dst v) := by
  cases dst with
  | none => exact h
  | some d =>
    show Fr n (match Nat.blt d n with
      | true => (d, v) :: l
      | false => l) _
    by_cases hd : d < n
    · have hb : Nat.blt d n = true := Nat.ble_eq_true_of_le (show d + 1 ≤ n from hd)
      rw [hb]
      exact h.put hd v
    · have hb : Nat.blt d n = false := by
        cases hx : Nat.blt d n
        · rfl
        · exact absurd (Nat.le_of_ble_eq_true hx) hd
      rw [hb]
      have e : a.put (some d) v = a := by
        show ({ a with tmps := a.tmps.setIfInBounds d v } : Act) = a
        rw [Array.setIfInBounds_eq_of_size_le (by have := h.size; rw [this]; exact Nat.le_of_not_lt hd)]
      rw [e]
      exact h
def putK (n : Nat) (l : Env) (dst : Option Tmp) (v : Value) (K : Env → Prop) : Prop :=
  match dst with
  | none => K l
  | some d => match Nat.blt d n with
    | true => K ((d, v) :: l)
    | false => K l
theorem putK_eq {n : Nat} {l : Env} {dst : Option Tmp} {v : Value} {K : Env → Prop} (h : putK n l dst v K) : K (putE n l dst v) := by
  cases dst with
  | none => exact h
  | some d =>
    unfold putK at h
    unfold putE
    simp only [] at h ⊢
    split at h <;> exact h
def guardV (all : List Oper) (l : Env) (g : Option (Nat × Bool)) : Option Bool :=
  match g with
  | none => some true
  | some (j, want) => match nth j all with
    | none => none
    | some oj => match oj.dst with
      | none => none
      | some t => match look t l with
        | some (.bool b) => (match b, want with
          | true, true => some true
          | false, false => some true
          | true, false => some false
          | false, true => some false)
        | some (.tuple _) => some false
        | _ => none
theorem guard_sound {n : Nat} {ops : Array Oper} {l : Env} {a : Act} (h : Fr n l a) {o : Oper} {r : Bool} (hg : guardV ops.toList l o.guard = some r) : Region.wanted o (yielded ops a.tmps) = r := by
  unfold guardV at hg
  unfold Region.wanted
  cases hgu : o.guard with
  | none => rw [hgu] at hg; simpa using hg
  | some jw =>
    obtain ⟨j, want⟩ := jw
    rw [hgu] at hg
    simp only [] at hg ⊢
    split at hg
    · cases hg
    · rename_i oj hoj
      rw [nth_eq] at hoj
      have hoj' : ops[j]? = some oj := by simpa using hoj
      split at hg
      · cases hg
      · rename_i t hd
        have key : yielded ops a.tmps j = match a.tmps[t]? with
            | some (.bool b) => some b
            | _ => none := by
          simp only [yielded, hoj', Option.bind_some, hd]
          rfl
        rw [key]
        split at hg
        · rename_i b hl
          have := h.get t _ hl
          have ht : a.tmps[t]? = some (.bool b) := by
            rw [Array.getD_eq_getD_getElem?] at this
            cases hx : a.tmps[t]? with
            | none => rw [hx] at this; simp [undef] at this
            | some x => rw [hx] at this; simp at this; rw [this]
          rw [ht]
          cases b <;> cases want <;> simp_all
        · rename_i vs hl
          have := h.get t _ hl
          have ht : (match a.tmps[t]? with
            | some (.bool b) => some b
            | _ => none) = (none : Option Bool) := by
            rw [Array.getD_eq_getD_getElem?] at this
            cases hx : a.tmps[t]? with
            | none => rfl
            | some x => rw [hx] at this; simp at this; rw [this]
          rw [ht]
          simp at hg
          subst hg
          simp
        · cases hg

def opsVC (C : Cx) (n : Nat) (all : List Oper) : List Oper → Env → World → (Env → World → Prop) → Prop
  | [], l, w, K => K l w
  | o :: r, l, w, K => match guardV all l o.guard with
    | some true => opVC C .plain l o w fun v w' => putK n l o.dst v fun l' => opsVC C n all r l' w' K
    | some false => putK n l o.dst undef fun l' => opsVC C n all r l' w K
    | none => False

section

variable {C : Cx} {n : Nat}
theorem op_sound (hC : C.Ok) {m : Md} {l : Env} {o : Oper} {w : World} {K : Value → World → Prop} {a : Act} {next : Act → World → Prop} {Q : Exit → Act → World → Prop} (hρ : Agree l a.eval)
    (h : opVC C m l o w K) (hn : ∀ v w', m.W w w' → K v w' → next (a.put o.dst v) w') : o.wp C.P a w next Q := by
  unfold opVC at h
  split at h
  · obtain ⟨v, h1, h2⟩ := rd_sound hC.tab hρ h
    have h3 : (execOp a.eval o).run C.P w = .ok (.value v) w := by
      cases m
      · exact h1
      · exact h1 w (Ext.refl _ _)
    exact upon_value h3 (hn v w (Md.W_ext (Ext.refl _ _)) h2)
  · exact wr_sound hC.tab hC.fns hρ h hn

theorem ops_sound (hC : C.Ok) {ops : Array Oper} {Q : Exit → Act → World → Prop} {K : Env → World → Prop} (hQ : ∀ l w, K l w → ∀ a, Fr n l a → Q .normal a w) :
    ∀ (rest : List Oper) (l : Env) (w : World) (a : Act), Fr n l a → opsVC C n ops.toList rest l w K → wpList C.P ops Q rest a w
  | [], l, w, a, ha, h => hQ l w h a ha
  | o :: r, l, w, a, ha, h => by
    unfold opsVC at h
    unfold wpList
    split at h
    · rename_i hg
      rw [guard_sound ha hg, if_pos rfl]
      exact .inl (op_sound hC ha.agree h fun v w' _ hk => ops_sound hC hQ r _ w' _ (ha.putE _ _) (putK_eq (K := fun l' => opsVC C n ops.toList r l' w' K) hk))
    · rename_i hg
      rw [guard_sound ha hg, if_neg (by simp)]
      exact ops_sound hC hQ r _ w _ (ha.putE _ _) (putK_eq (K := fun l' => opsVC C n ops.toList r l' w K) h)
    · exact h.elim

theorem G.region (hC : C.Ok) {id : Nat} {ops : Array Oper} {l : Env} {w : World} {Q : Exit → Env → World → Prop} (h : opsVC C n ops.toList ops.toList l w (Q .normal)) : G C.P n (.region id ops false) l w Q :=
  ⟨fun a ha => wp_region_list (ops_sound hC (fun l w hk a ha => ⟨l, ha, hk⟩) ops.toList l w a ha h)⟩

def opW (C : Cx) (S : Nat → Prop) (l : Env) (o : Oper) (w : World) (K : Value → World → Prop) : Prop :=
  match isRd C.tab o with
  | true => rdVC C.P C.tab .plain l o w fun v => K v w
  | false => opVC C (.any S) l o w K
theorem opW_sound (hC : C.Ok) {S : Nat → Prop} {l : Env} {o : Oper} {w : World} {K : Value → World → Prop} {a : Act} {next : Act → World → Prop} {Q : Exit → Act → World → Prop} (hρ : Agree l a.eval)
    (h : opW C S l o w K) (hn : ∀ v w', Ext S w w' → K v w' → next (a.put o.dst v) w') : o.wp C.P a w next Q := by
  unfold opW at h
  split at h
  · obtain ⟨v, h1, h2⟩ := rd_sound (m := .plain) hC.tab hρ h
    exact upon_value h1 (hn v w (Ext.refl _ _) h2)
  · exact op_sound hC hρ h hn

def trVC (C : Cx) (n : Nat) (all : List Oper) (S : Nat → Prop) (K : Env → World → Prop) : Tr → Env → World → Prop
  | .done, l, w => K l w
  | .tk i t, l, w => match nth i all with
    | none => False
    | some o => match guardV all l o.guard with
      | some true => (match isRd C.tab o with
        | true => rdVC C.P C.tab (.any S) l o w fun v => putK n l o.dst v fun l' => trVC C n all S K t l' w
        | false => False)
      | some false => putK n l o.dst undef fun l' => trVC C n all S K t l' w
      | none => False
  | .w i t, l, w => match nth i all with
    | none => False
    | some o => match guardV all l o.guard with
      | some true => opW C S l o w fun v w' => putK n l o.dst v fun l' => trVC C n all S K t l' w'
      | some false => putK n l o.dst undef fun l' => trVC C n all S K t l' w
      | none => False
  | .alt i t r, l, w => (match nth i all with
    | none => False
    | some o => match guardV all l o.guard with
      | some true => opW C S l o w fun v w' => putK n l o.dst v fun l' => trVC C n all S K t l' w'
      | some false => putK n l o.dst undef fun l' => trVC C n all S K t l' w
      | none => False) ∧ trVC C n all S K r l w
  | .z i, l, w => match nth i all with
    | none => False
    | some o => match guardV all l o.guard with
      | some true => opVC C .plain l o w fun v w' => putK n l o.dst v fun l' => K l' w'
      | some false => putK n l o.dst undef fun l' => K l' w
      | none => False

theorem tr_op (hC : C.Ok) {ops : Array Oper} {S : Nat → Prop} {Q : Exit → Act → World → Prop} {i : Nat} {l : Env} {w : World} {a : Act} (ha : Fr n l a) {X : Env → World → Prop} {next : Act → World → Prop}
    (h : match nth i ops.toList with
      | none => False
      | some o => match guardV ops.toList l o.guard with
        | some true => opW C S l o w fun v w' => putK n l o.dst v fun l' => X l' w'
        | some false => putK n l o.dst undef fun l' => X l' w
        | none => False)
    (hn : ∀ l' w' a', Fr n l' a' → Ext S w w' → X l' w' → next a' w') : wpOp C.P ops Q i next a w := by
  unfold wpOp
  split at h
  · exact h.elim
  · rename_i o ho
    rw [nth_eq] at ho
    have ho' : ops[i]? = some o := by simpa using ho
    simp only [ho']
    split at h
    · rename_i hg
      rw [guard_sound ha hg, if_pos rfl]
      exact .inl (opW_sound hC ha.agree h fun v w' hw hk => hn _ w' _ (ha.putE _ _) hw (putK_eq (K := fun l' => X l' w') hk))
    · rename_i hg
      rw [guard_sound ha hg, if_neg (by simp)]
      exact hn _ w _ (ha.putE _ _) (Ext.refl _ _) (putK_eq (K := fun l' => X l' w) h)
    · exact h.elim

theorem tr_sound (hC : C.Ok) {ops : Array Oper} {S : Nat → Prop} {Q : Exit → Act → World → Prop} {K : Env → World → Prop} (hs : Region.noSelect ops = true) (hpan : ∀ c a a' w, Q (.panic c) a w → Q (.panic c) a' w)
    (hQ : ∀ l w, K l w → ∀ a, Fr n l a → Q .normal a w) : ∀ (t : Tr) (c : Bool) (listed : Array Bool) (fuel : Nat) (l : Env) (w : World) (a : Act), t.ok ops c listed = true → t.depth ≤ fuel → Down .any ops listed → Fr n l a → trVC C n ops.toList S K t l w →
      (c = false → wpAnyT C.P .any ops Q (Ext S) fuel listed a w) ∧
      (∀ k, fuel = k + 1 → ∀ i ∈ t.heads, i ∈ Region.ready .any ops listed → wpOp C.P ops Q i (fun a' w' => (Last .any ops i ∨ Ext S w w') ∧ wpAnyT C.P .any ops Q (Ext S) k (listed.setIfInBounds i true) a' w') a w)
  | .done, c, listed, fuel, l, w, a, hok, hd, hdn, ha, h => by
    refine ⟨fun hc => ?_, fun k _ i hi _ => by simp [Tr.heads] at hi⟩
    simp only [Tr.ok, Bool.and_eq_true, List.isEmpty_iff] at hok
    cases fuel with
    | zero => exact ⟨hok.2, hQ l w h a ha⟩
    | succ k => exact ⟨fun _ => hQ l w h a ha, by rw [hok.2]; simp⟩
  | .tk i t, c, listed, fuel, l, w, a, hok, hd, hdn, ha, h => by
    refine ⟨fun hc => ?_, fun k _ i hi _ => by simp [Tr.heads] at hi⟩
    simp only [Tr.ok, Bool.and_eq_true] at hok
    simp only [Tr.depth] at hd
    obtain ⟨⟨⟨_, hfree⟩, hready⟩, hrest⟩ := hok
    cases fuel with
    | zero => omega
    | succ k =>
      unfold trVC at h
      split at h
      · exact h.elim
      · rename_i o ho
        rw [nth_eq] at ho
        have ho' : ops[i]? = some o := by simpa using ho
        have hrdy : i ∈ Region.ready .any ops listed := by simpa using hready
        have first : ∀ v, YieldsIf C.P ops (Ext S w) o v a → wpAnyT C.P .any ops Q (Ext S) k (listed.setIfInBounds i true) (a.put o.dst v) w → wpAnyT C.P .any ops Q (Ext S) (k + 1) listed a w := fun v hy hw =>
          wpAnyT_first (fun w => Ext.refl S w) (fun _ _ _ h1 h2 => h1.trans h2) ho' (Region.noSelect_spec hs) (fun c a' w' hq => hpan c _ a' w' hq) k listed a w (Region.free_spec ho' hfree) hdn hrdy hy hw
        split at h
        · rename_i hg
          split at h
          · obtain ⟨v, h1, h2⟩ := rd_sound hC.tab ha.agree h
            exact first v (.inl ⟨guard_sound ha hg, fun w' hw' => h1 w' hw'⟩) ((tr_sound hC hs hpan hQ t false _ k _ w _ hrest (by omega) (hdn.set hrdy) (ha.putE _ _) (putK_eq (K := fun l' => trVC C n ops.toList S K t l' w) h2)).1 rfl)
          · exact h.elim
        · rename_i hg
          exact first undef (.inr ⟨guard_sound ha hg, rfl⟩) ((tr_sound hC hs hpan hQ t false _ k _ w _ hrest (by omega) (hdn.set hrdy) (ha.putE _ _) (putK_eq (K := fun l' => trVC C n ops.toList S K t l' w) h)).1 rfl)
        · exact h.elim
  | .w i t, c, listed, fuel, l, w, a, hok, hd, hdn, ha, h => by
    simp only [Tr.ok, Bool.and_eq_true, Bool.or_eq_true, beq_iff_eq] at hok
    simp only [Tr.depth] at hd
    have step : ∀ k, fuel = k + 1 → i ∈ Region.ready .any ops listed → wpOp C.P ops Q i (fun a' w' => (Last .any ops i ∨ Ext S w w') ∧ wpAnyT C.P .any ops Q (Ext S) k (listed.setIfInBounds i true) a' w') a w := fun k hk hrd => by
      unfold trVC at h
      exact tr_op hC ha h fun l' w' a' ha' hx hv => ⟨.inr hx, (tr_sound hC hs hpan hQ t false _ k l' w' a' hok.2 (by omega) (hdn.set hrd) ha' hv).1 rfl⟩
    refine ⟨fun hc => ?_, fun k hk j hj hrj => ?_⟩
    · subst hc
      have hr : Region.ready .any ops listed = [i] := by simpa using hok.1
      cases fuel with
      | zero => omega
      | succ k =>
        refine ⟨fun h0 => ?_, fun j hj => ?_⟩
        · rw [hr] at h0; cases h0
        · rw [hr] at hj
          simp at hj
          subst hj
          exact step k rfl (by rw [hr]; simp)
    · simp [Tr.heads] at hj
      subst hj
      exact step k hk hrj
  | .z i, c, listed, fuel, l, w, a, hok, hd, hdn, ha, h => by
    simp only [Tr.ok, Bool.and_eq_true, Bool.or_eq_true, beq_iff_eq, List.isEmpty_iff] at hok
    simp only [Tr.depth] at hd
    obtain ⟨⟨hc0, hlast⟩, hdone⟩ := hok
    have step : ∀ k, fuel = k + 1 → i ∈ Region.ready .any ops listed → wpOp C.P ops Q i (fun a' w' => (Last .any ops i ∨ Ext S w w') ∧ wpAnyT C.P .any ops Q (Ext S) k (listed.setIfInBounds i true) a' w') a w := fun k hk hrd => by
      have fin : ∀ l' w' a', Fr n l' a' → K l' w' → wpAnyT C.P .any ops Q (Ext S) k (listed.setIfInBounds i true) a' w' := fun l' w' a' ha' hk' => by
        cases k with
        | zero => exact ⟨hdone, hQ l' w' hk' a' ha'⟩
        | succ k => exact ⟨fun _ => hQ l' w' hk' a' ha', by rw [hdone]; simp⟩
      unfold trVC at h
      unfold wpOp
      split at h
      · exact h.elim
      · rename_i o ho
        rw [nth_eq] at ho
        have ho' : ops[i]? = some o := by simpa using ho
        simp only [ho']
        split at h
        · rename_i hg
          rw [guard_sound ha hg, if_pos rfl]
          exact .inl (op_sound hC ha.agree h fun v w' _ hk => ⟨.inl (lastB_spec hlast), fin _ w' _ (ha.putE _ _) (putK_eq (K := fun l' => K l' w') hk)⟩)
        · rename_i hg
          rw [guard_sound ha hg, if_neg (by simp)]
          exact ⟨.inl (lastB_spec hlast), fin _ w _ (ha.putE _ _) (putK_eq (K := fun l' => K l' w) h)⟩
        · exact h.elim
    refine ⟨fun hc => ?_, fun k hk j hj hrj => ?_⟩
    · subst hc
      have hr : Region.ready .any ops listed = [i] := by simpa using hc0
      cases fuel with
      | zero => omega
      | succ k =>
        refine ⟨fun h0 => ?_, fun j hj => ?_⟩
        · rw [hr] at h0; cases h0
        · rw [hr] at hj
          simp at hj
          subst hj
          exact step k rfl (by rw [hr]; simp)
    · simp [Tr.heads] at hj
      subst hj
      exact step k hk hrj
  | .alt i t r, c, listed, fuel, l, w, a, hok, hd, hdn, ha, h => by
    simp only [Tr.ok, Bool.and_eq_true, Bool.or_eq_true, beq_iff_eq] at hok
    simp only [Tr.depth] at hd
    obtain ⟨⟨⟨hc0, hne⟩, hok1⟩, hok2⟩ := hok
    unfold trVC at h
    have step : ∀ k, fuel = k + 1 → i ∈ Region.ready .any ops listed → wpOp C.P ops Q i (fun a' w' => (Last .any ops i ∨ Ext S w w') ∧ wpAnyT C.P .any ops Q (Ext S) k (listed.setIfInBounds i true) a' w') a w := fun k hk hrd =>
      tr_op hC ha h.1 fun l' w' a' ha' hx hv => ⟨.inr hx, (tr_sound hC hs hpan hQ t false _ k l' w' a' hok1 (by omega) (hdn.set hrd) ha' hv).1 rfl⟩
    have hr := (tr_sound hC hs hpan hQ r true listed fuel l w a hok2 (by omega) hdn ha h.2).2
    have all : ∀ k, fuel = k + 1 → ∀ j ∈ i :: r.heads, j ∈ Region.ready .any ops listed → wpOp C.P ops Q j (fun a' w' => (Last .any ops j ∨ Ext S w w') ∧ wpAnyT C.P .any ops Q (Ext S) k (listed.setIfInBounds j true) a' w') a w := fun k hk j hj hrj => by
      rcases List.mem_cons.1 hj with rfl | hj
      · exact step k hk hrj
      · exact hr k hk j hj hrj
    refine ⟨fun hc => ?_, fun k hk j hj hrj => all k hk j hj hrj⟩
    subst hc
    have hrd : Region.ready .any ops listed = i :: r.heads := by simpa using hc0
    cases fuel with
    | zero => omega
    | succ k =>
      refine ⟨fun h0 => ?_, fun j hj => all k rfl j ?_ hj⟩
      · rw [hrd] at h0; cases h0
      · rw [hrd] at hj; exact hj

theorem G.draw (hC : C.Ok) {id : Nat} {ops : Array Oper} {l : Env} {w : World} {Q : Exit → Env → World → Prop} (S : Nat → Prop) (t : Tr) (ht : t.check ops = true) (h : trVC C n ops.toList S (Q .normal) t l w.drew) :
    G C.P n (.region id ops true) l w Q := by
  simp only [Tr.check, Bool.and_eq_true] at ht
  refine ⟨fun a ha => wp_region_any hC.mixed (wpAny_of_T (T := Ext S) _ _ _ _ ?_)⟩
  exact (tr_sound hC ht.1.1 (fun c a a' w hq => hq) (fun l w hk a ha => ⟨l, ha, hk⟩) t false _ ops.size l w.drew a ht.2 (Nat.le_of_ble_eq_true ht.1.2) Down.none ha h).1 rfl

/-! ### A function -/
structure Don (p : Prop) : Prop where mk ::
  out : p
def resVC (C : Cx) (l : Env) (w : World) : List ResultVar → (List Value → Prop) → Prop
  | [], K => K []
  | .tmp t :: r, K => match look t l with
    | some v => resVC C l w r fun vs => K (v :: vs)
    | none => False
  | .cell a t :: r, K => match look a l, tlook t C.tab with
    | some (.pointer (some ⟨b, off, none⟩)), some ti => (match isAggT ti.ty with
      | true => RdA .plain w b off ti.size fun cs => resVC C l w r fun vs => K (.agg cs.toArray :: vs)
      | false => Rd .plain w ⟨b, off, none⟩ fun v => resVC C l w r fun vs => K (v :: vs))
    | _, _ => False
def oneRes (Post : Value → World → Prop) (w : World) : List Value → Prop
  | [v] => Don (Post v w)
  | vs => Don (Post (.tuple vs.toArray) w)
def endQ (C : Cx) (rs : List ResultVar) (Post : Value → World → Prop) : Exit → Env → World → Prop
  | .normal, l, w => resVC C l w rs (oneRes Post w)
  | .ret, l, w => resVC C l w rs (oneRes Post w)
  | _, _, _ => False
def resOne (a : Act) : ResultVar → Sem Value
  | .tmp t => pure (a.tmps.getD t undef)
  | .cell x t => do loadVar t (← asAddr (a.tmps.getD x undef))
theorem results_eq (fn : Func) (a : Act) : results fn a.tmps = (do
    let vs ← fn.results.mapM (resOne a)
    pure (if h : vs.size = 1 then vs[0] else .tuple vs)) := by
  unfold results
  congr 1
theorem res_sound (hC : C.Ok) {l : Env} {a : Act} (ha : Fr n l a) {w : World} : ∀ (rs : List ResultVar) {K : List Value → Prop}, resVC C l w rs K →
    ∃ vs, (rs.mapM (resOne a)).run C.P w = .ok vs w ∧ K vs
  | [], K, h => ⟨[], rfl, h⟩
  | .tmp t :: r, K, h => by
    unfold resVC at h
    split at h
    · rename_i v hv
      obtain ⟨vs, h1, h2⟩ := res_sound hC ha r h
      refine ⟨v :: vs, ?_, h2⟩
      simp only [List.mapM_cons, resOne, Sem.run_bind, Sem.run_pure, Result.andThen_ok, ha.get t v hv]
      rw [h1]
      rfl
    · exact h.elim
  | .cell x t :: r, K, h => by
    unfold resVC at h
    split at h
    · rename_i b off ti hx ht
      have hti := hC.tab _ _ ht
      split at h
      · rename_i hag
        obtain ⟨cs, hl, hr, hk⟩ := h.out
        obtain ⟨vs, h1, h2⟩ := res_sound hC ha r hk
        refine ⟨.agg cs.toArray :: vs, ?_, h2⟩
        have := load_agg hti hag hl hr
        simp only [Instr.loadAt, Instr.sureAddr, pure_bind] at this
        simp only [List.mapM_cons, resOne, Sem.run_bind, ha.get x _ hx, asAddr, Sem.run_pure, Result.andThen_ok, pure_bind, this]
        rw [h1]
        rfl
      · rename_i hag
        obtain ⟨v, hr, hk⟩ := h.out
        obtain ⟨vs, h1, h2⟩ := res_sound hC ha r hk
        refine ⟨v :: vs, ?_, h2⟩
        have := load_one hti hag hr
        simp only [Instr.loadAt, Instr.sureAddr, pure_bind] at this
        simp only [List.mapM_cons, resOne, Sem.run_bind, ha.get x _ hx, asAddr, Sem.run_pure, Result.andThen_ok, pure_bind, this]
        rw [h1]
        rfl
    · exact h.elim
theorem results_sound (hC : C.Ok) {fn : Func} {l : Env} {a : Act} (ha : Fr n l a) {w : World} {Post : Value → World → Prop} (h : resVC C l w fn.results.toList (oneRes Post w)) :
    ∃ v, (results fn a.tmps).run C.P w = .ok v w ∧ Post v w := by
  obtain ⟨vs, h1, h2⟩ := res_sound hC ha _ h
  have h3 : (fn.results.mapM (resOne a)).run C.P w = .ok vs.toArray w := by
    rw [Array.mapM_eq_mapM_toList]
    simp only [Sem.run_map, h1, Result.andThen_ok]
  rw [results_eq]
  match vs, h2 with
  | [v], h2 =>
    refine ⟨v, ?_, h2.out⟩
    simp only [Sem.run_bind, h3, Result.andThen_ok, Sem.run_pure]
    rfl
  | [], h2 =>
    refine ⟨_, ?_, h2.out⟩
    simp only [Sem.run_bind, h3, Result.andThen_ok, Sem.run_pure]
    rfl
  | x :: y :: r, h2 =>
    refine ⟨_, ?_, h2.out⟩
    simp only [Sem.run_bind, h3, Result.andThen_ok, Sem.run_pure]
    simp
def argE : Nat → List Value → Env
  | _, [] => []
  | i, v :: r => (i, v) :: argE (i + 1) r
theorem argE_look : ∀ (args : List Value) (i t : Nat) (v : Value), look t (argE i args) = some v → i ≤ t ∧ args[t - i]? = some v
  | [], _, _, _, h => by simp [argE, look] at h
  | x :: r, i, t, v, h => by
    simp only [argE] at h
    rw [look_cons] at h
    by_cases e : t = i
    · subst e; simp at h; subst h; simp
    · rw [if_neg e] at h
      obtain ⟨h1, h2⟩ := argE_look r (i + 1) t v h
      refine ⟨by omega, ?_⟩
      rw [show t - i = (t - (i + 1)) + 1 from by omega]
      simpa using h2
theorem Ret.enter (hC : C.Ok) {f : FuncId} {fn : Func} {c : Code} {args : List Value} {w : World} {Post : Value → World → Prop} (hf : C.P.funcs[f]? = some fn) (hb : fn.body = some c) (hn : fn.ntmps = n) (hl : Nat.ble args.length n = true)
    (h : G C.P n c (argE 0 args) w (endQ C fn.results.toList Post)) : Ret C.P f args.toArray w Post := by
  refine calls_of_wp hf hb ?_
  have hle : args.length ≤ n := Nat.le_of_ble_eq_true hl
  have hfr : Fr n (argE 0 args) { tmps := args.toArray ++ Array.replicate (fn.ntmps - args.toArray.size) undef, defers := [] } := by
    refine ⟨by simp; omega, rfl, fun t v ht => ?_⟩
    obtain ⟨_, h1⟩ := argE_look args 0 t v ht
    simp only [Nat.sub_zero] at h1
    have hlt : t < args.length := (List.getElem?_eq_some_iff.1 h1).1
    rw [Array.getD_eq_getD_getElem?, Array.getElem?_append_left (by simpa using hlt)]
    simp [h1]
  refine wp_mono (h.out _ hfr) fun e a w' hq => ?_
  cases e with
  | normal =>
    obtain ⟨l, hl, hr⟩ := hq
    obtain ⟨v, h1, h2⟩ := results_sound hC hl hr
    exact ⟨hl.defers, v, h1, v, rfl, h2⟩
  | ret =>
    obtain ⟨l, hl, hr⟩ := hq
    obtain ⟨v, h1, h2⟩ := results_sound hC hl hr
    exact ⟨hl.defers, v, h1, v, rfl, h2⟩
  | exit id => obtain ⟨l, hl, hr⟩ := hq; exact hr.elim
  | goto k => obtain ⟨l, hl, hr⟩ := hq; exact hr.elim
  | panic c => exact hq.elim
  | outgrown => exact hq.elim
theorem Ret.e0 (hC : C.Ok) {f : FuncId} {fn : Func} {c : Code} {w : World} {Post : Value → World → Prop} (hf : C.P.funcs[f]? = some fn) (hb : fn.body = some c) (hn : fn.ntmps = n)
    (h : G C.P n c [] w (endQ C fn.results.toList Post)) : Ret C.P f #[] w Post := Ret.enter hC (args := []) hf hb hn rfl h
theorem Ret.e1 (hC : C.Ok) {f : FuncId} {fn : Func} {c : Code} {a0 : Value} {w : World} {Post : Value → World → Prop} (hf : C.P.funcs[f]? = some fn) (hb : fn.body = some c) (hn : fn.ntmps = n) (hl : Nat.ble 1 n = true)
    (h : G C.P n c [(0, a0)] w (endQ C fn.results.toList Post)) : Ret C.P f #[a0] w Post := Ret.enter hC (args := [a0]) hf hb hn hl h
theorem Ret.e2 (hC : C.Ok) {f : FuncId} {fn : Func} {c : Code} {a0 a1 : Value} {w : World} {Post : Value → World → Prop} (hf : C.P.funcs[f]? = some fn) (hb : fn.body = some c) (hn : fn.ntmps = n) (hl : Nat.ble 2 n = true)
    (h : G C.P n c [(0, a0), (1, a1)] w (endQ C fn.results.toList Post)) : Ret C.P f #[a0, a1] w Post := Ret.enter hC (args := [a0, a1]) hf hb hn hl h
theorem Ret.e3 (hC : C.Ok) {f : FuncId} {fn : Func} {c : Code} {a0 a1 a2 : Value} {w : World} {Post : Value → World → Prop} (hf : C.P.funcs[f]? = some fn) (hb : fn.body = some c) (hn : fn.ntmps = n) (hl : Nat.ble 3 n = true)
    (h : G C.P n c [(0, a0), (1, a1), (2, a2)] w (endQ C fn.results.toList Post)) : Ret C.P f #[a0, a1, a2] w Post := Ret.enter hC (args := [a0, a1, a2]) hf hb hn hl h
theorem Ret.e4 (hC : C.Ok) {f : FuncId} {fn : Func} {c : Code} {a0 a1 a2 a3 : Value} {w : World} {Post : Value → World → Prop} (hf : C.P.funcs[f]? = some fn) (hb : fn.body = some c) (hn : fn.ntmps = n) (hl : Nat.ble 4 n = true)
    (h : G C.P n c [(0, a0), (1, a1), (2, a2), (3, a3)] w (endQ C fn.results.toList Post)) : Ret C.P f #[a0, a1, a2, a3] w Post := Ret.enter hC (args := [a0, a1, a2, a3]) hf hb hn hl h
end

end Go.Proofs.Ytjghlmbibimbiaa.Sx

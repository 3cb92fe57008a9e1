/-
  A small calculus for stepping through a function's code with a list of known slots: the core (frames, code, any order of a region).
-/
import Derived.WalkKit
import Derived.Orders
import Derived.Deep.LoopGhost
import Derived.KernelRfl
import Derived.OrdersHeld
import Derived.Laws.BytesArg




namespace Go.Proofs.YtmcdcfbhpdacfaaDoor.Sx

open Go

set_option linter.unusedVariables false

set_option linter.unusedSimpArgs false

/-! ### Known slots -/
abbrev Env := List (Nat × Value)
def look (t : Nat) : Env → Option Value
  | [] => none
  | (s, v) :: r => match Nat.beq t s with
    | true => some v
    | false => look t r
def evl (l : Env) : Operand → Option Value
  | .tmp t => look t l
  | .const v => some v
  | .global g => some (.pointer (some ⟨g, 0, none⟩))
  | .func f => some (.func (.func f) #[] #[])
def evls (l : Env) : List Operand → Option (List Value)
  | [] => some []
  | x :: xs => match evl l x with
    | none => none
    | some v => match evls l xs with
      | none => none
      | some vs => some (v :: vs)

structure Fr (n : Nat) (l : Env) (a : Act) : Prop where
  size : a.tmps.size = n
  defers : a.defers = []
  get : ∀ t v, look t l = some v → a.tmps.getD t undef = v

theorem look_cons (t s : Nat) (v : Value) (l : Env) : look t ((s, v) :: l) = if t = s then some v else look t l := by
  change (match Nat.beq t s with | true => some v | false => look t l) = _
  by_cases h : t = s
  · subst h; simp
  · have : Nat.beq t s = false := by
      cases hb : Nat.beq t s
      · rfl
      · exact absurd (Nat.eq_of_beq_eq_true hb) h
    rw [this, if_neg h]

theorem Fr.eval {n : Nat} {l : Env} {a : Act} (h : Fr n l a) {x : Operand} {v : Value} (hx : evl l x = some v) : a.eval x = v := by
  cases x with
  | tmp t => exact h.get t v hx
  | const u => simpa [evl, Act.eval] using hx
  | global g => simpa [evl, Act.eval] using hx
  | func f => simpa [evl, Act.eval] using hx

theorem Fr.evals {n : Nat} {l : Env} {a : Act} (h : Fr n l a) : ∀ {xs : List Operand} {vs : List Value}, evls l xs = some vs → xs.map a.eval = vs
  | [], vs, hx => by simpa [evls] using hx
  | x :: xs, vs, hx => by
    unfold evls at hx
    cases h1 : evl l x with
    | none => simp [h1] at hx
    | some v =>
      cases h2 : evls l xs with
      | none => simp [h1, h2] at hx
      | some us =>
        simp [h1, h2] at hx
        subst hx
        simp [h.eval h1, h.evals h2]

theorem Fr.put {n : Nat} {l : Env} {a : Act} (h : Fr n l a) {d : Nat} (hd : d < n) (v : Value) : Fr n ((d, v) :: l) (a.put (some d) v) := by
  refine ⟨by simp [Act.put, h.size], h.defers, fun t u ht => ?_⟩
  rw [look_cons] at ht
  by_cases e : t = d
  · subst e
    simp at ht
    subst ht
    simp [Act.put, Array.getElem?_setIfInBounds, h.size, hd]
  · rw [if_neg e] at ht
    have := h.get t u ht
    simp only [Act.put, Array.getD_eq_getD_getElem?] at this ⊢
    rw [Array.getElem?_setIfInBounds_ne (by omega)]
    exact this

/-- All that `l'` knows stands in `l` too. -/
def Sub : Env → Env → Prop
  | [], _ => True
  | (t, v) :: r, l => look t l = some v ∧ Sub r l
theorem Sub.look {l' l : Env} (h : Sub l' l) {t : Nat} {v : Value} (ht : look t l' = some v) : look t l = some v := by
  induction l' with
  | nil => simp [Sx.look] at ht
  | cons p r ih =>
    obtain ⟨s, u⟩ := p
    rw [look_cons] at ht
    by_cases e : t = s
    · subst e; simp at ht; subst ht; exact h.1
    · rw [if_neg e] at ht; exact ih h.2 ht
theorem Fr.sub {n : Nat} {l l' : Env} {a : Act} (h : Fr n l a) (hs : Sub l' l) : Fr n l' a := ⟨h.size, h.defers, fun t v ht => h.get t v (hs.look ht)⟩

/-! ### The frame of memory -/
/-- But for the blocks of `S` what was there is as it was. -/
structure Ext (S : Nat → Prop) (w w' : World) : Prop where
  os : w'.os = w.os
  tape : w'.tape = w.tape
  output : w'.output = w.output
  size : w.heap.size ≤ w'.heap.size
  blk : ∀ k, k < w.heap.size → ¬ S k → w'.heap[k]? = w.heap[k]?
abbrev Non : Nat → Prop := fun _ => False
theorem Ext.refl (S : Nat → Prop) (w : World) : Ext S w w := ⟨rfl, rfl, rfl, Nat.le_refl _, fun _ _ _ => rfl⟩
theorem Ext.trans' {S S' T : Nat → Prop} {a b c : World} (h : Ext S a b) (k : Ext S' b c) (hS : ∀ i, i < a.heap.size → S i → T i) (hS' : ∀ i, i < a.heap.size → S' i → T i) : Ext T a c :=
  ⟨k.os.trans h.os, k.tape.trans h.tape, k.output.trans h.output, Nat.le_trans h.size k.size, fun i hi hn =>
    (k.blk i (Nat.lt_of_lt_of_le hi h.size) (fun x => hn (hS' i hi x))).trans (h.blk i hi (fun x => hn (hS i hi x)))⟩
theorem Ext.trans {S : Nat → Prop} {a b c : World} (h : Ext S a b) (k : Ext S b c) : Ext S a c := h.trans' k (fun _ _ x => x) (fun _ _ x => x)
theorem Ext.mono {S T : Nat → Prop} {a b : World} (h : Ext S a b) (hS : ∀ i, S i → T i) : Ext T a b := ⟨h.os, h.tape, h.output, h.size, fun i hi hn => h.blk i hi (fun x => hn (hS i x))⟩
theorem Ext.alloc (S : Nat → Prop) (w : World) (o : Obj) : Ext S w (w.alloc o) :=
  ⟨rfl, rfl, rfl, by simp, fun k hk _ => RowKit.Below.heap_alloc w o k hk⟩
theorem Ext.drew (S : Nat → Prop) (w : World) : Ext S w w.drew := ⟨rfl, rfl, rfl, Nat.le_refl _, fun _ _ _ => rfl⟩
theorem Ext.setCell {S : Nat → Prop} (w : World) {a : Addr} (h : S a.block) (v : Value) : Ext S w (w.setCell a v) :=
  ⟨rfl, rfl, rfl, by simp, fun k _ hn => RowKit.Below.heap_setCell w a v k (fun e => hn (e ▸ h))⟩
theorem Ext.below {w w' : World} (h : Ext Non w w') : RowKit.Below w.heap.size w w' := ⟨h.os, h.tape, h.output, h.size, fun k hk => h.blk k hk (fun x => x)⟩
theorem Ext.of_below {S : Nat → Prop} {w w' : World} (h : RowKit.Below w.heap.size w w') : Ext S w w' := ⟨h.os, h.tape, h.output, h.size, fun k hk _ => h.block k hk⟩
theorem Ext.cell {S : Nat → Prop} {w w' : World} (h : Ext S w w') {a : Addr} {v : Value} (hc : w.cell? a = some v) (hS : ¬ S a.block) : w'.cell? a = some v :=
  (World.cell?_of_block (w := w) (h.blk a.block (World.block_lt_of_cell? w a hc) hS)).trans hc

/-! ### A call that returns -/
def Ret (P : Program) (f : FuncId) (args : Array Value) (w : World) (Post : Value → World → Prop) : Prop :=
  Calls P f args w fun e w' => ∃ v, e = .returned v ∧ Post v w'
theorem Ret.mono {P : Program} {f : FuncId} {args : Array Value} {w : World} {R R' : Value → World → Prop} (h : Ret P f args w R) (hr : ∀ v w', R v w' → R' v w') : Ret P f args w R' :=
  Calls.mono h fun e w' ⟨v, he, hv⟩ => ⟨v, he, hr v w' hv⟩

/-! ### Code -/
def qs (n : Nat) (Q : Exit → Env → World → Prop) : Exit → Act → World → Prop
  | .panic _, _, _ => False
  | .outgrown, _, _ => False
  | e, a, w => ∃ l, Fr n l a ∧ Q e l w
/-- From every frame that knows `l`, in world `w`, the code comes to an exit as `Q` says. -/
structure G (P : Program) (n : Nat) (c : Code) (l : Env) (w : World) (Q : Exit → Env → World → Prop) : Prop where mk ::
  out : ∀ a, Fr n l a → c.wp P (qs n Q) a w

def thenQ (A : Env → World → Prop) (Q : Exit → Env → World → Prop) : Exit → Env → World → Prop
  | .normal, l, w => A l w
  | e, l, w => Q e l w
def blockQ (id : Nat) (Q : Exit → Env → World → Prop) : Exit → Env → World → Prop
  | .exit k, l, w => match Nat.beq k id with
    | true => Q .normal l w
    | false => Q (.exit k) l w
  | e, l, w => Q e l w

section

variable {P : Program} {n : Nat} {l : Env} {w : World} {Q : Exit → Env → World → Prop}
theorem G.weak {c : Code} (l' : Env) (hs : Sub l' l) (h : G P n c l' w Q) : G P n c l w Q := ⟨fun a ha => h.out a (ha.sub hs)⟩
theorem G.seq {x y : Code} (h : G P n x l w (thenQ (fun l' w' => G P n y l' w' Q) Q)) : G P n (.seq x y) l w Q := by
  refine ⟨fun a ha => wp_seq (wp_mono (h.out a ha) fun e a w hq => ?_)⟩
  cases e with
  | normal => obtain ⟨l', hl, hg⟩ := hq; exact hg.out a hl
  | exit id => exact hq
  | goto l => exact hq
  | ret => exact hq
  | panic c => exact hq
  | outgrown => exact hq
/-- Cut: what stands between is said by hand. -/
theorem G.cut {x y : Code} (M : Env → World → Prop) (hx : G P n x l w (thenQ M Q)) (hy : ∀ l w, M l w → G P n y l w Q) : G P n (.seq x y) l w Q := by
  refine .seq ⟨fun a ha => wp_mono (hx.out a ha) fun e a w hq => ?_⟩
  cases e with
  | normal => obtain ⟨l', hl, hg⟩ := hq; exact ⟨l', hl, hy _ _ hg⟩
  | exit id => exact hq
  | goto l => exact hq
  | ret => exact hq
  | panic c => exact hq
  | outgrown => exact hq
theorem G.skip (h : Q .normal l w) : G P n .skip l w Q := ⟨fun a ha => wp_skip ⟨l, ha, h⟩⟩
theorem G.label {k : Nat} (h : Q .normal l w) : G P n (.label k) l w Q := ⟨fun a ha => wp_label ⟨l, ha, h⟩⟩
theorem G.ret (h : Q .ret l w) : G P n .ret l w Q := ⟨fun a ha => wp_ret ⟨l, ha, h⟩⟩
theorem G.exit {id : Nat} (h : Q (.exit id) l w) : G P n (.exit id) l w Q := ⟨fun a ha => wp_exit ⟨l, ha, h⟩⟩
theorem G.block {id : Nat} {c : Code} (h : G P n c l w (blockQ id Q)) : G P n (.block id c) l w Q := by
  refine ⟨fun a ha => wp_block (wp_mono (h.out a ha) fun e a w hq => ?_)⟩
  cases e with
  | normal => exact hq
  | exit k =>
    obtain ⟨l', hl, hg⟩ := hq
    by_cases e : k = id
    · subst e
      simp only [blockQ, Nat.beq_refl] at hg
      simp only [Exit.inBlock, if_true]
      exact ⟨l', hl, hg⟩
    · have hb : Nat.beq k id = false := by
        cases hb : Nat.beq k id
        · rfl
        · exact absurd (Nat.eq_of_beq_eq_true hb) e
      simp only [blockQ, hb] at hg
      simp only [Exit.inBlock, if_neg e]
      exact ⟨l', hl, hg⟩
  | goto l => exact hq
  | ret => exact hq
  | panic c => exact hq
  | outgrown => exact hq
theorem G.cond_t {c : Operand} {x y : Code} (hc : evl l c = some (.bool true)) (h : G P n x l w Q) : G P n (.cond c x y) l w Q :=
  ⟨fun a ha => wp_cond_true (ha.eval hc) (h.out a ha)⟩
theorem G.cond_f {c : Operand} {x y : Code} (hc : evl l c = some (.bool false)) (h : G P n y l w Q) : G P n (.cond c x y) l w Q :=
  ⟨fun a ha => wp_cond_false (ha.eval hc) (h.out a ha)⟩
theorem G.cond_b {c : Operand} {x y : Code} {b : Bool} (hc : evl l c = some (.bool b)) (ht : b = true → G P n x l w Q) (hf : b = false → G P n y l w Q) : G P n (.cond c x y) l w Q :=
  ⟨fun a ha => wp_cond_split (ha.eval hc) (fun h => (ht h).out a ha) (fun h => (hf h).out a ha)⟩
/-- A loop: `E s` is what is known of the slots at the round's head, `J s w` what holds; `μ s` falls. -/
theorem G.loop {α : Type} {c : Code} (E : α → Env) (J : α → World → Prop) (μ : α → Nat) (s₀ : α) (h₀ : Sub (E s₀) l) (j₀ : J s₀ w)
    (round : ∀ s w, J s w → G P n c (E s) w (thenQ (fun l' w' => ∃ s', Sub (E s') l' ∧ J s' w' ∧ μ s' < μ s) Q)) : G P n (.loop c) l w Q := by
  refine ⟨fun a ha => Go.wp_loop_ghost (fun m a w => ∃ s, μ s = m ∧ Fr n (E s) a ∧ J s w) (μ s₀) ⟨s₀, rfl, ha.sub h₀, j₀⟩ ?_⟩
  rintro m a w ⟨s, rfl, hs, hj⟩
  refine wp_mono ((round s w hj).out a hs) fun e a' w' hq => ?_
  cases e with
  | normal =>
    obtain ⟨l', hl, s', hsub, hj', hlt⟩ := hq
    exact ⟨μ s', hlt, s', rfl, hl.sub hsub, hj'⟩
  | exit id => exact hq
  | goto l => exact hq
  | ret => exact hq
  | panic c => exact hq
  | outgrown => exact hq
end

end Go.Proofs.YtmcdcfbhpdacfaaDoor.Sx
/-
  A region whose order is open: an operation that yields the same value in every later world may be taken first.
-/


namespace Go.Proofs.YtmcdcfbhpdacfaaDoor.Sx

open Go

set_option linter.unusedVariables false

set_option linter.unusedSimpArgs false

section

variable {P : Program} {ops : Array Oper} {Q : Exit → Act → World → Prop} {md : Region.Mode} {T : World → World → Prop}
/-- What an operation that is listed waits for is listed. -/
def Down (md : Region.Mode) (ops : Array Oper) (listed : Array Bool) : Prop := listed.size = ops.size ∧ ∀ (k : Nat) (o : Oper), ops[k]? = some o → listed.getD k false = true → ∀ e ∈ o.after, Region.binds md e = true → listed.getD e.on false = true
/-- Number i waits for all others, at once or through others. -/
def Last (md : Region.Mode) (ops : Array Oper) (i : Nat) : Prop := ∀ listed, Down md ops listed → i ∈ Region.ready md ops listed → ∀ k, k < ops.size → k ≠ i → listed.getD k false = true
theorem getD_same {l : Array Bool} {k : Nat} (h : k < l.size) (a b : Bool) : l.getD k a = l.getD k b := by simp [Array.getD, h]
theorem Down.size_lt {listed : Array Bool} {e : Nat} (h : listed.getD e false = true) : e < listed.size := by
  rcases Nat.lt_or_ge e listed.size with h' | h'
  · exact h'
  · simp [Array.getD, Nat.not_lt.2 h'] at h
theorem ready_dep {i : Nat} {listed : Array Bool} {oi : Oper} (hs : listed.size = ops.size) (h : i ∈ Region.ready md ops listed) (ho : ops[i]? = some oi) : ∀ e ∈ oi.after, Region.binds md e = true → listed.getD e.on false = true := by
  obtain ⟨_, o, ho', hall⟩ := mem_ready.1 h
  rw [ho] at ho'
  injection ho' with e
  subst e
  intro e he hb
  have h1 := hall e he hb
  rcases Nat.lt_or_ge e.on listed.size with h' | h'
  · simp [h'] at h1 ⊢
    exact h1
  · simp [Array.getElem?_eq_none h'] at h1
theorem ready_not {i : Nat} {listed : Array Bool} (h : i ∈ Region.ready md ops listed) : listed.getD i true = false := (mem_ready.1 h).1
theorem ready_lt {i : Nat} {listed : Array Bool} (h : i ∈ Region.ready md ops listed) : i < ops.size := by
  obtain ⟨_, o, ho, _⟩ := mem_ready.1 h
  exact (Array.getElem?_eq_some_iff.1 ho).1
theorem Down.set {listed : Array Bool} {i : Nat} (h : Down md ops listed) (hi : i ∈ Region.ready md ops listed) : Down md ops (listed.setIfInBounds i true) := by
  refine ⟨by rw [Array.size_setIfInBounds]; exact h.1, fun k o ho hl e he hb => ?_⟩
  have up : ∀ j, listed.getD j false = true → (listed.setIfInBounds i true).getD j false = true := fun j hj => by
    have hlt := Down.size_lt hj
    simp only [Array.getD, Array.size_setIfInBounds, hlt, dif_pos, Array.getInternal_eq_getElem, Array.getElem_setIfInBounds] at hj ⊢
    split
    · rfl
    · exact hj
  by_cases e : k = i
  · subst e
    exact up _ (ready_dep h.1 hi ho _ he hb)
  · refine up _ (h.2 k o ho ?_ _ he hb)
    have hlt := Down.size_lt hl
    rw [Array.size_setIfInBounds] at hlt
    simp only [Array.getD, Array.size_setIfInBounds, hlt, dif_pos, Array.getInternal_eq_getElem, Array.getElem_setIfInBounds] at hl ⊢
    rwa [if_neg (fun h => e h.symm)] at hl
theorem Down.none : Down md ops (Array.replicate ops.size false) := by
  refine ⟨by simp, fun k o ho hl => ?_⟩
  have hlt : k < ops.size := (Array.getElem?_eq_some_iff.1 ho).1
  simp [Array.getD, hlt] at hl
theorem last_alone {i j : Nat} {listed : Array Bool} (hd : Down md ops listed) (h : Last md ops j) (hj : j ∈ Region.ready md ops listed) (hi : i ∈ Region.ready md ops listed) : j = i := by
  by_cases hij : i = j
  · exact hij.symm
  · have h1 := h listed hd hj i (ready_lt hi) hij
    have h2 := ready_not hi
    rw [getD_same (by rw [hd.1]; exact ready_lt hi) true false, h1] at h2
    cases h2
/-- Whatever order is picked from here on, and every operation, but for one that waits for all others, leaves a world that `T` allows. -/
def wpAnyT (P : Program) (md : Region.Mode) (ops : Array Oper) (Q : Exit → Act → World → Prop) (T : World → World → Prop) : Nat → Array Bool → Act → World → Prop
  | 0, listed, a, w => Region.ready md ops listed = [] ∧ Q .normal a w
  | fuel + 1, listed, a, w =>
    (Region.ready md ops listed = [] → Q .normal a w) ∧
    ∀ i ∈ Region.ready md ops listed, wpOp P ops Q i (fun a' w' => (Last md ops i ∨ T w w') ∧ wpAnyT P md ops Q T fuel (listed.setIfInBounds i true) a' w') a w
theorem wpAny_of_T : ∀ (fuel : Nat) (listed : Array Bool) (a : Act) (w : World), wpAnyT P md ops Q T fuel listed a w → wpAny P md ops Q fuel listed a w
  | 0, _, _, _, h => h
  | fuel + 1, _, _, _, h => ⟨h.1, fun i hi => wpOp_mono (fun a' w' h' => wpAny_of_T fuel _ a' w' h'.2) (h.2 i hi)⟩

theorem wpAnyT_first (hrefl : ∀ w, T w w) (htrans : ∀ a b c, T a b → T b c → T a c) {i : Nat} {oi : Oper} {v : Value} (hi : ops[i]? = some oi)
    (hsel : ∀ (j : Nat) (o : Oper) cs b, ops[j]? = some o → o.op ≠ .select cs b)
    (hQ : ∀ c a w, Q (.panic c) (a.put oi.dst v) w → Q (.panic c) a w) :
    ∀ (fuel : Nat) (listed : Array Bool) (a : Act) (w : World),
      (∀ j oj, ops[j]? = some oj → j ≠ i → listed.getD j true = false → (∀ e ∈ oj.after, Region.binds md e = true → e.on ≠ i) → oi.apart ops oj = true) →
      Down md ops listed → i ∈ Region.ready md ops listed → YieldsIf P ops (T w) oi v a →
      wpAnyT P md ops Q T fuel (listed.setIfInBounds i true) (a.put oi.dst v) w → wpAnyT P md ops Q T (fuel + 1) listed a w := by
  intro fuel
  induction fuel with
  | zero =>
    intro listed a w _ hdn hr hy H
    refine ⟨fun h => (by rw [h] at hr; cases hr), fun j hj => ?_⟩
    by_cases hji : j = i
    · subst hji; exact hy.wpOp hi (hrefl w) ⟨.inr (hrefl w), H⟩
    · have := ready_mono hj hji
      rw [H.1] at this
      cases this
  | succ fuel ih =>
    intro listed a w hfree hdn hr hy H
    refine ⟨fun h => (by rw [h] at hr; cases hr), fun j hj => ?_⟩
    by_cases hji : j = i
    · subst hji; exact hy.wpOp hi (hrefl w) ⟨.inr (hrefl w), H⟩
    · have h1 := H.2 j (ready_mono hj hji)
      obtain ⟨hjun, oj, hoj, hall⟩ := mem_ready.1 hj
      have hnot : ∀ e ∈ oj.after, Region.binds md e = true → e.on ≠ i := fun e he hb heq => by
        have h1 := hall e he hb
        have h0 := (mem_ready.1 hr).1
        rw [heq] at h1
        rcases Nat.lt_or_ge i listed.size with h' | h'
        · simp [h'] at h0 h1; rw [h0] at h1; cases h1
        · simp [Array.getElem?_eq_none h'] at h1
      have h2 := wpOp_putIf hoj (hfree j oj hoj hji hjun hnot) (fun cs b => hsel i oi cs b hi) (fun cs b => hsel j oj cs b hoj) hQ hy h1
      have hfree' : ∀ k ok, ops[k]? = some ok → k ≠ i → (listed.setIfInBounds j true).getD k true = false →
          (∀ e ∈ ok.after, Region.binds md e = true → e.on ≠ i) → oi.apart ops ok = true := fun k ok hk hki hun hno => by
        refine hfree k ok hk hki ?_ hno
        by_cases hjk : j = k
        · subst hjk; exact hjun
        · rw [getD_set_ne true hjk] at hun; exact hun
      refine wpOp_mono (fun a' w' h3 => ⟨h3.2.1, ih (listed.setIfInBounds j true) a' w' hfree' (hdn.set hj) (ready_mono hr (Ne.symm hji)) ?_ ?_⟩) h2
      · have h4 : T w w' := h3.2.1.resolve_left fun hl => hji (last_alone hdn hl hj hr)
        exact h3.1.imp (fun ⟨hw, hv⟩ => ⟨hw, fun w'' hw'' => hv w'' (htrans _ _ _ h4 hw'')⟩) id
      · rw [Array.setIfInBounds_comm _ _ hji]
        exact h3.2.2

/-- The orders that are walked: 'tk i': number i is taken first; 'w i': number i alone may come up; 'alt i': one of several that may. -/
inductive Tr where
  | done
  | tk (i : Nat) (t : Tr)
  | w (i : Nat) (t : Tr)
  | alt (i : Nat) (t r : Tr)
  | z (i : Nat)
/-- Number i waits for all others, as seen. -/
def lastB (ops : Array Oper) (i : Nat) : Bool := (List.range ops.size).all fun k => Nat.beq k i || (List.range ops.size).any fun m => (Nat.beq m i || Nat.blt k m) && match ops[m]? with
  | none => false
  | some o => o.after.toList.any fun e => Region.binds .any e && Nat.beq e.on k
theorem lastB_spec {ops : Array Oper} {i : Nat} (h : lastB ops i = true) : Last .any ops i := by
  intro listed hd hi
  have key : ∀ (n k : Nat), ops.size - k = n → k < ops.size → k ≠ i → listed.getD k false = true := by
    intro n
    induction n using Nat.strongRecOn with
    | _ n ih =>
      intro k hn hk hki
      unfold lastB at h
      rw [List.all_eq_true] at h
      have := h k (List.mem_range.2 hk)
      simp only [Bool.or_eq_true, List.any_eq_true, Bool.and_eq_true] at this
      rcases this with h1 | ⟨m, hm, hmk, h2⟩
      · exact absurd (Nat.eq_of_beq_eq_true h1) hki
      · split at h2
        · cases h2
        · rename_i o ho
          rw [List.any_eq_true] at h2
          obtain ⟨e, he, h3⟩ := h2
          simp only [Bool.and_eq_true] at h3
          obtain ⟨hb, hek⟩ := h3
          have hek' := Nat.eq_of_beq_eq_true hek
          have he' : e ∈ o.after := by simpa using he
          by_cases hmi : m = i
          · subst hmi
            have := ready_dep hd.1 hi ho e he' hb
            rwa [hek'] at this
          · have hlt : k < m := by
              rcases hmk with h4 | h4
              · exact absurd (Nat.eq_of_beq_eq_true h4) hmi
              · simpa [Nat.blt_eq] using h4
            have hmn : m < ops.size := List.mem_range.1 hm
            have := hd.2 m o ho (ih (ops.size - m) (by omega) m rfl hmn hmi) e he' hb
            rwa [hek'] at this
  exact fun k hk hki => key _ k rfl hk hki
def Tr.heads : Tr → List Nat
  | .w i _ => [i]
  | .alt i _ r => i :: r.heads
  | .z i => [i]
  | _ => []
def Tr.depth : Tr → Nat
  | .done => 0
  | .tk _ t => t.depth + 1
  | .w _ t => t.depth + 1
  | .alt _ t r => max (t.depth + 1) r.depth
  | .z _ => 1
/-- The tree fits the region's edges ('c': what may come up has been looked at). -/
def Tr.ok (ops : Array Oper) : Tr → Bool → Array Bool → Bool
  | .done, c, listed => !c && (Region.ready .any ops listed).isEmpty
  | .tk i t, c, listed => !c && Region.free .any ops listed i && (Region.ready .any ops listed).contains i && t.ok ops false (listed.setIfInBounds i true)
  | .w i t, c, listed => (c || Region.ready .any ops listed == [i]) && t.ok ops false (listed.setIfInBounds i true)
  | .alt i t r, c, listed => (c || Region.ready .any ops listed == i :: r.heads) && !r.heads.isEmpty && t.ok ops false (listed.setIfInBounds i true) && r.ok ops true listed
  | .z i, c, listed => (c || Region.ready .any ops listed == [i]) && lastB ops i && (Region.ready .any ops (listed.setIfInBounds i true)).isEmpty
def Tr.check (ops : Array Oper) (t : Tr) : Bool := Region.noSelect ops && Nat.ble t.depth ops.size && t.ok ops false (Array.replicate ops.size false)
end

end Go.Proofs.YtmcdcfbhpdacfaaDoor.Sx
/-
  What is to be shown of an operation that reads memory at most: the conditions, by the operation's form.
-/

namespace Go.Proofs.YtmcdcfbhpdacfaaDoor.Sx

open Go

set_option linter.unusedVariables false

set_option linter.unusedSimpArgs false

/-! ### Types -/
inductive Ty where
  | bool | int (k : IntKind) | string | slice (e : Nat) | ptr (e : Nat) | struct (fs : List (Nat × Nat)) | array (n e : Nat) | func | map (k e : Nat) | other
structure TI where
  ty : Ty
  size : Nat
  bytes : Nat
  zero : Value
abbrev Tab := List (Nat × TI)
def tlook (t : Nat) : Tab → Option TI
  | [] => none
  | (s, v) :: r => match Nat.beq t s with
    | true => some v
    | false => tlook t r
def descTy : TypeDesc → Ty
  | .bool => .bool
  | .int k => .int k
  | .string => .string
  | .slice e => .slice e
  | .pointer e => .ptr e
  | .struct fs => .struct (fs.toList.map fun f => (f.offset, f.type))
  | .array n e => .array n e
  | .func .. => .func
  | .map k e => .map k e
  | _ => .other
structure TIok (P : Program) (t : Nat) (ti : TI) : Prop where
  ty : (P.underlying t).map descTy = some ti.ty
  info : (P.info? t).map (fun i => (i.size, i.bytes, i.zero)) = some (ti.size, ti.bytes, some ti.zero)
def TabOk (P : Program) (tab : Tab) : Prop := ∀ t ti, tlook t tab = some ti → TIok P t ti
theorem TabOk.nil (P : Program) : TabOk P [] := fun t ti h => by simp [tlook] at h
theorem TabOk.cons {P : Program} {t : Nat} {ti : TI} {r : Tab} (h1 : (P.underlying t).map descTy = some ti.ty)
    (h2 : (P.info? t).map (fun i => (i.size, i.bytes, i.zero)) = some (ti.size, ti.bytes, some ti.zero)) (hr : TabOk P r) : TabOk P ((t, ti) :: r) := by
  intro s si hs
  change (match Nat.beq s t with | true => some ti | false => tlook s r) = _ at hs
  cases hb : Nat.beq s t with
  | true => rw [hb] at hs; have := Nat.eq_of_beq_eq_true hb; subst this; simp at hs; subst hs; exact ⟨h1, h2⟩
  | false => rw [hb] at hs; exact hr s si hs

/-! ### Stops -/
structure Ev {α : Type} (x : α) (K : α → Prop) : Prop where keep ::
  out : K x
theorem Ev.mk {α : Type} {x : α} {K : α → Prop} (x' : α) (h : x = x') (k : K x') : Ev x K := ⟨h ▸ k⟩
structure Cmp (b : Bool) (K : Bool → Prop) : Prop where keep ::
  out : K b
theorem Cmp.t {b : Bool} {K : Bool → Prop} (h : b = true) (k : K true) : Cmp b K := ⟨h ▸ k⟩
theorem Cmp.f {b : Bool} {K : Bool → Prop} (h : b = false) (k : K false) : Cmp b K := ⟨h ▸ k⟩
theorem Cmp.s {b : Bool} {K : Bool → Prop} (ht : b = true → K true) (hf : b = false → K false) : Cmp b K := ⟨by cases b; exact hf rfl; exact ht rfl⟩
theorem Cmp.dt {q : Prop} [Decidable q] {K : Bool → Prop} (h : q) (k : K true) : Cmp (decide q) K := .t (decide_eq_true h) k
theorem Cmp.df {q : Prop} [Decidable q] {K : Bool → Prop} (h : ¬ q) (k : K false) : Cmp (decide q) K := .f (decide_eq_false h) k
theorem Cmp.ds {q : Prop} [Decidable q] {K : Bool → Prop} (ht : q → K true) (hf : ¬ q → K false) : Cmp (decide q) K :=
  .s (fun h => ht (of_decide_eq_true h)) (fun h => hf (of_decide_eq_false h))
structure Nd (p : Prop) (X : Prop) : Prop where mk ::
  h : p
  k : X

inductive Md where
  | plain
  | any (S : Nat → Prop)
def Md.R (m : Md) (w : World) (p : World → Prop) : Prop := match m with
  | .plain => p w
  | .any S => ∀ w', Ext S w w' → p w'
def Md.W (m : Md) (w w' : World) : Prop := match m with
  | .plain => True
  | .any S => Ext S w w'
def Md.safe (m : Md) (b : Nat) : Prop := match m with
  | .plain => True
  | .any S => ¬ S b
theorem Md.R_all {m : Md} {w : World} {p : World → Prop} (h : ∀ w', p w') : m.R w p := by cases m; exact h w; exact fun w' _ => h w'
theorem Md.R_mono {m : Md} {w : World} {p q : World → Prop} (h : m.R w p) (hpq : ∀ w', p w' → q w') : m.R w q := by
  cases m
  · exact hpq _ h
  · exact fun w' hw => hpq _ (h w' hw)
theorem Md.R_cell {m : Md} {w : World} {a : Addr} {v : Value} (h : w.cell? a = some v) (hs : m.safe a.block) : m.R w (fun w' => w'.cell? a = some v) := by
  cases m
  · exact h
  · exact fun w' hw => hw.cell h hs

/-- A byte slice's bytes. -/
def Bs (w : World) (A : Option Addr) (l : List UInt8) : Prop :=
  l = [] ∨ ∃ b off, A = some ⟨b, off, none⟩ ∧ ∀ i (h : i < l.length), w.cell? ⟨b, off + i, none⟩ = some (.int .u8 (l[i].toNat : Int))

structure Rd (m : Md) (w : World) (a : Addr) (K : Value → Prop) : Prop where mk' ::
  out : ∃ v, m.R w (fun w' => w'.cell? a = some v) ∧ K v
theorem Rd.mk {m : Md} {w : World} {a : Addr} {K : Value → Prop} (v : Value) (h : w.cell? a = some v) (hs : m.safe a.block) (k : K v) : Rd m w a K := ⟨v, Md.R_cell h hs, k⟩
structure RdA (m : Md) (w : World) (b off n : Nat) (K : List Value → Prop) : Prop where mk ::
  out : ∃ cs : List Value, cs.length = n ∧ m.R w (fun w' => ∀ i (h : i < cs.length), w'.cell? ⟨b, off + i, none⟩ = some cs[i]) ∧ K cs
structure RdS (m : Md) (w : World) (A : Option Addr) (n : Nat) (K : ByteArray → Prop) : Prop where mk ::
  out : ∃ l : List UInt8, l.length = n ∧ m.R w (fun w' => Bs w' A l) ∧ K ⟨l.toArray⟩

def sla (A : Option Addr) (l m size : Nat) : Option Addr := if m = l then A else A.map (·.add (l * size))
structure Sl (A : Option Addr) (l h m size : Nat) (K : Value → Prop) : Prop where keep ::
  out : K (.slice (sla A l m size) (h - l) (m - l))
theorem Sl.mk {A : Option Addr} {l h m size : Nat} {K : Value → Prop} (A' : Option Addr) (n' c' : Nat) (hA : sla A l m size = A') (hn : h - l = n') (hc : m - l = c') (k : K (.slice A' n' c')) : Sl A l h m size K := ⟨by rw [hA, hn, hc]; exact k⟩
structure Ix (A : Option Addr) (n : Nat) (i : Int) (size : Nat) (K : Value → Prop) : Prop where mk' ::
  out : ∃ b o, A = some ⟨b, o, none⟩ ∧ (0 ≤ i ∧ i < (n : Int)) ∧ K (.pointer (some ⟨b, o + i.toNat * size, none⟩))
theorem Ix.mk {A : Option Addr} {n : Nat} {i : Int} {size : Nat} {K : Value → Prop} (b o j : Nat) (hA : A = some ⟨b, o, none⟩) (hi : 0 ≤ i ∧ i < (n : Int)) (hj : o + i.toNat * size = j)
    (k : K (.pointer (some ⟨b, j, none⟩))) : Ix A n i size K := ⟨b, o, hA, hi, hj ▸ k⟩
def eqPlain : Value → Bool
  | .int _ _ | .float _ _ | .complex _ _ _ | .string _ | .nilIface => false
  | _ => true
structure Ix1 (A : Option Addr) (n : Nat) (i : Int) (K : Value → Prop) : Prop where mk' ::
  out : ∃ b o, A = some ⟨b, o, none⟩ ∧ (0 ≤ i ∧ i < (n : Int)) ∧ K (.pointer (some ⟨b, o + i.toNat, none⟩))
theorem Ix1.mk {A : Option Addr} {n : Nat} {i : Int} {K : Value → Prop} (b o j : Nat) (hA : A = some ⟨b, o, none⟩) (hi : 0 ≤ i ∧ i < (n : Int)) (hj : o + i.toNat = j)
    (k : K (.pointer (some ⟨b, j, none⟩))) : Ix1 A n i K := ⟨b, o, hA, hi, hj ▸ k⟩
def ixVC (A : Option Addr) (n : Nat) (i : Int) (size : Nat) (K : Value → Prop) : Prop :=
  match Nat.beq size 1 with
  | true => Ix1 A n i K
  | false => Ix A n i size K
theorem ix_of {A : Option Addr} {n : Nat} {i : Int} {size : Nat} {K : Value → Prop} (h : ixVC A n i size K) : Ix A n i size K := by
  unfold ixVC at h
  split at h
  · rename_i hb
    have := Nat.eq_of_beq_eq_true hb
    subst this
    obtain ⟨b, o, h1, h2, h3⟩ := h.out
    exact ⟨b, o, h1, h2, by rw [Nat.mul_one]; exact h3⟩
  · exact h
structure Eqv (P : Program) (t : TypeId) (x y : Value) (K : Bool → Prop) : Prop where mk ::
  out : ∃ b, eqPlain x = true ∧ (∀ w, (Op.equal t x y).run P w = .ok b w) ∧ (∀ op X Y w, (eqGuard op t X Y x y).run P w = .ok () w) ∧ K b

/-! ### Conditions -/
def nth {α : Type} : Nat → List α → Option α
  | _, [] => none
  | 0, x :: _ => some x
  | n + 1, _ :: r => nth n r
theorem nth_eq {α : Type} (l : List α) : ∀ n, nth n l = l[n]? := by
  induction l with
  | nil => intro n; cases n <;> rfl
  | cons x r ih => intro n; cases n with
    | zero => rfl
    | succ n => simpa [nth] using ih n
def bitw (op : BinOp) (k : IntKind) (x y : Int) : Int :=
  match op with
  | .and => k.wrap ((BitVec.ofInt k.bits x &&& BitVec.ofInt k.bits y).toNat : Int)
  | .or => k.wrap ((BitVec.ofInt k.bits x ||| BitVec.ofInt k.bits y).toNat : Int)
  | .xor => k.wrap ((BitVec.ofInt k.bits x ^^^ BitVec.ofInt k.bits y).toNat : Int)
  | _ => k.wrap ((BitVec.ofInt k.bits x &&& ~~~ (BitVec.ofInt k.bits y)).toNat : Int)
def intVC (op : BinOp) (k : IntKind) (a b : Int) (K : Value → Prop) : Prop :=
  match op with
  | .add => Ev (k.wrap (a + b)) fun z => K (.int k z)
  | .sub => Ev (k.wrap (a - b)) fun z => K (.int k z)
  | .mul => Ev (k.wrap (a * b)) fun z => K (.int k z)
  | .quo => Nd (b ≠ 0) (Ev (k.wrap (a.tdiv b)) fun z => K (.int k z))
  | .rem => Nd (b ≠ 0) (Ev (a.tmod b) fun z => K (.int k z))
  | .and => Ev (bitw .and k a b) fun z => K (.int k z)
  | .or => Ev (bitw .or k a b) fun z => K (.int k z)
  | .xor => Ev (bitw .xor k a b) fun z => K (.int k z)
  | .andNot => Ev (bitw .andNot k a b) fun z => K (.int k z)
  | .eql => Cmp (decide (a = b)) fun r => K (.bool r)
  | .neq => Cmp (decide (a ≠ b)) fun r => K (.bool r)
  | .lss => Cmp (decide (a < b)) fun r => K (.bool r)
  | .leq => Cmp (decide (a ≤ b)) fun r => K (.bool r)
  | .gtr => Cmp (decide (b < a)) fun r => K (.bool r)
  | .geq => Cmp (decide (b ≤ a)) fun r => K (.bool r)
  | _ => False
def strVC (op : BinOp) (a b : ByteArray) (K : Value → Prop) : Prop :=
  match op with
  | .add => Nd (a.size + b.size ≤ 9223372036854775807) (Ev (a ++ b) fun z => K (.string z))
  | .eql => Cmp (decide (a = b)) fun r => K (.bool r)
  | .neq => Cmp (decide (a ≠ b)) fun r => K (.bool r)
  | .lss => Cmp (Op.bytesLess a.toList b.toList) fun r => K (.bool r)
  | .leq => Cmp (Op.bytesLess a.toList b.toList || decide (a = b)) fun r => K (.bool r)
  | .gtr => Cmp (!(Op.bytesLess a.toList b.toList || decide (a = b))) fun r => K (.bool r)
  | .geq => Cmp (!Op.bytesLess a.toList b.toList) fun r => K (.bool r)
  | _ => False
def binVC (P : Program) (tab : Tab) (op : BinOp) (t : TypeId) (x y : Value) (K : Value → Prop) : Prop :=
  match op, x, y with
  | .shl, .int k a, .int _ b => Nd (0 ≤ b) (Ev (k.wrap (a * 2 ^ min b.toNat k.bits)) fun z => K (.int k z))
  | .shr, .int k a, .int _ b => Nd (0 ≤ b) (Ev (a.fdiv (2 ^ min b.toNat k.bits)) fun z => K (.int k z))
  | op, .int k a, .int k' b => match decide (k = k') with
    | true => intVC op k a b K
    | false => False
  | op, .string a, .string b => strVC op a b K
  | .eql, x, y => match tlook t tab, x, y with
    | some ⟨.bool, _, _, _⟩, .bool a, .bool b => Cmp (a == b) fun r => K (.bool r)
    | some ⟨.ptr _, _, _, _⟩, .pointer (some _), .pointer none => K (.bool false)
    | some ⟨.ptr _, _, _, _⟩, .pointer none, .pointer (some _) => K (.bool false)
    | some ⟨.ptr _, _, _, _⟩, .pointer none, .pointer none => K (.bool true)
    | some ⟨.slice _, _, _, _⟩, .slice A _ _, .slice none _ _ => Cmp A.isNone fun r => K (.bool r)
    | _, _, _ => Eqv P t x y fun b => K (.bool b)
  | .neq, x, y => match tlook t tab, x, y with
    | some ⟨.bool, _, _, _⟩, .bool a, .bool b => Cmp (!(a == b)) fun r => K (.bool r)
    | some ⟨.ptr _, _, _, _⟩, .pointer (some _), .pointer none => K (.bool true)
    | some ⟨.ptr _, _, _, _⟩, .pointer none, .pointer (some _) => K (.bool true)
    | some ⟨.ptr _, _, _, _⟩, .pointer none, .pointer none => K (.bool false)
    | some ⟨.slice _, _, _, _⟩, .slice A _ _, .slice none _ _ => Cmp (!A.isNone) fun r => K (.bool r)
    | _, _, _ => Eqv P t x y fun b => K (.bool (!b))
  | _, _, _ => False
def unVC (op : UnOp) (x : Value) (K : Value → Prop) : Prop :=
  match op, x with
  | .not, .bool true => K (.bool false)
  | .not, .bool false => K (.bool true)
  | .neg, .int k n => Ev (k.wrap (0 - n)) fun z => K (.int k z)
  | .xor, .int k n => Ev (bitw .xor k (if k.signed then -1 else k.max) n) fun z => K (.int k z)
  | _, _ => False
def isAggT : Ty → Bool
  | .struct _ | .array _ _ => true
  | _ => false
/-- A part of a struct or array at `off`. -/
def partVC (ft : TI) (cs : List Value) (off : Nat) (K : Value → Prop) : Prop :=
  match isAggT ft.ty with
  | true => Ev ((cs.drop off).take ft.size) fun l => K (.agg l.toArray)
  | false => match nth off cs with
    | some v => K v
    | none => False
def boundVC (l : Env) (x : Option Operand) (top : Nat) (dflt : Nat) (K : Nat → Prop) : Prop :=
  match x with
  | none => K dflt
  | some x => match evl l x with
    | some (.int _ i) => Nd (0 ≤ i ∧ i ≤ (top : Int)) (Ev i.toNat K)
    | _ => False
def lowVC (l : Env) (x : Option Operand) (A : Option Addr) (h m size : Nat) (K : Value → Prop) : Prop :=
  match x with
  | none => K (.slice A h m)
  | some x => match evl l x with
    | some (.int _ i) => Nd (0 ≤ i ∧ i ≤ (h : Int)) (Ev i.toNat fun j => Sl A j h m size K)
    | _ => False
def vcells : Value → List Value
  | .agg cs => cs.toList
  | v => [v]
def ov (cells : List Value) (off : Nat) (vs : List Value) : List Value := cells.take off ++ (vs ++ cells.drop (off + vs.length))
def fillVC (place : Nat → Option (Nat × Nat)) (cells : List Value) : List (Nat × Value) → (List Value → Prop) → Prop
  | [], K => Ev cells K
  | (i, v) :: r, K => match place i with
    | none => False
    | some (off, size) => Nd ((vcells v).length = size ∧ off + size ≤ cells.length) (Ev (ov cells off (vcells v)) fun cs => fillVC place cs r K)
def evparts (l : Env) : List (Nat × Operand) → Option (List (Nat × Value))
  | [] => some []
  | (i, x) :: r => match evl l x with
    | none => none
    | some v => match evparts l r with
      | none => none
      | some vs => some ((i, v) :: vs)
def structPlace (tab : Tab) (fs : List (Nat × Nat)) (i : Nat) : Option (Nat × Nat) :=
  match nth i fs with
  | none => none
  | some (off, ft) => match tlook ft tab with
    | none => none
    | some fi => some (off, fi.size)
def allIn (tab : Tab) : List (Nat × Nat) → Bool
  | [] => true
  | (_, t) :: r => match tlook t tab with
    | some _ => allIn tab r
    | none => false
def rdVC (P : Program) (tab : Tab) (m : Md) (l : Env) (o : Oper) (w : World) (K : Value → Prop) : Prop :=
  match o.op with
  | .move x => match evl l x with
    | some v => K v
    | none => False
  | .assign x => match evl l x with
    | some v => K v
    | none => False
  | .pick c a b => match evl l c with
    | some (.bool true) => (match evl l a with
      | some v => K v
      | none => False)
    | some (.bool false) => (match evl l b with
      | some v => K v
      | none => False)
    | _ => False
  | .nilCheck x => match evl l x with
    | some (.pointer (some a)) => K (.pointer (some a))
    | some (.func (.func f) fi ca) => K (.func (.func f) fi ca)
    | _ => False
  | .binOp op t x y _ => match evl l x with
    | some a => (match evl l y with
      | some b => binVC P tab op t a b K
      | none => False)
    | none => False
  | .unOp op _ x => match evl l x with
    | some v => unVC op v K
    | none => False
  | .convert s d x => match tlook s tab, tlook d tab, evl l x with
    | some _, some ⟨.int k, _, _, _⟩, some (.int _ n) => Ev (k.wrap n) fun z => K (.int k z)
    | some _, some ⟨.string, _, _, _⟩, some (.string b) => K (.string b)
    | some ⟨.slice e, _, _, _⟩, some ⟨.string, _, _, _⟩, some (.slice A n c) => (match tlook e tab with
      | some ⟨.int .u8, _, _, _⟩ => RdS m w A n fun b => K (.string b)
      | _ => False)
    | _, _, _ => False
  | .makeFunc fn fi ca => match evls l fi.toList with
    | some f => (match evls l ca.toList with
      | some c => K (.func fn f.toArray c.toArray)
      | none => False)
    | none => False
  | .load t x => match tlook t tab, evl l x with
    | some ti, some (.pointer (some ⟨b, off, none⟩)) => (match isAggT ti.ty with
      | true => RdA m w b off ti.size fun cs => K (.agg cs.toArray)
      | false => Rd m w ⟨b, off, none⟩ K)
    | _, _ => False
  | .fieldAddr s x f => match tlook s tab, evl l x with
    | some ⟨.struct fs, _, _, _⟩, some (.pointer (some ⟨b, off, none⟩)) => (match structPlace tab fs f with
      | some (fo, size) => (match Nat.beq size 0 with
        | false => K (.pointer (some ⟨b, off + fo, none⟩))
        | true => False)
      | none => False)
    | _, _ => False
  | .field s x f => match tlook s tab, evl l x with
    | some ⟨.struct fs, _, _, _⟩, some (.agg cs) => (match nth f fs with
      | some (fo, ft) => (match tlook ft tab with
        | some fi => partVC fi cs.toList fo K
        | none => False)
      | none => False)
    | _, _ => False
  | .indexAddr t x i => match tlook t tab, evl l x, evl l i with
    | some ⟨.slice e, _, _, _⟩, some (.slice A n _), some (.int _ j) => (match tlook e tab with
      | some ei => ixVC A n j ei.size K
      | none => False)
    | some ⟨.array n e, _, _, _⟩, some (.pointer (some ⟨b, off, none⟩)), some (.int _ j) => (match tlook e tab with
      | some ei => ixVC (some ⟨b, off, none⟩) n j ei.size K
      | none => False)
    | _, _, _ => False
  | .index t x i => match tlook t tab, evl l x, evl l i with
    | some ⟨.array n e, _, _, _⟩, some (.agg cs), some (.int _ j) => (match tlook e tab with
      | some ei => Nd (0 ≤ j ∧ j < (n : Int)) (match isAggT ei.ty with
        | true => Ev ((cs.toList.drop (j.toNat * ei.size)).take ei.size) fun l => K (.agg l.toArray)
        | false => ∃ v, cs.toList[j.toNat * ei.size]? = some v ∧ K v)
      | none => False)
    | some ⟨.string, _, _, _⟩, some (.string s), some (.int _ j) => Nd (0 ≤ j ∧ j < (s.size : Int)) (Ev ((s.data.toList[j.toNat]?.getD 0).toNat : Int) fun z => K (.int .u8 z))
    | _, _, _ => False
  | .slice t x lo hi mx => match tlook t tab, evl l x with
    | some ⟨.slice e, _, _, _⟩, some (.slice A n c) => (match tlook e tab with
      | some ei => (match hi, mx with
        | none, some _ => False
        | _, _ => boundVC l mx c c fun m => boundVC l hi m n fun h => lowVC l lo A h m ei.size K)
      | none => False)
    | some ⟨.array n e, _, _, _⟩, some (.pointer (some ⟨b, off, none⟩)) => (match tlook e tab with
      | some ei => (match hi, mx with
        | none, some _ => False
        | _, _ => boundVC l mx n n fun m => boundVC l hi m n fun h => lowVC l lo (some ⟨b, off, none⟩) h m ei.size K)
      | none => False)
    | some ⟨.string, _, _, _⟩, some (.string s) => (match mx with
      | some _ => False
      | none => boundVC l hi s.size s.size fun h => boundVC l lo h 0 fun j => Ev (s.extract j h) fun z => K (.string z))
    | _, _ => False
  | .extract x i => match evl l x with
    | some (.tuple vs) => (match nth i vs.toList with
      | some v => K v
      | none => False)
    | _ => False
  | .build t ps => match tlook t tab, evparts l ps.toList with
    | some ⟨.struct fs, _, _, z⟩, some vs => (match allIn tab fs with
      | true => fillVC (structPlace tab fs) (vcells z) vs fun cs => K (.agg cs.toArray)
      | false => False)
    | some ⟨.array n e, _, _, z⟩, some vs => (match tlook e tab with
      | some ei => fillVC (fun i => some (i * ei.size, ei.size)) (vcells z) vs fun cs => K (.agg cs.toArray)
      | none => False)
    | _, _ => False
  | .call c => match c.callee, c.args.toList, c.argTypes.toList with
    | .builtin .len, [x], [t] => (match tlook t tab, evl l x with
      | some ⟨.slice _, _, _, _⟩, some (.slice _ n _) => K (.int .i64 (n : Int))
      | some ⟨.string, _, _, _⟩, some (.string s) => K (.int .i64 (s.size : Int))
      | some ⟨.array n _, _, _, _⟩, some _ => K (.int .i64 (n : Int))
      | _, _ => False)
    | .builtin .cap, [x], [t] => (match tlook t tab, evl l x with
      | some ⟨.slice _, _, _, _⟩, some (.slice _ _ n) => K (.int .i64 (n : Int))
      | _, _ => False)
    | .builtin .min, [x, y], _ => (match evl l x, evl l y with
      | some (.int k a), some (.int _ b) => Ev (if b < a then b else a) fun z => K (.int k z)
      | _, _ => False)
    | .builtin .max, [x, y], _ => (match evl l x, evl l y with
      | some (.int k a), some (.int _ b) => Ev (if a < b then b else a) fun z => K (.int k z)
      | _, _ => False)
    | _, _, _ => False
  | _ => False
end Go.Proofs.YtmcdcfbhpdacfaaDoor.Sx
/-
  The conditions of an operation that reads memory at most are sound.
-/


namespace Go.Proofs.YtmcdcfbhpdacfaaDoor.Sx

open Go

set_option linter.unusedVariables false

set_option linter.unusedSimpArgs false

def Agree (l : Env) (ρ : Operand → Value) : Prop := ∀ x v, evl l x = some v → ρ x = v
theorem Fr.agree {n : Nat} {l : Env} {a : Act} (h : Fr n l a) : Agree l a.eval := fun _ _ hx => h.eval hx
theorem Agree.evls {l : Env} {ρ : Operand → Value} (h : Agree l ρ) : ∀ {xs : List Operand} {vs : List Value}, evls l xs = some vs → xs.map ρ = vs
  | [], vs, hx => by simpa [Sx.evls] using hx
  | x :: xs, vs, hx => by
    unfold Sx.evls at hx
    cases h1 : evl l x with
    | none => simp [h1] at hx
    | some v =>
      cases h2 : Sx.evls l xs with
      | none => simp [h1, h2] at hx
      | some us =>
        simp [h1, h2] at hx
        subst hx
        simp [h _ _ h1, h.evls h2]

section types

variable {P : Program} {t : Nat} {sz by_ : Nat} {z : Value}
theorem descTy_int {d : TypeDesc} {k : IntKind} (h : descTy d = .int k) : d = .int k := by cases d <;> simp_all [descTy]
theorem descTy_bool {d : TypeDesc} (h : descTy d = .bool) : d = .bool := by cases d <;> simp_all [descTy]
theorem descTy_string {d : TypeDesc} (h : descTy d = .string) : d = .string := by cases d <;> simp_all [descTy]
theorem descTy_slice {d : TypeDesc} {e : Nat} (h : descTy d = .slice e) : d = .slice e := by cases d <;> simp_all [descTy]
theorem descTy_ptr {d : TypeDesc} {e : Nat} (h : descTy d = .ptr e) : d = .pointer e := by cases d <;> simp_all [descTy]
theorem descTy_array {d : TypeDesc} {n e : Nat} (h : descTy d = .array n e) : d = .array n e := by cases d <;> simp_all [descTy]
theorem descTy_struct {d : TypeDesc} {fs : List (Nat × Nat)} (h : descTy d = .struct fs) : ∃ f, d = .struct f ∧ f.toList.map (fun f => (f.offset, f.type)) = fs := by
  cases d <;> simp_all [descTy]
theorem TIok.und {ti : TI} (h : TIok P t ti) : ∃ d, P.underlying t = some d ∧ descTy d = ti.ty := Option.map_eq_some_iff.1 h.ty
theorem TIok.int {k : IntKind} (h : TIok P t ⟨.int k, sz, by_, z⟩) : P.underlying t = some (.int k) := by obtain ⟨d, h1, h2⟩ := h.und; rw [h1, descTy_int h2]
theorem TIok.bool (h : TIok P t ⟨.bool, sz, by_, z⟩) : P.underlying t = some .bool := by obtain ⟨d, h1, h2⟩ := h.und; rw [h1, descTy_bool h2]
theorem TIok.string (h : TIok P t ⟨.string, sz, by_, z⟩) : P.underlying t = some .string := by obtain ⟨d, h1, h2⟩ := h.und; rw [h1, descTy_string h2]
theorem TIok.slice {e : Nat} (h : TIok P t ⟨.slice e, sz, by_, z⟩) : P.underlying t = some (.slice e) := by obtain ⟨d, h1, h2⟩ := h.und; rw [h1, descTy_slice h2]
theorem TIok.ptr {e : Nat} (h : TIok P t ⟨.ptr e, sz, by_, z⟩) : P.underlying t = some (.pointer e) := by obtain ⟨d, h1, h2⟩ := h.und; rw [h1, descTy_ptr h2]
theorem TIok.array {n e : Nat} (h : TIok P t ⟨.array n e, sz, by_, z⟩) : P.underlying t = some (.array n e) := by obtain ⟨d, h1, h2⟩ := h.und; rw [h1, descTy_array h2]
theorem TIok.struct {fs : List (Nat × Nat)} (h : TIok P t ⟨.struct fs, sz, by_, z⟩) : ∃ f, P.underlying t = some (.struct f) ∧ f.toList.map (fun f => (f.offset, f.type)) = fs := by
  obtain ⟨d, h1, h2⟩ := h.und
  obtain ⟨f, rfl, hf⟩ := descTy_struct h2
  exact ⟨f, h1, hf⟩
theorem TIok.get {ti : TI} (h : TIok P t ti) : ∃ i, P.info? t = some i ∧ i.size = ti.size ∧ i.bytes = ti.bytes ∧ i.zero = some ti.zero := by
  obtain ⟨i, h1, h2⟩ := Option.map_eq_some_iff.1 h.info
  simp only [Prod.mk.injEq] at h2
  exact ⟨i, h1, h2.1, h2.2.1, h2.2.2⟩
theorem TIok.run_size {ti : TI} (h : TIok P t ti) (w : World) : (sizeOf t).run P w = .ok ti.size w := by
  obtain ⟨i, h1, h2, _⟩ := h.get
  simp [sizeOf, typeInfo, h1, h2]
theorem TIok.run_zero {ti : TI} (h : TIok P t ti) (w : World) : (zeroValue t).run P w = .ok ti.zero w := by
  obtain ⟨i, h1, _, _, h2⟩ := h.get
  simp [zeroValue, typeInfo, h1, h2]
theorem TIok.run_agg {ti : TI} (h : TIok P t ti) (w : World) : (isAgg t).run P w = .ok (isAggT ti.ty) w := by
  obtain ⟨d, h1, h2⟩ := h.und
  simp only [isAgg, Sem.run_bind, run_underlying h1, Result.andThen_ok]
  rw [← h2]
  cases d <;> simp [descTy, isAggT]
end types

theorem add_none (b o n : Nat) : (⟨b, o, none⟩ : Addr).add n = ⟨b, o + n, none⟩ := by unfold Addr.add; split <;> simp_all

/-- What `Bs` says of the whole slice: it reads as that string. -/
theorem run_bytes {P : Program} {s d e : TypeId} (hs : P.underlying s = some (.slice e)) (he : P.underlying e = some (.int .u8)) (hd : P.underlying d = some .string)
    {w : World} {A : Option Addr} {l : List UInt8} (h : Bs w A l) (c : Nat) : (convert s d (.slice A l.length c)).run P w = .ok (.string ⟨l.toArray⟩) w := by
  have key : strOfNums (l.map fun b => (b.toNat : Int)) = ⟨l.toArray⟩ := by
    simp only [strOfNums, List.map_map]
    congr 2
    conv => rhs; rw [← List.map_id l]
    refine List.map_congr_left fun b _ => ?_
    simp
  rcases h with rfl | ⟨b, off, rfl, hc⟩
  · cases A with
    | none => exact run_convert_bytes_nil w s e hs he 0 c d hd
    | some a =>
      rw [run_convert_bytes_string w s d e _ [].length c hs he hd]
      simp [Conv.bytesToString, loadCells, loadCellsFrom]
      rfl
  · rw [run_convert_bytes_arg w s e hs he b off l.length c (l.map fun b => (b.toNat : Int)) (by simp) (fun i hi => by rw [hc i hi]; simp [hi]) d hd, key]

/-- A pure operation: the same whatever the world. -/
theorem pureR {P : Program} {m : Md} {w : World} {s : Sem Next} {v : Value} (h : ∀ w', s.run P w' = .ok (.value v) w') : m.R w (fun w' => s.run P w' = .ok (.value v) w') := Md.R_all h

section

variable {P : Program} {w : World}
theorem bitw_and (k : IntKind) (x y : Int) : (Op.intBits .and k x y).run P w = .ok (.int k (bitw .and k x y)) w := rfl
theorem bitw_or (k : IntKind) (x y : Int) : (Op.intBits .or k x y).run P w = .ok (.int k (bitw .or k x y)) w := rfl
theorem bitw_xor (k : IntKind) (x y : Int) : (Op.intBits .xor k x y).run P w = .ok (.int k (bitw .xor k x y)) w := rfl
theorem bitw_andNot (k : IntKind) (x y : Int) : (Op.intBits .andNot k x y).run P w = .ok (.int k (bitw .andNot k x y)) w := rfl
end

theorem int_sound {P : Program} {op : BinOp} {k : IntKind} {a b : Int} {K : Value → Prop} (h : intVC op k a b K) (hsh : op ≠ .shl) (hsr : op ≠ .shr) :
    ∃ v, (∀ t w, (binOp op t (.int k a) (.int k b)).run P w = .ok v w) ∧ K v := by
  cases op <;> simp only [intVC] at h <;> simp only [binOp, ne_eq, not_true_eq_false, if_false]
  case add => exact ⟨_, fun _ w => rfl, h.out⟩
  case sub => exact ⟨_, fun _ w => rfl, h.out⟩
  case mul => exact ⟨_, fun _ w => rfl, h.out⟩
  case quo => exact ⟨_, fun _ w => by simp [Op.intDiv, h.h], h.k.out⟩
  case rem => exact ⟨_, fun _ w => by simp [Op.intDiv, h.h], h.k.out⟩
  case and => exact ⟨_, fun _ w => rfl, h.out⟩
  case or => exact ⟨_, fun _ w => rfl, h.out⟩
  case xor => exact ⟨_, fun _ w => rfl, h.out⟩
  case andNot => exact ⟨_, fun _ w => rfl, h.out⟩
  case eql => exact ⟨_, fun _ w => by simp [Op.intCmp]; rfl, h.out⟩
  case neq => exact ⟨_, fun _ w => by simp only [Op.intCmp, bne, Sem.run_pure]; congr 2; by_cases e : a = b <;> simp [e], h.out⟩
  case lss => exact ⟨_, fun _ w => rfl, h.out⟩
  case leq => exact ⟨_, fun _ w => rfl, h.out⟩
  case gtr => exact ⟨_, fun _ w => rfl, h.out⟩
  case geq => exact ⟨_, fun _ w => rfl, h.out⟩

theorem toList_bytes (a : ByteArray) : a.toList = a.data.toList := ByteArray.toList_eq a
theorem beq_bytes (a b : ByteArray) : (a.toList == b.toList) = decide (a = b) := by
  rw [toList_bytes, toList_bytes]
  by_cases h : a = b
  · subst h; simp
  · have h1 : ¬ (a.data.toList = b.data.toList) := fun e => h (by cases a; cases b; simp only at e; exact congrArg _ (Array.ext' e))
    rw [decide_eq_false h]
    exact beq_eq_false_iff_ne.2 h1
theorem str_sound {P : Program} {op : BinOp} {a b : ByteArray} {K : Value → Prop} (h : strVC op a b K) :
    ∃ v, (∀ t w, (binOp op t (.string a) (.string b)).run P w = .ok v w) ∧ K v := by
  have hb := beq_bytes a b
  cases op <;> simp only [strVC] at h <;> simp only [binOp]
  case add =>
    refine ⟨_, fun _ w => ?_, h.k.out⟩
    have h1 : ¬ ((a.size + b.size : Nat) : Int) > IntKind.i64.max := by
      have := h.h
      simp only [IntKind.max, IntKind.bits, IntKind.signed]
      simp
      omega
    simp only [Op.stringOp, if_neg h1]
    rfl
  case eql => exact ⟨_, fun _ w => by simp only [Op.stringOp, hb]; rfl, h.out⟩
  case neq => exact ⟨_, fun _ w => by simp only [Op.stringOp, hb, Sem.run_pure]; congr 2; by_cases e : a = b <;> simp [e], h.out⟩
  case lss => exact ⟨_, fun _ w => rfl, h.out⟩
  case leq => exact ⟨_, fun _ w => by simp only [Op.stringOp, hb]; rfl, h.out⟩
  case gtr => exact ⟨_, fun _ w => by simp only [Op.stringOp, hb]; rfl, h.out⟩
  case geq => exact ⟨_, fun _ w => rfl, h.out⟩
  all_goals exact h.elim
end Go.Proofs.YtmcdcfbhpdacfaaDoor.Sx
/-
  The conditions of an operation that reads memory at most are sound: the whole of it.
-/

namespace Go.Proofs.YtmcdcfbhpdacfaaDoor.Sx

open Go

set_option linter.unusedVariables false

set_option linter.unusedSimpArgs false

section

variable {P : Program} {tab : Tab} {K : Value → Prop}

theorem guard_none {P : Program} {op : BinOp} {t : TypeId} {x y : Operand} {a b : Value} (h : (op ≠ .eql ∧ op ≠ .neq) ∨ (a ≠ .nilIface ∧ ∀ cs, a ≠ .agg cs)) (w : World) :
    (eqGuard op t x y a b).run P w = .ok () w := by
  unfold eqGuard
  rcases h with ⟨h1, h2⟩ | ⟨h1, h2⟩
  · cases op <;> first | exact absurd rfl h1 | exact absurd rfl h2 | rfl
  · cases op <;> first | rfl | skip
    all_goals
      cases a <;> first | exact absurd rfl h1 | exact absurd rfl (h2 _) | (simp; done) | rfl

theorem eqv_sound {t : TypeId} {a b : Value} {KB : Bool → Prop} (h : Eqv P t a b KB) : ∃ r, eqPlain a = true ∧ (∀ w, (Op.equal t a b).run P w = .ok r w) ∧
    (∀ op x y w, (eqGuard op t x y a b).run P w = .ok () w) ∧ KB r := by
  obtain ⟨r, h0, h1, h2, h3⟩ := h.out
  exact ⟨r, h0, h1, h2, h3⟩

theorem bin_eql (t : TypeId) (a b : Value) (h0 : eqPlain a = true) (w : World) {r : Bool} (h : (Op.equal t a b).run P w = .ok r w) :
    (binOp .eql t a b).run P w = .ok (.bool r) w ∧ (binOp .neq t a b).run P w = .ok (.bool (!r)) w := by
  have e1 : binOp .eql t a b = (do pure (.bool (← Op.equal t a b))) := by
    cases a <;> first | (simp [eqPlain] at h0; done) | (cases b <;> rfl)
  have e2 : binOp .neq t a b = (do pure (.bool (!(← Op.equal t a b)))) := by
    cases a <;> first | (simp [eqPlain] at h0; done) | (cases b <;> rfl)
  rw [e1, e2]
  simp [h]

theorem equal_bool {t : TypeId} (ht : P.underlying t = some .bool) (a b : Bool) (w : World) : (Op.equal t (.bool a) (.bool b)).run P w = .ok (a == b) w := by
  show (Op.equalIn (9999 + 1) t _ _).run P w = _
  rw [Op.equalIn]
  simp [run_underlying ht]
theorem equal_ptr_sn {t e : TypeId} (ht : P.underlying t = some (.pointer e)) (a : Addr) (w : World) : (Op.equal t (.pointer (some a)) (.pointer none)).run P w = .ok false w := by
  show (Op.equalIn (9999 + 1) t _ _).run P w = _
  rw [Op.equalIn]
  simp [run_underlying ht]
theorem equal_ptr_ns {t e : TypeId} (ht : P.underlying t = some (.pointer e)) (a : Addr) (w : World) : (Op.equal t (.pointer none) (.pointer (some a))).run P w = .ok false w := by
  show (Op.equalIn (9999 + 1) t _ _).run P w = _
  rw [Op.equalIn]
  simp [run_underlying ht]
theorem equal_ptr_nn {t e : TypeId} (ht : P.underlying t = some (.pointer e)) (w : World) : (Op.equal t (.pointer none) (.pointer none)).run P w = .ok true w := by
  show (Op.equalIn (9999 + 1) t _ _).run P w = _
  rw [Op.equalIn]
  simp [run_underlying ht]

/-- A binary operation: its value, whatever the world. -/
def BinOk (P : Program) (op : BinOp) (t : TypeId) (a b : Value) (K : Value → Prop) : Prop :=
  ∃ v, (∀ x y w, (do eqGuard op t x y a b; binOp op t a b : Sem Value).run P w = .ok v w) ∧ K v
theorem BinOk.of {op : BinOp} {t : TypeId} {a b : Value} {v : Value} (hg : ∀ x y w, (eqGuard op t x y a b).run P w = .ok () w) (h : ∀ w, (binOp op t a b).run P w = .ok v w) (k : K v) : BinOk P op t a b K :=
  ⟨v, fun x y w => by simp [hg x y w, h w], k⟩

theorem shl_sound {t : TypeId} {k k' : IntKind} {a b : Int} (hb : 0 ≤ b) (w : World) :
    (binOp .shl t (.int k a) (.int k' b)).run P w = .ok (.int k (k.wrap (a * 2 ^ min b.toNat k.bits))) w := by
  have : ¬ b < 0 := by omega
  simp [binOp, Op.shift, this]
theorem shr_sound {t : TypeId} {k k' : IntKind} {a b : Int} (hb : 0 ≤ b) (w : World) :
    (binOp .shr t (.int k a) (.int k' b)).run P w = .ok (.int k (a.fdiv (2 ^ min b.toNat k.bits))) w := by
  have : ¬ b < 0 := by omega
  simp [binOp, Op.shift, this]

theorem equal_slice_nil {t e : TypeId} (ht : P.underlying t = some (.slice e)) (A : Option Addr) (n c n' c' : Nat) (w : World) : (Op.equal t (.slice A n c) (.slice none n' c')).run P w = .ok A.isNone w := by
  show (Op.equalIn (9999 + 1) t _ _).run P w = _
  rw [Op.equalIn]
  cases A <;> simp [run_underlying ht]
theorem BinOk.eqv {t : TypeId} {a b : Value} {K : Bool → Prop} (h : Eqv P t a b K) (neg : Bool) (K' : Value → Prop) (hk : ∀ r, K r → K' (.bool (if neg then !r else r))) :
    BinOk P (if neg then .neq else .eql) t a b K' := by
  obtain ⟨r, h0, h1, h2, h3⟩ := eqv_sound h
  cases neg
  · exact .of (h2 _) (fun w => (bin_eql t a b h0 w (h1 w)).1) (hk r h3)
  · exact .of (h2 _) (fun w => (bin_eql t a b h0 w (h1 w)).2) (hk r h3)
theorem BinOk.eq_of {t : TypeId} {a b : Value} {r : Bool} (h0 : eqPlain a = true) (ha : ∀ cs, a ≠ .agg cs) (h1 : ∀ w, (Op.equal t a b).run P w = .ok r w) (k : K (.bool r)) : BinOk P .eql t a b K :=
  .of (fun _ _ w => guard_none (.inr ⟨fun e => by subst e; simp [eqPlain] at h0, ha⟩) w) (fun w => (bin_eql t a b h0 w (h1 w)).1) k
theorem BinOk.ne_of {t : TypeId} {a b : Value} {r : Bool} (h0 : eqPlain a = true) (ha : ∀ cs, a ≠ .agg cs) (h1 : ∀ w, (Op.equal t a b).run P w = .ok r w) (k : K (.bool (!r))) : BinOk P .neq t a b K :=
  .of (fun _ _ w => guard_none (.inr ⟨fun e => by subst e; simp [eqPlain] at h0, ha⟩) w) (fun w => (bin_eql t a b h0 w (h1 w)).2) k

theorem bin_sound (hT : TabOk P tab) {op : BinOp} {t : TypeId} {a b : Value} (h : binVC P tab op t a b K) : BinOk P op t a b K := by
  unfold binVC at h
  split at h
  · exact .of (fun _ _ w => guard_none (.inl ⟨by simp, by simp⟩) w) (shl_sound h.h) h.k.out
  · exact .of (fun _ _ w => guard_none (.inl ⟨by simp, by simp⟩) w) (shr_sound h.h) h.k.out
  · rename_i hsl hsr
    split at h
    · rename_i he
      obtain rfl := of_decide_eq_true he
      obtain ⟨v, h1, h2⟩ := int_sound (P := P) h (fun e => hsl e) (fun e => hsr e)
      exact .of (fun _ _ w => guard_none (.inr ⟨by simp, by simp⟩) w) (h1 t) h2
    · exact h.elim
  · obtain ⟨v, h1, h2⟩ := str_sound (P := P) h
    exact .of (fun _ _ w => guard_none (.inr ⟨by simp, by simp⟩) w) (h1 t) h2
  · split at h
    · rename_i ht _ _
      exact .eq_of rfl (by simp) (equal_bool (hT _ _ ht).bool _ _) h.out
    · rename_i ht _ _
      exact .eq_of rfl (by simp) (equal_ptr_sn (hT _ _ ht).ptr _) h
    · rename_i ht _ _
      exact .eq_of rfl (by simp) (equal_ptr_ns (hT _ _ ht).ptr _) h
    · rename_i ht _ _
      exact .eq_of rfl (by simp) (equal_ptr_nn (hT _ _ ht).ptr) h
    · rename_i ht _ _
      exact .eq_of rfl (by simp) (equal_slice_nil (hT _ _ ht).slice _ _ _ _ _) h.out
    · exact BinOk.eqv h false K (fun r k => k)
  · split at h
    · rename_i ht _ _
      exact .ne_of rfl (by simp) (equal_bool (hT _ _ ht).bool _ _) h.out
    · rename_i ht _ _
      exact .ne_of rfl (by simp) (equal_ptr_sn (hT _ _ ht).ptr _) h
    · rename_i ht _ _
      exact .ne_of rfl (by simp) (equal_ptr_ns (hT _ _ ht).ptr _) h
    · rename_i ht _ _
      exact .ne_of rfl (by simp) (equal_ptr_nn (hT _ _ ht).ptr) h
    · rename_i ht _ _
      exact .ne_of rfl (by simp) (equal_slice_nil (hT _ _ ht).slice _ _ _ _ _) h.out
    · exact BinOk.eqv h true K (fun r k => k)
  · exact h.elim

theorem un_sound {op : UnOp} {x : Value} (h : unVC op x K) : ∃ v, (∀ w, (Op.unary op x).run P w = .ok v w) ∧ K v := by
  unfold unVC at h
  split at h
  · exact ⟨_, fun w => rfl, h⟩
  · exact ⟨_, fun w => rfl, h⟩
  · exact ⟨_, fun w => rfl, h.out⟩
  · exact ⟨_, fun w => rfl, h.out⟩
  · exact h.elim
end

end Go.Proofs.YtmcdcfbhpdacfaaDoor.Sx
/-
  The conditions of an operation that reads memory at most are sound: parts, bounds, what is filled; the theorem.
-/

namespace Go.Proofs.YtmcdcfbhpdacfaaDoor.Sx

open Go

set_option linter.unusedVariables false

set_option linter.unusedSimpArgs false

theorem vcells_eq (v : Value) : v.cells.toList = vcells v := by cases v <;> rfl
theorem ov_nil (cells : List Value) (n : Nat) : ov cells n [] = cells := by simp [ov]
theorem fold_ov (vs : List Value) : ∀ (k off : Nat) (cells : List Value), off + k + vs.length ≤ cells.length →
    (vs.zipIdx k).foldl (fun (cs : Array Value) (p : Value × Nat) => cs.setIfInBounds (off + p.2) p.1) cells.toArray = (ov cells (off + k) vs).toArray := by
  induction vs with
  | nil => intro k off cells _; simp [ov_nil]
  | cons v r ih =>
    intro k off cells h
    simp only [List.length_cons] at h
    simp only [List.zipIdx_cons, List.foldl_cons]
    rw [List.setIfInBounds_toArray, ih (k + 1) off (cells.set (off + k) v) (by simp; omega)]
    congr 1
    simp only [ov, List.length_cons]
    have h1 : (cells.set (off + k) v).take (off + (k + 1)) = cells.take (off + k) ++ [v] := by
      rw [show off + (k + 1) = (off + k) + 1 from by omega, List.take_succ_eq_append_getElem (by simp; omega)]
      simp [List.take_set_of_le]
    have h2 : (cells.set (off + k) v).drop (off + (k + 1) + r.length) = cells.drop (off + k + (r.length + 1)) := by
      rw [List.drop_set_of_lt (by omega)]
      congr 1
      omega
    rw [h1, h2]
    simp
theorem fill_sound {place : Nat → Option (Nat × Nat)} : ∀ (parts : List (Nat × Value)) (cells : List Value) {K : List Value → Prop}, fillVC place cells parts K →
    ∃ cs, Instr.fill place cells.toArray parts = some cs.toArray ∧ K cs
  | [], cells, K, h => ⟨cells, rfl, h.out⟩
  | (i, v) :: r, cells, K, h => by
    unfold fillVC at h
    unfold Instr.fill
    split at h
    · exact h.elim
    · rename_i off size hp
      rw [hp]
      obtain ⟨cs, h1, h2⟩ := fill_sound r _ h.k.out
      have hl : v.cells.size = size := by rw [← h.h.1, ← vcells_eq]; rfl
      have hle := h.h.2
      refine ⟨cs, ?_, h2⟩
      simp only []
      rw [if_neg (by simp [hl]; omega)]
      rw [← h1]
      congr 1
      have := fold_ov v.cells.toList 0 off cells (by simp [hl]; omega)
      simp only [Nat.add_zero, vcells_eq] at this
      rw [← this, ← vcells_eq, ← Array.foldl_toList, Array.toList_zipIdx]

section

variable {P : Program} {tab : Tab} {l : Env} {ρ : Operand → Value}

theorem part_sound {ft : Nat} {fi : TI} (ht : TIok P ft fi) {cs : Array Value} {off : Nat} {K : Value → Prop} (h : partVC fi cs.toList off K) : ∃ v, (∀ w, (part ft cs off).run P w = .ok v w) ∧ K v := by
  unfold partVC at h
  split at h
  · rename_i ha
    refine ⟨_, fun w => ?_, h.out⟩
    simp only [part, Sem.run_bind, ht.run_agg, ha, Result.andThen_ok, if_true, ht.run_size]
    simp only [Sem.run_pure]
    congr 2
    apply Array.ext'
    simp
  · rename_i ha
    split at h
    · rename_i v hv
      refine ⟨v, fun w => ?_, h⟩
      rw [nth_eq] at hv
      have hv' : cs[off]? = some v := by simpa using hv
      simp [part, ht.run_agg, ha, hv']
    · exact h.elim

def OptB (ρ : Operand → Value) (x : Option Operand) (top dflt i : Nat) : Prop :=
  match x with
  | none => i = dflt
  | some x => ∃ k z, ρ x = .int k z ∧ 0 ≤ z ∧ z ≤ (top : Int) ∧ i = z.toNat
theorem bound_sound (hρ : Agree l ρ) {x : Option Operand} {top dflt : Nat} {K : Nat → Prop} (h : boundVC l x top dflt K) :
    ∃ i, K i ∧ OptB ρ x top dflt i := by
  unfold boundVC at h
  cases x with
  | none => exact ⟨_, h, rfl⟩
  | some x =>
    simp only [] at h
    split at h
    · rename_i hx
      exact ⟨_, h.k.out, _, _, hρ _ _ hx, h.h.1, h.h.2, rfl⟩
    · exact h.elim
theorem run_bound (k : IntKind) {z : Int} {y : Nat} {c : BoundsCode} (h0 : 0 ≤ z) (h1 : z ≤ (y : Int)) (w : World) : (Instr.sliceBound (.int k z) y c).run P w = .ok z.toNat w := by
  simp [Instr.sliceBound, asIntOf, h0, h1]

theorem low_sound (hρ : Agree l ρ) {x : Option Operand} {A : Option Addr} {h m size : Nat} {K : Value → Prop} (hv : lowVC l x A h m size K) :
    ∃ j, K (.slice (if m = j then A else A.map (·.add (j * size))) (h - j) (m - j)) ∧ OptB ρ x h 0 j := by
  unfold lowVC at hv
  cases x with
  | none =>
    refine ⟨0, ?_, rfl⟩
    have : (if m = 0 then A else A.map (·.add (0 * size))) = A := by
      split
      · rfl
      · cases A <;> simp [Addr.add]
    rw [this]
    exact hv
  | some x =>
    simp only [] at hv
    split at hv
    · rename_i hx
      exact ⟨_, hv.k.out.out, _, _, hρ _ _ hx, hv.h.1, hv.h.2, rfl⟩
    · exact hv.elim

theorem run_sliceBounds (isS : Bool) {len cap : Nat} {lo hi mx : Option Operand} (hne : ¬ (hi = none ∧ mx.isSome)) {m h j : Nat}
    (hm : OptB ρ mx cap cap m) (hh : OptB ρ hi m len h) (hj : OptB ρ lo h 0 j) (w : World) :
    (Instr.sliceBounds isS len cap (lo.map ρ) (hi.map ρ) (mx.map ρ)).run P w = .ok (j, h, m) w := by
  unfold Instr.sliceBounds
  unfold OptB at hm hh hj
  cases mx with
  | none =>
    subst hm
    cases hi with
    | none =>
      subst hh
      cases lo with
      | none => subst hj; simp
      | some x => obtain ⟨k, z, e, h0, h1, rfl⟩ := hj; simp [e, run_bound k h0 h1]
    | some y =>
      obtain ⟨k, z, e, h0, h1, rfl⟩ := hh
      cases lo with
      | none => subst hj; simp [e, run_bound k h0 h1]
      | some x => obtain ⟨k', z', e', h0', h1', rfl⟩ := hj; simp [e, run_bound k h0 h1, e', run_bound k' h0' h1']
  | some x =>
    obtain ⟨k, z, e, h0, h1, rfl⟩ := hm
    cases hi with
    | none => exact absurd ⟨rfl, rfl⟩ hne
    | some y =>
      obtain ⟨k2, z2, e2, h02, h12, rfl⟩ := hh
      cases lo with
      | none => subst hj; simp [e, run_bound k h0 h1, e2, run_bound k2 h02 h12]
      | some x => obtain ⟨k', z', e', h0', h1', rfl⟩ := hj; simp [e, run_bound k h0 h1, e2, run_bound k2 h02 h12, e', run_bound k' h0' h1']

theorem evparts_sound (hρ : Agree l ρ) : ∀ {ps : List (Nat × Operand)} {vs : List (Nat × Value)}, evparts l ps = some vs → ps.map (fun p => (p.1, ρ p.2)) = vs
  | [], vs, h => by simpa [evparts] using h
  | (i, x) :: r, vs, h => by
    unfold evparts at h
    cases h1 : evl l x with
    | none => simp [h1] at h
    | some v =>
      cases h2 : evparts l r with
      | none => simp [h1, h2] at h
      | some us =>
        simp [h1, h2] at h
        subst h
        simp [hρ _ _ h1, evparts_sound hρ h2]

theorem places_sound (hT : TabOk P tab) (f : List Field) (hall : allIn tab (f.map (fun f => (f.offset, f.type))) = true) (w : World) :
    ∃ pl : List (Nat × Nat), (f.mapM fun f => (do pure (f.offset, ← sizeOf f.type) : Sem (Nat × Nat))).run P w = .ok pl w ∧
      (∀ i, pl[i]? = structPlace tab (f.map (fun f => (f.offset, f.type))) i) := by
  induction f with
  | nil => exact ⟨[], rfl, fun i => by simp [structPlace, nth]⟩
  | cons x r ih =>
    simp only [List.map_cons, allIn] at hall
    cases hx : tlook x.type tab with
    | none => simp [hx] at hall
    | some ti =>
      simp only [hx] at hall
      obtain ⟨pl, h1, h2⟩ := ih hall
      refine ⟨(x.offset, ti.size) :: pl, ?_, fun i => ?_⟩
      · simp only [List.mapM_cons, Sem.run_bind, (hT _ _ hx).run_size, Result.andThen_ok, Sem.run_pure]
        rw [h1]
        rfl
      · cases i with
        | zero => simp [structPlace, nth, hx]
        | succ i =>
          have := h2 i
          simp only [structPlace, List.map_cons, nth] at this ⊢
          simpa using this
end

end Go.Proofs.YtmcdcfbhpdacfaaDoor.Sx
/-
  The conditions of an operation that reads memory at most are sound: the theorem.
-/

namespace Go.Proofs.YtmcdcfbhpdacfaaDoor.Sx

open Go

set_option linter.unusedVariables false

set_option linter.unusedSimpArgs false

section

variable {P : Program} {tab : Tab} {l : Env} {ρ : Operand → Value}

/-- The operation's value, the same in every later world that the mode asks of. -/
def RdOk (P : Program) (m : Md) (ρ : Operand → Value) (o : Oper) (w : World) (K : Value → Prop) : Prop :=
  ∃ v, m.R w (fun w' => (execOp ρ o).run P w' = .ok (.value v) w') ∧ K v
theorem RdOk.const {m : Md} {o : Oper} {w : World} {K : Value → Prop} {v : Value} (h : ∀ w', (execOp ρ o).run P w' = .ok (.value v) w') (k : K v) : RdOk P m ρ o w K := ⟨v, Md.R_all h, k⟩
theorem RdOk.sem {m : Md} {o : Oper} {w : World} {K : Value → Prop} {v : Value} {s : Sem Value} (he : execOp ρ o = (do pure (Next.value (← s)) : Sem Next)) (h : ∀ w', s.run P w' = .ok v w') (k : K v) : RdOk P m ρ o w K :=
  .const (fun w' => by rw [he]; simp [h w']) k

theorem slice_sound (hT : TabOk P tab) (hρ : Agree l ρ) {t e : Nat} {ti ei : TI} (ht : P.underlying t = some (.slice e)) (hei : TIok P e ei) {A : Option Addr} {n c : Nat} {lo hi mx : Option Operand} {K : Value → Prop}
    (hne : ¬ (hi = none ∧ mx.isSome)) (h : boundVC l mx c c fun m => boundVC l hi m n fun h => lowVC l lo A h m ei.size K) :
    ∃ v, (∀ w, (Instr.sliceAt t (.slice A n c) (lo.map ρ) (hi.map ρ) (mx.map ρ)).run P w = .ok v w) ∧ K v := by
  obtain ⟨m, h1, hm⟩ := bound_sound hρ h
  obtain ⟨hh, h2, hhh⟩ := bound_sound hρ h1
  obtain ⟨j, h3, hj⟩ := low_sound hρ h2
  refine ⟨_, fun w => ?_, h3⟩
  have hb := run_sliceBounds (P := P) (ρ := ρ) true (len := n) (cap := c) hne hm hhh hj w
  simp [Instr.sliceAt, Instr.slice, run_underlying ht, hb, hei.run_size]

theorem sliceArr_sound (hT : TabOk P tab) (hρ : Agree l ρ) {t e N : Nat} {ei : TI} (ht : P.underlying t = some (.array N e)) (hei : TIok P e ei) {b off : Nat} {lo hi mx : Option Operand} {K : Value → Prop}
    (hne : ¬ (hi = none ∧ mx.isSome)) (h : boundVC l mx N N fun m => boundVC l hi m N fun h => lowVC l lo (some ⟨b, off, none⟩) h m ei.size K) :
    ∃ v, (∀ w, (Instr.sliceAt t (.pointer (some ⟨b, off, none⟩)) (lo.map ρ) (hi.map ρ) (mx.map ρ)).run P w = .ok v w) ∧ K v := by
  obtain ⟨m, h1, hm⟩ := bound_sound hρ h
  obtain ⟨hh, h2, hhh⟩ := bound_sound hρ h1
  obtain ⟨j, h3, hj⟩ := low_sound hρ h2
  refine ⟨_, fun w => ?_, h3⟩
  have hb := run_sliceBounds (P := P) (ρ := ρ) false (len := N) (cap := N) hne hm hhh hj w
  simp only [Instr.sliceAt, Sem.run_bind, run_underlying ht, Result.andThen_ok, Instr.sureAddr, pure_bind, hb, hei.run_size, Sem.run_pure, Option.map_some]
  split <;> rfl

theorem sliceStr_sound (hT : TabOk P tab) (hρ : Agree l ρ) {t : Nat} (ht : P.underlying t = some .string) {s : ByteArray} {lo hi : Option Operand} {K : Value → Prop}
    (h : boundVC l hi s.size s.size fun h => boundVC l lo h 0 fun j => Ev (s.extract j h) fun z => K (.string z)) :
    ∃ v, (∀ w, (Instr.sliceAt t (.string s) (lo.map ρ) (hi.map ρ) none).run P w = .ok v w) ∧ K v := by
  obtain ⟨hh, h2, hhh⟩ := bound_sound hρ h
  obtain ⟨j, h3, hj⟩ := bound_sound hρ h2
  refine ⟨_, fun w => ?_, h3.out⟩
  have hb := run_sliceBounds (P := P) (ρ := ρ) false (len := s.size) (cap := s.size) (lo := lo) (hi := hi) (mx := none) (by simp) rfl hhh hj w
  simp only [Option.map_none] at hb
  simp [Instr.sliceAt, Instr.slice, run_underlying ht, hb]

theorem ix_sound {t e : Nat} {ei : TI} {A : Option Addr} {n c : Nat} {k : IntKind} {j : Int} {K : Value → Prop} (ht : P.underlying t = some (.slice e)) (hei : TIok P e ei) (h : Ix A n j ei.size K) :
    ∃ v, (∀ w, (Instr.indexAt t (.slice A n c) (.int k j)).run P w = .ok v w) ∧ K v := by
  obtain ⟨b, o, rfl, hj, hk⟩ := h.out
  exact ⟨_, fun w => by simp [Instr.indexAt, asIntOf, run_underlying ht, hj.1, hj.2, hei.run_size, add_none], hk⟩
theorem ixArr_sound {t e n : Nat} {ei : TI} {b off : Nat} {k : IntKind} {j : Int} {K : Value → Prop} (ht : P.underlying t = some (.array n e)) (hei : TIok P e ei) (h : Ix (some ⟨b, off, none⟩) n j ei.size K) :
    ∃ v, (∀ w, (Instr.indexAt t (.pointer (some ⟨b, off, none⟩)) (.int k j)).run P w = .ok v w) ∧ K v := by
  obtain ⟨b', o', he, hj, hk⟩ := h.out
  injection he with he
  injection he with e1 e2 _
  subst e1 e2
  exact ⟨_, fun w => by simp [Instr.indexAt, asIntOf, run_underlying ht, hj.1, hj.2, hei.run_size, add_none, Instr.sureAddr], hk⟩

theorem build_struct (hT : TabOk P tab) {t sz by_ : Nat} {fs : List (Nat × Nat)} {z : Value} (ht : TIok P t ⟨.struct fs, sz, by_, z⟩) (ha : allIn tab fs = true) {vs : List (Nat × Value)} {K : List Value → Prop}
    (h : fillVC (structPlace tab fs) (vcells z) vs K) : ∃ cs, (∀ w, (Instr.build t vs.toArray).run P w = .ok (.agg cs.toArray) w) ∧ K cs := by
  obtain ⟨f, h1, h2⟩ := ht.struct
  obtain ⟨cs, h3, h4⟩ := fill_sound vs (vcells z) h
  refine ⟨cs, fun w => ?_, h4⟩
  obtain ⟨fl⟩ := f
  simp only at h2
  subst h2
  obtain ⟨pl, h5, h6⟩ := places_sound hT fl ha w
  have hz : z.cells = (vcells z).toArray := by rw [← vcells_eq]
  simp only [Instr.build, Sem.run_bind, ht.run_zero, Result.andThen_ok, run_underlying h1, List.mapM_toArray, Sem.run_map, h5]
  have hp : (fun i => pl.toArray[i]?) = structPlace tab (fl.map (fun f => (f.offset, f.type))) := by
    funext i
    rw [← h6 i]
    simp
  simp only [hp, hz, h3, List.toList_toArray]
  rfl
theorem build_array (hT : TabOk P tab) {t sz by_ n e : Nat} {ei : TI} {z : Value} (ht : TIok P t ⟨.array n e, sz, by_, z⟩) (hei : TIok P e ei) {vs : List (Nat × Value)} {K : List Value → Prop}
    (h : fillVC (fun i => some (i * ei.size, ei.size)) (vcells z) vs K) : ∃ cs, (∀ w, (Instr.build t vs.toArray).run P w = .ok (.agg cs.toArray) w) ∧ K cs := by
  obtain ⟨cs, h3, h4⟩ := fill_sound vs (vcells z) h
  refine ⟨cs, fun w => ?_, h4⟩
  have hz : z.cells = (vcells z).toArray := by rw [← vcells_eq]
  simp only [Instr.build, Sem.run_bind, ht.run_zero, Result.andThen_ok, run_underlying ht.array, hei.run_size, hz, h3, List.toList_toArray]
  rfl

theorem load_one {t : Nat} {ti : TI} (ht : TIok P t ti) (ha : isAggT ti.ty = false) {w : World} {a : Addr} {v : Value} (h : w.cell? a = some v) :
    (Instr.loadAt t (.pointer (some a))).run P w = .ok v w := by
  simp [Instr.loadAt, Instr.sureAddr, loadVar, ht.run_agg, ha, h]
theorem load_agg {t : Nat} {ti : TI} (ht : TIok P t ti) (ha : isAggT ti.ty = true) {w : World} {b off : Nat} {cs : List Value} (hl : cs.length = ti.size)
    (h : ∀ i (h : i < cs.length), w.cell? ⟨b, off + i, none⟩ = some cs[i]) : (Instr.loadAt t (.pointer (some ⟨b, off, none⟩))).run P w = .ok (.agg cs.toArray) w := by
  have := run_loadCells_list (P := P) w ⟨b, off, none⟩ cs (fun j v hj => by
    obtain ⟨h1, h2⟩ := List.getElem?_eq_some_iff.1 hj
    rw [add_none, h j h1, h2])
  rw [hl] at this
  simp [Instr.loadAt, Instr.sureAddr, loadVar, ht.run_agg, ha, ht.run_size, this]

theorem fieldAt_sound (hT : TabOk P tab) {s sz by_ : Nat} {fs : List (Nat × Nat)} {z : Value} (hs : TIok P s ⟨.struct fs, sz, by_, z⟩) {f fo size : Nat} (hp : structPlace tab fs f = some (fo, size)) (hz : Nat.beq size 0 = false) (b off : Nat) (w : World) :
    (Instr.fieldAt s (.pointer (some ⟨b, off, none⟩)) f).run P w = .ok (.pointer (some ⟨b, off + fo, none⟩)) w := by
  obtain ⟨fl, h1, h2⟩ := hs.struct
  unfold structPlace at hp
  split at hp
  · cases hp
  · rename_i o ft hn
    split at hp
    · cases hp
    · rename_i fi hfi
      simp only [Option.some.injEq, Prod.mk.injEq] at hp
      obtain ⟨rfl, rfl⟩ := hp
      rw [nth_eq, ← h2] at hn
      simp only [List.getElem?_map, Option.map_eq_some_iff] at hn
      obtain ⟨fd, hfd, he⟩ := hn
      simp only [Prod.mk.injEq] at he
      have hfd' : fl[f]? = some fd := by simpa using hfd
      have hne : ¬ fi.size = 0 := fun e => by rw [e] at hz; simp at hz
      have hsz := (hT _ _ hfi).run_size w
      rw [← he.2] at hsz
      simp [Instr.fieldAt, run_underlying h1, hfd', Instr.sureAddr, fieldPlace, hsz, hne, add_none, he.1]

theorem field_sound (hT : TabOk P tab) {s sz by_ : Nat} {fs : List (Nat × Nat)} {z : Value} (hs : TIok P s ⟨.struct fs, sz, by_, z⟩) {f fo ft : Nat} {fi : TI} (hn : nth f fs = some (fo, ft)) (hfi : tlook ft tab = some fi) {cs : Array Value} {K : Value → Prop}
    (h : partVC fi cs.toList fo K) : ∃ v, (∀ w, (Instr.field s (.agg cs) f).run P w = .ok v w) ∧ K v := by
  obtain ⟨fl, h1, h2⟩ := hs.struct
  rw [nth_eq, ← h2] at hn
  simp only [List.getElem?_map, Option.map_eq_some_iff] at hn
  obtain ⟨fd, hfd, he⟩ := hn
  simp only [Prod.mk.injEq] at he
  have hfd' : fl[f]? = some fd := by simpa using hfd
  obtain ⟨v, hv, hk⟩ := part_sound (hT _ _ hfi) h
  exact ⟨v, fun w => by simp [Instr.field, run_underlying h1, hfd', asAgg, he.1, he.2, hv], hk⟩

theorem index_arr {t n e : Nat} {ei : TI} (ht : P.underlying t = some (.array n e)) (hei : TIok P e ei) {cs : Array Value} {k : IntKind} {j : Int} {K : Value → Prop} (h : Nd (0 ≤ j ∧ j < (n : Int)) (match isAggT ei.ty with
        | true => Ev ((cs.toList.drop (j.toNat * ei.size)).take ei.size) fun l => K (.agg l.toArray)
        | false => ∃ v, cs.toList[j.toNat * ei.size]? = some v ∧ K v)) : ∃ v, (∀ w, (Instr.index t (.agg cs) (.int k j)).run P w = .ok v w) ∧ K v := by
  have hp : partVC ei cs.toList (j.toNat * ei.size) K := by
    unfold partVC
    have := h.k
    cases hg : isAggT ei.ty with
    | true => rw [hg] at this; exact this
    | false =>
      rw [hg] at this
      obtain ⟨v, h1, h2⟩ := this
      simp only [nth_eq, h1]
      exact h2
  obtain ⟨v, hv, hk⟩ := part_sound hei hp
  exact ⟨v, fun w => by simp [Instr.index, asIntOf, run_underlying ht, h.h.1, h.h.2, hei.run_size, hv], hk⟩
theorem index_str {t : Nat} (ht : P.underlying t = some .string) {s : ByteArray} {k : IntKind} {j : Int} (h0 : 0 ≤ j) (h1 : j < (s.size : Int)) (w : World) :
    (Instr.index t (.string s) (.int k j)).run P w = .ok (.int .u8 ((s.data.toList[j.toNat]?.getD 0).toNat : Int)) w := by
  have hlt : j.toNat < s.size := by omega
  have e1 : s[j.toNat]? = some s[j.toNat] := by simp [hlt]
  have e2 : s.data.toList[j.toNat]?.getD 0 = s[j.toNat] := by
    have : j.toNat < s.data.toList.length := by simpa using hlt
    rw [List.getElem?_eq_getElem this]
    rfl
  rw [e2]
  simp [Instr.index, asIntOf, run_underlying ht, h0, e1]

theorem rd_sound (hT : TabOk P tab) {m : Md} {o : Oper} {w : World} {K : Value → Prop} (hρ : Agree l ρ) (h : rdVC P tab m l o w K) : RdOk P m ρ o w K := by
  obtain ⟨dst, op, type, pos, after, guard⟩ := o
  cases op with
  | move x =>
    simp only [rdVC] at h
    split at h
    · rename_i v hv; exact .const (fun w' => by simp [execOp, hρ _ _ hv]) h
    · exact h.elim
  | assign x =>
    simp only [rdVC] at h
    split at h
    · rename_i v hv; exact .const (fun w' => by simp [execOp, hρ _ _ hv]) h
    · exact h.elim
  | pick c a b =>
    simp only [rdVC] at h
    split at h
    · rename_i hc
      split at h
      · rename_i v hv; exact .const (fun w' => by simp [execOp, hρ _ _ hc, hρ _ _ hv, asBool]) h
      · exact h.elim
    · rename_i hc
      split at h
      · rename_i v hv; exact .const (fun w' => by simp [execOp, hρ _ _ hc, hρ _ _ hv, asBool]) h
      · exact h.elim
    · exact h.elim
  | nilCheck x =>
    simp only [rdVC] at h
    split at h
    · rename_i a hx; exact .const (fun w' => by simp [execOp, hρ _ _ hx]) h
    · rename_i f fi ca hx; exact .const (fun w' => by simp [execOp, hρ _ _ hx]) h
    · exact h.elim
  | binOp op t x y yt =>
    simp only [rdVC] at h
    split at h
    · rename_i a hx
      split at h
      · rename_i b hy
        obtain ⟨v, h1, h2⟩ := bin_sound hT h
        exact .sem (s := do eqGuard op t x y a b; binOp op t a b) (by simp [execOp, hρ _ _ hx, hρ _ _ hy]) (fun w' => h1 x y w') h2
      · exact h.elim
    · exact h.elim
  | unOp op t x =>
    simp only [rdVC] at h
    split at h
    · rename_i a hx
      obtain ⟨v, h1, h2⟩ := un_sound (P := P) h
      exact .sem (by simp [execOp, hρ _ _ hx]) h1 h2
    · exact h.elim
  | convert s d x =>
    simp only [rdVC] at h
    split at h
    · rename_i si k _ _ _ _ n hs hd hx
      obtain ⟨ds, hds, _⟩ := (hT _ _ hs).und
      refine .sem (s := convert s d (ρ x)) (by simp [execOp]) (fun w' => ?_) h.out
      simp [hρ _ _ hx, convert, run_underlying hds, run_underlying (hT _ _ hd).int, Conv.intToInt]
    · rename_i si _ _ _ b hs hd hx
      obtain ⟨ds, hds, _⟩ := (hT _ _ hs).und
      refine .sem (s := convert s d (ρ x)) (by simp [execOp]) (fun w' => ?_) h
      simp [hρ _ _ hx, convert, run_underlying hds, run_underlying (hT _ _ hd).string]
    · rename_i e _ _ _ _ _ _ A n c hs hd hx
      split at h
      · rename_i he
        obtain ⟨bs, hl, hr, hk⟩ := h.out
        refine ⟨_, Md.R_mono hr fun w' hb => ?_, hk⟩
        subst hl
        simp [execOp, hρ _ _ hx, run_bytes (hT _ _ hs).slice (hT _ _ he).int (hT _ _ hd).string hb c]
      · exact h.elim
    · exact h.elim
  | makeFunc fn fi ca =>
    simp only [rdVC] at h
    split at h
    · rename_i f hf
      split at h
      · rename_i c hc
        have e1 : fi.map ρ = f.toArray := by exact Array.ext' (by rw [Array.toList_map, hρ.evls hf])
        have e2 : ca.map ρ = c.toArray := by exact Array.ext' (by rw [Array.toList_map, hρ.evls hc])
        exact .const (fun w' => by simp [execOp, Instr.makeFunc, e1, e2]) h
      · exact h.elim
    · exact h.elim
  | load t x =>
    simp only [rdVC] at h
    split at h
    · rename_i ti b off ht hx
      split at h
      · rename_i ha
        obtain ⟨cs, hl, hr, hk⟩ := h.out
        refine ⟨_, Md.R_mono hr fun w' hc => ?_, hk⟩
        simp [execOp, hρ _ _ hx, load_agg (hT _ _ ht) ha hl hc]
      · rename_i ha
        obtain ⟨v, hr, hk⟩ := h.out
        refine ⟨_, Md.R_mono hr fun w' hc => ?_, hk⟩
        simp [execOp, hρ _ _ hx, load_one (hT _ _ ht) ha hc]
    · exact h.elim
  | fieldAddr s x f =>
    simp only [rdVC] at h
    split at h
    · rename_i fs _ _ _ b off hs hx
      split at h
      · rename_i fo size hp
        split at h
        · rename_i hz
          exact .sem (s := Instr.fieldAt s (ρ x) f) (by simp [execOp]) (fun w' => by rw [hρ _ _ hx]; exact fieldAt_sound hT (hT _ _ hs) hp hz b off w') h
        · exact h.elim
      · exact h.elim
    · exact h.elim
  | field s x f =>
    simp only [rdVC] at h
    split at h
    · rename_i fs _ _ _ cs hs hx
      split at h
      · rename_i fo ft hn
        split at h
        · rename_i fi hfi
          obtain ⟨v, h1, h2⟩ := field_sound hT (hT _ _ hs) hn hfi h
          exact .sem (s := Instr.field s (ρ x) f) (by simp [execOp]) (fun w' => by rw [hρ _ _ hx]; exact h1 w') h2
        · exact h.elim
      · exact h.elim
    · exact h.elim
  | indexAddr t x i =>
    simp only [rdVC] at h
    split at h
    · rename_i e _ _ _ A n c k j ht hx hi
      split at h
      · rename_i ei he
        obtain ⟨v, h1, h2⟩ := ix_sound (c := c) (k := k) (hT _ _ ht).slice (hT _ _ he) (ix_of h)
        exact .sem (s := Instr.indexAt t (ρ x) (ρ i)) (by simp [execOp]) (fun w' => by rw [hρ _ _ hx, hρ _ _ hi]; exact h1 w') h2
      · exact h.elim
    · rename_i n e _ _ _ b off k j ht hx hi
      split at h
      · rename_i ei he
        obtain ⟨v, h1, h2⟩ := ixArr_sound (k := k) (hT _ _ ht).array (hT _ _ he) (ix_of h)
        exact .sem (s := Instr.indexAt t (ρ x) (ρ i)) (by simp [execOp]) (fun w' => by rw [hρ _ _ hx, hρ _ _ hi]; exact h1 w') h2
      · exact h.elim
    · exact h.elim
  | index t x i =>
    simp only [rdVC] at h
    split at h
    · rename_i n e _ _ _ cs k j ht hx hi
      split at h
      · rename_i ei he
        obtain ⟨v, h1, h2⟩ := index_arr (k := k) (hT _ _ ht).array (hT _ _ he) h
        exact .sem (s := Instr.index t (ρ x) (ρ i)) (by simp [execOp]) (fun w' => by rw [hρ _ _ hx, hρ _ _ hi]; exact h1 w') h2
      · exact h.elim
    · rename_i _ _ _ s k j ht hx hi
      exact .sem (s := Instr.index t (ρ x) (ρ i)) (by simp [execOp]) (fun w' => by rw [hρ _ _ hx, hρ _ _ hi]; exact index_str (hT _ _ ht).string h.h.1 h.h.2 w') h.k.out
    · exact h.elim
  | slice t x lo hi mx =>
    simp only [rdVC] at h
    split at h
    · rename_i e _ _ _ A n c ht hx
      split at h
      · rename_i ei he
        have hne : ¬ (hi = none ∧ mx.isSome) := by
          rintro ⟨rfl, h2⟩
          cases mx with
          | none => simp at h2
          | some y => exact (show False from h)
        have h' : boundVC l mx c c fun m => boundVC l hi m n fun h => lowVC l lo A h m ei.size K := by
          split at h
          · exact h.elim
          · exact h
        obtain ⟨v, h1, h2⟩ := slice_sound hT hρ (ti := ei) (hT _ _ ht).slice (hT _ _ he) hne h'
        exact .sem (s := Instr.sliceAt t (ρ x) (lo.map ρ) (hi.map ρ) (mx.map ρ)) (by simp [execOp]) (fun w' => by rw [hρ _ _ hx]; exact h1 w') h2
      · exact h.elim
    · rename_i n e _ _ _ b off ht hx
      split at h
      · rename_i ei he
        have hne : ¬ (hi = none ∧ mx.isSome) := by
          rintro ⟨rfl, h2⟩
          cases mx with
          | none => simp at h2
          | some y => exact (show False from h)
        have h' : boundVC l mx n n fun m => boundVC l hi m n fun h => lowVC l lo (some ⟨b, off, none⟩) h m ei.size K := by
          split at h
          · exact h.elim
          · exact h
        obtain ⟨v, h1, h2⟩ := sliceArr_sound hT hρ (hT _ _ ht).array (hT _ _ he) hne h'
        exact .sem (s := Instr.sliceAt t (ρ x) (lo.map ρ) (hi.map ρ) (mx.map ρ)) (by simp [execOp]) (fun w' => by rw [hρ _ _ hx]; exact h1 w') h2
      · exact h.elim
    · rename_i _ _ _ s ht hx
      split at h
      · exact h.elim
      · obtain ⟨v, h1, h2⟩ := sliceStr_sound hT hρ (hT _ _ ht).string h
        exact .sem (s := Instr.sliceAt t (ρ x) (lo.map ρ) (hi.map ρ) none) (by simp [execOp]) (fun w' => by rw [hρ _ _ hx]; exact h1 w') h2
    · exact h.elim
  | extract x i =>
    simp only [rdVC] at h
    split at h
    · rename_i vs hx
      split at h
      · rename_i v hv
        rw [nth_eq] at hv
        have hv' : vs[i]? = some v := by simpa using hv
        exact .const (fun w' => by simp [execOp, hρ _ _ hx, Instr.extract, hv']) h
      · exact h.elim
    · exact h.elim
  | build t ps =>
    simp only [rdVC] at h
    split at h
    · rename_i fs _ _ z vs ht hp
      split at h
      · rename_i ha
        obtain ⟨cs, h1, h2⟩ := build_struct hT (hT _ _ ht) ha h
        refine .sem (s := Instr.build t (ps.map fun (i, x) => (i, ρ x))) (by simp [execOp]) (fun w' => ?_) h2
        have : (ps.map fun (i, x) => (i, ρ x)) = vs.toArray := by rw [← evparts_sound hρ hp]; apply Array.ext'; simp
        rw [this]
        exact h1 w'
      · exact h.elim
    · rename_i n e _ _ z vs ht hp
      split at h
      · rename_i ei he
        obtain ⟨cs, h1, h2⟩ := build_array hT (hT _ _ ht) (hT _ _ he) h
        refine .sem (s := Instr.build t (ps.map fun (i, x) => (i, ρ x))) (by simp [execOp]) (fun w' => ?_) h2
        have : (ps.map fun (i, x) => (i, ρ x)) = vs.toArray := by rw [← evparts_sound hρ hp]; apply Array.ext'; simp
        rw [this]
        exact h1 w'
      · exact h.elim
    · exact h.elim
  | call c =>
    obtain ⟨callee, args, argTypes⟩ := c
    obtain ⟨args⟩ := args
    obtain ⟨argTypes⟩ := argTypes
    simp only [rdVC] at h
    split at h
    · rename_i x t
      split at h
      · rename_i ht hx
        exact .const (fun w' => by simp [execOp, resolve, invoke, builtin, Builtin.len_, hρ _ _ hx, run_underlying (hT _ _ ht).slice, goInt]) h
      · rename_i ht hx
        exact .const (fun w' => by simp [execOp, resolve, invoke, builtin, Builtin.len_, hρ _ _ hx, run_underlying (hT _ _ ht).string, goInt]) h
      · rename_i ht hx
        exact .const (fun w' => by simp [execOp, resolve, invoke, builtin, Builtin.len_, run_underlying (hT _ _ ht).array, goInt]) h
      · exact h.elim
    · rename_i x t
      split at h
      · rename_i ht hx
        exact .const (fun w' => by simp [execOp, resolve, invoke, builtin, Builtin.cap_, hρ _ _ hx, run_underlying (hT _ _ ht).slice, goInt]) h
      · exact h.elim
    · split at h
      · rename_i hx hy
        exact .const (fun w' => by simp [execOp, resolve, invoke, builtin, Builtin.min_, Builtin.min2, hρ _ _ hx, hρ _ _ hy]) h.out
      · exact h.elim
    · split at h
      · rename_i hx hy
        exact .const (fun w' => by simp [execOp, resolve, invoke, builtin, Builtin.max_, Builtin.max2, hρ _ _ hx, hρ _ _ hy]) h.out
      · exact h.elim
    · exact h.elim
  | _ => exact h.elim
end

end Go.Proofs.YtmcdcfbhpdacfaaDoor.Sx
/-
  What is to be shown of an operation that makes or writes memory, or calls; that it suffices.
-/

namespace Go.Proofs.YtmcdcfbhpdacfaaDoor.Sx

open Go

set_option linter.unusedVariables false

set_option linter.unusedSimpArgs false

def At (w : World) (b : Nat) (cs : List Value) (t : Nat) (fr : Nat × Nat) : Prop := w.heap[b]? = some (.cells cs.toArray t fr)
theorem At.cell {w : World} {b : Nat} {cs : List Value} {t : Nat} {fr : Nat × Nat} (h : At w b cs t fr) {i : Nat} {v : Value} (hi : cs[i]? = some v) : w.cell? ⟨b, i, none⟩ = some v := by
  unfold At at h
  simp [World.cell?, h, hi]
theorem At.lt {w : World} {b : Nat} {cs : List Value} {t : Nat} {fr : Nat × Nat} (h : At w b cs t fr) : b < w.heap.size := (Array.getElem?_eq_some_iff.1 h).1
theorem At.ext {w w' : World} {b : Nat} {cs : List Value} {t : Nat} {fr : Nat × Nat} {S : Nat → Prop} (h : At w b cs t fr) (he : Ext S w w') (hS : ¬ S b) : At w' b cs t fr := by
  have h1 := he.blk b h.lt hS
  unfold At at *
  rw [h1]
  exact h
/-- A block that was not there. -/
structure New (w w' : World) (b : Nat) (cs : List Value) (t : Nat) (fr : Nat × Nat) : Prop where
  ext : Ext Non w w'
  ge : w.heap.size ≤ b
  at_ : At w' b cs t fr
theorem New.alloc (w : World) (cs : List Value) (t : Nat) : New w (w.alloc (.cells cs.toArray t)) w.heap.size cs t (0, 0) :=
  ⟨Ext.alloc _ _ _, Nat.le_refl _, heap_alloc_new w _⟩
theorem At.set {w : World} {b : Nat} {cs : List Value} {t : Nat} {fr : Nat × Nat} (h : At w b cs t fr) (off : Nat) (v : Value) : At (w.setCell ⟨b, off, none⟩ v) b (cs.set off v) t fr := by
  unfold At at *
  simp [World.setCell, Array.getElem?_modify, h]
theorem At.frozen {w : World} {b : Nat} {cs : List Value} {t : Nat} {fr : Nat × Nat} (h : At w b cs t fr) {off : Nat} (hf : ¬ (fr.1 ≤ off ∧ off < fr.2)) : w.frozen? ⟨b, off, none⟩ = false := by
  unfold At at h
  obtain ⟨lo, hi⟩ := fr
  simp only [World.frozen?, h]
  simpa using hf

structure Al (w : World) (cs : List Value) (t : Nat) (K : Nat → World → Prop) : Prop where mk ::
  out : ∀ b w', New w w' b cs t (0, 0) → K b w'
def Md.wr (m : Md) (b : Nat) : Prop := match m with
  | .plain => True
  | .any S => S b
theorem Md.W_ext {m : Md} {w w' : World} (h : Ext Non w w') : m.W w w' := by
  cases m
  · trivial
  · exact h.mono fun _ x => x.elim
theorem Md.W_one {m : Md} {w w' : World} {b : Nat} (h : Ext (· = b) w w') (hb : m.wr b) : m.W w w' := by
  cases m
  · trivial
  · exact h.mono fun i x => by rw [x]; exact hb
/-- A store of one cell. -/
structure St1 (m : Md) (w : World) (b off : Nat) (v : Value) (K : World → Prop) : Prop where mk' ::
  out : ∃ cs t fr, At w b cs t fr ∧ off < cs.length ∧ ¬ (fr.1 ≤ off ∧ off < fr.2) ∧ m.wr b ∧ ∀ w', At w' b (cs.set off v) t fr → Ext (· = b) w w' → K w'
theorem St1.mk {m : Md} {w : World} {b off : Nat} {v : Value} {K : World → Prop} {cs : List Value} {t : Nat} {fr : Nat × Nat} (h : At w b cs t fr) (hl : off < cs.length) (hf : ¬ (fr.1 ≤ off ∧ off < fr.2)) (hm : m.wr b)
    (k : ∀ w', At w' b (cs.set off v) t fr → Ext (· = b) w w' → K w') : St1 m w b off v K := ⟨cs, t, fr, h, hl, hf, hm, k⟩
/-- A store of several cells. -/
structure StA (m : Md) (w : World) (b off : Nat) (vs : List Value) (K : World → Prop) : Prop where mk' ::
  out : ∃ cs t fr, At w b cs t fr ∧ off + vs.length ≤ cs.length ∧ (fr.2 ≤ off ∨ off + vs.length ≤ fr.1) ∧ (∀ v ∈ vs, v.oneCell' = true) ∧ m.wr b ∧ ∀ w', At w' b (ov cs off vs) t fr → Ext (· = b) w w' → K w'
theorem StA.mk {m : Md} {w : World} {b off : Nat} {vs : List Value} {K : World → Prop} {cs : List Value} {t : Nat} {fr : Nat × Nat} (h : At w b cs t fr) (hl : off + vs.length ≤ cs.length) (hf : fr.2 ≤ off ∨ off + vs.length ≤ fr.1)
    (h1 : ∀ v ∈ vs, v.oneCell' = true) (hm : m.wr b) (k : ∀ w', At w' b (ov cs off vs) t fr → Ext (· = b) w w' → K w') : StA m w b off vs K := ⟨cs, t, fr, h, hl, hf, h1, hm, k⟩
structure Run (P : Program) (m : Md) (w : World) (s : Sem Value) (K : Value → World → Prop) : Prop where mk ::
  out : ∃ v w', s.run P w = .ok v w' ∧ m.W w w' ∧ K v w'
structure Cl (P : Program) (m : Md) (f : FuncId) (args : List Value) (w : World) (K : Value → World → Prop) : Prop where mk' ::
  out : Calls P f args.toArray w fun e w' => ∃ v, e = .returned v ∧ m.W w w' ∧ K v w'
theorem Cl.mk {P : Program} {f : FuncId} {args : List Value} {w : World} {K : Value → World → Prop} {Post : Value → World → Prop} (c : Ret P f args.toArray w Post) (k : ∀ v w', Post v w' → K v w') : Cl P .plain f args w K :=
  ⟨Calls.mono c fun e w' ⟨v, he, hp⟩ => ⟨v, he, trivial, k v w' hp⟩⟩
theorem Cl.dr {P : Program} {S : Nat → Prop} {f : FuncId} {args : List Value} {w : World} {K : Value → World → Prop} {Post : Value → World → Prop} (c : Ret P f args.toArray w Post) (hx : ∀ v w', Post v w' → Ext S w w')
    (k : ∀ v w', Post v w' → K v w') : Cl P (.any S) f args w K :=
  ⟨Calls.mono c fun e w' ⟨v, he, hp⟩ => ⟨v, he, hx v w' hp, k v w' hp⟩⟩

def zrep (z : Value) (n : Nat) : List Value := (List.replicate n (vcells z)).flatten
/-- Functions lo, .., hi - 1 can be called. -/
def Fns (P : Program) (lo hi : Nat) : Prop := ∀ f, lo ≤ f → f < hi → ∃ fn, P.funcs[f]? = some fn ∧ fn.body.isSome = true ∧ (fn.name == "runtime.NumGoroutine") = false
def fnB (P : Program) (f : Nat) : Bool := match P.funcs[f]? with
  | some fn => fn.body.isSome && !(fn.name == "runtime.NumGoroutine")
  | none => false
theorem Fns.of {P : Program} {lo hi : Nat} (h : ((List.range hi).drop lo).all (fnB P) = true) : Fns P lo hi := by
  intro f h1 h2
  rw [List.all_eq_true] at h
  have := h f (by
    rw [List.mem_iff_getElem?]
    refine ⟨f - lo, ?_⟩
    rw [List.getElem?_drop, List.getElem?_range (by omega)]
    congr 1
    omega)
  unfold fnB at this
  split at this
  · rename_i fn hfn
    simp only [Bool.and_eq_true, Bool.not_eq_true'] at this
    exact ⟨fn, hfn, this.1, this.2⟩
  · cases this
theorem Fns.run {P : Program} {lo hi f : Nat} (h : Fns P lo hi) (h1 : Nat.ble lo f = true) (h2 : Nat.blt f hi = true) (args : Array Value) (w : World) : (callFunc f args).run P w = .ok (.enter f args) w := by
  obtain ⟨fn, h3, h4, h5⟩ := h f (Nat.le_of_ble_eq_true h1) (Nat.le_of_ble_eq_true h2)
  have h6 : fn.body.isNone = false := by cases hb : fn.body <;> simp_all
  simp only [callFunc, Sem.run_bind, run_program, Result.andThen_ok, h3, h5, h6, Bool.false_eq_true, if_false, Sem.run_pure]

def wrVC (P : Program) (tab : Tab) (lo hi : Nat) (m : Md) (l : Env) (o : Oper) (w : World) (K : Value → World → Prop) : Prop :=
  match o.op with
  | .alloc t => match tlook t tab with
    | some ti => Al w (vcells ti.zero) t fun b w' => K (.pointer (some ⟨b, 0, none⟩)) w'
    | none => False
  | .box t x => match evl l x with
    | some v => Al w (vcells v) t fun b w' => K (.pointer (some ⟨b, 0, none⟩)) w'
    | none => False
  | .buildSlice t n ps => match tlook t tab, evparts l ps.toList with
    | some ⟨.slice e, _, _, _⟩, some vs => (match tlook e tab with
      | some ei => Nd (n * ei.size ≤ 16777216 ∧ (vcells ei.zero).length = ei.size) (fillVC (fun i => some (i * ei.size, ei.size)) (zrep ei.zero n) vs fun cs => Al w cs e fun b w' => K (.slice (some ⟨b, 0, none⟩) n n) w')
      | none => False)
    | _, _ => False
  | .store t a x => match tlook t tab, evl l a, evl l x with
    | some ti, some (.pointer (some ⟨b, off, none⟩)), some v => (match v with
      | .agg cs => Nd (cs.size = ti.size) (StA m w b off cs.toList fun w' => K undef w')
      | .tuple _ => False
      | v => Nd (ti.size = 1 ∧ v.oneCell' = true) (St1 m w b off v fun w' => K undef w'))
    | _, _, _ => False
  | .makeSlice t n c => match tlook t tab, evl l n, evl l c with
    | some ⟨.slice e, _, _, _⟩, some (.int _ i), some (.int _ j) => (match tlook e tab with
      | some ei => Nd (0 ≤ i ∧ i ≤ j ∧ j ≤ 9223372036854775807 ∧ (ei.bytes : Int) * j ≤ 281474976710656 ∧ (vcells ei.zero).length = ei.size) (Ev i.toNat fun i' => Ev j.toNat fun j' =>
          Al w (zrep ei.zero j') e fun b w' => K (.slice (some ⟨b, 0, none⟩) i' j') w')
      | none => False)
    | _, _, _ => False
  | .convert s d x => match tlook s tab, tlook d tab, evl l x with
    | some _, some ⟨.slice e, _, _, _⟩, some (.string str) => (match tlook e tab with
      | some ⟨.int .u8, _, _, _⟩ => Run P m w (Conv.stringToBytes e str) K
      | _ => False)
    | some _, some ⟨.slice _, _, _, _⟩, some (.slice A n c) => Run P m w (convert s d (.slice A n c)) K
    | _, _, _ => False
  | .call c => match c.callee with
    | .builtin .append => (match evls l c.args.toList with
      | some vs => Run P m w (Builtin.append_ c.argTypes o.type vs.toArray) K
      | none => False)
    | .builtin .copy => (match evls l c.args.toList with
      | some vs => Run P m w (Builtin.copy_ c.argTypes o.type vs.toArray) K
      | none => False)
    | .value f => (match evl l f, evls l c.args.toList with
      | some (.func (.func g) fi ca), some vs => (match Nat.ble lo g, Nat.blt g hi with
        | true, true => Cl P m g (fi.toList ++ (vs ++ ca.toList)) w K
        | _, _ => False)
      | _, _ => False)
    | _ => False
  | .lookup t x i ok => match evl l x, evl l i with
    | some a, some b => Run P m w (Instr.lookup t a b ok) K
    | _, _ => False
  | .makeMap t r => match r with
    | none => Run P m w (Instr.makeMap t none) K
    | _ => False
  | .mapUpdate t mp k x => match evl l mp, evl l k, evl l x with
    | some a, some b, some c => Run P m w (do Instr.mapUpdate t a b c; pure undef) K
    | _, _, _ => False
  | _ => False

theorem range_flat (zc : List Value) (n : Nat) : ((List.range (n * zc.length)).map fun i => zc.toArray[i % zc.toArray.size]!) = (List.replicate n zc).flatten := by
  induction n with
  | zero => simp
  | succ n ih =>
    rw [List.replicate_succ', List.flatten_append, ← ih, Nat.succ_mul, List.range_add, List.map_append]
    congr 1
    simp only [List.map_map, List.flatten_cons, List.flatten_nil, List.append_nil]
    apply List.ext_getElem
    · simp
    · intro i h1 h2
      simp at h1
      simp [Nat.mod_eq_of_lt h1, h1]

theorem run_storeCells {P : Program} (b off : Nat) : ∀ (vs : List Value) (i : Nat) (w : World) (cs : List Value) (t : Nat) (fr : Nat × Nat), At w b cs t fr → off + i + vs.length ≤ cs.length → (fr.2 ≤ off ∨ off + i + vs.length ≤ fr.1) →
    (∀ v ∈ vs, v.oneCell' = true) → ∃ w', (storeCells ⟨b, off, none⟩ vs i).run P w = .ok () w' ∧ At w' b (ov cs (off + i) vs) t fr ∧ Ext (· = b) w w'
  | [], i, w, cs, t, fr, h, _, _, _ => ⟨w, rfl, by rw [ov_nil]; exact h, Ext.refl _ _⟩
  | v :: r, i, w, cs, t, fr, h, hl, hf, h1 => by
    simp only [List.length_cons] at hl hf
    have hc : w.cell? ⟨b, off + i, none⟩ = some (cs[off + i]'(by omega)) := h.cell (by simp)
    have hfz := h.frozen (off := off + i) (by rcases hf with hf | hf <;> omega)
    obtain ⟨w', h2, h3, h4⟩ := run_storeCells (P := P) b off r (i + 1) (w.setCell ⟨b, off + i, none⟩ v) (cs.set (off + i) v) t fr (h.set _ _) (by simp; omega) (by rcases hf with hf | hf <;> omega) (fun u hu => h1 u (List.mem_cons_of_mem _ hu))
    refine ⟨w', ?_, ?_, (Ext.setCell (S := (· = b)) w (a := ⟨b, off + i, none⟩) rfl v).trans h4⟩
    · simp only [storeCells, Sem.run_bind, add_none]
      rw [run_store _ _ _ _ _ (h1 v (by simp))]
      simp [hc, hfz, h2]
    · have e : ov (cs.set (off + i) v) (off + (i + 1)) r = ov cs (off + i) (v :: r) := by
        have e1 : (cs.set (off + i) v).take (off + (i + 1)) = cs.take (off + i) ++ [v] := by
          rw [show off + (i + 1) = (off + i) + 1 from by omega, List.take_succ_eq_append_getElem (by simp; omega)]
          simp [List.take_set_of_le]
        have e2 : (cs.set (off + i) v).drop (off + (i + 1) + r.length) = cs.drop (off + i + (r.length + 1)) := by
          rw [List.drop_set_of_lt (by omega)]
          congr 1
          omega
        simp only [ov, List.length_cons]
        rw [e1, e2]
        simp
      rw [e] at h3
      exact h3

section

variable {P : Program} {tab : Tab} {l : Env}
theorem upon_value {o : Oper} {a : Act} {next : Act → World → Prop} {Q : Exit → Act → World → Prop} {w w' : World} {v : Value} (h : (execOp a.eval o).run P w = .ok (.value v) w') (k : next (a.put o.dst v) w') : o.wp P a w next Q := by
  unfold Oper.wp
  rw [h]
  exact k
theorem upon_skip {o : Oper} {a : Act} {next : Act → World → Prop} {Q : Exit → Act → World → Prop} {w w' : World} (h : (execOp a.eval o).run P w = .ok .skip w') (k : next (a.put o.dst undef) w') : o.wp P a w next Q := by
  unfold Oper.wp
  rw [h]
  exact k

theorem arange0 : Array.range 0 = #[] := rfl
theorem run_buildSlice {t e sz by_ n : Nat} {z : Value} {ei : TI} (ht : TIok P t ⟨.slice e, sz, by_, z⟩) (he : TIok P e ei) (hn : n * ei.size ≤ 16777216) (hsz : (vcells ei.zero).length = ei.size) {vs : List (Nat × Value)} {cs : List Value}
    (h1 : Instr.fill (fun i => some (i * ei.size, ei.size)) (zrep ei.zero n).toArray vs = some cs.toArray) (w : World) :
    (Instr.buildSlice t n vs.toArray).run P w = .ok (.slice (some ⟨w.heap.size, 0, none⟩) n n) (w.alloc (.cells cs.toArray e)) := by
  have hz : ei.zero.cells = (vcells ei.zero).toArray := by rw [← vcells_eq]
  have h3 : ¬ n * ei.size > 2 ^ 24 := by omega
  simp only [Instr.buildSlice, Sem.run_bind, run_underlying ht.slice, Result.andThen_ok, he.run_size, if_neg h3, List.toList_toArray]
  by_cases h0 : n * ei.size = 0
  · have hr : zrep ei.zero n = [] := by
      apply List.eq_nil_of_length_eq_zero
      simp [zrep, hsz, h0]
    rw [hr] at h1
    have h4 : (List.map (fun x : Nat => (default : Value)) (List.range 0)).toArray = ([] : List Value).toArray := rfl
    simp only [if_pos h0, pure_bind, h0, arange0, Array.map_empty, h1]
    simp [newRow]
  · have hr : (Array.map (fun i => (vcells ei.zero).toArray[i % (vcells ei.zero).toArray.size]!) (Array.range (n * ei.size))) = (zrep ei.zero n).toArray := by
      apply Array.ext'
      rw [Array.toList_map, Array.toList_range, ← hsz, range_flat]
      rfl
    simp only [if_neg h0, Sem.run_bind, he.run_zero, Result.andThen_ok, hz, pure_bind, hr, h1]
    simp [newRow]

theorem run_makeSlice {t e sz by_ : Nat} {z : Value} {ei : TI} (ht : TIok P t ⟨.slice e, sz, by_, z⟩) (he : TIok P e ei) {i j : Int} (h0 : 0 ≤ i) (h1 : i ≤ j) (h2 : j ≤ 9223372036854775807) (h3 : (ei.bytes : Int) * j ≤ 281474976710656)
    (hsz : (vcells ei.zero).length = ei.size) (k1 k2 : IntKind) (w : World) :
    (Instr.makeSlice t (.int k1 i) (.int k2 j)).run P w = .ok (.slice (some ⟨w.heap.size, 0, none⟩) i.toNat j.toNat) (w.alloc (.cells (zrep ei.zero j.toNat).toArray e)) := by
  have hz : ei.zero.cells = (vcells ei.zero).toArray := by rw [← vcells_eq]
  obtain ⟨inf, hinf, hb1, hb2, hb3⟩ := he.get
  have ei1 : IntKind.i64.wrap i = i := IntWalk.i64_in _ (by omega)
  have ej1 : IntKind.i64.wrap j = j := IntWalk.i64_in _ (by omega)
  have e5 : (decide (j < 0) || decide ((ei.bytes : Int) * j > 2 ^ 48) || decide (i < 0) || decide (i > j)) = false := by
    simp only [Bool.or_eq_false_iff, decide_eq_false_iff_not]
    omega
  simp only [Instr.makeSlice, Sem.run_bind, run_underlying ht.slice, Result.andThen_ok, asInt, asIntOf, pure_bind, typeInfo, run_program, hinf, hb2, ei1, ej1, Sem.run_pure]
  simp only [e5, Bool.false_eq_true, if_false, Sem.run_bind, run_askRoom, Result.andThen_ok, he.run_size]
  by_cases h0 : j.toNat * ei.size = 0
  · have hr : zrep ei.zero j.toNat = [] := by
      apply List.eq_nil_of_length_eq_zero
      simp [zrep, hsz, h0]
    simp only [if_pos h0, pure_bind, h0, arange0, Array.map_empty, hr]
    simp [newRow]
  · have hr : (Array.map (fun i => (vcells ei.zero).toArray[i % (vcells ei.zero).toArray.size]!) (Array.range (j.toNat * ei.size))) = (zrep ei.zero j.toNat).toArray := by
      apply Array.ext'
      rw [Array.toList_map, Array.toList_range, ← hsz, range_flat]
      rfl
    simp only [if_neg h0, Sem.run_bind, he.run_zero, Result.andThen_ok, hz, pure_bind, hr]
    simp [newRow]

theorem evl_ok {m : Md} {o : Oper} {w : World} {K : Value → World → Prop} {a : Act} {next : Act → World → Prop} {Q : Exit → Act → World → Prop} {s : Sem Value} (h : Run P m w s K)
    (he : execOp a.eval o = (do pure (Next.value (← s)) : Sem Next)) (hn : ∀ v w', m.W w w' → K v w' → next (a.put o.dst v) w') : o.wp P a w next Q := by
  obtain ⟨v, w', h1, h2, h3⟩ := h.out
  exact upon_value (v := v) (w' := w') (by rw [he]; simp [h1]) (hn v w' h2 h3)

theorem wr_sound (hT : TabOk P tab) {lo hi : Nat} (hF : Fns P lo hi) {m : Md} {o : Oper} {w : World} {K : Value → World → Prop} {a : Act} {next : Act → World → Prop} {Q : Exit → Act → World → Prop} (hρ : Agree l a.eval)
    (h : wrVC P tab lo hi m l o w K) (hn : ∀ v w', m.W w w' → K v w' → next (a.put o.dst v) w') : o.wp P a w next Q := by
  obtain ⟨dst, op, type, pos, after, guard⟩ := o
  cases op with
  | alloc t =>
    simp only [wrVC] at h
    split at h
    · rename_i ti ht
      have hz : ti.zero.cells = (vcells ti.zero).toArray := by rw [← vcells_eq]
      refine upon_value (w' := w.alloc (.cells (vcells ti.zero).toArray t)) (v := .pointer (some ⟨w.heap.size, 0, none⟩)) ?_ (hn _ _ (Md.W_ext (Ext.alloc _ _ _)) (h.out _ _ (New.alloc w _ t)))
      simp [execOp, Instr.alloc, (hT _ _ ht).run_zero, newVar, newRow, hz]
    · exact h.elim
  | box t x =>
    simp only [wrVC] at h
    split at h
    · rename_i v hx
      have hz : v.cells = (vcells v).toArray := by rw [← vcells_eq]
      refine upon_value (w' := w.alloc (.cells (vcells v).toArray t)) (v := .pointer (some ⟨w.heap.size, 0, none⟩)) ?_ (hn _ _ (Md.W_ext (Ext.alloc _ _ _)) (h.out _ _ (New.alloc w _ t)))
      simp [execOp, Instr.box, hρ _ _ hx, newVar, newRow, hz]
    · exact h.elim
  | buildSlice t n ps =>
    simp only [wrVC] at h
    split at h
    · rename_i e _ _ _ vs ht hp
      split at h
      · rename_i ei he
        obtain ⟨cs, h1, h2⟩ := fill_sound vs _ h.k
        refine upon_value (w' := w.alloc (.cells cs.toArray e)) (v := .slice (some ⟨w.heap.size, 0, none⟩) n n) ?_ (hn _ _ (Md.W_ext (Ext.alloc _ _ _)) (h2.out _ _ (New.alloc w _ e)))
        have hps : (ps.map fun (i, x) => (i, a.eval x)) = vs.toArray := by rw [← evparts_sound hρ hp]; apply Array.ext'; simp
        simp only [execOp, Sem.run_bind, hps, run_buildSlice (hT _ _ ht) (hT _ _ he) h.h.1 h.h.2 h1 w, Result.andThen_ok, Sem.run_pure]
      · exact h.elim
    · exact h.elim
  | store t x y =>
    simp only [wrVC] at h
    split at h
    · rename_i ti b off v ht hx hy
      split at h
      · rename_i cs
        obtain ⟨cs0, t0, fr, hat, hl, hf, h1, hm, hk⟩ := h.k.out
        have hsz := h.h
        obtain ⟨w', h2, h3, h4⟩ := run_storeCells (P := P) b off cs.toList 0 w cs0 t0 fr hat (by simpa using hl) (by simpa using hf) h1
        refine upon_skip (w' := w') ?_ (hn _ _ (Md.W_one h4 hm) (hk w' (by simpa using h3) h4))
        simp [execOp, Instr.storeAt, Instr.sureAddr, storeVar, hρ _ _ hx, hρ _ _ hy, Value.cells, (hT _ _ ht).run_size, hsz, h2]
      · exact h.elim
      · rename_i v' hna hnt
        obtain ⟨cs0, t0, fr, hat, hl, hf, hm, hk⟩ := h.k.out
        have h4 : Ext (· = b) w (w.setCell ⟨b, off, none⟩ v) := Ext.setCell (S := (· = b)) w (a := ⟨b, off, none⟩) rfl v
        refine upon_skip (w' := w.setCell ⟨b, off, none⟩ v) ?_ (hn _ _ (Md.W_one h4 hm) (hk _ (hat.set _ _) h4))
        have hcs : v.cells = #[v] := by cases v <;> first | rfl | (exact absurd rfl (hna _))
        have hc : w.cell? ⟨b, off, none⟩ = some (cs0[off]) := hat.cell (by simp)
        simp [execOp, Instr.storeAt, Instr.sureAddr, storeVar, hρ _ _ hx, hρ _ _ hy, hcs, (hT _ _ ht).run_size, h.h.1, storeCells, Addr.add, run_store _ _ _ _ _ h.h.2, hc, hat.frozen hf]
    · exact h.elim
  | makeSlice t n c =>
    simp only [wrVC] at h
    split at h
    · rename_i e _ _ _ k1 i k2 j ht hi hj
      split at h
      · rename_i ei he
        obtain ⟨h0, h1, h2, h3, hsz⟩ := h.h
        refine upon_value (w' := w.alloc (.cells (zrep ei.zero j.toNat).toArray e)) (v := .slice (some ⟨w.heap.size, 0, none⟩) i.toNat j.toNat) ?_ (hn _ _ (Md.W_ext (Ext.alloc _ _ _)) (h.k.out.out.out _ _ (New.alloc w _ e)))
        simp only [execOp, Sem.run_bind, hρ _ _ hi, hρ _ _ hj, run_makeSlice (hT _ _ ht) (hT _ _ he) h0 h1 h2 h3 hsz k1 k2 w, Result.andThen_ok, Sem.run_pure]
      · exact h.elim
    · exact h.elim
  | convert s d x =>
    simp only [wrVC] at h
    split at h
    · rename_i si e _ _ _ str hs hd hx
      split at h
      · rename_i he
        obtain ⟨ds, hds, _⟩ := (hT _ _ hs).und
        obtain ⟨v, w', h1, h2, h3⟩ := h.out
        refine upon_value (v := v) (w' := w') ?_ (hn v w' h2 h3)
        simp [execOp, hρ _ _ hx, convert, run_underlying hds, run_underlying (hT _ _ hd).slice, run_underlying (hT _ _ he).int, h1]
      · exact h.elim
    · rename_i hs hd hx
      obtain ⟨v, w', h1, h2, h3⟩ := h.out
      refine upon_value (v := v) (w' := w') ?_ (hn v w' h2 h3)
      simp [execOp, hρ _ _ hx, h1]
    · exact h.elim
  | call c =>
    obtain ⟨callee, args, argTypes⟩ := c
    simp only [wrVC] at h
    split at h
    · split at h
      · rename_i vs hv
        have e1 : args.map a.eval = vs.toArray := Array.ext' (by rw [Array.toList_map, hρ.evls hv])
        exact evl_ok h (by simp [execOp, resolve, invoke, builtin, e1]) hn
      · exact h.elim
    · split at h
      · rename_i vs hv
        have e1 : args.map a.eval = vs.toArray := Array.ext' (by rw [Array.toList_map, hρ.evls hv])
        exact evl_ok h (by simp [execOp, resolve, invoke, builtin, e1]) hn
      · exact h.elim
    · rename_i f
      split at h
      · rename_i g fi ca vs hf hv
        split at h
        · rename_i hlo hhi
          have e1 : args.map a.eval = vs.toArray := Array.ext' (by rw [Array.toList_map, hρ.evls hv])
          have e2 : (execOp a.eval ⟨dst, .call ⟨.value f, args, argTypes⟩, type, pos, after, guard⟩).run P w = .ok (.enter g (fi.toList ++ (vs ++ ca.toList)).toArray) w := by
            have e3 : (fi ++ vs.toArray) ++ ca = (fi.toList ++ (vs ++ ca.toList)).toArray := by apply Array.ext'; simp
            simp only [execOp, resolve, hρ _ _ hf, e1, Deferred.ofValue, pure_bind, invoke, e3]
            exact hF.run hlo hhi _ w
          unfold Oper.wp
          rw [e2]
          refine Calls.mono h.out fun e w' hp => ?_
          obtain ⟨v, rfl, hw, hk⟩ := hp
          exact hn v w' hw hk
        · exact h.elim
      · exact h.elim
    · exact h.elim
  | lookup t x i ok =>
    simp only [wrVC] at h
    split at h
    · rename_i hx hi
      exact evl_ok h (by simp [execOp, hρ _ _ hx, hρ _ _ hi]) hn
    · exact h.elim
  | makeMap t r =>
    simp only [wrVC] at h
    split at h
    · exact evl_ok h (by simp [execOp]) hn
    · exact h.elim
  | mapUpdate t mp k x =>
    simp only [wrVC] at h
    split at h
    · rename_i x1 x2 x3 hx1 hx2 hx3
      obtain ⟨v, w', h1, h2, h3⟩ := h.out
      simp only [Sem.run_bind] at h1
      cases hr : (Instr.mapUpdate t x1 x2 x3).run P w with
      | halt _ _ => simp [hr, Result.andThen] at h1
      | ok u w1 =>
        simp [hr, Result.andThen] at h1
        obtain ⟨rfl, rfl⟩ := h1
        refine upon_skip (w' := w1) ?_ (hn _ w1 h2 h3)
        simp [execOp, hρ _ _ hx1, hρ _ _ hx2, hρ _ _ hx3, hr]
    · exact h.elim
  | _ => exact h.elim
end

end Go.Proofs.YtmcdcfbhpdacfaaDoor.Sx
/-
  Regions, orders, and a function's entry, by the conditions of their operations.
-/

namespace Go.Proofs.YtmcdcfbhpdacfaaDoor.Sx

open Go

set_option linter.unusedVariables false

set_option linter.unusedSimpArgs false

/-- The program at hand: its types, and which functions can be called. -/
structure Cx where
  P : Program
  tab : Tab
  lo : Nat
  hi : Nat
structure Cx.Ok (C : Cx) : Prop where
  tab : TabOk C.P C.tab
  fns : Fns C.P C.lo C.hi
  mixed : C.P.follows .mixedOrders = true

def isRd (tab : Tab) (o : Oper) : Bool :=
  match o.op with
  | .move _ | .assign _ | .pick .. | .nilCheck _ | .binOp .. | .unOp .. | .makeFunc .. | .load .. | .fieldAddr .. | .field .. | .indexAddr .. | .index .. | .slice .. | .extract .. | .build .. => true
  | .convert _ d _ => match tlook d tab with
    | some ⟨.slice _, _, _, _⟩ => false
    | _ => true
  | .call c => match c.callee with
    | .builtin .len | .builtin .cap | .builtin .min | .builtin .max => true
    | _ => false
  | _ => false
def opVC (C : Cx) (m : Md) (l : Env) (o : Oper) (w : World) (K : Value → World → Prop) : Prop :=
  match isRd C.tab o with
  | true => rdVC C.P C.tab m l o w fun v => K v w
  | false => wrVC C.P C.tab C.lo C.hi m l o w K
def putE (n : Nat) (l : Env) (dst : Option Tmp) (v : Value) : Env :=
  match dst with
  | none => l
  | some d => match Nat.blt d n with
    | true => (d, v) :: l
    | false => l
theorem Fr.putE {n : Nat} {l : Env} {a : Act} (h : Fr n l a) (dst : Option Tmp) (v : Value) : Fr n (Sx.putE n l dst v) (a.put dst v) := by
  cases dst with
  | none => exact h
  | some d =>
    show Fr n (match Nat.blt d n with
      | true => (d, v) :: l
      | false => l) _
    by_cases hd : d < n
    · have hb : Nat.blt d n = true := Nat.ble_eq_true_of_le (show d + 1 ≤ n from hd)
      rw [hb]
      exact h.put hd v
    · have hb : Nat.blt d n = false := by
        cases hx : Nat.blt d n
        · rfl
        · exact absurd (Nat.le_of_ble_eq_true hx) hd
      rw [hb]
      have e : a.put (some d) v = a := by
        show ({ a with tmps := a.tmps.setIfInBounds d v } : Act) = a
        rw [Array.setIfInBounds_eq_of_size_le (by have := h.size; rw [this]; exact Nat.le_of_not_lt hd)]
      rw [e]
      exact h
def putK (n : Nat) (l : Env) (dst : Option Tmp) (v : Value) (K : Env → Prop) : Prop :=
  match dst with
  | none => K l
  | some d => match Nat.blt d n with
    | true => K ((d, v) :: l)
    | false => K l
theorem putK_eq {n : Nat} {l : Env} {dst : Option Tmp} {v : Value} {K : Env → Prop} (h : putK n l dst v K) : K (putE n l dst v) := by
  cases dst with
  | none => exact h
  | some d =>
    unfold putK at h
    unfold putE
    simp only [] at h ⊢
    split at h <;> exact h
def guardV (all : List Oper) (l : Env) (g : Option (Nat × Bool)) : Option Bool :=
  match g with
  | none => some true
  | some (j, want) => match nth j all with
    | none => none
    | some oj => match oj.dst with
      | none => none
      | some t => match look t l with
        | some (.bool b) => (match b, want with
          | true, true => some true
          | false, false => some true
          | true, false => some false
          | false, true => some false)
        | some (.tuple _) => some false
        | _ => none
theorem guard_sound {n : Nat} {ops : Array Oper} {l : Env} {a : Act} (h : Fr n l a) {o : Oper} {r : Bool} (hg : guardV ops.toList l o.guard = some r) : Region.wanted o (yielded ops a.tmps) = r := by
  unfold guardV at hg
  unfold Region.wanted
  cases hgu : o.guard with
  | none => rw [hgu] at hg; simpa using hg
  | some jw =>
    obtain ⟨j, want⟩ := jw
    rw [hgu] at hg
    simp only [] at hg ⊢
    split at hg
    · cases hg
    · rename_i oj hoj
      rw [nth_eq] at hoj
      have hoj' : ops[j]? = some oj := by simpa using hoj
      split at hg
      · cases hg
      · rename_i t hd
        have key : yielded ops a.tmps j = match a.tmps[t]? with
            | some (.bool b) => some b
            | _ => none := by
          simp only [yielded, hoj', Option.bind_some, hd]
          rfl
        rw [key]
        split at hg
        · rename_i b hl
          have := h.get t _ hl
          have ht : a.tmps[t]? = some (.bool b) := by
            rw [Array.getD_eq_getD_getElem?] at this
            cases hx : a.tmps[t]? with
            | none => rw [hx] at this; simp [undef] at this
            | some x => rw [hx] at this; simp at this; rw [this]
          rw [ht]
          cases b <;> cases want <;> simp_all
        · rename_i vs hl
          have := h.get t _ hl
          have ht : (match a.tmps[t]? with
            | some (.bool b) => some b
            | _ => none) = (none : Option Bool) := by
            rw [Array.getD_eq_getD_getElem?] at this
            cases hx : a.tmps[t]? with
            | none => rfl
            | some x => rw [hx] at this; simp at this; rw [this]
          rw [ht]
          simp at hg
          subst hg
          simp
        · cases hg

def opsVC (C : Cx) (n : Nat) (all : List Oper) : List Oper → Env → World → (Env → World → Prop) → Prop
  | [], l, w, K => K l w
  | o :: r, l, w, K => match guardV all l o.guard with
    | some true => opVC C .plain l o w fun v w' => putK n l o.dst v fun l' => opsVC C n all r l' w' K
    | some false => putK n l o.dst undef fun l' => opsVC C n all r l' w K
    | none => False

section

variable {C : Cx} {n : Nat}
theorem op_sound (hC : C.Ok) {m : Md} {l : Env} {o : Oper} {w : World} {K : Value → World → Prop} {a : Act} {next : Act → World → Prop} {Q : Exit → Act → World → Prop} (hρ : Agree l a.eval)
    (h : opVC C m l o w K) (hn : ∀ v w', m.W w w' → K v w' → next (a.put o.dst v) w') : o.wp C.P a w next Q := by
  unfold opVC at h
  split at h
  · obtain ⟨v, h1, h2⟩ := rd_sound hC.tab hρ h
    have h3 : (execOp a.eval o).run C.P w = .ok (.value v) w := by
      cases m
      · exact h1
      · exact h1 w (Ext.refl _ _)
    exact upon_value h3 (hn v w (Md.W_ext (Ext.refl _ _)) h2)
  · exact wr_sound hC.tab hC.fns hρ h hn

theorem ops_sound (hC : C.Ok) {ops : Array Oper} {Q : Exit → Act → World → Prop} {K : Env → World → Prop} (hQ : ∀ l w, K l w → ∀ a, Fr n l a → Q .normal a w) :
    ∀ (rest : List Oper) (l : Env) (w : World) (a : Act), Fr n l a → opsVC C n ops.toList rest l w K → wpList C.P ops Q rest a w
  | [], l, w, a, ha, h => hQ l w h a ha
  | o :: r, l, w, a, ha, h => by
    unfold opsVC at h
    unfold wpList
    split at h
    · rename_i hg
      rw [guard_sound ha hg, if_pos rfl]
      exact .inl (op_sound hC ha.agree h fun v w' _ hk => ops_sound hC hQ r _ w' _ (ha.putE _ _) (putK_eq (K := fun l' => opsVC C n ops.toList r l' w' K) hk))
    · rename_i hg
      rw [guard_sound ha hg, if_neg (by simp)]
      exact ops_sound hC hQ r _ w _ (ha.putE _ _) (putK_eq (K := fun l' => opsVC C n ops.toList r l' w K) h)
    · exact h.elim

theorem G.region (hC : C.Ok) {id : Nat} {ops : Array Oper} {l : Env} {w : World} {Q : Exit → Env → World → Prop} (h : opsVC C n ops.toList ops.toList l w (Q .normal)) : G C.P n (.region id ops false) l w Q :=
  ⟨fun a ha => wp_region_list (ops_sound hC (fun l w hk a ha => ⟨l, ha, hk⟩) ops.toList l w a ha h)⟩

def opW (C : Cx) (S : Nat → Prop) (l : Env) (o : Oper) (w : World) (K : Value → World → Prop) : Prop :=
  match isRd C.tab o with
  | true => rdVC C.P C.tab .plain l o w fun v => K v w
  | false => opVC C (.any S) l o w K
theorem opW_sound (hC : C.Ok) {S : Nat → Prop} {l : Env} {o : Oper} {w : World} {K : Value → World → Prop} {a : Act} {next : Act → World → Prop} {Q : Exit → Act → World → Prop} (hρ : Agree l a.eval)
    (h : opW C S l o w K) (hn : ∀ v w', Ext S w w' → K v w' → next (a.put o.dst v) w') : o.wp C.P a w next Q := by
  unfold opW at h
  split at h
  · obtain ⟨v, h1, h2⟩ := rd_sound (m := .plain) hC.tab hρ h
    exact upon_value h1 (hn v w (Ext.refl _ _) h2)
  · exact op_sound hC hρ h hn

def trVC (C : Cx) (n : Nat) (all : List Oper) (S : Nat → Prop) (K : Env → World → Prop) : Tr → Env → World → Prop
  | .done, l, w => K l w
  | .tk i t, l, w => match nth i all with
    | none => False
    | some o => match guardV all l o.guard with
      | some true => (match isRd C.tab o with
        | true => rdVC C.P C.tab (.any S) l o w fun v => putK n l o.dst v fun l' => trVC C n all S K t l' w
        | false => False)
      | some false => putK n l o.dst undef fun l' => trVC C n all S K t l' w
      | none => False
  | .w i t, l, w => match nth i all with
    | none => False
    | some o => match guardV all l o.guard with
      | some true => opW C S l o w fun v w' => putK n l o.dst v fun l' => trVC C n all S K t l' w'
      | some false => putK n l o.dst undef fun l' => trVC C n all S K t l' w
      | none => False
  | .alt i t r, l, w => (match nth i all with
    | none => False
    | some o => match guardV all l o.guard with
      | some true => opW C S l o w fun v w' => putK n l o.dst v fun l' => trVC C n all S K t l' w'
      | some false => putK n l o.dst undef fun l' => trVC C n all S K t l' w
      | none => False) ∧ trVC C n all S K r l w
  | .z i, l, w => match nth i all with
    | none => False
    | some o => match guardV all l o.guard with
      | some true => opVC C .plain l o w fun v w' => putK n l o.dst v fun l' => K l' w'
      | some false => putK n l o.dst undef fun l' => K l' w
      | none => False

theorem tr_op (hC : C.Ok) {ops : Array Oper} {S : Nat → Prop} {Q : Exit → Act → World → Prop} {i : Nat} {l : Env} {w : World} {a : Act} (ha : Fr n l a) {X : Env → World → Prop} {next : Act → World → Prop}
    (h : match nth i ops.toList with
      | none => False
      | some o => match guardV ops.toList l o.guard with
        | some true => opW C S l o w fun v w' => putK n l o.dst v fun l' => X l' w'
        | some false => putK n l o.dst undef fun l' => X l' w
        | none => False)
    (hn : ∀ l' w' a', Fr n l' a' → Ext S w w' → X l' w' → next a' w') : wpOp C.P ops Q i next a w := by
  unfold wpOp
  split at h
  · exact h.elim
  · rename_i o ho
    rw [nth_eq] at ho
    have ho' : ops[i]? = some o := by simpa using ho
    simp only [ho']
    split at h
    · rename_i hg
      rw [guard_sound ha hg, if_pos rfl]
      exact .inl (opW_sound hC ha.agree h fun v w' hw hk => hn _ w' _ (ha.putE _ _) hw (putK_eq (K := fun l' => X l' w') hk))
    · rename_i hg
      rw [guard_sound ha hg, if_neg (by simp)]
      exact hn _ w _ (ha.putE _ _) (Ext.refl _ _) (putK_eq (K := fun l' => X l' w) h)
    · exact h.elim

theorem tr_sound (hC : C.Ok) {ops : Array Oper} {S : Nat → Prop} {Q : Exit → Act → World → Prop} {K : Env → World → Prop} (hs : Region.noSelect ops = true) (hpan : ∀ c a a' w, Q (.panic c) a w → Q (.panic c) a' w)
    (hQ : ∀ l w, K l w → ∀ a, Fr n l a → Q .normal a w) : ∀ (t : Tr) (c : Bool) (listed : Array Bool) (fuel : Nat) (l : Env) (w : World) (a : Act), t.ok ops c listed = true → t.depth ≤ fuel → Down .any ops listed → Fr n l a → trVC C n ops.toList S K t l w →
      (c = false → wpAnyT C.P .any ops Q (Ext S) fuel listed a w) ∧
      (∀ k, fuel = k + 1 → ∀ i ∈ t.heads, i ∈ Region.ready .any ops listed → wpOp C.P ops Q i (fun a' w' => (Last .any ops i ∨ Ext S w w') ∧ wpAnyT C.P .any ops Q (Ext S) k (listed.setIfInBounds i true) a' w') a w)
  | .done, c, listed, fuel, l, w, a, hok, hd, hdn, ha, h => by
    refine ⟨fun hc => ?_, fun k _ i hi _ => by simp [Tr.heads] at hi⟩
    simp only [Tr.ok, Bool.and_eq_true, List.isEmpty_iff] at hok
    cases fuel with
    | zero => exact ⟨hok.2, hQ l w h a ha⟩
    | succ k => exact ⟨fun _ => hQ l w h a ha, by rw [hok.2]; simp⟩
  | .tk i t, c, listed, fuel, l, w, a, hok, hd, hdn, ha, h => by
    refine ⟨fun hc => ?_, fun k _ i hi _ => by simp [Tr.heads] at hi⟩
    simp only [Tr.ok, Bool.and_eq_true] at hok
    simp only [Tr.depth] at hd
    obtain ⟨⟨⟨_, hfree⟩, hready⟩, hrest⟩ := hok
    cases fuel with
    | zero => omega
    | succ k =>
      unfold trVC at h
      split at h
      · exact h.elim
      · rename_i o ho
        rw [nth_eq] at ho
        have ho' : ops[i]? = some o := by simpa using ho
        have hrdy : i ∈ Region.ready .any ops listed := by simpa using hready
        have first : ∀ v, YieldsIf C.P ops (Ext S w) o v a → wpAnyT C.P .any ops Q (Ext S) k (listed.setIfInBounds i true) (a.put o.dst v) w → wpAnyT C.P .any ops Q (Ext S) (k + 1) listed a w := fun v hy hw =>
          wpAnyT_first (fun w => Ext.refl S w) (fun _ _ _ h1 h2 => h1.trans h2) ho' (Region.noSelect_spec hs) (fun c a' w' hq => hpan c _ a' w' hq) k listed a w (Region.free_spec ho' hfree) hdn hrdy hy hw
        split at h
        · rename_i hg
          split at h
          · obtain ⟨v, h1, h2⟩ := rd_sound hC.tab ha.agree h
            exact first v (.inl ⟨guard_sound ha hg, fun w' hw' => h1 w' hw'⟩) ((tr_sound hC hs hpan hQ t false _ k _ w _ hrest (by omega) (hdn.set hrdy) (ha.putE _ _) (putK_eq (K := fun l' => trVC C n ops.toList S K t l' w) h2)).1 rfl)
          · exact h.elim
        · rename_i hg
          exact first undef (.inr ⟨guard_sound ha hg, rfl⟩) ((tr_sound hC hs hpan hQ t false _ k _ w _ hrest (by omega) (hdn.set hrdy) (ha.putE _ _) (putK_eq (K := fun l' => trVC C n ops.toList S K t l' w) h)).1 rfl)
        · exact h.elim
  | .w i t, c, listed, fuel, l, w, a, hok, hd, hdn, ha, h => by
    simp only [Tr.ok, Bool.and_eq_true, Bool.or_eq_true, beq_iff_eq] at hok
    simp only [Tr.depth] at hd
    have step : ∀ k, fuel = k + 1 → i ∈ Region.ready .any ops listed → wpOp C.P ops Q i (fun a' w' => (Last .any ops i ∨ Ext S w w') ∧ wpAnyT C.P .any ops Q (Ext S) k (listed.setIfInBounds i true) a' w') a w := fun k hk hrd => by
      unfold trVC at h
      exact tr_op hC ha h fun l' w' a' ha' hx hv => ⟨.inr hx, (tr_sound hC hs hpan hQ t false _ k l' w' a' hok.2 (by omega) (hdn.set hrd) ha' hv).1 rfl⟩
    refine ⟨fun hc => ?_, fun k hk j hj hrj => ?_⟩
    · subst hc
      have hr : Region.ready .any ops listed = [i] := by simpa using hok.1
      cases fuel with
      | zero => omega
      | succ k =>
        refine ⟨fun h0 => ?_, fun j hj => ?_⟩
        · rw [hr] at h0; cases h0
        · rw [hr] at hj
          simp at hj
          subst hj
          exact step k rfl (by rw [hr]; simp)
    · simp [Tr.heads] at hj
      subst hj
      exact step k hk hrj
  | .z i, c, listed, fuel, l, w, a, hok, hd, hdn, ha, h => by
    simp only [Tr.ok, Bool.and_eq_true, Bool.or_eq_true, beq_iff_eq, List.isEmpty_iff] at hok
    simp only [Tr.depth] at hd
    obtain ⟨⟨hc0, hlast⟩, hdone⟩ := hok
    have step : ∀ k, fuel = k + 1 → i ∈ Region.ready .any ops listed → wpOp C.P ops Q i (fun a' w' => (Last .any ops i ∨ Ext S w w') ∧ wpAnyT C.P .any ops Q (Ext S) k (listed.setIfInBounds i true) a' w') a w := fun k hk hrd => by
      have fin : ∀ l' w' a', Fr n l' a' → K l' w' → wpAnyT C.P .any ops Q (Ext S) k (listed.setIfInBounds i true) a' w' := fun l' w' a' ha' hk' => by
        cases k with
        | zero => exact ⟨hdone, hQ l' w' hk' a' ha'⟩
        | succ k => exact ⟨fun _ => hQ l' w' hk' a' ha', by rw [hdone]; simp⟩
      unfold trVC at h
      unfold wpOp
      split at h
      · exact h.elim
      · rename_i o ho
        rw [nth_eq] at ho
        have ho' : ops[i]? = some o := by simpa using ho
        simp only [ho']
        split at h
        · rename_i hg
          rw [guard_sound ha hg, if_pos rfl]
          exact .inl (op_sound hC ha.agree h fun v w' _ hk => ⟨.inl (lastB_spec hlast), fin _ w' _ (ha.putE _ _) (putK_eq (K := fun l' => K l' w') hk)⟩)
        · rename_i hg
          rw [guard_sound ha hg, if_neg (by simp)]
          exact ⟨.inl (lastB_spec hlast), fin _ w _ (ha.putE _ _) (putK_eq (K := fun l' => K l' w) h)⟩
        · exact h.elim
    refine ⟨fun hc => ?_, fun k hk j hj hrj => ?_⟩
    · subst hc
      have hr : Region.ready .any ops listed = [i] := by simpa using hc0
      cases fuel with
      | zero => omega
      | succ k =>
        refine ⟨fun h0 => ?_, fun j hj => ?_⟩
        · rw [hr] at h0; cases h0
        · rw [hr] at hj
          simp at hj
          subst hj
          exact step k rfl (by rw [hr]; simp)
    · simp [Tr.heads] at hj
      subst hj
      exact step k hk hrj
  | .alt i t r, c, listed, fuel, l, w, a, hok, hd, hdn, ha, h => by
    simp only [Tr.ok, Bool.and_eq_true, Bool.or_eq_true, beq_iff_eq] at hok
    simp only [Tr.depth] at hd
    obtain ⟨⟨⟨hc0, hne⟩, hok1⟩, hok2⟩ := hok
    unfold trVC at h
    have step : ∀ k, fuel = k + 1 → i ∈ Region.ready .any ops listed → wpOp C.P ops Q i (fun a' w' => (Last .any ops i ∨ Ext S w w') ∧ wpAnyT C.P .any ops Q (Ext S) k (listed.setIfInBounds i true) a' w') a w := fun k hk hrd =>
      tr_op hC ha h.1 fun l' w' a' ha' hx hv => ⟨.inr hx, (tr_sound hC hs hpan hQ t false _ k l' w' a' hok1 (by omega) (hdn.set hrd) ha' hv).1 rfl⟩
    have hr := (tr_sound hC hs hpan hQ r true listed fuel l w a hok2 (by omega) hdn ha h.2).2
    have all : ∀ k, fuel = k + 1 → ∀ j ∈ i :: r.heads, j ∈ Region.ready .any ops listed → wpOp C.P ops Q j (fun a' w' => (Last .any ops j ∨ Ext S w w') ∧ wpAnyT C.P .any ops Q (Ext S) k (listed.setIfInBounds j true) a' w') a w := fun k hk j hj hrj => by
      rcases List.mem_cons.1 hj with rfl | hj
      · exact step k hk hrj
      · exact hr k hk j hj hrj
    refine ⟨fun hc => ?_, fun k hk j hj hrj => all k hk j hj hrj⟩
    subst hc
    have hrd : Region.ready .any ops listed = i :: r.heads := by simpa using hc0
    cases fuel with
    | zero => omega
    | succ k =>
      refine ⟨fun h0 => ?_, fun j hj => all k rfl j ?_ hj⟩
      · rw [hrd] at h0; cases h0
      · rw [hrd] at hj; exact hj

theorem G.draw (hC : C.Ok) {id : Nat} {ops : Array Oper} {l : Env} {w : World} {Q : Exit → Env → World → Prop} (S : Nat → Prop) (t : Tr) (ht : t.check ops = true) (h : trVC C n ops.toList S (Q .normal) t l w.drew) :
    G C.P n (.region id ops true) l w Q := by
  simp only [Tr.check, Bool.and_eq_true] at ht
  refine ⟨fun a ha => wp_region_any hC.mixed (wpAny_of_T (T := Ext S) _ _ _ _ ?_)⟩
  exact (tr_sound hC ht.1.1 (fun c a a' w hq => hq) (fun l w hk a ha => ⟨l, ha, hk⟩) t false _ ops.size l w.drew a ht.2 (Nat.le_of_ble_eq_true ht.1.2) Down.none ha h).1 rfl

/-! ### A function -/
structure Don (p : Prop) : Prop where mk ::
  out : p
def resVC (C : Cx) (l : Env) (w : World) : List ResultVar → (List Value → Prop) → Prop
  | [], K => K []
  | .tmp t :: r, K => match look t l with
    | some v => resVC C l w r fun vs => K (v :: vs)
    | none => False
  | .cell a t :: r, K => match look a l, tlook t C.tab with
    | some (.pointer (some ⟨b, off, none⟩)), some ti => (match isAggT ti.ty with
      | true => RdA .plain w b off ti.size fun cs => resVC C l w r fun vs => K (.agg cs.toArray :: vs)
      | false => Rd .plain w ⟨b, off, none⟩ fun v => resVC C l w r fun vs => K (v :: vs))
    | _, _ => False
def oneRes (Post : Value → World → Prop) (w : World) : List Value → Prop
  | [v] => Don (Post v w)
  | vs => Don (Post (.tuple vs.toArray) w)
def endQ (C : Cx) (rs : List ResultVar) (Post : Value → World → Prop) : Exit → Env → World → Prop
  | .normal, l, w => resVC C l w rs (oneRes Post w)
  | .ret, l, w => resVC C l w rs (oneRes Post w)
  | _, _, _ => False
def resOne (a : Act) : ResultVar → Sem Value
  | .tmp t => pure (a.tmps.getD t undef)
  | .cell x t => do loadVar t (← asAddr (a.tmps.getD x undef))
theorem results_eq (fn : Func) (a : Act) : results fn a.tmps = (do
    let vs ← fn.results.mapM (resOne a)
    pure (if h : vs.size = 1 then vs[0] else .tuple vs)) := by
  unfold results
  congr 1
theorem res_sound (hC : C.Ok) {l : Env} {a : Act} (ha : Fr n l a) {w : World} : ∀ (rs : List ResultVar) {K : List Value → Prop}, resVC C l w rs K →
    ∃ vs, (rs.mapM (resOne a)).run C.P w = .ok vs w ∧ K vs
  | [], K, h => ⟨[], rfl, h⟩
  | .tmp t :: r, K, h => by
    unfold resVC at h
    split at h
    · rename_i v hv
      obtain ⟨vs, h1, h2⟩ := res_sound hC ha r h
      refine ⟨v :: vs, ?_, h2⟩
      simp only [List.mapM_cons, resOne, Sem.run_bind, Sem.run_pure, Result.andThen_ok, ha.get t v hv]
      rw [h1]
      rfl
    · exact h.elim
  | .cell x t :: r, K, h => by
    unfold resVC at h
    split at h
    · rename_i b off ti hx ht
      have hti := hC.tab _ _ ht
      split at h
      · rename_i hag
        obtain ⟨cs, hl, hr, hk⟩ := h.out
        obtain ⟨vs, h1, h2⟩ := res_sound hC ha r hk
        refine ⟨.agg cs.toArray :: vs, ?_, h2⟩
        have := load_agg hti hag hl hr
        simp only [Instr.loadAt, Instr.sureAddr, pure_bind] at this
        simp only [List.mapM_cons, resOne, Sem.run_bind, ha.get x _ hx, asAddr, Sem.run_pure, Result.andThen_ok, pure_bind, this]
        rw [h1]
        rfl
      · rename_i hag
        obtain ⟨v, hr, hk⟩ := h.out
        obtain ⟨vs, h1, h2⟩ := res_sound hC ha r hk
        refine ⟨v :: vs, ?_, h2⟩
        have := load_one hti hag hr
        simp only [Instr.loadAt, Instr.sureAddr, pure_bind] at this
        simp only [List.mapM_cons, resOne, Sem.run_bind, ha.get x _ hx, asAddr, Sem.run_pure, Result.andThen_ok, pure_bind, this]
        rw [h1]
        rfl
    · exact h.elim
theorem results_sound (hC : C.Ok) {fn : Func} {l : Env} {a : Act} (ha : Fr n l a) {w : World} {Post : Value → World → Prop} (h : resVC C l w fn.results.toList (oneRes Post w)) :
    ∃ v, (results fn a.tmps).run C.P w = .ok v w ∧ Post v w := by
  obtain ⟨vs, h1, h2⟩ := res_sound hC ha _ h
  have h3 : (fn.results.mapM (resOne a)).run C.P w = .ok vs.toArray w := by
    rw [Array.mapM_eq_mapM_toList]
    simp only [Sem.run_map, h1, Result.andThen_ok]
  rw [results_eq]
  match vs, h2 with
  | [v], h2 =>
    refine ⟨v, ?_, h2.out⟩
    simp only [Sem.run_bind, h3, Result.andThen_ok, Sem.run_pure]
    rfl
  | [], h2 =>
    refine ⟨_, ?_, h2.out⟩
    simp only [Sem.run_bind, h3, Result.andThen_ok, Sem.run_pure]
    rfl
  | x :: y :: r, h2 =>
    refine ⟨_, ?_, h2.out⟩
    simp only [Sem.run_bind, h3, Result.andThen_ok, Sem.run_pure]
    simp
def argE : Nat → List Value → Env
  | _, [] => []
  | i, v :: r => (i, v) :: argE (i + 1) r
theorem argE_look : ∀ (args : List Value) (i t : Nat) (v : Value), look t (argE i args) = some v → i ≤ t ∧ args[t - i]? = some v
  | [], _, _, _, h => by simp [argE, look] at h
  | x :: r, i, t, v, h => by
    simp only [argE] at h
    rw [look_cons] at h
    by_cases e : t = i
    · subst e; simp at h; subst h; simp
    · rw [if_neg e] at h
      obtain ⟨h1, h2⟩ := argE_look r (i + 1) t v h
      refine ⟨by omega, ?_⟩
      rw [show t - i = (t - (i + 1)) + 1 from by omega]
      simpa using h2
theorem Ret.enter (hC : C.Ok) {f : FuncId} {fn : Func} {c : Code} {args : List Value} {w : World} {Post : Value → World → Prop} (hf : C.P.funcs[f]? = some fn) (hb : fn.body = some c) (hn : fn.ntmps = n) (hl : Nat.ble args.length n = true)
    (h : G C.P n c (argE 0 args) w (endQ C fn.results.toList Post)) : Ret C.P f args.toArray w Post := by
  refine calls_of_wp hf hb ?_
  have hle : args.length ≤ n := Nat.le_of_ble_eq_true hl
  have hfr : Fr n (argE 0 args) { tmps := args.toArray ++ Array.replicate (fn.ntmps - args.toArray.size) undef, defers := [] } := by
    refine ⟨by simp; omega, rfl, fun t v ht => ?_⟩
    obtain ⟨_, h1⟩ := argE_look args 0 t v ht
    simp only [Nat.sub_zero] at h1
    have hlt : t < args.length := (List.getElem?_eq_some_iff.1 h1).1
    rw [Array.getD_eq_getD_getElem?, Array.getElem?_append_left (by simpa using hlt)]
    simp [h1]
  refine wp_mono (h.out _ hfr) fun e a w' hq => ?_
  cases e with
  | normal =>
    obtain ⟨l, hl, hr⟩ := hq
    obtain ⟨v, h1, h2⟩ := results_sound hC hl hr
    exact ⟨hl.defers, v, h1, v, rfl, h2⟩
  | ret =>
    obtain ⟨l, hl, hr⟩ := hq
    obtain ⟨v, h1, h2⟩ := results_sound hC hl hr
    exact ⟨hl.defers, v, h1, v, rfl, h2⟩
  | exit id => obtain ⟨l, hl, hr⟩ := hq; exact hr.elim
  | goto k => obtain ⟨l, hl, hr⟩ := hq; exact hr.elim
  | panic c => exact hq.elim
  | outgrown => exact hq.elim
theorem Ret.e0 (hC : C.Ok) {f : FuncId} {fn : Func} {c : Code} {w : World} {Post : Value → World → Prop} (hf : C.P.funcs[f]? = some fn) (hb : fn.body = some c) (hn : fn.ntmps = n)
    (h : G C.P n c [] w (endQ C fn.results.toList Post)) : Ret C.P f #[] w Post := Ret.enter hC (args := []) hf hb hn rfl h
theorem Ret.e1 (hC : C.Ok) {f : FuncId} {fn : Func} {c : Code} {a0 : Value} {w : World} {Post : Value → World → Prop} (hf : C.P.funcs[f]? = some fn) (hb : fn.body = some c) (hn : fn.ntmps = n) (hl : Nat.ble 1 n = true)
    (h : G C.P n c [(0, a0)] w (endQ C fn.results.toList Post)) : Ret C.P f #[a0] w Post := Ret.enter hC (args := [a0]) hf hb hn hl h
theorem Ret.e2 (hC : C.Ok) {f : FuncId} {fn : Func} {c : Code} {a0 a1 : Value} {w : World} {Post : Value → World → Prop} (hf : C.P.funcs[f]? = some fn) (hb : fn.body = some c) (hn : fn.ntmps = n) (hl : Nat.ble 2 n = true)
    (h : G C.P n c [(0, a0), (1, a1)] w (endQ C fn.results.toList Post)) : Ret C.P f #[a0, a1] w Post := Ret.enter hC (args := [a0, a1]) hf hb hn hl h
theorem Ret.e3 (hC : C.Ok) {f : FuncId} {fn : Func} {c : Code} {a0 a1 a2 : Value} {w : World} {Post : Value → World → Prop} (hf : C.P.funcs[f]? = some fn) (hb : fn.body = some c) (hn : fn.ntmps = n) (hl : Nat.ble 3 n = true)
    (h : G C.P n c [(0, a0), (1, a1), (2, a2)] w (endQ C fn.results.toList Post)) : Ret C.P f #[a0, a1, a2] w Post := Ret.enter hC (args := [a0, a1, a2]) hf hb hn hl h
theorem Ret.e4 (hC : C.Ok) {f : FuncId} {fn : Func} {c : Code} {a0 a1 a2 a3 : Value} {w : World} {Post : Value → World → Prop} (hf : C.P.funcs[f]? = some fn) (hb : fn.body = some c) (hn : fn.ntmps = n) (hl : Nat.ble 4 n = true)
    (h : G C.P n c [(0, a0), (1, a1), (2, a2), (3, a3)] w (endQ C fn.results.toList Post)) : Ret C.P f #[a0, a1, a2, a3] w Post := Ret.enter hC (args := [a0, a1, a2, a3]) hf hb hn hl h
end

end Go.Proofs.YtmcdcfbhpdacfaaDoor.Sx
/-
  append, copy, []byte(s): what is to be shown, in terms of what the slices read as.
-/

namespace Go.Proofs.YtmcdcfbhpdacfaaDoor.Sx

open Go

set_option linter.unusedVariables false

set_option linter.unusedSimpArgs false

/-- The cells from an address on. -/
def Cells (w : World) (A : Option Addr) (cs : List Value) : Prop :=
  cs = [] ∨ ∃ b off, A = some ⟨b, off, none⟩ ∧ ∀ i (h : i < cs.length), w.cell? ⟨b, off + i, none⟩ = some cs[i]
def bv (l : List UInt8) : List Value := l.map fun b => .int .u8 (b.toNat : Int)
theorem bs_cells {w : World} {A : Option Addr} {l : List UInt8} : Bs w A l ↔ Cells w A (bv l) := by
  constructor
  · rintro (rfl | ⟨b, off, h1, h2⟩)
    · exact .inl rfl
    · refine .inr ⟨b, off, h1, fun i h => ?_⟩
      simp only [bv, List.length_map] at h
      rw [h2 i h]
      simp [bv]
  · rintro (h | ⟨b, off, h1, h2⟩)
    · exact .inl (by simpa [bv] using h)
    · refine .inr ⟨b, off, h1, fun i h => ?_⟩
      rw [h2 i (by simpa [bv] using h)]
      simp [bv]
/-- The block of a slice's address. -/
def inBlk (A : Option Addr) (k : Nat) : Prop := ∃ off sp, A = some ⟨k, off, sp⟩
theorem Cells.ext {w w' : World} {A : Option Addr} {cs : List Value} {S : Nat → Prop} (h : Cells w A cs) (he : Ext S w w') (hA : ∀ k, inBlk A k → ¬ S k) : Cells w' A cs := by
  rcases h with rfl | ⟨b, off, rfl, h⟩
  · exact .inl rfl
  · exact .inr ⟨b, off, rfl, fun i hi => he.cell (h i hi) (hA b ⟨off, none, rfl⟩)⟩
theorem Cells.of_at {w : World} {b : Nat} {cs sp : List Value} {t : Nat} {fr : Nat × Nat} (h : At w b (cs ++ sp) t fr) : Cells w (some ⟨b, 0, none⟩) cs :=
  .inr ⟨b, 0, rfl, fun i hi => h.cell (by rw [Nat.zero_add, List.getElem?_append_left hi]; simp)⟩
theorem Cells.whole {w : World} {b : Nat} {cs : List Value} {t : Nat} {fr : Nat × Nat} (h : At w b cs t fr) : Cells w (some ⟨b, 0, none⟩) cs := Cells.of_at (sp := []) (by rw [List.append_nil]; exact h)
theorem Cells.lt {w : World} {A : Option Addr} {cs : List Value} (h : Cells w A cs) (hne : cs ≠ []) {k : Nat} (hk : inBlk A k) : k < w.heap.size := by
  rcases h with rfl | ⟨b, off, rfl, h⟩
  · exact absurd rfl hne
  · obtain ⟨o, sp, e⟩ := hk
    injection e with e
    injection e with e1 _ _
    subst e1
    have hpos : 0 < cs.length := List.length_pos_iff.2 hne
    exact World.block_lt_of_cell? w ⟨b, off + 0, none⟩ (h 0 hpos)
theorem Cells.drop {w : World} {A : Option Addr} {cs : List Value} (h : Cells w A cs) (k m : Nat) (hm : m = k → cs.drop k = []) (sz : Nat) (hsz : sz = 1) : Cells w (sla A k m sz) (cs.drop k) := by
  subst hsz
  rcases h with rfl | ⟨b, off, rfl, h⟩
  · exact .inl (by simp)
  · unfold sla
    split
    · rename_i e; exact .inl (hm e)
    · refine .inr ⟨b, off + k, by simp [add_none], fun i hi => ?_⟩
      simp only [List.length_drop] at hi
      rw [Nat.add_assoc, h (k + i) (by omega)]
      simp
theorem Cells.take {w : World} {A : Option Addr} {cs : List Value} (h : Cells w A cs) (k : Nat) : Cells w A (cs.take k) := by
  rcases h with rfl | ⟨b, off, rfl, h⟩
  · exact .inl (by simp)
  · refine .inr ⟨b, off, rfl, fun i hi => ?_⟩
    rw [h i (by simp at hi; omega)]
    simp

/-- A string out of bytes, at a stop. -/
theorem RdS.of {m : Md} {w : World} {A : Option Addr} {n : Nat} {K : ByteArray → Prop} {l : List UInt8} (h : Cells w A (bv l)) (hn : n = l.length) (hs : ∀ k, inBlk A k → m.safe k) (k : K ⟨l.toArray⟩) : RdS m w A n K := by
  refine ⟨l, hn.symm, ?_, k⟩
  cases m with
  | plain => exact bs_cells.2 h
  | any S => exact fun w' hw => bs_cells.2 (h.ext hw fun k hk => hs k hk)
theorem RdA.of {m : Md} {w : World} {b off n : Nat} {K : List Value → Prop} (cs : List Value) (h : ∀ i (hi : i < cs.length), w.cell? ⟨b, off + i, none⟩ = some cs[i]) (hn : cs.length = n) (hs : m.safe b) (k : K cs) : RdA m w b off n K := by
  refine ⟨cs, hn, ?_, k⟩
  cases m with
  | plain => exact h
  | any S => exact fun w' hw i hi => hw.cell (h i hi) hs
theorem RdA.whole {m : Md} {w : World} {b n : Nat} {K : List Value → Prop} {cs : List Value} {t : Nat} {fr : Nat × Nat} (h : At w b cs t fr) (hn : cs.length = n) (hs : m.safe b) (k : K cs) : RdA m w b 0 n K :=
  RdA.of cs (fun i hi => h.cell (by rw [Nat.zero_add]; simp [hi])) hn hs k
theorem StA.all {m : Md} {w : World} {b : Nat} {vs : List Value} {K : World → Prop} {cs : List Value} {t : Nat} (h : At w b cs t (0, 0)) (hl : vs.length = cs.length) (h1 : ∀ v ∈ vs, v.oneCell' = true) (hm : m.wr b)
    (k : ∀ w', At w' b vs t (0, 0) → Ext (· = b) w w' → K w') : StA m w b 0 vs K :=
  StA.mk h (by omega) (.inl (Nat.le_refl _)) h1 hm fun w' h' x' => k w' (by
    have e : ov cs 0 vs = vs := by simp [ov, hl]
    rwa [e] at h') x'
/-- A source of append or copy: m elements of sz cells each. -/
structure Src (P : Program) (w : World) (sz : Nat) (x : Value) (m : Nat) (news : List Value) : Prop where
  len : ∀ w', (Builtin.lenOf x).run P w' = .ok m w'
  size : news.length = m * sz
  cells : ∀ w' k, w'.heap = w.heap → k ≤ m → (Builtin.firstCells sz k x).run P w' = .ok (news.take (k * sz)).toArray w'
  one : ∀ v ∈ news, v.oneCell' = true
theorem cell_heap {w w' : World} (h : w'.heap = w.heap) (a : Addr) : w'.cell? a = w.cell? a := by simp [World.cell?, h]
theorem Src.slice {P : Program} {w : World} {sz : Nat} {A : Option Addr} {m c : Nat} {news : List Value} (h : Cells w A news) (hl : news.length = m * sz) (h1 : ∀ v ∈ news, v.oneCell' = true) : Src P w sz (.slice A m c) m news := by
  refine ⟨fun w' => rfl, hl, fun w' k hw hk => ?_, h1⟩
  have hkl : k * sz ≤ news.length := by rw [hl]; exact Nat.mul_le_mul_right _ hk
  rcases h with rfl | ⟨b, off, rfl, h⟩
  · have hz : k * sz = 0 := by simpa using hkl
    cases A with
    | none => simp [Builtin.firstCells]
    | some a => simp [Builtin.firstCells, hz, loadCells, loadCellsFrom]
  · have := run_loadCells_list (P := P) w' ⟨b, off, none⟩ (news.take (k * sz)) (fun j v hj => by
      obtain ⟨h2, h3⟩ := List.getElem?_eq_some_iff.1 hj
      rw [add_none, cell_heap hw, h j (by simp at h2; omega)]
      simp at h3
      rw [← h3])
    have hlen : (news.take (k * sz)).length = k * sz := by simp; omega
    rw [hlen] at this
    simp only [Builtin.firstCells, this]
theorem one_bv (l : List UInt8) : ∀ v ∈ bv l, v.oneCell' = true := by
  intro v hv
  simp only [bv, List.mem_map] at hv
  obtain ⟨b, _, rfl⟩ := hv
  rfl
theorem Src.str {P : Program} {w : World} (s : ByteArray) : Src P w 1 (.string s) s.size (bv s.data.toList) := by
  refine ⟨fun w' => rfl, by simp [bv], fun w' k hw hk => ?_, one_bv _⟩
  simp only [Builtin.firstCells, Sem.run_pure]
  congr 1
  apply Array.ext'
  have : (s.extract 0 k).data.toList = s.data.toList.take k := by
    rw [ByteArray.data_extract]
    simp
  simp only [Array.toList_map, this, bv, Nat.mul_one, List.map_take, List.toList_toArray]

/-- A slice that the call itself has made: nil, or at the head of a block from `base` on. -/
def OS (w : World) (base e sz : Nat) (v : Value) (n : Nat) (xs : List Value) : Prop :=
  xs.length = n * sz ∧ ((v = .slice none 0 0 ∧ n = 0) ∨
    ∃ b c sp fr, v = .slice (some ⟨b, 0, none⟩) n c ∧ base ≤ b ∧ n ≤ c ∧ At w b (xs ++ sp) e fr ∧ (xs ++ sp).length = c * sz ∧ (fr = (0, 0) ∨ c * sz ≤ fr.1))
def blkOf (v : Value) (k : Nat) : Prop := ∃ off sp n c, v = .slice (some ⟨k, off, sp⟩) n c
theorem OS.nil (w : World) (base e sz : Nat) : OS w base e sz (.slice none 0 0) 0 [] := ⟨by simp, .inl ⟨rfl, rfl⟩⟩
theorem OS.form {w : World} {base e sz n : Nat} {v : Value} {xs : List Value} (h : OS w base e sz v n xs) : ∃ A c, v = .slice A n c ∧ n ≤ c ∧ Cells w A xs ∧ (∀ k, inBlk A k → base ≤ k) := by
  obtain ⟨hl, h⟩ := h
  rcases h with ⟨rfl, rfl⟩ | ⟨b, c, sp, fr, rfl, hb, hc, hat, _, hf⟩
  · exact ⟨none, 0, rfl, Nat.le_refl _, .inl (List.eq_nil_of_length_eq_zero (by simpa using hl)), fun k ⟨_, _, e⟩ => by cases e⟩
  · exact ⟨_, c, rfl, hc, Cells.of_at hat, fun k ⟨_, _, e⟩ => by injection e with e; injection e with e1 _ _; omega⟩
theorem OS.ext {w w' : World} {base e sz n : Nat} {v : Value} {xs : List Value} {S : Nat → Prop} (h : OS w base e sz v n xs) (he : Ext S w w') (hS : ∀ k, blkOf v k → ¬ S k) : OS w' base e sz v n xs := by
  refine ⟨h.1, ?_⟩
  rcases h.2 with h2 | ⟨b, c, sp, fr, rfl, hb, hc, hat, h3, hf⟩
  · exact .inl h2
  · exact .inr ⟨b, c, sp, fr, rfl, hb, hc, hat.ext he (hS b ⟨0, none, n, c, rfl⟩), h3, hf⟩
theorem OS.lt {w : World} {base e sz n : Nat} {v : Value} {xs : List Value} (h : OS w base e sz v n xs) {k : Nat} (hk : blkOf v k) : k < w.heap.size := by
  rcases h.2 with ⟨rfl, _⟩ | ⟨b, c, sp, fr, rfl, hb, hc, hat, h3, hf⟩
  · obtain ⟨_, _, _, _, e⟩ := hk; cases e
  · obtain ⟨_, _, _, _, e⟩ := hk
    injection e with e _ _
    injection e with e
    injection e with e1 _ _
    subst e1
    exact hat.lt
theorem OS.new {w w' : World} {base b e sz n c : Nat} {xs sp : List Value} {fr : Nat × Nat} (h : New w w' b (xs ++ sp) e fr) (hb : base ≤ w.heap.size) (hl : xs.length = n * sz) (hc : n ≤ c) (h2 : (xs ++ sp).length = c * sz) (hf : fr = (0, 0) ∨ c * sz ≤ fr.1) :
    OS w' base e sz (.slice (some ⟨b, 0, none⟩) n c) n xs := ⟨hl, .inr ⟨b, c, sp, fr, rfl, Nat.le_trans hb h.ge, hc, h.at_, h2, hf⟩⟩

theorem OS.ge {w : World} {base e sz n : Nat} {v : Value} {xs : List Value} (h : OS w base e sz v n xs) {k : Nat} (hk : blkOf v k) : base ≤ k := by
  obtain ⟨A, c, rfl, _, _, hb⟩ := h.form
  obtain ⟨o, s, _, _, e⟩ := hk
  injection e with e _ _
  exact hb k ⟨o, s, e⟩
/-- A step that writes at most into a slice of the call's own. -/
theorem Ext.app {S : Nat → Prop} {w w0 w' : World} {base e sz n : Nat} {v : Value} {xs : List Value} (h : Ext S w w0) (ho : OS w0 base e sz v n xs) (hb : w.heap.size ≤ base) (h' : Ext (blkOf v) w0 w') : Ext S w w' :=
  h.trans' h' (fun _ _ x => x) (fun i hi hk => by have := ho.ge hk; omega)
theorem OS.keep {w w' : World} {base e sz n : Nat} {v : Value} {xs : List Value} (h : OS w base e sz v n xs) (he : Ext Non w w') : OS w' base e sz v n xs := h.ext he fun _ _ x => x
theorem blkOf_of {A : Option Addr} {k n c : Nat} (h : inBlk A k) : blkOf (.slice A n c) k := by
  obtain ⟨o, s, e⟩ := h
  exact ⟨o, s, n, c, by rw [e]⟩

/-- A store into a slice of the call's own. -/
theorem OS.put {w : World} {base e sz n c : Nat} {A : Option Addr} {xs : List Value} (h : OS w base e sz (.slice A n c) n xs) {i : Nat} (hi : i < xs.length) :
    ∃ b, A = some ⟨b, 0, none⟩ ∧ base ≤ b ∧ ∀ (m : Md) (v : Value) (K : World → Prop), m.wr b → (∀ w', OS w' base e sz (.slice A n c) n (xs.set i v) → Ext (· = b) w w' → K w') → St1 m w b i v K := by
  rcases h.2 with ⟨e, rfl⟩ | ⟨b, c', sp, fr, e, hb, hc, hat, h3, hf⟩
  · have := h.1
    omega
  · injection e with e1 _ e2
    subst e1 e2
    have hlen : xs.length ≤ c * sz := by rw [← h3, List.length_append]; omega
    refine ⟨b, rfl, hb, fun m v K hm k => St1.mk hat (by rw [List.length_append]; omega) (by rcases hf with rfl | hf <;> omega) hm fun w' h' x' => k w' ⟨by rw [List.length_set]; exact h.1, .inr ⟨b, c, sp, fr, rfl, hb, hc, ?_, ?_, hf⟩⟩ x'⟩
    · rwa [List.set_append_left _ _ hi] at h'
    · rw [List.length_append, List.length_set, ← List.length_append]
      exact h3

theorem zeroCells_len (z : Array Value) (n : Nat) : (Builtin.zeroCells z n).toList.length = n * z.size := by simp [Builtin.zeroCells]

/-- append of the elements of a slice or a string, step by step. -/
def app (P : Program) (A : Option Addr) (n c : Nat) (x : Value) (m e : Nat) (ei : TI) : Sem Value :=
  if n + m ≤ c then do
    let new ← Builtin.firstCells ei.size m x
    if let some a := A then storeCells (a.add (n * ei.size)) new.toList
    pure (.slice A (n + m) c)
  else do
    let newCap ← choose (.appendCap (n + m) c e)
    askRoom (newCap * ei.bytes)
    let old ← Builtin.firstCells ei.size n (.slice A n c)
    let new ← Builtin.firstCells ei.size m x
    let a ← newRow e (old ++ new ++ Builtin.zeroCells ei.zero.cells (newCap - (n + m)))
    pure (.slice (some a) (n + m) newCap)
set_option maxHeartbeats 1000000 in
theorem append_app {P : Program} {ts tx ty e sz0 by0 : Nat} {z0 : Value} {ei : TI} (ht : TIok P ts ⟨.slice e, sz0, by0, z0⟩) (he : TIok P e ei) (hx : (∃ e', P.underlying tx = some (.slice e')) ∨ P.underlying tx = some .string)
    {w : World} {A : Option Addr} {n c m : Nat} {x : Value} (hm : ∀ w', (Builtin.lenOf x).run P w' = .ok m w') (hb : (n + m) * ei.bytes ≤ 140737488355328) (h63 : n + m ≤ 140737488355328) :
    (Builtin.append_ #[ts, tx] ty #[.slice A n c, x]).run P w = (app P A n c x m e ei).run P w := by
  obtain ⟨i, hi, hi1, hi2, hi3⟩ := he.get
  have h3 : ¬ (((n + m : Nat) : Int) > IntKind.i64.max) := by
    have : IntKind.i64.max = 9223372036854775807 := by decide
    omega
  unfold app
  rcases hx with ⟨e', hx⟩ | hx
  all_goals
    by_cases hc : n + m ≤ c
    · simp only [Builtin.append_, List.getElem?_toArray, List.getElem?_cons_zero, List.getElem?_cons_succ, Sem.run_bind, run_underlying ht.slice, run_underlying hx, Result.andThen_ok, he.run_size, Sem.run_pure, Bool.false_eq_true, if_false, hm, if_pos hc, Bool.not_false, if_true, Sem.run_ite]
      try rfl
    · have hg := growslice_fits (need := n + m) (old := c) (bytes := ei.bytes) (by omega) hb
      have h2 : ¬ (Builtin.nextslicecap (n + m) c * ei.bytes > 2 ^ 48) := by omega
      simp only [Builtin.append_, List.getElem?_toArray, List.getElem?_cons_zero, List.getElem?_cons_succ, Sem.run_bind, run_underlying ht.slice, run_underlying hx, Result.andThen_ok, he.run_size, Sem.run_pure, Bool.false_eq_true, if_false, hm, if_neg hc, Bool.not_false, if_true, Sem.run_ite,
        typeInfo, run_program, hi, hi2, h3, h2, false_and]
      simp only [he.run_zero, Result.andThen_ok]

theorem app_grow {P : Program} {e : Nat} {ei : TI} (hz : ei.zero.cells.size = ei.size) {w : World} {A : Option Addr} {n c m : Nat} {x : Value} {xs news : List Value} (hx : Cells w A xs) (hxl : xs.length = n * ei.size) (h1 : ∀ v ∈ xs, v.oneCell' = true)
    (hs : Src P w ei.size x m news) (hc : c < n + m) (h63 : n + m ≤ 140737488355328) :
    ∃ b c' sp w', (app P A n c x m e ei).run P w = .ok (.slice (some ⟨b, 0, none⟩) (n + m) c') w' ∧ New w w' b (xs ++ news ++ sp) e (0, 0) ∧ n + m ≤ c' ∧ (xs ++ news ++ sp).length = c' * ei.size := by
  have hge := grownCap_ge w (n + m) c e
  have hold := (Src.slice (P := P) (c := c) hx hxl h1).cells w.drew n rfl (Nat.le_refl _)
  have hnew := hs.cells w.drew m rfl (Nat.le_refl _)
  rw [List.take_of_length_le (by rw [hxl]; exact Nat.le_refl _)] at hold
  rw [List.take_of_length_le (by rw [hs.size]; exact Nat.le_refl _)] at hnew
  have hcap : ∀ q, q = Question.appendCap (n + m) c e → q.cut (w.tape w.drawn q) = grownCap w (n + m) c e := by rintro q rfl; rfl
  have e1 : xs.toArray ++ news.toArray ++ Builtin.zeroCells ei.zero.cells (grownCap w (n + m) c e - (n + m)) = (xs ++ news ++ (Builtin.zeroCells ei.zero.cells (grownCap w (n + m) c e - (n + m))).toList).toArray := by
    apply Array.ext'; simp
  refine ⟨w.heap.size, grownCap w (n + m) c e, (Builtin.zeroCells ei.zero.cells (grownCap w (n + m) c e - (n + m))).toList, w.drew.alloc (.cells (xs ++ news ++ (Builtin.zeroCells ei.zero.cells (grownCap w (n + m) c e - (n + m))).toList).toArray e), ?_, ?_, hge, ?_⟩
  · have hdr : ({ heap := w.heap, tape := w.tape, drawn := w.drawn + 1, os := w.os, output := w.output } : World) = w.drew := rfl
    unfold app
    rw [if_neg (by omega)]
    simp only [Sem.run_bind, run_choose, Question.forced, Bool.false_eq_true, if_false, Result.andThen_ok, run_askRoom, hdr, hold, hnew, newRow, run_newObj, Sem.run_pure, hcap _ rfl, e1]
    rfl
  · exact ⟨(Ext.drew _ _).trans (Ext.alloc _ _ _), Nat.le_refl _, heap_alloc_new w.drew _⟩
  · simp only [List.length_append, zeroCells_len, hz, hxl, hs.size, ← Nat.add_mul]
    congr 1
    omega
theorem app_nothing {P : Program} {e : Nat} {ei : TI} {w : World} {A : Option Addr} {n c : Nat} {x : Value} {news : List Value} (hs : Src P w ei.size x 0 news) (hc : n ≤ c) : (app P A n c x 0 e ei).run P w = .ok (.slice A n c) w := by
  have hnew := hs.cells w 0 rfl (Nat.le_refl _)
  unfold app
  rw [if_pos (by omega)]
  cases A <;> simp [hnew, storeCells]
theorem app_fit {P : Program} {e t : Nat} {ei : TI} {w : World} {b n c m : Nat} {x : Value} {xs sp news : List Value} {fr : Nat × Nat} (hat : At w b (xs ++ sp) t fr) (hxl : xs.length = n * ei.size) (hl : (xs ++ sp).length = c * ei.size) (hf : fr = (0, 0) ∨ c * ei.size ≤ fr.1)
    (hs : Src P w ei.size x m news) (hc : n + m ≤ c) :
    ∃ w', (app P (some ⟨b, 0, none⟩) n c x m e ei).run P w = .ok (.slice (some ⟨b, 0, none⟩) (n + m) c) w' ∧ At w' b (xs ++ news ++ sp.drop news.length) t fr ∧ Ext (· = b) w w' := by
  have hnew := hs.cells w m rfl (Nat.le_refl _)
  rw [List.take_of_length_le (by rw [hs.size]; exact Nat.le_refl _)] at hnew
  have hm : (n + m) * ei.size ≤ c * ei.size := Nat.mul_le_mul_right _ hc
  have hadd : (n + m) * ei.size = n * ei.size + m * ei.size := Nat.add_mul _ _ _
  have hsz := hs.size
  obtain ⟨w', h1, h2, h3⟩ := run_storeCells (P := P) b (n * ei.size) news 0 w (xs ++ sp) t fr hat (by omega) (by rcases hf with rfl | hf; exact .inl (Nat.zero_le _); exact .inr (by omega)) hs.one
  refine ⟨w', ?_, ?_, h3⟩
  · unfold app
    rw [if_pos hc]
    simp only [Sem.run_bind, hnew, Result.andThen_ok, add_none, Nat.zero_add, h1, Sem.run_pure]
  · have e1 : ov (xs ++ sp) (n * ei.size + 0) news = xs ++ news ++ sp.drop news.length := by
      simp only [ov, Nat.add_zero, ← hxl]
      rw [List.take_left, List.drop_append, List.drop_eq_nil_of_le (by omega)]
      simp
    rw [e1] at h2
    exact h2

/-- append onto a slice of the call's own, by its steps. -/
theorem run_app {P : Program} {e : Nat} {ei : TI} (hz : ei.zero.cells.size = ei.size)
    {w : World} {base n m c : Nat} {A : Option Addr} {x : Value} {xs news : List Value} (h : OS w base e ei.size (.slice A n c) n xs) (h1 : ∀ v ∈ xs, v.oneCell' = true) (hs : Src P w ei.size x m news) (h63 : n + m ≤ 140737488355328) (hbase : base ≤ w.heap.size) :
    ∃ v' w', (app P A n c x m e ei).run P w = .ok v' w' ∧ OS w' base e ei.size v' (n + m) (xs ++ news) ∧ Ext (blkOf (.slice A n c)) w w' ∧ (∀ k, blkOf v' k → blkOf (.slice A n c) k ∨ w.heap.size ≤ k) ∧ (c ≤ n → Ext Non w w') := by
  obtain ⟨A', c0, e0, hnc, hcells, hbk⟩ := h.form
  obtain ⟨rfl, -, rfl⟩ := Value.slice.inj e0
  have hlen : (xs ++ news).length = (n + m) * ei.size := by rw [List.length_append, h.1, hs.size, Nat.add_mul]
  by_cases hc : n + m ≤ c
  · by_cases hm : m = 0
    · subst hm
      have hn0 : news = [] := List.eq_nil_of_length_eq_zero (by simpa using hs.size)
      subst hn0
      refine ⟨_, w, app_nothing hs hnc, ?_, Ext.refl _ _, fun k hk => .inl hk, fun _ => Ext.refl _ _⟩
      simpa using h
    · rcases h.2 with ⟨e1, e2⟩ | ⟨b, c', sp, fr, e1, hb', hc', hat, h3, hf⟩
      · injection e1 with _ _ e3
        omega
      · injection e1 with e3 _ e4
        subst e3 e4
        obtain ⟨w', h4, h5, h6⟩ := app_fit (P := P) (e := e) hat h.1 h3 hf hs hc
        refine ⟨_, w', h4, ⟨hlen, .inr ⟨b, c, _, fr, rfl, hb', hc, h5, ?_, hf⟩⟩, h6.mono fun i hi => by subst hi; exact ⟨_, _, _, _, rfl⟩, fun k hk => .inl ?_, fun hcn => by omega⟩
        · have hm2 : (n + m) * ei.size ≤ c * ei.size := Nat.mul_le_mul_right _ hc
          simp only [List.length_append, List.length_drop] at h3 hlen ⊢
          omega
        · obtain ⟨o, s, n', c', ek⟩ := hk
          injection ek with ek _ _
          exact ⟨o, s, n, c, by rw [ek]⟩
  · obtain ⟨b, c', sp, w', h4, h5, h6, h7⟩ := app_grow (P := P) (e := e) (c := c) hz hcells h.1 h1 hs (by omega) h63
    refine ⟨_, w', h4, OS.new h5 hbase hlen h6 h7 (.inl rfl), h5.ext.mono fun _ x => x.elim, fun k hk => .inr ?_, fun _ => h5.ext⟩
    obtain ⟨o, s, n', c', ek⟩ := hk
    injection ek with ek _ _
    injection ek with ek
    injection ek with ek _ _
    rw [← ek]
    exact h5.ge
/-- append onto a slice of the call's own. -/
theorem run_append {P : Program} {ts tx ty e sz0 by0 : Nat} {z0 : Value} {ei : TI} (ht : TIok P ts ⟨.slice e, sz0, by0, z0⟩) (he : TIok P e ei) (hx : (∃ e', P.underlying tx = some (.slice e')) ∨ P.underlying tx = some .string) (hz : ei.zero.cells.size = ei.size)
    {w : World} {base n m : Nat} {v x : Value} {xs news : List Value} (h : OS w base e ei.size v n xs) (h1 : ∀ v ∈ xs, v.oneCell' = true) (hs : Src P w ei.size x m news) (hb : (n + m) * ei.bytes ≤ 140737488355328) (h63 : n + m ≤ 140737488355328) (hbase : base ≤ w.heap.size) :
    ∃ v' w', (Builtin.append_ #[ts, tx] ty #[v, x]).run P w = .ok v' w' ∧ OS w' base e ei.size v' (n + m) (xs ++ news) ∧ Ext (blkOf v) w w' ∧ (∀ k, blkOf v' k → blkOf v k ∨ w.heap.size ≤ k) ∧ (∀ A c, v = .slice A n c → c ≤ n → Ext Non w w') := by
  obtain ⟨A, c, rfl, hnc, hcells, hbk⟩ := h.form
  obtain ⟨v', w', k1, k2, k3, k4, k5⟩ := run_app (P := P) hz h h1 hs h63 hbase
  exact ⟨v', w', by rw [append_app ht he hx hs.len hb h63, k1], k2, k3, k4, fun A' c2 ec hcn => k5 (by injection ec with _ _ e5; omega)⟩
/-- append at a stop. -/
theorem Run.app {P : Program} {m0 : Md} {ts tx ty e sz0 by0 : Nat} {z0 : Value} {ei : TI} (ht : TIok P ts ⟨.slice e, sz0, by0, z0⟩) (he : TIok P e ei) (hx : (∃ e', P.underlying tx = some (.slice e')) ∨ P.underlying tx = some .string) (hz : ei.zero.cells.size = ei.size)
    {w : World} {base n m : Nat} {v x : Value} {xs news : List Value} {K : Value → World → Prop} (h : OS w base e ei.size v n xs) (h1 : ∀ v ∈ xs, v.oneCell' = true) (hs : Src P w ei.size x m news) (hb : (n + m) * ei.bytes ≤ 140737488355328) (h63 : n + m ≤ 140737488355328) (hbase : base ≤ w.heap.size)
    (hm : ∀ w', Ext (blkOf v) w w' → m0.W w w')
    (k : ∀ A c w', n + m ≤ c → OS w' base e ei.size (.slice A (n + m) c) (n + m) (xs ++ news) → Ext (blkOf v) w w' → (∀ k, inBlk A k → blkOf v k ∨ w.heap.size ≤ k) → K (.slice A (n + m) c) w') :
    Run P m0 w (Builtin.append_ #[ts, tx] ty #[v, x]) K := by
  obtain ⟨v', w', h2, h3, h4, h5, _⟩ := run_append (ty := ty) ht he hx hz h h1 hs hb h63 hbase
  obtain ⟨A, c, rfl, hc, _, _⟩ := h3.form
  exact ⟨_, w', h2, hm w' h4, k A c w' hc h3 h4 (fun k ⟨o, s, e⟩ => h5 k ⟨o, s, _, _, by rw [e]⟩)⟩
/-- append at a stop, onto a slice without room. -/
theorem Run.app0 {P : Program} {m0 : Md} {ts tx ty e sz0 by0 : Nat} {z0 : Value} {ei : TI} (ht : TIok P ts ⟨.slice e, sz0, by0, z0⟩) (he : TIok P e ei) (hx : (∃ e', P.underlying tx = some (.slice e')) ∨ P.underlying tx = some .string) (hz : ei.zero.cells.size = ei.size)
    {w : World} {base n m c0 : Nat} {A0 : Option Addr} {x : Value} {xs news : List Value} {K : Value → World → Prop} (h : OS w base e ei.size (.slice A0 n c0) n xs) (hc0 : c0 ≤ n) (h1 : ∀ v ∈ xs, v.oneCell' = true) (hs : Src P w ei.size x m news) (hb : (n + m) * ei.bytes ≤ 140737488355328) (h63 : n + m ≤ 140737488355328) (hbase : base ≤ w.heap.size)
    (hm : ∀ w', Ext Non w w' → m0.W w w')
    (k : ∀ A c w', n + m ≤ c → OS w' base e ei.size (.slice A (n + m) c) (n + m) (xs ++ news) → Ext Non w w' → K (.slice A (n + m) c) w') :
    Run P m0 w (Builtin.append_ #[ts, tx] ty #[.slice A0 n c0, x]) K := by
  obtain ⟨v', w', h2, h3, h4, h5, h6⟩ := run_append (ty := ty) ht he hx hz h h1 hs hb h63 hbase
  obtain ⟨A, c, rfl, hc, _, _⟩ := h3.form
  exact ⟨_, w', h2, hm w' (h6 _ _ rfl hc0), k A c w' hc h3 (h6 _ _ rfl hc0)⟩

/-- copy into a block that is known, at a stop. -/
theorem Run.copy {P : Program} {m0 : Md} {ts tx ty e sz0 by0 : Nat} {z0 : Value} {ei : TI} (ht : TIok P ts ⟨.slice e, sz0, by0, z0⟩) (he : TIok P e ei) {w : World} {A : Option Addr} {n c m : Nat} {x : Value} {news : List Value} {K : Value → World → Prop}
    (hs : Src P w ei.size x m news) {b off t : Nat} {cs : List Value} {fr : Nat × Nat} (hA : 0 < min m n → A = some ⟨b, off, none⟩) (hat : At w b cs t fr) (hl : off + min m n * ei.size ≤ cs.length) (hf : fr.2 ≤ off ∨ off + min m n * ei.size ≤ fr.1) (hm : m0.wr b)
    (k : ∀ w', At w' b (ov cs off (news.take (min m n * ei.size))) t fr → Ext (· = b) w w' → K (.int .i64 ((min m n : Nat) : Int)) w') :
    Run P m0 w (Builtin.copy_ #[ts, tx] ty #[.slice A n c, x]) K := by
  have hmin : Nat.min m n = min m n := rfl
  have hnew := hs.cells w (min m n) rfl (Nat.min_le_left _ _)
  have hlen : (news.take (min m n * ei.size)).length = min m n * ei.size := by
    rw [List.length_take, hs.size]
    exact Nat.min_eq_left (Nat.mul_le_mul_right _ (Nat.min_le_left _ _))
  by_cases h0 : 0 < min m n
  · obtain rfl := hA h0
    obtain ⟨w', h1, h2, h3⟩ := run_storeCells (P := P) b off (news.take (min m n * ei.size)) 0 w cs t fr hat (by omega) (by omega) (fun v hv => hs.one v (List.mem_of_mem_take hv))
    refine ⟨_, w', ?_, Md.W_one h3 hm, k w' (by simpa using h2) h3⟩
    simp only [Builtin.copy_, List.getElem?_toArray, List.getElem?_cons_zero, List.getElem?_cons_succ, Sem.run_bind, run_underlying ht.slice, Result.andThen_ok, hs.len, he.run_size, hmin, hnew, h1, Sem.run_pure, goInt]
  · have hz : min m n = 0 := by omega
    refine ⟨_, w, ?_, Md.W_ext (Ext.refl _ _), k w ?_ (Ext.refl _ _)⟩
    · simp only [hz, Nat.zero_mul, List.take_zero] at hnew
      cases A <;> simp only [Builtin.copy_, List.getElem?_toArray, List.getElem?_cons_zero, List.getElem?_cons_succ, Sem.run_bind, run_underlying ht.slice, Result.andThen_ok, hs.len, he.run_size, hmin, hz, hnew, Sem.run_pure, goInt, storeCells]
    · simpa [hz, ov_nil] using hat

/-- []byte(s) at a stop. -/
theorem Run.bytes {P : Program} {m0 : Md} {e : Nat} {w : World} {s : ByteArray} {K : Value → World → Prop}
    (k : ∀ b c sp w', s.size + sp.length = c → New w w' b (bv s.data.toList ++ sp) e (c, c + 1) → K (.slice (some ⟨b, 0, none⟩) s.size c) w') : Run P m0 w (Conv.stringToBytes e s) K := by
  have hge := grownCap_ge w s.size 0 e
  have hcap : ∀ q, q = Question.appendCap s.size 0 e → q.cut (w.tape w.drawn q) = grownCap w s.size 0 e := by rintro q rfl; rfl
  have hdr : ({ heap := w.heap, tape := w.tape, drawn := w.drawn + 1, os := w.os, output := w.output } : World) = w.drew := rfl
  have e1 : (s.data.map fun b => Value.int .u8 (b.toNat : Int)) ++ Array.replicate (grownCap w s.size 0 e - s.size) (Value.int .u8 0) = (bv s.data.toList ++ List.replicate (grownCap w s.size 0 e - s.size) (Value.int .u8 0)).toArray := by
    apply Array.ext'
    simp [bv]
  have hsz : (bv s.data.toList ++ List.replicate (grownCap w s.size 0 e - s.size) (Value.int .u8 0)).length = grownCap w s.size 0 e := by
    have : s.data.toList.length = s.size := by simp
    simp only [List.length_append, bv, List.length_map, this, List.length_replicate]
    omega
  obtain ⟨cs, hcs⟩ : ∃ cs, cs = bv s.data.toList ++ List.replicate (grownCap w s.size 0 e - s.size) (Value.int .u8 0) := ⟨_, rfl⟩
  obtain ⟨c, hc⟩ : ∃ c, c = grownCap w s.size 0 e := ⟨_, rfl⟩
  have hcs' : cs.length = c := by rw [hcs, hsz, hc]
  have key : (Conv.stringToBytes e s).run P w = .ok (.slice (some ⟨w.heap.size, 0, none⟩) s.size c) ((w.drew.alloc (.cells cs.toArray e)).freeze ⟨w.heap.size, c, none⟩ 1) := by
    have hshape : (w.drew.alloc (.cells cs.toArray e)).shape? w.heap.size = some (e, c) := by
      have := heap_alloc_new w.drew (.cells cs.toArray e)
      simp only [World.shape?]
      rw [show w.heap.size = w.drew.heap.size from rfl, this]
      simp [hcs']
    simp only [Conv.stringToBytes, Sem.run_bind, run_choose, Question.forced, Bool.false_eq_true, if_false, Result.andThen_ok, hcap _ rfl, hdr, e1, newRow, run_newObj, Sem.run_pure, World.alloc_eq]
    rw [← hcs, ← hc]
    simp only [markStringish, Sem.run_bind, run_shape, World.size_drew, hshape, Result.andThen_ok, run_freeze, Sem.run_pure]
  refine ⟨_, _, key, ?_⟩
  have hnew : New w ((w.drew.alloc (.cells cs.toArray e)).freeze ⟨w.heap.size, c, none⟩ 1) w.heap.size cs e (c, c + 1) := by
    have hlt : w.heap.size < (w.drew.alloc (.cells cs.toArray e)).heap.size := by simp
    refine ⟨⟨rfl, rfl, rfl, by simp [World.freeze], fun k hk _ => ?_⟩, Nat.le_refl _, ?_⟩
    · simp only [World.freeze, Nat.succ_ne_zero, if_false, Array.getElem?_modify]
      rw [if_neg (by omega)]
      exact RowKit.Below.heap_alloc w.drew _ k hk
    · have := heap_alloc_new w.drew (.cells cs.toArray e)
      unfold At
      simp only [World.freeze, Nat.succ_ne_zero, if_false, Array.getElem?_modify, if_true]
      rw [show w.heap.size = w.drew.heap.size from rfl, this]
      simp
  refine ⟨Md.W_ext hnew.ext, k _ c (List.replicate (grownCap w s.size 0 e - s.size) (Value.int .u8 0)) _ ?_ ?_⟩
  · simp only [List.length_replicate]
    omega
  · rw [← hcs]
    exact hnew
end Go.Proofs.YtmcdcfbhpdacfaaDoor.Sx
/-
  append of noughts onto no slice at all: what make within append does.
-/

namespace Go.Proofs.YtmcdcfbhpdacfaaDoor.Sx

open Go

set_option linter.unusedVariables false

set_option linter.unusedSimpArgs false

/-- What append of a number of noughts does is what append of the noughts themselves does. -/
theorem append_make {P : Program} {ts ti ty e sz0 by0 : Nat} {z0 : Value} {ei : TI} (ht : TIok P ts ⟨.slice e, sz0, by0, z0⟩) (he : TIok P e ei) {k : IntKind} (hx : P.underlying ti = some (.int k)) (hz : ei.zero.cells.size = ei.size)
    {w : World} {A : Option Addr} {n c m : Nat} {x : Value} (hx0 : ∀ w', (Builtin.firstCells ei.size m x).run P w' = .ok (Builtin.zeroCells ei.zero.cells m) w') (hb : (n + m) * ei.bytes ≤ 140737488355328) (h63 : n + m ≤ 140737488355328) :
    (Builtin.append_ #[ts, ti] ty #[.slice A n c, .int .i64 (m : Int)]).run P w = (app P A n c x m e ei).run P w := by
  obtain ⟨i, hi, hi1, hi2, hi3⟩ := he.get
  have hi63 : IntKind.i64.max = 9223372036854775807 := by decide
  have h3 : ¬ (((n + m : Nat) : Int) > IntKind.i64.max) := by omega
  have hw : IntKind.i64.wrap (m : Int) = (m : Int) := IntWalk.i64_in _ (by omega)
  have h4 : ¬ ((m : Int) < 0) := by omega
  have h5 : ¬ ((m : Int) * (ei.bytes : Int) > 2 ^ 48) := by
    have h : m * ei.bytes ≤ (n + m) * ei.bytes := Nat.mul_le_mul_right _ (by omega)
    have : ((m * ei.bytes : Nat) : Int) ≤ 140737488355328 := by omega
    rw [Int.natCast_mul] at this
    omega
  have hnew : (fun w' => (if m * ei.size = 0 then (pure #[] : Sem (Array Value)) else do
      let z ← zeroValue e
      pure (Builtin.zeroCells z.cells m)).run P w') = fun w' => (Builtin.firstCells ei.size m x).run P w' := by
    funext w'
    rw [hx0]
    by_cases h0 : m * ei.size = 0
    · rw [if_pos h0]
      have : Builtin.zeroCells ei.zero.cells m = #[] := by
        apply Array.eq_empty_of_size_eq_zero
        have := zeroCells_len ei.zero.cells m
        rw [hz, h0] at this
        simpa using this
      rw [this]
      rfl
    · rw [if_neg h0]
      simp only [Sem.run_bind, he.run_zero, Result.andThen_ok, Sem.run_pure]
  have hnew' := fun w' => congrFun hnew w'
  unfold app
  by_cases hc : n + m ≤ c
  · simp only [Builtin.append_, List.getElem?_toArray, List.getElem?_cons_zero, List.getElem?_cons_succ, Sem.run_bind, run_underlying ht.slice, run_underlying hx, Result.andThen_ok, he.run_size, Sem.run_pure, if_true, asInt, asIntOf, pure_bind, hw, if_neg h4, typeInfo, run_program, hi, hi2, if_neg h5, Int.toNat_natCast, if_pos hc, Bool.not_true, Bool.false_eq_true, if_false, hnew']
    rfl
  · have hg := growslice_fits (need := n + m) (old := c) (bytes := ei.bytes) (by omega) hb
    have h2 : ¬ (Builtin.nextslicecap (n + m) c * ei.bytes > 2 ^ 48) := by omega
    simp only [Builtin.append_, List.getElem?_toArray, List.getElem?_cons_zero, List.getElem?_cons_succ, Sem.run_bind, run_underlying ht.slice, run_underlying hx, Result.andThen_ok, he.run_size, Sem.run_pure, if_true, asInt, asIntOf, pure_bind, hw, if_neg h4, typeInfo, run_program, hi, hi2, if_neg h5, Int.toNat_natCast, if_neg hc]
    rw [if_neg (fun h => h3 h.1)]
    simp only [Sem.run_bind, run_program, Result.andThen_ok, hi, hi2, if_neg h2, Bool.not_true, Bool.false_eq_true, if_false, Sem.run_pure, Sem.run_ite, hnew', he.run_zero]
theorem firstCells_noughts {P : Program} (z : Value) (hz : z = .int .u8 0) (m : Nat) (w : World) : (Builtin.firstCells 1 m (.string ⟨(List.replicate m 0).toArray⟩)).run P w = .ok (Builtin.zeroCells z.cells m) w := by
  subst hz
  have e : (((⟨(List.replicate m 0).toArray⟩ : ByteArray).extract 0 m).data.map fun b => Value.int .u8 (b.toNat : Int)) = Builtin.zeroCells (Value.int .u8 0).cells m := by
    apply Array.ext'
    have e2 : (⟨(List.replicate m 0).toArray⟩ : ByteArray).extract 0 m = ⟨(List.replicate m 0).toArray⟩ := by
      apply ByteArray.ext
      rw [ByteArray.data_extract]
      simp
    rw [e2]
    simp only [Builtin.zeroCells, Value.cells]
    apply List.ext_getElem
    · simp
    · intro i h1 h2
      simp [Nat.mod_one]
  simp only [Builtin.firstCells, e, Sem.run_pure]
theorem OS.cut {w : World} {base e sz n c : Nat} {A : Option Addr} {xs : List Value} (h : OS w base e sz (.slice A n c) n xs) {j : Nat} (hj : j ≤ n) : OS w base e sz (.slice A j c) j (xs.take (j * sz)) := by
  have hjs : j * sz ≤ n * sz := Nat.mul_le_mul_right _ hj
  refine ⟨by rw [List.length_take, h.1]; exact Nat.min_eq_left hjs, ?_⟩
  rcases h.2 with ⟨e1, rfl⟩ | ⟨b, c', sp, fr, e1, hb, hc, hat, h3, hf⟩
  · obtain rfl : j = 0 := by omega
    exact .inl ⟨e1, rfl⟩
  · injection e1 with e2 _ e3
    subst e2 e3
    refine .inr ⟨b, c, xs.drop (j * sz) ++ sp, fr, rfl, hb, Nat.le_trans hj hc, ?_, ?_, hf⟩
    · rw [← List.append_assoc, List.take_append_drop]
      exact hat
    · rw [← List.append_assoc, List.take_append_drop]
      exact h3
end Go.Proofs.YtmcdcfbhpdacfaaDoor.Sx
/-
  A region whose order is open, as a flow: each operation once, over what is known of those that it waits for.
-/

namespace Go.Proofs.YtmcdcfbhpdacfaaDoor.Sx

open Go

set_option linter.unusedVariables false

set_option linter.unusedSimpArgs false

def dstOf (all : List Oper) (j : Nat) : Option Nat :=
  match nth j all with
  | some o => o.dst
  | none => none
def depsL (o : Oper) : List Nat := (o.after.toList.filter (Region.binds .any)).map (·.on)
def withD (all : List Oper) (φ : Nat → Value → World → Prop) (w : World) : List Nat → (Env → Prop) → Prop
  | [], K => K []
  | j :: r, K => ∀ v, φ j v w → withD all φ w r fun e => K (match dstOf all j with
    | some d => (d, v) :: e
    | none => e)
def envD (all : List Oper) (x : Nat → Value) : List Nat → Env
  | [] => []
  | j :: r => match dstOf all j with
    | some d => (d, x j) :: envD all x r
    | none => envD all x r
theorem withD_inst {all : List Oper} {φ : Nat → Value → World → Prop} {w : World} {x : Nat → Value} : ∀ (deps : List Nat) (K : Env → Prop), withD all φ w deps K → (∀ j ∈ deps, φ j (x j) w) → K (envD all x deps)
  | [], K, h, _ => h
  | j :: r, K, h, hx => by
    have := withD_inst r _ (h (x j) (hx j (by simp))) fun k hk => hx k (by simp [hk])
    unfold envD
    split <;> simp_all
def fil (q : Nat → Bool) : Env → Env
  | [] => []
  | (t, v) :: r => match q t with
    | true => (t, v) :: fil q r
    | false => fil q r
theorem look_fil {q : Nat → Bool} {t : Nat} {v : Value} : ∀ {l : Env}, look t (fil q l) = some v → look t l = some v ∧ q t = true
  | [], h => by simp [fil, look] at h
  | (s, u) :: r, h => by
    unfold fil at h
    rw [look_cons]
    by_cases e : t = s
    · subst e
      rw [if_pos rfl]
      split at h
      · rename_i hq
        rw [look_cons, if_pos rfl] at h
        exact ⟨h, hq⟩
      · rename_i hq
        exact absurd (look_fil h).2 (by simp [hq])
    · rw [if_neg e]
      split at h
      · rw [look_cons, if_neg e] at h
        exact look_fil h
      · exact look_fil h
theorem look_app {t : Nat} {v : Value} {l : Env} : ∀ {e : Env}, look t (e ++ l) = some v → look t e = some v ∨ look t l = some v
  | [], h => .inr h
  | (s, u) :: r, h => by
    rw [List.cons_append, look_cons] at h
    rw [look_cons]
    by_cases e : t = s
    · rw [if_pos e] at h ⊢
      exact .inl h
    · rw [if_neg e] at h ⊢
      exact look_app h
theorem look_envD {all : List Oper} {x : Nat → Value} {t : Nat} {v : Value} : ∀ {deps : List Nat}, look t (envD all x deps) = some v → ∃ j ∈ deps, dstOf all j = some t ∧ v = x j
  | [], h => by simp [envD, look] at h
  | j :: r, h => by
    unfold envD at h
    split at h
    · rename_i d hd
      rw [look_cons] at h
      by_cases e : t = d
      · subst e
        rw [if_pos rfl] at h
        exact ⟨j, by simp, hd, by simpa using h.symm⟩
      · rw [if_neg e] at h
        obtain ⟨k, hk, h1, h2⟩ := look_envD h
        exact ⟨k, by simp [hk], h1, h2⟩
    · obtain ⟨k, hk, h1, h2⟩ := look_envD h
      exact ⟨k, by simp [hk], h1, h2⟩

/-- The old value of slot t is still there when operation i comes up. -/
def keepB (i t : Nat) : List Oper → Bool
  | [] => true
  | o :: r => (match o.dst with
    | some d => !(Nat.beq d t) || (depsL o).any (Nat.beq i)
    | none => true) && keepB i t r
def keepE (t : Nat) : List Oper → Bool
  | [] => true
  | o :: r => (match o.dst with
    | some d => !(Nat.beq d t)
    | none => true) && keepE t r
theorem keepB_spec {i t : Nat} {all : List Oper} (h : keepB i t all = true) : ∀ o ∈ all, o.dst = some t → i ∈ depsL o := by
  induction all with
  | nil => intro o ho; cases ho
  | cons p r ih =>
    intro o ho hd
    unfold keepB at h
    rw [Bool.and_eq_true] at h
    rcases List.mem_cons.1 ho with rfl | ho
    · rw [hd] at h
      have h1 := h.1
      simp only [Bool.or_eq_true, Bool.not_eq_true', List.any_eq_true] at h1
      rcases h1 with h1 | ⟨k, hk, e⟩
      · simp at h1
      · have := Nat.eq_of_beq_eq_true e
        subst this
        exact hk
    · exact ih h.2 o ho hd
theorem keepE_spec {t : Nat} {all : List Oper} (h : keepE t all = true) : ∀ o ∈ all, o.dst ≠ some t := by
  induction all with
  | nil => intro o ho; cases ho
  | cons p r ih =>
    intro o ho hd
    unfold keepE at h
    rw [Bool.and_eq_true] at h
    rcases List.mem_cons.1 ho with rfl | ho
    · rw [hd] at h
      simp at h
    · exact ih h.2 o ho hd

/-- As `Ext S`, but a block from `B` on may have been marked behind its cells (what a conversion of bytes to bytes does). -/
structure Exf (B : Nat) (S : Nat → Prop) (w w' : World) : Prop where
  os : w'.os = w.os
  tape : w'.tape = w.tape
  output : w'.output = w.output
  size : w.heap.size ≤ w'.heap.size
  blk : ∀ k, k < w.heap.size → k < B → ¬ S k → w'.heap[k]? = w.heap[k]?
  own : ∀ (k : Nat) (o : Obj), ¬ S k → w.heap[k]? = some o → w'.heap[k]? = some o ∨ ∃ c t fr fr', o = .cells c t fr ∧ w'.heap[k]? = some (.cells c t fr') ∧ c.size ≤ fr'.1
theorem Ext.exf {B : Nat} {S : Nat → Prop} {w w' : World} (h : Ext S w w') : Exf B S w w' :=
  ⟨h.os, h.tape, h.output, h.size, fun k hk _ hs => h.blk k hk hs, fun k o hs ho => .inl (by rw [h.blk k (Array.getElem?_eq_some_iff.1 ho).1 hs]; exact ho)⟩
theorem Exf.trans {B : Nat} {S : Nat → Prop} {a b c : World} (h : Exf B S a b) (k : Exf B S b c) : Exf B S a c := by
  refine ⟨k.os.trans h.os, k.tape.trans h.tape, k.output.trans h.output, Nat.le_trans h.size k.size, fun i hi hb hs => (k.blk i (Nat.lt_of_lt_of_le hi h.size) hb hs).trans (h.blk i hi hb hs), fun i o hs ho => ?_⟩
  rcases h.own i o hs ho with h1 | ⟨cs, t, fr, fr', rfl, h1, h2⟩
  · exact k.own i o hs h1
  · rcases k.own i _ hs h1 with h3 | ⟨cs', t', f1, f2, e, h3, h4⟩
    · exact .inr ⟨cs, t, fr, fr', rfl, h3, h2⟩
    · injection e with e1 e2 e3
      subst e1 e2
      exact .inr ⟨cs, t, fr, f2, rfl, h3, h4⟩
theorem Exf.ext {B : Nat} {S : Nat → Prop} {w0 w w' : World} (h0 : Ext S w0 w) (h : Exf B S w w') (hB : w0.heap.size ≤ B) : Ext S w0 w' :=
  ⟨h.os.trans h0.os, h.tape.trans h0.tape, h.output.trans h0.output, Nat.le_trans h0.size h.size, fun k hk hs => (h.blk k (Nat.lt_of_lt_of_le hk h0.size) (Nat.lt_of_lt_of_le hk hB) hs).trans (h0.blk k hk hs)⟩
theorem Exf.cell {B : Nat} {S : Nat → Prop} {w w' : World} (h : Exf B S w w') {a : Addr} {v : Value} (hc : w.cell? a = some v) (hs : ¬ S a.block) : w'.cell? a = some v := by
  unfold World.cell? at hc ⊢
  cases ho : w.heap[a.block]? with
  | none => rw [ho] at hc; simp at hc
  | some o =>
    rw [ho] at hc
    rcases h.own _ o hs ho with h1 | ⟨cs, t, fr, fr', rfl, h1, h2⟩
    · rw [h1]
      exact hc
    · rw [h1]
      exact hc
theorem Cells.exf {B : Nat} {w w' : World} {A : Option Addr} {cs : List Value} {S : Nat → Prop} (h : Cells w A cs) (he : Exf B S w w') (hA : ∀ k, inBlk A k → ¬ S k) : Cells w' A cs := by
  rcases h with rfl | ⟨b, off, rfl, h⟩
  · exact .inl rfl
  · exact .inr ⟨b, off, rfl, fun i hi => he.cell (h i hi) (hA b ⟨off, none, rfl⟩)⟩
theorem OS.exf {B : Nat} {w w' : World} {base e sz n : Nat} {v : Value} {xs : List Value} {S : Nat → Prop} (h : OS w base e sz v n xs) (he : Exf B S w w') (hS : ∀ k, blkOf v k → ¬ S k) : OS w' base e sz v n xs := by
  refine ⟨h.1, ?_⟩
  rcases h.2 with h2 | ⟨b, c, sp, fr, rfl, hb, hc, hat, h3, hf⟩
  · exact .inl h2
  · rcases he.own b _ (hS b ⟨0, none, n, c, rfl⟩) hat with h1 | ⟨cs, t, f1, f2, e1, h1, h2⟩
    · exact .inr ⟨b, c, sp, fr, rfl, hb, hc, h1, h3, hf⟩
    · injection e1 with e1 e2 e3
      subst e1 e2
      exact .inr ⟨b, c, sp, f2, rfl, hb, hc, h1, h3, .inr (by simpa [h3] using h2)⟩

/-- The conversion of a slice to its own type, at a stop. -/
structure Mk (P : Program) (B : Nat) (S : Nat → Prop) (w : World) (s d : TypeId) (x : Value) (K : Value → World → Prop) : Prop where mk ::
  out : ∃ w', (convert s d x).run P w = .ok x w' ∧ Exf B S w w' ∧ K x w'
def opF (C : Cx) (B : Nat) (S : Nat → Prop) (l : Env) (o : Oper) (w : World) (K : Value → World → Prop) : Prop :=
  match o.op with
  | .convert s d x => (match Nat.beq s d with
    | true => (match evl l x with
      | some v => Mk C.P B S w s d v K
      | none => False)
    | false => opW C S l o w K)
  | _ => opW C S l o w K

section

variable {C : Cx} {n : Nat}
theorem opF_sound (hC : C.Ok) {B : Nat} {S : Nat → Prop} {l : Env} {o : Oper} {w : World} {K : Value → World → Prop} {a : Act} {next : Act → World → Prop} {Q : Exit → Act → World → Prop} (hρ : Agree l a.eval)
    (h : opF C B S l o w K) (hn : ∀ v w', Exf B S w w' → K v w' → next (a.put o.dst v) w') : o.wp C.P a w next Q := by
  unfold opF at h
  split at h
  · rename_i s d x hop
    split at h
    · split at h
      · rename_i v hx
        obtain ⟨w', h1, h2, h3⟩ := h.out
        refine upon_value (v := v) (w' := w') ?_ (hn v w' h2 h3)
        simp [execOp, hop, hρ _ _ hx, h1]
      · exact h.elim
    · exact opW_sound hC hρ h fun v w' hx hk => hn v w' hx.exf hk
  · exact opW_sound hC hρ h fun v w' hx hk => hn v w' hx.exf hk
def flowVC (C : Cx) (B : Nat) (all : List Oper) (S : Nat → Prop) (φ : Nat → Value → World → Prop) (l0 : Env) (w0 : World) (i : Nat) (o : Oper) : Prop :=
  ∀ w, Exf B S w0 w → withD all φ w (depsL o) fun e =>
    match guardV all (e ++ fil (fun t => keepB i t all) l0) o.guard with
    | some true => opF C B S (e ++ fil (fun t => keepB i t all) l0) o w fun v w' => φ i v w'
    | some false => φ i undef w
    | none => False
def stepsVC (C : Cx) (B : Nat) (all : List Oper) (S : Nat → Prop) (φ : Nat → Value → World → Prop) (l0 : Env) (w0 : World) : Nat → List Oper → Prop
  | _, [] => True
  | i, o :: r => flowVC C B all S φ l0 w0 i o ∧ stepsVC C B all S φ l0 w0 (i + 1) r
theorem stepsVC_get {B : Nat} {all : List Oper} {S : Nat → Prop} {φ : Nat → Value → World → Prop} {l0 : Env} {w0 : World} {r : List Oper} : ∀ {k : Nat}, stepsVC C B all S φ l0 w0 k r → ∀ j o, r[j]? = some o → flowVC C B all S φ l0 w0 (k + j) o := by
  induction r with
  | nil => intro k h j o ho; simp at ho
  | cons p r ih =>
    intro k h j o ho
    cases j with
    | zero =>
      simp at ho
      subst ho
      exact h.1
    | succ j =>
      have := ih h.2 j o (by simpa using ho)
      rwa [show k + 1 + j = k + (j + 1) from by omega] at this
def flowOk (n : Nat) (ops : Array Oper) : Bool :=
  Region.noSelect ops && (List.range ops.size).all fun i => match ops[i]? with
    | some o => (depsL o).all (fun j => Nat.blt j i) && (match o.dst with
      | some d => Nat.blt d n && (List.range ops.size).all fun k => Nat.beq k i || (match ops[k]? with
        | some p => (match p.dst with
          | some d' => !(Nat.beq d' d)
          | none => true)
        | none => true)
      | none => true)
    | none => true
theorem flowOk_spec {ops : Array Oper} (h : flowOk n ops = true) {i : Nat} {o : Oper} (ho : ops[i]? = some o) :
    (∀ j ∈ depsL o, j < i) ∧ (∀ d, o.dst = some d → d < n ∧ ∀ k p, ops[k]? = some p → p.dst = some d → k = i) := by
  unfold flowOk at h
  rw [Bool.and_eq_true, List.all_eq_true] at h
  have hi : i < ops.size := (Array.getElem?_eq_some_iff.1 ho).1
  have h1 := h.2 i (List.mem_range.2 hi)
  rw [ho] at h1
  simp only [Bool.and_eq_true] at h1
  refine ⟨fun j hj => ?_, fun d hd => ?_⟩
  · have := List.all_eq_true.1 h1.1 j hj
    simpa [Nat.blt_eq] using this
  · have h2 := h1.2
    rw [hd] at h2
    simp only [Bool.and_eq_true] at h2
    refine ⟨by simpa [Nat.blt_eq] using h2.1, fun k p hp hpd => ?_⟩
    have hk : k < ops.size := (Array.getElem?_eq_some_iff.1 hp).1
    have h3 := List.all_eq_true.1 h2.2 k (List.mem_range.2 hk)
    rw [hp] at h3
    simp only [hpd, Bool.or_eq_true] at h3
    rcases h3 with h3 | h3
    · exact Nat.eq_of_beq_eq_true h3
    · simp at h3

/-- What is known when the operations of `listed` have been done. -/
structure FI (n B : Nat) (ops : Array Oper) (S : Nat → Prop) (φ : Nat → Value → World → Prop) (l0 : Env) (w0 : World) (listed : Array Bool) (a : Act) (w : World) (x : Nat → Value) : Prop where
  size : a.tmps.size = n
  defers : a.defers = []
  ext : Exf B S w0 w
  lsz : listed.size = ops.size
  fact : ∀ j o, ops[j]? = some o → listed.getD j false = true → φ j (x j) w
  val : ∀ j o d, ops[j]? = some o → listed.getD j false = true → o.dst = some d → a.tmps.getD d undef = x j
  dep : ∀ j o, ops[j]? = some o → listed.getD j false = true → ∀ k ∈ depsL o, listed.getD k false = true
  old : ∀ t v, look t l0 = some v → (∀ k o, ops[k]? = some o → listed.getD k false = true → o.dst ≠ some t) → a.tmps.getD t undef = v

theorem mem_depsL {o : Oper} {j : Nat} : j ∈ depsL o ↔ ∃ e ∈ o.after, Region.binds .any e = true ∧ e.on = j := by
  simp [depsL, and_assoc]

theorem getD_listed {listed : Array Bool} {j : Nat} (h : j < listed.size) (d : Bool) : listed.getD j d = listed[j] := by simp [Array.getD, h]

theorem FI.frame {B : Nat} {ops : Array Oper} {S : Nat → Prop} {φ : Nat → Value → World → Prop} {l0 : Env} {w0 w : World} {listed : Array Bool} {a : Act} {x : Nat → Value} (h : FI n B ops S φ l0 w0 listed a w x) {i : Nat} {o : Oper} (ho : ops[i]? = some o)
    (hun : listed.getD i false = false) (hdeps : ∀ j ∈ depsL o, listed.getD j false = true) : Fr n (envD ops.toList x (depsL o) ++ fil (fun t => keepB i t ops.toList) l0) a := by
  refine ⟨h.size, h.defers, fun t v ht => ?_⟩
  rcases look_app ht with ht | ht
  · obtain ⟨j, hj, h1, rfl⟩ := look_envD ht
    unfold dstOf at h1
    rw [nth_eq] at h1
    split at h1
    · rename_i p hp
      exact h.val j p t (by simpa using hp) (hdeps j hj) h1
    · cases h1
  · obtain ⟨h1, h2⟩ := look_fil ht
    refine h.old t v h1 fun k p hp hk hd => ?_
    have := keepB_spec h2 p (Array.mem_toList_iff.2 (Array.mem_of_getElem? hp)) hd
    rw [h.dep k p hp hk i this] at hun
    cases hun
theorem put_ne {a : Act} {dst : Option Tmp} {v : Value} {t : Nat} (h : dst ≠ some t) : (a.put dst v).tmps.getD t undef = a.tmps.getD t undef := by
  cases dst with
  | none => rfl
  | some d =>
    have hd : d ≠ t := fun e => h (by rw [e])
    simp only [Act.put, Array.getD_eq_getD_getElem?]
    rw [Array.getElem?_setIfInBounds_ne hd]
theorem put_eq {a : Act} {d : Nat} {v : Value} (h : d < a.tmps.size) : (a.put (some d) v).tmps.getD d undef = v := by
  simp [Act.put, Array.getElem?_setIfInBounds, h]
theorem put_size {a : Act} {dst : Option Tmp} {v : Value} : (a.put dst v).tmps.size = a.tmps.size := by
  cases dst with
  | none => rfl
  | some d => simp [Act.put]
theorem put_defers {a : Act} {dst : Option Tmp} {v : Value} : (a.put dst v).defers = a.defers := by
  cases dst <;> rfl

theorem FI.step {B : Nat} {ops : Array Oper} {S : Nat → Prop} {φ : Nat → Value → World → Prop} {l0 : Env} {w0 w w' : World} {listed : Array Bool} {a : Act} {x : Nat → Value} (hok : flowOk n ops = true) (hφ : ∀ i v w w', φ i v w → Exf B S w w' → φ i v w')
    (h : FI n B ops S φ l0 w0 listed a w x) {i : Nat} {o : Oper} (ho : ops[i]? = some o) (hun : listed.getD i false = false) (hdeps : ∀ j ∈ depsL o, listed.getD j false = true) {v : Value} (hx : Exf B S w w') (hf : φ i v w') :
    FI n B ops S φ l0 w0 (listed.setIfInBounds i true) (a.put o.dst v) w' (fun j => if j = i then v else x j) := by
  have hset : ∀ j, j ≠ i → (listed.setIfInBounds i true).getD j false = true → listed.getD j false = true := fun j hj hl => by
    rwa [getD_set_ne false (Ne.symm hj)] at hl
  refine ⟨by rw [put_size]; exact h.size, by rw [put_defers]; exact h.defers, h.ext.trans hx, by simp [h.lsz], fun j p hp hl => ?_, fun j p d hp hl hd => ?_, fun j p hp hl k hk => ?_, fun t u ht hno => ?_⟩
  · by_cases e : j = i
    · subst e
      simpa using hf
    · simp only [if_neg e]
      exact hφ _ _ _ _ (h.fact j p hp (hset j e hl)) hx
  · by_cases e : j = i
    · subst e
      rw [ho] at hp
      injection hp with hp
      subst hp
      rw [hd]
      simp only [if_true]
      exact put_eq (by rw [h.size]; exact ((flowOk_spec hok ho).2 d hd).1)
    · simp only [if_neg e]
      rw [put_ne (fun e2 => e (((flowOk_spec hok ho).2 d e2).2 j p hp hd))]
      exact h.val j p d hp (hset j e hl) hd
  · apply getD_set_true
    by_cases e : j = i
    · subst e
      rw [ho] at hp
      injection hp with hp
      subst hp
      exact hdeps k hk
    · exact h.dep j p hp (hset j e hl) k hk
  · have hil : i < listed.size := by
      rw [h.lsz]
      exact (Array.getElem?_eq_some_iff.1 ho).1
    rw [put_ne (hno i o ho (by simp [Array.getD, hil]))]
    exact h.old t u ht fun k p hp hk => hno k p hp (getD_set_true hk)
theorem count_set {l : List Bool} : ∀ {i : Nat}, l[i]? = some false → (l.set i true).count false + 1 = l.count false := by
  induction l with
  | nil => intro i h; simp at h
  | cons b r ih =>
    intro i h
    cases i with
    | zero =>
      simp at h
      subst h
      simp
    | succ i =>
      have := ih (by simpa using h)
      cases b <;> simp [List.count_cons] <;> omega

theorem flow_sound (hC : C.Ok) {B : Nat} {ops : Array Oper} {S : Nat → Prop} {φ : Nat → Value → World → Prop} {l0 : Env} {w0 : World} {Q : Exit → Act → World → Prop} (hok : flowOk n ops = true) (hφ : ∀ i v w w', φ i v w → Exf B S w w' → φ i v w')
    (hstep : stepsVC C B ops.toList S φ l0 w0 0 ops.toList) (hend : ∀ listed a w x, FI n B ops S φ l0 w0 listed a w x → (∀ j, j < ops.size → listed.getD j false = true) → Q .normal a w) :
    ∀ (fuel : Nat) (listed : Array Bool) (a : Act) (w : World) (x : Nat → Value), FI n B ops S φ l0 w0 listed a w x → listed.toList.count false ≤ fuel → wpAny C.P .any ops Q fuel listed a w := by
  have hall : ∀ listed a w x, FI n B ops S φ l0 w0 listed a w x → Region.ready .any ops listed = [] → Q .normal a w := by
    intro listed a w x h hr
    refine hend listed a w x h fun j => ?_
    induction j using Nat.strongRecOn with
    | _ j ih =>
      intro hj
      by_cases hl : listed.getD j false = true
      · exact hl
      · exfalso
        have hjl : j < listed.size := by rw [h.lsz]; exact hj
        have ho : ops[j]? = some ops[j] := by simp [hj]
        have : j ∈ Region.ready .any ops listed := by
          rw [mem_ready]
          refine ⟨?_, _, ho, fun e he hb => ?_⟩
          · rw [getD_listed hjl] at hl ⊢
            simpa using hl
          · have hlt := (flowOk_spec hok ho).1 e.on (mem_depsL.2 ⟨e, he, hb, rfl⟩)
            exact ih e.on hlt (by omega)
        rw [hr] at this
        cases this
  intro fuel
  induction fuel with
  | zero =>
    intro listed a w x h hc
    have hr : Region.ready .any ops listed = [] := by
      rw [List.eq_nil_iff_forall_not_mem]
      intro i hi
      obtain ⟨h1, o, ho, _⟩ := mem_ready.1 hi
      have hil : i < listed.size := by rw [h.lsz]; exact (Array.getElem?_eq_some_iff.1 ho).1
      rw [getD_listed hil] at h1
      have : false ∈ listed.toList := by
        rw [← h1]
        simp
      have := List.count_pos_iff.2 this
      omega
    exact ⟨hr, hall listed a w x h hr⟩
  | succ fuel ih =>
    intro listed a w x h hc
    refine ⟨hall listed a w x h, fun i hi => ?_⟩
    obtain ⟨h1, o, ho, hde⟩ := mem_ready.1 hi
    have hil : i < listed.size := by rw [h.lsz]; exact (Array.getElem?_eq_some_iff.1 ho).1
    have hun : listed.getD i false = false := by
      rw [getD_listed hil] at h1 ⊢
      exact h1
    have hdeps : ∀ j ∈ depsL o, listed.getD j false = true := fun j hj => by
      obtain ⟨e, he, hb, rfl⟩ := mem_depsL.1 hj
      exact hde e he hb
    have hcount : (listed.setIfInBounds i true).toList.count false ≤ fuel := by
      have hl : listed.toList[i]? = some false := by
        rw [getD_listed hil] at h1
        simp [hil, h1]
      have := count_set hl
      rw [Array.toList_setIfInBounds]
      omega
    have hflow := stepsVC_get hstep i o (by simpa using ho)
    rw [Nat.zero_add] at hflow
    have hv := withD_inst _ _ (hflow w h.ext) (x := x) fun j hj => by
      have hjl := hdeps j hj
      have hjs : j < ops.size := by have := (flowOk_spec hok ho).1 j hj; have := (Array.getElem?_eq_some_iff.1 ho).1; omega
      exact h.fact j ops[j] (by simp [hjs]) hjl
    have hfr := h.frame ho hun hdeps
    unfold wpOp
    simp only [ho]
    split at hv
    · rename_i hg
      rw [guard_sound hfr hg, if_pos rfl]
      exact .inl (opF_sound hC hfr.agree hv fun v w' hx hf => ih _ _ _ _ (h.step hok hφ ho hun hdeps hx hf) hcount)
    · rename_i hg
      rw [guard_sound hfr hg, if_neg (by simp)]
      exact ih _ _ _ _ (h.step hok hφ ho hun hdeps (Ext.refl _ _).exf hv) hcount
    · exact hv.elim
/-- A fact on an operation's value, that holds on whatever else the region does. -/
structure Fa (B : Nat) (S : Nat → Prop) where
  p : Value → World → Prop
  st : ∀ v w w', p v w → Exf B S w w' → p v w'
def Fa.t {B : Nat} {S : Nat → Prop} : Fa B S := ⟨fun _ _ => True, fun _ _ _ h _ => h⟩
def Fa.is {B : Nat} {S : Nat → Prop} (x : Value) : Fa B S := ⟨fun v _ => v = x, fun _ _ _ h _ => h⟩
def fa {B : Nat} {S : Nat → Prop} (L : List (Fa B S)) (i : Nat) : Value → World → Prop :=
  match nth i L with
  | some f => f.p
  | none => fun _ _ => True
theorem fa_st {B : Nat} {S : Nat → Prop} (L : List (Fa B S)) : ∀ i v w w', fa L i v w → Exf B S w w' → fa L i v w' := by
  intro i v w w' h he
  unfold fa at h ⊢
  cases hf : nth i L with
  | none => trivial
  | some f =>
    rw [hf] at h
    exact f.st v w w' h he
theorem G.flow (hC : C.Ok) {id : Nat} {ops : Array Oper} {l : Env} {w : World} {Q : Exit → Env → World → Prop} (B : Nat) (S : Nat → Prop) (L : List (Fa B S)) (outs : List Nat) (hok : flowOk n ops = true) (hout : outs.all (fun j => Nat.blt j ops.size) = true)
    (hstep : stepsVC C B ops.toList S (fa L) l w.drew 0 ops.toList)
    (hend : ∀ w', Exf B S w.drew w' → withD ops.toList (fa L) w' outs fun e => Q .normal (e ++ fil (fun t => keepE t ops.toList) l) w') : G C.P n (.region id ops true) l w Q := by
  refine ⟨fun a ha => wp_region_any hC.mixed (flow_sound hC hok (fa_st L) hstep ?_ ops.size _ a w.drew (fun _ => undef) ⟨ha.size, ha.defers, (Ext.refl _ _).exf, by simp, ?_, ?_, ?_, fun t v ht _ => ha.get t v ht⟩ ?_)⟩
  · intro listed a w' x h hl
    have hq := withD_inst _ _ (hend w' h.ext) (x := x) fun j hj => by
      have hjs : j < ops.size := by simpa [Nat.blt_eq] using List.all_eq_true.1 hout j hj
      exact h.fact j ops[j] (by simp [hjs]) (hl j hjs)
    refine ⟨_, ⟨h.size, h.defers, fun t v ht => ?_⟩, hq⟩
    rcases look_app ht with ht | ht
    · obtain ⟨j, hj, h1, rfl⟩ := look_envD ht
      unfold dstOf at h1
      rw [nth_eq] at h1
      split at h1
      · rename_i p hp
        have hjs : j < ops.size := by simpa [Nat.blt_eq] using List.all_eq_true.1 hout j hj
        exact h.val j p t (by simpa using hp) (hl j hjs) h1
      · cases h1
    · obtain ⟨h1, h2⟩ := look_fil ht
      exact h.old t v h1 fun k p hp hk hd => keepE_spec h2 p (Array.mem_toList_iff.2 (Array.mem_of_getElem? hp)) hd
  · intro j o ho hl
    have : j < ops.size := (Array.getElem?_eq_some_iff.1 ho).1
    simp [Array.getD, this] at hl
  · intro j o d ho hl
    have : j < ops.size := (Array.getElem?_eq_some_iff.1 ho).1
    simp [Array.getD, this] at hl
  · intro j o ho hl
    have : j < ops.size := (Array.getElem?_eq_some_iff.1 ho).1
    simp [Array.getD, this] at hl
  · simp
end

end Go.Proofs.YtmcdcfbhpdacfaaDoor.Sx
/-
  A region whose order is open, as a flow in which an operation may write what an earlier one has made for it alone.
-/

namespace Go.Proofs.YtmcdcfbhpdacfaaDoor.Sx

open Go

set_option linter.unusedVariables false

set_option linter.unusedSimpArgs false

abbrev Fp := Nat → Prop
theorem Exf.mono {B : Nat} {S T : Nat → Prop} {w w' : World} (h : Exf B S w w') (hS : ∀ b, S b → T b) : Exf B T w w' :=
  ⟨h.os, h.tape, h.output, h.size, fun k hk hb hn => h.blk k hk hb (fun x => hn (hS k x)), fun k o hn ho => h.own k o (fun x => hn (hS k x)) ho⟩

/-- The operations that an operation looks at, each with whether it is used up. -/
abbrev Dep := List (Nat × Bool)
def depAt (D : List Dep) (i : Nat) : Dep := (nth i D).getD []
def consB (d : Dep) (j : Nat) : Bool := d.any fun p => p.2 && Nat.beq p.1 j
def usedB (d : Dep) (j : Nat) : Bool := d.any fun p => Nat.beq p.1 j
theorem consB_iff {d : Dep} {j : Nat} : consB d j = true ↔ (j, true) ∈ d := by
  simp only [consB, List.any_eq_true, Bool.and_eq_true]
  constructor
  · rintro ⟨⟨a, b⟩, h, h1, h2⟩
    have := Nat.eq_of_beq_eq_true h2
    simp only at this h1
    subst this h1
    exact h
  · intro h
    exact ⟨_, h, rfl, Nat.beq_refl j⟩
def withU (all : List Oper) (φ : Nat → Value → Fp → World → Prop) (U : Fp) (w : World) : Dep → Fp → Fp → (Env → Fp → Prop) → Prop
  | [], _, cns, K => K [] cns
  | (j, c) :: r, acc, cns, K => ∀ v f, φ j v f w → (∀ b, f b → U b ∧ b < w.heap.size ∧ ¬ acc b) →
      withU all φ U w r (fun b => acc b ∨ f b) (match c with
        | true => fun b => cns b ∨ f b
        | false => cns) fun e cns => K (match dstOf all j with
      | some d => (d, v) :: e
      | none => e) cns
def consF (f : Nat → Fp) (d : Dep) : Fp := fun b => ∃ j, (j, true) ∈ d ∧ f j b
theorem withU_inst {all : List Oper} {φ : Nat → Value → Fp → World → Prop} {U : Fp} {w : World} {x : Nat → Value} {f : Nat → Fp} :
    ∀ (d : Dep) (acc cns : Fp) (K : Env → Fp → Prop), withU all φ U w d acc cns K → (∀ p ∈ d, φ p.1 (x p.1) (f p.1) w ∧ ∀ b, f p.1 b → U b ∧ b < w.heap.size ∧ ¬ acc b) →
      d.Pairwise (fun p q => ∀ b, f p.1 b → ¬ f q.1 b) → ∃ c' : Fp, (∀ b, c' b → cns b ∨ consF f d b) ∧ K (envD all x (d.map (·.1))) c'
  | [], acc, cns, K, h, _, _ => ⟨cns, fun b hb => .inl hb, h⟩
  | (j, c) :: r, acc, cns, K, h, hx, hp => by
    have h1 := hx (j, c) (by simp)
    have h2 := h (x j) (f j) h1.1 h1.2
    rw [List.pairwise_cons] at hp
    obtain ⟨c', hc', hk⟩ := withU_inst r _ _ _ h2 (fun p hpr => ⟨(hx p (by simp [hpr])).1, fun b hb => ⟨((hx p (by simp [hpr])).2 b hb).1, ((hx p (by simp [hpr])).2 b hb).2.1, fun hor => hor.elim ((hx p (by simp [hpr])).2 b hb).2.2 (fun hj => hp.1 p hpr b hj hb)⟩⟩) hp.2
    refine ⟨c', fun b hb => ?_, ?_⟩
    · rcases hc' b hb with h3 | ⟨k, hk, hf⟩
      · cases c with
        | true =>
          rcases h3 with h3 | h3
          · exact .inl h3
          · exact .inr ⟨j, by simp, h3⟩
        | false => exact .inl h3
      · exact .inr ⟨k, by simp [hk], hf⟩
    · rw [List.map_cons]
      unfold envD
      exact hk

section

variable {C : Cx} {n : Nat}
def flowV (C : Cx) (B : Nat) (all : List Oper) (D : List Dep) (S U : Fp) (φ : Nat → Value → Fp → World → Prop) (l0 : Env) (w0 : World) (i : Nat) (o : Oper) : Prop :=
  ∀ w, Exf B (fun b => S b ∨ U b) w0 w → withU all φ U w (depAt D i) (fun _ => False) (fun _ => False) fun e cns =>
    match guardV all (e ++ fil (fun t => keepB i t all) l0) o.guard with
    | some true => opF C B (fun b => S b ∨ cns b) (e ++ fil (fun t => keepB i t all) l0) o w fun v w' => ∃ f, φ i v f w' ∧ ∀ b, f b → (w.heap.size ≤ b ∧ b < w'.heap.size) ∨ cns b
    | some false => ∃ f, φ i undef f w ∧ ∀ b, f b → cns b
    | none => False
def stepsV (C : Cx) (B : Nat) (all : List Oper) (D : List Dep) (S U : Fp) (φ : Nat → Value → Fp → World → Prop) (l0 : Env) (w0 : World) : Nat → List Oper → Prop
  | _, [] => True
  | i, o :: r => flowV C B all D S U φ l0 w0 i o ∧ stepsV C B all D S U φ l0 w0 (i + 1) r
theorem stepsV_get {B : Nat} {all : List Oper} {D : List Dep} {S U : Fp} {φ : Nat → Value → Fp → World → Prop} {l0 : Env} {w0 : World} {r : List Oper} : ∀ {k : Nat}, stepsV C B all D S U φ l0 w0 k r → ∀ j o, r[j]? = some o → flowV C B all D S U φ l0 w0 (k + j) o := by
  induction r with
  | nil => intro k h j o ho; simp at ho
  | cons p r ih =>
    intro k h j o ho
    cases j with
    | zero =>
      simp at ho
      subst ho
      exact h.1
    | succ j =>
      have := ih h.2 j o (by simpa using ho)
      rwa [show k + 1 + j = k + (j + 1) from by omega] at this
def nodupB : List Nat → Bool
  | [] => true
  | a :: r => !(r.any (Nat.beq a)) && nodupB r
theorem nodupB_pw {d : Dep} (h : nodupB (d.map (·.1)) = true) : d.Pairwise (fun p q => p.1 ≠ q.1) := by
  induction d with
  | nil => exact .nil
  | cons p r ih =>
    rw [List.map_cons] at h
    unfold nodupB at h
    rw [Bool.and_eq_true] at h
    refine .cons (fun q hq e => ?_) (ih h.2)
    have h1 := h.1
    rw [Bool.not_eq_true', List.any_eq_false] at h1
    exact h1 q.1 (List.mem_map_of_mem hq) (by rw [e]; exact Nat.beq_refl _)
/-- What is looked at is waited for; who uses it up waits for all others who look. -/
def depOk (ops : Array Oper) (D : List Dep) : Bool :=
  (List.range ops.size).all fun i => match ops[i]? with
    | some o => (depAt D i).all (fun p => (depsL o).any (Nat.beq p.1) || Nat.beq p.1 ops.size) && nodupB ((depAt D i).map (·.1)) &&
        (depAt D i).all (fun p => !p.2 || (List.range ops.size).all fun k => Nat.beq k i || !(usedB (depAt D k) p.1) || (depsL o).any (Nat.beq k))
    | none => true
theorem depOk_spec {ops : Array Oper} {D : List Dep} (h : depOk ops D = true) {i : Nat} {o : Oper} (ho : ops[i]? = some o) :
    (∀ p ∈ depAt D i, p.1 ∈ depsL o ∨ p.1 = ops.size) ∧ (depAt D i).Pairwise (fun p q => p.1 ≠ q.1) ∧ (∀ j, (j, true) ∈ depAt D i → ∀ k, k < ops.size → k ≠ i → (∃ c, (j, c) ∈ depAt D k) → k ∈ depsL o) := by
  unfold depOk at h
  rw [List.all_eq_true] at h
  have hi : i < ops.size := (Array.getElem?_eq_some_iff.1 ho).1
  have h1 := h i (List.mem_range.2 hi)
  rw [ho] at h1
  simp only [Bool.and_eq_true] at h1
  have mem : ∀ {l : List Nat} {a : Nat}, l.any (Nat.beq a) = true → a ∈ l := fun {l a} h => by
    obtain ⟨b, hb, e⟩ := List.any_eq_true.1 h
    rwa [Nat.eq_of_beq_eq_true e]
  refine ⟨fun p hp => (Bool.or_eq_true _ _ ▸ List.all_eq_true.1 h1.1.1 p hp).imp mem Nat.eq_of_beq_eq_true, nodupB_pw h1.1.2, fun j hj k hk hki hu => ?_⟩
  have h2 := List.all_eq_true.1 h1.2 (j, true) hj
  simp only [Bool.not_true, Bool.false_or] at h2
  have h3 := List.all_eq_true.1 h2 k (List.mem_range.2 hk)
  rw [Bool.or_eq_true, Bool.or_eq_true] at h3
  rcases h3 with (h3 | h3) | h3
  · exact absurd (Nat.eq_of_beq_eq_true h3) hki
  · exfalso
    obtain ⟨c, hc⟩ := hu
    have : usedB (depAt D k) j = true := List.any_eq_true.2 ⟨_, hc, Nat.beq_refl _⟩
    rw [this] at h3
    cases h3
  · exact mem h3

def Live (D : List Dep) (listed : Array Bool) (j : Nat) : Prop := ∀ k, listed.getD k false = true → (j, true) ∉ depAt D k
def Has (ops : Array Oper) (listed : Array Bool) (j : Nat) : Prop := listed.getD j false = true ∨ j = ops.size
structure FJ (n B : Nat) (ops : Array Oper) (D : List Dep) (S U : Fp) (φ : Nat → Value → Fp → World → Prop) (l0 : Env) (w0 : World) (listed : Array Bool) (a : Act) (w : World) (x : Nat → Value) (f : Nat → Fp) : Prop where
  size : a.tmps.size = n
  defers : a.defers = []
  ext : Exf B (fun b => S b ∨ U b) w0 w
  lsz : listed.size = ops.size
  fact : ∀ j, Has ops listed j → Live D listed j → φ j (x j) (f j) w ∧ ∀ b, f j b → U b ∧ b < w.heap.size
  sep : ∀ j k, Has ops listed j → Has ops listed k → Live D listed j → Live D listed k → j ≠ k → ∀ b, f j b → ¬ f k b
  val : ∀ j o d, ops[j]? = some o → listed.getD j false = true → o.dst = some d → a.tmps.getD d undef = x j
  dep : ∀ j o, ops[j]? = some o → listed.getD j false = true → ∀ k ∈ depsL o, listed.getD k false = true
  old : ∀ t v, look t l0 = some v → (∀ k o, ops[k]? = some o → listed.getD k false = true → o.dst ≠ some t) → a.tmps.getD t undef = v
theorem listed_lt {listed : Array Bool} {j : Nat} (h : listed.getD j false = true) : j < listed.size := by
  rcases Nat.lt_or_ge j listed.size with h1 | h1
  · exact h1
  · simp [Array.getD, Nat.not_lt.2 h1] at h
theorem FJ.frame {B : Nat} {ops : Array Oper} {D : List Dep} {S U : Fp} {φ : Nat → Value → Fp → World → Prop} {l0 : Env} {w0 w : World} {listed : Array Bool} {a : Act} {x : Nat → Value} {f : Nat → Fp} (h : FJ n B ops D S U φ l0 w0 listed a w x f) {i : Nat} {o : Oper} (ho : ops[i]? = some o)
    (hun : listed.getD i false = false) {L : List Nat} (hdeps : ∀ j ∈ L, Has ops listed j) : Fr n (envD ops.toList x L ++ fil (fun t => keepB i t ops.toList) l0) a := by
  refine ⟨h.size, h.defers, fun t v ht => ?_⟩
  rcases look_app ht with ht | ht
  · obtain ⟨j, hj, h1, rfl⟩ := look_envD ht
    unfold dstOf at h1
    rw [nth_eq] at h1
    split at h1
    · rename_i p hp
      have hp' : ops[j]? = some p := by simpa using hp
      have hjs := (Array.getElem?_eq_some_iff.1 hp').1
      exact h.val j p t hp' ((hdeps j hj).resolve_right (by omega)) h1
    · cases h1
  · obtain ⟨h1, h2⟩ := look_fil ht
    refine h.old t v h1 fun k p hp hk hd => ?_
    have := keepB_spec h2 p (Array.mem_toList_iff.2 (Array.mem_of_getElem? hp)) hd
    rw [h.dep k p hp hk i this] at hun
    cases hun
theorem FJ.hcl {B : Nat} {ops : Array Oper} {D : List Dep} {S U : Fp} {φ : Nat → Value → Fp → World → Prop} {l0 : Env} {w0 w : World} {listed : Array Bool} {a : Act} {x : Nat → Value} {f : Nat → Fp} (hD : depOk ops D = true)
    (h : FJ n B ops D S U φ l0 w0 listed a w x f) {i : Nat} {o : Oper} (ho : ops[i]? = some o) (hun : listed.getD i false = false) (hdeps : ∀ j ∈ depsL o, listed.getD j false = true) {j : Nat} {c : Bool} (hj : (j, c) ∈ depAt D i) : Has ops listed j ∧ Live D listed j := by
  have hil : i < listed.size := by
    rw [h.lsz]
    exact (Array.getElem?_eq_some_iff.1 ho).1
  refine ⟨((depOk_spec hD ho).1 _ hj).imp (hdeps j) id, fun k hk hjk => ?_⟩
  have hks := listed_lt hk
  rw [h.lsz] at hks
  have hp : ops[k]? = some ops[k] := by simp [hks]
  have hki : k ≠ i := fun e => by
    subst e
    rw [hk] at hun
    cases hun
  have := (depOk_spec hD hp).2.2 j hjk i (by rw [← h.lsz]; exact hil) (Ne.symm hki) ⟨_, hj⟩
  rw [h.dep k _ hp hk i this] at hun
  cases hun
theorem FJ.step {B : Nat} {ops : Array Oper} {D : List Dep} {S U : Fp} {φ : Nat → Value → Fp → World → Prop} {l0 : Env} {w0 w w' : World} {listed : Array Bool} {a : Act} {x : Nat → Value} {f : Nat → Fp} (hok : flowOk n ops = true) (hD : depOk ops D = true) (hU : ∀ b, w0.heap.size ≤ b → U b) (hS : ∀ b, S b → ¬ U b)
    (hφ : ∀ (i : Nat) (S' : Fp) v f w w', φ i v f w → (∀ b, S' b → S b ∨ U b) → (∀ b, f b → ¬ S' b) → Exf B S' w w' → φ i v f w')
    (h : FJ n B ops D S U φ l0 w0 listed a w x f) {i : Nat} {o : Oper} (ho : ops[i]? = some o) (hun : listed.getD i false = false) (hdeps : ∀ j ∈ depsL o, listed.getD j false = true) {v : Value} {g : Fp}
    (hx : Exf B (fun b => S b ∨ consF f (depAt D i) b) w w') (hf : φ i v g w') (hg : ∀ b, g b → (w.heap.size ≤ b ∧ b < w'.heap.size) ∨ consF f (depAt D i) b) :
    FJ n B ops D S U φ l0 w0 (listed.setIfInBounds i true) (a.put o.dst v) w' (fun j => if j = i then v else x j) (fun j => if j = i then g else f j) := by
  have hset : ∀ j, j ≠ i → (listed.setIfInBounds i true).getD j false = true → listed.getD j false = true := fun j hj hl => by
    rwa [getD_set_ne false (Ne.symm hj)] at hl
  have his := (Array.getElem?_eq_some_iff.1 ho).1
  have hil : i < listed.size := by
    rw [h.lsz]
    exact his
  have hsetH : ∀ j, j ≠ i → Has ops (listed.setIfInBounds i true) j → Has ops listed j := fun j hj hl => hl.imp (hset j hj) id
  have hsi : (listed.setIfInBounds i true).getD i false = true := by simp [Array.getD, hil]
  have hlive : ∀ j, Live D (listed.setIfInBounds i true) j → Live D listed j ∧ (j, true) ∉ depAt D i := fun j hj => ⟨fun k hk => hj k (getD_set_true hk), hj i hsi⟩
  have hcl : ∀ j, (j, true) ∈ depAt D i → Has ops listed j ∧ Live D listed j := fun j hj => h.hcl hD ho hun hdeps hj
  have hcb : ∀ b, consF f (depAt D i) b → U b ∧ b < w.heap.size := fun b ⟨j, hj, hb⟩ => by
    obtain ⟨h1, h2⟩ := hcl j hj
    exact (h.fact j h1 h2).2 b hb
  have hcs : ∀ k, Has ops listed k → Live D listed k → (k, true) ∉ depAt D i → ∀ b, f k b → ¬ consF f (depAt D i) b := fun k hk hl hn b hb ⟨j, hj, hjb⟩ => by
    obtain ⟨h1, h2⟩ := hcl j hj
    exact h.sep k j hk h1 hl h2 (fun e => hn (e ▸ hj)) b hb hjb
  have hBw : w0.heap.size ≤ w.heap.size := h.ext.size
  refine ⟨by rw [put_size]; exact h.size, by rw [put_defers]; exact h.defers, h.ext.trans (hx.mono fun b hb => hb.imp id fun h => (hcb b h).1), by simp [h.lsz], fun j hl hlv => ?_, fun j k hj hk hlj hlk hne b hb => ?_, fun j p d hp hl hd => ?_, fun j p hp hl k hk => ?_, fun t u ht hno => ?_⟩
  · by_cases e : j = i
    · subst e
      simp only [if_true]
      refine ⟨hf, fun b hb => ?_⟩
      rcases hg b hb with h1 | h1
      · exact ⟨hU b (Nat.le_trans hBw h1.1), h1.2⟩
      · exact ⟨(hcb b h1).1, Nat.lt_of_lt_of_le (hcb b h1).2 hx.size⟩
    · simp only [if_neg e]
      obtain ⟨hl1, hl2⟩ := hlive j hlv
      have hjl := hsetH j e hl
      obtain ⟨f1, f2⟩ := h.fact j hjl hl1
      refine ⟨hφ j _ _ _ _ _ f1 (fun b hb => hb.imp id fun h => (hcb b h).1) (fun b hb hs => ?_) hx, fun b hb => ⟨(f2 b hb).1, Nat.lt_of_lt_of_le (f2 b hb).2 hx.size⟩⟩
      rcases hs with hs | hs
      · exact hS b hs (f2 b hb).1
      · exact hcs j hjl hl1 hl2 b hb hs
  · obtain ⟨lj1, lj2⟩ := hlive j hlj
    obtain ⟨lk1, lk2⟩ := hlive k hlk
    by_cases ej : j = i
    · subst ej
      have ek : k ≠ j := fun e => hne e.symm
      simp only [if_true] at hb
      simp only [if_neg ek]
      have hkl := hsetH k ek hk
      rcases hg b hb with h1 | h1
      · intro hkb
        have := ((h.fact k hkl lk1).2 b hkb).2
        omega
      · exact fun hkb => hcs k hkl lk1 lk2 b hkb h1
    · simp only [if_neg ej] at hb
      have hjl := hsetH j ej hj
      by_cases ek : k = i
      · subst ek
        simp only [if_true]
        intro hkb
        rcases hg b hkb with h1 | h1
        · have := ((h.fact j hjl lj1).2 b hb).2
          omega
        · exact hcs j hjl lj1 lj2 b hb h1
      · simp only [if_neg ek]
        exact h.sep j k hjl (hsetH k ek hk) lj1 lk1 hne b hb
  · by_cases e : j = i
    · subst e
      rw [ho] at hp
      injection hp with hp
      subst hp
      rw [hd]
      simp only [if_true]
      exact put_eq (by rw [h.size]; exact ((flowOk_spec hok ho).2 d hd).1)
    · simp only [if_neg e]
      rw [put_ne (fun e2 => e (((flowOk_spec hok ho).2 d e2).2 j p hp hd))]
      exact h.val j p d hp (hset j e hl) hd
  · apply getD_set_true
    by_cases e : j = i
    · subst e
      rw [ho] at hp
      injection hp with hp
      subst hp
      exact hdeps k hk
    · exact h.dep j p hp (hset j e hl) k hk
  · rw [put_ne (hno i o ho hsi)]
    exact h.old t u ht fun k p hp hk => hno k p hp (getD_set_true hk)

theorem flow_sound2 (hC : C.Ok) {B : Nat} {ops : Array Oper} {D : List Dep} {S U : Fp} {φ : Nat → Value → Fp → World → Prop} {l0 : Env} {w0 : World} {Q : Exit → Act → World → Prop} (hok : flowOk n ops = true) (hD : depOk ops D = true) (hU : ∀ b, w0.heap.size ≤ b → U b) (hS : ∀ b, S b → ¬ U b)
    (hφ : ∀ (i : Nat) (S' : Fp) v f w w', φ i v f w → (∀ b, S' b → S b ∨ U b) → (∀ b, f b → ¬ S' b) → Exf B S' w w' → φ i v f w')
    (hstep : stepsV C B ops.toList D S U φ l0 w0 0 ops.toList) (hend : ∀ listed a w x f, FJ n B ops D S U φ l0 w0 listed a w x f → (∀ j, j < ops.size → listed.getD j false = true) → Q .normal a w) :
    ∀ (fuel : Nat) (listed : Array Bool) (a : Act) (w : World) (x : Nat → Value) (f : Nat → Fp), FJ n B ops D S U φ l0 w0 listed a w x f → listed.toList.count false ≤ fuel → wpAny C.P .any ops Q fuel listed a w := by
  have hall : ∀ listed a w x f, FJ n B ops D S U φ l0 w0 listed a w x f → Region.ready .any ops listed = [] → Q .normal a w := by
    intro listed a w x f h hr
    refine hend listed a w x f h fun j => ?_
    induction j using Nat.strongRecOn with
    | _ j ih =>
      intro hj
      by_cases hl : listed.getD j false = true
      · exact hl
      · exfalso
        have hjl : j < listed.size := by rw [h.lsz]; exact hj
        have ho : ops[j]? = some ops[j] := by simp [hj]
        have : j ∈ Region.ready .any ops listed := by
          rw [mem_ready]
          refine ⟨?_, _, ho, fun e he hb => ?_⟩
          · rw [getD_listed hjl] at hl ⊢
            simpa using hl
          · have hlt := (flowOk_spec hok ho).1 e.on (mem_depsL.2 ⟨e, he, hb, rfl⟩)
            exact ih e.on hlt (by omega)
        rw [hr] at this
        cases this
  intro fuel
  induction fuel with
  | zero =>
    intro listed a w x f h hc
    have hr : Region.ready .any ops listed = [] := by
      rw [List.eq_nil_iff_forall_not_mem]
      intro i hi
      obtain ⟨h1, o, ho, _⟩ := mem_ready.1 hi
      have hil : i < listed.size := by rw [h.lsz]; exact (Array.getElem?_eq_some_iff.1 ho).1
      rw [getD_listed hil] at h1
      have : false ∈ listed.toList := by
        rw [← h1]
        simp
      have := List.count_pos_iff.2 this
      omega
    exact ⟨hr, hall listed a w x f h hr⟩
  | succ fuel ih =>
    intro listed a w x f h hc
    refine ⟨hall listed a w x f h, fun i hi => ?_⟩
    obtain ⟨h1, o, ho, hde⟩ := mem_ready.1 hi
    have hil : i < listed.size := by rw [h.lsz]; exact (Array.getElem?_eq_some_iff.1 ho).1
    have hun : listed.getD i false = false := by
      rw [getD_listed hil] at h1 ⊢
      exact h1
    have hdeps : ∀ j ∈ depsL o, listed.getD j false = true := fun j hj => by
      obtain ⟨e, he, hb, rfl⟩ := mem_depsL.1 hj
      exact hde e he hb
    have hcount : (listed.setIfInBounds i true).toList.count false ≤ fuel := by
      have hl : listed.toList[i]? = some false := by
        rw [getD_listed hil] at h1
        simp [hil, h1]
      have := count_set hl
      rw [Array.toList_setIfInBounds]
      omega
    have hflow := stepsV_get hstep i o (by simpa using ho)
    rw [Nat.zero_add] at hflow
    have hpl : ∀ p ∈ depAt D i, Has ops listed p.1 ∧ Live D listed p.1 := fun p hp => h.hcl hD ho hun hdeps (c := p.2) hp
    obtain ⟨c', hc', hv⟩ := withU_inst (x := x) (f := f) _ _ _ _ (hflow w h.ext) (fun p hp => by
      have := h.fact _ (hpl p hp).1 (hpl p hp).2
      exact ⟨this.1, fun b hb => ⟨(this.2 b hb).1, (this.2 b hb).2, fun x => x⟩⟩)
      (((depOk_spec hD ho).2.1).imp_of_mem fun {p q} hp hq hne b hb => h.sep _ _ (hpl p hp).1 (hpl q hq).1 (hpl p hp).2 (hpl q hq).2 hne b hb)
    have hcf : ∀ b, c' b → consF f (depAt D i) b := fun b hb => (hc' b hb).elim (fun h => h.elim) id
    have hfr := h.frame ho hun (L := (depAt D i).map (·.1)) (fun j hj => by
      obtain ⟨p, hp, rfl⟩ := List.mem_map.1 hj
      exact (hpl p hp).1)
    unfold wpOp
    simp only [ho]
    split at hv
    · rename_i hg
      rw [guard_sound hfr hg, if_pos rfl]
      refine .inl (opF_sound hC hfr.agree hv fun v w' hx ⟨g, hf, hg'⟩ => ih _ _ _ _ _ (h.step hok hD hU hS hφ ho hun hdeps (hx.mono fun b hb => hb.imp id (hcf b)) hf (fun b hb => (hg' b hb).imp id (hcf b))) hcount)
    · rename_i hg
      rw [guard_sound hfr hg, if_neg (by simp)]
      obtain ⟨g, hf, hg'⟩ := hv
      exact ih _ _ _ _ _ (h.step hok hD hU hS hφ ho hun hdeps ((Ext.refl _ _).exf) hf (fun b hb => .inr (hcf b (hg' b hb)))) hcount
    · exact hv.elim

/-- The last operation, that waits for all others, taken by itself. -/
def zV (C : Cx) (n B : Nat) (all : List Oper) (D : List Dep) (S U : Fp) (φ : Nat → Value → Fp → World → Prop) (l0 : Env) (w0 : World) (Q : Env → World → Prop) (i : Nat) (o : Oper) : Prop :=
  ∀ w, Exf B (fun b => S b ∨ U b) w0 w → withU all φ U w (depAt D i) (fun _ => False) (fun _ => False) fun e cns =>
    match guardV all (e ++ fil (fun t => keepE t all) l0) o.guard with
    | some true => opVC C .plain (e ++ fil (fun t => keepE t all) l0) o w fun v w' => putK n (e ++ fil (fun t => keepE t all) l0) o.dst v fun l' => Q l' w'
    | _ => False
def zOk (ops : Array Oper) : Bool := match ops[ops.size - 1]? with
  | some o => (List.range (ops.size - 1)).all fun k => (depsL o).any (Nat.beq k)
  | none => false
theorem FJ.frameE {B : Nat} {ops : Array Oper} {D : List Dep} {S U : Fp} {φ : Nat → Value → Fp → World → Prop} {l0 : Env} {w0 w : World} {listed : Array Bool} {a : Act} {x : Nat → Value} {f : Nat → Fp} (h : FJ n B ops D S U φ l0 w0 listed a w x f)
    {L : List Nat} (hdeps : ∀ j ∈ L, Has ops listed j) : Fr n (envD ops.toList x L ++ fil (fun t => keepE t ops.toList) l0) a := by
  refine ⟨h.size, h.defers, fun t v ht => ?_⟩
  rcases look_app ht with ht | ht
  · obtain ⟨j, hj, h1, rfl⟩ := look_envD ht
    unfold dstOf at h1
    rw [nth_eq] at h1
    split at h1
    · rename_i p hp
      have hp' : ops[j]? = some p := by simpa using hp
      have hjs := (Array.getElem?_eq_some_iff.1 hp').1
      exact h.val j p t hp' ((hdeps j hj).resolve_right (by omega)) h1
    · cases h1
  · obtain ⟨h1, h2⟩ := look_fil ht
    exact h.old t v h1 fun k p hp hk hd => keepE_spec h2 p (Array.mem_toList_iff.2 (Array.mem_of_getElem? hp)) hd

theorem flow_sound3 (hC : C.Ok) {B : Nat} {ops : Array Oper} {D : List Dep} {S U : Fp} {φ : Nat → Value → Fp → World → Prop} {l0 : Env} {w0 : World} {Q : Exit → Env → World → Prop} (hok : flowOk n ops = true) (hD : depOk ops D = true) (hz : zOk ops = true) (hU : ∀ b, w0.heap.size ≤ b → U b) (hS : ∀ b, S b → ¬ U b)
    (hφ : ∀ (i : Nat) (S' : Fp) v f w w', φ i v f w → (∀ b, S' b → S b ∨ U b) → (∀ b, f b → ¬ S' b) → Exf B S' w w' → φ i v f w')
    (hstep : stepsV C B ops.toList D S U φ l0 w0 0 ops.toList.dropLast) (hlast : ∀ o, ops[ops.size - 1]? = some o → zV C n B ops.toList D S U φ l0 w0 (Q .normal) (ops.size - 1) o) :
    ∀ (fuel : Nat) (listed : Array Bool) (a : Act) (w : World) (x : Nat → Value) (f : Nat → Fp), FJ n B ops D S U φ l0 w0 listed a w x f → listed.getD (ops.size - 1) false = false → listed.toList.count false ≤ fuel → wpAny C.P .any ops (qs n Q) fuel listed a w := by
  have hlt : ops.size - 1 < ops.size := by
    unfold zOk at hz
    split at hz
    · rename_i o ho
      exact (Array.getElem?_eq_some_iff.1 ho).1
    · cases hz
  have hnot : ∀ listed a w x f, FJ n B ops D S U φ l0 w0 listed a w x f → listed.getD (ops.size - 1) false = false → Region.ready .any ops listed = [] → False := by
    intro listed a w x f h hl hr
    have hall : ∀ j, j < ops.size → listed.getD j false = true := fun j => by
      induction j using Nat.strongRecOn with
      | _ j ih =>
        intro hj
        by_cases hl : listed.getD j false = true
        · exact hl
        · exfalso
          have hjl : j < listed.size := by rw [h.lsz]; exact hj
          have ho : ops[j]? = some ops[j] := by simp [hj]
          have : j ∈ Region.ready .any ops listed := by
            rw [mem_ready]
            refine ⟨?_, _, ho, fun e he hb => ?_⟩
            · rw [getD_listed hjl] at hl ⊢
              simpa using hl
            · have hlt := (flowOk_spec hok ho).1 e.on (mem_depsL.2 ⟨e, he, hb, rfl⟩)
              exact ih e.on hlt (by omega)
          rw [hr] at this
          cases this
    rw [hall _ hlt] at hl
    cases hl
  intro fuel
  induction fuel with
  | zero =>
    intro listed a w x f h hl hc
    have hr : Region.ready .any ops listed = [] := by
      rw [List.eq_nil_iff_forall_not_mem]
      intro i hi
      obtain ⟨h1, o, ho, _⟩ := mem_ready.1 hi
      have hil : i < listed.size := by rw [h.lsz]; exact (Array.getElem?_eq_some_iff.1 ho).1
      rw [getD_listed hil] at h1
      have : false ∈ listed.toList := by
        rw [← h1]
        simp
      have := List.count_pos_iff.2 this
      omega
    exact (hnot listed a w x f h hl hr).elim
  | succ fuel ih =>
    intro listed a w x f h hlz hc
    refine ⟨fun hr => (hnot listed a w x f h hlz hr).elim, fun i hi => ?_⟩
    obtain ⟨h1, o, ho, hde⟩ := mem_ready.1 hi
    have his := (Array.getElem?_eq_some_iff.1 ho).1
    have hil : i < listed.size := by rw [h.lsz]; exact his
    have hun : listed.getD i false = false := by
      rw [getD_listed hil] at h1 ⊢
      exact h1
    have hdeps : ∀ j ∈ depsL o, listed.getD j false = true := fun j hj => by
      obtain ⟨e, he, hb, rfl⟩ := mem_depsL.1 hj
      exact hde e he hb
    have hcount : (listed.setIfInBounds i true).toList.count false ≤ fuel := by
      have hl : listed.toList[i]? = some false := by
        rw [getD_listed hil] at h1
        simp [hil, h1]
      have := count_set hl
      rw [Array.toList_setIfInBounds]
      omega
    have hpl : ∀ p ∈ depAt D i, Has ops listed p.1 ∧ Live D listed p.1 := fun p hp => h.hcl hD ho hun hdeps (c := p.2) hp
    have hinst := fun K hK => withU_inst (all := ops.toList) (φ := φ) (U := U) (w := w) (x := x) (f := f) (depAt D i) (fun _ => False) (fun _ => False) K hK (fun p hp => by
      have := h.fact _ (hpl p hp).1 (hpl p hp).2
      exact ⟨this.1, fun b hb => ⟨(this.2 b hb).1, (this.2 b hb).2, fun x => x⟩⟩)
      (((depOk_spec hD ho).2.1).imp_of_mem fun {p q} hp hq hne b hb => h.sep _ _ (hpl p hp).1 (hpl q hq).1 (hpl p hp).2 (hpl q hq).2 hne b hb)
    have hdl : ∀ j ∈ (depAt D i).map (·.1), Has ops listed j := fun j hj => by
      obtain ⟨p, hp, rfl⟩ := List.mem_map.1 hj
      exact (hpl p hp).1
    unfold wpOp
    simp only [ho]
    by_cases hiz : i = ops.size - 1
    · subst hiz
      obtain ⟨c', _, hv⟩ := hinst _ (hlast o ho w h.ext)
      have hfr := h.frameE hdl
      split at hv
      · rename_i hg
        rw [guard_sound hfr hg, if_pos rfl]
        refine .inl (op_sound hC hfr.agree hv fun v w' _ hk => ?_)
        have hq : qs n Q .normal (a.put o.dst v) w' := ⟨_, hfr.putE o.dst v, putK_eq (K := fun l' => Q .normal l' w') hk⟩
        have hzr : Region.ready .any ops (listed.setIfInBounds (ops.size - 1) true) = [] := by
          rw [List.eq_nil_iff_forall_not_mem]
          intro k hk
          obtain ⟨k1, p, hp, _⟩ := mem_ready.1 hk
          have hks := (Array.getElem?_eq_some_iff.1 hp).1
          have hkl : k < (listed.setIfInBounds (ops.size - 1) true).size := by rw [Array.size_setIfInBounds, h.lsz]; exact hks
          by_cases e : k = ops.size - 1
          · subst e
            simp [Array.getD, hil] at k1
          · have hm : k ∈ depsL o := by
              unfold zOk at hz
              rw [ho] at hz
              have := List.all_eq_true.1 hz k (List.mem_range.2 (by omega))
              obtain ⟨b, hb, e2⟩ := List.any_eq_true.1 this
              rwa [Nat.eq_of_beq_eq_true e2]
            have := getD_set_true (i := ops.size - 1) (hdeps k hm)
            rw [getD_listed hkl] at k1 this
            rw [this] at k1
            cases k1
        cases fuel with
        | zero => exact ⟨hzr, hq⟩
        | succ m => exact ⟨fun _ => hq, fun k hk => by rw [hzr] at hk; cases hk⟩
      · exact hv.elim
    · have hflow := stepsV_get hstep i o (by
        rw [List.getElem?_dropLast, if_pos (by rw [Array.length_toList]; omega)]
        simpa using ho)
      rw [Nat.zero_add] at hflow
      obtain ⟨c', hc', hv⟩ := hinst _ (hflow w h.ext)
      have hcf : ∀ b, c' b → consF f (depAt D i) b := fun b hb => (hc' b hb).elim (fun h => h.elim) id
      have hfr := h.frame ho hun hdl
      have hlz' : (listed.setIfInBounds i true).getD (ops.size - 1) false = false := by rw [getD_set_ne false hiz]; exact hlz
      split at hv
      · rename_i hg
        rw [guard_sound hfr hg, if_pos rfl]
        refine .inl (opF_sound hC hfr.agree hv fun v w' hx ⟨g, hf, hg'⟩ => ih _ _ _ _ _ (h.step hok hD hU hS hφ ho hun hdeps (hx.mono fun b hb => hb.imp id (hcf b)) hf (fun b hb => (hg' b hb).imp id (hcf b))) hlz' hcount)
      · rename_i hg
        rw [guard_sound hfr hg, if_neg (by simp)]
        obtain ⟨g, hf, hg'⟩ := hv
        exact ih _ _ _ _ _ (h.step hok hD hU hS hφ ho hun hdeps ((Ext.refl _ _).exf) hf (fun b hb => .inr (hcf b (hg' b hb)))) hlz' hcount
      · exact hv.elim

/-- A fact on an operation's value and its own blocks, that holds on whatever the others do. -/
structure Fl (B : Nat) (S U : Fp) where
  p : Value → Fp → World → Prop
  st : ∀ (S' : Fp) v f w w', p v f w → (∀ b, S' b → S b ∨ U b) → (∀ b, f b → ¬ S' b) → Exf B S' w w' → p v f w'
def Fl.is {B : Nat} {S U : Fp} (x : Value) : Fl B S U := ⟨fun v f _ => v = x ∧ ∀ b, ¬ f b, fun _ _ _ _ _ h _ _ _ => h⟩
def fl {B : Nat} {S U : Fp} (L : List (Fl B S U)) (i : Nat) : Value → Fp → World → Prop :=
  match nth i L with
  | some f => f.p
  | none => fun _ _ _ => True
theorem fl_st {B : Nat} {S U : Fp} (L : List (Fl B S U)) : ∀ (i : Nat) (S' : Fp) v f w w', fl L i v f w → (∀ b, S' b → S b ∨ U b) → (∀ b, f b → ¬ S' b) → Exf B S' w w' → fl L i v f w' := by
  intro i S' v f w w' h h1 h2 he
  unfold fl at h ⊢
  cases hf : nth i L with
  | none => trivial
  | some g =>
    rw [hf] at h
    exact g.st S' v f w w' h h1 h2 he
def outDep (outs : List Nat) : Dep := outs.map fun j => (j, false)
theorem FJ.start {ops : Array Oper} {D : List Dep} {l : Env} {w : World} {a : Act} {S U : Fp} {φ : Nat → Value → Fp → World → Prop} (ha : Fr n l a) (v0 : Value) (f0 : Fp) (h0 : φ ops.size v0 f0 w.drew ∧ ∀ b, f0 b → U b ∧ b < w.heap.size) :
    FJ n w.heap.size ops D S U φ l w.drew (Array.replicate ops.size false) a w.drew (fun _ => v0) (fun _ => f0) := by
  refine ⟨ha.size, ha.defers, (Ext.refl _ _).exf, by simp, fun j hj _ => ?_, fun j k hj hk _ _ hne => ?_, fun j o d ho hl _ => ?_, fun j o ho hl => ?_, fun t v ht _ => ha.get t v ht⟩
  · rcases hj with hj | rfl
    · have := listed_lt hj
      rw [Array.size_replicate] at this
      simp [Array.getD, this] at hj
    · exact h0
  · have key : ∀ {j}, Has ops (Array.replicate ops.size false) j → j = ops.size := fun {j} hj => by
      rcases hj with hj | hj
      · have := listed_lt hj
        rw [Array.size_replicate] at this
        simp [Array.getD, this] at hj
      · exact hj
    exact absurd ((key hj).trans (key hk).symm) hne
  · have : j < ops.size := (Array.getElem?_eq_some_iff.1 ho).1
    simp [Array.getD, this] at hl
  · have : j < ops.size := (Array.getElem?_eq_some_iff.1 ho).1
    simp [Array.getD, this] at hl
theorem G.flow2 (hC : C.Ok) {id : Nat} {ops : Array Oper} {l : Env} {w : World} {Q : Exit → Env → World → Prop} (S U : Fp) (v0 : Value) (f0 : Fp) (L : List (Fl w.heap.size S U)) (D : List Dep) (outs : List Nat) (hU : ∀ b, w.heap.size ≤ b → U b) (hS : ∀ b, S b → ¬ U b) (h0 : fl L ops.size v0 f0 w.drew ∧ ∀ b, f0 b → U b ∧ b < w.heap.size)
    (hok : flowOk n ops = true) (hD : depOk ops D = true)
    (hout : (outs.all (fun j => Nat.blt j ops.size && (List.range ops.size).all fun k => !(consB (depAt D k) j)) && nodupB outs) = true)
    (hstep : stepsV C w.heap.size ops.toList D S U (fl L) l w.drew 0 ops.toList)
    (hend : ∀ w', Exf w.heap.size (fun b => S b ∨ U b) w.drew w' → withU ops.toList (fl L) U w' (outDep outs) (fun _ => False) (fun _ => False) fun e _ => Q .normal (e ++ fil (fun t => keepE t ops.toList) l) w') : G C.P n (.region id ops true) l w Q := by
  refine ⟨fun a ha => wp_region_any hC.mixed (flow_sound2 (w0 := w.drew) hC hok hD hU hS (fl_st L) hstep ?_ ops.size _ a w.drew (fun _ => v0) (fun _ => f0) (FJ.start ha v0 f0 h0) ?_)⟩
  · intro listed a w' x f h hl
    rw [Bool.and_eq_true] at hout
    have ho : ∀ j ∈ outs, j < ops.size ∧ Live D listed j := fun j hj => by
      have h1 := List.all_eq_true.1 hout.1 j hj
      rw [Bool.and_eq_true] at h1
      refine ⟨by simpa [Nat.blt_eq] using h1.1, fun k hk hc => ?_⟩
      have hks := listed_lt hk
      rw [h.lsz] at hks
      have h2 := List.all_eq_true.1 h1.2 k (List.mem_range.2 hks)
      rw [consB_iff.2 hc] at h2
      cases h2
    have hpw := nodupB_pw (d := outDep outs) (by rw [outDep, List.map_map]; simpa [Function.comp_def] using hout.2)
    have hmem : ∀ p ∈ outDep outs, p.1 ∈ outs := fun p hp => by
      obtain ⟨j, hj, rfl⟩ := List.mem_map.1 hp
      exact hj
    obtain ⟨c', _, hq⟩ := withU_inst (x := x) (f := f) _ _ _ _ (hend w' h.ext) (fun p hp => by
      obtain ⟨h1, h2⟩ := ho _ (hmem p hp)
      have := h.fact _ (.inl (hl _ h1)) h2
      exact ⟨this.1, fun b hb => ⟨(this.2 b hb).1, (this.2 b hb).2, fun x => x⟩⟩)
      (hpw.imp_of_mem fun {p q} hp hq hne b hb => h.sep _ _ (.inl (hl _ (ho _ (hmem p hp)).1)) (.inl (hl _ (ho _ (hmem q hq)).1)) (ho _ (hmem p hp)).2 (ho _ (hmem q hq)).2 hne b hb)
    refine ⟨_, ⟨h.size, h.defers, fun t v ht => ?_⟩, hq⟩
    rcases look_app ht with ht | ht
    · obtain ⟨j, hj, h1, rfl⟩ := look_envD ht
      unfold dstOf at h1
      rw [nth_eq] at h1
      split at h1
      · rename_i p hp
        obtain ⟨q, hq1, rfl⟩ := List.mem_map.1 hj
        have hjs := (ho _ (hmem q hq1)).1
        exact h.val q.1 p t (by simpa using hp) (hl _ hjs) h1
      · cases h1
    · obtain ⟨h1, h2⟩ := look_fil ht
      exact h.old t v h1 fun k p hp hk hd => keepE_spec h2 p (Array.mem_toList_iff.2 (Array.mem_of_getElem? hp)) hd
  · simp
theorem G.flowZ (hC : C.Ok) {id : Nat} {ops : Array Oper} {l : Env} {w : World} {Q : Exit → Env → World → Prop} (S U : Fp) (v0 : Value) (f0 : Fp) (L : List (Fl w.heap.size S U)) (D : List Dep) (hU : ∀ b, w.heap.size ≤ b → U b) (hS : ∀ b, S b → ¬ U b) (h0 : fl L ops.size v0 f0 w.drew ∧ ∀ b, f0 b → U b ∧ b < w.heap.size)
    (hok : flowOk n ops = true) (hD : depOk ops D = true) (hz : zOk ops = true)
    (hstep : stepsV C w.heap.size ops.toList D S U (fl L) l w.drew 0 ops.toList.dropLast)
    (hlast : match nth (ops.size - 1) ops.toList with
      | some o => zV C n w.heap.size ops.toList D S U (fl L) l w.drew (Q .normal) (ops.size - 1) o
      | none => False) : G C.P n (.region id ops true) l w Q := by
  have hl : ∀ o, ops[ops.size - 1]? = some o → zV C n w.heap.size ops.toList D S U (fl L) l w.drew (Q .normal) (ops.size - 1) o := fun o ho => by
    rw [nth_eq, Array.getElem?_toList, ho] at hlast
    exact hlast
  refine ⟨fun a ha => wp_region_any hC.mixed (flow_sound3 (w0 := w.drew) hC hok hD hz hU hS (fl_st L) hstep hl ops.size _ a w.drew (fun _ => v0) (fun _ => f0) (FJ.start ha v0 f0 h0) ?_ ?_)⟩
  · by_cases h : ops.size - 1 < ops.size
    · simp [Array.getD, h]
    · simp [Array.getD, h]
  · simp
end

end Go.Proofs.YtmcdcfbhpdacfaaDoor.Sx


/-
  A small calculus for stepping through a function's code with a list of known slots: the core (frames, code, any order of a region).
-/
import Derived.WalkKit

import Derived.Orders

import Derived.Deep.LoopGhost

import Derived.KernelRfl

namespace Go.Proofs.Ytjghlmbibimbiaa.Sx

open Go

set_option linter.unusedVariables false

set_option linter.unusedSimpArgs false

/-! ### Known slots -/
abbrev Env := List (Nat × Value)
def look (t : Nat) : Env → Option Value
  | [] => none
  | (s, v) :: r => match Nat.beq t s with
    | true => some v
    | false => look t r
def evl (l : Env) : Operand → Option Value
  | .tmp t => look t l
  | .const v => some v
  | .global g => some (.pointer (some ⟨g, 0, none⟩))
  | .func f => some (.func (.func f) #[] #[])
def evls (l : Env) : List Operand → Option (List Value)
  | [] => some []
  | x :: xs => match evl l x with
    | none => none
    | some v => match evls l xs with
      | none => none
      | some vs => some (v :: vs)

structure Fr (n : Nat) (l : Env) (a : Act) : Prop where
  size : a.tmps.size = n
  defers : a.defers = []
  get : ∀ t v, look t l = some v → a.tmps.getD t undef = v

theorem look_cons (t s : Nat) (v : Value) (l : Env) : look t ((s, v) :: l) = if t = s then some v else look t l := by
  change (match Nat.beq t s with | true => some v | false => look t l) = _
  by_cases h : t = s
  · subst h; simp
  · have : Nat.beq t s = false := by
      cases hb : Nat.beq t s
      · rfl
      · exact absurd (Nat.eq_of_beq_eq_true hb) h
    rw [this, if_neg h]

theorem Fr.eval {n : Nat} {l : Env} {a : Act} (h : Fr n l a) {x : Operand} {v : Value} (hx : evl l x = some v) : a.eval x = v := by
  cases x with
  | tmp t => exact h.get t v hx
  | const u => simpa [evl, Act.eval] using hx
  | global g => simpa [evl, Act.eval] using hx
  | func f => simpa [evl, Act.eval] using hx

theorem Fr.evals {n : Nat} {l : Env} {a : Act} (h : Fr n l a) : ∀ {xs : List Operand} {vs : List Value}, evls l xs = some vs → xs.map a.eval = vs
  | [], vs, hx => by simpa [evls] using hx
  | x :: xs, vs, hx => by
    unfold evls at hx
    cases h1 : evl l x with
    | none => simp [h1] at hx
    | some v =>
      cases h2 : evls l xs with
      | none => simp [h1, h2] at hx
      | some us =>
        simp [h1, h2] at hx
        subst hx
        simp [h.eval h1, h.evals h2]

theorem Fr.put {n : Nat} {l : Env} {a : Act} (h : Fr n l a) {d : Nat} (hd : d < n) (v : Value) : Fr n ((d, v) :: l) (a.put (some d) v) := by
  refine ⟨by simp [Act.put, h.size], h.defers, fun t u ht => ?_⟩
  rw [look_cons] at ht
  by_cases e : t = d
  · subst e
    simp at ht
    subst ht
    simp [Act.put, Array.getElem?_setIfInBounds, h.size, hd]
  · rw [if_neg e] at ht
    have := h.get t u ht
    simp only [Act.put, Array.getD_eq_getD_getElem?] at this ⊢
    rw [Array.getElem?_setIfInBounds_ne (by omega)]
    exact this

/-- All that `l'` knows stands in `l` too. -/
def Sub : Env → Env → Prop
  | [], _ => True
  | (t, v) :: r, l => look t l = some v ∧ Sub r l
theorem Sub.look {l' l : Env} (h : Sub l' l) {t : Nat} {v : Value} (ht : look t l' = some v) : look t l = some v := by
  induction l' with
  | nil => simp [Sx.look] at ht
  | cons p r ih =>
    obtain ⟨s, u⟩ := p
    rw [look_cons] at ht
    by_cases e : t = s
    · subst e; simp at ht; subst ht; exact h.1
    · rw [if_neg e] at ht; exact ih h.2 ht
theorem Fr.sub {n : Nat} {l l' : Env} {a : Act} (h : Fr n l a) (hs : Sub l' l) : Fr n l' a := ⟨h.size, h.defers, fun t v ht => h.get t v (hs.look ht)⟩

/-! ### The frame of memory -/
/-- But for the blocks of `S` what was there is as it was. -/
structure Ext (S : Nat → Prop) (w w' : World) : Prop where
  os : w'.os = w.os
  tape : w'.tape = w.tape
  output : w'.output = w.output
  size : w.heap.size ≤ w'.heap.size
  blk : ∀ k, k < w.heap.size → ¬ S k → w'.heap[k]? = w.heap[k]?
abbrev Non : Nat → Prop := fun _ => False
theorem Ext.refl (S : Nat → Prop) (w : World) : Ext S w w := ⟨rfl, rfl, rfl, Nat.le_refl _, fun _ _ _ => rfl⟩
theorem Ext.trans' {S S' T : Nat → Prop} {a b c : World} (h : Ext S a b) (k : Ext S' b c) (hS : ∀ i, i < a.heap.size → S i → T i) (hS' : ∀ i, i < a.heap.size → S' i → T i) : Ext T a c :=
  ⟨k.os.trans h.os, k.tape.trans h.tape, k.output.trans h.output, Nat.le_trans h.size k.size, fun i hi hn =>
    (k.blk i (Nat.lt_of_lt_of_le hi h.size) (fun x => hn (hS' i hi x))).trans (h.blk i hi (fun x => hn (hS i hi x)))⟩
theorem Ext.trans {S : Nat → Prop} {a b c : World} (h : Ext S a b) (k : Ext S b c) : Ext S a c := h.trans' k (fun _ _ x => x) (fun _ _ x => x)
theorem Ext.mono {S T : Nat → Prop} {a b : World} (h : Ext S a b) (hS : ∀ i, S i → T i) : Ext T a b := ⟨h.os, h.tape, h.output, h.size, fun i hi hn => h.blk i hi (fun x => hn (hS i x))⟩
theorem Ext.alloc (S : Nat → Prop) (w : World) (o : Obj) : Ext S w (w.alloc o) :=
  ⟨rfl, rfl, rfl, by simp, fun k hk _ => RowKit.Below.heap_alloc w o k hk⟩
theorem Ext.drew (S : Nat → Prop) (w : World) : Ext S w w.drew := ⟨rfl, rfl, rfl, Nat.le_refl _, fun _ _ _ => rfl⟩
theorem Ext.setCell {S : Nat → Prop} (w : World) {a : Addr} (h : S a.block) (v : Value) : Ext S w (w.setCell a v) :=
  ⟨rfl, rfl, rfl, by simp, fun k _ hn => RowKit.Below.heap_setCell w a v k (fun e => hn (e ▸ h))⟩
theorem Ext.below {w w' : World} (h : Ext Non w w') : RowKit.Below w.heap.size w w' := ⟨h.os, h.tape, h.output, h.size, fun k hk => h.blk k hk (fun x => x)⟩
theorem Ext.of_below {S : Nat → Prop} {w w' : World} (h : RowKit.Below w.heap.size w w') : Ext S w w' := ⟨h.os, h.tape, h.output, h.size, fun k hk _ => h.block k hk⟩
theorem Ext.cell {S : Nat → Prop} {w w' : World} (h : Ext S w w') {a : Addr} {v : Value} (hc : w.cell? a = some v) (hS : ¬ S a.block) : w'.cell? a = some v :=
  (World.cell?_of_block (w := w) (h.blk a.block (World.block_lt_of_cell? w a hc) hS)).trans hc

/-! ### A call that returns -/
def Ret (P : Program) (f : FuncId) (args : Array Value) (w : World) (Post : Value → World → Prop) : Prop :=
  Calls P f args w fun e w' => ∃ v, e = .returned v ∧ Post v w'
theorem Ret.mono {P : Program} {f : FuncId} {args : Array Value} {w : World} {R R' : Value → World → Prop} (h : Ret P f args w R) (hr : ∀ v w', R v w' → R' v w') : Ret P f args w R' :=
  Calls.mono h fun e w' ⟨v, he, hv⟩ => ⟨v, he, hr v w' hv⟩

/-! ### Code -/
def qs (n : Nat) (Q : Exit → Env → World → Prop) : Exit → Act → World → Prop
  | .panic _, _, _ => False
  | .outgrown, _, _ => False
  | e, a, w => ∃ l, Fr n l a ∧ Q e l w
/-- From every frame that knows `l`, in world `w`, the code comes to an exit as `Q` says. -/
structure G (P : Program) (n : Nat) (c : Code) (l : Env) (w : World) (Q : Exit → Env → World → Prop) : Prop where mk ::
  out : ∀ a, Fr n l a → c.wp P (qs n Q) a w

def thenQ (A : Env → World → Prop) (Q : Exit → Env → World → Prop) : Exit → Env → World → Prop
  | .normal, l, w => A l w
  | e, l, w => Q e l w
def blockQ (id : Nat) (Q : Exit → Env → World → Prop) : Exit → Env → World → Prop
  | .exit k, l, w => match Nat.beq k id with
    | true => Q .normal l w
    | false => Q (.exit k) l w
  | e, l, w => Q e l w

section

variable {P : Program} {n : Nat} {l : Env} {w : World} {Q : Exit → Env → World → Prop}
theorem G.weak {c : Code} (l' : Env) (hs : Sub l' l) (h : G P n c l' w Q) : G P n c l w Q := ⟨fun a ha => h.out a (ha.sub hs)⟩
theorem G.seq {x y : Code} (h : G P n x l w (thenQ (fun l' w' => G P n y l' w' Q) Q)) : G P n (.seq x y) l w Q := by
  refine ⟨fun a ha => wp_seq (wp_mono (h.out a ha) fun e a w hq => ?_)⟩
  cases e with
  | normal => obtain ⟨l', hl, hg⟩ := hq; exact hg.out a hl
  | exit id => exact hq
  | goto l => exact hq
  | ret => exact hq
  | panic c => exact hq
  | outgrown => exact hq
/-- Cut: what stands between is said by hand. -/
theorem G.cut {x y : Code} (M : Env → World → Prop) (hx : G P n x l w (thenQ M Q)) (hy : ∀ l w, M l w → G P n y l w Q) : G P n (.seq x y) l w Q := by
  refine .seq ⟨fun a ha => wp_mono (hx.out a ha) fun e a w hq => ?_⟩
  cases e with
  | normal => obtain ⟨l', hl, hg⟩ := hq; exact ⟨l', hl, hy _ _ hg⟩
  | exit id => exact hq
  | goto l => exact hq
  | ret => exact hq
  | panic c => exact hq
  | outgrown => exact hq
theorem G.skip (h : Q .normal l w) : G P n .skip l w Q := ⟨fun a ha => wp_skip ⟨l, ha, h⟩⟩
theorem G.label {k : Nat} (h : Q .normal l w) : G P n (.label k) l w Q := ⟨fun a ha => wp_label ⟨l, ha, h⟩⟩
theorem G.ret (h : Q .ret l w) : G P n .ret l w Q := ⟨fun a ha => wp_ret ⟨l, ha, h⟩⟩
theorem G.exit {id : Nat} (h : Q (.exit id) l w) : G P n (.exit id) l w Q := ⟨fun a ha => wp_exit ⟨l, ha, h⟩⟩
theorem G.block {id : Nat} {c : Code} (h : G P n c l w (blockQ id Q)) : G P n (.block id c) l w Q := by
  refine ⟨fun a ha => wp_block (wp_mono (h.out a ha) fun e a w hq => ?_)⟩
  cases e with
  | normal => exact hq
  | exit k =>
    obtain ⟨l', hl, hg⟩ := hq
    by_cases e : k = id
    · subst e
      simp only [blockQ, Nat.beq_refl] at hg
      simp only [Exit.inBlock, if_true]
      exact ⟨l', hl, hg⟩
    · have hb : Nat.beq k id = false := by
        cases hb : Nat.beq k id
        · rfl
        · exact absurd (Nat.eq_of_beq_eq_true hb) e
      simp only [blockQ, hb] at hg
      simp only [Exit.inBlock, if_neg e]
      exact ⟨l', hl, hg⟩
  | goto l => exact hq
  | ret => exact hq
  | panic c => exact hq
  | outgrown => exact hq
theorem G.cond_t {c : Operand} {x y : Code} (hc : evl l c = some (.bool true)) (h : G P n x l w Q) : G P n (.cond c x y) l w Q :=
  ⟨fun a ha => wp_cond_true (ha.eval hc) (h.out a ha)⟩
theorem G.cond_f {c : Operand} {x y : Code} (hc : evl l c = some (.bool false)) (h : G P n y l w Q) : G P n (.cond c x y) l w Q :=
  ⟨fun a ha => wp_cond_false (ha.eval hc) (h.out a ha)⟩
theorem G.cond_b {c : Operand} {x y : Code} {b : Bool} (hc : evl l c = some (.bool b)) (ht : b = true → G P n x l w Q) (hf : b = false → G P n y l w Q) : G P n (.cond c x y) l w Q :=
  ⟨fun a ha => wp_cond_split (ha.eval hc) (fun h => (ht h).out a ha) (fun h => (hf h).out a ha)⟩
/-- A loop: `E s` is what is known of the slots at the round's head, `J s w` what holds; `μ s` falls. -/
theorem G.loop {α : Type} {c : Code} (E : α → Env) (J : α → World → Prop) (μ : α → Nat) (s₀ : α) (h₀ : Sub (E s₀) l) (j₀ : J s₀ w)
    (round : ∀ s w, J s w → G P n c (E s) w (thenQ (fun l' w' => ∃ s', Sub (E s') l' ∧ J s' w' ∧ μ s' < μ s) Q)) : G P n (.loop c) l w Q := by
  refine ⟨fun a ha => Go.wp_loop_ghost (fun m a w => ∃ s, μ s = m ∧ Fr n (E s) a ∧ J s w) (μ s₀) ⟨s₀, rfl, ha.sub h₀, j₀⟩ ?_⟩
  rintro m a w ⟨s, rfl, hs, hj⟩
  refine wp_mono ((round s w hj).out a hs) fun e a' w' hq => ?_
  cases e with
  | normal =>
    obtain ⟨l', hl, s', hsub, hj', hlt⟩ := hq
    exact ⟨μ s', hlt, s', rfl, hl.sub hsub, hj'⟩
  | exit id => exact hq
  | goto l => exact hq
  | ret => exact hq
  | panic c => exact hq
  | outgrown => exact hq
end

end Go.Proofs.Ytjghlmbibimbiaa.Sx

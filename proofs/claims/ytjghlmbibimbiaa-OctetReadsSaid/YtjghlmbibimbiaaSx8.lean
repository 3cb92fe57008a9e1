
/-
  What is to be shown of an operation that makes or writes memory, or calls; that it suffices.
-/
import Derived.Test.YtjghlmbibimbiaaSx7

namespace Go.Proofs.Ytjghlmbibimbiaa.Sx

open Go

set_option linter.unusedVariables false

set_option linter.unusedSimpArgs false

def At (w : World) (b : Nat) (cs : List Value) (t : Nat) (fr : Nat × Nat) : Prop := w.heap[b]? = some (.cells cs.toArray t fr)
theorem At.cell {w : World} {b : Nat} {cs : List Value} {t : Nat} {fr : Nat × Nat} (h : At w b cs t fr) {i : Nat} {v : Value} (hi : cs[i]? = some v) : w.cell? ⟨b, i, none⟩ = some v := by
  unfold At at h
  simp [World.cell?, h, hi]
theorem At.lt {w : World} {b : Nat} {cs : List Value} {t : Nat} {fr : Nat × Nat} (h : At w b cs t fr) : b < w.heap.size := (Array.getElem?_eq_some_iff.1 h).1
theorem At.ext {w w' : World} {b : Nat} {cs : List Value} {t : Nat} {fr : Nat × Nat} {S : Nat → Prop} (h : At w b cs t fr) (he : Ext S w w') (hS : ¬ S b) : At w' b cs t fr := by
  have h1 := he.blk b h.lt hS
  unfold At at *
  rw [h1]
  exact h
/-- A block that was not there. -/
structure New (w w' : World) (b : Nat) (cs : List Value) (t : Nat) (fr : Nat × Nat) : Prop where
  ext : Ext Non w w'
  ge : w.heap.size ≤ b
  at_ : At w' b cs t fr
theorem New.alloc (w : World) (cs : List Value) (t : Nat) : New w (w.alloc (.cells cs.toArray t)) w.heap.size cs t (0, 0) :=
  ⟨Ext.alloc _ _ _, Nat.le_refl _, heap_alloc_new w _⟩
theorem At.set {w : World} {b : Nat} {cs : List Value} {t : Nat} {fr : Nat × Nat} (h : At w b cs t fr) (off : Nat) (v : Value) : At (w.setCell ⟨b, off, none⟩ v) b (cs.set off v) t fr := by
  unfold At at *
  simp [World.setCell, Array.getElem?_modify, h]
theorem At.frozen {w : World} {b : Nat} {cs : List Value} {t : Nat} {fr : Nat × Nat} (h : At w b cs t fr) {off : Nat} (hf : ¬ (fr.1 ≤ off ∧ off < fr.2)) : w.frozen? ⟨b, off, none⟩ = false := by
  unfold At at h
  obtain ⟨lo, hi⟩ := fr
  simp only [World.frozen?, h]
  simpa using hf

structure Al (w : World) (cs : List Value) (t : Nat) (K : Nat → World → Prop) : Prop where mk ::
  out : ∀ b w', New w w' b cs t (0, 0) → K b w'
def Md.wr (m : Md) (b : Nat) : Prop := match m with
  | .plain => True
  | .any S => S b
theorem Md.W_ext {m : Md} {w w' : World} (h : Ext Non w w') : m.W w w' := by
  cases m
  · trivial
  · exact h.mono fun _ x => x.elim
theorem Md.W_one {m : Md} {w w' : World} {b : Nat} (h : Ext (· = b) w w') (hb : m.wr b) : m.W w w' := by
  cases m
  · trivial
  · exact h.mono fun i x => by rw [x]; exact hb
/-- A store of one cell. -/
structure St1 (m : Md) (w : World) (b off : Nat) (v : Value) (K : World → Prop) : Prop where mk' ::
  out : ∃ cs t fr, At w b cs t fr ∧ off < cs.length ∧ ¬ (fr.1 ≤ off ∧ off < fr.2) ∧ m.wr b ∧ ∀ w', At w' b (cs.set off v) t fr → Ext (· = b) w w' → K w'
theorem St1.mk {m : Md} {w : World} {b off : Nat} {v : Value} {K : World → Prop} {cs : List Value} {t : Nat} {fr : Nat × Nat} (h : At w b cs t fr) (hl : off < cs.length) (hf : ¬ (fr.1 ≤ off ∧ off < fr.2)) (hm : m.wr b)
    (k : ∀ w', At w' b (cs.set off v) t fr → Ext (· = b) w w' → K w') : St1 m w b off v K := ⟨cs, t, fr, h, hl, hf, hm, k⟩
/-- A store of several cells. -/
structure StA (m : Md) (w : World) (b off : Nat) (vs : List Value) (K : World → Prop) : Prop where mk' ::
  out : ∃ cs t fr, At w b cs t fr ∧ off + vs.length ≤ cs.length ∧ (fr.2 ≤ off ∨ off + vs.length ≤ fr.1) ∧ (∀ v ∈ vs, v.oneCell' = true) ∧ m.wr b ∧ ∀ w', At w' b (ov cs off vs) t fr → Ext (· = b) w w' → K w'
theorem StA.mk {m : Md} {w : World} {b off : Nat} {vs : List Value} {K : World → Prop} {cs : List Value} {t : Nat} {fr : Nat × Nat} (h : At w b cs t fr) (hl : off + vs.length ≤ cs.length) (hf : fr.2 ≤ off ∨ off + vs.length ≤ fr.1)
    (h1 : ∀ v ∈ vs, v.oneCell' = true) (hm : m.wr b) (k : ∀ w', At w' b (ov cs off vs) t fr → Ext (· = b) w w' → K w') : StA m w b off vs K := ⟨cs, t, fr, h, hl, hf, h1, hm, k⟩
structure Run (P : Program) (m : Md) (w : World) (s : Sem Value) (K : Value → World → Prop) : Prop where mk ::
  out : ∃ v w', s.run P w = .ok v w' ∧ m.W w w' ∧ K v w'
structure Cl (P : Program) (m : Md) (f : FuncId) (args : List Value) (w : World) (K : Value → World → Prop) : Prop where mk' ::
  out : Calls P f args.toArray w fun e w' => ∃ v, e = .returned v ∧ m.W w w' ∧ K v w'
theorem Cl.mk {P : Program} {f : FuncId} {args : List Value} {w : World} {K : Value → World → Prop} {Post : Value → World → Prop} (c : Ret P f args.toArray w Post) (k : ∀ v w', Post v w' → K v w') : Cl P .plain f args w K :=
  ⟨Calls.mono c fun e w' ⟨v, he, hp⟩ => ⟨v, he, trivial, k v w' hp⟩⟩
theorem Cl.dr {P : Program} {S : Nat → Prop} {f : FuncId} {args : List Value} {w : World} {K : Value → World → Prop} {Post : Value → World → Prop} (c : Ret P f args.toArray w Post) (hx : ∀ v w', Post v w' → Ext S w w')
    (k : ∀ v w', Post v w' → K v w') : Cl P (.any S) f args w K :=
  ⟨Calls.mono c fun e w' ⟨v, he, hp⟩ => ⟨v, he, hx v w' hp, k v w' hp⟩⟩

def zrep (z : Value) (n : Nat) : List Value := (List.replicate n (vcells z)).flatten
/-- Functions lo, .., hi - 1 can be called. -/
def Fns (P : Program) (lo hi : Nat) : Prop := ∀ f, lo ≤ f → f < hi → ∃ fn, P.funcs[f]? = some fn ∧ fn.body.isSome = true ∧ (fn.name == "runtime.NumGoroutine") = false
def fnB (P : Program) (f : Nat) : Bool := match P.funcs[f]? with
  | some fn => fn.body.isSome && !(fn.name == "runtime.NumGoroutine")
  | none => false
theorem Fns.of {P : Program} {lo hi : Nat} (h : ((List.range hi).drop lo).all (fnB P) = true) : Fns P lo hi := by
  intro f h1 h2
  rw [List.all_eq_true] at h
  have := h f (by
    rw [List.mem_iff_getElem?]
    refine ⟨f - lo, ?_⟩
    rw [List.getElem?_drop, List.getElem?_range (by omega)]
    congr 1
    omega)
  unfold fnB at this
  split at this
  · rename_i fn hfn
    simp only [Bool.and_eq_true, Bool.not_eq_true'] at this
    exact ⟨fn, hfn, this.1, this.2⟩
  · cases this
theorem Fns.run {P : Program} {lo hi f : Nat} (h : Fns P lo hi) (h1 : Nat.ble lo f = true) (h2 : Nat.blt f hi = true) (args : Array Value) (w : World) : (callFunc f args).run P w = .ok (.enter f args) w := by
  obtain ⟨fn, h3, h4, h5⟩ := h f (Nat.le_of_ble_eq_true h1) (Nat.le_of_ble_eq_true h2)
  have h6 : fn.body.isNone = false := by cases hb : fn.body <;> simp_all
  simp only [callFunc, Sem.run_bind, run_program, Result.andThen_ok, h3, h5, h6, Bool.false_eq_true, if_false, Sem.run_pure]

def wrVC (P : Program) (tab : Tab) (lo hi : Nat) (m : Md) (l : Env) (o : Oper) (w : World) (K : Value → World → Prop) : Prop :=
  match o.op with
  | .alloc t => match tlook t tab with
    | some ti => Al w (vcells ti.zero) t fun b w' => K (.pointer (some ⟨b, 0, none⟩)) w'
    | none => False
  | .box t x => match evl l x with
    | some v => Al w (vcells v) t fun b w' => K (.pointer (some ⟨b, 0, none⟩)) w'
    | none => False
  | .buildSlice t n ps => match tlook t tab, evparts l ps.toList with
    | some ⟨.slice e, _, _, _⟩, some vs => (match tlook e tab with
      | some ei => Nd (n * ei.size ≤ 16777216 ∧ (vcells ei.zero).length = ei.size) (fillVC (fun i => some (i * ei.size, ei.size)) (zrep ei.zero n) vs fun cs => Al w cs e fun b w' => K (.slice (some ⟨b, 0, none⟩) n n) w')
      | none => False)
    | _, _ => False
  | .store t a x => match tlook t tab, evl l a, evl l x with
    | some ti, some (.pointer (some ⟨b, off, none⟩)), some v => (match v with
      | .agg cs => Nd (cs.size = ti.size) (StA m w b off cs.toList fun w' => K undef w')
      | .tuple _ => False
      | v => Nd (ti.size = 1 ∧ v.oneCell' = true) (St1 m w b off v fun w' => K undef w'))
    | _, _, _ => False
  | .makeSlice t n c => match tlook t tab, evl l n, evl l c with
    | some ⟨.slice e, _, _, _⟩, some (.int _ i), some (.int _ j) => (match tlook e tab with
      | some ei => Nd (0 ≤ i ∧ i ≤ j ∧ j ≤ 9223372036854775807 ∧ (ei.bytes : Int) * j ≤ 281474976710656 ∧ (vcells ei.zero).length = ei.size) (Ev i.toNat fun i' => Ev j.toNat fun j' =>
          Al w (zrep ei.zero j') e fun b w' => K (.slice (some ⟨b, 0, none⟩) i' j') w')
      | none => False)
    | _, _, _ => False
  | .convert s d x => match tlook s tab, tlook d tab, evl l x with
    | some _, some ⟨.slice e, _, _, _⟩, some (.string str) => (match tlook e tab with
      | some ⟨.int .u8, _, _, _⟩ => Run P m w (Conv.stringToBytes e str) K
      | _ => False)
    | some _, some ⟨.slice _, _, _, _⟩, some (.slice A n c) => Run P m w (convert s d (.slice A n c)) K
    | _, _, _ => False
  | .call c => match c.callee with
    | .builtin .append => (match evls l c.args.toList with
      | some vs => Run P m w (Builtin.append_ c.argTypes o.type vs.toArray) K
      | none => False)
    | .builtin .copy => (match evls l c.args.toList with
      | some vs => Run P m w (Builtin.copy_ c.argTypes o.type vs.toArray) K
      | none => False)
    | .value f => (match evl l f, evls l c.args.toList with
      | some (.func (.func g) fi ca), some vs => (match Nat.ble lo g, Nat.blt g hi with
        | true, true => Cl P m g (fi.toList ++ (vs ++ ca.toList)) w K
        | _, _ => False)
      | _, _ => False)
    | _ => False
  | .lookup t x i ok => match evl l x, evl l i with
    | some a, some b => Run P m w (Instr.lookup t a b ok) K
    | _, _ => False
  | .makeMap t r => match r with
    | none => Run P m w (Instr.makeMap t none) K
    | _ => False
  | .mapUpdate t mp k x => match evl l mp, evl l k, evl l x with
    | some a, some b, some c => Run P m w (do Instr.mapUpdate t a b c; pure undef) K
    | _, _, _ => False
  | _ => False

theorem range_flat (zc : List Value) (n : Nat) : ((List.range (n * zc.length)).map fun i => zc.toArray[i % zc.toArray.size]!) = (List.replicate n zc).flatten := by
  induction n with
  | zero => simp
  | succ n ih =>
    rw [List.replicate_succ', List.flatten_append, ← ih, Nat.succ_mul, List.range_add, List.map_append]
    congr 1
    simp only [List.map_map, List.flatten_cons, List.flatten_nil, List.append_nil]
    apply List.ext_getElem
    · simp
    · intro i h1 h2
      simp at h1
      simp [Nat.mod_eq_of_lt h1, h1]

theorem run_storeCells {P : Program} (b off : Nat) : ∀ (vs : List Value) (i : Nat) (w : World) (cs : List Value) (t : Nat) (fr : Nat × Nat), At w b cs t fr → off + i + vs.length ≤ cs.length → (fr.2 ≤ off ∨ off + i + vs.length ≤ fr.1) →
    (∀ v ∈ vs, v.oneCell' = true) → ∃ w', (storeCells ⟨b, off, none⟩ vs i).run P w = .ok () w' ∧ At w' b (ov cs (off + i) vs) t fr ∧ Ext (· = b) w w'
  | [], i, w, cs, t, fr, h, _, _, _ => ⟨w, rfl, by rw [ov_nil]; exact h, Ext.refl _ _⟩
  | v :: r, i, w, cs, t, fr, h, hl, hf, h1 => by
    simp only [List.length_cons] at hl hf
    have hc : w.cell? ⟨b, off + i, none⟩ = some (cs[off + i]'(by omega)) := h.cell (by simp)
    have hfz := h.frozen (off := off + i) (by rcases hf with hf | hf <;> omega)
    obtain ⟨w', h2, h3, h4⟩ := run_storeCells (P := P) b off r (i + 1) (w.setCell ⟨b, off + i, none⟩ v) (cs.set (off + i) v) t fr (h.set _ _) (by simp; omega) (by rcases hf with hf | hf <;> omega) (fun u hu => h1 u (List.mem_cons_of_mem _ hu))
    refine ⟨w', ?_, ?_, (Ext.setCell (S := (· = b)) w (a := ⟨b, off + i, none⟩) rfl v).trans h4⟩
    · simp only [storeCells, Sem.run_bind, add_none]
      rw [run_store _ _ _ _ _ (h1 v (by simp))]
      simp [hc, hfz, h2]
    · have e : ov (cs.set (off + i) v) (off + (i + 1)) r = ov cs (off + i) (v :: r) := by
        have e1 : (cs.set (off + i) v).take (off + (i + 1)) = cs.take (off + i) ++ [v] := by
          rw [show off + (i + 1) = (off + i) + 1 from by omega, List.take_succ_eq_append_getElem (by simp; omega)]
          simp [List.take_set_of_le]
        have e2 : (cs.set (off + i) v).drop (off + (i + 1) + r.length) = cs.drop (off + i + (r.length + 1)) := by
          rw [List.drop_set_of_lt (by omega)]
          congr 1
          omega
        simp only [ov, List.length_cons]
        rw [e1, e2]
        simp
      rw [e] at h3
      exact h3

section

variable {P : Program} {tab : Tab} {l : Env}
theorem upon_value {o : Oper} {a : Act} {next : Act → World → Prop} {Q : Exit → Act → World → Prop} {w w' : World} {v : Value} (h : (execOp a.eval o).run P w = .ok (.value v) w') (k : next (a.put o.dst v) w') : o.wp P a w next Q := by
  unfold Oper.wp
  rw [h]
  exact k
theorem upon_skip {o : Oper} {a : Act} {next : Act → World → Prop} {Q : Exit → Act → World → Prop} {w w' : World} (h : (execOp a.eval o).run P w = .ok .skip w') (k : next (a.put o.dst undef) w') : o.wp P a w next Q := by
  unfold Oper.wp
  rw [h]
  exact k

theorem arange0 : Array.range 0 = #[] := rfl
theorem run_buildSlice {t e sz by_ n : Nat} {z : Value} {ei : TI} (ht : TIok P t ⟨.slice e, sz, by_, z⟩) (he : TIok P e ei) (hn : n * ei.size ≤ 16777216) (hsz : (vcells ei.zero).length = ei.size) {vs : List (Nat × Value)} {cs : List Value}
    (h1 : Instr.fill (fun i => some (i * ei.size, ei.size)) (zrep ei.zero n).toArray vs = some cs.toArray) (w : World) :
    (Instr.buildSlice t n vs.toArray).run P w = .ok (.slice (some ⟨w.heap.size, 0, none⟩) n n) (w.alloc (.cells cs.toArray e)) := by
  have hz : ei.zero.cells = (vcells ei.zero).toArray := by rw [← vcells_eq]
  have h3 : ¬ n * ei.size > 2 ^ 24 := by omega
  simp only [Instr.buildSlice, Sem.run_bind, run_underlying ht.slice, Result.andThen_ok, he.run_size, if_neg h3, List.toList_toArray]
  by_cases h0 : n * ei.size = 0
  · have hr : zrep ei.zero n = [] := by
      apply List.eq_nil_of_length_eq_zero
      simp [zrep, hsz, h0]
    rw [hr] at h1
    have h4 : (List.map (fun x : Nat => (default : Value)) (List.range 0)).toArray = ([] : List Value).toArray := rfl
    simp only [if_pos h0, pure_bind, h0, arange0, Array.map_empty, h1]
    simp [newRow]
  · have hr : (Array.map (fun i => (vcells ei.zero).toArray[i % (vcells ei.zero).toArray.size]!) (Array.range (n * ei.size))) = (zrep ei.zero n).toArray := by
      apply Array.ext'
      rw [Array.toList_map, Array.toList_range, ← hsz, range_flat]
      rfl
    simp only [if_neg h0, Sem.run_bind, he.run_zero, Result.andThen_ok, hz, pure_bind, hr, h1]
    simp [newRow]

theorem run_makeSlice {t e sz by_ : Nat} {z : Value} {ei : TI} (ht : TIok P t ⟨.slice e, sz, by_, z⟩) (he : TIok P e ei) {i j : Int} (h0 : 0 ≤ i) (h1 : i ≤ j) (h2 : j ≤ 9223372036854775807) (h3 : (ei.bytes : Int) * j ≤ 281474976710656)
    (hsz : (vcells ei.zero).length = ei.size) (k1 k2 : IntKind) (w : World) :
    (Instr.makeSlice t (.int k1 i) (.int k2 j)).run P w = .ok (.slice (some ⟨w.heap.size, 0, none⟩) i.toNat j.toNat) (w.alloc (.cells (zrep ei.zero j.toNat).toArray e)) := by
  have hz : ei.zero.cells = (vcells ei.zero).toArray := by rw [← vcells_eq]
  obtain ⟨inf, hinf, hb1, hb2, hb3⟩ := he.get
  have ei1 : IntKind.i64.wrap i = i := IntWalk.i64_in _ (by omega)
  have ej1 : IntKind.i64.wrap j = j := IntWalk.i64_in _ (by omega)
  have e5 : (decide (j < 0) || decide ((ei.bytes : Int) * j > 2 ^ 48) || decide (i < 0) || decide (i > j)) = false := by
    simp only [Bool.or_eq_false_iff, decide_eq_false_iff_not]
    omega
  simp only [Instr.makeSlice, Sem.run_bind, run_underlying ht.slice, Result.andThen_ok, asInt, asIntOf, pure_bind, typeInfo, run_program, hinf, hb2, ei1, ej1, Sem.run_pure]
  simp only [e5, Bool.false_eq_true, if_false, Sem.run_bind, run_askRoom, Result.andThen_ok, he.run_size]
  by_cases h0 : j.toNat * ei.size = 0
  · have hr : zrep ei.zero j.toNat = [] := by
      apply List.eq_nil_of_length_eq_zero
      simp [zrep, hsz, h0]
    simp only [if_pos h0, pure_bind, h0, arange0, Array.map_empty, hr]
    simp [newRow]
  · have hr : (Array.map (fun i => (vcells ei.zero).toArray[i % (vcells ei.zero).toArray.size]!) (Array.range (j.toNat * ei.size))) = (zrep ei.zero j.toNat).toArray := by
      apply Array.ext'
      rw [Array.toList_map, Array.toList_range, ← hsz, range_flat]
      rfl
    simp only [if_neg h0, Sem.run_bind, he.run_zero, Result.andThen_ok, hz, pure_bind, hr]
    simp [newRow]

theorem evl_ok {m : Md} {o : Oper} {w : World} {K : Value → World → Prop} {a : Act} {next : Act → World → Prop} {Q : Exit → Act → World → Prop} {s : Sem Value} (h : Run P m w s K)
    (he : execOp a.eval o = (do pure (Next.value (← s)) : Sem Next)) (hn : ∀ v w', m.W w w' → K v w' → next (a.put o.dst v) w') : o.wp P a w next Q := by
  obtain ⟨v, w', h1, h2, h3⟩ := h.out
  exact upon_value (v := v) (w' := w') (by rw [he]; simp [h1]) (hn v w' h2 h3)

theorem wr_sound (hT : TabOk P tab) {lo hi : Nat} (hF : Fns P lo hi) {m : Md} {o : Oper} {w : World} {K : Value → World → Prop} {a : Act} {next : Act → World → Prop} {Q : Exit → Act → World → Prop} (hρ : Agree l a.eval)
    (h : wrVC P tab lo hi m l o w K) (hn : ∀ v w', m.W w w' → K v w' → next (a.put o.dst v) w') : o.wp P a w next Q := by
  obtain ⟨dst, op, type, pos, after, guard⟩ := o
  cases op with
  | alloc t =>
    simp only [wrVC] at h
    split at h
    · rename_i ti ht
      have hz : ti.zero.cells = (vcells ti.zero).toArray := by rw [← vcells_eq]
      refine upon_value (w' := w.alloc (.cells (vcells ti.zero).toArray t)) (v := .pointer (some ⟨w.heap.size, 0, none⟩)) ?_ (hn _ _ (Md.W_ext (Ext.alloc _ _ _)) (h.out _ _ (New.alloc w _ t)))
      simp [execOp, Instr.alloc, (hT _ _ ht).run_zero, newVar, newRow, hz]
    · exact h.elim
  | box t x =>
    simp only [wrVC] at h
    split at h
    · rename_i v hx
      have hz : v.cells = (vcells v).toArray := by rw [← vcells_eq]
      refine upon_value (w' := w.alloc (.cells (vcells v).toArray t)) (v := .pointer (some ⟨w.heap.size, 0, none⟩)) ?_ (hn _ _ (Md.W_ext (Ext.alloc _ _ _)) (h.out _ _ (New.alloc w _ t)))
      simp [execOp, Instr.box, hρ _ _ hx, newVar, newRow, hz]
    · exact h.elim
  | buildSlice t n ps =>
    simp only [wrVC] at h
    split at h
    · rename_i e _ _ _ vs ht hp
      split at h
      · rename_i ei he
        obtain ⟨cs, h1, h2⟩ := fill_sound vs _ h.k
        refine upon_value (w' := w.alloc (.cells cs.toArray e)) (v := .slice (some ⟨w.heap.size, 0, none⟩) n n) ?_ (hn _ _ (Md.W_ext (Ext.alloc _ _ _)) (h2.out _ _ (New.alloc w _ e)))
        have hps : (ps.map fun (i, x) => (i, a.eval x)) = vs.toArray := by rw [← evparts_sound hρ hp]; apply Array.ext'; simp
        simp only [execOp, Sem.run_bind, hps, run_buildSlice (hT _ _ ht) (hT _ _ he) h.h.1 h.h.2 h1 w, Result.andThen_ok, Sem.run_pure]
      · exact h.elim
    · exact h.elim
  | store t x y =>
    simp only [wrVC] at h
    split at h
    · rename_i ti b off v ht hx hy
      split at h
      · rename_i cs
        obtain ⟨cs0, t0, fr, hat, hl, hf, h1, hm, hk⟩ := h.k.out
        have hsz := h.h
        obtain ⟨w', h2, h3, h4⟩ := run_storeCells (P := P) b off cs.toList 0 w cs0 t0 fr hat (by simpa using hl) (by simpa using hf) h1
        refine upon_skip (w' := w') ?_ (hn _ _ (Md.W_one h4 hm) (hk w' (by simpa using h3) h4))
        simp [execOp, Instr.storeAt, Instr.sureAddr, storeVar, hρ _ _ hx, hρ _ _ hy, Value.cells, (hT _ _ ht).run_size, hsz, h2]
      · exact h.elim
      · rename_i v' hna hnt
        obtain ⟨cs0, t0, fr, hat, hl, hf, hm, hk⟩ := h.k.out
        have h4 : Ext (· = b) w (w.setCell ⟨b, off, none⟩ v) := Ext.setCell (S := (· = b)) w (a := ⟨b, off, none⟩) rfl v
        refine upon_skip (w' := w.setCell ⟨b, off, none⟩ v) ?_ (hn _ _ (Md.W_one h4 hm) (hk _ (hat.set _ _) h4))
        have hcs : v.cells = #[v] := by cases v <;> first | rfl | (exact absurd rfl (hna _))
        have hc : w.cell? ⟨b, off, none⟩ = some (cs0[off]) := hat.cell (by simp)
        simp [execOp, Instr.storeAt, Instr.sureAddr, storeVar, hρ _ _ hx, hρ _ _ hy, hcs, (hT _ _ ht).run_size, h.h.1, storeCells, Addr.add, run_store _ _ _ _ _ h.h.2, hc, hat.frozen hf]
    · exact h.elim
  | makeSlice t n c =>
    simp only [wrVC] at h
    split at h
    · rename_i e _ _ _ k1 i k2 j ht hi hj
      split at h
      · rename_i ei he
        obtain ⟨h0, h1, h2, h3, hsz⟩ := h.h
        refine upon_value (w' := w.alloc (.cells (zrep ei.zero j.toNat).toArray e)) (v := .slice (some ⟨w.heap.size, 0, none⟩) i.toNat j.toNat) ?_ (hn _ _ (Md.W_ext (Ext.alloc _ _ _)) (h.k.out.out.out _ _ (New.alloc w _ e)))
        simp only [execOp, Sem.run_bind, hρ _ _ hi, hρ _ _ hj, run_makeSlice (hT _ _ ht) (hT _ _ he) h0 h1 h2 h3 hsz k1 k2 w, Result.andThen_ok, Sem.run_pure]
      · exact h.elim
    · exact h.elim
  | convert s d x =>
    simp only [wrVC] at h
    split at h
    · rename_i si e _ _ _ str hs hd hx
      split at h
      · rename_i he
        obtain ⟨ds, hds, _⟩ := (hT _ _ hs).und
        obtain ⟨v, w', h1, h2, h3⟩ := h.out
        refine upon_value (v := v) (w' := w') ?_ (hn v w' h2 h3)
        simp [execOp, hρ _ _ hx, convert, run_underlying hds, run_underlying (hT _ _ hd).slice, run_underlying (hT _ _ he).int, h1]
      · exact h.elim
    · rename_i hs hd hx
      obtain ⟨v, w', h1, h2, h3⟩ := h.out
      refine upon_value (v := v) (w' := w') ?_ (hn v w' h2 h3)
      simp [execOp, hρ _ _ hx, h1]
    · exact h.elim
  | call c =>
    obtain ⟨callee, args, argTypes⟩ := c
    simp only [wrVC] at h
    split at h
    · split at h
      · rename_i vs hv
        have e1 : args.map a.eval = vs.toArray := Array.ext' (by rw [Array.toList_map, hρ.evls hv])
        exact evl_ok h (by simp [execOp, resolve, invoke, builtin, e1]) hn
      · exact h.elim
    · split at h
      · rename_i vs hv
        have e1 : args.map a.eval = vs.toArray := Array.ext' (by rw [Array.toList_map, hρ.evls hv])
        exact evl_ok h (by simp [execOp, resolve, invoke, builtin, e1]) hn
      · exact h.elim
    · rename_i f
      split at h
      · rename_i g fi ca vs hf hv
        split at h
        · rename_i hlo hhi
          have e1 : args.map a.eval = vs.toArray := Array.ext' (by rw [Array.toList_map, hρ.evls hv])
          have e2 : (execOp a.eval ⟨dst, .call ⟨.value f, args, argTypes⟩, type, pos, after, guard⟩).run P w = .ok (.enter g (fi.toList ++ (vs ++ ca.toList)).toArray) w := by
            have e3 : (fi ++ vs.toArray) ++ ca = (fi.toList ++ (vs ++ ca.toList)).toArray := by apply Array.ext'; simp
            simp only [execOp, resolve, hρ _ _ hf, e1, Deferred.ofValue, pure_bind, invoke, e3]
            exact hF.run hlo hhi _ w
          unfold Oper.wp
          rw [e2]
          refine Calls.mono h.out fun e w' hp => ?_
          obtain ⟨v, rfl, hw, hk⟩ := hp
          exact hn v w' hw hk
        · exact h.elim
      · exact h.elim
    · exact h.elim
  | lookup t x i ok =>
    simp only [wrVC] at h
    split at h
    · rename_i hx hi
      exact evl_ok h (by simp [execOp, hρ _ _ hx, hρ _ _ hi]) hn
    · exact h.elim
  | makeMap t r =>
    simp only [wrVC] at h
    split at h
    · exact evl_ok h (by simp [execOp]) hn
    · exact h.elim
  | mapUpdate t mp k x =>
    simp only [wrVC] at h
    split at h
    · rename_i x1 x2 x3 hx1 hx2 hx3
      obtain ⟨v, w', h1, h2, h3⟩ := h.out
      simp only [Sem.run_bind] at h1
      cases hr : (Instr.mapUpdate t x1 x2 x3).run P w with
      | halt _ _ => simp [hr, Result.andThen] at h1
      | ok u w1 =>
        simp [hr, Result.andThen] at h1
        obtain ⟨rfl, rfl⟩ := h1
        refine upon_skip (w' := w1) ?_ (hn _ w1 h2 h3)
        simp [execOp, hρ _ _ hx1, hρ _ _ hx2, hρ _ _ hx3, hr]
    · exact h.elim
  | _ => exact h.elim
end

end Go.Proofs.Ytjghlmbibimbiaa.Sx

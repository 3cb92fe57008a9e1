
/-
  A region whose order is open, as a flow: each operation once, over what is known of those that it waits for.
-/
import Derived.Test.YtmoebdncmcigaaaSx11

namespace Go.Proofs.Ytmoebdncmcigaaa.Sx

open Go

set_option linter.unusedVariables false

set_option linter.unusedSimpArgs false

def dstOf (all : List Oper) (j : Nat) : Option Nat :=
  match nth j all with
  | some o => o.dst
  | none => none
def depsL (o : Oper) : List Nat := (o.after.toList.filter (Region.binds .any)).map (·.on)
def withD (all : List Oper) (φ : Nat → Value → World → Prop) (w : World) : List Nat → (Env → Prop) → Prop
  | [], K => K []
  | j :: r, K => ∀ v, φ j v w → withD all φ w r fun e => K (match dstOf all j with
    | some d => (d, v) :: e
    | none => e)
def envD (all : List Oper) (x : Nat → Value) : List Nat → Env
  | [] => []
  | j :: r => match dstOf all j with
    | some d => (d, x j) :: envD all x r
    | none => envD all x r
theorem withD_inst {all : List Oper} {φ : Nat → Value → World → Prop} {w : World} {x : Nat → Value} : ∀ (deps : List Nat) (K : Env → Prop), withD all φ w deps K → (∀ j ∈ deps, φ j (x j) w) → K (envD all x deps)
  | [], K, h, _ => h
  | j :: r, K, h, hx => by
    have := withD_inst r _ (h (x j) (hx j (by simp))) fun k hk => hx k (by simp [hk])
    unfold envD
    split <;> simp_all
def fil (q : Nat → Bool) : Env → Env
  | [] => []
  | (t, v) :: r => match q t with
    | true => (t, v) :: fil q r
    | false => fil q r
theorem look_fil {q : Nat → Bool} {t : Nat} {v : Value} : ∀ {l : Env}, look t (fil q l) = some v → look t l = some v ∧ q t = true
  | [], h => by simp [fil, look] at h
  | (s, u) :: r, h => by
    unfold fil at h
    rw [look_cons]
    by_cases e : t = s
    · subst e
      rw [if_pos rfl]
      split at h
      · rename_i hq
        rw [look_cons, if_pos rfl] at h
        exact ⟨h, hq⟩
      · rename_i hq
        exact absurd (look_fil h).2 (by simp [hq])
    · rw [if_neg e]
      split at h
      · rw [look_cons, if_neg e] at h
        exact look_fil h
      · exact look_fil h
theorem look_app {t : Nat} {v : Value} {l : Env} : ∀ {e : Env}, look t (e ++ l) = some v → look t e = some v ∨ look t l = some v
  | [], h => .inr h
  | (s, u) :: r, h => by
    rw [List.cons_append, look_cons] at h
    rw [look_cons]
    by_cases e : t = s
    · rw [if_pos e] at h ⊢
      exact .inl h
    · rw [if_neg e] at h ⊢
      exact look_app h
theorem look_envD {all : List Oper} {x : Nat → Value} {t : Nat} {v : Value} : ∀ {deps : List Nat}, look t (envD all x deps) = some v → ∃ j ∈ deps, dstOf all j = some t ∧ v = x j
  | [], h => by simp [envD, look] at h
  | j :: r, h => by
    unfold envD at h
    split at h
    · rename_i d hd
      rw [look_cons] at h
      by_cases e : t = d
      · subst e
        rw [if_pos rfl] at h
        exact ⟨j, by simp, hd, by simpa using h.symm⟩
      · rw [if_neg e] at h
        obtain ⟨k, hk, h1, h2⟩ := look_envD h
        exact ⟨k, by simp [hk], h1, h2⟩
    · obtain ⟨k, hk, h1, h2⟩ := look_envD h
      exact ⟨k, by simp [hk], h1, h2⟩

/-- The old value of slot t is still there when operation i comes up. -/
def keepB (i t : Nat) : List Oper → Bool
  | [] => true
  | o :: r => (match o.dst with
    | some d => !(Nat.beq d t) || (depsL o).any (Nat.beq i)
    | none => true) && keepB i t r
def keepE (t : Nat) : List Oper → Bool
  | [] => true
  | o :: r => (match o.dst with
    | some d => !(Nat.beq d t)
    | none => true) && keepE t r
theorem keepB_spec {i t : Nat} {all : List Oper} (h : keepB i t all = true) : ∀ o ∈ all, o.dst = some t → i ∈ depsL o := by
  induction all with
  | nil => intro o ho; cases ho
  | cons p r ih =>
    intro o ho hd
    unfold keepB at h
    rw [Bool.and_eq_true] at h
    rcases List.mem_cons.1 ho with rfl | ho
    · rw [hd] at h
      have h1 := h.1
      simp only [Bool.or_eq_true, Bool.not_eq_true', List.any_eq_true] at h1
      rcases h1 with h1 | ⟨k, hk, e⟩
      · simp at h1
      · have := Nat.eq_of_beq_eq_true e
        subst this
        exact hk
    · exact ih h.2 o ho hd
theorem keepE_spec {t : Nat} {all : List Oper} (h : keepE t all = true) : ∀ o ∈ all, o.dst ≠ some t := by
  induction all with
  | nil => intro o ho; cases ho
  | cons p r ih =>
    intro o ho hd
    unfold keepE at h
    rw [Bool.and_eq_true] at h
    rcases List.mem_cons.1 ho with rfl | ho
    · rw [hd] at h
      simp at h
    · exact ih h.2 o ho hd

/-- As `Ext S`, but a block from `B` on may have been marked behind its cells (what a conversion of bytes to bytes does). -/
structure Exf (B : Nat) (S : Nat → Prop) (w w' : World) : Prop where
  os : w'.os = w.os
  tape : w'.tape = w.tape
  output : w'.output = w.output
  size : w.heap.size ≤ w'.heap.size
  blk : ∀ k, k < w.heap.size → k < B → ¬ S k → w'.heap[k]? = w.heap[k]?
  own : ∀ (k : Nat) (o : Obj), ¬ S k → w.heap[k]? = some o → w'.heap[k]? = some o ∨ ∃ c t fr fr', o = .cells c t fr ∧ w'.heap[k]? = some (.cells c t fr') ∧ c.size ≤ fr'.1
theorem Ext.exf {B : Nat} {S : Nat → Prop} {w w' : World} (h : Ext S w w') : Exf B S w w' :=
  ⟨h.os, h.tape, h.output, h.size, fun k hk _ hs => h.blk k hk hs, fun k o hs ho => .inl (by rw [h.blk k (Array.getElem?_eq_some_iff.1 ho).1 hs]; exact ho)⟩
theorem Exf.trans {B : Nat} {S : Nat → Prop} {a b c : World} (h : Exf B S a b) (k : Exf B S b c) : Exf B S a c := by
  refine ⟨k.os.trans h.os, k.tape.trans h.tape, k.output.trans h.output, Nat.le_trans h.size k.size, fun i hi hb hs => (k.blk i (Nat.lt_of_lt_of_le hi h.size) hb hs).trans (h.blk i hi hb hs), fun i o hs ho => ?_⟩
  rcases h.own i o hs ho with h1 | ⟨cs, t, fr, fr', rfl, h1, h2⟩
  · exact k.own i o hs h1
  · rcases k.own i _ hs h1 with h3 | ⟨cs', t', f1, f2, e, h3, h4⟩
    · exact .inr ⟨cs, t, fr, fr', rfl, h3, h2⟩
    · injection e with e1 e2 e3
      subst e1 e2
      exact .inr ⟨cs, t, fr, f2, rfl, h3, h4⟩
theorem Exf.ext {B : Nat} {S : Nat → Prop} {w0 w w' : World} (h0 : Ext S w0 w) (h : Exf B S w w') (hB : w0.heap.size ≤ B) : Ext S w0 w' :=
  ⟨h.os.trans h0.os, h.tape.trans h0.tape, h.output.trans h0.output, Nat.le_trans h0.size h.size, fun k hk hs => (h.blk k (Nat.lt_of_lt_of_le hk h0.size) (Nat.lt_of_lt_of_le hk hB) hs).trans (h0.blk k hk hs)⟩
theorem Exf.cell {B : Nat} {S : Nat → Prop} {w w' : World} (h : Exf B S w w') {a : Addr} {v : Value} (hc : w.cell? a = some v) (hs : ¬ S a.block) : w'.cell? a = some v := by
  unfold World.cell? at hc ⊢
  cases ho : w.heap[a.block]? with
  | none => rw [ho] at hc; simp at hc
  | some o =>
    rw [ho] at hc
    rcases h.own _ o hs ho with h1 | ⟨cs, t, fr, fr', rfl, h1, h2⟩
    · rw [h1]
      exact hc
    · rw [h1]
      exact hc
theorem Cells.exf {B : Nat} {w w' : World} {A : Option Addr} {cs : List Value} {S : Nat → Prop} (h : Cells w A cs) (he : Exf B S w w') (hA : ∀ k, inBlk A k → ¬ S k) : Cells w' A cs := by
  rcases h with rfl | ⟨b, off, rfl, h⟩
  · exact .inl rfl
  · exact .inr ⟨b, off, rfl, fun i hi => he.cell (h i hi) (hA b ⟨off, none, rfl⟩)⟩
theorem OS.exf {B : Nat} {w w' : World} {base e sz n : Nat} {v : Value} {xs : List Value} {S : Nat → Prop} (h : OS w base e sz v n xs) (he : Exf B S w w') (hS : ∀ k, blkOf v k → ¬ S k) : OS w' base e sz v n xs := by
  refine ⟨h.1, ?_⟩
  rcases h.2 with h2 | ⟨b, c, sp, fr, rfl, hb, hc, hat, h3, hf⟩
  · exact .inl h2
  · rcases he.own b _ (hS b ⟨0, none, n, c, rfl⟩) hat with h1 | ⟨cs, t, f1, f2, e1, h1, h2⟩
    · exact .inr ⟨b, c, sp, fr, rfl, hb, hc, h1, h3, hf⟩
    · injection e1 with e1 e2 e3
      subst e1 e2
      exact .inr ⟨b, c, sp, f2, rfl, hb, hc, h1, h3, .inr (by simpa [h3] using h2)⟩

/-- The conversion of a slice to its own type, at a stop. -/
structure Mk (P : Program) (B : Nat) (S : Nat → Prop) (w : World) (s d : TypeId) (x : Value) (K : Value → World → Prop) : Prop where mk ::
  out : ∃ w', (convert s d x).run P w = .ok x w' ∧ Exf B S w w' ∧ K x w'
def opF (C : Cx) (B : Nat) (S : Nat → Prop) (l : Env) (o : Oper) (w : World) (K : Value → World → Prop) : Prop :=
  match o.op with
  | .convert s d x => (match Nat.beq s d with
    | true => (match evl l x with
      | some v => Mk C.P B S w s d v K
      | none => False)
    | false => opW C S l o w K)
  | _ => opW C S l o w K

section

variable {C : Cx} {n : Nat}
theorem opF_sound (hC : C.Ok) {B : Nat} {S : Nat → Prop} {l : Env} {o : Oper} {w : World} {K : Value → World → Prop} {a : Act} {next : Act → World → Prop} {Q : Exit → Act → World → Prop} (hρ : Agree l a.eval)
    (h : opF C B S l o w K) (hn : ∀ v w', Exf B S w w' → K v w' → next (a.put o.dst v) w') : o.wp C.P a w next Q := by
  unfold opF at h
  split at h
  · rename_i s d x hop
    split at h
    · split at h
      · rename_i v hx
        obtain ⟨w', h1, h2, h3⟩ := h.out
        refine upon_value (v := v) (w' := w') ?_ (hn v w' h2 h3)
        simp [execOp, hop, hρ _ _ hx, h1]
      · exact h.elim
    · exact opW_sound hC hρ h fun v w' hx hk => hn v w' hx.exf hk
  · exact opW_sound hC hρ h fun v w' hx hk => hn v w' hx.exf hk
def flowVC (C : Cx) (B : Nat) (all : List Oper) (S : Nat → Prop) (φ : Nat → Value → World → Prop) (l0 : Env) (w0 : World) (i : Nat) (o : Oper) : Prop :=
  ∀ w, Exf B S w0 w → withD all φ w (depsL o) fun e =>
    match guardV all (e ++ fil (fun t => keepB i t all) l0) o.guard with
    | some true => opF C B S (e ++ fil (fun t => keepB i t all) l0) o w fun v w' => φ i v w'
    | some false => φ i undef w
    | none => False
def stepsVC (C : Cx) (B : Nat) (all : List Oper) (S : Nat → Prop) (φ : Nat → Value → World → Prop) (l0 : Env) (w0 : World) : Nat → List Oper → Prop
  | _, [] => True
  | i, o :: r => flowVC C B all S φ l0 w0 i o ∧ stepsVC C B all S φ l0 w0 (i + 1) r
theorem stepsVC_get {B : Nat} {all : List Oper} {S : Nat → Prop} {φ : Nat → Value → World → Prop} {l0 : Env} {w0 : World} {r : List Oper} : ∀ {k : Nat}, stepsVC C B all S φ l0 w0 k r → ∀ j o, r[j]? = some o → flowVC C B all S φ l0 w0 (k + j) o := by
  induction r with
  | nil => intro k h j o ho; simp at ho
  | cons p r ih =>
    intro k h j o ho
    cases j with
    | zero =>
      simp at ho
      subst ho
      exact h.1
    | succ j =>
      have := ih h.2 j o (by simpa using ho)
      rwa [show k + 1 + j = k + (j + 1) from by omega] at this
def flowOk (n : Nat) (ops : Array Oper) : Bool :=
  Region.noSelect ops && (List.range ops.size).all fun i => match ops[i]? with
    | some o => (depsL o).all (fun j => Nat.blt j i) && (match o.dst with
      | some d => Nat.blt d n && (List.range ops.size).all fun k => Nat.beq k i || (match ops[k]? with
        | some p => (match p.dst with
          | some d' => !(Nat.beq d' d)
          | none => true)
        | none => true)
      | none => true)
    | none => true
theorem flowOk_spec {ops : Array Oper} (h : flowOk n ops = true) {i : Nat} {o : Oper} (ho : ops[i]? = some o) :
    (∀ j ∈ depsL o, j < i) ∧ (∀ d, o.dst = some d → d < n ∧ ∀ k p, ops[k]? = some p → p.dst = some d → k = i) := by
  unfold flowOk at h
  rw [Bool.and_eq_true, List.all_eq_true] at h
  have hi : i < ops.size := (Array.getElem?_eq_some_iff.1 ho).1
  have h1 := h.2 i (List.mem_range.2 hi)
  rw [ho] at h1
  simp only [Bool.and_eq_true] at h1
  refine ⟨fun j hj => ?_, fun d hd => ?_⟩
  · have := List.all_eq_true.1 h1.1 j hj
    simpa [Nat.blt_eq] using this
  · have h2 := h1.2
    rw [hd] at h2
    simp only [Bool.and_eq_true] at h2
    refine ⟨by simpa [Nat.blt_eq] using h2.1, fun k p hp hpd => ?_⟩
    have hk : k < ops.size := (Array.getElem?_eq_some_iff.1 hp).1
    have h3 := List.all_eq_true.1 h2.2 k (List.mem_range.2 hk)
    rw [hp] at h3
    simp only [hpd, Bool.or_eq_true] at h3
    rcases h3 with h3 | h3
    · exact Nat.eq_of_beq_eq_true h3
    · simp at h3

/-- What is known when the operations of `listed` have been done. -/
structure FI (n B : Nat) (ops : Array Oper) (S : Nat → Prop) (φ : Nat → Value → World → Prop) (l0 : Env) (w0 : World) (listed : Array Bool) (a : Act) (w : World) (x : Nat → Value) : Prop where
  size : a.tmps.size = n
  defers : a.defers = []
  ext : Exf B S w0 w
  lsz : listed.size = ops.size
  fact : ∀ j o, ops[j]? = some o → listed.getD j false = true → φ j (x j) w
  val : ∀ j o d, ops[j]? = some o → listed.getD j false = true → o.dst = some d → a.tmps.getD d undef = x j
  dep : ∀ j o, ops[j]? = some o → listed.getD j false = true → ∀ k ∈ depsL o, listed.getD k false = true
  old : ∀ t v, look t l0 = some v → (∀ k o, ops[k]? = some o → listed.getD k false = true → o.dst ≠ some t) → a.tmps.getD t undef = v

theorem mem_depsL {o : Oper} {j : Nat} : j ∈ depsL o ↔ ∃ e ∈ o.after, Region.binds .any e = true ∧ e.on = j := by
  simp [depsL, and_assoc]

theorem getD_listed {listed : Array Bool} {j : Nat} (h : j < listed.size) (d : Bool) : listed.getD j d = listed[j] := by simp [Array.getD, h]

theorem FI.frame {B : Nat} {ops : Array Oper} {S : Nat → Prop} {φ : Nat → Value → World → Prop} {l0 : Env} {w0 w : World} {listed : Array Bool} {a : Act} {x : Nat → Value} (h : FI n B ops S φ l0 w0 listed a w x) {i : Nat} {o : Oper} (ho : ops[i]? = some o)
    (hun : listed.getD i false = false) (hdeps : ∀ j ∈ depsL o, listed.getD j false = true) : Fr n (envD ops.toList x (depsL o) ++ fil (fun t => keepB i t ops.toList) l0) a := by
  refine ⟨h.size, h.defers, fun t v ht => ?_⟩
  rcases look_app ht with ht | ht
  · obtain ⟨j, hj, h1, rfl⟩ := look_envD ht
    unfold dstOf at h1
    rw [nth_eq] at h1
    split at h1
    · rename_i p hp
      exact h.val j p t (by simpa using hp) (hdeps j hj) h1
    · cases h1
  · obtain ⟨h1, h2⟩ := look_fil ht
    refine h.old t v h1 fun k p hp hk hd => ?_
    have := keepB_spec h2 p (Array.mem_toList_iff.2 (Array.mem_of_getElem? hp)) hd
    rw [h.dep k p hp hk i this] at hun
    cases hun
theorem put_ne {a : Act} {dst : Option Tmp} {v : Value} {t : Nat} (h : dst ≠ some t) : (a.put dst v).tmps.getD t undef = a.tmps.getD t undef := by
  cases dst with
  | none => rfl
  | some d =>
    have hd : d ≠ t := fun e => h (by rw [e])
    simp only [Act.put, Array.getD_eq_getD_getElem?]
    rw [Array.getElem?_setIfInBounds_ne hd]
theorem put_eq {a : Act} {d : Nat} {v : Value} (h : d < a.tmps.size) : (a.put (some d) v).tmps.getD d undef = v := by
  simp [Act.put, Array.getElem?_setIfInBounds, h]
theorem put_size {a : Act} {dst : Option Tmp} {v : Value} : (a.put dst v).tmps.size = a.tmps.size := by
  cases dst with
  | none => rfl
  | some d => simp [Act.put]
theorem put_defers {a : Act} {dst : Option Tmp} {v : Value} : (a.put dst v).defers = a.defers := by
  cases dst <;> rfl

theorem FI.step {B : Nat} {ops : Array Oper} {S : Nat → Prop} {φ : Nat → Value → World → Prop} {l0 : Env} {w0 w w' : World} {listed : Array Bool} {a : Act} {x : Nat → Value} (hok : flowOk n ops = true) (hφ : ∀ i v w w', φ i v w → Exf B S w w' → φ i v w')
    (h : FI n B ops S φ l0 w0 listed a w x) {i : Nat} {o : Oper} (ho : ops[i]? = some o) (hun : listed.getD i false = false) (hdeps : ∀ j ∈ depsL o, listed.getD j false = true) {v : Value} (hx : Exf B S w w') (hf : φ i v w') :
    FI n B ops S φ l0 w0 (listed.setIfInBounds i true) (a.put o.dst v) w' (fun j => if j = i then v else x j) := by
  have hset : ∀ j, j ≠ i → (listed.setIfInBounds i true).getD j false = true → listed.getD j false = true := fun j hj hl => by
    rwa [getD_set_ne false (Ne.symm hj)] at hl
  refine ⟨by rw [put_size]; exact h.size, by rw [put_defers]; exact h.defers, h.ext.trans hx, by simp [h.lsz], fun j p hp hl => ?_, fun j p d hp hl hd => ?_, fun j p hp hl k hk => ?_, fun t u ht hno => ?_⟩
  · by_cases e : j = i
    · subst e
      simpa using hf
    · simp only [if_neg e]
      exact hφ _ _ _ _ (h.fact j p hp (hset j e hl)) hx
  · by_cases e : j = i
    · subst e
      rw [ho] at hp
      injection hp with hp
      subst hp
      rw [hd]
      simp only [if_true]
      exact put_eq (by rw [h.size]; exact ((flowOk_spec hok ho).2 d hd).1)
    · simp only [if_neg e]
      rw [put_ne (fun e2 => e (((flowOk_spec hok ho).2 d e2).2 j p hp hd))]
      exact h.val j p d hp (hset j e hl) hd
  · apply getD_set_true
    by_cases e : j = i
    · subst e
      rw [ho] at hp
      injection hp with hp
      subst hp
      exact hdeps k hk
    · exact h.dep j p hp (hset j e hl) k hk
  · have hil : i < listed.size := by
      rw [h.lsz]
      exact (Array.getElem?_eq_some_iff.1 ho).1
    rw [put_ne (hno i o ho (by simp [Array.getD, hil]))]
    exact h.old t u ht fun k p hp hk => hno k p hp (getD_set_true hk)
theorem count_set {l : List Bool} : ∀ {i : Nat}, l[i]? = some false → (l.set i true).count false + 1 = l.count false := by
  induction l with
  | nil => intro i h; simp at h
  | cons b r ih =>
    intro i h
    cases i with
    | zero =>
      simp at h
      subst h
      simp
    | succ i =>
      have := ih (by simpa using h)
      cases b <;> simp [List.count_cons] <;> omega

theorem flow_sound (hC : C.Ok) {B : Nat} {ops : Array Oper} {S : Nat → Prop} {φ : Nat → Value → World → Prop} {l0 : Env} {w0 : World} {Q : Exit → Act → World → Prop} (hok : flowOk n ops = true) (hφ : ∀ i v w w', φ i v w → Exf B S w w' → φ i v w')
    (hstep : stepsVC C B ops.toList S φ l0 w0 0 ops.toList) (hend : ∀ listed a w x, FI n B ops S φ l0 w0 listed a w x → (∀ j, j < ops.size → listed.getD j false = true) → Q .normal a w) :
    ∀ (fuel : Nat) (listed : Array Bool) (a : Act) (w : World) (x : Nat → Value), FI n B ops S φ l0 w0 listed a w x → listed.toList.count false ≤ fuel → wpAny C.P .any ops Q fuel listed a w := by
  have hall : ∀ listed a w x, FI n B ops S φ l0 w0 listed a w x → Region.ready .any ops listed = [] → Q .normal a w := by
    intro listed a w x h hr
    refine hend listed a w x h fun j => ?_
    induction j using Nat.strongRecOn with
    | _ j ih =>
      intro hj
      by_cases hl : listed.getD j false = true
      · exact hl
      · exfalso
        have hjl : j < listed.size := by rw [h.lsz]; exact hj
        have ho : ops[j]? = some ops[j] := by simp [hj]
        have : j ∈ Region.ready .any ops listed := by
          rw [mem_ready]
          refine ⟨?_, _, ho, fun e he hb => ?_⟩
          · rw [getD_listed hjl] at hl ⊢
            simpa using hl
          · have hlt := (flowOk_spec hok ho).1 e.on (mem_depsL.2 ⟨e, he, hb, rfl⟩)
            exact ih e.on hlt (by omega)
        rw [hr] at this
        cases this
  intro fuel
  induction fuel with
  | zero =>
    intro listed a w x h hc
    have hr : Region.ready .any ops listed = [] := by
      rw [List.eq_nil_iff_forall_not_mem]
      intro i hi
      obtain ⟨h1, o, ho, _⟩ := mem_ready.1 hi
      have hil : i < listed.size := by rw [h.lsz]; exact (Array.getElem?_eq_some_iff.1 ho).1
      rw [getD_listed hil] at h1
      have : false ∈ listed.toList := by
        rw [← h1]
        simp
      have := List.count_pos_iff.2 this
      omega
    exact ⟨hr, hall listed a w x h hr⟩
  | succ fuel ih =>
    intro listed a w x h hc
    refine ⟨hall listed a w x h, fun i hi => ?_⟩
    obtain ⟨h1, o, ho, hde⟩ := mem_ready.1 hi
    have hil : i < listed.size := by rw [h.lsz]; exact (Array.getElem?_eq_some_iff.1 ho).1
    have hun : listed.getD i false = false := by
      rw [getD_listed hil] at h1 ⊢
      exact h1
    have hdeps : ∀ j ∈ depsL o, listed.getD j false = true := fun j hj => by
      obtain ⟨e, he, hb, rfl⟩ := mem_depsL.1 hj
      exact hde e he hb
    have hcount : (listed.setIfInBounds i true).toList.count false ≤ fuel := by
      have hl : listed.toList[i]? = some false := by
        rw [getD_listed hil] at h1
        simp [hil, h1]
      have := count_set hl
      rw [Array.toList_setIfInBounds]
      omega
    have hflow := stepsVC_get hstep i o (by simpa using ho)
    rw [Nat.zero_add] at hflow
    have hv := withD_inst _ _ (hflow w h.ext) (x := x) fun j hj => by
      have hjl := hdeps j hj
      have hjs : j < ops.size := by have := (flowOk_spec hok ho).1 j hj; have := (Array.getElem?_eq_some_iff.1 ho).1; omega
      exact h.fact j ops[j] (by simp [hjs]) hjl
    have hfr := h.frame ho hun hdeps
    unfold wpOp
    simp only [ho]
    split at hv
    · rename_i hg
      rw [guard_sound hfr hg, if_pos rfl]
      exact .inl (opF_sound hC hfr.agree hv fun v w' hx hf => ih _ _ _ _ (h.step hok hφ ho hun hdeps hx hf) hcount)
    · rename_i hg
      rw [guard_sound hfr hg, if_neg (by simp)]
      exact ih _ _ _ _ (h.step hok hφ ho hun hdeps (Ext.refl _ _).exf hv) hcount
    · exact hv.elim
/-- A fact on an operation's value, that holds on whatever else the region does. -/
structure Fa (B : Nat) (S : Nat → Prop) where
  p : Value → World → Prop
  st : ∀ v w w', p v w → Exf B S w w' → p v w'
def Fa.t {B : Nat} {S : Nat → Prop} : Fa B S := ⟨fun _ _ => True, fun _ _ _ h _ => h⟩
def Fa.is {B : Nat} {S : Nat → Prop} (x : Value) : Fa B S := ⟨fun v _ => v = x, fun _ _ _ h _ => h⟩
def fa {B : Nat} {S : Nat → Prop} (L : List (Fa B S)) (i : Nat) : Value → World → Prop :=
  match nth i L with
  | some f => f.p
  | none => fun _ _ => True
theorem fa_st {B : Nat} {S : Nat → Prop} (L : List (Fa B S)) : ∀ i v w w', fa L i v w → Exf B S w w' → fa L i v w' := by
  intro i v w w' h he
  unfold fa at h ⊢
  cases hf : nth i L with
  | none => trivial
  | some f =>
    rw [hf] at h
    exact f.st v w w' h he
theorem G.flow (hC : C.Ok) {id : Nat} {ops : Array Oper} {l : Env} {w : World} {Q : Exit → Env → World → Prop} (B : Nat) (S : Nat → Prop) (L : List (Fa B S)) (outs : List Nat) (hok : flowOk n ops = true) (hout : outs.all (fun j => Nat.blt j ops.size) = true)
    (hstep : stepsVC C B ops.toList S (fa L) l w.drew 0 ops.toList)
    (hend : ∀ w', Exf B S w.drew w' → withD ops.toList (fa L) w' outs fun e => Q .normal (e ++ fil (fun t => keepE t ops.toList) l) w') : G C.P n (.region id ops true) l w Q := by
  refine ⟨fun a ha => wp_region_any hC.mixed (flow_sound hC hok (fa_st L) hstep ?_ ops.size _ a w.drew (fun _ => undef) ⟨ha.size, ha.defers, (Ext.refl _ _).exf, by simp, ?_, ?_, ?_, fun t v ht _ => ha.get t v ht⟩ ?_)⟩
  · intro listed a w' x h hl
    have hq := withD_inst _ _ (hend w' h.ext) (x := x) fun j hj => by
      have hjs : j < ops.size := by simpa [Nat.blt_eq] using List.all_eq_true.1 hout j hj
      exact h.fact j ops[j] (by simp [hjs]) (hl j hjs)
    refine ⟨_, ⟨h.size, h.defers, fun t v ht => ?_⟩, hq⟩
    rcases look_app ht with ht | ht
    · obtain ⟨j, hj, h1, rfl⟩ := look_envD ht
      unfold dstOf at h1
      rw [nth_eq] at h1
      split at h1
      · rename_i p hp
        have hjs : j < ops.size := by simpa [Nat.blt_eq] using List.all_eq_true.1 hout j hj
        exact h.val j p t (by simpa using hp) (hl j hjs) h1
      · cases h1
    · obtain ⟨h1, h2⟩ := look_fil ht
      exact h.old t v h1 fun k p hp hk hd => keepE_spec h2 p (Array.mem_toList_iff.2 (Array.mem_of_getElem? hp)) hd
  · intro j o ho hl
    have : j < ops.size := (Array.getElem?_eq_some_iff.1 ho).1
    simp [Array.getD, this] at hl
  · intro j o d ho hl
    have : j < ops.size := (Array.getElem?_eq_some_iff.1 ho).1
    simp [Array.getD, this] at hl
  · intro j o ho hl
    have : j < ops.size := (Array.getElem?_eq_some_iff.1 ho).1
    simp [Array.getD, this] at hl
  · simp
end

end Go.Proofs.Ytmoebdncmcigaaa.Sx


/-
  A region whose order is open, as a flow in which an operation may write what an earlier one has made for it alone.
-/
import Derived.Test.YtilgolbpiomdmaaDoorSx12

namespace Go.Proofs.YtilgolbpiomdmaaDoor.Sx

open Go

set_option linter.unusedVariables false

set_option linter.unusedSimpArgs false

abbrev Fp := Nat → Prop
theorem Exf.mono {B : Nat} {S T : Nat → Prop} {w w' : World} (h : Exf B S w w') (hS : ∀ b, S b → T b) : Exf B T w w' :=
  ⟨h.os, h.tape, h.output, h.size, fun k hk hb hn => h.blk k hk hb (fun x => hn (hS k x)), fun k o hn ho => h.own k o (fun x => hn (hS k x)) ho⟩

/-- The operations that an operation looks at, each with whether it is used up. -/
abbrev Dep := List (Nat × Bool)
def depAt (D : List Dep) (i : Nat) : Dep := (nth i D).getD []
def consB (d : Dep) (j : Nat) : Bool := d.any fun p => p.2 && Nat.beq p.1 j
def usedB (d : Dep) (j : Nat) : Bool := d.any fun p => Nat.beq p.1 j
theorem consB_iff {d : Dep} {j : Nat} : consB d j = true ↔ (j, true) ∈ d := by
  simp only [consB, List.any_eq_true, Bool.and_eq_true]
  constructor
  · rintro ⟨⟨a, b⟩, h, h1, h2⟩
    have := Nat.eq_of_beq_eq_true h2
    simp only at this h1
    subst this h1
    exact h
  · intro h
    exact ⟨_, h, rfl, Nat.beq_refl j⟩
def withU (all : List Oper) (φ : Nat → Value → Fp → World → Prop) (U : Fp) (w : World) : Dep → Fp → Fp → (Env → Fp → Prop) → Prop
  | [], _, cns, K => K [] cns
  | (j, c) :: r, acc, cns, K => ∀ v f, φ j v f w → (∀ b, f b → U b ∧ b < w.heap.size ∧ ¬ acc b) →
      withU all φ U w r (fun b => acc b ∨ f b) (match c with
        | true => fun b => cns b ∨ f b
        | false => cns) fun e cns => K (match dstOf all j with
      | some d => (d, v) :: e
      | none => e) cns
def consF (f : Nat → Fp) (d : Dep) : Fp := fun b => ∃ j, (j, true) ∈ d ∧ f j b
theorem withU_inst {all : List Oper} {φ : Nat → Value → Fp → World → Prop} {U : Fp} {w : World} {x : Nat → Value} {f : Nat → Fp} :
    ∀ (d : Dep) (acc cns : Fp) (K : Env → Fp → Prop), withU all φ U w d acc cns K → (∀ p ∈ d, φ p.1 (x p.1) (f p.1) w ∧ ∀ b, f p.1 b → U b ∧ b < w.heap.size ∧ ¬ acc b) →
      d.Pairwise (fun p q => ∀ b, f p.1 b → ¬ f q.1 b) → ∃ c' : Fp, (∀ b, c' b → cns b ∨ consF f d b) ∧ K (envD all x (d.map (·.1))) c'
  | [], acc, cns, K, h, _, _ => ⟨cns, fun b hb => .inl hb, h⟩
  | (j, c) :: r, acc, cns, K, h, hx, hp => by
    have h1 := hx (j, c) (by simp)
    have h2 := h (x j) (f j) h1.1 h1.2
    rw [List.pairwise_cons] at hp
    obtain ⟨c', hc', hk⟩ := withU_inst r _ _ _ h2 (fun p hpr => ⟨(hx p (by simp [hpr])).1, fun b hb => ⟨((hx p (by simp [hpr])).2 b hb).1, ((hx p (by simp [hpr])).2 b hb).2.1, fun hor => hor.elim ((hx p (by simp [hpr])).2 b hb).2.2 (fun hj => hp.1 p hpr b hj hb)⟩⟩) hp.2
    refine ⟨c', fun b hb => ?_, ?_⟩
    · rcases hc' b hb with h3 | ⟨k, hk, hf⟩
      · cases c with
        | true =>
          rcases h3 with h3 | h3
          · exact .inl h3
          · exact .inr ⟨j, by simp, h3⟩
        | false => exact .inl h3
      · exact .inr ⟨k, by simp [hk], hf⟩
    · rw [List.map_cons]
      unfold envD
      exact hk

section

variable {C : Cx} {n : Nat}
def flowV (C : Cx) (B : Nat) (all : List Oper) (D : List Dep) (S U : Fp) (φ : Nat → Value → Fp → World → Prop) (l0 : Env) (w0 : World) (i : Nat) (o : Oper) : Prop :=
  ∀ w, Exf B (fun b => S b ∨ U b) w0 w → withU all φ U w (depAt D i) (fun _ => False) (fun _ => False) fun e cns =>
    match guardV all (e ++ fil (fun t => keepB i t all) l0) o.guard with
    | some true => opF C B (fun b => S b ∨ cns b) (e ++ fil (fun t => keepB i t all) l0) o w fun v w' => ∃ f, φ i v f w' ∧ ∀ b, f b → (w.heap.size ≤ b ∧ b < w'.heap.size) ∨ cns b
    | some false => ∃ f, φ i undef f w ∧ ∀ b, f b → cns b
    | none => False
def stepsV (C : Cx) (B : Nat) (all : List Oper) (D : List Dep) (S U : Fp) (φ : Nat → Value → Fp → World → Prop) (l0 : Env) (w0 : World) : Nat → List Oper → Prop
  | _, [] => True
  | i, o :: r => flowV C B all D S U φ l0 w0 i o ∧ stepsV C B all D S U φ l0 w0 (i + 1) r
theorem stepsV_get {B : Nat} {all : List Oper} {D : List Dep} {S U : Fp} {φ : Nat → Value → Fp → World → Prop} {l0 : Env} {w0 : World} {r : List Oper} : ∀ {k : Nat}, stepsV C B all D S U φ l0 w0 k r → ∀ j o, r[j]? = some o → flowV C B all D S U φ l0 w0 (k + j) o := by
  induction r with
  | nil => intro k h j o ho; simp at ho
  | cons p r ih =>
    intro k h j o ho
    cases j with
    | zero =>
      simp at ho
      subst ho
      exact h.1
    | succ j =>
      have := ih h.2 j o (by simpa using ho)
      rwa [show k + 1 + j = k + (j + 1) from by omega] at this
def nodupB : List Nat → Bool
  | [] => true
  | a :: r => !(r.any (Nat.beq a)) && nodupB r
theorem nodupB_pw {d : Dep} (h : nodupB (d.map (·.1)) = true) : d.Pairwise (fun p q => p.1 ≠ q.1) := by
  induction d with
  | nil => exact .nil
  | cons p r ih =>
    rw [List.map_cons] at h
    unfold nodupB at h
    rw [Bool.and_eq_true] at h
    refine .cons (fun q hq e => ?_) (ih h.2)
    have h1 := h.1
    rw [Bool.not_eq_true', List.any_eq_false] at h1
    exact h1 q.1 (List.mem_map_of_mem hq) (by rw [e]; exact Nat.beq_refl _)
/-- What is looked at is waited for; who uses it up waits for all others who look. -/
def depOk (ops : Array Oper) (D : List Dep) : Bool :=
  (List.range ops.size).all fun i => match ops[i]? with
    | some o => (depAt D i).all (fun p => (depsL o).any (Nat.beq p.1) || Nat.beq p.1 ops.size) && nodupB ((depAt D i).map (·.1)) &&
        (depAt D i).all (fun p => !p.2 || (List.range ops.size).all fun k => Nat.beq k i || !(usedB (depAt D k) p.1) || (depsL o).any (Nat.beq k))
    | none => true
theorem depOk_spec {ops : Array Oper} {D : List Dep} (h : depOk ops D = true) {i : Nat} {o : Oper} (ho : ops[i]? = some o) :
    (∀ p ∈ depAt D i, p.1 ∈ depsL o ∨ p.1 = ops.size) ∧ (depAt D i).Pairwise (fun p q => p.1 ≠ q.1) ∧ (∀ j, (j, true) ∈ depAt D i → ∀ k, k < ops.size → k ≠ i → (∃ c, (j, c) ∈ depAt D k) → k ∈ depsL o) := by
  unfold depOk at h
  rw [List.all_eq_true] at h
  have hi : i < ops.size := (Array.getElem?_eq_some_iff.1 ho).1
  have h1 := h i (List.mem_range.2 hi)
  rw [ho] at h1
  simp only [Bool.and_eq_true] at h1
  have mem : ∀ {l : List Nat} {a : Nat}, l.any (Nat.beq a) = true → a ∈ l := fun {l a} h => by
    obtain ⟨b, hb, e⟩ := List.any_eq_true.1 h
    rwa [Nat.eq_of_beq_eq_true e]
  refine ⟨fun p hp => (Bool.or_eq_true _ _ ▸ List.all_eq_true.1 h1.1.1 p hp).imp mem Nat.eq_of_beq_eq_true, nodupB_pw h1.1.2, fun j hj k hk hki hu => ?_⟩
  have h2 := List.all_eq_true.1 h1.2 (j, true) hj
  simp only [Bool.not_true, Bool.false_or] at h2
  have h3 := List.all_eq_true.1 h2 k (List.mem_range.2 hk)
  rw [Bool.or_eq_true, Bool.or_eq_true] at h3
  rcases h3 with (h3 | h3) | h3
  · exact absurd (Nat.eq_of_beq_eq_true h3) hki
  · exfalso
    obtain ⟨c, hc⟩ := hu
    have : usedB (depAt D k) j = true := List.any_eq_true.2 ⟨_, hc, Nat.beq_refl _⟩
    rw [this] at h3
    cases h3
  · exact mem h3

def Live (D : List Dep) (listed : Array Bool) (j : Nat) : Prop := ∀ k, listed.getD k false = true → (j, true) ∉ depAt D k
def Has (ops : Array Oper) (listed : Array Bool) (j : Nat) : Prop := listed.getD j false = true ∨ j = ops.size
structure FJ (n B : Nat) (ops : Array Oper) (D : List Dep) (S U : Fp) (φ : Nat → Value → Fp → World → Prop) (l0 : Env) (w0 : World) (listed : Array Bool) (a : Act) (w : World) (x : Nat → Value) (f : Nat → Fp) : Prop where
  size : a.tmps.size = n
  defers : a.defers = []
  ext : Exf B (fun b => S b ∨ U b) w0 w
  lsz : listed.size = ops.size
  fact : ∀ j, Has ops listed j → Live D listed j → φ j (x j) (f j) w ∧ ∀ b, f j b → U b ∧ b < w.heap.size
  sep : ∀ j k, Has ops listed j → Has ops listed k → Live D listed j → Live D listed k → j ≠ k → ∀ b, f j b → ¬ f k b
  val : ∀ j o d, ops[j]? = some o → listed.getD j false = true → o.dst = some d → a.tmps.getD d undef = x j
  dep : ∀ j o, ops[j]? = some o → listed.getD j false = true → ∀ k ∈ depsL o, listed.getD k false = true
  old : ∀ t v, look t l0 = some v → (∀ k o, ops[k]? = some o → listed.getD k false = true → o.dst ≠ some t) → a.tmps.getD t undef = v
theorem listed_lt {listed : Array Bool} {j : Nat} (h : listed.getD j false = true) : j < listed.size := by
  rcases Nat.lt_or_ge j listed.size with h1 | h1
  · exact h1
  · simp [Array.getD, Nat.not_lt.2 h1] at h
theorem FJ.frame {B : Nat} {ops : Array Oper} {D : List Dep} {S U : Fp} {φ : Nat → Value → Fp → World → Prop} {l0 : Env} {w0 w : World} {listed : Array Bool} {a : Act} {x : Nat → Value} {f : Nat → Fp} (h : FJ n B ops D S U φ l0 w0 listed a w x f) {i : Nat} {o : Oper} (ho : ops[i]? = some o)
    (hun : listed.getD i false = false) {L : List Nat} (hdeps : ∀ j ∈ L, Has ops listed j) : Fr n (envD ops.toList x L ++ fil (fun t => keepB i t ops.toList) l0) a := by
  refine ⟨h.size, h.defers, fun t v ht => ?_⟩
  rcases look_app ht with ht | ht
  · obtain ⟨j, hj, h1, rfl⟩ := look_envD ht
    unfold dstOf at h1
    rw [nth_eq] at h1
    split at h1
    · rename_i p hp
      have hp' : ops[j]? = some p := by simpa using hp
      have hjs := (Array.getElem?_eq_some_iff.1 hp').1
      exact h.val j p t hp' ((hdeps j hj).resolve_right (by omega)) h1
    · cases h1
  · obtain ⟨h1, h2⟩ := look_fil ht
    refine h.old t v h1 fun k p hp hk hd => ?_
    have := keepB_spec h2 p (Array.mem_toList_iff.2 (Array.mem_of_getElem? hp)) hd
    rw [h.dep k p hp hk i this] at hun
    cases hun
theorem FJ.hcl {B : Nat} {ops : Array Oper} {D : List Dep} {S U : Fp} {φ : Nat → Value → Fp → World → Prop} {l0 : Env} {w0 w : World} {listed : Array Bool} {a : Act} {x : Nat → Value} {f : Nat → Fp} (hD : depOk ops D = true)
    (h : FJ n B ops D S U φ l0 w0 listed a w x f) {i : Nat} {o : Oper} (ho : ops[i]? = some o) (hun : listed.getD i false = false) (hdeps : ∀ j ∈ depsL o, listed.getD j false = true) {j : Nat} {c : Bool} (hj : (j, c) ∈ depAt D i) : Has ops listed j ∧ Live D listed j := by
  have hil : i < listed.size := by
    rw [h.lsz]
    exact (Array.getElem?_eq_some_iff.1 ho).1
  refine ⟨((depOk_spec hD ho).1 _ hj).imp (hdeps j) id, fun k hk hjk => ?_⟩
  have hks := listed_lt hk
  rw [h.lsz] at hks
  have hp : ops[k]? = some ops[k] := by simp [hks]
  have hki : k ≠ i := fun e => by
    subst e
    rw [hk] at hun
    cases hun
  have := (depOk_spec hD hp).2.2 j hjk i (by rw [← h.lsz]; exact hil) (Ne.symm hki) ⟨_, hj⟩
  rw [h.dep k _ hp hk i this] at hun
  cases hun
theorem FJ.step {B : Nat} {ops : Array Oper} {D : List Dep} {S U : Fp} {φ : Nat → Value → Fp → World → Prop} {l0 : Env} {w0 w w' : World} {listed : Array Bool} {a : Act} {x : Nat → Value} {f : Nat → Fp} (hok : flowOk n ops = true) (hD : depOk ops D = true) (hU : ∀ b, w0.heap.size ≤ b → U b) (hS : ∀ b, S b → ¬ U b)
    (hφ : ∀ (i : Nat) (S' : Fp) v f w w', φ i v f w → (∀ b, S' b → S b ∨ U b) → (∀ b, f b → ¬ S' b) → Exf B S' w w' → φ i v f w')
    (h : FJ n B ops D S U φ l0 w0 listed a w x f) {i : Nat} {o : Oper} (ho : ops[i]? = some o) (hun : listed.getD i false = false) (hdeps : ∀ j ∈ depsL o, listed.getD j false = true) {v : Value} {g : Fp}
    (hx : Exf B (fun b => S b ∨ consF f (depAt D i) b) w w') (hf : φ i v g w') (hg : ∀ b, g b → (w.heap.size ≤ b ∧ b < w'.heap.size) ∨ consF f (depAt D i) b) :
    FJ n B ops D S U φ l0 w0 (listed.setIfInBounds i true) (a.put o.dst v) w' (fun j => if j = i then v else x j) (fun j => if j = i then g else f j) := by
  have hset : ∀ j, j ≠ i → (listed.setIfInBounds i true).getD j false = true → listed.getD j false = true := fun j hj hl => by
    rwa [getD_set_ne false (Ne.symm hj)] at hl
  have his := (Array.getElem?_eq_some_iff.1 ho).1
  have hil : i < listed.size := by
    rw [h.lsz]
    exact his
  have hsetH : ∀ j, j ≠ i → Has ops (listed.setIfInBounds i true) j → Has ops listed j := fun j hj hl => hl.imp (hset j hj) id
  have hsi : (listed.setIfInBounds i true).getD i false = true := by simp [Array.getD, hil]
  have hlive : ∀ j, Live D (listed.setIfInBounds i true) j → Live D listed j ∧ (j, true) ∉ depAt D i := fun j hj => ⟨fun k hk => hj k (getD_set_true hk), hj i hsi⟩
  have hcl : ∀ j, (j, true) ∈ depAt D i → Has ops listed j ∧ Live D listed j := fun j hj => h.hcl hD ho hun hdeps hj
  have hcb : ∀ b, consF f (depAt D i) b → U b ∧ b < w.heap.size := fun b ⟨j, hj, hb⟩ => by
    obtain ⟨h1, h2⟩ := hcl j hj
    exact (h.fact j h1 h2).2 b hb
  have hcs : ∀ k, Has ops listed k → Live D listed k → (k, true) ∉ depAt D i → ∀ b, f k b → ¬ consF f (depAt D i) b := fun k hk hl hn b hb ⟨j, hj, hjb⟩ => by
    obtain ⟨h1, h2⟩ := hcl j hj
    exact h.sep k j hk h1 hl h2 (fun e => hn (e ▸ hj)) b hb hjb
  have hBw : w0.heap.size ≤ w.heap.size := h.ext.size
  refine ⟨by rw [put_size]; exact h.size, by rw [put_defers]; exact h.defers, h.ext.trans (hx.mono fun b hb => hb.imp id fun h => (hcb b h).1), by simp [h.lsz], fun j hl hlv => ?_, fun j k hj hk hlj hlk hne b hb => ?_, fun j p d hp hl hd => ?_, fun j p hp hl k hk => ?_, fun t u ht hno => ?_⟩
  · by_cases e : j = i
    · subst e
      simp only [if_true]
      refine ⟨hf, fun b hb => ?_⟩
      rcases hg b hb with h1 | h1
      · exact ⟨hU b (Nat.le_trans hBw h1.1), h1.2⟩
      · exact ⟨(hcb b h1).1, Nat.lt_of_lt_of_le (hcb b h1).2 hx.size⟩
    · simp only [if_neg e]
      obtain ⟨hl1, hl2⟩ := hlive j hlv
      have hjl := hsetH j e hl
      obtain ⟨f1, f2⟩ := h.fact j hjl hl1
      refine ⟨hφ j _ _ _ _ _ f1 (fun b hb => hb.imp id fun h => (hcb b h).1) (fun b hb hs => ?_) hx, fun b hb => ⟨(f2 b hb).1, Nat.lt_of_lt_of_le (f2 b hb).2 hx.size⟩⟩
      rcases hs with hs | hs
      · exact hS b hs (f2 b hb).1
      · exact hcs j hjl hl1 hl2 b hb hs
  · obtain ⟨lj1, lj2⟩ := hlive j hlj
    obtain ⟨lk1, lk2⟩ := hlive k hlk
    by_cases ej : j = i
    · subst ej
      have ek : k ≠ j := fun e => hne e.symm
      simp only [if_true] at hb
      simp only [if_neg ek]
      have hkl := hsetH k ek hk
      rcases hg b hb with h1 | h1
      · intro hkb
        have := ((h.fact k hkl lk1).2 b hkb).2
        omega
      · exact fun hkb => hcs k hkl lk1 lk2 b hkb h1
    · simp only [if_neg ej] at hb
      have hjl := hsetH j ej hj
      by_cases ek : k = i
      · subst ek
        simp only [if_true]
        intro hkb
        rcases hg b hkb with h1 | h1
        · have := ((h.fact j hjl lj1).2 b hb).2
          omega
        · exact hcs j hjl lj1 lj2 b hb h1
      · simp only [if_neg ek]
        exact h.sep j k hjl (hsetH k ek hk) lj1 lk1 hne b hb
  · by_cases e : j = i
    · subst e
      rw [ho] at hp
      injection hp with hp
      subst hp
      rw [hd]
      simp only [if_true]
      exact put_eq (by rw [h.size]; exact ((flowOk_spec hok ho).2 d hd).1)
    · simp only [if_neg e]
      rw [put_ne (fun e2 => e (((flowOk_spec hok ho).2 d e2).2 j p hp hd))]
      exact h.val j p d hp (hset j e hl) hd
  · apply getD_set_true
    by_cases e : j = i
    · subst e
      rw [ho] at hp
      injection hp with hp
      subst hp
      exact hdeps k hk
    · exact h.dep j p hp (hset j e hl) k hk
  · rw [put_ne (hno i o ho hsi)]
    exact h.old t u ht fun k p hp hk => hno k p hp (getD_set_true hk)

theorem flow_sound2 (hC : C.Ok) {B : Nat} {ops : Array Oper} {D : List Dep} {S U : Fp} {φ : Nat → Value → Fp → World → Prop} {l0 : Env} {w0 : World} {Q : Exit → Act → World → Prop} (hok : flowOk n ops = true) (hD : depOk ops D = true) (hU : ∀ b, w0.heap.size ≤ b → U b) (hS : ∀ b, S b → ¬ U b)
    (hφ : ∀ (i : Nat) (S' : Fp) v f w w', φ i v f w → (∀ b, S' b → S b ∨ U b) → (∀ b, f b → ¬ S' b) → Exf B S' w w' → φ i v f w')
    (hstep : stepsV C B ops.toList D S U φ l0 w0 0 ops.toList) (hend : ∀ listed a w x f, FJ n B ops D S U φ l0 w0 listed a w x f → (∀ j, j < ops.size → listed.getD j false = true) → Q .normal a w) :
    ∀ (fuel : Nat) (listed : Array Bool) (a : Act) (w : World) (x : Nat → Value) (f : Nat → Fp), FJ n B ops D S U φ l0 w0 listed a w x f → listed.toList.count false ≤ fuel → wpAny C.P .any ops Q fuel listed a w := by
  have hall : ∀ listed a w x f, FJ n B ops D S U φ l0 w0 listed a w x f → Region.ready .any ops listed = [] → Q .normal a w := by
    intro listed a w x f h hr
    refine hend listed a w x f h fun j => ?_
    induction j using Nat.strongRecOn with
    | _ j ih =>
      intro hj
      by_cases hl : listed.getD j false = true
      · exact hl
      · exfalso
        have hjl : j < listed.size := by rw [h.lsz]; exact hj
        have ho : ops[j]? = some ops[j] := by simp [hj]
        have : j ∈ Region.ready .any ops listed := by
          rw [mem_ready]
          refine ⟨?_, _, ho, fun e he hb => ?_⟩
          · rw [getD_listed hjl] at hl ⊢
            simpa using hl
          · have hlt := (flowOk_spec hok ho).1 e.on (mem_depsL.2 ⟨e, he, hb, rfl⟩)
            exact ih e.on hlt (by omega)
        rw [hr] at this
        cases this
  intro fuel
  induction fuel with
  | zero =>
    intro listed a w x f h hc
    have hr : Region.ready .any ops listed = [] := by
      rw [List.eq_nil_iff_forall_not_mem]
      intro i hi
      obtain ⟨h1, o, ho, _⟩ := mem_ready.1 hi
      have hil : i < listed.size := by rw [h.lsz]; exact (Array.getElem?_eq_some_iff.1 ho).1
      rw [getD_listed hil] at h1
      have : false ∈ listed.toList := by
        rw [← h1]
        simp
      have := List.count_pos_iff.2 this
      omega
    exact ⟨hr, hall listed a w x f h hr⟩
  | succ fuel ih =>
    intro listed a w x f h hc
    refine ⟨hall listed a w x f h, fun i hi => ?_⟩
    obtain ⟨h1, o, ho, hde⟩ := mem_ready.1 hi
    have hil : i < listed.size := by rw [h.lsz]; exact (Array.getElem?_eq_some_iff.1 ho).1
    have hun : listed.getD i false = false := by
      rw [getD_listed hil] at h1 ⊢
      exact h1
    have hdeps : ∀ j ∈ depsL o, listed.getD j false = true := fun j hj => by
      obtain ⟨e, he, hb, rfl⟩ := mem_depsL.1 hj
      exact hde e he hb
    have hcount : (listed.setIfInBounds i true).toList.count false ≤ fuel := by
      have hl : listed.toList[i]? = some false := by
        rw [getD_listed hil] at h1
        simp [hil, h1]
      have := count_set hl
      rw [Array.toList_setIfInBounds]
      omega
    have hflow := stepsV_get hstep i o (by simpa using ho)
    rw [Nat.zero_add] at hflow
    have hpl : ∀ p ∈ depAt D i, Has ops listed p.1 ∧ Live D listed p.1 := fun p hp => h.hcl hD ho hun hdeps (c := p.2) hp
    obtain ⟨c', hc', hv⟩ := withU_inst (x := x) (f := f) _ _ _ _ (hflow w h.ext) (fun p hp => by
      have := h.fact _ (hpl p hp).1 (hpl p hp).2
      exact ⟨this.1, fun b hb => ⟨(this.2 b hb).1, (this.2 b hb).2, fun x => x⟩⟩)
      (((depOk_spec hD ho).2.1).imp_of_mem fun {p q} hp hq hne b hb => h.sep _ _ (hpl p hp).1 (hpl q hq).1 (hpl p hp).2 (hpl q hq).2 hne b hb)
    have hcf : ∀ b, c' b → consF f (depAt D i) b := fun b hb => (hc' b hb).elim (fun h => h.elim) id
    have hfr := h.frame ho hun (L := (depAt D i).map (·.1)) (fun j hj => by
      obtain ⟨p, hp, rfl⟩ := List.mem_map.1 hj
      exact (hpl p hp).1)
    unfold wpOp
    simp only [ho]
    split at hv
    · rename_i hg
      rw [guard_sound hfr hg, if_pos rfl]
      refine .inl (opF_sound hC hfr.agree hv fun v w' hx ⟨g, hf, hg'⟩ => ih _ _ _ _ _ (h.step hok hD hU hS hφ ho hun hdeps (hx.mono fun b hb => hb.imp id (hcf b)) hf (fun b hb => (hg' b hb).imp id (hcf b))) hcount)
    · rename_i hg
      rw [guard_sound hfr hg, if_neg (by simp)]
      obtain ⟨g, hf, hg'⟩ := hv
      exact ih _ _ _ _ _ (h.step hok hD hU hS hφ ho hun hdeps ((Ext.refl _ _).exf) hf (fun b hb => .inr (hcf b (hg' b hb)))) hcount
    · exact hv.elim

/-- The last operation, that waits for all others, taken by itself. -/
def zV (C : Cx) (n B : Nat) (all : List Oper) (D : List Dep) (S U : Fp) (φ : Nat → Value → Fp → World → Prop) (l0 : Env) (w0 : World) (Q : Env → World → Prop) (i : Nat) (o : Oper) : Prop :=
  ∀ w, Exf B (fun b => S b ∨ U b) w0 w → withU all φ U w (depAt D i) (fun _ => False) (fun _ => False) fun e cns =>
    match guardV all (e ++ fil (fun t => keepE t all) l0) o.guard with
    | some true => opVC C .plain (e ++ fil (fun t => keepE t all) l0) o w fun v w' => putK n (e ++ fil (fun t => keepE t all) l0) o.dst v fun l' => Q l' w'
    | _ => False
def zOk (ops : Array Oper) : Bool := match ops[ops.size - 1]? with
  | some o => (List.range (ops.size - 1)).all fun k => (depsL o).any (Nat.beq k)
  | none => false
theorem FJ.frameE {B : Nat} {ops : Array Oper} {D : List Dep} {S U : Fp} {φ : Nat → Value → Fp → World → Prop} {l0 : Env} {w0 w : World} {listed : Array Bool} {a : Act} {x : Nat → Value} {f : Nat → Fp} (h : FJ n B ops D S U φ l0 w0 listed a w x f)
    {L : List Nat} (hdeps : ∀ j ∈ L, Has ops listed j) : Fr n (envD ops.toList x L ++ fil (fun t => keepE t ops.toList) l0) a := by
  refine ⟨h.size, h.defers, fun t v ht => ?_⟩
  rcases look_app ht with ht | ht
  · obtain ⟨j, hj, h1, rfl⟩ := look_envD ht
    unfold dstOf at h1
    rw [nth_eq] at h1
    split at h1
    · rename_i p hp
      have hp' : ops[j]? = some p := by simpa using hp
      have hjs := (Array.getElem?_eq_some_iff.1 hp').1
      exact h.val j p t hp' ((hdeps j hj).resolve_right (by omega)) h1
    · cases h1
  · obtain ⟨h1, h2⟩ := look_fil ht
    exact h.old t v h1 fun k p hp hk hd => keepE_spec h2 p (Array.mem_toList_iff.2 (Array.mem_of_getElem? hp)) hd

theorem flow_sound3 (hC : C.Ok) {B : Nat} {ops : Array Oper} {D : List Dep} {S U : Fp} {φ : Nat → Value → Fp → World → Prop} {l0 : Env} {w0 : World} {Q : Exit → Env → World → Prop} (hok : flowOk n ops = true) (hD : depOk ops D = true) (hz : zOk ops = true) (hU : ∀ b, w0.heap.size ≤ b → U b) (hS : ∀ b, S b → ¬ U b)
    (hφ : ∀ (i : Nat) (S' : Fp) v f w w', φ i v f w → (∀ b, S' b → S b ∨ U b) → (∀ b, f b → ¬ S' b) → Exf B S' w w' → φ i v f w')
    (hstep : stepsV C B ops.toList D S U φ l0 w0 0 ops.toList.dropLast) (hlast : ∀ o, ops[ops.size - 1]? = some o → zV C n B ops.toList D S U φ l0 w0 (Q .normal) (ops.size - 1) o) :
    ∀ (fuel : Nat) (listed : Array Bool) (a : Act) (w : World) (x : Nat → Value) (f : Nat → Fp), FJ n B ops D S U φ l0 w0 listed a w x f → listed.getD (ops.size - 1) false = false → listed.toList.count false ≤ fuel → wpAny C.P .any ops (qs n Q) fuel listed a w := by
  have hlt : ops.size - 1 < ops.size := by
    unfold zOk at hz
    split at hz
    · rename_i o ho
      exact (Array.getElem?_eq_some_iff.1 ho).1
    · cases hz
  have hnot : ∀ listed a w x f, FJ n B ops D S U φ l0 w0 listed a w x f → listed.getD (ops.size - 1) false = false → Region.ready .any ops listed = [] → False := by
    intro listed a w x f h hl hr
    have hall : ∀ j, j < ops.size → listed.getD j false = true := fun j => by
      induction j using Nat.strongRecOn with
      | _ j ih =>
        intro hj
        by_cases hl : listed.getD j false = true
        · exact hl
        · exfalso
          have hjl : j < listed.size := by rw [h.lsz]; exact hj
          have ho : ops[j]? = some ops[j] := by simp [hj]
          have : j ∈ Region.ready .any ops listed := by
            rw [mem_ready]
            refine ⟨?_, _, ho, fun e he hb => ?_⟩
            · rw [getD_listed hjl] at hl ⊢
              simpa using hl
            · have hlt := (flowOk_spec hok ho).1 e.on (mem_depsL.2 ⟨e, he, hb, rfl⟩)
              exact ih e.on hlt (by omega)
          rw [hr] at this
          cases this
    rw [hall _ hlt] at hl
    cases hl
  intro fuel
  induction fuel with
  | zero =>
    intro listed a w x f h hl hc
    have hr : Region.ready .any ops listed = [] := by
      rw [List.eq_nil_iff_forall_not_mem]
      intro i hi
      obtain ⟨h1, o, ho, _⟩ := mem_ready.1 hi
      have hil : i < listed.size := by rw [h.lsz]; exact (Array.getElem?_eq_some_iff.1 ho).1
      rw [getD_listed hil] at h1
      have : false ∈ listed.toList := by
        rw [← h1]
        simp
      have := List.count_pos_iff.2 this
      omega
    exact (hnot listed a w x f h hl hr).elim
  | succ fuel ih =>
    intro listed a w x f h hlz hc
    refine ⟨fun hr => (hnot listed a w x f h hlz hr).elim, fun i hi => ?_⟩
    obtain ⟨h1, o, ho, hde⟩ := mem_ready.1 hi
    have his := (Array.getElem?_eq_some_iff.1 ho).1
    have hil : i < listed.size := by rw [h.lsz]; exact his
    have hun : listed.getD i false = false := by
      rw [getD_listed hil] at h1 ⊢
      exact h1
    have hdeps : ∀ j ∈ depsL o, listed.getD j false = true := fun j hj => by
      obtain ⟨e, he, hb, rfl⟩ := mem_depsL.1 hj
      exact hde e he hb
    have hcount : (listed.setIfInBounds i true).toList.count false ≤ fuel := by
      have hl : listed.toList[i]? = some false := by
        rw [getD_listed hil] at h1
        simp [hil, h1]
      have := count_set hl
      rw [Array.toList_setIfInBounds]
      omega
    have hpl : ∀ p ∈ depAt D i, Has ops listed p.1 ∧ Live D listed p.1 := fun p hp => h.hcl hD ho hun hdeps (c := p.2) hp
    have hinst := fun K hK => withU_inst (all := ops.toList) (φ := φ) (U := U) (w := w) (x := x) (f := f) (depAt D i) (fun _ => False) (fun _ => False) K hK (fun p hp => by
      have := h.fact _ (hpl p hp).1 (hpl p hp).2
      exact ⟨this.1, fun b hb => ⟨(this.2 b hb).1, (this.2 b hb).2, fun x => x⟩⟩)
      (((depOk_spec hD ho).2.1).imp_of_mem fun {p q} hp hq hne b hb => h.sep _ _ (hpl p hp).1 (hpl q hq).1 (hpl p hp).2 (hpl q hq).2 hne b hb)
    have hdl : ∀ j ∈ (depAt D i).map (·.1), Has ops listed j := fun j hj => by
      obtain ⟨p, hp, rfl⟩ := List.mem_map.1 hj
      exact (hpl p hp).1
    unfold wpOp
    simp only [ho]
    by_cases hiz : i = ops.size - 1
    · subst hiz
      obtain ⟨c', _, hv⟩ := hinst _ (hlast o ho w h.ext)
      have hfr := h.frameE hdl
      split at hv
      · rename_i hg
        rw [guard_sound hfr hg, if_pos rfl]
        refine .inl (op_sound hC hfr.agree hv fun v w' _ hk => ?_)
        have hq : qs n Q .normal (a.put o.dst v) w' := ⟨_, hfr.putE o.dst v, putK_eq (K := fun l' => Q .normal l' w') hk⟩
        have hzr : Region.ready .any ops (listed.setIfInBounds (ops.size - 1) true) = [] := by
          rw [List.eq_nil_iff_forall_not_mem]
          intro k hk
          obtain ⟨k1, p, hp, _⟩ := mem_ready.1 hk
          have hks := (Array.getElem?_eq_some_iff.1 hp).1
          have hkl : k < (listed.setIfInBounds (ops.size - 1) true).size := by rw [Array.size_setIfInBounds, h.lsz]; exact hks
          by_cases e : k = ops.size - 1
          · subst e
            simp [Array.getD, hil] at k1
          · have hm : k ∈ depsL o := by
              unfold zOk at hz
              rw [ho] at hz
              have := List.all_eq_true.1 hz k (List.mem_range.2 (by omega))
              obtain ⟨b, hb, e2⟩ := List.any_eq_true.1 this
              rwa [Nat.eq_of_beq_eq_true e2]
            have := getD_set_true (i := ops.size - 1) (hdeps k hm)
            rw [getD_listed hkl] at k1 this
            rw [this] at k1
            cases k1
        cases fuel with
        | zero => exact ⟨hzr, hq⟩
        | succ m => exact ⟨fun _ => hq, fun k hk => by rw [hzr] at hk; cases hk⟩
      · exact hv.elim
    · have hflow := stepsV_get hstep i o (by
        rw [List.getElem?_dropLast, if_pos (by rw [Array.length_toList]; omega)]
        simpa using ho)
      rw [Nat.zero_add] at hflow
      obtain ⟨c', hc', hv⟩ := hinst _ (hflow w h.ext)
      have hcf : ∀ b, c' b → consF f (depAt D i) b := fun b hb => (hc' b hb).elim (fun h => h.elim) id
      have hfr := h.frame ho hun hdl
      have hlz' : (listed.setIfInBounds i true).getD (ops.size - 1) false = false := by rw [getD_set_ne false hiz]; exact hlz
      split at hv
      · rename_i hg
        rw [guard_sound hfr hg, if_pos rfl]
        refine .inl (opF_sound hC hfr.agree hv fun v w' hx ⟨g, hf, hg'⟩ => ih _ _ _ _ _ (h.step hok hD hU hS hφ ho hun hdeps (hx.mono fun b hb => hb.imp id (hcf b)) hf (fun b hb => (hg' b hb).imp id (hcf b))) hlz' hcount)
      · rename_i hg
        rw [guard_sound hfr hg, if_neg (by simp)]
        obtain ⟨g, hf, hg'⟩ := hv
        exact ih _ _ _ _ _ (h.step hok hD hU hS hφ ho hun hdeps ((Ext.refl _ _).exf) hf (fun b hb => .inr (hcf b (hg' b hb)))) hlz' hcount
      · exact hv.elim

/-- A fact on an operation's value and its own blocks, that holds on whatever the others do. -/
structure Fl (B : Nat) (S U : Fp) where
  p : Value → Fp → World → Prop
  st : ∀ (S' : Fp) v f w w', p v f w → (∀ b, S' b → S b ∨ U b) → (∀ b, f b → ¬ S' b) → Exf B S' w w' → p v f w'
def Fl.is {B : Nat} {S U : Fp} (x : Value) : Fl B S U := ⟨fun v f _ => v = x ∧ ∀ b, ¬ f b, fun _ _ _ _ _ h _ _ _ => h⟩
def fl {B : Nat} {S U : Fp} (L : List (Fl B S U)) (i : Nat) : Value → Fp → World → Prop :=
  match nth i L with
  | some f => f.p
  | none => fun _ _ _ => True
theorem fl_st {B : Nat} {S U : Fp} (L : List (Fl B S U)) : ∀ (i : Nat) (S' : Fp) v f w w', fl L i v f w → (∀ b, S' b → S b ∨ U b) → (∀ b, f b → ¬ S' b) → Exf B S' w w' → fl L i v f w' := by
  intro i S' v f w w' h h1 h2 he
  unfold fl at h ⊢
  cases hf : nth i L with
  | none => trivial
  | some g =>
    rw [hf] at h
    exact g.st S' v f w w' h h1 h2 he
def outDep (outs : List Nat) : Dep := outs.map fun j => (j, false)
theorem FJ.start {ops : Array Oper} {D : List Dep} {l : Env} {w : World} {a : Act} {S U : Fp} {φ : Nat → Value → Fp → World → Prop} (ha : Fr n l a) (v0 : Value) (f0 : Fp) (h0 : φ ops.size v0 f0 w.drew ∧ ∀ b, f0 b → U b ∧ b < w.heap.size) :
    FJ n w.heap.size ops D S U φ l w.drew (Array.replicate ops.size false) a w.drew (fun _ => v0) (fun _ => f0) := by
  refine ⟨ha.size, ha.defers, (Ext.refl _ _).exf, by simp, fun j hj _ => ?_, fun j k hj hk _ _ hne => ?_, fun j o d ho hl _ => ?_, fun j o ho hl => ?_, fun t v ht _ => ha.get t v ht⟩
  · rcases hj with hj | rfl
    · have := listed_lt hj
      rw [Array.size_replicate] at this
      simp [Array.getD, this] at hj
    · exact h0
  · have key : ∀ {j}, Has ops (Array.replicate ops.size false) j → j = ops.size := fun {j} hj => by
      rcases hj with hj | hj
      · have := listed_lt hj
        rw [Array.size_replicate] at this
        simp [Array.getD, this] at hj
      · exact hj
    exact absurd ((key hj).trans (key hk).symm) hne
  · have : j < ops.size := (Array.getElem?_eq_some_iff.1 ho).1
    simp [Array.getD, this] at hl
  · have : j < ops.size := (Array.getElem?_eq_some_iff.1 ho).1
    simp [Array.getD, this] at hl
theorem G.flow2 (hC : C.Ok) {id : Nat} {ops : Array Oper} {l : Env} {w : World} {Q : Exit → Env → World → Prop} (S U : Fp) (v0 : Value) (f0 : Fp) (L : List (Fl w.heap.size S U)) (D : List Dep) (outs : List Nat) (hU : ∀ b, w.heap.size ≤ b → U b) (hS : ∀ b, S b → ¬ U b) (h0 : fl L ops.size v0 f0 w.drew ∧ ∀ b, f0 b → U b ∧ b < w.heap.size)
    (hok : flowOk n ops = true) (hD : depOk ops D = true)
    (hout : (outs.all (fun j => Nat.blt j ops.size && (List.range ops.size).all fun k => !(consB (depAt D k) j)) && nodupB outs) = true)
    (hstep : stepsV C w.heap.size ops.toList D S U (fl L) l w.drew 0 ops.toList)
    (hend : ∀ w', Exf w.heap.size (fun b => S b ∨ U b) w.drew w' → withU ops.toList (fl L) U w' (outDep outs) (fun _ => False) (fun _ => False) fun e _ => Q .normal (e ++ fil (fun t => keepE t ops.toList) l) w') : G C.P n (.region id ops true) l w Q := by
  refine ⟨fun a ha => wp_region_any hC.mixed (flow_sound2 (w0 := w.drew) hC hok hD hU hS (fl_st L) hstep ?_ ops.size _ a w.drew (fun _ => v0) (fun _ => f0) (FJ.start ha v0 f0 h0) ?_)⟩
  · intro listed a w' x f h hl
    rw [Bool.and_eq_true] at hout
    have ho : ∀ j ∈ outs, j < ops.size ∧ Live D listed j := fun j hj => by
      have h1 := List.all_eq_true.1 hout.1 j hj
      rw [Bool.and_eq_true] at h1
      refine ⟨by simpa [Nat.blt_eq] using h1.1, fun k hk hc => ?_⟩
      have hks := listed_lt hk
      rw [h.lsz] at hks
      have h2 := List.all_eq_true.1 h1.2 k (List.mem_range.2 hks)
      rw [consB_iff.2 hc] at h2
      cases h2
    have hpw := nodupB_pw (d := outDep outs) (by rw [outDep, List.map_map]; simpa [Function.comp_def] using hout.2)
    have hmem : ∀ p ∈ outDep outs, p.1 ∈ outs := fun p hp => by
      obtain ⟨j, hj, rfl⟩ := List.mem_map.1 hp
      exact hj
    obtain ⟨c', _, hq⟩ := withU_inst (x := x) (f := f) _ _ _ _ (hend w' h.ext) (fun p hp => by
      obtain ⟨h1, h2⟩ := ho _ (hmem p hp)
      have := h.fact _ (.inl (hl _ h1)) h2
      exact ⟨this.1, fun b hb => ⟨(this.2 b hb).1, (this.2 b hb).2, fun x => x⟩⟩)
      (hpw.imp_of_mem fun {p q} hp hq hne b hb => h.sep _ _ (.inl (hl _ (ho _ (hmem p hp)).1)) (.inl (hl _ (ho _ (hmem q hq)).1)) (ho _ (hmem p hp)).2 (ho _ (hmem q hq)).2 hne b hb)
    refine ⟨_, ⟨h.size, h.defers, fun t v ht => ?_⟩, hq⟩
    rcases look_app ht with ht | ht
    · obtain ⟨j, hj, h1, rfl⟩ := look_envD ht
      unfold dstOf at h1
      rw [nth_eq] at h1
      split at h1
      · rename_i p hp
        obtain ⟨q, hq1, rfl⟩ := List.mem_map.1 hj
        have hjs := (ho _ (hmem q hq1)).1
        exact h.val q.1 p t (by simpa using hp) (hl _ hjs) h1
      · cases h1
    · obtain ⟨h1, h2⟩ := look_fil ht
      exact h.old t v h1 fun k p hp hk hd => keepE_spec h2 p (Array.mem_toList_iff.2 (Array.mem_of_getElem? hp)) hd
  · simp
theorem G.flowZ (hC : C.Ok) {id : Nat} {ops : Array Oper} {l : Env} {w : World} {Q : Exit → Env → World → Prop} (S U : Fp) (v0 : Value) (f0 : Fp) (L : List (Fl w.heap.size S U)) (D : List Dep) (hU : ∀ b, w.heap.size ≤ b → U b) (hS : ∀ b, S b → ¬ U b) (h0 : fl L ops.size v0 f0 w.drew ∧ ∀ b, f0 b → U b ∧ b < w.heap.size)
    (hok : flowOk n ops = true) (hD : depOk ops D = true) (hz : zOk ops = true)
    (hstep : stepsV C w.heap.size ops.toList D S U (fl L) l w.drew 0 ops.toList.dropLast)
    (hlast : match nth (ops.size - 1) ops.toList with
      | some o => zV C n w.heap.size ops.toList D S U (fl L) l w.drew (Q .normal) (ops.size - 1) o
      | none => False) : G C.P n (.region id ops true) l w Q := by
  have hl : ∀ o, ops[ops.size - 1]? = some o → zV C n w.heap.size ops.toList D S U (fl L) l w.drew (Q .normal) (ops.size - 1) o := fun o ho => by
    rw [nth_eq, Array.getElem?_toList, ho] at hlast
    exact hlast
  refine ⟨fun a ha => wp_region_any hC.mixed (flow_sound3 (w0 := w.drew) hC hok hD hz hU hS (fl_st L) hstep hl ops.size _ a w.drew (fun _ => v0) (fun _ => f0) (FJ.start ha v0 f0 h0) ?_ ?_)⟩
  · by_cases h : ops.size - 1 < ops.size
    · simp [Array.getD, h]
    · simp [Array.getD, h]
  · simp
end

end Go.Proofs.YtilgolbpiomdmaaDoor.Sx

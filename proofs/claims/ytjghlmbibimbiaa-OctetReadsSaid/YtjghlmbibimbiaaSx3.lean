
/-
  What is to be shown of an operation that reads memory at most: the conditions, by the operation's form.
-/
import Derived.Test.YtjghlmbibimbiaaSx2

namespace Go.Proofs.Ytjghlmbibimbiaa.Sx

open Go

set_option linter.unusedVariables false

set_option linter.unusedSimpArgs false

/-! ### Types -/
inductive Ty where
  | bool | int (k : IntKind) | string | slice (e : Nat) | ptr (e : Nat) | struct (fs : List (Nat × Nat)) | array (n e : Nat) | func | map (k e : Nat) | other
structure TI where
  ty : Ty
  size : Nat
  bytes : Nat
  zero : Value
abbrev Tab := List (Nat × TI)
def tlook (t : Nat) : Tab → Option TI
  | [] => none
  | (s, v) :: r => match Nat.beq t s with
    | true => some v
    | false => tlook t r
def descTy : TypeDesc → Ty
  | .bool => .bool
  | .int k => .int k
  | .string => .string
  | .slice e => .slice e
  | .pointer e => .ptr e
  | .struct fs => .struct (fs.toList.map fun f => (f.offset, f.type))
  | .array n e => .array n e
  | .func .. => .func
  | .map k e => .map k e
  | _ => .other
structure TIok (P : Program) (t : Nat) (ti : TI) : Prop where
  ty : (P.underlying t).map descTy = some ti.ty
  info : (P.info? t).map (fun i => (i.size, i.bytes, i.zero)) = some (ti.size, ti.bytes, some ti.zero)
def TabOk (P : Program) (tab : Tab) : Prop := ∀ t ti, tlook t tab = some ti → TIok P t ti
theorem TabOk.nil (P : Program) : TabOk P [] := fun t ti h => by simp [tlook] at h
theorem TabOk.cons {P : Program} {t : Nat} {ti : TI} {r : Tab} (h1 : (P.underlying t).map descTy = some ti.ty)
    (h2 : (P.info? t).map (fun i => (i.size, i.bytes, i.zero)) = some (ti.size, ti.bytes, some ti.zero)) (hr : TabOk P r) : TabOk P ((t, ti) :: r) := by
  intro s si hs
  change (match Nat.beq s t with | true => some ti | false => tlook s r) = _ at hs
  cases hb : Nat.beq s t with
  | true => rw [hb] at hs; have := Nat.eq_of_beq_eq_true hb; subst this; simp at hs; subst hs; exact ⟨h1, h2⟩
  | false => rw [hb] at hs; exact hr s si hs

/-! ### Stops -/
structure Ev {α : Type} (x : α) (K : α → Prop) : Prop where keep ::
  out : K x
theorem Ev.mk {α : Type} {x : α} {K : α → Prop} (x' : α) (h : x = x') (k : K x') : Ev x K := ⟨h ▸ k⟩
structure Cmp (b : Bool) (K : Bool → Prop) : Prop where keep ::
  out : K b
theorem Cmp.t {b : Bool} {K : Bool → Prop} (h : b = true) (k : K true) : Cmp b K := ⟨h ▸ k⟩
theorem Cmp.f {b : Bool} {K : Bool → Prop} (h : b = false) (k : K false) : Cmp b K := ⟨h ▸ k⟩
theorem Cmp.s {b : Bool} {K : Bool → Prop} (ht : b = true → K true) (hf : b = false → K false) : Cmp b K := ⟨by cases b; exact hf rfl; exact ht rfl⟩
theorem Cmp.dt {q : Prop} [Decidable q] {K : Bool → Prop} (h : q) (k : K true) : Cmp (decide q) K := .t (decide_eq_true h) k
theorem Cmp.df {q : Prop} [Decidable q] {K : Bool → Prop} (h : ¬ q) (k : K false) : Cmp (decide q) K := .f (decide_eq_false h) k
theorem Cmp.ds {q : Prop} [Decidable q] {K : Bool → Prop} (ht : q → K true) (hf : ¬ q → K false) : Cmp (decide q) K :=
  .s (fun h => ht (of_decide_eq_true h)) (fun h => hf (of_decide_eq_false h))
structure Nd (p : Prop) (X : Prop) : Prop where mk ::
  h : p
  k : X

inductive Md where
  | plain
  | any (S : Nat → Prop)
def Md.R (m : Md) (w : World) (p : World → Prop) : Prop := match m with
  | .plain => p w
  | .any S => ∀ w', Ext S w w' → p w'
def Md.W (m : Md) (w w' : World) : Prop := match m with
  | .plain => True
  | .any S => Ext S w w'
def Md.safe (m : Md) (b : Nat) : Prop := match m with
  | .plain => True
  | .any S => ¬ S b
theorem Md.R_all {m : Md} {w : World} {p : World → Prop} (h : ∀ w', p w') : m.R w p := by cases m; exact h w; exact fun w' _ => h w'
theorem Md.R_mono {m : Md} {w : World} {p q : World → Prop} (h : m.R w p) (hpq : ∀ w', p w' → q w') : m.R w q := by
  cases m
  · exact hpq _ h
  · exact fun w' hw => hpq _ (h w' hw)
theorem Md.R_cell {m : Md} {w : World} {a : Addr} {v : Value} (h : w.cell? a = some v) (hs : m.safe a.block) : m.R w (fun w' => w'.cell? a = some v) := by
  cases m
  · exact h
  · exact fun w' hw => hw.cell h hs

/-- A byte slice's bytes. -/
def Bs (w : World) (A : Option Addr) (l : List UInt8) : Prop :=
  l = [] ∨ ∃ b off, A = some ⟨b, off, none⟩ ∧ ∀ i (h : i < l.length), w.cell? ⟨b, off + i, none⟩ = some (.int .u8 (l[i].toNat : Int))

structure Rd (m : Md) (w : World) (a : Addr) (K : Value → Prop) : Prop where mk' ::
  out : ∃ v, m.R w (fun w' => w'.cell? a = some v) ∧ K v
theorem Rd.mk {m : Md} {w : World} {a : Addr} {K : Value → Prop} (v : Value) (h : w.cell? a = some v) (hs : m.safe a.block) (k : K v) : Rd m w a K := ⟨v, Md.R_cell h hs, k⟩
structure RdA (m : Md) (w : World) (b off n : Nat) (K : List Value → Prop) : Prop where mk ::
  out : ∃ cs : List Value, cs.length = n ∧ m.R w (fun w' => ∀ i (h : i < cs.length), w'.cell? ⟨b, off + i, none⟩ = some cs[i]) ∧ K cs
structure RdS (m : Md) (w : World) (A : Option Addr) (n : Nat) (K : ByteArray → Prop) : Prop where mk ::
  out : ∃ l : List UInt8, l.length = n ∧ m.R w (fun w' => Bs w' A l) ∧ K ⟨l.toArray⟩

def sla (A : Option Addr) (l m size : Nat) : Option Addr := if m = l then A else A.map (·.add (l * size))
structure Sl (A : Option Addr) (l h m size : Nat) (K : Value → Prop) : Prop where keep ::
  out : K (.slice (sla A l m size) (h - l) (m - l))
theorem Sl.mk {A : Option Addr} {l h m size : Nat} {K : Value → Prop} (A' : Option Addr) (n' c' : Nat) (hA : sla A l m size = A') (hn : h - l = n') (hc : m - l = c') (k : K (.slice A' n' c')) : Sl A l h m size K := ⟨by rw [hA, hn, hc]; exact k⟩
structure Ix (A : Option Addr) (n : Nat) (i : Int) (size : Nat) (K : Value → Prop) : Prop where mk' ::
  out : ∃ b o, A = some ⟨b, o, none⟩ ∧ (0 ≤ i ∧ i < (n : Int)) ∧ K (.pointer (some ⟨b, o + i.toNat * size, none⟩))
theorem Ix.mk {A : Option Addr} {n : Nat} {i : Int} {size : Nat} {K : Value → Prop} (b o j : Nat) (hA : A = some ⟨b, o, none⟩) (hi : 0 ≤ i ∧ i < (n : Int)) (hj : o + i.toNat * size = j)
    (k : K (.pointer (some ⟨b, j, none⟩))) : Ix A n i size K := ⟨b, o, hA, hi, hj ▸ k⟩
def eqPlain : Value → Bool
  | .int _ _ | .float _ _ | .complex _ _ _ | .string _ | .nilIface => false
  | _ => true
structure Ix1 (A : Option Addr) (n : Nat) (i : Int) (K : Value → Prop) : Prop where mk' ::
  out : ∃ b o, A = some ⟨b, o, none⟩ ∧ (0 ≤ i ∧ i < (n : Int)) ∧ K (.pointer (some ⟨b, o + i.toNat, none⟩))
theorem Ix1.mk {A : Option Addr} {n : Nat} {i : Int} {K : Value → Prop} (b o j : Nat) (hA : A = some ⟨b, o, none⟩) (hi : 0 ≤ i ∧ i < (n : Int)) (hj : o + i.toNat = j)
    (k : K (.pointer (some ⟨b, j, none⟩))) : Ix1 A n i K := ⟨b, o, hA, hi, hj ▸ k⟩
def ixVC (A : Option Addr) (n : Nat) (i : Int) (size : Nat) (K : Value → Prop) : Prop :=
  match Nat.beq size 1 with
  | true => Ix1 A n i K
  | false => Ix A n i size K
theorem ix_of {A : Option Addr} {n : Nat} {i : Int} {size : Nat} {K : Value → Prop} (h : ixVC A n i size K) : Ix A n i size K := by
  unfold ixVC at h
  split at h
  · rename_i hb
    have := Nat.eq_of_beq_eq_true hb
    subst this
    obtain ⟨b, o, h1, h2, h3⟩ := h.out
    exact ⟨b, o, h1, h2, by rw [Nat.mul_one]; exact h3⟩
  · exact h
structure Eqv (P : Program) (t : TypeId) (x y : Value) (K : Bool → Prop) : Prop where mk ::
  out : ∃ b, eqPlain x = true ∧ (∀ w, (Op.equal t x y).run P w = .ok b w) ∧ (∀ op X Y w, (eqGuard op t X Y x y).run P w = .ok () w) ∧ K b

/-! ### Conditions -/
def nth {α : Type} : Nat → List α → Option α
  | _, [] => none
  | 0, x :: _ => some x
  | n + 1, _ :: r => nth n r
theorem nth_eq {α : Type} (l : List α) : ∀ n, nth n l = l[n]? := by
  induction l with
  | nil => intro n; cases n <;> rfl
  | cons x r ih => intro n; cases n with
    | zero => rfl
    | succ n => simpa [nth] using ih n
def bitw (op : BinOp) (k : IntKind) (x y : Int) : Int :=
  match op with
  | .and => k.wrap ((BitVec.ofInt k.bits x &&& BitVec.ofInt k.bits y).toNat : Int)
  | .or => k.wrap ((BitVec.ofInt k.bits x ||| BitVec.ofInt k.bits y).toNat : Int)
  | .xor => k.wrap ((BitVec.ofInt k.bits x ^^^ BitVec.ofInt k.bits y).toNat : Int)
  | _ => k.wrap ((BitVec.ofInt k.bits x &&& ~~~ (BitVec.ofInt k.bits y)).toNat : Int)
def intVC (op : BinOp) (k : IntKind) (a b : Int) (K : Value → Prop) : Prop :=
  match op with
  | .add => Ev (k.wrap (a + b)) fun z => K (.int k z)
  | .sub => Ev (k.wrap (a - b)) fun z => K (.int k z)
  | .mul => Ev (k.wrap (a * b)) fun z => K (.int k z)
  | .quo => Nd (b ≠ 0) (Ev (k.wrap (a.tdiv b)) fun z => K (.int k z))
  | .rem => Nd (b ≠ 0) (Ev (a.tmod b) fun z => K (.int k z))
  | .and => Ev (bitw .and k a b) fun z => K (.int k z)
  | .or => Ev (bitw .or k a b) fun z => K (.int k z)
  | .xor => Ev (bitw .xor k a b) fun z => K (.int k z)
  | .andNot => Ev (bitw .andNot k a b) fun z => K (.int k z)
  | .eql => Cmp (decide (a = b)) fun r => K (.bool r)
  | .neq => Cmp (decide (a ≠ b)) fun r => K (.bool r)
  | .lss => Cmp (decide (a < b)) fun r => K (.bool r)
  | .leq => Cmp (decide (a ≤ b)) fun r => K (.bool r)
  | .gtr => Cmp (decide (b < a)) fun r => K (.bool r)
  | .geq => Cmp (decide (b ≤ a)) fun r => K (.bool r)
  | _ => False
def strVC (op : BinOp) (a b : ByteArray) (K : Value → Prop) : Prop :=
  match op with
  | .add => Nd (a.size + b.size ≤ 9223372036854775807) (Ev (a ++ b) fun z => K (.string z))
  | .eql => Cmp (decide (a = b)) fun r => K (.bool r)
  | .neq => Cmp (decide (a ≠ b)) fun r => K (.bool r)
  | .lss => Cmp (Op.bytesLess a.toList b.toList) fun r => K (.bool r)
  | .leq => Cmp (Op.bytesLess a.toList b.toList || decide (a = b)) fun r => K (.bool r)
  | .gtr => Cmp (!(Op.bytesLess a.toList b.toList || decide (a = b))) fun r => K (.bool r)
  | .geq => Cmp (!Op.bytesLess a.toList b.toList) fun r => K (.bool r)
  | _ => False
def binVC (P : Program) (tab : Tab) (op : BinOp) (t : TypeId) (x y : Value) (K : Value → Prop) : Prop :=
  match op, x, y with
  | .shl, .int k a, .int _ b => Nd (0 ≤ b) (Ev (k.wrap (a * 2 ^ min b.toNat k.bits)) fun z => K (.int k z))
  | .shr, .int k a, .int _ b => Nd (0 ≤ b) (Ev (a.fdiv (2 ^ min b.toNat k.bits)) fun z => K (.int k z))
  | op, .int k a, .int k' b => match decide (k = k') with
    | true => intVC op k a b K
    | false => False
  | op, .string a, .string b => strVC op a b K
  | .eql, x, y => match tlook t tab, x, y with
    | some ⟨.bool, _, _, _⟩, .bool a, .bool b => Cmp (a == b) fun r => K (.bool r)
    | some ⟨.ptr _, _, _, _⟩, .pointer (some _), .pointer none => K (.bool false)
    | some ⟨.ptr _, _, _, _⟩, .pointer none, .pointer (some _) => K (.bool false)
    | some ⟨.ptr _, _, _, _⟩, .pointer none, .pointer none => K (.bool true)
    | some ⟨.slice _, _, _, _⟩, .slice A _ _, .slice none _ _ => Cmp A.isNone fun r => K (.bool r)
    | _, _, _ => Eqv P t x y fun b => K (.bool b)
  | .neq, x, y => match tlook t tab, x, y with
    | some ⟨.bool, _, _, _⟩, .bool a, .bool b => Cmp (!(a == b)) fun r => K (.bool r)
    | some ⟨.ptr _, _, _, _⟩, .pointer (some _), .pointer none => K (.bool true)
    | some ⟨.ptr _, _, _, _⟩, .pointer none, .pointer (some _) => K (.bool true)
    | some ⟨.ptr _, _, _, _⟩, .pointer none, .pointer none => K (.bool false)
    | some ⟨.slice _, _, _, _⟩, .slice A _ _, .slice none _ _ => Cmp (!A.isNone) fun r => K (.bool r)
    | _, _, _ => Eqv P t x y fun b => K (.bool (!b))
  | _, _, _ => False
def unVC (op : UnOp) (x : Value) (K : Value → Prop) : Prop :=
  match op, x with
  | .not, .bool true => K (.bool false)
  | .not, .bool false => K (.bool true)
  | .neg, .int k n => Ev (k.wrap (0 - n)) fun z => K (.int k z)
  | .xor, .int k n => Ev (bitw .xor k (if k.signed then -1 else k.max) n) fun z => K (.int k z)
  | _, _ => False
def isAggT : Ty → Bool
  | .struct _ | .array _ _ => true
  | _ => false
/-- A part of a struct or array at `off`. -/
def partVC (ft : TI) (cs : List Value) (off : Nat) (K : Value → Prop) : Prop :=
  match isAggT ft.ty with
  | true => Ev ((cs.drop off).take ft.size) fun l => K (.agg l.toArray)
  | false => match nth off cs with
    | some v => K v
    | none => False
def boundVC (l : Env) (x : Option Operand) (top : Nat) (dflt : Nat) (K : Nat → Prop) : Prop :=
  match x with
  | none => K dflt
  | some x => match evl l x with
    | some (.int _ i) => Nd (0 ≤ i ∧ i ≤ (top : Int)) (Ev i.toNat K)
    | _ => False
def lowVC (l : Env) (x : Option Operand) (A : Option Addr) (h m size : Nat) (K : Value → Prop) : Prop :=
  match x with
  | none => K (.slice A h m)
  | some x => match evl l x with
    | some (.int _ i) => Nd (0 ≤ i ∧ i ≤ (h : Int)) (Ev i.toNat fun j => Sl A j h m size K)
    | _ => False
def vcells : Value → List Value
  | .agg cs => cs.toList
  | v => [v]
def ov (cells : List Value) (off : Nat) (vs : List Value) : List Value := cells.take off ++ (vs ++ cells.drop (off + vs.length))
def fillVC (place : Nat → Option (Nat × Nat)) (cells : List Value) : List (Nat × Value) → (List Value → Prop) → Prop
  | [], K => Ev cells K
  | (i, v) :: r, K => match place i with
    | none => False
    | some (off, size) => Nd ((vcells v).length = size ∧ off + size ≤ cells.length) (Ev (ov cells off (vcells v)) fun cs => fillVC place cs r K)
def evparts (l : Env) : List (Nat × Operand) → Option (List (Nat × Value))
  | [] => some []
  | (i, x) :: r => match evl l x with
    | none => none
    | some v => match evparts l r with
      | none => none
      | some vs => some ((i, v) :: vs)
def structPlace (tab : Tab) (fs : List (Nat × Nat)) (i : Nat) : Option (Nat × Nat) :=
  match nth i fs with
  | none => none
  | some (off, ft) => match tlook ft tab with
    | none => none
    | some fi => some (off, fi.size)
def allIn (tab : Tab) : List (Nat × Nat) → Bool
  | [] => true
  | (_, t) :: r => match tlook t tab with
    | some _ => allIn tab r
    | none => false
def rdVC (P : Program) (tab : Tab) (m : Md) (l : Env) (o : Oper) (w : World) (K : Value → Prop) : Prop :=
  match o.op with
  | .move x => match evl l x with
    | some v => K v
    | none => False
  | .assign x => match evl l x with
    | some v => K v
    | none => False
  | .pick c a b => match evl l c with
    | some (.bool true) => (match evl l a with
      | some v => K v
      | none => False)
    | some (.bool false) => (match evl l b with
      | some v => K v
      | none => False)
    | _ => False
  | .nilCheck x => match evl l x with
    | some (.pointer (some a)) => K (.pointer (some a))
    | some (.func (.func f) fi ca) => K (.func (.func f) fi ca)
    | _ => False
  | .binOp op t x y _ => match evl l x with
    | some a => (match evl l y with
      | some b => binVC P tab op t a b K
      | none => False)
    | none => False
  | .unOp op _ x => match evl l x with
    | some v => unVC op v K
    | none => False
  | .convert s d x => match tlook s tab, tlook d tab, evl l x with
    | some _, some ⟨.int k, _, _, _⟩, some (.int _ n) => Ev (k.wrap n) fun z => K (.int k z)
    | some _, some ⟨.string, _, _, _⟩, some (.string b) => K (.string b)
    | some ⟨.slice e, _, _, _⟩, some ⟨.string, _, _, _⟩, some (.slice A n c) => (match tlook e tab with
      | some ⟨.int .u8, _, _, _⟩ => RdS m w A n fun b => K (.string b)
      | _ => False)
    | _, _, _ => False
  | .makeFunc fn fi ca => match evls l fi.toList with
    | some f => (match evls l ca.toList with
      | some c => K (.func fn f.toArray c.toArray)
      | none => False)
    | none => False
  | .load t x => match tlook t tab, evl l x with
    | some ti, some (.pointer (some ⟨b, off, none⟩)) => (match isAggT ti.ty with
      | true => RdA m w b off ti.size fun cs => K (.agg cs.toArray)
      | false => Rd m w ⟨b, off, none⟩ K)
    | _, _ => False
  | .fieldAddr s x f => match tlook s tab, evl l x with
    | some ⟨.struct fs, _, _, _⟩, some (.pointer (some ⟨b, off, none⟩)) => (match structPlace tab fs f with
      | some (fo, size) => (match Nat.beq size 0 with
        | false => K (.pointer (some ⟨b, off + fo, none⟩))
        | true => False)
      | none => False)
    | _, _ => False
  | .field s x f => match tlook s tab, evl l x with
    | some ⟨.struct fs, _, _, _⟩, some (.agg cs) => (match nth f fs with
      | some (fo, ft) => (match tlook ft tab with
        | some fi => partVC fi cs.toList fo K
        | none => False)
      | none => False)
    | _, _ => False
  | .indexAddr t x i => match tlook t tab, evl l x, evl l i with
    | some ⟨.slice e, _, _, _⟩, some (.slice A n _), some (.int _ j) => (match tlook e tab with
      | some ei => ixVC A n j ei.size K
      | none => False)
    | some ⟨.array n e, _, _, _⟩, some (.pointer (some ⟨b, off, none⟩)), some (.int _ j) => (match tlook e tab with
      | some ei => ixVC (some ⟨b, off, none⟩) n j ei.size K
      | none => False)
    | _, _, _ => False
  | .index t x i => match tlook t tab, evl l x, evl l i with
    | some ⟨.array n e, _, _, _⟩, some (.agg cs), some (.int _ j) => (match tlook e tab with
      | some ei => Nd (0 ≤ j ∧ j < (n : Int)) (match isAggT ei.ty with
        | true => Ev ((cs.toList.drop (j.toNat * ei.size)).take ei.size) fun l => K (.agg l.toArray)
        | false => ∃ v, cs.toList[j.toNat * ei.size]? = some v ∧ K v)
      | none => False)
    | some ⟨.string, _, _, _⟩, some (.string s), some (.int _ j) => Nd (0 ≤ j ∧ j < (s.size : Int)) (Ev ((s.data.toList[j.toNat]?.getD 0).toNat : Int) fun z => K (.int .u8 z))
    | _, _, _ => False
  | .slice t x lo hi mx => match tlook t tab, evl l x with
    | some ⟨.slice e, _, _, _⟩, some (.slice A n c) => (match tlook e tab with
      | some ei => (match hi, mx with
        | none, some _ => False
        | _, _ => boundVC l mx c c fun m => boundVC l hi m n fun h => lowVC l lo A h m ei.size K)
      | none => False)
    | some ⟨.array n e, _, _, _⟩, some (.pointer (some ⟨b, off, none⟩)) => (match tlook e tab with
      | some ei => (match hi, mx with
        | none, some _ => False
        | _, _ => boundVC l mx n n fun m => boundVC l hi m n fun h => lowVC l lo (some ⟨b, off, none⟩) h m ei.size K)
      | none => False)
    | some ⟨.string, _, _, _⟩, some (.string s) => (match mx with
      | some _ => False
      | none => boundVC l hi s.size s.size fun h => boundVC l lo h 0 fun j => Ev (s.extract j h) fun z => K (.string z))
    | _, _ => False
  | .extract x i => match evl l x with
    | some (.tuple vs) => (match nth i vs.toList with
      | some v => K v
      | none => False)
    | _ => False
  | .build t ps => match tlook t tab, evparts l ps.toList with
    | some ⟨.struct fs, _, _, z⟩, some vs => (match allIn tab fs with
      | true => fillVC (structPlace tab fs) (vcells z) vs fun cs => K (.agg cs.toArray)
      | false => False)
    | some ⟨.array n e, _, _, z⟩, some vs => (match tlook e tab with
      | some ei => fillVC (fun i => some (i * ei.size, ei.size)) (vcells z) vs fun cs => K (.agg cs.toArray)
      | none => False)
    | _, _ => False
  | .call c => match c.callee, c.args.toList, c.argTypes.toList with
    | .builtin .len, [x], [t] => (match tlook t tab, evl l x with
      | some ⟨.slice _, _, _, _⟩, some (.slice _ n _) => K (.int .i64 (n : Int))
      | some ⟨.string, _, _, _⟩, some (.string s) => K (.int .i64 (s.size : Int))
      | some ⟨.array n _, _, _, _⟩, some _ => K (.int .i64 (n : Int))
      | _, _ => False)
    | .builtin .cap, [x], [t] => (match tlook t tab, evl l x with
      | some ⟨.slice _, _, _, _⟩, some (.slice _ _ n) => K (.int .i64 (n : Int))
      | _, _ => False)
    | .builtin .min, [x, y], _ => (match evl l x, evl l y with
      | some (.int k a), some (.int _ b) => Ev (if b < a then b else a) fun z => K (.int k z)
      | _, _ => False)
    | .builtin .max, [x, y], _ => (match evl l x, evl l y with
      | some (.int k a), some (.int _ b) => Ev (if a < b then b else a) fun z => K (.int k z)
      | _, _ => False)
    | _, _, _ => False
  | _ => False
end Go.Proofs.Ytjghlmbibimbiaa.Sx

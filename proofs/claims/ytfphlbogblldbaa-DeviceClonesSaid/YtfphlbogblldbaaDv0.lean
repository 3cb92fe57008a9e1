import Derived.Test.YtfphlbogblldbaaSxA
import Derived.Test.YtfphlbogblldbaaMid
import Derived.Test.YtfphlbogblldbaaCat
import Derived.Test.YtfphlbogblldbaaEq

/-
  Devices in plain Lean, and a device's blocks.
-/




namespace Go.Proofs.Ytfphlbogblldbaa

open Go Sx

set_option linter.unusedVariables false

set_option linter.unusedSimpArgs false

set_option maxRecDepth 100000

section flat

variable {α : Type} {f : α → List Value} {k : Nat}
theorem flat_length {l : List α} (h : ∀ x ∈ l, (f x).length = k) : (l.flatMap f).length = l.length * k := by
  induction l with
  | nil => simp
  | cons r t ih =>
    rw [List.flatMap_cons, List.length_append, h r (by simp), ih fun q hq => h q (by simp [hq]), List.length_cons, Nat.succ_mul]
    omega
theorem flat_drop {l : List α} (h : ∀ x ∈ l, (f x).length = k) : ∀ i, (l.flatMap f).drop (i * k) = (l.drop i).flatMap f := by
  induction l with
  | nil => intro i; simp
  | cons r t ih =>
    intro i
    cases i with
    | zero => simp
    | succ i =>
      have hl := h r (by simp)
      rw [List.flatMap_cons, List.drop_append, hl, List.drop_eq_nil_of_le (by rw [hl, Nat.succ_mul]; omega), List.nil_append, show (i + 1) * k - k = i * k from by rw [Nat.succ_mul]; omega, ih fun q hq => h q (by simp [hq])]
      rfl
theorem flat_at {l : List α} (h : ∀ x ∈ l, (f x).length = k) {i : Nat} (hi : i < l.length) : ((l.flatMap f).drop (i * k)).take k = f l[i] := by
  have hl := h _ (List.getElem_mem hi)
  rw [flat_drop h, List.drop_eq_getElem_cons hi, List.flatMap_cons, List.take_append_of_le_length (by omega), List.take_of_length_le (by omega)]
theorem flat_get {l : List α} (h : ∀ x ∈ l, (f x).length = k) {i j : Nat} (hi : i < l.length) (hj : j < k) : (l.flatMap f)[i * k + j]? = (f l[i])[j]? := by
  rw [← flat_at h hi, List.getElem?_take_of_lt hj, List.getElem?_drop]
end flat

/-- A write of a sector that is not safe: its place, how many of its bytes the file had, its bytes. -/
abbrev LW := Nat × Nat × List UInt8
def lv (x : LW) : List Value := .int .i64 (x.1 : Int) :: .int .i64 (x.2.1 : Int) :: bv x.2.2
def lvs (l : List LW) : List Value := l.flatMap lv
structure LwOk (x : LW) : Prop where
  len : x.2.2.length = 512
  n : x.2.1 ≤ 512
  top : x.1 + x.2.1 ≤ 16777216
abbrev LwsOk (l : List LW) : Prop := ∀ x ∈ l, LwOk x
theorem lv_length {x : LW} (h : x.2.2.length = 512) : (lv x).length = 514 := by simp [lv, bv_length, h]
theorem LwsOk.len {l : List LW} (h : LwsOk l) : ∀ x ∈ l, (lv x).length = 514 := fun x hx => lv_length (h x hx).len
theorem lvs_length {l : List LW} (h : LwsOk l) : (lvs l).length = l.length * 514 := flat_length h.len
theorem one_lv (x : LW) : ∀ v ∈ lv x, v.oneCell' = true := by
  intro v hv
  rcases List.mem_cons.1 hv with rfl | hv
  · rfl
  rcases List.mem_cons.1 hv with rfl | hv
  · rfl
  · exact one_bv _ v hv
theorem one_lvs (l : List LW) : ∀ v ∈ lvs l, v.oneCell' = true := by
  intro v hv
  obtain ⟨x, _, hx⟩ := List.mem_flatMap.1 hv
  exact one_lv x v hx
theorem lvs_append (a b : List LW) : lvs (a ++ b) = lvs a ++ lvs b := by simp [lvs]
theorem loose_at {w : World} {A : Option Addr} {l : List LW} (h : Cells w A (lvs l)) (hl : LwsOk l) {i : Nat} (hi : i < l.length) :
    ∃ b off, A = some ⟨b, off, none⟩ ∧ ∀ j (hj : j < (lv l[i]).length), w.cell? ⟨b, off + i * 514 + j, none⟩ = some (lv l[i])[j] := by
  have hlen := lvs_length hl
  rcases h with e | ⟨b, off, e, h⟩
  · rw [e] at hlen
    simp at hlen
    omega
  · refine ⟨b, off, e, fun j hj => ?_⟩
    have h514 := hl.len _ (List.getElem_mem hi)
    have hle : (i + 1) * 514 ≤ l.length * 514 := Nat.mul_le_mul_right _ hi
    rw [Nat.succ_mul] at hle
    have hlt : i * 514 + j < (lvs l).length := by omega
    have h1 := h (i * 514 + j) hlt
    rw [Nat.add_assoc, h1]
    have h2 : (lvs l)[i * 514 + j]? = (lv l[i])[j]? := flat_get hl.len hi (by omega)
    rw [List.getElem?_eq_getElem hlt, List.getElem?_eq_getElem hj] at h2
    exact h2

/-- A device. -/
structure DV where
  most : Nat
  seen : List UInt8
  safe : List UInt8
  L : List LW
  steps : Nat
  down : Bool
  fail : Option (Nat × Bool)
structure DvOk (D : DV) : Prop where
  most : D.most ≤ 16777216
  seen : D.seen.length ≤ D.most
  safe : D.safe.length ≤ D.most
  L : LwsOk D.L
  top : ∀ x ∈ D.L, x.1 + x.2.1 ≤ D.most

/-- Bytes that stand from a place on in others; noughts between. -/
def laidL (l : List UInt8) (a : Nat) (b : List UInt8) : List UInt8 :=
  if b = [] then l else (l ++ List.replicate (a + b.length - l.length) 0).take a ++ (b ++ (l ++ List.replicate (a + b.length - l.length) 0).drop (a + b.length))
theorem laidL_nil (l : List UInt8) (a : Nat) : laidL l a [] = l := by simp [laidL]
theorem laidL_length {l : List UInt8} {a : Nat} {b : List UInt8} (hb : b ≠ []) : (laidL l a b).length = max l.length (a + b.length) := by
  have : 0 < b.length := List.length_pos_iff.2 hb
  simp only [laidL, if_neg hb, List.length_append, List.length_take, List.length_drop, List.length_replicate]
  omega
theorem laidL_le {l : List UInt8} {a m : Nat} {b : List UInt8} (h1 : l.length ≤ m) (h2 : a + b.length ≤ m) : (laidL l a b).length ≤ m := by
  by_cases hb : b = []
  · subst hb; rw [laidL_nil]; exact h1
  · rw [laidL_length hb]; omega
/-- The sectors that bytes touch. -/
def secN (a n : Nat) : Nat := if n = 0 then 0 else (a + n - 1) / 512 - a / 512 + 1
def secS (a i : Nat) : Nat := (a / 512 + i) * 512
def looseOf (seen : List UInt8) (s : Nat) : LW := (s, min 512 (seen.length - s), (seen.drop s).take 512 ++ List.replicate (512 - min 512 (seen.length - s)) 0)
def loosesI (seen : List UInt8) (a i : Nat) : List LW := (List.range i).map fun j => looseOf seen (secS a j)
theorem loosesI_succ (seen : List UInt8) (a i : Nat) : loosesI seen a (i + 1) = loosesI seen a i ++ [looseOf seen (secS a i)] := by simp [loosesI, List.range_succ]
def writeD (a : Nat) (b : List UInt8) (D : DV) : DV := { D with seen := laidL D.seen a b, L := D.L ++ loosesI (laidL D.seen a b) a (secN a b.length) }
def syncD (D : DV) : DV := { D with safe := D.seen, L := [] }
/-- A step: what it does, whether the power goes. -/
def stepD (act : DV → DV) (D : DV) : DV × Int :=
  match D.fail with
  | none => (act { D with steps := D.steps + 1 }, 0)
  | some (0, dn) => ({ (if dn then act { D with steps := D.steps + 1 } else { D with steps := D.steps + 1 }) with down := true, fail := none }, 20)
  | some (n + 1, dn) => (act { D with steps := D.steps + 1, fail := some (n, dn) }, 0)
/-- Is write i to be kept? -/
def keepB (keep : List UInt8) (i : Nat) : Bool := decide (i / 8 < keep.length) && decide ((keep.getD (i / 8) 0).toNat / 2 ^ (i % 8) % 2 ≠ 0)
def safeI (keep : List UInt8) (D : DV) : Nat → List UInt8
  | 0 => D.safe
  | i + 1 => match D.L[i]? with
    | some x => if keepB keep i then laidL (safeI keep D i) x.1 (x.2.2.take x.2.1) else safeI keep D i
    | none => safeI keep D i
def startD (keep : List UInt8) (D : DV) : DV := { D with seen := safeI keep D D.L.length, safe := safeI keep D D.L.length, L := [], down := false, fail := none }

/-! ### A device's blocks -/
theorem tiLo : TIok cx.P 56 ti56 := tabOk _ _ rfl
theorem tiLo1 : TIok cx.P 65 ti65 := tabOk _ _ rfl
theorem undLo : (∃ e', cx.P.underlying 56 = some (.slice e')) ∨ cx.P.underlying 56 = some .string := .inl ⟨_, TIok.slice tiLo⟩
abbrev OLw (w : World) (base : Nat) (v : Value) (l : List LW) : Prop := OS w base 65 514 v l.length (lvs l)
theorem srcLo {w : World} {A : Option Addr} {c : Nat} {l : List LW} (hl : LwsOk l) (h : Cells w A (lvs l)) : Src cx.P w 514 (.slice A l.length c) l.length (lvs l) := Src.slice h (lvs_length hl) (one_lvs l)
theorem Run.appLo {m0 : Md} {w : World} {base : Nat} {ty : Nat} {v x : Value} {l l2 : List LW} {K : Value → World → Prop}
    (h : OLw w base v l) (hs : Src cx.P w 514 x l2.length (lvs l2)) (hb : l.length + l2.length ≤ 1000000000) (hbase : base ≤ w.heap.size)
    (hm : ∀ w', Ext (blkOf v) w w' → m0.W w w')
    (k : ∀ A c w', (l ++ l2).length ≤ c → OLw w' base (.slice A (l ++ l2).length c) (l ++ l2) → Ext (blkOf v) w w' → (∀ k, inBlk A k → blkOf v k ∨ w.heap.size ≤ k) → K (.slice A (l ++ l2).length c) w') :
    Run cx.P m0 w (Builtin.append_ #[56, 56] ty #[v, x]) K := by
  refine Run.app (ei := ti65) tiLo tiLo1 undLo rfl h (one_lvs l) hs (by show _ * 528 ≤ _; omega) (by omega) hbase hm ?_
  intro A c w' h1 h2 h3 h4
  have e1 : l.length + l2.length = (l ++ l2).length := by simp
  rw [← lvs_append] at h2
  rw [e1] at h1 h2 ⊢
  exact k A c w' h1 h2 h3 h4
/-- The fail's box: nobody writes it. -/
def FailAt (w : World) (R : Nat → Prop) (pf : Option Addr) : Option (Nat × Bool) → Prop
  | none => pf = none
  | some (n, dn) => ∃ fb, pf = some ⟨fb, 0, none⟩ ∧ At w fb [.int .i64 (n : Int), .bool dn] 68 (0, 0) ∧ R fb
def dcells (D : DV) (As Af AL pf : Option Addr) (cs cf cL : Nat) : List Value := [.int .i64 (D.most : Int), .slice As D.seen.length cs, .slice Af D.safe.length cf, .slice AL D.L.length cL, .int .i64 (D.steps : Int), .bool D.down, .pointer pf]
/-- `O`: the blocks that it writes; `R`: those that it reads alone. -/
structure DevC (w : World) (O R : Nat → Prop) (db : Nat) (D : DV) (As Af AL pf : Option Addr) (cs cf cL : Nat) : Prop where
  at_ : At w db (dcells D As Af AL pf cs cf cL) 59 (0, 0)
  os : OB w 0 (.slice As D.seen.length cs) D.seen
  of_ : OB w 0 (.slice Af D.safe.length cf) D.safe
  oL : OLw w 0 (.slice AL D.L.length cL) D.L
  odb : O db
  ks : ∀ k, inBlk As k → O k ∧ k ≠ db ∧ ¬ inBlk Af k ∧ ¬ inBlk AL k
  kf : ∀ k, inBlk Af k → O k ∧ k ≠ db ∧ ¬ inBlk AL k
  kL : ∀ k, inBlk AL k → O k ∧ k ≠ db
  fl : FailAt w R pf D.fail
  lo : ∀ k, O k → k < w.heap.size
  lr : ∀ k, R k → k < w.heap.size
  ro : ∀ k, R k → ¬ O k
def DevAt (w : World) (O R : Nat → Prop) (db : Nat) (D : DV) : Prop := DvOk D ∧ ∃ As Af AL pf cs cf cL, DevC w O R db D As Af AL pf cs cf cL
theorem FailAt.ext {w w' : World} {R S : Nat → Prop} {pf : Option Addr} {f : Option (Nat × Bool)} (h : FailAt w R pf f) (he : Ext S w w') (hS : ∀ k, R k → ¬ S k) : FailAt w' R pf f := by
  cases f with
  | none => exact h
  | some x =>
    obtain ⟨n, dn⟩ := x
    obtain ⟨fb, e, hat, h1⟩ := h
    exact ⟨fb, e, hat.ext he (hS fb h1), h1⟩
theorem DevC.ext {w w' : World} {O R S : Nat → Prop} {db : Nat} {D : DV} {As Af AL pf : Option Addr} {cs cf cL : Nat} (h : DevC w O R db D As Af AL pf cs cf cL) (he : Ext S w w') (hS : ∀ k, O k → ¬ S k) (hR : ∀ k, R k → ¬ S k) : DevC w' O R db D As Af AL pf cs cf cL :=
  ⟨h.at_.ext he (hS _ h.odb), h.os.ext he (fun k hk => hS k (h.ks k (blkOf_inBlk hk)).1), h.of_.ext he (fun k hk => hS k (h.kf k (blkOf_inBlk hk)).1), h.oL.ext he (fun k hk => hS k (h.kL k (blkOf_inBlk hk)).1), h.odb, h.ks, h.kf, h.kL, h.fl.ext he hR,
    fun k hk => Nat.lt_of_lt_of_le (h.lo k hk) he.size, fun k hk => Nat.lt_of_lt_of_le (h.lr k hk) he.size, h.ro⟩
theorem DevAt.ext {w w' : World} {O R S : Nat → Prop} {db : Nat} {D : DV} (h : DevAt w O R db D) (he : Ext S w w') (hS : ∀ k, O k → ¬ S k) (hR : ∀ k, R k → ¬ S k) : DevAt w' O R db D := by
  obtain ⟨hk, As, Af, AL, pf, cs, cf, cL, h⟩ := h
  exact ⟨hk, As, Af, AL, pf, cs, cf, cL, h.ext he hS hR⟩
theorem DevAt.non {w w' : World} {O R : Nat → Prop} {db : Nat} {D : DV} (h : DevAt w O R db D) (he : Ext Non w w') : DevAt w' O R db D := h.ext he (fun _ _ x => x) (fun _ _ x => x)
theorem DevAt.lt {w : World} {O R : Nat → Prop} {db : Nat} {D : DV} (h : DevAt w O R db D) : db < w.heap.size := by
  obtain ⟨hk, As, Af, AL, pf, cs, cf, cL, h⟩ := h
  exact h.at_.lt
theorem DevAt.db {w : World} {O R : Nat → Prop} {db : Nat} {D : DV} (h : DevAt w O R db D) : O db := by
  obtain ⟨hk, As, Af, AL, pf, cs, cf, cL, h⟩ := h
  exact h.odb
theorem DevAt.lo {w : World} {O R : Nat → Prop} {db : Nat} {D : DV} (h : DevAt w O R db D) : ∀ k, O k → k < w.heap.size := by
  obtain ⟨hk, As, Af, AL, pf, cs, cf, cL, h⟩ := h
  exact h.lo
theorem DevAt.lr {w : World} {O R : Nat → Prop} {db : Nat} {D : DV} (h : DevAt w O R db D) : ∀ k, R k → k < w.heap.size := by
  obtain ⟨hk, As, Af, AL, pf, cs, cf, cL, h⟩ := h
  exact h.lr
theorem DevAt.ok {w : World} {O R : Nat → Prop} {db : Nat} {D : DV} (h : DevAt w O R db D) : DvOk D := h.1
/-- What a call on a device leaves: the device as told, its blocks among those that it had and new ones. -/
def Left (O R : Nat → Prop) (w : World) (db : Nat) (D : DV) (w' : World) : Prop := ∃ O' R', DevAt w' O' R' db D ∧ (∀ k, O' k → O k ∨ w.heap.size ≤ k) ∧ (∀ k, R' k → R k ∨ w.heap.size ≤ k) ∧ Ext O w w'
end Go.Proofs.Ytfphlbogblldbaa

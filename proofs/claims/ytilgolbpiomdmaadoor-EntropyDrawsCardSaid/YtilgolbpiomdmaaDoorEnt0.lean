import Derived.Test.YtilgolbpiomdmaaDoorShaO
import Derived.Test.YtilgolbpiomdmaaDoorShaP
import Derived.Test.YtilgolbpiomdmaaDoorFlw
import Derived.Test.YtilgolbpiomdmaaDoorSxA

/-
  Bytes that stand in for chance: plain facts.
-/




namespace Go.Proofs.YtilgolbpiomdmaaDoor

open Go Sx

set_option linter.unusedVariables false

set_option linter.unusedSimpArgs false

set_option maxRecDepth 100000

theorem ov_all {cs vs : List Value} (h : vs.length = cs.length) : ov cs 0 vs = vs := by simp [ov, h]
/-- Block k of the stream. -/
def blkE (seed : List UInt8) (k : Nat) : List UInt8 := sha (seed ++ [100, 114, 97, 119] ++ be 8 k)
theorem blkE_length (seed : List UInt8) (k : Nat) : (blkE seed k).length = 32 := sha_length _
def strmE (seed : List UInt8) (n : Nat) : UInt8 := (blkE seed (n / 32)).getD (n % 32) 0
def drawnE (seed : List UInt8) (t n : Nat) : List UInt8 := (List.range n).map fun j => strmE seed (t + j)
theorem drawnE_length (seed : List UInt8) (t n : Nat) : (drawnE seed t n).length = n := by simp [drawnE]
theorem drawnE_succ (seed : List UInt8) (t n : Nat) : drawnE seed t (n + 1) = drawnE seed t n ++ [strmE seed (t + n)] := by
  simp [drawnE, List.range_succ]
theorem drawnE_add (seed : List UInt8) (t a : Nat) : ∀ b, drawnE seed t (a + b) = drawnE seed t a ++ drawnE seed (t + a) b
  | 0 => by simp [drawnE]
  | b + 1 => by rw [show a + (b + 1) = (a + b) + 1 from rfl, drawnE_succ, drawnE_add seed t a b, drawnE_succ, List.append_assoc, show t + a + b = t + (a + b) from by omega]
theorem drawnE_take (seed : List UInt8) {t m k s : Nat} (h : t + m = k * 32 + s) : ∀ q, s + q ≤ 32 → drawnE seed t m ++ ((blkE seed k).drop s).take q = drawnE seed t (m + q)
  | 0, _ => by simp
  | q + 1, hq => by
    have hl := blkE_length seed k
    rw [show m + (q + 1) = (m + q) + 1 from rfl, drawnE_succ, ← drawnE_take seed h q (by omega), List.append_assoc]
    congr 1
    rw [List.take_succ_eq_append_getElem (by rw [List.length_drop, hl]; omega)]
    congr 1
    have e1 : (t + (m + q)) / 32 = k := by omega
    have e2 : (t + (m + q)) % 32 = s + q := by omega
    unfold strmE
    rw [e1, e2, List.getElem_drop, List.getD_eq_getElem?_getD, List.getElem?_eq_getElem (by rw [hl]; omega)]
    rfl
/-- Where the first block of a draw is begun. -/
def skE (t : Nat) : Nat → Nat
  | 0 => t % 32
  | _ + 1 => 0
/-- What round i of a draw hands out. -/
def partE (seed : List UInt8) (t i : Nat) : List UInt8 := (blkE seed (t / 32 + i)).drop (skE t i)
theorem skE_lt (t i : Nat) : skE t i < 32 := by
  cases i with
  | zero => exact Nat.mod_lt _ (by decide)
  | succ i => show 0 < 32; decide
theorem partE_length (seed : List UInt8) (t i : Nat) : (partE seed t i).length = 32 - skE t i := by rw [partE, List.length_drop, blkE_length]
/-- What rounds ahead of round i hand out, together. -/
def upE (t : Nat) : Nat → Nat
  | 0 => 0
  | i + 1 => (i + 1) * 32 - t % 32
theorem upE_succ (t i : Nat) : upE t (i + 1) = upE t i + (32 - skE t i) := by
  have := Nat.mod_lt t (show 0 < 32 by decide)
  cases i with
  | zero => show (0 + 1) * 32 - t % 32 = 0 + (32 - t % 32); omega
  | succ i => show (i + 1 + 1) * 32 - t % 32 = ((i + 1) * 32 - t % 32) + (32 - 0); omega
theorem upE_at (t i : Nat) : t + upE t i = (t / 32 + i) * 32 + skE t i := by
  have := Nat.mod_lt t (show 0 < 32 by decide)
  cases i with
  | zero => show t + 0 = (t / 32 + 0) * 32 + t % 32; omega
  | succ i => show t + ((i + 1) * 32 - t % 32) = (t / 32 + (i + 1)) * 32 + 0; omega
theorem upE_le (t i : Nat) : i ≤ upE t i + 1 := by
  cases i with
  | zero => omega
  | succ i => show i + 1 ≤ ((i + 1) * 32 - t % 32) + 1; have := Nat.mod_lt t (show 0 < 32 by decide); omega
theorem drawnE_part (seed : List UInt8) (t i q : Nat) (hq : q ≤ 32 - skE t i) : drawnE seed t (upE t i) ++ (partE seed t i).take q = drawnE seed t (upE t i + q) :=
  drawnE_take seed (upE_at t i) q (by have := skE_lt t i; omega)
theorem tmod32 (t : Nat) : ((t : Nat) : Int).tmod 32 = ((t % 32 : Nat) : Int) := by
  rw [Int.tmod_eq_emod_of_nonneg (by omega)]
  omega
theorem tdiv32 (t : Nat) : ((t : Nat) : Int).tdiv 32 = ((t / 32 : Nat) : Int) := by
  rw [Int.tdiv_eq_ediv_of_nonneg (by omega)]
  omega
/-- A block that the region has made and that nobody else writes. -/
def Fl.box {B : Nat} {S U : Fp} (cs : List Value) (t : Nat) : Fl B S U := ⟨fun v f w => ∃ b fr, v = .pointer (some ⟨b, 0, none⟩) ∧ At w b cs t fr ∧ (fr = (0, 0) ∨ cs.length ≤ fr.1) ∧ f b, by
  rintro S' v f w w' ⟨b, fr, rfl, hat, hf, hfb⟩ _ h2 he
  rcases he.own b _ (h2 b hfb) hat with h1 | ⟨c, t', f1, f2, e1, h1, h3⟩
  · exact ⟨b, fr, rfl, h1, hf, hfb⟩
  · injection e1 with e1 e2 e3
    subst e1 e2
    exact ⟨b, f2, rfl, h1, .inr (by simpa using h3), hfb⟩⟩
theorem Fl.boxNew {B : Nat} {S U cns : Fp} {w w' : World} {b t : Nat} {cs : List Value} (h : New w w' b cs t (0, 0)) :
    ∃ f, (Fl.box cs t : Fl B S U).p (.pointer (some ⟨b, 0, none⟩)) f w' ∧ ∀ b, f b → (w.heap.size ≤ b ∧ b < w'.heap.size) ∨ cns b :=
  ⟨fun k => k = b, ⟨b, _, rfl, h.at_, .inl rfl, rfl⟩, fun k hk => by subst hk; exact .inl ⟨h.ge, h.at_.lt⟩⟩
end Go.Proofs.YtilgolbpiomdmaaDoor

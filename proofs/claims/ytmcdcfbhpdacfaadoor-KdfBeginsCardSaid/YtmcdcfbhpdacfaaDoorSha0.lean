import Derived.Test.YtmcdcfbhpdacfaaDoorOct0

/-
  SHA-256 in plain Lean: words, a block's schedule, its turns, the sum.
-/

namespace Go.Proofs.YtmcdcfbhpdacfaaDoor

open Go Sx

set_option linter.unusedVariables false

set_option linter.unusedSimpArgs false

/-! ### Words -/
abbrev wv (x : UInt32) : Value := .int .u32 (x.toNat : Int)
def wvs (l : List UInt32) : List Value := l.map wv
theorem wvs_length (l : List UInt32) : (wvs l).length = l.length := by simp [wvs]
theorem wvs_append (l m : List UInt32) : wvs (l ++ m) = wvs l ++ wvs m := by simp [wvs]
theorem wvs_get {l : List UInt32} {i : Nat} (h : i < l.length) : (wvs l)[i]? = some (wv l[i]) := by simp [wvs, h]
theorem one_wvs (l : List UInt32) : ∀ v ∈ wvs l, v.oneCell' = true := by
  intro v hv
  simp only [wvs, List.mem_map] at hv
  obtain ⟨b, _, rfl⟩ := hv
  rfl
theorem w32_in (n : Nat) (h : n < 4294967296) : IntKind.u32.wrap (n : Int) = (n : Int) := IntWalk.u32_in _ (by omega)
theorem bv32 (x : UInt32) : BitVec.ofInt IntKind.u32.bits (x.toNat : Int) = x.toBitVec := by
  show BitVec.ofInt 32 (x.toNat : Int) = x.toBitVec
  rw [BitVec.ofInt_natCast]
  exact BitVec.ofNat_toNat 32 x.toBitVec |>.trans (by simp)
theorem u32_lt (x : UInt32) : x.toNat < 4294967296 := x.toNat_lt
theorem u32_xor (x y : UInt32) : bitw .xor .u32 (x.toNat : Int) (y.toNat : Int) = ((x ^^^ y).toNat : Int) := by
  show IntKind.u32.wrap ((BitVec.ofInt IntKind.u32.bits (x.toNat : Int) ^^^ BitVec.ofInt IntKind.u32.bits (y.toNat : Int)).toNat : Int) = _
  rw [bv32, bv32]
  exact w32_in _ (x ^^^ y).toNat_lt
theorem u32_and (x y : UInt32) : bitw .and .u32 (x.toNat : Int) (y.toNat : Int) = ((x &&& y).toNat : Int) := by
  show IntKind.u32.wrap ((BitVec.ofInt IntKind.u32.bits (x.toNat : Int) &&& BitVec.ofInt IntKind.u32.bits (y.toNat : Int)).toNat : Int) = _
  rw [bv32, bv32]
  exact w32_in _ (x &&& y).toNat_lt
theorem u32_or (x y : UInt32) : bitw .or .u32 (x.toNat : Int) (y.toNat : Int) = ((x ||| y).toNat : Int) := by
  show IntKind.u32.wrap ((BitVec.ofInt IntKind.u32.bits (x.toNat : Int) ||| BitVec.ofInt IntKind.u32.bits (y.toNat : Int)).toNat : Int) = _
  rw [bv32, bv32]
  exact w32_in _ (x ||| y).toNat_lt
theorem u32_not (x : UInt32) : bitw .xor .u32 (if IntKind.u32.signed then -1 else IntKind.u32.max) (x.toNat : Int) = ((~~~x).toNat : Int) := by
  show IntKind.u32.wrap ((BitVec.ofInt IntKind.u32.bits (4294967295 : Int) ^^^ BitVec.ofInt IntKind.u32.bits (x.toNat : Int)).toNat : Int) = _
  rw [bv32]
  have e : BitVec.ofInt IntKind.u32.bits (4294967295 : Int) = BitVec.allOnes 32 := by
    show BitVec.ofInt 32 (4294967295 : Int) = BitVec.allOnes 32
    decide
  rw [e]
  have e2 : (BitVec.allOnes 32 ^^^ x.toBitVec) = ~~~ x.toBitVec := BitVec.allOnes_xor
  have e3 := congrArg BitVec.toNat e2
  show IntKind.u32.wrap (((BitVec.allOnes 32 ^^^ x.toBitVec).toNat : Nat) : Int) = _
  rw [e3]
  exact w32_in _ (~~~x).toNat_lt
theorem u32_add (x y : UInt32) : IntKind.u32.wrap ((x.toNat : Int) + (y.toNat : Int)) = ((x + y).toNat : Int) := by
  rw [IntKind.wrap_u32, UInt32.toNat_add]
  omega
theorem min_u32 (c : Nat) (h : c < 32) : min ((c : Nat) : Int).toNat IntKind.u32.bits = c := by
  have : IntKind.u32.bits = 32 := rfl
  omega
theorem ofNat_lt32 {c : Nat} (h : c < 32) : (UInt32.ofNat c).toNat = c := by
  rw [UInt32.toNat_ofNat']
  omega
theorem u32_shr (x : UInt32) (c : Nat) (h : c < 32) : (x.toNat : Int).fdiv (2 ^ min ((c : Nat) : Int).toNat IntKind.u32.bits) = ((x >>> UInt32.ofNat c).toNat : Int) := by
  rw [min_u32 c h, Int.fdiv_eq_ediv_of_nonneg _ (by exact Int.pow_nonneg (by decide)), UInt32.toNat_shiftRight, ofNat_lt32 h, Nat.mod_eq_of_lt h, Nat.shiftRight_eq_div_pow]
  norm_cast
theorem u32_shl (x : UInt32) (c : Nat) (h : c < 32) : IntKind.u32.wrap ((x.toNat : Int) * 2 ^ min ((c : Nat) : Int).toNat IntKind.u32.bits) = ((x <<< UInt32.ofNat c).toNat : Int) := by
  rw [min_u32 c h, IntKind.wrap_u32, UInt32.toNat_shiftLeft, ofNat_lt32 h, Nat.mod_eq_of_lt h, Nat.shiftLeft_eq]
  rw [show (x.toNat : Int) * 2 ^ c = ((x.toNat * 2 ^ c : Nat) : Int) from by rw [Int.natCast_mul, Int.natCast_pow]; rfl]
  exact (Int.natCast_emod _ _).symm

theorem u8_u32 (x : UInt8) : IntKind.u32.wrap (x.toNat : Int) = (x.toUInt32.toNat : Int) := by
  have := x.toNat_lt
  rw [IntKind.wrap_u32, UInt8.toNat_toUInt32]
  omega

/-! ### The functions of words -/
def rotr (x : UInt32) (n : Nat) : UInt32 := (x >>> UInt32.ofNat n) ||| (x <<< UInt32.ofNat (32 - n))
theorem u32_or_comm (x y : UInt32) : x ||| y = y ||| x := by
  apply UInt32.toBitVec_inj.1
  simp only [UInt32.toBitVec_or]
  ext i h
  simp [Bool.or_comm]
theorem ch_eq (e f g : UInt32) : (e &&& f) ^^^ (~~~e &&& g) = (e &&& f) ||| (~~~e &&& g) := by
  apply UInt32.toBitVec_inj.1
  simp only [UInt32.toBitVec_or, UInt32.toBitVec_xor, UInt32.toBitVec_and, UInt32.toBitVec_not]
  ext i h
  simp only [BitVec.getElem_or, BitVec.getElem_xor, BitVec.getElem_and, BitVec.getElem_not]
  cases e.toBitVec[i] <;> cases f.toBitVec[i] <;> cases g.toBitVec[i] <;> rfl
theorem maj_eq (a b c : UInt32) : (a &&& b) ^^^ (a &&& c) ^^^ (b &&& c) = (a &&& b) ||| (c &&& (a ||| b)) := by
  apply UInt32.toBitVec_inj.1
  simp only [UInt32.toBitVec_or, UInt32.toBitVec_xor, UInt32.toBitVec_and]
  ext i h
  simp only [BitVec.getElem_or, BitVec.getElem_xor, BitVec.getElem_and]
  cases a.toBitVec[i] <;> cases b.toBitVec[i] <;> cases c.toBitVec[i] <;> rfl

/-- The constants. -/
def kk : List UInt32 := [
  0x428a2f98, 0x71374491, 0xb5c0fbcf, 0xe9b5dba5, 0x3956c25b, 0x59f111f1, 0x923f82a4, 0xab1c5ed5,
  0xd807aa98, 0x12835b01, 0x243185be, 0x550c7dc3, 0x72be5d74, 0x80deb1fe, 0x9bdc06a7, 0xc19bf174,
  0xe49b69c1, 0xefbe4786, 0x0fc19dc6, 0x240ca1cc, 0x2de92c6f, 0x4a7484aa, 0x5cb0a9dc, 0x76f988da,
  0x983e5152, 0xa831c66d, 0xb00327c8, 0xbf597fc7, 0xc6e00bf3, 0xd5a79147, 0x06ca6351, 0x14292967,
  0x27b70a85, 0x2e1b2138, 0x4d2c6dfc, 0x53380d13, 0x650a7354, 0x766a0abb, 0x81c2c92e, 0x92722c85,
  0xa2bfe8a1, 0xa81a664b, 0xc24b8b70, 0xc76c51a3, 0xd192e819, 0xd6990624, 0xf40e3585, 0x106aa070,
  0x19a4c116, 0x1e376c08, 0x2748774c, 0x34b0bcb5, 0x391c0cb3, 0x4ed8aa4a, 0x5b9cca4f, 0x682e6ff3,
  0x748f82ee, 0x78a5636f, 0x84c87814, 0x8cc70208, 0x90befffa, 0xa4506ceb, 0xbef9a3f7, 0xc67178f2]
theorem kk_length : kk.length = 64 := rfl
/-- The state: eight words. -/
structure S8 where
  (a b c d e f g h : UInt32)
def S8.l (s : S8) : List UInt32 := [s.a, s.b, s.c, s.d, s.e, s.f, s.g, s.h]
def S8.add (s t : S8) : S8 := ⟨s.a + t.a, s.b + t.b, s.c + t.c, s.d + t.d, s.e + t.e, s.f + t.f, s.g + t.g, s.h + t.h⟩
def s8 : S8 := ⟨0x6a09e667, 0xbb67ae85, 0x3c6ef372, 0xa54ff53a, 0x510e527f, 0x9b05688c, 0x1f83d9ab, 0x5be0cd19⟩
def turnS (x : UInt32) (a b c : Nat) : UInt32 := rotr x a ^^^ rotr x b ^^^ rotr x c
def mixS (x : UInt32) (a b c : Nat) : UInt32 := rotr x a ^^^ rotr x b ^^^ (x >>> UInt32.ofNat c)
def oneS (s : S8) (k w : UInt32) : UInt32 := s.h + turnS s.e 6 11 25 + ((s.e &&& s.f) ||| (~~~s.e &&& s.g)) + k + w
def twoS (s : S8) : UInt32 := turnS s.a 2 13 22 + ((s.a &&& s.b) ||| (s.c &&& (s.a ||| s.b)))
def rnd (s : S8) (k w : UInt32) : S8 := ⟨oneS s k w + twoS s, s.a, s.b, s.c, s.d + oneS s k w, s.e, s.f, s.g⟩
def wd (b : List UInt8) (i : Nat) : UInt32 := UInt32.ofNat (bval ((b.drop (4 * i)).take 4))
def nextW (l : List UInt32) (n : Nat) : UInt32 := mixS (l.getD (n + 14) 0) 17 19 10 + l.getD (n + 9) 0 + mixS (l.getD (n + 1) 0) 7 18 3 + l.getD n 0
def sch (m : List UInt32) : Nat → List UInt32
  | 0 => m
  | n + 1 => sch m n ++ [nextW (sch m n) n]
def words (b : List UInt8) : List UInt32 := (List.range 16).map (wd b)
def sched (b : List UInt8) : List UInt32 := sch (words b) 48
def rnds (w : List UInt32) (s : S8) : Nat → S8
  | 0 => s
  | t + 1 => rnd (rnds w s t) (kk.getD t 0) (w.getD t 0)
def comp (s : S8) (b : List UInt8) : S8 := s.add (rnds (sched b) s 64)

theorem sch_length (m : List UInt32) (n : Nat) : (sch m n).length = m.length + n := by
  induction n with
  | zero => rfl
  | succ n ih => simp [sch, ih]; omega
theorem sch_pre (m : List UInt32) (n k : Nat) : ∃ r, sch m (n + k) = sch m n ++ r := by
  induction k with
  | zero => exact ⟨[], by simp⟩
  | succ k ih =>
    obtain ⟨r, hr⟩ := ih
    exact ⟨r ++ [nextW (sch m (n + k)) (n + k)], by rw [← Nat.add_assoc, sch, hr, List.append_assoc]⟩
theorem getD_pre {l m : List UInt32} {i : Nat} (h : i < l.length) : (l ++ m).getD i 0 = l.getD i 0 := by
  simp [List.getD_eq_getElem?_getD, List.getElem?_append_left h]
theorem words_length (b : List UInt8) : (words b).length = 16 := by simp [words]
theorem sched_length (b : List UInt8) : (sched b).length = 64 := by simp [sched, sch_length, words_length]
theorem sched_lt (b : List UInt8) {t : Nat} (h : t < 16) : (sched b).getD t 0 = wd b t := by
  obtain ⟨r, hr⟩ := sch_pre (words b) 0 48
  rw [Nat.zero_add] at hr
  rw [sched, hr, getD_pre (by rw [sch_length, words_length]; omega)]
  simp [sch, words, List.getD_eq_getElem?_getD, h]
theorem sched_ge (b : List UInt8) {t : Nat} (h : 16 ≤ t) (h2 : t < 64) :
    (sched b).getD t 0 = mixS ((sched b).getD (t - 2) 0) 17 19 10 + (sched b).getD (t - 7) 0 + mixS ((sched b).getD (t - 15) 0) 7 18 3 + (sched b).getD (t - 16) 0 := by
  obtain ⟨n, rfl⟩ : ∃ n, t = n + 16 := ⟨t - 16, by omega⟩
  have hl : (sch (words b) n).length = n + 16 := by rw [sch_length, words_length]; omega
  obtain ⟨r, hr⟩ := sch_pre (words b) n (48 - n)
  rw [show n + (48 - n) = 48 from by omega] at hr
  obtain ⟨r2, hr2⟩ := sch_pre (words b) (n + 1) (47 - n)
  rw [show n + 1 + (47 - n) = 48 from by omega] at hr2
  have e1 : ∀ i, i < n + 16 → (sched b).getD i 0 = (sch (words b) n).getD i 0 := fun i hi => by rw [sched, hr, getD_pre (by omega)]
  have e2 : (sched b).getD (n + 16) 0 = nextW (sch (words b) n) n := by
    rw [sched, hr2, getD_pre (by rw [sch_length, words_length]; omega), sch, List.getD_eq_getElem?_getD, List.getElem?_append_right (by omega), hl]
    simp
  rw [e2, nextW, show n + 16 - 2 = n + 14 from by omega, show n + 16 - 7 = n + 9 from by omega, show n + 16 - 15 = n + 1 from by omega, show n + 16 - 16 = n from by omega, e1 (n + 14) (by omega), e1 (n + 9) (by omega), e1 (n + 1) (by omega), e1 n (by omega)]

theorem sched_spec (b : List UInt8) : ∃ W : List UInt32, W.length = 64 ∧ (∀ t, t < 16 → W.getD t 0 = wd b t) ∧
    (∀ t, 16 ≤ t → t < 64 → W.getD t 0 = mixS (W.getD (t - 2) 0) 17 19 10 + W.getD (t - 7) 0 + mixS (W.getD (t - 15) 0) 7 18 3 + W.getD (t - 16) 0) ∧ ∀ s, comp s b = s.add (rnds W s 64) :=
  ⟨sched b, sched_length b, fun _ h => sched_lt b h, fun _ h h2 => sched_ge b h h2, fun _ => rfl⟩

/-! ### All blocks -/
def absorb : Nat → S8 → List UInt8 → S8
  | 0, s, _ => s
  | n + 1, s, l => absorb n (comp s (l.take 64)) (l.drop 64)
theorem absorb_add (m n : Nat) (s : S8) (l : List UInt8) : absorb (m + n) s l = absorb n (absorb m s l) (l.drop (64 * m)) := by
  induction m generalizing s l with
  | zero => simp [absorb]
  | succ m ih =>
    rw [show m + 1 + n = (m + n) + 1 from by omega, absorb, absorb, ih, List.drop_drop]
    congr 2
    omega
theorem absorb_pre (n : Nat) (s : S8) (l r : List UInt8) (h : 64 * n ≤ l.length) : absorb n s (l ++ r) = absorb n s l := by
  induction n generalizing s l with
  | zero => rfl
  | succ n ih =>
    rw [absorb, absorb, List.take_append_of_le_length (by omega), List.drop_append_of_le_length (by omega), ih _ _ (by rw [List.length_drop]; omega)]
theorem absorb_one (n : Nat) (s : S8) (l : List UInt8) : absorb (n + 1) s l = comp (absorb n s l) ((l.drop (64 * n)).take 64) := by
  rw [absorb_add]
  rfl
def noughtsN (n : Nat) : Nat := (119 - n % 64) % 64
def endS (l : List UInt8) (n : Nat) : List UInt8 := l ++ [0x80] ++ List.replicate (noughtsN l.length) 0 ++ be 8 (8 * n)
def digest (s : S8) : List UInt8 := s.l.flatMap fun x => be 4 x.toNat
def sha (l : List UInt8) : List UInt8 := digest (absorb ((endS l l.length).length / 64) s8 (endS l l.length))
theorem digest_length (s : S8) : (digest s).length = 32 := by simp [digest, S8.l, be_length]
theorem sha_length (l : List UInt8) : (sha l).length = 32 := digest_length _
theorem endS_length (l : List UInt8) (n : Nat) : (endS l n).length % 64 = 0 := by
  simp only [endS, List.length_append, List.length_replicate, List.length_singleton, be_length, noughtsN]
  omega
/-- What was taken: the state behind all whole blocks, and what is left. -/
def stateOf (l : List UInt8) : S8 := absorb (l.length / 64) s8 l
def restOf (l : List UInt8) : List UInt8 := l.drop (64 * (l.length / 64))
theorem restOf_length (l : List UInt8) : (restOf l).length = l.length % 64 := by
  rw [restOf, List.length_drop]
  omega
theorem sha_eq (l : List UInt8) : sha l = digest (absorb ((endS (restOf l) l.length).length / 64) (stateOf l) (endS (restOf l) l.length)) := by
  have e1 : endS l l.length = l.take (64 * (l.length / 64)) ++ endS (restOf l) l.length := by
    have hn : noughtsN (restOf l).length = noughtsN l.length := by rw [restOf_length, noughtsN, noughtsN, Nat.mod_mod]
    simp only [endS, hn, ← List.append_assoc]
    rw [restOf, List.take_append_drop]
  have hl : (l.take (64 * (l.length / 64))).length = 64 * (l.length / 64) := by rw [List.length_take]; omega
  have e2 : (endS l l.length).length / 64 = l.length / 64 + (endS (restOf l) l.length).length / 64 := by
    rw [e1, List.length_append, hl]
    omega
  rw [sha, e2, absorb_add, e1, absorb_pre _ _ _ _ (by rw [hl]; exact Nat.le_refl _), List.drop_left' hl]
  congr 2
  rw [stateOf]
  have := absorb_pre (l.length / 64) s8 (l.take (64 * (l.length / 64))) (l.drop (64 * (l.length / 64))) (by rw [hl]; exact Nat.le_refl _)
  rw [List.take_append_drop] at this
  exact this.symm
/-- Blocks that are taken off the front. -/
theorem absorb_step (s : S8) (l : List UInt8) (n : Nat) (h : 64 ≤ l.length) : absorb (l.length / 64) s l = absorb ((l.drop 64).length / 64) (comp s (l.take 64)) (l.drop 64) := by
  obtain ⟨k, hk⟩ : ∃ k, l.length / 64 = k + 1 := ⟨l.length / 64 - 1, by omega⟩
  have : (l.drop 64).length / 64 = k := by rw [List.length_drop]; omega
  rw [hk, this]
  rfl
theorem state_append (l b : List UInt8) : stateOf (l ++ b) = absorb ((restOf l ++ b).length / 64) (stateOf l) (restOf l ++ b) ∧ restOf (l ++ b) = (restOf l ++ b).drop (64 * ((restOf l ++ b).length / 64)) := by
  have hle : 64 * (l.length / 64) ≤ l.length := by omega
  have hr := restOf_length l
  have e : (l ++ b).length / 64 = l.length / 64 + (restOf l ++ b).length / 64 := by
    simp only [List.length_append, hr]
    omega
  have hd : (l ++ b).drop (64 * (l.length / 64)) = restOf l ++ b := by rw [List.drop_append_of_le_length hle]; rfl
  constructor
  · rw [stateOf, e, absorb_add, hd, absorb_pre _ _ _ _ hle]
    rfl
  · rw [restOf, e, Nat.mul_add, ← List.drop_drop, hd]

/-! ### Known sums: the same, each word made a number at once -/
def fo {α : Type} (x : UInt32) (k : UInt32 → α) : α := Nat.rec (motive := fun _ => α) (k (UInt32.ofNat 0)) (fun m _ => k (UInt32.ofNat (m + 1))) x.toNat
theorem fo_eq {α : Type} (x : UInt32) (k : UInt32 → α) : fo x k = k x := by
  have key : ∀ n : Nat, (Nat.rec (motive := fun _ => α) (k (UInt32.ofNat 0)) (fun m _ => k (UInt32.ofNat (m + 1))) n : α) = k (UInt32.ofNat n) := by
    intro n
    cases n <;> rfl
  rw [fo, key, UInt32.ofNat_toNat]
def schF {α : Type} : Nat → List UInt32 → (List UInt32 → α) → α
  | 0, w, k => k w
  | n + 1, w, k => fo (mixS (w.getD 1 0) 17 19 10 + w.getD 6 0 + mixS (w.getD 14 0) 7 18 3 + w.getD 15 0) fun x => schF n (x :: w) k
def rndF {α : Type} (s : S8) (k w : UInt32) (f : S8 → α) : α := fo (oneS s k w) fun o => fo (o + twoS s) fun a => fo (s.d + o) fun e => f ⟨a, s.a, s.b, s.c, e, s.e, s.f, s.g⟩
def rndsF {α : Type} : List UInt32 → List UInt32 → S8 → (S8 → α) → α
  | k :: ks, w :: ws, s, f => rndF s k w fun t => rndsF ks ws t f
  | _, _, s, f => f s
def wordsF {α : Type} : List Nat → List UInt32 → (List UInt32 → α) → List UInt8 → α
  | [], w, k, _ => k w
  | i :: r, w, k, b => fo (wd b i) fun x => wordsF r (x :: w) k b
def compF {α : Type} (s : S8) (b : List UInt8) (f : S8 → α) : α := wordsF (List.range 16) [] (fun w => schF 48 w fun w => rndsF kk w.reverse s fun t => fo (s.a + t.a) fun a => fo (s.b + t.b) fun b => fo (s.c + t.c) fun c => fo (s.d + t.d) fun d => fo (s.e + t.e) fun e => fo (s.f + t.f) fun f' => fo (s.g + t.g) fun g => fo (s.h + t.h) fun h => f ⟨a, b, c, d, e, f', g, h⟩) b
def absorbF {α : Type} : Nat → S8 → List UInt8 → (S8 → α) → α
  | 0, s, _, f => f s
  | n + 1, s, l, f => compF s (l.take 64) fun t => absorbF n t (l.drop 64) f
def shaF (l : List UInt8) : List UInt8 := absorbF ((endS l l.length).length / 64) s8 (endS l l.length) digest
theorem wordsF_eq {α : Type} (is : List Nat) (w : List UInt32) (k : List UInt32 → α) (b : List UInt8) : wordsF is w k b = k ((is.map (wd b)).reverse ++ w) := by
  induction is generalizing w with
  | nil => rfl
  | cons i r ih => rw [wordsF, fo_eq, ih]; simp
theorem schF_eq {α : Type} (b : List UInt8) (k : List UInt32 → α) : ∀ (m n : Nat), n + m = 48 → schF m (sch (words b) n).reverse k = k (sched b).reverse
  | 0, n, h => by
    obtain rfl : n = 48 := by omega
    rfl
  | m + 1, n, h => by
    have hl : (sch (words b) n).length = n + 16 := by rw [sch_length, words_length]; omega
    have hg : ∀ i, i < 16 → (sch (words b) n).reverse.getD i 0 = (sch (words b) n).getD (n + 15 - i) 0 := fun i hi => by
      rw [List.getD_eq_getElem?_getD, List.getElem?_reverse (by omega), hl, List.getD_eq_getElem?_getD]
      congr 2
    rw [schF, fo_eq, hg 1 (by omega), hg 6 (by omega), hg 14 (by omega), hg 15 (by omega)]
    have e : (nextW (sch (words b) n) n) :: (sch (words b) n).reverse = (sch (words b) (n + 1)).reverse := by simp [sch]
    rw [show n + 15 - 1 = n + 14 from by omega, show n + 15 - 6 = n + 9 from by omega, show n + 15 - 14 = n + 1 from by omega, show n + 15 - 15 = n from by omega]
    rw [show mixS ((sch (words b) n).getD (n + 14) 0) 17 19 10 + (sch (words b) n).getD (n + 9) 0 + mixS ((sch (words b) n).getD (n + 1) 0) 7 18 3 + (sch (words b) n).getD n 0 = nextW (sch (words b) n) n from rfl, e]
    exact schF_eq b k m (n + 1) (by omega)
theorem rndF_eq {α : Type} (s : S8) (k w : UInt32) (f : S8 → α) : rndF s k w f = f (rnd s k w) := by simp only [rndF, fo_eq, rnd]
theorem rndsF_eq {α : Type} (w : List UInt32) (s : S8) (f : S8 → α) (hw : w.length = 64) : ∀ (m n : Nat), n + m = 64 → rndsF (kk.drop n) (w.drop n) (rnds w s n) f = f (rnds w s 64)
  | 0, n, h => by
    obtain rfl : n = 64 := by omega
    rw [List.drop_eq_nil_of_le (by rw [kk_length]; exact Nat.le_refl _)]
    rfl
  | m + 1, n, h => by
    have h1 : n < kk.length := by rw [kk_length]; omega
    have h2 : n < w.length := by omega
    rw [List.drop_eq_getElem_cons h1, List.drop_eq_getElem_cons h2, rndsF, rndF_eq, ← rndsF_eq w s f hw m (n + 1) (by omega), rnds]
    simp [List.getD_eq_getElem?_getD, h1, h2]
theorem compF_eq {α : Type} (s : S8) (b : List UInt8) (f : S8 → α) : compF s b f = f (comp s b) := by
  have h0 : (List.map (wd b) (List.range 16)).reverse ++ [] = (sch (words b) 0).reverse := by simp [sch, words]
  have h1 : ∀ f : S8 → α, rndsF kk (sched b) s f = f (rnds (sched b) s 64) := fun f => rndsF_eq (sched b) s f (sched_length b) 64 0 rfl
  rw [compF, wordsF_eq, h0, schF_eq b _ 48 0 rfl, List.reverse_reverse, h1]
  simp only [fo_eq, comp, S8.add]
theorem absorbF_eq {α : Type} (n : Nat) (s : S8) (l : List UInt8) (f : S8 → α) : absorbF n s l f = f (absorb n s l) := by
  induction n generalizing s l with
  | zero => rfl
  | succ n ih => rw [absorbF, compF_eq, ih, absorb]
theorem sha_F (l : List UInt8) : sha l = shaF l := by rw [shaF, absorbF_eq, sha]
end Go.Proofs.YtmcdcfbhpdacfaaDoor

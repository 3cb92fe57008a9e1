import Derived.Test.YtmcdcfbhpdacfaaDoorSha0

/-
  Four bytes as a word.
-/

namespace Go.Proofs.YtmcdcfbhpdacfaaDoor

open Go Sx

set_option linter.unusedVariables false

set_option linter.unusedSimpArgs false

theorem hor1 (a b : Nat) : a * 16777216 + b * 65536 = (a * 256 + b) * 65536 := by omega
theorem hor2 (a b : Nat) : a * 65536 + b * 256 = (a * 256 + b) * 256 := by omega
theorem word_or (a b c d : UInt8) : (((a.toUInt32 <<< UInt32.ofNat 24) ||| (b.toUInt32 <<< UInt32.ofNat 16)) ||| (c.toUInt32 <<< UInt32.ofNat 8)) ||| d.toUInt32 = UInt32.ofNat (bval [a, b, c, d]) := by
  have ha := a.toNat_lt
  have hb := b.toNat_lt
  have hc := c.toNat_lt
  have hd := d.toNat_lt
  apply UInt32.toNat_inj.1
  have e : bval [a, b, c, d] = ((a.toNat * 256 + b.toNat) * 256 + c.toNat) * 256 + d.toNat := by simp [bval]
  rw [e, UInt32.toNat_ofNat', Nat.mod_eq_of_lt (by omega)]
  simp only [UInt32.toNat_or, UInt32.toNat_shiftLeft, UInt8.toNat_toUInt32, ofNat_lt32 (show 24 < 32 by decide), ofNat_lt32 (show 16 < 32 by decide), ofNat_lt32 (show 8 < 32 by decide), Nat.reduceMod, Nat.shiftLeft_eq, Nat.reducePow]
  rw [Nat.mod_eq_of_lt (show a.toNat * 16777216 < 4294967296 by omega), Nat.mod_eq_of_lt (show b.toNat * 65536 < 4294967296 by omega), Nat.mod_eq_of_lt (show c.toNat * 256 < 4294967296 by omega)]
  have k1 := Nat.shiftLeft_add_eq_or_of_lt (i := 24) (b := b.toNat * 65536) (by show _ < 16777216; omega) a.toNat
  have k2 := Nat.shiftLeft_add_eq_or_of_lt (i := 16) (b := c.toNat * 256) (by show _ < 65536; omega) (a.toNat * 256 + b.toNat)
  have k3 := Nat.shiftLeft_add_eq_or_of_lt (i := 8) (b := d.toNat) (by show _ < 256; omega) ((a.toNat * 256 + b.toNat) * 256 + c.toNat)
  simp only [Nat.shiftLeft_eq, Nat.reducePow] at k1 k2 k3
  rw [← k1, hor1, ← k2, hor2, ← k3]
theorem four {b : List UInt8} {t : Nat} (h : 4 * t + 4 ≤ b.length) : (b.drop (4 * t)).take 4 = [b.getD (4 * t) 0, b.getD (4 * t + 1) 0, b.getD (4 * t + 2) 0, b.getD (4 * t + 3) 0] := by
  have g : ∀ i, i < b.length → b.getD i 0 = b[i]! := fun i hi => by simp [List.getD_eq_getElem?_getD, hi]
  rw [List.drop_eq_getElem_cons (show 4 * t < b.length by omega), List.drop_eq_getElem_cons (show 4 * t + 1 < b.length by omega), List.drop_eq_getElem_cons (show 4 * t + 1 + 1 < b.length by omega), List.drop_eq_getElem_cons (show 4 * t + 1 + 1 + 1 < b.length by omega)]
  simp only [List.take_succ_cons, List.take_zero, List.getD_eq_getElem?_getD, List.getElem?_eq_getElem (show 4 * t < b.length by omega), List.getElem?_eq_getElem (show 4 * t + 1 < b.length by omega), List.getElem?_eq_getElem (show 4 * t + 2 < b.length by omega), List.getElem?_eq_getElem (show 4 * t + 3 < b.length by omega), Option.getD_some]
theorem wd_or {b : List UInt8} {t : Nat} (h : 4 * t + 4 ≤ b.length) : ((((b.getD (4 * t) 0).toUInt32 <<< UInt32.ofNat 24) ||| ((b.getD (4 * t + 1) 0).toUInt32 <<< UInt32.ofNat 16)) ||| ((b.getD (4 * t + 2) 0).toUInt32 <<< UInt32.ofNat 8)) ||| (b.getD (4 * t + 3) 0).toUInt32 = wd b t := by
  rw [word_or, wd, four h]

end Go.Proofs.YtmcdcfbhpdacfaaDoor

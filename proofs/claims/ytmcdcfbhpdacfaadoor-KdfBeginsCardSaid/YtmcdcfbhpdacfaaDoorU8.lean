import Derived.Test.YtmcdcfbhpdacfaaDoorOct0

/-
  Bytes, exclusive-ored.
-/

namespace Go.Proofs.YtmcdcfbhpdacfaaDoor

open Go Sx

set_option linter.unusedVariables false

set_option linter.unusedSimpArgs false

theorem bv8 (x : UInt8) : BitVec.ofInt IntKind.u8.bits (x.toNat : Int) = x.toBitVec := by
  show BitVec.ofInt 8 (x.toNat : Int) = x.toBitVec
  rw [BitVec.ofInt_natCast]
  exact BitVec.ofNat_toNat 8 x.toBitVec |>.trans (by simp)
theorem w8_in (n : Nat) (h : n < 256) : IntKind.u8.wrap (n : Int) = (n : Int) := IntWalk.u8_in _ (by omega)
theorem u8_xor (x y : UInt8) : bitw .xor .u8 (x.toNat : Int) (y.toNat : Int) = ((x ^^^ y).toNat : Int) := by
  show IntKind.u8.wrap ((BitVec.ofInt IntKind.u8.bits (x.toNat : Int) ^^^ BitVec.ofInt IntKind.u8.bits (y.toNat : Int)).toNat : Int) = _
  rw [bv8, bv8]
  exact w8_in _ (x ^^^ y).toNat_lt
theorem u8_or (x y : UInt8) : bitw .or .u8 (x.toNat : Int) (y.toNat : Int) = ((x ||| y).toNat : Int) := by
  show IntKind.u8.wrap ((BitVec.ofInt IntKind.u8.bits (x.toNat : Int) ||| BitVec.ofInt IntKind.u8.bits (y.toNat : Int)).toNat : Int) = _
  rw [bv8, bv8]
  exact w8_in _ (x ||| y).toNat_lt
end Go.Proofs.YtmcdcfbhpdacfaaDoor

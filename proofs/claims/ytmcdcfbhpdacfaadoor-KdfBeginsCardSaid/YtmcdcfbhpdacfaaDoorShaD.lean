import Derived.Test.YtmcdcfbhpdacfaaDoorShaH

/-
  A sum's bytes.
-/

namespace Go.Proofs.YtmcdcfbhpdacfaaDoor

open Go Sx

set_option linter.unusedVariables false

set_option linter.unusedSimpArgs false

def s8v : List Value := [.int .u32 1779033703, .int .u32 3144134277, .int .u32 1013904242, .int .u32 2773480762, .int .u32 1359893119, .int .u32 2600822924, .int .u32 528734635, .int .u32 1541459225]
theorem s8v_eq : s8v = wvs s8.l := by kernel_rfl
theorem one_s8v : ∀ v ∈ s8v, v.oneCell' = true := by rw [s8v_eq]; exact one_wvs _
theorem tdiv_nat (n k : Nat) : ((n : Int)).tdiv (k : Int) = ((n / k : Nat) : Int) := Int.ofNat_tdiv n k |>.symm
theorem be4 (x : UInt32) : be 4 x.toNat = [UInt8.ofNat (x >>> UInt32.ofNat 24).toNat, UInt8.ofNat (x >>> UInt32.ofNat 16).toNat, UInt8.ofNat (x >>> UInt32.ofNat 8).toNat, UInt8.ofNat (x >>> UInt32.ofNat 0).toNat] := by
  have g : ∀ c, c < 32 → (x >>> UInt32.ofNat c).toNat = x.toNat / 2 ^ c := fun c hc => by
    rw [UInt32.toNat_shiftRight, ofNat_lt32 hc, Nat.mod_eq_of_lt hc, Nat.shiftRight_eq_div_pow]
  rw [g 24 (by decide), g 16 (by decide), g 8 (by decide), g 0 (by decide), be_cons, be_cons, be_cons, be_cons]
  simp [be]
theorem digest_eq (F : S8) : digest F = (List.range 32).map fun i => UInt8.ofNat (F.l.getD (i / 4) 0 >>> UInt32.ofNat (24 - 8 * (i % 4))).toNat := by
  simp only [digest, S8.l, List.flatMap_cons, be4]
  rfl
theorem digest_get (F : S8) {i : Nat} (h : i < 32) : (digest F).getD i 0 = UInt8.ofNat (F.l.getD (i / 4) 0 >>> UInt32.ofNat (24 - 8 * (i % 4))).toNat := by
  rw [digest_eq, List.getD_eq_getElem?_getD, List.getElem?_map, List.getElem?_range h]
  rfl
theorem set_byte {l : List UInt8} {i n : Nat} (hi : i < l.length) (hn : n = l.length) : (bv (l.take i) ++ List.replicate (n - i) (Value.int .u8 0)).set i (.int .u8 ((l.getD i 0).toNat : Int)) = bv (l.take (i + 1)) ++ List.replicate (n - (i + 1)) (Value.int .u8 0) := by
  subst hn
  have hl : (bv (l.take i)).length = i := by rw [bv_length, List.length_take]; omega
  obtain ⟨k, hk⟩ : ∃ k, l.length - i = k + 1 := ⟨l.length - i - 1, by omega⟩
  rw [hk, show l.length - (i + 1) = k from by omega, List.replicate_succ, List.take_succ_eq_append_getElem hi, bv_append, List.set_append_right _ _ (by omega), hl, Nat.sub_self, List.set_cons_zero, List.append_assoc, List.getD_eq_getElem?_getD, List.getElem?_eq_getElem hi]
  rfl
end Go.Proofs.YtmcdcfbhpdacfaaDoor

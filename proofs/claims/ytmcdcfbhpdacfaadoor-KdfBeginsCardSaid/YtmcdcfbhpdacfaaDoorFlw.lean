import Derived.Test.YtmcdcfbhpdacfaaDoorSxA
import Derived.Test.YtmcdcfbhpdacfaaDoorMark
import Derived.Test.YtmcdcfbhpdacfaaDoorCat

/-
  Facts that flow through a region whose order is open: bytes that the region has made, parts, plain values.
-/



namespace Go.Proofs.YtmcdcfbhpdacfaaDoor

open Go Sx

set_option linter.unusedVariables false

set_option linter.unusedSimpArgs false

variable {B base : Nat} {S U cns : Fp}

/-- The blocks that a region makes, and those that it is given to make use of. -/
abbrev Up (w : World) (E : Fp) : Fp := fun b => w.heap.size ≤ b ∨ E b
theorem Sx.Exf.ext2 {S E : Fp} {w w' : World} (h : Exf w.heap.size (fun b => S b ∨ Up w E b) w.drew w') : Ext (fun b => S b ∨ E b) w w' :=
  ⟨h.os, h.tape, h.output, h.size, fun k hk hs => h.blk k hk hk (fun hx => hx.elim (fun h => hs (.inl h)) fun h => h.elim (fun h => by omega) fun h => hs (.inr h))⟩
theorem Sx.Exf.ext0 {w w' : World} (h : Exf w.heap.size (fun b => Non b ∨ Up w Non b) w.drew w') : Ext Non w w' := h.ext2.mono fun _ h => h.elim id id

/-- Bytes that the region has made. -/
def Fl.ob (base : Nat) (l : List UInt8) : Fl B S U := ⟨fun v f w => OB w base v l ∧ ∀ b, blkOf v b → f b, fun S' v f w w' ⟨h, hb⟩ _ h2 he => ⟨OS.exf h he fun k hk => h2 k (hb k hk), hb⟩⟩
/-- Bytes that the region is given to make use of. -/
def Fl.res (base : Nat) (x : Value) (l : List UInt8) : Fl B S U := ⟨fun v f w => v = x ∧ OB w base v l ∧ ∀ b, blkOf v b → f b, fun S' v f w w' ⟨h0, h, hb⟩ _ h2 he => ⟨h0, OS.exf h he fun k hk => h2 k (hb k hk), hb⟩⟩
/-- A block's place in what nobody else writes. -/
abbrev Keep (S U : Fp) (f : Fp) (b : Nat) : Prop := f b ∨ (¬ U b ∧ ¬ S b)
def Fl.pts (l : List UInt8) : Fl B S U := ⟨fun v f w => ∃ A c ps, v = .slice A ps.length c ∧ Parts w A ps ∧ joinP ps = l ∧ ps.length ≤ 1000 ∧ (∀ b, inBlk A b → Keep S U f b) ∧ ∀ p ∈ ps, p.2.2 = [] ∨ ∀ b, inBlk p.1 b → Keep S U f b, by
  rintro S' v f w w' ⟨A, c, ps, rfl, hp, hj, hn, h1, h2⟩ hS hf he
  have key : ∀ b, Keep S U f b → ¬ S' b := fun b hb hs => hb.elim (fun h => hf b h hs) fun h => (hS b hs).elim h.2 h.1
  refine ⟨A, c, ps, rfl, ⟨Cells.exf hp.row he fun k hk => key k (h1 k hk), fun k hk => Nat.lt_of_lt_of_le (hp.lt k hk) he.size, fun p hpm => ⟨?_, (hp.each p hpm).2⟩⟩, hj, hn, h1, h2⟩
  rcases h2 p hpm with h3 | h3
  · rw [h3]
    exact .inl rfl
  · exact Cells.exf (hp.each p hpm).1 he fun k hk => key k (h3 k hk)⟩
theorem Fl.obNew {w w' : World} {b0 : Nat} {v : Value} {l : List UInt8} (h : OB w' b0 v l) (hb : w.heap.size ≤ b0) (hB : base ≤ w.heap.size) :
    ∃ f, (Fl.ob base l : Fl B S U).p v f w' ∧ ∀ b, f b → (w.heap.size ≤ b ∧ b < w'.heap.size) ∨ cns b :=
  ⟨blkOf v, ⟨OB.up h (Nat.le_trans hB hb), fun _ h => h⟩, fun b hb' => .inl ⟨Nat.le_trans hb (OS.ge h hb'), OS.lt h hb'⟩⟩
theorem Fl.obPut {w w' : World} {b n : Nat} {l : List UInt8} (h : New w w' b (bv l) 5 (0, 0)) (hl : l.length = n) (hB : base ≤ w.heap.size) :
    ∃ f, (Fl.ob base l : Fl B S U).p (.slice (some ⟨b, 0, none⟩) n n) f w' ∧ ∀ b, f b → (w.heap.size ≤ b ∧ b < w'.heap.size) ∨ cns b := by
  subst hl
  exact Fl.obNew (OS.new (sp := []) (by rw [List.append_nil]; exact h) (Nat.le_refl _) (by rw [bv_length, Nat.mul_one]) (Nat.le_refl _) (by rw [List.append_nil, bv_length, Nat.mul_one]) (.inl rfl)) (Nat.le_refl _) hB
theorem Fl.obApp {w w' : World} {v : Value} {l : List UInt8} (h : OB w' base v l) (hs : w.heap.size ≤ w'.heap.size) (hc : ∀ b, blkOf v b → cns b ∨ w.heap.size ≤ b) :
    ∃ f, (Fl.ob base l : Fl B S U).p v f w' ∧ ∀ b, f b → (w.heap.size ≤ b ∧ b < w'.heap.size) ∨ cns b :=
  ⟨blkOf v, ⟨h, fun _ h => h⟩, fun b hb => (hc b hb).elim .inr fun h1 => .inl ⟨h1, OS.lt h hb⟩⟩
def FPart (S U cns : Fp) (w : World) (p : Part) : Prop := (Cells w p.1 (bv p.2.2) ∧ p.2.2.length ≤ p.2.1) ∧ (p.2.2 = [] ∨ ∀ b, inBlk p.1 b → Keep S U cns b)
/-- What was there ahead of the region is nobody's to write. -/
theorem Fl.low {w W : World} {A : Option Addr} {l : List UInt8} (h : Cells w A (bv l)) (hB : w.heap.size ≤ W.heap.size) : l = [] ∨ ∀ b, inBlk A b → Keep Non (Up W Non) cns b := by
  by_cases hl : l = []
  · exact .inl hl
  · exact .inr fun b hb => .inr ⟨fun h' => h'.elim (fun h' => by have := h.lt (fun e => hl (by cases l; rfl; cases e)) hb; omega) id, fun x => x⟩
theorem Fl.lowE {w W : World} {A : Option Addr} {l : List UInt8} {E : Fp} (h : Cells w A (bv l)) (hB : w.heap.size ≤ W.heap.size) (hE : ∀ b, inBlk A b → ¬ E b) : l = [] ∨ ∀ b, inBlk A b → Keep Non (Up W E) cns b := by
  by_cases hl : l = []
  · exact .inl hl
  · exact .inr fun b hb => .inr ⟨fun h' => h'.elim (fun h' => by have := h.lt (fun e => hl (by cases l; rfl; cases e)) hb; omega) (hE b hb), fun x => x⟩
theorem Fl.each0 {w : World} : ∀ p ∈ ([] : List Part), FPart S U cns w p := fun p hp => by cases hp
theorem Fl.each1 {w : World} {p : Part} (h : FPart S U cns w p) : ∀ q ∈ [p], FPart S U cns w q := fun q hq => by
  rw [List.mem_singleton] at hq
  exact hq ▸ h
theorem Fl.eachC {w : World} {p : Part} {r : List Part} (h : FPart S U cns w p) (hr : ∀ q ∈ r, FPart S U cns w q) : ∀ q ∈ p :: r, FPart S U cns w q := fun q hq => by
  rcases List.mem_cons.1 hq with rfl | hq
  · exact h
  · exact hr q hq
theorem Fl.each2 {w : World} {p q : Part} (h : FPart S U cns w p) (h2 : FPart S U cns w q) : ∀ x ∈ [p, q], FPart S U cns w x := Fl.eachC h (Fl.each1 h2)
theorem Fl.each3 {w : World} {p q r : Part} (h : FPart S U cns w p) (h2 : FPart S U cns w q) (h3 : FPart S U cns w r) : ∀ x ∈ [p, q, r], FPart S U cns w x := Fl.eachC h (Fl.each2 h2 h3)
theorem Fl.each4 {w : World} {p q r s : Part} (h : FPart S U cns w p) (h2 : FPart S U cns w q) (h3 : FPart S U cns w r) (h4 : FPart S U cns w s) : ∀ x ∈ [p, q, r, s], FPart S U cns w x := Fl.eachC h (Fl.each3 h2 h3 h4)
theorem Fl.ptsNew {w w' : World} {pb t c : Nat} {vals : List Value} {l : List UInt8} {ps : List Part} (hN : New w w' pb vals t (0, 0)) (hv : vals = ps.map pv)
    (each : ∀ p ∈ ps, FPart S U cns w p) (hj : joinP ps = l) (hn : ps.length ≤ 1000) :
    ∃ f, (Fl.pts l : Fl B S U).p (.slice (some ⟨pb, 0, none⟩) ps.length c) f w' ∧ ∀ b, f b → (w.heap.size ≤ b ∧ b < w'.heap.size) ∨ cns b := by
  subst hv
  have hlt := hN.at_.lt
  refine ⟨fun b => b = pb ∨ cns b, ⟨_, c, ps, rfl, ⟨Cells.whole hN.at_, fun k hk => ?_, fun p hp => ⟨(each p hp).1.1.ext hN.ext (fun _ _ x => x), (each p hp).1.2⟩⟩, hj, hn, fun b hb => .inl (.inl (inBlk_some hb).symm), fun p hp => (each p hp).2.imp id fun h b hb => (h b hb).imp .inr id⟩, fun b hb => ?_⟩
  · obtain rfl := inBlk_some hk
    exact hlt
  · rcases hb with rfl | hb
    · exact .inl ⟨hN.ge, hlt⟩
    · exact .inr hb
theorem blk_lt {w : World} {b q t : Nat} {fr : Nat × Nat} {cs : List Value} (h : At w b cs t fr) (hq : inBlk (some ⟨b, 0, none⟩) q) : q < w.heap.size := by
  obtain rfl := inBlk_some hq
  exact h.lt
end Go.Proofs.YtmcdcfbhpdacfaaDoor

import Derived.Test.YtfphlbogblldbaaSxA
import Derived.Test.YtfphlbogblldbaaOct7

/-
  slices.Grow of nothing, slices.Concat, slices.Equal: of bytes.
-/


namespace Go.Proofs.Ytfphlbogblldbaa

open Go Sx

set_option linter.unusedVariables false

set_option linter.unusedSimpArgs false

/-- append of noughts onto bytes of the call's own. -/
theorem Run.makeB {m0 : Md} {ti ty m c : Nat} {k : IntKind} (hx : cx.P.underlying ti = some (.int k)) {w : World} {base : Nat} {A : Option Addr} {l : List UInt8} {K : Value → World → Prop}
    (h : OB w base (.slice A l.length c) l) (hb : l.length + m ≤ 140737488355328) (hbase : base ≤ w.heap.size) (hm : ∀ w', Ext (blkOf (.slice A l.length c)) w w' → m0.W w w')
    (k : ∀ A' c' w', (l ++ List.replicate m 0).length ≤ c' → OB w' base (.slice A' (l ++ List.replicate m 0).length c') (l ++ List.replicate m 0) → Ext (blkOf (.slice A l.length c)) w w' → (c ≤ l.length → Ext Non w w') → K (.slice A' (l ++ List.replicate m 0).length c') w') :
    Run cx.P m0 w (Builtin.append_ #[23, ti] ty #[.slice A l.length c, .int .i64 (m : Int)]) K := by
  have hs : Src cx.P w 1 (.string ⟨(List.replicate m 0).toArray⟩) m (bv (List.replicate m 0)) := by
    have := srcS (w := w) ⟨(List.replicate m (0 : UInt8)).toArray⟩
    simpa using this
  obtain ⟨v', w', k1, k2, k3, k4, k5⟩ := run_app (P := cx.P) (ei := ti5) rfl h (one_bv l) hs (by omega) hbase
  have h1 : (Builtin.append_ #[23, ti] ty #[.slice A l.length c, .int .i64 (m : Int)]).run cx.P w = .ok v' w' := by
    rw [append_make tiB tiU8 hx rfl (firstCells_noughts _ rfl m) (by simp [ti5]; omega) (by omega)]
    exact k1
  obtain ⟨A', c', rfl, hc, _, _⟩ := k2.form
  have e1 : l.length + m = (l ++ List.replicate m 0).length := by simp
  rw [← bv_append] at k2
  rw [e1] at k2 hc h1
  exact ⟨_, w', h1, hm w' k3, k A' c' w' hc k2 k3 k5⟩
/-- Parts: slices of bytes that stand in a slice. -/
abbrev Part := Option Addr × Nat × List UInt8
def pv (p : Part) : Value := .slice p.1 p.2.2.length p.2.1
def joinP (ps : List Part) : List UInt8 := ps.flatMap fun p => p.2.2
structure Parts (w : World) (A : Option Addr) (ps : List Part) : Prop where
  row : Cells w A (ps.map pv)
  lt : ∀ k, inBlk A k → k < w.heap.size
  each : ∀ p ∈ ps, Cells w p.1 (bv p.2.2) ∧ p.2.2.length ≤ p.2.1
theorem Parts.ext {w w' : World} {A : Option Addr} {ps : List Part} (h : Parts w A ps) (he : Ext Non w w') : Parts w' A ps :=
  ⟨h.row.ext he (fun _ _ x => x), fun k hk => Nat.lt_of_lt_of_le (h.lt k hk) he.size, fun p hp => ⟨(h.each p hp).1.ext he (fun _ _ x => x), (h.each p hp).2⟩⟩
theorem Cells.at_ {w : World} {A : Option Addr} {cs : List Value} (h : Cells w A cs) {i : Nat} (hi : i < cs.length) : ∃ b off, A = some ⟨b, off, none⟩ ∧ w.cell? ⟨b, off + i, none⟩ = some cs[i] := by
  rcases h with rfl | ⟨b, off, rfl, h⟩
  · exact absurd hi (by simp)
  · exact ⟨b, off, rfl, h i hi⟩
theorem joinP_take {ps : List Part} {i : Nat} (h : i < ps.length) : joinP (ps.take (i + 1)) = joinP (ps.take i) ++ ps[i].2.2 := by
  rw [List.take_succ_eq_append_getElem h, joinP, List.flatMap_append]
  simp [joinP]
theorem joinP_le {ps : List Part} (i : Nat) : (joinP (ps.take i)).length ≤ (joinP ps).length := by
  have : joinP ps = joinP (ps.take i) ++ joinP (ps.drop i) := by rw [joinP, joinP, joinP, ← List.flatMap_append, List.take_append_drop]
  rw [this, List.length_append]
  omega

end Go.Proofs.Ytfphlbogblldbaa

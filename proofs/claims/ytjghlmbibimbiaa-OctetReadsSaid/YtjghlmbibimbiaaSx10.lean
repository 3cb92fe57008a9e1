
/-
  append, copy, []byte(s): what is to be shown, in terms of what the slices read as.
-/
import Derived.Test.YtjghlmbibimbiaaSx9

namespace Go.Proofs.Ytjghlmbibimbiaa.Sx

open Go

set_option linter.unusedVariables false

set_option linter.unusedSimpArgs false

/-- The cells from an address on. -/
def Cells (w : World) (A : Option Addr) (cs : List Value) : Prop :=
  cs = [] ∨ ∃ b off, A = some ⟨b, off, none⟩ ∧ ∀ i (h : i < cs.length), w.cell? ⟨b, off + i, none⟩ = some cs[i]
def bv (l : List UInt8) : List Value := l.map fun b => .int .u8 (b.toNat : Int)
theorem bs_cells {w : World} {A : Option Addr} {l : List UInt8} : Bs w A l ↔ Cells w A (bv l) := by
  constructor
  · rintro (rfl | ⟨b, off, h1, h2⟩)
    · exact .inl rfl
    · refine .inr ⟨b, off, h1, fun i h => ?_⟩
      simp only [bv, List.length_map] at h
      rw [h2 i h]
      simp [bv]
  · rintro (h | ⟨b, off, h1, h2⟩)
    · exact .inl (by simpa [bv] using h)
    · refine .inr ⟨b, off, h1, fun i h => ?_⟩
      rw [h2 i (by simpa [bv] using h)]
      simp [bv]
/-- The block of a slice's address. -/
def inBlk (A : Option Addr) (k : Nat) : Prop := ∃ off sp, A = some ⟨k, off, sp⟩
theorem Cells.ext {w w' : World} {A : Option Addr} {cs : List Value} {S : Nat → Prop} (h : Cells w A cs) (he : Ext S w w') (hA : ∀ k, inBlk A k → ¬ S k) : Cells w' A cs := by
  rcases h with rfl | ⟨b, off, rfl, h⟩
  · exact .inl rfl
  · exact .inr ⟨b, off, rfl, fun i hi => he.cell (h i hi) (hA b ⟨off, none, rfl⟩)⟩
theorem Cells.of_at {w : World} {b : Nat} {cs sp : List Value} {t : Nat} {fr : Nat × Nat} (h : At w b (cs ++ sp) t fr) : Cells w (some ⟨b, 0, none⟩) cs :=
  .inr ⟨b, 0, rfl, fun i hi => h.cell (by rw [Nat.zero_add, List.getElem?_append_left hi]; simp)⟩
theorem Cells.whole {w : World} {b : Nat} {cs : List Value} {t : Nat} {fr : Nat × Nat} (h : At w b cs t fr) : Cells w (some ⟨b, 0, none⟩) cs := Cells.of_at (sp := []) (by rw [List.append_nil]; exact h)
theorem Cells.lt {w : World} {A : Option Addr} {cs : List Value} (h : Cells w A cs) (hne : cs ≠ []) {k : Nat} (hk : inBlk A k) : k < w.heap.size := by
  rcases h with rfl | ⟨b, off, rfl, h⟩
  · exact absurd rfl hne
  · obtain ⟨o, sp, e⟩ := hk
    injection e with e
    injection e with e1 _ _
    subst e1
    have hpos : 0 < cs.length := List.length_pos_iff.2 hne
    exact World.block_lt_of_cell? w ⟨b, off + 0, none⟩ (h 0 hpos)
theorem Cells.drop {w : World} {A : Option Addr} {cs : List Value} (h : Cells w A cs) (k m : Nat) (hm : m = k → cs.drop k = []) (sz : Nat) (hsz : sz = 1) : Cells w (sla A k m sz) (cs.drop k) := by
  subst hsz
  rcases h with rfl | ⟨b, off, rfl, h⟩
  · exact .inl (by simp)
  · unfold sla
    split
    · rename_i e; exact .inl (hm e)
    · refine .inr ⟨b, off + k, by simp [add_none], fun i hi => ?_⟩
      simp only [List.length_drop] at hi
      rw [Nat.add_assoc, h (k + i) (by omega)]
      simp
theorem Cells.take {w : World} {A : Option Addr} {cs : List Value} (h : Cells w A cs) (k : Nat) : Cells w A (cs.take k) := by
  rcases h with rfl | ⟨b, off, rfl, h⟩
  · exact .inl (by simp)
  · refine .inr ⟨b, off, rfl, fun i hi => ?_⟩
    rw [h i (by simp at hi; omega)]
    simp

/-- A string out of bytes, at a stop. -/
theorem RdS.of {m : Md} {w : World} {A : Option Addr} {n : Nat} {K : ByteArray → Prop} {l : List UInt8} (h : Cells w A (bv l)) (hn : n = l.length) (hs : ∀ k, inBlk A k → m.safe k) (k : K ⟨l.toArray⟩) : RdS m w A n K := by
  refine ⟨l, hn.symm, ?_, k⟩
  cases m with
  | plain => exact bs_cells.2 h
  | any S => exact fun w' hw => bs_cells.2 (h.ext hw fun k hk => hs k hk)
theorem RdA.of {m : Md} {w : World} {b off n : Nat} {K : List Value → Prop} (cs : List Value) (h : ∀ i (hi : i < cs.length), w.cell? ⟨b, off + i, none⟩ = some cs[i]) (hn : cs.length = n) (hs : m.safe b) (k : K cs) : RdA m w b off n K := by
  refine ⟨cs, hn, ?_, k⟩
  cases m with
  | plain => exact h
  | any S => exact fun w' hw i hi => hw.cell (h i hi) hs
theorem RdA.whole {m : Md} {w : World} {b n : Nat} {K : List Value → Prop} {cs : List Value} {t : Nat} {fr : Nat × Nat} (h : At w b cs t fr) (hn : cs.length = n) (hs : m.safe b) (k : K cs) : RdA m w b 0 n K :=
  RdA.of cs (fun i hi => h.cell (by rw [Nat.zero_add]; simp [hi])) hn hs k
theorem StA.all {m : Md} {w : World} {b : Nat} {vs : List Value} {K : World → Prop} {cs : List Value} {t : Nat} (h : At w b cs t (0, 0)) (hl : vs.length = cs.length) (h1 : ∀ v ∈ vs, v.oneCell' = true) (hm : m.wr b)
    (k : ∀ w', At w' b vs t (0, 0) → Ext (· = b) w w' → K w') : StA m w b 0 vs K :=
  StA.mk h (by omega) (.inl (Nat.le_refl _)) h1 hm fun w' h' x' => k w' (by
    have e : ov cs 0 vs = vs := by simp [ov, hl]
    rwa [e] at h') x'
/-- A source of append or copy: m elements of sz cells each. -/
structure Src (P : Program) (w : World) (sz : Nat) (x : Value) (m : Nat) (news : List Value) : Prop where
  len : ∀ w', (Builtin.lenOf x).run P w' = .ok m w'
  size : news.length = m * sz
  cells : ∀ w' k, w'.heap = w.heap → k ≤ m → (Builtin.firstCells sz k x).run P w' = .ok (news.take (k * sz)).toArray w'
  one : ∀ v ∈ news, v.oneCell' = true
theorem cell_heap {w w' : World} (h : w'.heap = w.heap) (a : Addr) : w'.cell? a = w.cell? a := by simp [World.cell?, h]
theorem Src.slice {P : Program} {w : World} {sz : Nat} {A : Option Addr} {m c : Nat} {news : List Value} (h : Cells w A news) (hl : news.length = m * sz) (h1 : ∀ v ∈ news, v.oneCell' = true) : Src P w sz (.slice A m c) m news := by
  refine ⟨fun w' => rfl, hl, fun w' k hw hk => ?_, h1⟩
  have hkl : k * sz ≤ news.length := by rw [hl]; exact Nat.mul_le_mul_right _ hk
  rcases h with rfl | ⟨b, off, rfl, h⟩
  · have hz : k * sz = 0 := by simpa using hkl
    cases A with
    | none => simp [Builtin.firstCells]
    | some a => simp [Builtin.firstCells, hz, loadCells, loadCellsFrom]
  · have := run_loadCells_list (P := P) w' ⟨b, off, none⟩ (news.take (k * sz)) (fun j v hj => by
      obtain ⟨h2, h3⟩ := List.getElem?_eq_some_iff.1 hj
      rw [add_none, cell_heap hw, h j (by simp at h2; omega)]
      simp at h3
      rw [← h3])
    have hlen : (news.take (k * sz)).length = k * sz := by simp; omega
    rw [hlen] at this
    simp only [Builtin.firstCells, this]
theorem one_bv (l : List UInt8) : ∀ v ∈ bv l, v.oneCell' = true := by
  intro v hv
  simp only [bv, List.mem_map] at hv
  obtain ⟨b, _, rfl⟩ := hv
  rfl
theorem Src.str {P : Program} {w : World} (s : ByteArray) : Src P w 1 (.string s) s.size (bv s.data.toList) := by
  refine ⟨fun w' => rfl, by simp [bv], fun w' k hw hk => ?_, one_bv _⟩
  simp only [Builtin.firstCells, Sem.run_pure]
  congr 1
  apply Array.ext'
  have : (s.extract 0 k).data.toList = s.data.toList.take k := by
    rw [ByteArray.data_extract]
    simp
  simp only [Array.toList_map, this, bv, Nat.mul_one, List.map_take, List.toList_toArray]

/-- A slice that the call itself has made: nil, or at the head of a block from `base` on. -/
def OS (w : World) (base e sz : Nat) (v : Value) (n : Nat) (xs : List Value) : Prop :=
  xs.length = n * sz ∧ ((v = .slice none 0 0 ∧ n = 0) ∨
    ∃ b c sp fr, v = .slice (some ⟨b, 0, none⟩) n c ∧ base ≤ b ∧ n ≤ c ∧ At w b (xs ++ sp) e fr ∧ (xs ++ sp).length = c * sz ∧ (fr = (0, 0) ∨ c * sz ≤ fr.1))
def blkOf (v : Value) (k : Nat) : Prop := ∃ off sp n c, v = .slice (some ⟨k, off, sp⟩) n c
theorem OS.nil (w : World) (base e sz : Nat) : OS w base e sz (.slice none 0 0) 0 [] := ⟨by simp, .inl ⟨rfl, rfl⟩⟩
theorem OS.form {w : World} {base e sz n : Nat} {v : Value} {xs : List Value} (h : OS w base e sz v n xs) : ∃ A c, v = .slice A n c ∧ n ≤ c ∧ Cells w A xs ∧ (∀ k, inBlk A k → base ≤ k) := by
  obtain ⟨hl, h⟩ := h
  rcases h with ⟨rfl, rfl⟩ | ⟨b, c, sp, fr, rfl, hb, hc, hat, _, hf⟩
  · exact ⟨none, 0, rfl, Nat.le_refl _, .inl (List.eq_nil_of_length_eq_zero (by simpa using hl)), fun k ⟨_, _, e⟩ => by cases e⟩
  · exact ⟨_, c, rfl, hc, Cells.of_at hat, fun k ⟨_, _, e⟩ => by injection e with e; injection e with e1 _ _; omega⟩
theorem OS.ext {w w' : World} {base e sz n : Nat} {v : Value} {xs : List Value} {S : Nat → Prop} (h : OS w base e sz v n xs) (he : Ext S w w') (hS : ∀ k, blkOf v k → ¬ S k) : OS w' base e sz v n xs := by
  refine ⟨h.1, ?_⟩
  rcases h.2 with h2 | ⟨b, c, sp, fr, rfl, hb, hc, hat, h3, hf⟩
  · exact .inl h2
  · exact .inr ⟨b, c, sp, fr, rfl, hb, hc, hat.ext he (hS b ⟨0, none, n, c, rfl⟩), h3, hf⟩
theorem OS.lt {w : World} {base e sz n : Nat} {v : Value} {xs : List Value} (h : OS w base e sz v n xs) {k : Nat} (hk : blkOf v k) : k < w.heap.size := by
  rcases h.2 with ⟨rfl, _⟩ | ⟨b, c, sp, fr, rfl, hb, hc, hat, h3, hf⟩
  · obtain ⟨_, _, _, _, e⟩ := hk; cases e
  · obtain ⟨_, _, _, _, e⟩ := hk
    injection e with e _ _
    injection e with e
    injection e with e1 _ _
    subst e1
    exact hat.lt
theorem OS.new {w w' : World} {base b e sz n c : Nat} {xs sp : List Value} {fr : Nat × Nat} (h : New w w' b (xs ++ sp) e fr) (hb : base ≤ w.heap.size) (hl : xs.length = n * sz) (hc : n ≤ c) (h2 : (xs ++ sp).length = c * sz) (hf : fr = (0, 0) ∨ c * sz ≤ fr.1) :
    OS w' base e sz (.slice (some ⟨b, 0, none⟩) n c) n xs := ⟨hl, .inr ⟨b, c, sp, fr, rfl, Nat.le_trans hb h.ge, hc, h.at_, h2, hf⟩⟩

theorem OS.ge {w : World} {base e sz n : Nat} {v : Value} {xs : List Value} (h : OS w base e sz v n xs) {k : Nat} (hk : blkOf v k) : base ≤ k := by
  obtain ⟨A, c, rfl, _, _, hb⟩ := h.form
  obtain ⟨o, s, _, _, e⟩ := hk
  injection e with e _ _
  exact hb k ⟨o, s, e⟩
/-- A step that writes at most into a slice of the call's own. -/
theorem Ext.app {S : Nat → Prop} {w w0 w' : World} {base e sz n : Nat} {v : Value} {xs : List Value} (h : Ext S w w0) (ho : OS w0 base e sz v n xs) (hb : w.heap.size ≤ base) (h' : Ext (blkOf v) w0 w') : Ext S w w' :=
  h.trans' h' (fun _ _ x => x) (fun i hi hk => by have := ho.ge hk; omega)
theorem OS.keep {w w' : World} {base e sz n : Nat} {v : Value} {xs : List Value} (h : OS w base e sz v n xs) (he : Ext Non w w') : OS w' base e sz v n xs := h.ext he fun _ _ x => x
theorem blkOf_of {A : Option Addr} {k n c : Nat} (h : inBlk A k) : blkOf (.slice A n c) k := by
  obtain ⟨o, s, e⟩ := h
  exact ⟨o, s, n, c, by rw [e]⟩

/-- A store into a slice of the call's own. -/
theorem OS.put {w : World} {base e sz n c : Nat} {A : Option Addr} {xs : List Value} (h : OS w base e sz (.slice A n c) n xs) {i : Nat} (hi : i < xs.length) :
    ∃ b, A = some ⟨b, 0, none⟩ ∧ base ≤ b ∧ ∀ (m : Md) (v : Value) (K : World → Prop), m.wr b → (∀ w', OS w' base e sz (.slice A n c) n (xs.set i v) → Ext (· = b) w w' → K w') → St1 m w b i v K := by
  rcases h.2 with ⟨e, rfl⟩ | ⟨b, c', sp, fr, e, hb, hc, hat, h3, hf⟩
  · have := h.1
    omega
  · injection e with e1 _ e2
    subst e1 e2
    have hlen : xs.length ≤ c * sz := by rw [← h3, List.length_append]; omega
    refine ⟨b, rfl, hb, fun m v K hm k => St1.mk hat (by rw [List.length_append]; omega) (by rcases hf with rfl | hf <;> omega) hm fun w' h' x' => k w' ⟨by rw [List.length_set]; exact h.1, .inr ⟨b, c, sp, fr, rfl, hb, hc, ?_, ?_, hf⟩⟩ x'⟩
    · rwa [List.set_append_left _ _ hi] at h'
    · rw [List.length_append, List.length_set, ← List.length_append]
      exact h3

theorem zeroCells_len (z : Array Value) (n : Nat) : (Builtin.zeroCells z n).toList.length = n * z.size := by simp [Builtin.zeroCells]

/-- append of the elements of a slice or a string, step by step. -/
def app (P : Program) (A : Option Addr) (n c : Nat) (x : Value) (m e : Nat) (ei : TI) : Sem Value :=
  if n + m ≤ c then do
    let new ← Builtin.firstCells ei.size m x
    if let some a := A then storeCells (a.add (n * ei.size)) new.toList
    pure (.slice A (n + m) c)
  else do
    let newCap ← choose (.appendCap (n + m) c e)
    askRoom (newCap * ei.bytes)
    let old ← Builtin.firstCells ei.size n (.slice A n c)
    let new ← Builtin.firstCells ei.size m x
    let a ← newRow e (old ++ new ++ Builtin.zeroCells ei.zero.cells (newCap - (n + m)))
    pure (.slice (some a) (n + m) newCap)
set_option maxHeartbeats 1000000 in
theorem append_app {P : Program} {ts tx ty e sz0 by0 : Nat} {z0 : Value} {ei : TI} (ht : TIok P ts ⟨.slice e, sz0, by0, z0⟩) (he : TIok P e ei) (hx : (∃ e', P.underlying tx = some (.slice e')) ∨ P.underlying tx = some .string)
    {w : World} {A : Option Addr} {n c m : Nat} {x : Value} (hm : ∀ w', (Builtin.lenOf x).run P w' = .ok m w') (hb : (n + m) * ei.bytes ≤ 140737488355328) (h63 : n + m ≤ 140737488355328) :
    (Builtin.append_ #[ts, tx] ty #[.slice A n c, x]).run P w = (app P A n c x m e ei).run P w := by
  obtain ⟨i, hi, hi1, hi2, hi3⟩ := he.get
  have h3 : ¬ (((n + m : Nat) : Int) > IntKind.i64.max) := by
    have : IntKind.i64.max = 9223372036854775807 := by decide
    omega
  unfold app
  rcases hx with ⟨e', hx⟩ | hx
  all_goals
    by_cases hc : n + m ≤ c
    · simp only [Builtin.append_, List.getElem?_toArray, List.getElem?_cons_zero, List.getElem?_cons_succ, Sem.run_bind, run_underlying ht.slice, run_underlying hx, Result.andThen_ok, he.run_size, Sem.run_pure, Bool.false_eq_true, if_false, hm, if_pos hc, Bool.not_false, if_true, Sem.run_ite]
      try rfl
    · have hg := growslice_fits (need := n + m) (old := c) (bytes := ei.bytes) (by omega) hb
      have h2 : ¬ (Builtin.nextslicecap (n + m) c * ei.bytes > 2 ^ 48) := by omega
      simp only [Builtin.append_, List.getElem?_toArray, List.getElem?_cons_zero, List.getElem?_cons_succ, Sem.run_bind, run_underlying ht.slice, run_underlying hx, Result.andThen_ok, he.run_size, Sem.run_pure, Bool.false_eq_true, if_false, hm, if_neg hc, Bool.not_false, if_true, Sem.run_ite,
        typeInfo, run_program, hi, hi2, h3, h2, false_and]
      simp only [he.run_zero, Result.andThen_ok]

theorem app_grow {P : Program} {e : Nat} {ei : TI} (hz : ei.zero.cells.size = ei.size) {w : World} {A : Option Addr} {n c m : Nat} {x : Value} {xs news : List Value} (hx : Cells w A xs) (hxl : xs.length = n * ei.size) (h1 : ∀ v ∈ xs, v.oneCell' = true)
    (hs : Src P w ei.size x m news) (hc : c < n + m) (h63 : n + m ≤ 140737488355328) :
    ∃ b c' sp w', (app P A n c x m e ei).run P w = .ok (.slice (some ⟨b, 0, none⟩) (n + m) c') w' ∧ New w w' b (xs ++ news ++ sp) e (0, 0) ∧ n + m ≤ c' ∧ (xs ++ news ++ sp).length = c' * ei.size := by
  have hge := grownCap_ge w (n + m) c e
  have hold := (Src.slice (P := P) (c := c) hx hxl h1).cells w.drew n rfl (Nat.le_refl _)
  have hnew := hs.cells w.drew m rfl (Nat.le_refl _)
  rw [List.take_of_length_le (by rw [hxl]; exact Nat.le_refl _)] at hold
  rw [List.take_of_length_le (by rw [hs.size]; exact Nat.le_refl _)] at hnew
  have hcap : ∀ q, q = Question.appendCap (n + m) c e → q.cut (w.tape w.drawn q) = grownCap w (n + m) c e := by rintro q rfl; rfl
  have e1 : xs.toArray ++ news.toArray ++ Builtin.zeroCells ei.zero.cells (grownCap w (n + m) c e - (n + m)) = (xs ++ news ++ (Builtin.zeroCells ei.zero.cells (grownCap w (n + m) c e - (n + m))).toList).toArray := by
    apply Array.ext'; simp
  refine ⟨w.heap.size, grownCap w (n + m) c e, (Builtin.zeroCells ei.zero.cells (grownCap w (n + m) c e - (n + m))).toList, w.drew.alloc (.cells (xs ++ news ++ (Builtin.zeroCells ei.zero.cells (grownCap w (n + m) c e - (n + m))).toList).toArray e), ?_, ?_, hge, ?_⟩
  · have hdr : ({ heap := w.heap, tape := w.tape, drawn := w.drawn + 1, os := w.os, output := w.output } : World) = w.drew := rfl
    unfold app
    rw [if_neg (by omega)]
    simp only [Sem.run_bind, run_choose, Question.forced, Bool.false_eq_true, if_false, Result.andThen_ok, run_askRoom, hdr, hold, hnew, newRow, run_newObj, Sem.run_pure, hcap _ rfl, e1]
    rfl
  · exact ⟨(Ext.drew _ _).trans (Ext.alloc _ _ _), Nat.le_refl _, heap_alloc_new w.drew _⟩
  · simp only [List.length_append, zeroCells_len, hz, hxl, hs.size, ← Nat.add_mul]
    congr 1
    omega
theorem app_nothing {P : Program} {e : Nat} {ei : TI} {w : World} {A : Option Addr} {n c : Nat} {x : Value} {news : List Value} (hs : Src P w ei.size x 0 news) (hc : n ≤ c) : (app P A n c x 0 e ei).run P w = .ok (.slice A n c) w := by
  have hnew := hs.cells w 0 rfl (Nat.le_refl _)
  unfold app
  rw [if_pos (by omega)]
  cases A <;> simp [hnew, storeCells]
theorem app_fit {P : Program} {e t : Nat} {ei : TI} {w : World} {b n c m : Nat} {x : Value} {xs sp news : List Value} {fr : Nat × Nat} (hat : At w b (xs ++ sp) t fr) (hxl : xs.length = n * ei.size) (hl : (xs ++ sp).length = c * ei.size) (hf : fr = (0, 0) ∨ c * ei.size ≤ fr.1)
    (hs : Src P w ei.size x m news) (hc : n + m ≤ c) :
    ∃ w', (app P (some ⟨b, 0, none⟩) n c x m e ei).run P w = .ok (.slice (some ⟨b, 0, none⟩) (n + m) c) w' ∧ At w' b (xs ++ news ++ sp.drop news.length) t fr ∧ Ext (· = b) w w' := by
  have hnew := hs.cells w m rfl (Nat.le_refl _)
  rw [List.take_of_length_le (by rw [hs.size]; exact Nat.le_refl _)] at hnew
  have hm : (n + m) * ei.size ≤ c * ei.size := Nat.mul_le_mul_right _ hc
  have hadd : (n + m) * ei.size = n * ei.size + m * ei.size := Nat.add_mul _ _ _
  have hsz := hs.size
  obtain ⟨w', h1, h2, h3⟩ := run_storeCells (P := P) b (n * ei.size) news 0 w (xs ++ sp) t fr hat (by omega) (by rcases hf with rfl | hf; exact .inl (Nat.zero_le _); exact .inr (by omega)) hs.one
  refine ⟨w', ?_, ?_, h3⟩
  · unfold app
    rw [if_pos hc]
    simp only [Sem.run_bind, hnew, Result.andThen_ok, add_none, Nat.zero_add, h1, Sem.run_pure]
  · have e1 : ov (xs ++ sp) (n * ei.size + 0) news = xs ++ news ++ sp.drop news.length := by
      simp only [ov, Nat.add_zero, ← hxl]
      rw [List.take_left, List.drop_append, List.drop_eq_nil_of_le (by omega)]
      simp
    rw [e1] at h2
    exact h2

/-- append onto a slice of the call's own, by its steps. -/
theorem run_app {P : Program} {e : Nat} {ei : TI} (hz : ei.zero.cells.size = ei.size)
    {w : World} {base n m c : Nat} {A : Option Addr} {x : Value} {xs news : List Value} (h : OS w base e ei.size (.slice A n c) n xs) (h1 : ∀ v ∈ xs, v.oneCell' = true) (hs : Src P w ei.size x m news) (h63 : n + m ≤ 140737488355328) (hbase : base ≤ w.heap.size) :
    ∃ v' w', (app P A n c x m e ei).run P w = .ok v' w' ∧ OS w' base e ei.size v' (n + m) (xs ++ news) ∧ Ext (blkOf (.slice A n c)) w w' ∧ (∀ k, blkOf v' k → blkOf (.slice A n c) k ∨ w.heap.size ≤ k) ∧ (c ≤ n → Ext Non w w') := by
  obtain ⟨A', c0, e0, hnc, hcells, hbk⟩ := h.form
  obtain ⟨rfl, -, rfl⟩ := Value.slice.inj e0
  have hlen : (xs ++ news).length = (n + m) * ei.size := by rw [List.length_append, h.1, hs.size, Nat.add_mul]
  by_cases hc : n + m ≤ c
  · by_cases hm : m = 0
    · subst hm
      have hn0 : news = [] := List.eq_nil_of_length_eq_zero (by simpa using hs.size)
      subst hn0
      refine ⟨_, w, app_nothing hs hnc, ?_, Ext.refl _ _, fun k hk => .inl hk, fun _ => Ext.refl _ _⟩
      simpa using h
    · rcases h.2 with ⟨e1, e2⟩ | ⟨b, c', sp, fr, e1, hb', hc', hat, h3, hf⟩
      · injection e1 with _ _ e3
        omega
      · injection e1 with e3 _ e4
        subst e3 e4
        obtain ⟨w', h4, h5, h6⟩ := app_fit (P := P) (e := e) hat h.1 h3 hf hs hc
        refine ⟨_, w', h4, ⟨hlen, .inr ⟨b, c, _, fr, rfl, hb', hc, h5, ?_, hf⟩⟩, h6.mono fun i hi => by subst hi; exact ⟨_, _, _, _, rfl⟩, fun k hk => .inl ?_, fun hcn => by omega⟩
        · have hm2 : (n + m) * ei.size ≤ c * ei.size := Nat.mul_le_mul_right _ hc
          simp only [List.length_append, List.length_drop] at h3 hlen ⊢
          omega
        · obtain ⟨o, s, n', c', ek⟩ := hk
          injection ek with ek _ _
          exact ⟨o, s, n, c, by rw [ek]⟩
  · obtain ⟨b, c', sp, w', h4, h5, h6, h7⟩ := app_grow (P := P) (e := e) (c := c) hz hcells h.1 h1 hs (by omega) h63
    refine ⟨_, w', h4, OS.new h5 hbase hlen h6 h7 (.inl rfl), h5.ext.mono fun _ x => x.elim, fun k hk => .inr ?_, fun _ => h5.ext⟩
    obtain ⟨o, s, n', c', ek⟩ := hk
    injection ek with ek _ _
    injection ek with ek
    injection ek with ek _ _
    rw [← ek]
    exact h5.ge
/-- append onto a slice of the call's own. -/
theorem run_append {P : Program} {ts tx ty e sz0 by0 : Nat} {z0 : Value} {ei : TI} (ht : TIok P ts ⟨.slice e, sz0, by0, z0⟩) (he : TIok P e ei) (hx : (∃ e', P.underlying tx = some (.slice e')) ∨ P.underlying tx = some .string) (hz : ei.zero.cells.size = ei.size)
    {w : World} {base n m : Nat} {v x : Value} {xs news : List Value} (h : OS w base e ei.size v n xs) (h1 : ∀ v ∈ xs, v.oneCell' = true) (hs : Src P w ei.size x m news) (hb : (n + m) * ei.bytes ≤ 140737488355328) (h63 : n + m ≤ 140737488355328) (hbase : base ≤ w.heap.size) :
    ∃ v' w', (Builtin.append_ #[ts, tx] ty #[v, x]).run P w = .ok v' w' ∧ OS w' base e ei.size v' (n + m) (xs ++ news) ∧ Ext (blkOf v) w w' ∧ (∀ k, blkOf v' k → blkOf v k ∨ w.heap.size ≤ k) ∧ (∀ A c, v = .slice A n c → c ≤ n → Ext Non w w') := by
  obtain ⟨A, c, rfl, hnc, hcells, hbk⟩ := h.form
  obtain ⟨v', w', k1, k2, k3, k4, k5⟩ := run_app (P := P) hz h h1 hs h63 hbase
  exact ⟨v', w', by rw [append_app ht he hx hs.len hb h63, k1], k2, k3, k4, fun A' c2 ec hcn => k5 (by injection ec with _ _ e5; omega)⟩
/-- append at a stop. -/
theorem Run.app {P : Program} {m0 : Md} {ts tx ty e sz0 by0 : Nat} {z0 : Value} {ei : TI} (ht : TIok P ts ⟨.slice e, sz0, by0, z0⟩) (he : TIok P e ei) (hx : (∃ e', P.underlying tx = some (.slice e')) ∨ P.underlying tx = some .string) (hz : ei.zero.cells.size = ei.size)
    {w : World} {base n m : Nat} {v x : Value} {xs news : List Value} {K : Value → World → Prop} (h : OS w base e ei.size v n xs) (h1 : ∀ v ∈ xs, v.oneCell' = true) (hs : Src P w ei.size x m news) (hb : (n + m) * ei.bytes ≤ 140737488355328) (h63 : n + m ≤ 140737488355328) (hbase : base ≤ w.heap.size)
    (hm : ∀ w', Ext (blkOf v) w w' → m0.W w w')
    (k : ∀ A c w', n + m ≤ c → OS w' base e ei.size (.slice A (n + m) c) (n + m) (xs ++ news) → Ext (blkOf v) w w' → (∀ k, inBlk A k → blkOf v k ∨ w.heap.size ≤ k) → K (.slice A (n + m) c) w') :
    Run P m0 w (Builtin.append_ #[ts, tx] ty #[v, x]) K := by
  obtain ⟨v', w', h2, h3, h4, h5, _⟩ := run_append (ty := ty) ht he hx hz h h1 hs hb h63 hbase
  obtain ⟨A, c, rfl, hc, _, _⟩ := h3.form
  exact ⟨_, w', h2, hm w' h4, k A c w' hc h3 h4 (fun k ⟨o, s, e⟩ => h5 k ⟨o, s, _, _, by rw [e]⟩)⟩
/-- append at a stop, onto a slice without room. -/
theorem Run.app0 {P : Program} {m0 : Md} {ts tx ty e sz0 by0 : Nat} {z0 : Value} {ei : TI} (ht : TIok P ts ⟨.slice e, sz0, by0, z0⟩) (he : TIok P e ei) (hx : (∃ e', P.underlying tx = some (.slice e')) ∨ P.underlying tx = some .string) (hz : ei.zero.cells.size = ei.size)
    {w : World} {base n m c0 : Nat} {A0 : Option Addr} {x : Value} {xs news : List Value} {K : Value → World → Prop} (h : OS w base e ei.size (.slice A0 n c0) n xs) (hc0 : c0 ≤ n) (h1 : ∀ v ∈ xs, v.oneCell' = true) (hs : Src P w ei.size x m news) (hb : (n + m) * ei.bytes ≤ 140737488355328) (h63 : n + m ≤ 140737488355328) (hbase : base ≤ w.heap.size)
    (hm : ∀ w', Ext Non w w' → m0.W w w')
    (k : ∀ A c w', n + m ≤ c → OS w' base e ei.size (.slice A (n + m) c) (n + m) (xs ++ news) → Ext Non w w' → K (.slice A (n + m) c) w') :
    Run P m0 w (Builtin.append_ #[ts, tx] ty #[.slice A0 n c0, x]) K := by
  obtain ⟨v', w', h2, h3, h4, h5, h6⟩ := run_append (ty := ty) ht he hx hz h h1 hs hb h63 hbase
  obtain ⟨A, c, rfl, hc, _, _⟩ := h3.form
  exact ⟨_, w', h2, hm w' (h6 _ _ rfl hc0), k A c w' hc h3 (h6 _ _ rfl hc0)⟩

/-- copy into a block that is known, at a stop. -/
theorem Run.copy {P : Program} {m0 : Md} {ts tx ty e sz0 by0 : Nat} {z0 : Value} {ei : TI} (ht : TIok P ts ⟨.slice e, sz0, by0, z0⟩) (he : TIok P e ei) {w : World} {A : Option Addr} {n c m : Nat} {x : Value} {news : List Value} {K : Value → World → Prop}
    (hs : Src P w ei.size x m news) {b off t : Nat} {cs : List Value} {fr : Nat × Nat} (hA : 0 < min m n → A = some ⟨b, off, none⟩) (hat : At w b cs t fr) (hl : off + min m n * ei.size ≤ cs.length) (hf : fr.2 ≤ off ∨ off + min m n * ei.size ≤ fr.1) (hm : m0.wr b)
    (k : ∀ w', At w' b (ov cs off (news.take (min m n * ei.size))) t fr → Ext (· = b) w w' → K (.int .i64 ((min m n : Nat) : Int)) w') :
    Run P m0 w (Builtin.copy_ #[ts, tx] ty #[.slice A n c, x]) K := by
  have hmin : Nat.min m n = min m n := rfl
  have hnew := hs.cells w (min m n) rfl (Nat.min_le_left _ _)
  have hlen : (news.take (min m n * ei.size)).length = min m n * ei.size := by
    rw [List.length_take, hs.size]
    exact Nat.min_eq_left (Nat.mul_le_mul_right _ (Nat.min_le_left _ _))
  by_cases h0 : 0 < min m n
  · obtain rfl := hA h0
    obtain ⟨w', h1, h2, h3⟩ := run_storeCells (P := P) b off (news.take (min m n * ei.size)) 0 w cs t fr hat (by omega) (by omega) (fun v hv => hs.one v (List.mem_of_mem_take hv))
    refine ⟨_, w', ?_, Md.W_one h3 hm, k w' (by simpa using h2) h3⟩
    simp only [Builtin.copy_, List.getElem?_toArray, List.getElem?_cons_zero, List.getElem?_cons_succ, Sem.run_bind, run_underlying ht.slice, Result.andThen_ok, hs.len, he.run_size, hmin, hnew, h1, Sem.run_pure, goInt]
  · have hz : min m n = 0 := by omega
    refine ⟨_, w, ?_, Md.W_ext (Ext.refl _ _), k w ?_ (Ext.refl _ _)⟩
    · simp only [hz, Nat.zero_mul, List.take_zero] at hnew
      cases A <;> simp only [Builtin.copy_, List.getElem?_toArray, List.getElem?_cons_zero, List.getElem?_cons_succ, Sem.run_bind, run_underlying ht.slice, Result.andThen_ok, hs.len, he.run_size, hmin, hz, hnew, Sem.run_pure, goInt, storeCells]
    · simpa [hz, ov_nil] using hat

/-- []byte(s) at a stop. -/
theorem Run.bytes {P : Program} {m0 : Md} {e : Nat} {w : World} {s : ByteArray} {K : Value → World → Prop}
    (k : ∀ b c sp w', s.size + sp.length = c → New w w' b (bv s.data.toList ++ sp) e (c, c + 1) → K (.slice (some ⟨b, 0, none⟩) s.size c) w') : Run P m0 w (Conv.stringToBytes e s) K := by
  have hge := grownCap_ge w s.size 0 e
  have hcap : ∀ q, q = Question.appendCap s.size 0 e → q.cut (w.tape w.drawn q) = grownCap w s.size 0 e := by rintro q rfl; rfl
  have hdr : ({ heap := w.heap, tape := w.tape, drawn := w.drawn + 1, os := w.os, output := w.output } : World) = w.drew := rfl
  have e1 : (s.data.map fun b => Value.int .u8 (b.toNat : Int)) ++ Array.replicate (grownCap w s.size 0 e - s.size) (Value.int .u8 0) = (bv s.data.toList ++ List.replicate (grownCap w s.size 0 e - s.size) (Value.int .u8 0)).toArray := by
    apply Array.ext'
    simp [bv]
  have hsz : (bv s.data.toList ++ List.replicate (grownCap w s.size 0 e - s.size) (Value.int .u8 0)).length = grownCap w s.size 0 e := by
    have : s.data.toList.length = s.size := by simp
    simp only [List.length_append, bv, List.length_map, this, List.length_replicate]
    omega
  obtain ⟨cs, hcs⟩ : ∃ cs, cs = bv s.data.toList ++ List.replicate (grownCap w s.size 0 e - s.size) (Value.int .u8 0) := ⟨_, rfl⟩
  obtain ⟨c, hc⟩ : ∃ c, c = grownCap w s.size 0 e := ⟨_, rfl⟩
  have hcs' : cs.length = c := by rw [hcs, hsz, hc]
  have key : (Conv.stringToBytes e s).run P w = .ok (.slice (some ⟨w.heap.size, 0, none⟩) s.size c) ((w.drew.alloc (.cells cs.toArray e)).freeze ⟨w.heap.size, c, none⟩ 1) := by
    have hshape : (w.drew.alloc (.cells cs.toArray e)).shape? w.heap.size = some (e, c) := by
      have := heap_alloc_new w.drew (.cells cs.toArray e)
      simp only [World.shape?]
      rw [show w.heap.size = w.drew.heap.size from rfl, this]
      simp [hcs']
    simp only [Conv.stringToBytes, Sem.run_bind, run_choose, Question.forced, Bool.false_eq_true, if_false, Result.andThen_ok, hcap _ rfl, hdr, e1, newRow, run_newObj, Sem.run_pure, World.alloc_eq]
    rw [← hcs, ← hc]
    simp only [markStringish, Sem.run_bind, run_shape, World.size_drew, hshape, Result.andThen_ok, run_freeze, Sem.run_pure]
  refine ⟨_, _, key, ?_⟩
  have hnew : New w ((w.drew.alloc (.cells cs.toArray e)).freeze ⟨w.heap.size, c, none⟩ 1) w.heap.size cs e (c, c + 1) := by
    have hlt : w.heap.size < (w.drew.alloc (.cells cs.toArray e)).heap.size := by simp
    refine ⟨⟨rfl, rfl, rfl, by simp [World.freeze], fun k hk _ => ?_⟩, Nat.le_refl _, ?_⟩
    · simp only [World.freeze, Nat.succ_ne_zero, if_false, Array.getElem?_modify]
      rw [if_neg (by omega)]
      exact RowKit.Below.heap_alloc w.drew _ k hk
    · have := heap_alloc_new w.drew (.cells cs.toArray e)
      unfold At
      simp only [World.freeze, Nat.succ_ne_zero, if_false, Array.getElem?_modify, if_true]
      rw [show w.heap.size = w.drew.heap.size from rfl, this]
      simp
  refine ⟨Md.W_ext hnew.ext, k _ c (List.replicate (grownCap w s.size 0 e - s.size) (Value.int .u8 0)) _ ?_ ?_⟩
  · simp only [List.length_replicate]
    omega
  · rw [← hcs]
    exact hnew
end Go.Proofs.Ytjghlmbibimbiaa.Sx

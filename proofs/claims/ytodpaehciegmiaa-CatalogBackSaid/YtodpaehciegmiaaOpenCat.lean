import Derived.Test.YtodpaehciegmiaaOpenNode
import Derived.Test.YtodpaehciegmiaaBulk
import Derived.Test.YtodpaehciegmiaaCg0

/-
  Catalogs, opened out of an argument's reading.
-/



namespace Go.Proofs.Ytodpaehciegmiaa.Sx

open Go Go.ChangeShapes Go.WideShapes Go.ChangeAt Go.RowKit

variable {H : Type} {enc : TypeId × Value → H}

set_option maxRecDepth 100000

theorem trod_snap {m base : Nat} {w : World} {spare : Nat → Bool} {held : Bool} {cs : List Value} {x : DataW H × List MemPlace}
    (hf : DataW.trod enc Try.prog w base spare held m 61 cs = some x) : ∃ y : NSnap, cs = sv y ∧ RefOk y.2 ∧ y.1.size ≤ 9223372036854775807 := by
  obtain ⟨xs, k, _, hx0, hlen, hxs, hel⟩ := DataW.trod_struct Try.underlying61 hf
  have e0 : Try.prog.cellsOf 61 = 34 := by kernel_rfl
  have e1 : Try.prog.cellsOf 9 = 1 := by kernel_rfl
  have e2 : Try.prog.cellsOf 26 = 33 := by kernel_rfl
  rw [e0] at hlen
  have hx : xs.length = 2 := hxs
  have h1 := hel 0 _ rfl
  have h2 := hel 1 _ rfl
  rw [List.getElem?_eq_getElem (by omega)] at h1 h2
  obtain ⟨s, hs, hs2, hs3⟩ := DataW.trod_string Try.underlying9 h1
  obtain ⟨r, hr, hok⟩ := trod_ref h2
  have hs' : (cs.drop 0).take (Try.prog.cellsOf 9) = [.string s] := hs
  have hr' : (cs.drop 1).take (Try.prog.cellsOf 26) = nv r := hr
  rw [e1, List.drop_zero] at hs'
  rw [e2, List.take_of_length_le (by rw [List.length_drop]; omega)] at hr'
  refine ⟨(s, r), ?_, hok, ?_⟩
  · rw [← List.take_append_drop 1 cs, hs', hr']
    rfl
  · exact Nat.le_trans hs3 (Nat.le_of_eq rfl)
theorem open_catD {r : Reach} {b0 base : Nat} {w : World} {spare : Nat → Bool} {held : Bool} {v : Value} {d : DataW H} {ps : List MemPlace}
    (hval : Value.okWide Try.prog w r b0 29 v) (hd : DataW.Trod enc Try.prog w base spare held 29 v d ps) :
    ∃ t A c l, v = catV t A (List.length l) c ∧ CatAt w t A c l ∧ l.length ≤ 9223372036854775807 ∧ ∃ d0 d1, d = .agg [d0, d1] ∧ (d1 = .nil ∧ l = [] ∨ ∃ el sp, d1 = .slice el sp ∧ el.length = l.length) := by
  obtain ⟨cs, rfl, hsz, _⟩ : ∃ cs, v = .agg cs ∧ cs.size = Try.prog.cellsOf 29 ∧ Row.okWide Try.prog w r b0 29 cs := by
    unfold Value.okWide at hval
    rw [Try.underlying29] at hval
    exact hval
  obtain ⟨fuel, hf⟩ := hd
  obtain ⟨xs, k, _, hx0, hlen, hxs, hel⟩ := DataW.trod_struct Try.underlying29 hf
  have e0 : Try.prog.cellsOf 29 = 34 := by kernel_rfl
  have e1 : Try.prog.cellsOf 27 = 1 := by kernel_rfl
  have e2 : Try.prog.cellsOf 26 = 33 := by kernel_rfl
  have e3 : Try.prog.cellsOf 61 = 34 := by kernel_rfl
  rw [e0] at hlen
  have hx : xs.length = 2 := hxs
  have h1 := hel 0 _ rfl
  have h2 := hel 1 _ rfl
  rw [List.getElem?_eq_getElem (by omega)] at h1 h2
  obtain ⟨t, ht, htk⟩ := trod_ref h1
  have ht' : ((Value.agg cs).cells.toList.drop 0).take (Try.prog.cellsOf 26) = nv t := ht
  rw [e2, List.drop_zero] at ht'
  have key : ∃ A c l, (Value.agg cs).cells.toList = nv t ++ [.slice A (List.length l) c] ∧ SnapsOk l ∧ Cells w A (svs l) ∧ l.length ≤ c ∧ l.length ≤ 9223372036854775807 ∧ (xs[1].1 = .nil ∧ l = [] ∨ ∃ el sp, xs[1].1 = .slice el sp ∧ el.length = l.length) := by
    have e9 : maxLen = 9223372036854775807 := rfl
    have hcat : ∀ z, ((Value.agg cs).cells.toList.drop 33).take 1 = [z] → (Value.agg cs).cells.toList = nv t ++ [z] := fun z hz => by
      rw [← List.take_append_drop 33 (Value.agg cs).cells.toList, ht']
      rw [List.take_of_length_le (by rw [List.length_drop]; omega)] at hz
      rw [hz]
    rcases DataW.trod_slice Try.underlying27 h2 with ⟨h, hx⟩ | ⟨a, len, cap, elems, rest, n, _, h, hx, hb', hl, hm, hlen', hel', _, _⟩
    · have h' : ((Value.agg cs).cells.toList.drop 33).take (Try.prog.cellsOf 27) = [.slice none 0 0] := h
      rw [e1] at h'
      exact ⟨none, 0, [], hcat _ h', (fun x hx => by cases hx), .inl rfl, Nat.le_refl _, by decide, .inl ⟨by rw [hx], rfl⟩⟩
    · have h' : ((Value.agg cs).cells.toList.drop 33).take (Try.prog.cellsOf 27) = [.slice (some a) len cap] := h
      rw [e1] at h'
      obtain ⟨b, off, spot⟩ := a
      have hspot : 0 < len → spot = none := fun h0 => by
        have h1 := hel' 0 h0
        rw [List.getElem?_eq_getElem (by omega)] at h1
        obtain ⟨cs, h2, h3⟩ := Option.bind_eq_some_iff.mp h1
        rw [e3] at h2
        obtain ⟨_, h4, h5⟩ := World.cells?_some h2
        have g0 := h5 0 (by decide)
        rw [List.getElem?_eq_getElem (by omega)] at g0
        simpa [Addr.add] using World.cell?_spot g0
      have each : ∀ i, i < len → ∃ y : NSnap, (∀ j (hj : j < (sv y).length), w.cell? ⟨b, off + i * 34 + j, none⟩ = some (sv y)[j]) ∧ RefOk y.2 ∧ y.1.size ≤ 9223372036854775807 := fun i hi => by
        obtain rfl := hspot (by omega)
        have h1 := hel' i hi
        rw [List.getElem?_eq_getElem (by omega)] at h1
        obtain ⟨cs, h2, h3⟩ := Option.bind_eq_some_iff.mp h1
        rw [e3] at h2
        obtain ⟨_, h4, h5⟩ := World.cells?_some h2
        obtain ⟨y, rfl, hok, hbk⟩ := trod_snap h3
        have h34 : (sv y).length = 34 := sv_length hok.len
        refine ⟨y, fun j hj => ?_, hok, hbk⟩
        have := h5 j (by omega)
        rw [add_plain, add_plain] at this
        rw [this]
        exact List.getElem?_eq_getElem hj
      obtain ⟨l, hll, hp⟩ := pick_list (α := NSnap) each
      have hok : SnapsOk l := fun y hy => by
        obtain ⟨i, hi, rfl⟩ := List.getElem_of_mem hy
        exact ⟨(hp i hi).2.1, (hp i hi).2.2⟩
      subst hll
      refine ⟨some ⟨b, off, spot⟩, cap, l, hcat _ h', hok, ?_, hl, by omega, .inr ⟨_, _, by rw [hx], by rw [List.length_map]; omega⟩⟩
      by_cases h0 : l = []
      · exact .inl (by rw [h0]; rfl)
      · obtain rfl := hspot (List.length_pos_iff.2 h0)
        refine .inr ⟨b, off, rfl, fun q hq => ?_⟩
        have hsl := svs_length hok
        have hi : q / 34 < l.length := by omega
        have h34 := hok.len _ (List.getElem_mem hi)
        have g := (hp (q / 34) hi).1 (q % 34) (by omega)
        rw [show off + q / 34 * 34 + q % 34 = off + q from by omega] at g
        rw [g]
        have e := flat_get (f := sv) hok.len hi (j := q % 34) (by omega)
        rw [show q / 34 * 34 + q % 34 = q from by omega] at e
        have e2 : (svs l)[q]? = (sv l[q / 34])[q % 34]? := e
        rw [List.getElem?_eq_getElem hq, List.getElem?_eq_getElem (by omega)] at e2
        exact e2.symm
  obtain ⟨A, c, l, hc, hok, hcl, hlc, hlb, hld⟩ := key
  refine ⟨t, A, c, l, ?_, ⟨htk, hok, hcl, hlc⟩, hlb, xs[0].1, xs[1].1, ?_, hld⟩
  rotate_left
  · rw [(Prod.mk.inj hx0).1]
    congr 1
    refine List.ext_getElem (by rw [List.length_map]; exact hx) fun i h1 h2 => ?_
    rw [List.getElem_map]
    match i, h2 with
    | 0, _ => rfl
    | 1, _ => rfl
  have : cs.toList = nv t ++ [.slice A l.length c] := hc
  rw [catV, ← this]
theorem open_cat {r : Reach} {b0 base : Nat} {w : World} {spare : Nat → Bool} {held : Bool} {v : Value} {d : DataW H} {ps : List MemPlace}
    (hval : Value.okWide Try.prog w r b0 29 v) (hd : DataW.Trod enc Try.prog w base spare held 29 v d ps) :
    ∃ t A c l, v = catV t A (List.length l) c ∧ CatAt w t A c l ∧ l.length ≤ 9223372036854775807 := by
  obtain ⟨t, A, c, l, h1, h2, h3, _⟩ := open_catD hval hd
  exact ⟨t, A, c, l, h1, h2, h3⟩
end Go.Proofs.Ytodpaehciegmiaa.Sx

import Derived.Test.YtfphlbogblldbaaDv9

/-
  What is kept of what is loose: plain facts.
-/

namespace Go.Proofs.Ytfphlbogblldbaa

open Go Sx

set_option linter.unusedVariables false

set_option linter.unusedSimpArgs false

set_option maxRecDepth 100000

theorem laidL_get {l b : List UInt8} {a : Nat} (ha : a ≤ l.length) (j : Nat) : (laidL l a b)[j]? = if a ≤ j ∧ j < a + b.length then b[j - a]? else l[j]? := by
  by_cases hb : b = []
  · subst hb
    rw [laidL_nil, if_neg (by simp)]
  rw [laidL, if_neg hb]
  have hlen : (l ++ List.replicate (a + b.length - l.length) (0 : UInt8)).length = max l.length (a + b.length) := by rw [List.length_append, List.length_replicate]; omega
  have htk : ((l ++ List.replicate (a + b.length - l.length) (0 : UInt8)).take a).length = a := by rw [List.length_take, hlen]; omega
  by_cases h1 : j < a
  · rw [if_neg (by omega), List.getElem?_append_left (by omega), List.getElem?_take_of_lt h1, List.getElem?_append_left (by omega)]
  · rw [List.getElem?_append_right (by omega), htk]
    by_cases h2 : j < a + b.length
    · rw [if_pos ⟨by omega, h2⟩, List.getElem?_append_left (by omega)]
    · rw [if_neg (by omega), List.getElem?_append_right (by omega), List.getElem?_drop, show a + b.length + (j - a - b.length) = j from by omega]
      by_cases h3 : j < l.length
      · rw [List.getElem?_append_left h3]
      · rw [List.getElem?_eq_none (by omega), List.getElem?_eq_none (by omega)]
def layAll (s : List UInt8) (L : List LW) : List UInt8 := L.foldl (fun s x => laidL s x.1 (x.2.2.take x.2.1)) s
theorem layAll_append (s : List UInt8) (L M : List LW) : layAll s (L ++ M) = layAll (layAll s L) M := by simp [layAll]
theorem layAll_snoc (s : List UInt8) (L : List LW) (x : LW) : layAll s (L ++ [x]) = laidL (layAll s L) x.1 (x.2.2.take x.2.1) := by simp [layAll]
theorem loose_take (seen : List UInt8) (s : Nat) : (looseOf seen s).2.2.take (looseOf seen s).2.1 = (seen.drop s).take (min 512 (seen.length - s)) := by
  show ((seen.drop s).take 512 ++ List.replicate (512 - min 512 (seen.length - s)) 0).take (min 512 (seen.length - s)) = _
  rw [List.take_append_of_le_length (by rw [List.length_take, List.length_drop]; omega), List.take_take, Nat.min_eq_left (Nat.min_le_left _ _)]
theorem layAll_secs {seen b : List UInt8} {a : Nat} (ha : a ≤ seen.length) (hb : b ≠ []) : ∀ i, (∀ j, j < i → secS a j < a + b.length) → ∀ j, (layAll seen (loosesI (laidL seen a b) a i))[j]? = if j < secS a i then (laidL seen a b)[j]? else seen[j]?
  | 0, _, j => by
    show seen[j]? = _
    split
    · rename_i h
      rw [laidL_get ha, if_neg]
      unfold secS at h
      omega
    · rfl
  | i + 1, hp, j => by
    have ih := layAll_secs ha hb i (fun j hj => hp j (by omega))
    obtain ⟨s, es⟩ : ∃ s, secS a i = s := ⟨_, rfl⟩
    have es1 : secS a (i + 1) = s + 512 := by rw [← es]; unfold secS; omega
    have hs := hp i (by omega)
    have hlen := laidL_length (l := seen) (a := a) hb
    obtain ⟨X, eX⟩ : ∃ X, layAll seen (loosesI (laidL seen a b) a i) = X := ⟨_, rfl⟩
    rw [loosesI_succ, layAll_snoc, loose_take, eX]
    rw [eX] at ih
    rw [es] at ih hs ⊢
    rw [es1]
    obtain ⟨S, eS⟩ : ∃ S, laidL seen a b = S := ⟨_, rfl⟩
    rw [eS] at ih hlen ⊢
    have hXs : s ≤ X.length := by
      by_cases h0 : s = 0
      · omega
      · have h1 := ih (s - 1)
        rw [if_pos (by omega), List.getElem?_eq_getElem (l := S) (by omega)] at h1
        have := (List.getElem?_eq_some_iff.1 h1).1
        omega
    show (laidL X s ((S.drop s).take (min 512 (S.length - s))))[j]? = _
    rw [laidL_get hXs, List.length_take, List.length_drop]
    by_cases h1 : s ≤ j ∧ j < s + min (min 512 (S.length - s)) (S.length - s)
    · rw [if_pos h1, if_pos (by omega), List.getElem?_take_of_lt (by omega), List.getElem?_drop, show s + (j - s) = j from by omega]
    · rw [if_neg h1, ih]
      by_cases h2 : j < s
      · rw [if_pos h2, if_pos (by omega)]
      · rw [if_neg h2]
        by_cases h3 : j < s + 512
        · rw [if_pos h3, List.getElem?_eq_none (by omega), List.getElem?_eq_none (by omega)]
        · rw [if_neg h3]
theorem secS_N {a n : Nat} (hn : 0 < n) : a + n ≤ secS a (secN a n) ∧ ∀ j, j < secN a n → secS a j < a + n := by
  unfold secS secN
  rw [if_neg (by omega)]
  refine ⟨by omega, fun j hj => by omega⟩
theorem layAll_write {seen b : List UInt8} {a : Nat} (ha : a ≤ seen.length) : layAll seen (loosesI (laidL seen a b) a (secN a b.length)) = laidL seen a b := by
  by_cases hb : b = []
  · subst hb
    rw [laidL_nil]
    rfl
  have hpos : 0 < b.length := List.length_pos_iff.2 hb
  obtain ⟨h1, h2⟩ := secS_N (a := a) hpos
  apply List.ext_getElem?
  intro j
  rw [layAll_secs ha hb _ h2]
  split
  · rfl
  · rw [laidL_get ha, if_neg (by omega)]
theorem safeI_all {D : DV} {keep : List UInt8} (h : ∀ i, i < D.L.length → keepB keep i = true) : ∀ i, i ≤ D.L.length → safeI keep D i = layAll D.safe (D.L.take i)
  | 0, _ => rfl
  | i + 1, hi => by
    rw [safeI_succ (by omega), h i (by omega), if_pos rfl, safeI_all h i (by omega), List.take_succ_eq_append_getElem (by omega), layAll_snoc]
theorem safeI_none {D : DV} : ∀ i, safeI [] D i = D.safe
  | 0 => rfl
  | i + 1 => by
    have ih := safeI_none (D := D) i
    unfold safeI
    split
    · rw [if_neg (by unfold keepB; simp), ih]
    · exact ih
theorem keep_all {n i : Nat} (h : i / 8 < n) : keepB (List.replicate n 255) i = true := by
  unfold keepB
  rw [List.length_replicate, decide_eq_true h, Bool.true_and, List.getD_eq_getElem?_getD, List.getElem?_eq_getElem (by rw [List.length_replicate]; exact h), List.getElem_replicate]
  have h8 := Nat.mod_lt i (show 0 < 8 by decide)
  have : ∀ j : Fin 8, decide ((255 : UInt8).toNat / 2 ^ j.val % 2 ≠ 0) = true := by decide
  exact this ⟨i % 8, h8⟩
/-- A device that the call itself has made. -/
def Own (w : World) (db : Nat) (D : DV) (W : World) : Prop := ∃ O R, DevAt W O R db D ∧ (∀ k, O k → w.heap.size ≤ k) ∧ Ext Non w W
theorem Left.own {w W W' : World} {O R : Nat → Prop} {db : Nat} {D' : DV} (hO : ∀ k, O k → w.heap.size ≤ k) (x : Ext Non w W) (h : Left O R W db D' W') : Own w db D' W' := by
  obtain ⟨O', R', hd, h1, _, x2⟩ := h
  have hs := x.size
  exact ⟨O', R', hd, fun k hk => (h1 k hk).elim (hO k) (fun e => by omega), x.trans' x2 (fun _ _ x => x) (fun k hk ho => by have := hO k ho; omega)⟩
theorem Own.non {w W W' : World} {db : Nat} {D : DV} (h : Own w db D W) (x : Ext Non W W') : Own w db D W' := by
  obtain ⟨O, R, hd, h1, h2⟩ := h
  exact ⟨O, R, hd.non x, h1, h2.trans x⟩
theorem Own.ext {w W : World} {db : Nat} {D : DV} (h : Own w db D W) : Ext Non w W := by
  obtain ⟨O, R, hd, h1, h2⟩ := h
  exact h2
section

variable {w W : World} {db : Nat} {D : DV}
theorem OwnWrite_ret {a : Int} {B : Option Addr} {c : Nat} {b : List UInt8} (h : Own w db D W) (hw : Few D) (hLn : D.L.length ≤ 500000000) (hB : Cells w B (bv b)) (ha : -9223372036854775808 ≤ a ∧ a ≤ 9223372036854775807) :
    Ret cx.P 13 #[dp db, .int .i64 a, .slice B b.length c] W fun v w' => v = .int .i64 (writeR a b D).2 ∧ Own w db (writeR a b D).1 w' := by
  obtain ⟨O, R, hd, h1, h2⟩ := h
  refine (DvWrite_ret hd hw hLn (hB.ext h2 (fun _ _ x => x)) (fun hb k hk ho => ?_) ha).mono fun v w' ⟨e, hL⟩ => ⟨e, hL.own h1 h2⟩
  have := h1 k ho
  have := hB.lt (fun e => hb (by simpa [bv] using e)) hk
  omega
theorem OwnSync_ret (h : Own w db D W) (hw : Few D) (hdn : D.down = false) : Ret cx.P 11 #[dp db] W fun v w' => v = .int .i64 (stepD syncD D).2 ∧ Own w db (stepD syncD D).1 w' := by
  obtain ⟨O, R, hd, h1, h2⟩ := h
  exact (DvSync_ret hd hw hdn).mono fun v w' ⟨e, hL⟩ => ⟨e, hL.own h1 h2⟩
theorem OwnBeat_ret (h : Own w db D W) (hw : Few D) (hdn : D.down = false) : Ret cx.P 20 #[dp db] W fun v w' => v = .int .i64 (stepD id D).2 ∧ Own w db (stepD id D).1 w' := by
  obtain ⟨O, R, hd, h1, h2⟩ := h
  exact (DvBeat_ret hd hw hdn).mono fun v w' ⟨e, hL⟩ => ⟨e, hL.own h1 h2⟩
theorem OwnFail_ret {a : Int} {dn : Bool} (h : Own w db D W) (hdn : D.down = false) : Ret cx.P 19 #[dp db, .int .i64 a, .bool dn] W fun v w' => v = .int .i64 0 ∧ Own w db (failD a dn D) w' := by
  obtain ⟨O, R, hd, h1, h2⟩ := h
  exact (DvFail_ret hd hdn).mono fun v w' ⟨e, hL⟩ => ⟨e, hL.own h1 h2⟩
/-- What is kept lies in bytes that were made since. -/
theorem OwnStartNew_ret {W0 : World} {A : Option Addr} {c : Nat} {keep : List UInt8} (h : Own w db D W0) (x : Ext Non W0 W) (hK : Cells W A (bv keep)) (hA : ∀ k, inBlk A k → W0.heap.size ≤ k) (hLn : D.L.length ≤ 500000000) :
    Ret cx.P 14 #[dp db, .slice A keep.length c] W fun _ w' => Own w db (startD keep D) w' := by
  obtain ⟨O, R, hd, h1, h2⟩ := h
  exact (DvStart_ret (hd.non x) hK (fun _ k hk ho => by have := hd.lo k ho; have := hA k hk; omega) hLn).mono fun v w' hL => hL.own h1 (h2.trans x)
/-- What is kept is an argument, or nothing. -/
theorem OwnStartArg_ret {A : Option Addr} {c : Nat} {keep : List UInt8} (h : Own w db D W) (hK : Cells w A (bv keep)) (hLn : D.L.length ≤ 500000000) :
    Ret cx.P 14 #[dp db, .slice A keep.length c] W fun _ w' => Own w db (startD keep D) w' := by
  obtain ⟨O, R, hd, h1, h2⟩ := h
  refine (DvStart_ret hd (hK.ext h2 (fun _ _ x => x)) (fun hb k hk ho => ?_) hLn).mono fun v w' hL => hL.own h1 h2
  have := h1 k ho
  have := hK.lt (fun e => hb (by simpa [bv] using e)) hk
  omega
theorem OwnBytes_ret (h : Own w db D W) : Ret cx.P 12 #[dp db] W fun v w' => OB w' W.heap.size v D.seen ∧ Ext Non W w' := by
  obtain ⟨O, R, hd, h1, h2⟩ := h
  exact DvBytes_ret hd
theorem OwnLoose_ret (h : Own w db D W) : Ret cx.P 15 #[dp db] W fun v w' => v = .int .i64 (D.L.length : Int) ∧ w' = W := by
  obtain ⟨O, R, hd, h1, h2⟩ := h
  exact DvLoose_ret hd
theorem OwnSteps_ret (h : Own w db D W) : Ret cx.P 21 #[dp db] W fun v w' => v = .int .i64 (D.steps : Int) ∧ w' = W := by
  obtain ⟨O, R, hd, h1, h2⟩ := h
  exact DvSteps_ret hd
theorem OwnDown_ret (h : Own w db D W) : Ret cx.P 16 #[dp db] W fun v w' => v = .bool D.down ∧ w' = W := by
  obtain ⟨O, R, hd, h1, h2⟩ := h
  exact DvDown_ret hd
theorem OwnReadDown_ret {a n : Int} (h : Own w db D W) (hdn : D.down = true) : Ret cx.P 22 #[dp db, .int .i64 a, .int .i64 n] W fun v w' => v = .tuple #[.slice none 0 0, .int .i64 20] ∧ w' = W := by
  obtain ⟨O, R, hd, h1, h2⟩ := h
  exact DvReadDown_ret hd hdn
theorem OwnFailDown_ret {a : Int} {dn : Bool} (h : Own w db D W) (hdn : D.down = true) : Ret cx.P 19 #[dp db, .int .i64 a, .bool dn] W fun v w' => v = .int .i64 20 ∧ w' = W := by
  obtain ⟨O, R, hd, h1, h2⟩ := h
  exact DvFailDown_ret hd hdn
theorem OwnBeatDown_ret (h : Own w db D W) (hdn : D.down = true) : Ret cx.P 20 #[dp db] W fun v w' => v = .int .i64 20 ∧ w' = W := by
  obtain ⟨O, R, hd, h1, h2⟩ := h
  exact DvBeatDown_ret hd hdn
theorem OwnSyncDown_ret (h : Own w db D W) (hdn : D.down = true) : Ret cx.P 11 #[dp db] W fun v w' => v = .int .i64 20 ∧ Ext Non W w' := by
  obtain ⟨O, R, hd, h1, h2⟩ := h
  exact DvSyncDown_ret hd hdn
theorem OwnNew_ret (most : Int) (w : World) : Ret cx.P 18 #[.int .i64 most] w fun v w' => ∃ db, v = dp db ∧ Own w db (newD most) w' := by
  refine (DvNew_ret most w).mono ?_
  rintro v w' ⟨db, e, hdb, hd, x⟩
  exact ⟨db, e, _, _, hd, fun k hk => by have h1 : k = db := hk; omega, x⟩
end

end Go.Proofs.Ytfphlbogblldbaa

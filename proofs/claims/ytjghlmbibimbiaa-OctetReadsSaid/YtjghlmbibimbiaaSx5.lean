
/-
  The conditions of an operation that reads memory at most are sound: the whole of it.
-/
import Derived.Test.YtjghlmbibimbiaaSx4

namespace Go.Proofs.Ytjghlmbibimbiaa.Sx

open Go

set_option linter.unusedVariables false

set_option linter.unusedSimpArgs false

section

variable {P : Program} {tab : Tab} {K : Value → Prop}

theorem guard_none {P : Program} {op : BinOp} {t : TypeId} {x y : Operand} {a b : Value} (h : (op ≠ .eql ∧ op ≠ .neq) ∨ (a ≠ .nilIface ∧ ∀ cs, a ≠ .agg cs)) (w : World) :
    (eqGuard op t x y a b).run P w = .ok () w := by
  unfold eqGuard
  rcases h with ⟨h1, h2⟩ | ⟨h1, h2⟩
  · cases op <;> first | exact absurd rfl h1 | exact absurd rfl h2 | rfl
  · cases op <;> first | rfl | skip
    all_goals
      cases a <;> first | exact absurd rfl h1 | exact absurd rfl (h2 _) | (simp; done) | rfl

theorem eqv_sound {t : TypeId} {a b : Value} {KB : Bool → Prop} (h : Eqv P t a b KB) : ∃ r, eqPlain a = true ∧ (∀ w, (Op.equal t a b).run P w = .ok r w) ∧
    (∀ op x y w, (eqGuard op t x y a b).run P w = .ok () w) ∧ KB r := by
  obtain ⟨r, h0, h1, h2, h3⟩ := h.out
  exact ⟨r, h0, h1, h2, h3⟩

theorem bin_eql (t : TypeId) (a b : Value) (h0 : eqPlain a = true) (w : World) {r : Bool} (h : (Op.equal t a b).run P w = .ok r w) :
    (binOp .eql t a b).run P w = .ok (.bool r) w ∧ (binOp .neq t a b).run P w = .ok (.bool (!r)) w := by
  have e1 : binOp .eql t a b = (do pure (.bool (← Op.equal t a b))) := by
    cases a <;> first | (simp [eqPlain] at h0; done) | (cases b <;> rfl)
  have e2 : binOp .neq t a b = (do pure (.bool (!(← Op.equal t a b)))) := by
    cases a <;> first | (simp [eqPlain] at h0; done) | (cases b <;> rfl)
  rw [e1, e2]
  simp [h]

theorem equal_bool {t : TypeId} (ht : P.underlying t = some .bool) (a b : Bool) (w : World) : (Op.equal t (.bool a) (.bool b)).run P w = .ok (a == b) w := by
  show (Op.equalIn (9999 + 1) t _ _).run P w = _
  rw [Op.equalIn]
  simp [run_underlying ht]
theorem equal_ptr_sn {t e : TypeId} (ht : P.underlying t = some (.pointer e)) (a : Addr) (w : World) : (Op.equal t (.pointer (some a)) (.pointer none)).run P w = .ok false w := by
  show (Op.equalIn (9999 + 1) t _ _).run P w = _
  rw [Op.equalIn]
  simp [run_underlying ht]
theorem equal_ptr_ns {t e : TypeId} (ht : P.underlying t = some (.pointer e)) (a : Addr) (w : World) : (Op.equal t (.pointer none) (.pointer (some a))).run P w = .ok false w := by
  show (Op.equalIn (9999 + 1) t _ _).run P w = _
  rw [Op.equalIn]
  simp [run_underlying ht]
theorem equal_ptr_nn {t e : TypeId} (ht : P.underlying t = some (.pointer e)) (w : World) : (Op.equal t (.pointer none) (.pointer none)).run P w = .ok true w := by
  show (Op.equalIn (9999 + 1) t _ _).run P w = _
  rw [Op.equalIn]
  simp [run_underlying ht]

/-- A binary operation: its value, whatever the world. -/
def BinOk (P : Program) (op : BinOp) (t : TypeId) (a b : Value) (K : Value → Prop) : Prop :=
  ∃ v, (∀ x y w, (do eqGuard op t x y a b; binOp op t a b : Sem Value).run P w = .ok v w) ∧ K v
theorem BinOk.of {op : BinOp} {t : TypeId} {a b : Value} {v : Value} (hg : ∀ x y w, (eqGuard op t x y a b).run P w = .ok () w) (h : ∀ w, (binOp op t a b).run P w = .ok v w) (k : K v) : BinOk P op t a b K :=
  ⟨v, fun x y w => by simp [hg x y w, h w], k⟩

theorem shl_sound {t : TypeId} {k k' : IntKind} {a b : Int} (hb : 0 ≤ b) (w : World) :
    (binOp .shl t (.int k a) (.int k' b)).run P w = .ok (.int k (k.wrap (a * 2 ^ min b.toNat k.bits))) w := by
  have : ¬ b < 0 := by omega
  simp [binOp, Op.shift, this]
theorem shr_sound {t : TypeId} {k k' : IntKind} {a b : Int} (hb : 0 ≤ b) (w : World) :
    (binOp .shr t (.int k a) (.int k' b)).run P w = .ok (.int k (a.fdiv (2 ^ min b.toNat k.bits))) w := by
  have : ¬ b < 0 := by omega
  simp [binOp, Op.shift, this]

theorem equal_slice_nil {t e : TypeId} (ht : P.underlying t = some (.slice e)) (A : Option Addr) (n c n' c' : Nat) (w : World) : (Op.equal t (.slice A n c) (.slice none n' c')).run P w = .ok A.isNone w := by
  show (Op.equalIn (9999 + 1) t _ _).run P w = _
  rw [Op.equalIn]
  cases A <;> simp [run_underlying ht]
theorem BinOk.eqv {t : TypeId} {a b : Value} {K : Bool → Prop} (h : Eqv P t a b K) (neg : Bool) (K' : Value → Prop) (hk : ∀ r, K r → K' (.bool (if neg then !r else r))) :
    BinOk P (if neg then .neq else .eql) t a b K' := by
  obtain ⟨r, h0, h1, h2, h3⟩ := eqv_sound h
  cases neg
  · exact .of (h2 _) (fun w => (bin_eql t a b h0 w (h1 w)).1) (hk r h3)
  · exact .of (h2 _) (fun w => (bin_eql t a b h0 w (h1 w)).2) (hk r h3)
theorem BinOk.eq_of {t : TypeId} {a b : Value} {r : Bool} (h0 : eqPlain a = true) (ha : ∀ cs, a ≠ .agg cs) (h1 : ∀ w, (Op.equal t a b).run P w = .ok r w) (k : K (.bool r)) : BinOk P .eql t a b K :=
  .of (fun _ _ w => guard_none (.inr ⟨fun e => by subst e; simp [eqPlain] at h0, ha⟩) w) (fun w => (bin_eql t a b h0 w (h1 w)).1) k
theorem BinOk.ne_of {t : TypeId} {a b : Value} {r : Bool} (h0 : eqPlain a = true) (ha : ∀ cs, a ≠ .agg cs) (h1 : ∀ w, (Op.equal t a b).run P w = .ok r w) (k : K (.bool (!r))) : BinOk P .neq t a b K :=
  .of (fun _ _ w => guard_none (.inr ⟨fun e => by subst e; simp [eqPlain] at h0, ha⟩) w) (fun w => (bin_eql t a b h0 w (h1 w)).2) k

theorem bin_sound (hT : TabOk P tab) {op : BinOp} {t : TypeId} {a b : Value} (h : binVC P tab op t a b K) : BinOk P op t a b K := by
  unfold binVC at h
  split at h
  · exact .of (fun _ _ w => guard_none (.inl ⟨by simp, by simp⟩) w) (shl_sound h.h) h.k.out
  · exact .of (fun _ _ w => guard_none (.inl ⟨by simp, by simp⟩) w) (shr_sound h.h) h.k.out
  · rename_i hsl hsr
    split at h
    · rename_i he
      obtain rfl := of_decide_eq_true he
      obtain ⟨v, h1, h2⟩ := int_sound (P := P) h (fun e => hsl e) (fun e => hsr e)
      exact .of (fun _ _ w => guard_none (.inr ⟨by simp, by simp⟩) w) (h1 t) h2
    · exact h.elim
  · obtain ⟨v, h1, h2⟩ := str_sound (P := P) h
    exact .of (fun _ _ w => guard_none (.inr ⟨by simp, by simp⟩) w) (h1 t) h2
  · split at h
    · rename_i ht _ _
      exact .eq_of rfl (by simp) (equal_bool (hT _ _ ht).bool _ _) h.out
    · rename_i ht _ _
      exact .eq_of rfl (by simp) (equal_ptr_sn (hT _ _ ht).ptr _) h
    · rename_i ht _ _
      exact .eq_of rfl (by simp) (equal_ptr_ns (hT _ _ ht).ptr _) h
    · rename_i ht _ _
      exact .eq_of rfl (by simp) (equal_ptr_nn (hT _ _ ht).ptr) h
    · rename_i ht _ _
      exact .eq_of rfl (by simp) (equal_slice_nil (hT _ _ ht).slice _ _ _ _ _) h.out
    · exact BinOk.eqv h false K (fun r k => k)
  · split at h
    · rename_i ht _ _
      exact .ne_of rfl (by simp) (equal_bool (hT _ _ ht).bool _ _) h.out
    · rename_i ht _ _
      exact .ne_of rfl (by simp) (equal_ptr_sn (hT _ _ ht).ptr _) h
    · rename_i ht _ _
      exact .ne_of rfl (by simp) (equal_ptr_ns (hT _ _ ht).ptr _) h
    · rename_i ht _ _
      exact .ne_of rfl (by simp) (equal_ptr_nn (hT _ _ ht).ptr) h
    · rename_i ht _ _
      exact .ne_of rfl (by simp) (equal_slice_nil (hT _ _ ht).slice _ _ _ _ _) h.out
    · exact BinOk.eqv h true K (fun r k => k)
  · exact h.elim

theorem un_sound {op : UnOp} {x : Value} (h : unVC op x K) : ∃ v, (∀ w, (Op.unary op x).run P w = .ok v w) ∧ K v := by
  unfold unVC at h
  split at h
  · exact ⟨_, fun w => rfl, h⟩
  · exact ⟨_, fun w => rfl, h⟩
  · exact ⟨_, fun w => rfl, h.out⟩
  · exact ⟨_, fun w => rfl, h.out⟩
  · exact h.elim
end

end Go.Proofs.Ytjghlmbibimbiaa.Sx

import Derived.Test.YtilgolbpiomdmaaDoorSxA

/-
  What holds behind a piece of code, said by hand.
-/

namespace Go.Proofs.YtilgolbpiomdmaaDoor.Sx

open Go

set_option linter.unusedVariables false

set_option linter.unusedSimpArgs false

/-- What holds behind a piece of code, said by hand. -/
theorem G.mid {ds : List Deferred} {P : Program} {n : Nat} {c : Code} {l : Env} {w : World} {Q : Exit → Env → World → Prop} (M : Env → World → Prop) (h : Gd ds P n c l w (thenQ M (fun _ _ _ => False))) (k : ∀ l w, M l w → Q .normal l w) : Gd ds P n c l w Q := by
  refine ⟨fun ro a ha => wpIn_mono (h.out ro a ha) fun e a w hq => ?_⟩
  cases e with
  | normal => obtain ⟨l', hl, hm⟩ := hq; exact ⟨l', hl, k _ _ hm⟩
  | exit id => obtain ⟨l', hl, hm⟩ := hq; exact hm.elim
  | goto l => obtain ⟨l', hl, hm⟩ := hq; exact hm.elim
  | ret => obtain ⟨l', hl, hm⟩ := hq; exact hm.elim
  | panic c => exact hq
  | outgrown => exact hq

end Go.Proofs.YtilgolbpiomdmaaDoor.Sx

/-
  What a flood reaches: the plain law.
-/
import Derived.Test.YtojfbcgfeojdfaaNMir
import Derived.Test.YtojfbcgfeojdfaaNMkr
import Derived.Test.YtojfbcgfeojdfaaNReach
/-
  What a flood reaches: the plain law.
-/
namespace Go.Proofs.Ytojfbcgfeojdfaa
set_option linter.unusedSimpArgs false
set_option linter.unusedVariables false
open Go.RowKit

/-- where a flood stands -/
structure FI (n : Nat) (st : Nat → Nat → Bool) (src : Nat → Bool) (f : Nat → Bool) (q : List Nat) : Prop where
  seed : ∀ c, c < n → src c = true → f c = true
  que : ∀ c ∈ q, c < n ∧ f c = true
  only : ∀ c, c < n → f c = true → Reach n st (fun _ => true) src c
  shut : ∀ c, c < n → f c = true → c ∈ q ∨ ∀ d, d < n → st c d = true → f d = true
theorem FI.start {n : Nat} {st : Nat → Nat → Bool} {src : Nat → Bool} {q : List Nat} (h : ∀ c ∈ q, c < n ∧ src c = true) (h2 : ∀ c, c < n → src c = true → c ∈ q) : FI n st src src q :=
  ⟨fun _ _ h => h, h, fun c hc hs => Reach.base hc hs rfl, fun c hc hs => .inl (h2 c hc hs)⟩
theorem FI.done {n : Nat} {st : Nat → Nat → Bool} {src f : Nat → Bool} (h : FI n st src f []) {c : Nat} (hc : c < n) : f c = reachB n st (fun _ => true) src c := by
  rw [Bool.eq_iff_iff, reachB_iff]
  refine ⟨h.only c hc, fun hr => ?_⟩
  have := hr.least (T := fun c => c < n ∧ f c = true) (fun c hc hs _ => ⟨hc, h.seed c hc hs⟩) (fun d c hd hc _ hst => ⟨hc, ?_⟩)
  · exact this.2
  · rcases h.shut d hd.1 hd.2 with h1 | h1
    · simp at h1
    · exact h1 c hc hst
end Go.Proofs.Ytojfbcgfeojdfaa

/-
  What a flood reaches: the plain law.
-/
import Derived.Test.YtpflnmejbialjaaDoorVGood
import Derived.Test.YtpflnmejbialjaaDoorVMkr
import Derived.Test.YtpflnmejbialjaaDoorVReach
/-
  What a flood reaches: the plain law.
-/
namespace Go.Proofs.YtpflnmejbialjaaDoor
set_option linter.unusedSimpArgs false
set_option linter.unusedVariables false
open Go.RowKit

/-- marked behind the first k steps from x, and what is new -/
def stepF (st : Nat → Nat → Bool) (x : Nat) (f : Nat → Bool) (k : Nat) (c : Nat) : Bool := f c || (decide (c < k) && st x c)
def newF (st : Nat → Nat → Bool) (x : Nat) (f : Nat → Bool) (k : Nat) : List Nat := (List.range k).filter fun c => !f c && st x c
/-- where a flood stands -/
structure FI (n : Nat) (st : Nat → Nat → Bool) (src : Nat → Bool) (f : Nat → Bool) (q : List Nat) : Prop where
  seed : ∀ c, c < n → src c = true → f c = true
  que : ∀ c ∈ q, c < n ∧ f c = true
  only : ∀ c, c < n → f c = true → Reach n st (fun _ => true) src c
  shut : ∀ c, c < n → f c = true → c ∈ q ∨ ∀ d, d < n → st c d = true → f d = true
theorem FI.start {n : Nat} {st : Nat → Nat → Bool} {src : Nat → Bool} {q : List Nat} (h : ∀ c ∈ q, c < n ∧ src c = true) (h2 : ∀ c, c < n → src c = true → c ∈ q) : FI n st src src q :=
  ⟨fun _ _ h => h, h, fun c hc hs => Reach.base hc hs rfl, fun c hc hs => .inl (h2 c hc hs)⟩
theorem FI.step {n : Nat} {st : Nat → Nat → Bool} {src f : Nat → Bool} {x : Nat} {q : List Nat} (h : FI n st src f (x :: q)) : FI n st src (stepF st x f n) (q ++ newF st x f n) := by
  obtain ⟨hx, hfx⟩ := h.que x (by simp)
  refine ⟨fun c hc hs => ?_, fun c hc => ?_, fun c hc hf => ?_, fun c hc hf => ?_⟩
  · simp [stepF, h.seed c hc hs]
  · rcases List.mem_append.1 hc with hc | hc
    · obtain ⟨h1, h2⟩ := h.que c (by simp [hc])
      exact ⟨h1, by simp [stepF, h2]⟩
    · obtain ⟨h1, h2⟩ := List.mem_filter.1 hc
      have h3 := List.mem_range.1 h1
      simp only [Bool.and_eq_true] at h2
      exact ⟨h3, by simp [stepF, h3, h2.2]⟩
  · simp only [stepF, Bool.or_eq_true, Bool.and_eq_true, decide_eq_true_eq] at hf
    rcases hf with hf | hf
    · exact h.only c hc hf
    · exact Reach.step (h.only x hx hfx) hc rfl hf.2
  · by_cases h1 : f c = true
    · rcases h.shut c hc h1 with h2 | h2
      · rcases List.mem_cons.1 h2 with rfl | h2
        · refine .inr fun d hd hst => ?_
          simp [stepF, hd, hst]
        · exact .inl (by simp [h2])
      · refine .inr fun d hd hst => ?_
        simp [stepF, h2 d hd hst]
    · refine .inl (List.mem_append_right _ (List.mem_filter.2 ⟨List.mem_range.2 hc, ?_⟩))
      simp only [stepF, Bool.or_eq_true, Bool.and_eq_true] at hf
      rcases hf with hf | hf
      · exact absurd hf h1
      · simp [h1, hf.2]
theorem FI.done {n : Nat} {st : Nat → Nat → Bool} {src f : Nat → Bool} (h : FI n st src f []) {c : Nat} (hc : c < n) : f c = reachB n st (fun _ => true) src c := by
  rw [Bool.eq_iff_iff, reachB_iff]
  refine ⟨h.only c hc, fun hr => ?_⟩
  have := hr.least (T := fun c => c < n ∧ f c = true) (fun c hc hs _ => ⟨hc, h.seed c hc hs⟩) (fun d c hd hc _ hst => ⟨hc, ?_⟩)
  · exact this.2
  · rcases h.shut d hd.1 hd.2 with h1 | h1
    · simp at h1
    · exact h1 c hc hst
end Go.Proofs.YtpflnmejbialjaaDoor

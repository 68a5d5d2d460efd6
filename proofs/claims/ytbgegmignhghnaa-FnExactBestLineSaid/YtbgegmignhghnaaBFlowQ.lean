/-
  The program's net, and what the law on lines asks for: plain Lean.
-/
import Derived.Test.YtbgegmignhghnaaBFlowG
import Derived.Test.YtbgegmignhghnaaBFlowE
import Derived.Test.YtbgegmignhghnaaBSaved
import Derived.Test.YtbgegmignhghnaaBLaw
import Derived.Test.YtbgegmignhghnaaBRd
import Derived.Test.YtbgegmignhghnaaBWrap
/-
  The program's net, and what the law on lines asks for: plain Lean.
-/
namespace Go.Proofs.Ytbgegmignhghnaa
set_option linter.unusedSimpArgs false
set_option linter.unusedVariables false
open Go.RowKit

section
variable {n : Nat} {near : Nat → Nat → Bool} {burn src snk : Nat → Bool} {s t : Nat} {i o : Nat → Nat}
end
section
variable {W n : Nat} {xs ss ts : List Int}
/-- where there is a line no source stands beside an asset -/
theorem line_open {line : List Int} (hl : setB n line = true) (hs : setB n ss = true) (ht : setB n ts = true) (hb : lineB W n xs ss ts line = true) : openB W n xs ss ts = false := by
  obtain ⟨h1, h2⟩ := (lineB_iff hl ht).1 hb
  have hsm := (setB_iff.1 hs).2
  cases e : openB W n xs ss ts
  · rfl
  · exfalso
    unfold openB at e
    rw [List.any_eq_true] at e
    obtain ⟨x, hx, hxb⟩ := e
    rw [Bool.and_eq_true] at hxb
    obtain ⟨x0, x1⟩ := hsm x hx
    obtain ⟨c, rfl⟩ := Int.eq_ofNat_of_zero_le x0
    rw [Int.toNat_natCast] at hxb
    obtain ⟨d, hd, h3, h4, h5⟩ := touch_tch.1 hxb.2
    have hno : ∀ y : Nat, y < n → (hasI ss (y : Int) = true ∨ hasI ts (y : Int) = true) → hasI line (y : Int) = false := fun y hy h => by
      cases e2 : hasI line (y : Int)
      · rfl
      · have h6 := freeP_iff.1 (h1 y hy e2)
        rw [h6.2.1, h6.2.2] at h
        simp at h
    have hc : Reach n (nearN W) (fun k => brn xs k && !hasI line (k : Nat)) (fun k => hasI ss (k : Nat)) c := Reach.base (by omega) (hasI_iff.2 hx) (by simp [hxb.1, hno c (by omega) (.inl (hasI_iff.2 hx))])
    exact h2 d hd h5 (hc.step hd (by simp [h4, hno d hd (.inr h5)]) h3)
end
end Go.Proofs.Ytbgegmignhghnaa

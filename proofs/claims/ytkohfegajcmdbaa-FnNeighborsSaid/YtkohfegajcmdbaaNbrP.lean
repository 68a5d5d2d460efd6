/-
  Plain laws for neighbors, steps and reach.
-/
import Derived.Test.YtkohfegajcmdbaaNear
import Derived.Test.YtkohfegajcmdbaaSets
import Derived.Test.YtkohfegajcmdbaaFloodW
import Derived.Test.YtkohfegajcmdbaaLawV
namespace Go.Proofs.Ytkohfegajcmdbaa
set_option linter.unusedSimpArgs false
set_option linter.unusedVariables false
open Go.RowKit

theorem hasV_hasI (xs : List Int) (x : Int) : hasV xs x = hasI xs x := rfl
theorem hasI_cellsN {n : Nat} {p : Nat → Bool} {m : Nat} (h : m < n) : hasI (cellsN n p) m = p m := by
  cases hp : p m
  · cases hh : hasI (cellsN n p) m with
    | false => rfl
    | true =>
      obtain ⟨c, e, h1, h2⟩ := cellsN_mem.1 (hasI_iff.1 hh)
      obtain rfl : m = c := by omega
      rw [hp] at h2
      cases h2
  · exact hasI_iff.2 (cellsN_mem.2 ⟨m, rfl, h, hp⟩)
theorem apI_tri (W a b c : Nat) : apI W a b ≤ apI W a c + apI W c b := by
  unfold apI dI
  generalize a % W = a1
  generalize b % W = b1
  generalize c % W = c1
  generalize a / W = a2
  generalize b / W = b2
  generalize c / W = c2
  omega
theorem apI_zero {W a b : Nat} : apI W a b = 0 ↔ a = b := by
  constructor
  · intro h
    have h1 := Nat.div_add_mod a W
    have h2 := Nat.div_add_mod b W
    unfold apI dI at h
    generalize a % W = a1 at h h1
    generalize b % W = b1 at h h2
    generalize a / W = a2 at h h1
    generalize b / W = b2 at h h2
    obtain rfl : a1 = b1 := by omega
    obtain rfl : a2 = b2 := by omega
    omega
  · rintro rfl
    unfold apI dI
    omega
theorem near_at {W n d i : Nat} (hd : d < n) (hi : i < (cellsN n (nearN W d)).length) : ∃ c : Nat, (cellsN n (nearN W d)).getD i 0 = (c : Int) ∧ c < n ∧ apI W d c = 1 ∧ hasI (cellsN n (nearN W c)) d = true := by
  obtain ⟨c, h1, h2, h3⟩ := cellsN_mem.1 (getD_mem hi)
  refine ⟨c, h1, h2, by simpa [nearN] using h3, ?_⟩
  rw [hasI_cellsN hd, nearN_symm]
  exact h3
section
variable {n : Nat} {near : Nat → Nat → Bool} {burn src : Nat → Bool}
theorem reach_iff {c : Nat} : Reach n near burn src c ↔ (c < n ∧ burn c = true ∧ (src c = true ∨ ∃ d, Reach n near burn src d ∧ near d c = true)) := by
  constructor
  · rintro ⟨k, h⟩
    cases k with
    | zero => exact ⟨h.1, h.2.2, .inl h.2.1⟩
    | succ k =>
      induction k generalizing c with
      | zero =>
        rcases h with h | ⟨h1, h2, d, h3, h4⟩
        · exact ⟨h.1, h.2.2, .inl h.2.1⟩
        · exact ⟨h1, h2, .inr ⟨d, ⟨0, h3⟩, h4⟩⟩
      | succ k ih =>
        rcases h with h | ⟨h1, h2, d, h3, h4⟩
        · exact ih h
        · exact ⟨h1, h2, .inr ⟨d, ⟨_, h3⟩, h4⟩⟩
  · rintro ⟨h1, h2, h3 | ⟨d, h3, h4⟩⟩
    · exact Reach.base h1 h3 h2
    · exact Reach.step h3 h1 h2 h4
theorem reach_again {c : Nat} : Reach n near burn (fun k => hasI (cellsN n (reachB n near burn src)) k) c ↔ Reach n near burn src c := by
  constructor
  · intro h
    refine h.least (T := Reach n near burn src) (fun c hc hs _ => ?_) (fun d c hd hc hb hn => Reach.step hd hc hb hn)
    rw [hasI_cellsN hc] at hs
    exact reachB_iff.1 hs
  · intro h
    obtain ⟨h1, h2⟩ := h.lt
    exact Reach.base h1 (by rw [hasI_cellsN h1]; exact reachB_iff.2 h) h2
end
theorem reachL_again (W n : Nat) (xs : List Int) (src : Nat → Bool) : reachL W n xs (fun k => hasI (reachL W n xs src) k) = reachL W n xs src := by
  refine cellsN_congr fun c hc => ?_
  rw [Bool.eq_iff_iff, reachB_iff, reachB_iff]
  exact reach_again
theorem reachL_burn (W n : Nat) (xs : List Int) (src : Nat → Bool) : withinV (reachL W n xs src) (cellsN n (brn xs)) = true := by
  rw [withinV_iff]
  intro x hx
  obtain ⟨c, h1, h2, h3⟩ := cellsN_mem.1 hx
  exact cellsN_mem.2 ⟨c, h1, h2, (reachB_iff.1 h3).lt.2⟩
/-- a cell that burns is reached if it is one of the first, or near to one that is reached -/
theorem reach_next {W n : Nat} {xs cs : List Int} {c : Nat} (hc : c < n) (hb : brn xs c = true) : hasI (reachL W n xs (fun k => hasI cs k)) c = (hasI cs c || (cellsN n (nearN W c)).any fun d => hasI (reachL W n xs (fun k => hasI cs k)) d) := by
  rw [Bool.eq_iff_iff, Bool.or_eq_true, List.any_eq_true]
  unfold reachL
  rw [hasI_cellsN hc, reachB_iff, reach_iff]
  constructor
  · rintro ⟨_, _, h | ⟨d, h3, h4⟩⟩
    · exact .inl h
    · refine .inr ⟨d, cellsN_mem.2 ⟨d, rfl, h3.lt.1, by rw [nearN_symm]; exact h4⟩, ?_⟩
      rw [hasI_cellsN h3.lt.1]
      exact reachB_iff.2 h3
  · rintro (h | ⟨x, hx, h⟩)
    · exact ⟨hc, hb, .inl h⟩
    · obtain ⟨d, rfl, h2, h3⟩ := cellsN_mem.1 hx
      rw [hasI_cellsN h2] at h
      exact ⟨hc, hb, .inr ⟨d, reachB_iff.1 h, by rw [nearN_symm]; exact h3⟩⟩
end Go.Proofs.Ytkohfegajcmdbaa

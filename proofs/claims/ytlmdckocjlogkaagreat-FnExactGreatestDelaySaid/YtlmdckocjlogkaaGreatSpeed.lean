/-
  Speeds and work that is done.
-/
import Derived.Test.YtlmdckocjlogkaaGreatArr
import Derived.Test.YtlmdckocjlogkaaGreatFlPhase
namespace Go.Proofs.YtlmdckocjlogkaaGreat
set_option linter.unusedSimpArgs false
set_option linter.unusedVariables false
open Go.RowKit

/-- the speed from a tick on -/
def spd (l : List PhaseI) (t : Int) : Int := l.foldl (fun o p => if p.fr ≤ t then p.sp else o) 0
def phOK (l : List PhaseI) (k : Nat) : Bool := inB (l.getD k PhaseI.zero).fr 0 9999 && inB (l.getD k PhaseI.zero).sp 1 9 && (if k = 0 then decide ((l.getD k PhaseI.zero).fr = 0) else decide ((l.getD (k - 1) PhaseI.zero).fr < (l.getD k PhaseI.zero).fr))
def phasesB (l : List PhaseI) : Bool := (List.range l.length).all (phOK l) && inB l.length 1 6
theorem phasesB_true {l : List PhaseI} (h : phasesB l = true) : (∀ k, k < l.length → phOK l k = true) ∧ 1 ≤ l.length ∧ l.length ≤ 6 := by
  unfold phasesB at h
  rw [Bool.and_eq_true, List.all_eq_true] at h
  have := inB_true h.2
  exact ⟨fun k hk => h.1 k (List.mem_range.2 hk), by omega, by omega⟩
theorem phOK_true {l : List PhaseI} {k : Nat} (h : phOK l k = true) : (0 ≤ (l.getD k PhaseI.zero).fr ∧ (l.getD k PhaseI.zero).fr ≤ 9999) ∧ (1 ≤ (l.getD k PhaseI.zero).sp ∧ (l.getD k PhaseI.zero).sp ≤ 9) ∧ (k = 0 → (l.getD k PhaseI.zero).fr = 0) ∧ (0 < k → (l.getD (k - 1) PhaseI.zero).fr < (l.getD k PhaseI.zero).fr) := by
  unfold phOK at h
  simp only [Bool.and_eq_true] at h
  refine ⟨inB_true h.1.1, inB_true h.1.2, fun e => ?_, fun e => ?_⟩
  · have := h.2; rw [if_pos e] at this; simpa using this
  · have := h.2; rw [if_neg (by omega)] at this; simpa using this
theorem spd_take {l : List PhaseI} {t : Int} {k : Nat} (hk : k < l.length) : spd (l.take (k + 1)) t = if (l.getD k PhaseI.zero).fr ≤ t then (l.getD k PhaseI.zero).sp else spd (l.take k) t := by
  unfold spd
  rw [take_succV (z := PhaseI.zero) hk, List.foldl_append]
  rfl
/-- the speed is that of the last phase that has begun -/
theorem spd_at {l : List PhaseI} (h : phasesB l = true) {t : Int} {j : Nat} (hj : j < l.length) (h1 : (l.getD j PhaseI.zero).fr ≤ t) (h2 : j + 1 < l.length → t < (l.getD (j + 1) PhaseI.zero).fr) : spd l t = (l.getD j PhaseI.zero).sp := by
  obtain ⟨hok, _, _⟩ := phasesB_true h
  have hasc : ∀ d a, a + d < l.length → (l.getD a PhaseI.zero).fr ≤ (l.getD (a + d) PhaseI.zero).fr := by
    intro d
    induction d with
    | zero => intro a _; exact Int.le_refl _
    | succ d ih =>
      intro a ha
      have h3 := ih a (by omega)
      have h4 := (phOK_true (hok (a + (d + 1)) ha)).2.2.2 (by omega)
      rw [show a + (d + 1) - 1 = a + d by omega] at h4
      omega
  have key : ∀ k, k ≤ l.length → j < k → spd (l.take k) t = (l.getD j PhaseI.zero).sp := by
    intro k
    induction k with
    | zero => intro _ h; omega
    | succ k ih =>
      intro hk hjk
      rw [spd_take (by omega)]
      by_cases e : k = j
      · subst e; rw [if_pos h1]
      · have h3 := h2 (by omega)
        have h4 := hasc (k - (j + 1)) (j + 1) (by omega)
        rw [show j + 1 + (k - (j + 1)) = k by omega] at h4
        rw [if_neg (by omega)]
        exact ih (by omega) (by omega)
  have := key l.length (Nat.le_refl _) hj
  rwa [List.take_of_length_le (Nat.le_refl _)] at this
/-- there is such a phase -/
theorem phase_of {l : List PhaseI} (h : phasesB l = true) {t : Int} (ht : 0 ≤ t) : ∃ j, j < l.length ∧ (l.getD j PhaseI.zero).fr ≤ t ∧ (j + 1 < l.length → t < (l.getD (j + 1) PhaseI.zero).fr) := by
  obtain ⟨hok, h1, _⟩ := phasesB_true h
  have key : ∀ k, k < l.length → ∃ j, j ≤ k ∧ (l.getD j PhaseI.zero).fr ≤ t ∧ (j + 1 ≤ k → t < (l.getD (j + 1) PhaseI.zero).fr) := by
    intro k
    induction k with
    | zero =>
      intro hk
      exact ⟨0, Nat.le_refl _, by have := (phOK_true (hok 0 hk)).2.2.1 rfl; omega, fun h => by omega⟩
    | succ k ih =>
      intro hk
      obtain ⟨j, hj, h2, h3⟩ := ih (by omega)
      by_cases e : (l.getD (k + 1) PhaseI.zero).fr ≤ t
      · exact ⟨k + 1, Nat.le_refl _, e, fun h => by omega⟩
      · refine ⟨j, by omega, h2, fun h => ?_⟩
        by_cases e2 : j = k
        · subst e2; omega
        · exact h3 (by omega)
  obtain ⟨j, hj, h2, h3⟩ := key (l.length - 1) (by omega)
  exact ⟨j, by omega, h2, fun h => h3 (by omega)⟩
theorem spd_pos {l : List PhaseI} (h : phasesB l = true) {t : Int} (ht : 0 ≤ t) : 1 ≤ spd l t ∧ spd l t ≤ 9 := by
  obtain ⟨j, hj, h1, h2⟩ := phase_of h ht
  rw [spd_at h hj h1 h2]
  exact (phOK_true ((phasesB_true h).1 j hj)).2.1
theorem spd_cap {l : List PhaseI} (h : phasesB l = true) {t : Int} (ht : 0 ≤ t) : spd l (min t 9999) = spd l t := by
  obtain ⟨j, hj, h1, h2⟩ := phase_of h ht
  have h3 := (phOK_true ((phasesB_true h).1 j hj)).1.2
  rw [spd_at h hj h1 h2, spd_at h hj (by omega) (fun e => by have := h2 e; omega)]
end Go.Proofs.YtlmdckocjlogkaaGreat

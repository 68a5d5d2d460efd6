/-
  Logs: appended records, what is synced, what survives a crash. Plain Lean.
-/
import Derived.Test.YtpflnmejbialjaaGreatDoorVLogP
/-
  Logs: appended records, what is synced, what survives a crash. Plain Lean.
-/
namespace Go.Proofs.YtpflnmejbialjaaGreatDoor
set_option linter.unusedSimpArgs false
set_option linter.unusedVariables false

theorem okI_parts {D P : Bs} {c : Int} (h : okI D P c = true) : ∃ j, j ≤ (openLB (D ++ P)).length ∧ endLB ((openLB (D ++ P)).take j) = D.length ∧ endLB (openLB (D ++ P)) = (D ++ P).length ∧ c = (openLB (D ++ P)).length := by
  simp only [okI, Bool.and_eq_true, List.any_eq_true, List.mem_range, decide_eq_true_eq] at h
  obtain ⟨⟨⟨j, hj, hD⟩, he⟩, hc⟩ := h
  exact ⟨j, by omega, hD, he, hc⟩
theorem endLB_append (rs qs : List RecB) : endLB rs ≤ endLB (rs ++ qs) := by
  unfold endLB
  rw [linesB_append, List.length_append]
  omega
end Go.Proofs.YtpflnmejbialjaaGreatDoor

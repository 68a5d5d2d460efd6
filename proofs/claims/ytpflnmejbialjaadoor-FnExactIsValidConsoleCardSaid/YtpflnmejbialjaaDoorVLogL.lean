/-
  Logs: appended records, what is synced, what survives a crash. Plain Lean.
-/
import Derived.Test.YtpflnmejbialjaaDoorVLogP
/-
  Logs: appended records, what is synced, what survives a crash. Plain Lean.
-/
namespace Go.Proofs.YtpflnmejbialjaaDoor
set_option linter.unusedSimpArgs false
set_option linter.unusedVariables false

theorem endLB_append (rs qs : List RecB) : endLB rs ≤ endLB (rs ++ qs) := by
  unfold endLB
  rw [linesB_append, List.length_append]
  omega
end Go.Proofs.YtpflnmejbialjaaDoor

/-
  Speeds and work that is done.
-/
import Derived.Test.YtpflnmejbialjaaDoorVArr
import Derived.Test.YtpflnmejbialjaaDoorVFlPhase
/-
  Speeds and work that is done.
-/
namespace Go.Proofs.YtpflnmejbialjaaDoor
set_option linter.unusedSimpArgs false
set_option linter.unusedVariables false
open Go.RowKit

def phOK (l : List PhaseI) (k : Nat) : Bool := inB (l.getD k PhaseI.zero).fr 0 9999 && inB (l.getD k PhaseI.zero).sp 1 9 && (if k = 0 then decide ((l.getD k PhaseI.zero).fr = 0) else decide ((l.getD (k - 1) PhaseI.zero).fr < (l.getD k PhaseI.zero).fr))
def phasesB (l : List PhaseI) : Bool := (List.range l.length).all (phOK l) && inB l.length 1 6
theorem phasesB_true {l : List PhaseI} (h : phasesB l = true) : (∀ k, k < l.length → phOK l k = true) ∧ 1 ≤ l.length ∧ l.length ≤ 6 := by
  unfold phasesB at h
  rw [Bool.and_eq_true, List.all_eq_true] at h
  have := inB_true h.2
  exact ⟨fun k hk => h.1 k (List.mem_range.2 hk), by omega, by omega⟩
end Go.Proofs.YtpflnmejbialjaaDoor

/-
  Phases: the pure part.
-/
import Derived.Test.YtpflnmejbialjaaDoorVSpeed
import Derived.Test.YtpflnmejbialjaaDoorVGood
import Derived.Test.YtpflnmejbialjaaDoorVMkr
import Derived.Test.YtpflnmejbialjaaDoorVReach
import Derived.Deep.LoopGhost
import Derived.Test.YtpflnmejbialjaaDoorVRd
/-
  Phases: the pure part.
-/
namespace Go.Proofs.YtpflnmejbialjaaDoor
set_option linter.unusedSimpArgs false
set_option linter.unusedVariables false
open Go.RowKit

def phTo (l : List PhaseI) (k : Nat) : Bool := (List.range k).all (phOK l)
theorem phTo_succ (l : List PhaseI) (k : Nat) : phTo l (k + 1) = (phTo l k && phOK l k) := by
  simp [phTo, List.range_succ]
theorem phases_to {l : List PhaseI} : phasesB l = (phTo l l.length && inB l.length 1 6) := rfl
theorem phases_bad {l : List PhaseI} {k : Nat} (hk : k < l.length) (h : phOK l k = false) : phasesB l = false := by
  cases hp : phasesB l
  · rfl
  · have := (phasesB_true hp).1 k hk
    rw [h] at this
    exact this.symm
theorem phases_len {l : List PhaseI} (h : inB l.length 1 6 = false) : phasesB l = false := by
  rw [phases_to, h, Bool.and_false]
theorem phases_zero {l : List PhaseI} (hl : inB l.length 1 6 = true) (h : (l.getD 0 PhaseI.zero).fr ≠ 0) : phasesB l = false := by
  have := inB_true hl
  refine phases_bad (k := 0) (by omega) ?_
  have h0 : decide ((l.getD 0 PhaseI.zero).fr = 0) = false := by simpa using h
  rw [phOK, if_pos rfl, h0, Bool.and_false]

theorem phTick_any (d : Int) (w : World) : Calls Tryd.prog 34 #[.int .i64 d] w fun e w' => e = .returned (.bool (inB d 0 9999)) ∧ w = w' := by
  go_enter Tryd.func34, Tryd.ntmps34
  go_wp2_with (go_at_call 35; refine (in_any _ _ _ _).mono ?_; rintro e w' ⟨rfl, rfl⟩)
  go_ret
  exact ⟨rfl, rfl⟩
theorem phTickS_any (d : Int) (w : World) : Calls Tryd.prog 43 #[.int .i64 d] w fun e w' => e = .returned (.bool (inB d 0 9999)) ∧ w = w' := by
  go_enter Tryd.func43, Tryd.ntmps43
  go_wp2_with (go_at_call 44; refine (l1In_any _ _ _ _).mono ?_; rintro e w' ⟨rfl, rfl⟩)
  go_ret
  exact ⟨rfl, rfl⟩

end Go.Proofs.YtpflnmejbialjaaDoor

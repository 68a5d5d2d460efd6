/-
  Records of a log in the laws: sizes, copies; arguments that are read.
-/
import Derived.Test.YtpflnmejbialjaaDoorVStr
import Derived.Test.YtpflnmejbialjaaDoorVLst
import Derived.Test.YtpflnmejbialjaaDoorVOpn
/-
  Records of a log in the laws: sizes, copies; arguments that are read.
-/
namespace Go.Proofs.YtpflnmejbialjaaDoor
set_option linter.unusedSimpArgs false
set_option linter.unusedVariables false
open Go.ChangeShapes Go.WideShapes Go.ChangeAt Go.RowKit Go.Joins

/-- what two texts leave of a bound -/
def szT (left : Int) (a b : Nat) : Int := if left - a < 0 then -1 else if left - a - b < 0 then -1 else left - a - b
theorem szT_pos {left : Int} {a b : Nat} (h : ¬ szT left a b < 0) : (a : Int) + b ≤ left ∧ szT left a b = left - a - b := by
  unfold szT at h ⊢
  by_cases h1 : left - a < 0
  · rw [if_pos h1] at h; omega
  · rw [if_neg h1] at h ⊢
    by_cases h2 : left - a - b < 0
    · rw [if_pos h2] at h; omega
    · rw [if_neg h2] at h ⊢; omega

theorem Tryd.cells9 : Tryd.prog.cellsOf 9 = 1 := by kernel_rfl
end Go.Proofs.YtpflnmejbialjaaDoor

/-
  Cuts: what both tests find.
-/
import Derived.Test.YtlmdckocjlogkaaGreatFlCut
import Derived.Test.YtlmdckocjlogkaaGreatPhasesP
import Derived.Test.YtlmdckocjlogkaaGreatNear2
namespace Go.Proofs.YtlmdckocjlogkaaGreat
set_option linter.unusedSimpArgs false
set_option linter.unusedVariables false
open Go.RowKit

def cutOK (xs : List Int) (l : List CutI) (k : Nat) : Bool :=
  inB (l.getD k CutI.zero).cell 0 ((xs.length : Int) - 1) && inB (l.getD k CutI.zero).tick 0 9999 && !(xs.getD (l.getD k CutI.zero).cell.toNat 0 == 0) && (if k = 0 then true else decide ((l.getD (k - 1) CutI.zero).cell < (l.getD k CutI.zero).cell))
def cutTo (xs : List Int) (l : List CutI) (k : Nat) : Bool := (List.range k).all (cutOK xs l)
def cutsB (W H : Int) (xs : List Int) (l : List CutI) : Bool := goodB 20 W H xs && cutTo xs l l.length && decide (l.length ≤ 8)
theorem cutTo_succ (xs : List Int) (l : List CutI) (k : Nat) : cutTo xs l (k + 1) = (cutTo xs l k && cutOK xs l k) := by
  simp [cutTo, List.range_succ]
theorem cuts_bad {W H : Int} {xs : List Int} {l : List CutI} {k : Nat} (hk : k < l.length) (h : cutOK xs l k = false) : cutsB W H xs l = false := by
  have : cutTo xs l l.length = false := by
    cases hp : cutTo xs l l.length
    · rfl
    · rw [cutTo, List.all_eq_true] at hp
      have := hp k (List.mem_range.2 hk)
      rw [h] at this
      exact this.symm
  rw [cutsB, this, Bool.and_false, Bool.false_and]

end Go.Proofs.YtlmdckocjlogkaaGreat

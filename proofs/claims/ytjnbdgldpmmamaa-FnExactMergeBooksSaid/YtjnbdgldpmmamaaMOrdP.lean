/-
  Orders: the pure part.
-/
import Derived.Test.YtjnbdgldpmmamaaMStrW
import Derived.Test.YtjnbdgldpmmamaaMWord
import Derived.Test.YtjnbdgldpmmamaaMSeason
import Derived.Deep.DeepCutAuto
import Derived.RegionTactic
/-
  Orders: the pure part.
-/
namespace Go.Proofs.Ytjnbdgldpmmamaa
set_option linter.unusedSimpArgs false
set_option linter.unusedVariables false
open Go.RowKit

theorem getD_memO {α : Type} {xs : List α} {d : α} {k : Nat} (hk : k < xs.length) : xs.getD k d ∈ xs := by
  rw [List.getD_eq_getElem?_getD, List.getElem?_eq_getElem hk]
  exact List.getElem_mem _
section
variable (lt : Int → Int → Bool)
end
section
variable {lt : Int → Int → Bool}
end
end Go.Proofs.Ytjnbdgldpmmamaa

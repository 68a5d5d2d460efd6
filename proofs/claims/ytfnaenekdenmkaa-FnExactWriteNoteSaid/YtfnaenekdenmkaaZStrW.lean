/-
  Loops over the bytes of a string: both sides.
-/
import Derived.Test.YtfnaenekdenmkaaZStr
import Derived.Test.YtfnaenekdenmkaaZLst
/-
  Loops over the bytes of a string: both sides.
-/
namespace Go.Proofs.Ytfnaenekdenmkaa
set_option linter.unusedSimpArgs false
set_option linter.unusedVariables false
open Go.RowKit

theorem all_takeB {p : UInt8 → Bool} {l : Bs} {k : Nat} (hk : k < l.length) : (l.take (k + 1)).all p = ((l.take k).all p && p (l.getD k 0)) := by
  rw [List.take_succ_eq_append_getElem hk, List.all_append]
  simp [List.getD, hk]
theorem all_falseB {p : UInt8 → Bool} {l : Bs} {k : Nat} (hk : k < l.length) (h : p (l.getD k 0) = false) : l.all p = false := by
  rw [List.all_eq_false]
  exact ⟨l[k], List.getElem_mem hk, by simpa [List.getD, hk] using h⟩
theorem byte_lt (x : UInt8) : x.toNat < 256 := x.toNat_lt

end Go.Proofs.Ytfnaenekdenmkaa

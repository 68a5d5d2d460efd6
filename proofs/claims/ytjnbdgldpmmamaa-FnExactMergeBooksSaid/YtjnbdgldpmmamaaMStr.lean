/-
  Strings as lists of bytes.
-/
import Derived.Test.YtjnbdgldpmmamaaMRd
import Derived.Test.YtjnbdgldpmmamaaMLogP
import Derived.Lib.Strings
import Derived.Laws.Concat
import Derived.Laws.Strings3
/-
  Strings as lists of bytes.
-/
namespace Go.Proofs.Ytjnbdgldpmmamaa
set_option linter.unusedSimpArgs false
set_option linter.unusedVariables false
open Go.RowKit

/-- a string of these bytes -/
def bsA (l : Bs) : ByteArray := ⟨l.toArray⟩
def bl (s : ByteArray) : Bs := s.data.toList
theorem bsA_size (l : Bs) : (bsA l).size = l.length := rfl
theorem bsA_app (l m : Bs) : bsA l ++ bsA m = bsA (l ++ m) := ByteArray.mk_append_mk l m
theorem bsA_get (l : Bs) (k : Nat) (h : k < (bsA l).size) : (bsA l)[k]'h = l.getD k 0 := by
  have hk : k < l.length := h
  have : (bsA l)[k]'h = l[k]'hk := rfl
  rw [this]
  simp [List.getD, hk]
theorem bsA_list (l : Bs) : (bsA l).toList = l := ByteArray.toList_mk l
end Go.Proofs.Ytjnbdgldpmmamaa

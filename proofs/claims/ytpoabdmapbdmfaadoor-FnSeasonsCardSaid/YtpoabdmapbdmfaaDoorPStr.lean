/-
  Strings as lists of bytes.
-/
import Derived.Test.YtpoabdmapbdmfaaDoorPRd
import Derived.Test.YtpoabdmapbdmfaaDoorPLogP
import Derived.Lib.Strings
import Derived.Laws.Concat
import Derived.Laws.Strings3
/-
  Strings as lists of bytes.
-/
namespace Go.Proofs.YtpoabdmapbdmfaaDoor
set_option linter.unusedSimpArgs false
set_option linter.unusedVariables false
open Go.RowKit

/-- a string of these bytes -/
def bsA (l : Bs) : ByteArray := ⟨l.toArray⟩
theorem bsA_size (l : Bs) : (bsA l).size = l.length := rfl
theorem bsA_app (l m : Bs) : bsA l ++ bsA m = bsA (l ++ m) := ByteArray.mk_append_mk l m
theorem bsA_ext (l : Bs) (a b : Nat) : (bsA l).extract a b = bsA ((l.drop a).take (b - a)) := ByteArray.extract_mk l a b
theorem bsA_list (l : Bs) : (bsA l).toList = l := ByteArray.toList_mk l
end Go.Proofs.YtpoabdmapbdmfaaDoor

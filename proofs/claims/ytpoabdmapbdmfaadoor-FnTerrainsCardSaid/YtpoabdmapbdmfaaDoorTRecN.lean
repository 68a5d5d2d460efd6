/-
  Numbers as text, checksums, the line of a record: both sides.
-/
import Derived.Test.YtpoabdmapbdmfaaDoorTRecV
import Derived.Lib.AppendIntMem
import Derived.Lib.ItoaMem
import Derived.Deep.DeepCutAuto
/-
  Numbers as text, checksums, the line of a record: both sides.
-/
namespace Go.Proofs.YtpoabdmapbdmfaaDoor
set_option linter.unusedSimpArgs false
set_option linter.unusedVariables false
open Go.RowKit

/-- the table of the powers of ten is as the text lays it -/
def Tab (w : World) : Prop := Lib.TabIs Tryd.prog w "internal/strconv.uint64pow10" .u64 Lib.pow10Tab
theorem Tab.ext {w w' : World} (h : Tab w) (hb : Below w.heap.size w w') : Tab w' := (Lib.tabBelow_of_tabIs h) w' hb

end Go.Proofs.YtpoabdmapbdmfaaDoor

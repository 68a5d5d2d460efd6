/-
  Is a record valid: both sides.
-/
import Derived.Test.YtpoabdmapbdmfaaDoorTStrW
import Derived.Test.YtpoabdmapbdmfaaDoorTShelf
import Derived.Test.YtpoabdmapbdmfaaDoorTRegA
import Derived.Lib.IndexAny
import Derived.Lib.SmallJoins
import Derived.BigQuiet
/-
  Is a record valid: both sides.
-/
namespace Go.Proofs.YtpoabdmapbdmfaaDoor
set_option linter.unusedSimpArgs false
set_option linter.unusedVariables false
open Go.RowKit

theorem nil_list : (⟨#[]⟩ : ByteArray).toList = [] := ByteArray.toList_mk []
end Go.Proofs.YtpoabdmapbdmfaaDoor

/-
  Loops over the bytes of a string: both sides.
-/
import Derived.Test.YtpoabdmapbdmfaaDoorTStr
import Derived.Test.YtpoabdmapbdmfaaDoorTLst
/-
  Loops over the bytes of a string: both sides.
-/
namespace Go.Proofs.YtpoabdmapbdmfaaDoor
set_option linter.unusedSimpArgs false
set_option linter.unusedVariables false
open Go.RowKit

/-- a byte among others -/
theorem beq_nat {x b : UInt8} {v m : Nat} (hx : x.toNat = v) (hb : b.toNat = m) : (x == b) = decide (v = m) := by
  rw [← hx, ← hb, Bool.eq_iff_iff]
  simp [← UInt8.toNat_inj]

end Go.Proofs.YtpoabdmapbdmfaaDoor

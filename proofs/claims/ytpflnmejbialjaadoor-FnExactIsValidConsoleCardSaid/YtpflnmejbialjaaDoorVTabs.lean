/-
  What the listed variables give a walk; a world for the witness.
-/
import Derived.Test.YtpflnmejbialjaaDoorCards
import Derived.Test.YtpflnmejbialjaaDoorTie
import Derived.Test.YtpflnmejbialjaaDoorVWrap
import Derived.Test.YtpflnmejbialjaaDoorVRecN
import Derived.Deep.DeepHandedRow
import Derived.Lib.LaidTab
import Derived.LaidSub
/-
  What the listed variables give a walk; a world for the witness.
-/
namespace Go.Proofs.YtpflnmejbialjaaDoor
set_option linter.unusedSimpArgs false
set_option linter.unusedVariables false
open Go.ChangeShapes Go.WideShapes Go.ChangeAt Go.RowKit

abbrev laidL : List (String × DataW Unit) := [("math/bits.deBruijn32tab", Rows.laid_math_bits_deBruijn32tab), ("math/bits.deBruijn64tab", Rows.laid_math_bits_deBruijn64tab), ("internal/strconv.uint64pow10", Rows.laid_internal_strconv_uint64pow10)]
theorem gTab : Tryd.prog.globalNamed "internal/strconv.uint64pow10" = some 1 := by kernel_rfl
theorem gTabType : (Tryd.prog.globals[1]?).map (·.type) = some 130 := by kernel_rfl
theorem cellsTab : Tryd.prog.cellsOf 130 = 20 := by kernel_rfl
theorem cellsU64 : Tryd.prog.cellsOf 121 = 1 := by kernel_rfl
theorem dataTab : (Rows.laid_internal_strconv_uint64pow10 : DataW Unit) = Lib.tabData .u64 Lib.pow10Tab := by kernel_rfl
theorem tab_of {W : World} (h : laidMetH Tryd.prog laidL W) : Tab W := by
  have h1 : laidMet Tryd.prog laidL W := h
  have h2 := h1.filter (fun x => x.1 == "internal/strconv.uint64pow10")
  have h3 : laidL.filter (fun x => x.1 == "internal/strconv.uint64pow10") = [("internal/strconv.uint64pow10", Rows.laid_internal_strconv_uint64pow10)] := by simp [laidL]
  rw [h3, dataTab] at h2
  exact Lib.tabIs_of_head gTab gTabType Tryd.underlying130 Tryd.underlying121 cellsU64 cellsTab h2

def litCells : DataW Unit → Array Value
  | .agg ds => (ds.map fun d => match d with | .lit (.int k z) => Value.int k z | _ => undef).toArray
  | _ => #[]
/-- the settled world, the three tables as their initialisers lay them -/
noncomputable def laidWorld (os : Os) : World :=
  let w0 := World.holding Tryd.prog os ⟨#[], #[], []⟩
  let put (d : DataW Unit) (o : Obj) : Obj := match o with | .cells _ t frozen => .cells (litCells d) t frozen | o => o
  { w0 with heap := ((w0.heap.modify 1 (put Rows.laid_internal_strconv_uint64pow10)).modify 2 (put Rows.laid_math_bits_deBruijn32tab)).modify 3 (put Rows.laid_math_bits_deBruijn64tab) }
theorem laid_met (os : Os) (args : Array Value) : laidMet Tryd.prog laidL ((laidWorld os).forCall (fun _ _ => 0) ⟨#[], args, []⟩).memory :=
  laidMet_of_run' 8 (by kernel_rfl) (by kernel_rfl)
end Go.Proofs.YtpflnmejbialjaaDoor

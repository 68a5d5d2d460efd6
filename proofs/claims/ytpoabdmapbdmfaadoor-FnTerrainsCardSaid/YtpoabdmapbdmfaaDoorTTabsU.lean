/-
  What the listed variables of package utf8 are; a world for the witness; the cell that strings.Index reads.
-/
import Derived.Test.YtpoabdmapbdmfaaDoorCards
import Derived.Test.YtpoabdmapbdmfaaDoorTie
import Derived.Test.YtpoabdmapbdmfaaDoorTWrap
import Derived.Test.YtpoabdmapbdmfaaDoorTTerS
import Derived.Deep.DeepHandedRow
import Derived.LaidSub
import Derived.Shelf.Vars
/-
  What the listed variables of package utf8 are; a world for the witness; the cell that strings.Index reads.
-/
namespace Go.Proofs.YtpoabdmapbdmfaaDoor
set_option linter.unusedSimpArgs false
set_option linter.unusedVariables false
open Go.ChangeShapes Go.WideShapes Go.ChangeAt Go.RowKit

abbrev laidU : List (String × DataW Unit) := [("unicode/utf8.acceptRanges", Rows.laid_unicode_utf8_acceptRanges), ("unicode/utf8.first", Rows.laid_unicode_utf8_first)]
theorem mx_of {W : World} (h : W.ShapedOpen Tryd.prog) : Mx W := by
  obtain ⟨m, hm⟩ := Go.Proofs.cell_of_shapedOpen_int (zero := #[.int .i64 0]) (t := 3) (g := 0) h (of_decide_eq_true (by kernel_rfl)) (by kernel_rfl) rfl (by kernel_rfl) (by kernel_rfl) Tryd.underlying3
  refine ⟨?_, m, hm⟩
  rcases Nat.eq_zero_or_pos W.heap.size with h0 | h0
  · exfalso
    have : W.heap = #[] := by simpa using h0
    simp [World.cell?, this] at hm
  · exact h0

def litCell : DataW Unit → Value
  | .lit (.int k z) => Value.int k z
  | _ => undef
def flatCells : DataW Unit → List Value
  | .agg ds => ds.flatMap fun d => match d with | .agg es => es.map litCell | e => [litCell e]
  | _ => []
/-- the settled world, the two tables as their initialisers lay them -/
noncomputable def laidWorldU (os : Os) : World :=
  let w0 := World.holding Tryd.prog os ⟨#[], #[], []⟩
  let put (d : DataW Unit) (o : Obj) : Obj := match o with | .cells _ t frozen => .cells (flatCells d).toArray t frozen | o => o
  { w0 with heap := (w0.heap.modify 3 (put Rows.laid_unicode_utf8_acceptRanges)).modify 2 (put Rows.laid_unicode_utf8_first) }
theorem laid_metU (os : Os) (args : Array Value) : laidMet Tryd.prog laidU ((laidWorldU os).forCall (fun _ _ => 0) ⟨#[], args, []⟩).memory :=
  laidMet_of_run' 8 (by kernel_rfl) (by kernel_rfl)
end Go.Proofs.YtpoabdmapbdmfaaDoor

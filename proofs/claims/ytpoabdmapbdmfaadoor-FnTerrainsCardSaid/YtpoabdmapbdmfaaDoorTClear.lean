/- Lemmas. -/
import Derived.Test.YtpoabdmapbdmfaaDoorTGood
import Derived.Test.YtpoabdmapbdmfaaDoorTMir
import Derived.Test.YtpoabdmapbdmfaaDoorTReg
import Derived.Deep.DeepCutAuto
namespace Go.Proofs.YtpoabdmapbdmfaaDoor
set_option linter.unusedSimpArgs false
set_option linter.unusedVariables false
open Go.RowKit

set_option maxRecDepth 100000 in
set_option maxHeartbeats 400000 in
theorem isCell_any (W H : Int) (a : Option Addr) (n c : Nat) (x : Int) (w : World) (hn : n ≤ 25) :
    Calls Tryd.prog 88 #[.agg #[.int .i64 W, .int .i64 H, .slice a n c], .int .i64 x] w fun e w' => e = .returned (.bool (inB x 0 ((n : Int) - 1))) ∧ Below w.heap.size w w' := by
  have hwn : IntKind.i64.wrap ((n : Int) - 1) = (n : Int) - 1 := wrap_in (by omega)
  go_enter Tryd.func88, Tryd.ntmps88
  go_wp2_with (go_at_call 48; refine (in_any _ _ _ _).mono ?_; rintro e w' ⟨rfl, rfl⟩)
  go_ret
  exact ⟨rfl, by (repeat' (first | exact Below.refl _ _ | with_reducible refine Below.setCell ?_ (by first | omega | (simp; done) | (simp; omega)) _ | with_reducible refine Below.alloc ?_ (by first | omega | (simp; done) | (simp; omega)) _ | with_reducible refine Below.drew ?_ | with_reducible refine bdrewN ?_ _))⟩

end Go.Proofs.YtpoabdmapbdmfaaDoor

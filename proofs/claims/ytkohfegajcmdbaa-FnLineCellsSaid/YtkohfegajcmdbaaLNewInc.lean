/-
  NewIncident.
-/
import Derived.Test.YtkohfegajcmdbaaLClear2
import Derived.Test.YtkohfegajcmdbaaLRd
import Derived.Test.YtkohfegajcmdbaaLMkr
import Derived.Test.YtkohfegajcmdbaaLLst
import Derived.Deep.DeepCutAuto
/-
  NewIncident.
-/
namespace Go.Proofs.Ytkohfegajcmdbaa
set_option linter.unusedSimpArgs false
set_option linter.unusedVariables false
open Go.RowKit

structure IncI where
  W : Int
  H : Int
  xs : List Int
  fs : List Int
  ws : List Int
  t : Int
def IncI.zero : IncI := ⟨0, 0, [], [], [], 0⟩
end Go.Proofs.Ytkohfegajcmdbaa

/- Lemmas. -/
import Derived.Test.YtfnaenekdenmkaaZFlFire
namespace Go.Proofs.Ytfnaenekdenmkaa
set_option linter.unusedSimpArgs false
set_option linter.unusedVariables false
open Go.RowKit

/-- what a function value answers on the records of a list -/
def AnswersFire (f : FuncId) (caps : Array Value) (p : FireI → Bool) (xs : List FireI) (w : World) : Prop :=
  ∀ v ∈ xs, ∀ w', Below w.heap.size w w' → Calls Try.prog f (#[v.val] ++ caps) w' fun o w'' => o = .returned (.bool (p v)) ∧ Below w'.heap.size w' w''
theorem AnswersFire.ext {f : FuncId} {caps : Array Value} {p : FireI → Bool} {xs : List FireI} {w w1 : World} (h : AnswersFire f caps p xs w) (hb : Below w.heap.size w w1) : AnswersFire f caps p xs w1 :=
  fun v hv w' hb' => h v hv w' (hb.trans (hb'.mono hb.size))

end Go.Proofs.Ytfnaenekdenmkaa

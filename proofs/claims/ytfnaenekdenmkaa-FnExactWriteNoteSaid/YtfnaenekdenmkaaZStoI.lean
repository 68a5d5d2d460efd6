/-
  Stores: the place of a kind, a copy (the program's).
-/
import Derived.Test.YtfnaenekdenmkaaZOrdP
import Derived.Deep.DeepCutAuto
import Derived.Deep.CutBlock
import Derived.Test.YtfnaenekdenmkaaZApp
/-
  Stores: the place of a kind, a copy (the program's).
-/
namespace Go.Proofs.Ytfnaenekdenmkaa
set_option linter.unusedSimpArgs false
set_option linter.unusedVariables false
open Go.RowKit

/-- what a function value answers on the records of a list -/
def AnswersStock (f : FuncId) (caps : Array Value) (p : StockI → Bool) (xs : List StockI) (w : World) : Prop :=
  ∀ v ∈ xs, ∀ w', Below w.heap.size w w' → Calls Try.prog f (#[v.val] ++ caps) w' fun o w'' => o = .returned (.bool (p v)) ∧ Below w'.heap.size w' w''
theorem AnswersStock.ext {f : FuncId} {caps : Array Value} {p : StockI → Bool} {xs : List StockI} {w w1 : World} (h : AnswersStock f caps p xs w) (hb : Below w.heap.size w w1) : AnswersStock f caps p xs w1 :=
  fun v hv w' hb' => h v hv w' (hb.trans (hb'.mono hb.size))

end Go.Proofs.Ytfnaenekdenmkaa

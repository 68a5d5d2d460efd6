/- Lemmas. -/
import Derived.Test.YtfnaenekdenmkaaZMarkT
import Derived.Test.YtfnaenekdenmkaaZPush
import Derived.Test.YtfnaenekdenmkaaZLaw
namespace Go.Proofs.Ytfnaenekdenmkaa
set_option linter.unusedSimpArgs false
set_option linter.unusedVariables false
open Go.RowKit

structure StockI where
  kd : Bs
  ct : Int
instance : DecidableEq StockI := fun a b => decidable_of_iff (a.kd = b.kd ∧ a.ct = b.ct) (by cases a; cases b; simp [and_assoc])
def StockI.zero : StockI := ⟨[], 0⟩
abbrev StockI.val (x : StockI) : Value := .agg #[.string (bsA x.kd), .int .i64 x.ct]
end Go.Proofs.Ytfnaenekdenmkaa

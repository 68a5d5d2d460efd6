/- Lemmas. -/
import Derived.Test.YtfnaenekdenmkaaZMarkT
import Derived.Test.YtfnaenekdenmkaaZPush
import Derived.Test.YtfnaenekdenmkaaZLaw
namespace Go.Proofs.Ytfnaenekdenmkaa
set_option linter.unusedSimpArgs false
set_option linter.unusedVariables false
open Go.RowKit

structure OrderI where
  id : Int
  kd : Bs
  ct : Int
  ur : Int
  tk : Int
instance : DecidableEq OrderI := fun a b => decidable_of_iff (a.id = b.id ∧ a.kd = b.kd ∧ a.ct = b.ct ∧ a.ur = b.ur ∧ a.tk = b.tk) (by cases a; cases b; simp [and_assoc])
def OrderI.zero : OrderI := ⟨0, [], 0, 0, 0⟩
abbrev OrderI.val (x : OrderI) : Value := .agg #[.int .i64 x.id, .string (bsA x.kd), .int .i64 x.ct, .int .i64 x.ur, .int .i64 x.tk]
end Go.Proofs.Ytfnaenekdenmkaa

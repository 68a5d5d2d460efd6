/- Lemmas. -/
import Derived.Test.YtjnbdgldpmmamaaMRd
import Derived.Test.YtjnbdgldpmmamaaMLaw
namespace Go.Proofs.Ytjnbdgldpmmamaa
set_option linter.unusedSimpArgs false
set_option linter.unusedVariables false
open Go.RowKit

structure FireI where
  day : Int
  cause : Int
  hect : Int
  hours : Int
instance : DecidableEq FireI := fun a b => decidable_of_iff (a.day = b.day ∧ a.cause = b.cause ∧ a.hect = b.hect ∧ a.hours = b.hours) (by cases a; cases b; simp [and_assoc])
def FireI.zero : FireI := ⟨0, 0, 0, 0⟩
abbrev FireI.val (x : FireI) : Value := .agg #[.int .i64 x.day, .int .i64 x.cause, .int .i64 x.hect, .int .i64 x.hours]
end Go.Proofs.Ytjnbdgldpmmamaa

namespace Go.Proofs.Ytjnbdgldpmmamaa
set_option linter.unusedSimpArgs false
set_option linter.unusedVariables false
open Go.RowKit

/-- what a function value answers on the records of a list -/
def AnswersFire (f : FuncId) (caps : Array Value) (p : FireI → Bool) (xs : List FireI) (w : World) : Prop :=
  ∀ v ∈ xs, ∀ w', Below w.heap.size w w' → Calls Try.prog f (#[v.val] ++ caps) w' fun o w'' => o = .returned (.bool (p v)) ∧ Below w'.heap.size w' w''
theorem AnswersFire.ext {f : FuncId} {caps : Array Value} {p : FireI → Bool} {xs : List FireI} {w w1 : World} (h : AnswersFire f caps p xs w) (hb : Below w.heap.size w w1) : AnswersFire f caps p xs w1 :=
  fun v hv w' hb' => h v hv w' (hb.trans (hb'.mono hb.size))

end Go.Proofs.Ytjnbdgldpmmamaa

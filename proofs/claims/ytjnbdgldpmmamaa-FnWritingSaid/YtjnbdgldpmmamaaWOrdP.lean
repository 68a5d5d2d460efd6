/-
  Orders: the pure part.
-/
import Derived.Test.YtjnbdgldpmmamaaWRd
import Derived.Test.YtjnbdgldpmmamaaWLst
import Derived.Test.YtjnbdgldpmmamaaWStrW
import Derived.Test.YtjnbdgldpmmamaaWWord
import Derived.Deep.DeepCutAuto
import Derived.RegionTactic
namespace Go.Proofs.Ytjnbdgldpmmamaa
set_option linter.unusedSimpArgs false
set_option linter.unusedVariables false
open Go.RowKit

structure FireI where
  day : Int
  cause : Int
  hect : Int
  hours : Int
instance : DecidableEq FireI := fun a b => decidable_of_iff (a.day = b.day ∧ a.cause = b.cause ∧ a.hect = b.hect ∧ a.hours = b.hours) (by cases a; cases b; simp [and_assoc])
def FireI.zero : FireI := ⟨0, 0, 0, 0⟩
abbrev FireI.val (x : FireI) : Value := .agg #[.int .i64 x.day, .int .i64 x.cause, .int .i64 x.hect, .int .i64 x.hours]
end Go.Proofs.Ytjnbdgldpmmamaa

namespace Go.Proofs.Ytjnbdgldpmmamaa
set_option linter.unusedSimpArgs false
set_option linter.unusedVariables false
open Go.RowKit

/-- what a function value answers on the records of a list -/
def AnswersFire (f : FuncId) (caps : Array Value) (p : FireI → Bool) (xs : List FireI) (w : World) : Prop :=
  ∀ v ∈ xs, ∀ w', Below w.heap.size w w' → Calls Try.prog f (#[v.val] ++ caps) w' fun o w'' => o = .returned (.bool (p v)) ∧ Below w'.heap.size w' w''
theorem AnswersFire.ext {f : FuncId} {caps : Array Value} {p : FireI → Bool} {xs : List FireI} {w w1 : World} (h : AnswersFire f caps p xs w) (hb : Below w.heap.size w w1) : AnswersFire f caps p xs w1 :=
  fun v hv w' hb' => h v hv w' (hb.trans (hb'.mono hb.size))

end Go.Proofs.Ytjnbdgldpmmamaa

namespace Go.Proofs.Ytjnbdgldpmmamaa
set_option linter.unusedSimpArgs false
set_option linter.unusedVariables false
open Go.RowKit

/-- Go's cmp.Compare -/
def cmpI (x y : Int) : Int := if x < y then -1 else if y < x then 1 else 0
theorem isNaN_any (x : Int) (w : World) : Calls Try.prog 83 #[.int .i64 x] w fun e w' => e = .returned (.bool false) ∧ w = w' := by
  have hx : (x != x) = false := by simp
  go_enter Try.func83, Try.ntmps83
  go_wp2
  go_ret
  exact ⟨rfl, rfl⟩
set_option maxHeartbeats 400000 in
theorem compare_any (x y : Int) (w : World) : Calls Try.prog 75 #[.int .i64 x, .int .i64 y] w fun e w' => e = .returned (.int .i64 (cmpI x y)) ∧ w = w' := by
  by_cases h1 : x < y
  · have HF := Lib.hid (show cmpI x y = -1 by simp [cmpI, h1])
    go_enter Try.func75, Try.ntmps75
    go_wp2_with (go_at_call 83; refine (isNaN_any _ _).mono ?_; rintro e w' ⟨rfl, rfl⟩)
    go_ret
    exact ⟨ri HF.out.symm, rfl⟩
  by_cases h2 : y < x
  · have HF := Lib.hid (show cmpI x y = 1 by simp [cmpI, h1, h2])
    go_enter Try.func75, Try.ntmps75
    go_wp2_with (go_at_call 83; refine (isNaN_any _ _).mono ?_; rintro e w' ⟨rfl, rfl⟩)
    go_ret
    exact ⟨ri HF.out.symm, rfl⟩
  · have HF := Lib.hid (show cmpI x y = 0 by simp [cmpI, h1, h2])
    go_enter Try.func75, Try.ntmps75
    go_wp2_with (go_at_call 83; refine (isNaN_any _ _).mono ?_; rintro e w' ⟨rfl, rfl⟩)
    go_ret
    exact ⟨ri HF.out.symm, rfl⟩

end Go.Proofs.Ytjnbdgldpmmamaa

/-
  Orders: the pure part.
-/
namespace Go.Proofs.Ytjnbdgldpmmamaa
set_option linter.unusedSimpArgs false
set_option linter.unusedVariables false
open Go.RowKit

theorem getD_memO {α : Type} {xs : List α} {d : α} {k : Nat} (hk : k < xs.length) : xs.getD k d ∈ xs := by
  rw [List.getD_eq_getElem?_getD, List.getElem?_eq_getElem hk]
  exact List.getElem_mem _
section
variable (lt : Int → Int → Bool)
end
section
variable {lt : Int → Int → Bool}
end
end Go.Proofs.Ytjnbdgldpmmamaa

/- Lemmas. -/
import Derived.Test.YtjnbdgldpmmamaaMLsFire
namespace Go.Proofs.Ytjnbdgldpmmamaa
set_option linter.unusedSimpArgs false
set_option linter.unusedVariables false
open Go.RowKit

/-- Go's cmp.Compare -/
def cmpI (x y : Int) : Int := if x < y then -1 else if y < x then 1 else 0
theorem isNaN_any (x : Int) (w : World) : Calls Try.prog 83 #[.int .i64 x] w fun e w' => e = .returned (.bool false) ∧ w = w' := by
  have hx : (x != x) = false := by simp
  go_enter Try.func83, Try.ntmps83
  go_wp2
  go_ret
  exact ⟨rfl, rfl⟩
set_option maxHeartbeats 400000 in
theorem compare_any (x y : Int) (w : World) : Calls Try.prog 75 #[.int .i64 x, .int .i64 y] w fun e w' => e = .returned (.int .i64 (cmpI x y)) ∧ w = w' := by
  by_cases h1 : x < y
  · have HF := Lib.hid (show cmpI x y = -1 by simp [cmpI, h1])
    go_enter Try.func75, Try.ntmps75
    go_wp2_with (go_at_call 83; refine (isNaN_any _ _).mono ?_; rintro e w' ⟨rfl, rfl⟩)
    go_ret
    exact ⟨ri HF.out.symm, rfl⟩
  by_cases h2 : y < x
  · have HF := Lib.hid (show cmpI x y = 1 by simp [cmpI, h1, h2])
    go_enter Try.func75, Try.ntmps75
    go_wp2_with (go_at_call 83; refine (isNaN_any _ _).mono ?_; rintro e w' ⟨rfl, rfl⟩)
    go_ret
    exact ⟨ri HF.out.symm, rfl⟩
  · have HF := Lib.hid (show cmpI x y = 0 by simp [cmpI, h1, h2])
    go_enter Try.func75, Try.ntmps75
    go_wp2_with (go_at_call 83; refine (isNaN_any _ _).mono ?_; rintro e w' ⟨rfl, rfl⟩)
    go_ret
    exact ⟨ri HF.out.symm, rfl⟩

end Go.Proofs.Ytjnbdgldpmmamaa

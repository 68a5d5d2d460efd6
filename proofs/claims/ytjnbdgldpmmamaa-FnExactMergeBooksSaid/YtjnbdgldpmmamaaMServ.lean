/-
  Orders: the order in which they are served, the program's.
-/
import Derived.Test.YtjnbdgldpmmamaaMOrdP
import Derived.Deep.DeepCutAuto
import Derived.Deep.CutBlock
import Derived.Test.YtjnbdgldpmmamaaMSeason
import Derived.RegionTactic
import Derived.Test.YtjnbdgldpmmamaaMRd
import Derived.Test.YtjnbdgldpmmamaaMLst
import Derived.Deep.QuietTactic
/-
  Orders: the order in which they are served, the program's.
-/
namespace Go.Proofs.Ytjnbdgldpmmamaa
set_option linter.unusedSimpArgs false
set_option linter.unusedVariables false
open Go.RowKit

/-- the first number that is not 0 -/
def orI (x y : Int) : Int := if x = 0 then y else x
set_option maxRecDepth 100000 in
set_option maxHeartbeats 1000000 in
theorem orTwo_any (b : Nat) (x y : Int) (w : World) (hr : Row w b #[.int .i64 x, .int .i64 y]) :
    Calls Try.prog 74 #[.slice (some ⟨b, 0, none⟩) 2 2] w fun e w' => e = .returned (.int .i64 (orI x y)) ∧ w = w' := by
  have c0 := hr.cell 0
  have c1 := hr.cell 1
  by_cases h1 : x = 0
  · subst h1
    have HF := Lib.hid (show orI 0 y = y from rfl)
    by_cases h2 : y = 0
    · subst h2
      go_enter Try.func74, Try.ntmps74
      go_wp2
      go_loop [8] (fun i => i = .int .i64 0 ∨ i = .int .i64 1 ∨ i = .int .i64 2) (fun i => 2 - (intOf i).toNat)
      case atStart => exact .inl rfl
      case round =>
        rcases hrel with rfl | rfl | rfl
        · go_wp2
          go_round
          case rel => exact .inr (.inl rfl)
          case measure => decide
        · go_wp2
          go_round
          case rel => exact .inr (.inr rfl)
          case measure => decide
        · go_wp2
          go_ret
          exact ⟨ri HF.out.symm, rfl⟩
    · have hy : (y != 0) = true := by simpa using h2
      go_enter Try.func74, Try.ntmps74
      go_wp2
      go_loop [8] (fun i => i = .int .i64 0 ∨ i = .int .i64 1) (fun i => 2 - (intOf i).toNat)
      case atStart => exact .inl rfl
      case round =>
        rcases hrel with rfl | rfl
        · go_wp2
          go_round
          case rel => exact .inr rfl
          case measure => decide
        · go_wp2
          go_ret
          exact ⟨ri HF.out.symm, rfl⟩
  · have hx : (x != 0) = true := by simpa using h1
    have HF := Lib.hid (show orI x y = x from if_neg h1)
    go_enter Try.func74, Try.ntmps74
    go_wp2
    go_loop [8] (fun i => i = .int .i64 0) (fun i => 2 - (intOf i).toNat)
    case atStart => rfl
    case round =>
      obtain rfl := hrel
      go_wp2
      go_ret
      exact ⟨ri HF.out.symm, rfl⟩

end Go.Proofs.Ytjnbdgldpmmamaa

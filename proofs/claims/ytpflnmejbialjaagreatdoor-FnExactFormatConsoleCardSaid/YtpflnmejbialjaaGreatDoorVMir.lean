/- Lemmas. -/
import Derived.Test.YtpflnmejbialjaaGreatDoorVGood
namespace Go.Proofs.YtpflnmejbialjaaGreatDoor
set_option linter.unusedSimpArgs false
set_option linter.unusedVariables false
open Go.RowKit


theorem column_any (W H c : Int) (s : Value) (w : World) (hc : 0 ≤ c ∧ c ≤ 1000000) (hW : 1 ≤ W ∧ W ≤ 5) :
    Calls Tryz.prog 40 #[.agg #[.int .i64 W, .int .i64 H, s], .int .i64 c] w fun e w' => e = .returned (.int .i64 (c % W)) ∧ Below w.heap.size w w' := by
  obtain ⟨c1, c2⟩ := hc
  obtain ⟨w1, w2⟩ := hW
  go_enter Tryz.func40, Tryz.ntmps40
  go_wp2
  go_ret
  exact ⟨rfl, by (repeat' (first | exact Below.refl _ _ | with_reducible refine Below.setCell ?_ (by first | omega | (simp; done) | (simp; omega)) _ | with_reducible refine Below.alloc ?_ (by first | omega | (simp; done) | (simp; omega)) _ | with_reducible refine Below.drew ?_ | with_reducible refine bdrewN ?_ _))⟩
end Go.Proofs.YtpflnmejbialjaaGreatDoor

import Derived.Test.YtaaegejihgpfeaaBlow
namespace Go.Proofs.Ytaaegejihgpfeaa
set_option linter.unusedSimpArgs false
set_option linter.unusedVariables false
open Go.RowKit

set_option maxRecDepth 100000 in
set_option maxHeartbeats 1000000 in
theorem toWind_any (e s q : Int) (w : World) :
    Calls Try.prog 48 #[.agg #[.int .i64 e, .int .i64 s, .int .i64 q]] w fun o w' => o = .returned (.agg #[.int .i64 e, .int .i64 s, .int .i64 q]) ∧ Below w.heap.size w w' := by
  go_enter Try.func48, Try.ntmps48
  have R1 := (Row.new (w.alloc (.cells #[.int .i64 e, .int .i64 s, .int .i64 q] 65)) (w.heap.size + 1) (by simp) #[.int .i64 0, .int .i64 0, .int .i64 0] 67)
  go_wp2
  refine bodyPost_ret (v := .agg #[.int .i64 e, .int .i64 s, .int .i64 q]) (by simp [results, Try.results48, go_sem, R1.cell]) rfl ⟨rfl, ?_⟩
  (repeat' (first | exact Below.refl _ _ | with_reducible refine Below.setCell ?_ (by first | omega | (simp; done) | (simp; omega)) _ | with_reducible refine Below.alloc ?_ (by first | omega | (simp; done) | (simp; omega)) _ | with_reducible refine Below.drew ?_ | with_reducible refine bdrewN ?_ _))

end Go.Proofs.Ytaaegejihgpfeaa

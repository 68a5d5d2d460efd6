/-
  Logs in the laws: sizes, copies, comparison.
-/
import Derived.Test.YtpflnmejbialjaaDoorVLogF
import Derived.Test.YtpflnmejbialjaaDoorVLogQ
/-
  Logs in the laws: sizes, copies, comparison.
-/
namespace Go.Proofs.YtpflnmejbialjaaDoor
set_option linter.unusedSimpArgs false
set_option linter.unusedVariables false
open Go.RowKit

set_option maxRecDepth 100000 in
set_option maxHeartbeats 2000000 in
theorem szLog_any (D P : Bs) (c left : Int) (w : World) (h0 : 0 ≤ left) (h1 : left ≤ 1048576) (hc : D.length ≤ maxLen) (hr : P.length ≤ maxLen) :
    Calls Tryd.prog 12 #[logV D P c, .int .i64 left] w fun e w' => e = .returned (.int .i64 (szT left D.length P.length)) ∧ Below w.heap.size w w' := by
  have S1 := bsA_size
  unfold maxLen at hc hr
  by_cases g1 : left - D.length < 0
  · have HE := Lib.hid (show szT left D.length P.length = -1 by rw [szT, if_pos g1])
    go_enter Tryd.func12, Tryd.ntmps12
    go_wp2
    go_ret
    exact ⟨ri (by rw [HE.out]), by (repeat' (first | exact Below.refl _ _ | with_reducible refine Below.setCell ?_ (by first | omega | (simp; done) | (simp; omega)) _ | with_reducible refine Below.alloc ?_ (by first | omega | (simp; done) | (simp; omega)) _ | with_reducible refine Below.drew ?_ | with_reducible refine bdrewN ?_ _))⟩
  by_cases g2 : left - D.length - P.length < 0
  · have HE := Lib.hid (show szT left D.length P.length = -1 by rw [szT, if_neg g1, if_pos g2])
    go_enter Tryd.func12, Tryd.ntmps12
    go_wp2
    go_ret
    exact ⟨ri (by rw [HE.out]), by (repeat' (first | exact Below.refl _ _ | with_reducible refine Below.setCell ?_ (by first | omega | (simp; done) | (simp; omega)) _ | with_reducible refine Below.alloc ?_ (by first | omega | (simp; done) | (simp; omega)) _ | with_reducible refine Below.drew ?_ | with_reducible refine bdrewN ?_ _))⟩
  · have HE := Lib.hid (show szT left D.length P.length = left - D.length - P.length by rw [szT, if_neg g1, if_neg g2])
    go_enter Tryd.func12, Tryd.ntmps12
    go_wp2
    go_ret
    exact ⟨ri (by rw [HE.out]), by (repeat' (first | exact Below.refl _ _ | with_reducible refine Below.setCell ?_ (by first | omega | (simp; done) | (simp; omega)) _ | with_reducible refine Below.alloc ?_ (by first | omega | (simp; done) | (simp; omega)) _ | with_reducible refine Below.drew ?_ | with_reducible refine bdrewN ?_ _))⟩

set_option maxRecDepth 100000 in
set_option maxHeartbeats 1000000 in
theorem toLog_any (D P : Bs) (c : Int) (w : World) :
    Calls Tryd.prog 17 #[logV D P c] w fun o w' => o = .returned (logV D P c) ∧ Below w.heap.size w w' := by
  go_enter Tryd.func17, Tryd.ntmps17
  have R1 := (Row.new (w.alloc (.cells #[.string (bsA D), .string (bsA P), .int .i64 c] 29)) (w.heap.size + 1) (by simp) #[.string ⟨#[]⟩, .string ⟨#[]⟩, .int .i64 0] 38)
  go_wp2
  refine bodyPost_ret (v := logV D P c) (by simp [results, Tryd.results17, go_sem, R1.cell]) rfl ⟨rfl, ?_⟩
  (repeat' (first | exact Below.refl _ _ | with_reducible refine Below.setCell ?_ (by first | omega | (simp; done) | (simp; omega)) _ | with_reducible refine Below.alloc ?_ (by first | omega | (simp; done) | (simp; omega)) _ | with_reducible refine Below.drew ?_ | with_reducible refine bdrewN ?_ _))

end Go.Proofs.YtpflnmejbialjaaDoor

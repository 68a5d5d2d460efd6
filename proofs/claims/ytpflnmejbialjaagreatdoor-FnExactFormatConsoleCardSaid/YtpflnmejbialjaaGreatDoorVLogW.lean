/-
  Logs in the laws: sizes, copies, comparison.
-/
import Derived.Test.YtpflnmejbialjaaGreatDoorVStr
import Derived.Test.YtpflnmejbialjaaGreatDoorVLst
import Derived.Test.YtpflnmejbialjaaGreatDoorVOpn
import Derived.Test.YtpflnmejbialjaaGreatDoorVWrap
/-
  Records of a log in the laws: sizes, copies; arguments that are read.
-/
namespace Go.Proofs.YtpflnmejbialjaaGreatDoor
set_option linter.unusedSimpArgs false
set_option linter.unusedVariables false
open Go.ChangeShapes Go.WideShapes Go.ChangeAt Go.RowKit Go.Joins

/-- what two texts leave of a bound -/
def szT (left : Int) (a b : Nat) : Int := if left - a < 0 then -1 else if left - a - b < 0 then -1 else left - a - b
theorem szT_pos {left : Int} {a b : Nat} (h : ¬ szT left a b < 0) : (a : Int) + b ≤ left ∧ szT left a b = left - a - b := by
  unfold szT at h ⊢
  by_cases h1 : left - a < 0
  · rw [if_pos h1] at h; omega
  · rw [if_neg h1] at h ⊢
    by_cases h2 : left - a - b < 0
    · rw [if_pos h2] at h; omega
    · rw [if_neg h2] at h ⊢; omega

theorem Tryz.cells9 : Tryz.prog.cellsOf 9 = 1 := by kernel_rfl
end Go.Proofs.YtpflnmejbialjaaGreatDoor

/-
  Logs in the laws: sizes, copies, comparison.
-/
namespace Go.Proofs.YtpflnmejbialjaaGreatDoor
set_option linter.unusedSimpArgs false
set_option linter.unusedVariables false
open Go.RowKit

set_option maxRecDepth 100000 in
set_option maxHeartbeats 2000000 in
theorem szLog_any (D P : Bs) (c left : Int) (w : World) (h0 : 0 ≤ left) (h1 : left ≤ 1048576) (hc : D.length ≤ maxLen) (hr : P.length ≤ maxLen) :
    Calls Tryz.prog 12 #[logV D P c, .int .i64 left] w fun e w' => e = .returned (.int .i64 (szT left D.length P.length)) ∧ Below w.heap.size w w' := by
  have S1 := bsA_size
  unfold maxLen at hc hr
  by_cases g1 : left - D.length < 0
  · have HE := Lib.hid (show szT left D.length P.length = -1 by rw [szT, if_pos g1])
    go_enter Tryz.func12, Tryz.ntmps12
    go_wp2
    go_ret
    exact ⟨ri (by rw [HE.out]), by (repeat' (first | exact Below.refl _ _ | with_reducible refine Below.setCell ?_ (by first | omega | (simp; done) | (simp; omega)) _ | with_reducible refine Below.alloc ?_ (by first | omega | (simp; done) | (simp; omega)) _ | with_reducible refine Below.drew ?_ | with_reducible refine bdrewN ?_ _))⟩
  by_cases g2 : left - D.length - P.length < 0
  · have HE := Lib.hid (show szT left D.length P.length = -1 by rw [szT, if_neg g1, if_pos g2])
    go_enter Tryz.func12, Tryz.ntmps12
    go_wp2
    go_ret
    exact ⟨ri (by rw [HE.out]), by (repeat' (first | exact Below.refl _ _ | with_reducible refine Below.setCell ?_ (by first | omega | (simp; done) | (simp; omega)) _ | with_reducible refine Below.alloc ?_ (by first | omega | (simp; done) | (simp; omega)) _ | with_reducible refine Below.drew ?_ | with_reducible refine bdrewN ?_ _))⟩
  · have HE := Lib.hid (show szT left D.length P.length = left - D.length - P.length by rw [szT, if_neg g1, if_neg g2])
    go_enter Tryz.func12, Tryz.ntmps12
    go_wp2
    go_ret
    exact ⟨ri (by rw [HE.out]), by (repeat' (first | exact Below.refl _ _ | with_reducible refine Below.setCell ?_ (by first | omega | (simp; done) | (simp; omega)) _ | with_reducible refine Below.alloc ?_ (by first | omega | (simp; done) | (simp; omega)) _ | with_reducible refine Below.drew ?_ | with_reducible refine bdrewN ?_ _))⟩

set_option maxRecDepth 100000 in
set_option maxHeartbeats 1000000 in
theorem toLog_any (D P : Bs) (c : Int) (w : World) :
    Calls Tryz.prog 19 #[logV D P c] w fun o w' => o = .returned (logV D P c) ∧ Below w.heap.size w w' := by
  go_enter Tryz.func19, Tryz.ntmps19
  have R1 := (Row.new (w.alloc (.cells #[.string (bsA D), .string (bsA P), .int .i64 c] 29)) (w.heap.size + 1) (by simp) #[.string ⟨#[]⟩, .string ⟨#[]⟩, .int .i64 0] 39)
  go_wp2
  refine bodyPost_ret (v := logV D P c) (by simp [results, Tryz.results19, go_sem, R1.cell]) rfl ⟨rfl, ?_⟩
  (repeat' (first | exact Below.refl _ _ | with_reducible refine Below.setCell ?_ (by first | omega | (simp; done) | (simp; omega)) _ | with_reducible refine Below.alloc ?_ (by first | omega | (simp; done) | (simp; omega)) _ | with_reducible refine Below.drew ?_ | with_reducible refine bdrewN ?_ _))

end Go.Proofs.YtpflnmejbialjaaGreatDoor

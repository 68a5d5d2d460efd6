/-
  Logs in the laws: sizes, copies, comparison.
-/
import Derived.Test.YtkpicemjiokdpaaDoorLogF
import Derived.Test.YtkpicemjiokdpaaDoorLogQ
namespace Go.Proofs.YtkpicemjiokdpaaDoor
set_option linter.unusedSimpArgs false
set_option linter.unusedVariables false
open Go.RowKit

set_option maxRecDepth 100000 in
set_option maxHeartbeats 2000000 in
theorem szLog_any (D P : Bs) (c left : Int) (w : World) (h0 : 0 ≤ left) (h1 : left ≤ 1048576) (hc : D.length ≤ maxLen) (hr : P.length ≤ maxLen) :
    Calls Tryd.prog 21 #[logV D P c, .int .i64 left] w fun e w' => e = .returned (.int .i64 (szT left D.length P.length)) ∧ Below w.heap.size w w' := by
  have S1 := bsA_size
  unfold maxLen at hc hr
  by_cases g1 : left - D.length < 0
  · have HE := Lib.hid (show szT left D.length P.length = -1 by rw [szT, if_pos g1])
    go_enter Tryd.func21, Tryd.ntmps21
    go_wp2
    go_ret
    exact ⟨ri (by rw [HE.out]), by (repeat' (first | exact Below.refl _ _ | with_reducible refine Below.setCell ?_ (by first | omega | (simp; done) | (simp; omega)) _ | with_reducible refine Below.alloc ?_ (by first | omega | (simp; done) | (simp; omega)) _ | with_reducible refine Below.drew ?_ | with_reducible refine bdrewN ?_ _))⟩
  by_cases g2 : left - D.length - P.length < 0
  · have HE := Lib.hid (show szT left D.length P.length = -1 by rw [szT, if_neg g1, if_pos g2])
    go_enter Tryd.func21, Tryd.ntmps21
    go_wp2
    go_ret
    exact ⟨ri (by rw [HE.out]), by (repeat' (first | exact Below.refl _ _ | with_reducible refine Below.setCell ?_ (by first | omega | (simp; done) | (simp; omega)) _ | with_reducible refine Below.alloc ?_ (by first | omega | (simp; done) | (simp; omega)) _ | with_reducible refine Below.drew ?_ | with_reducible refine bdrewN ?_ _))⟩
  · have HE := Lib.hid (show szT left D.length P.length = left - D.length - P.length by rw [szT, if_neg g1, if_neg g2])
    go_enter Tryd.func21, Tryd.ntmps21
    go_wp2
    go_ret
    exact ⟨ri (by rw [HE.out]), by (repeat' (first | exact Below.refl _ _ | with_reducible refine Below.setCell ?_ (by first | omega | (simp; done) | (simp; omega)) _ | with_reducible refine Below.alloc ?_ (by first | omega | (simp; done) | (simp; omega)) _ | with_reducible refine Below.drew ?_ | with_reducible refine bdrewN ?_ _))⟩

set_option maxRecDepth 100000 in
set_option maxHeartbeats 1000000 in
theorem toLog_any (D P : Bs) (c : Int) (w : World) :
    Calls Tryd.prog 23 #[logV D P c] w fun o w' => o = .returned (logV D P c) ∧ Below w.heap.size w w' := by
  go_enter Tryd.func23, Tryd.ntmps23
  have R1 := (Row.new (w.alloc (.cells #[.string (bsA D), .string (bsA P), .int .i64 c] 36)) (w.heap.size + 1) (by simp) #[.string ⟨#[]⟩, .string ⟨#[]⟩, .int .i64 0] 31)
  go_wp2
  refine bodyPost_ret (v := logV D P c) (by simp [results, Tryd.results23, go_sem, R1.cell]) rfl ⟨rfl, ?_⟩
  (repeat' (first | exact Below.refl _ _ | with_reducible refine Below.setCell ?_ (by first | omega | (simp; done) | (simp; omega)) _ | with_reducible refine Below.alloc ?_ (by first | omega | (simp; done) | (simp; omega)) _ | with_reducible refine Below.drew ?_ | with_reducible refine bdrewN ?_ _))

set_option maxRecDepth 100000 in
set_option maxHeartbeats 1000000 in
theorem eqLog_same (D P : Bs) (c : Int) (w : World) :
    Calls Tryd.prog 20 #[logV D P c, logV D P c] w fun o w' => o = .returned (.bool true) ∧ Below w.heap.size w w' := by
  have h1 : (D != D) = false := by simp
  have h2 : (P != P) = false := by simp
  have h3 : (c != c) = false := by simp
  have S3 := bsA_list
  go_enter Tryd.func20, Tryd.ntmps20
  go_wp2
  go_ret
  exact ⟨rfl, by (repeat' (first | exact Below.refl _ _ | with_reducible refine Below.setCell ?_ (by first | omega | (simp; done) | (simp; omega)) _ | with_reducible refine Below.alloc ?_ (by first | omega | (simp; done) | (simp; omega)) _ | with_reducible refine Below.drew ?_ | with_reducible refine bdrewN ?_ _))⟩

theorem sync_form (D P : Bs) (c : Int) : ∃ D' P' c' b, syncV D P c = .tuple #[logV D' P' c', .bool b] := by
  unfold syncV
  split
  · exact ⟨_, _, _, _, rfl⟩
  · exact ⟨_, _, _, _, rfl⟩
theorem app_form (D P : Bs) (c : Int) (e : RecB) : ∃ D' P' c' i, appV D P c e = .tuple #[logV D' P' c', .int .i64 i] := by
  unfold appV
  split
  · split
    · exact ⟨_, _, _, _, rfl⟩
    · exact ⟨_, _, _, _, rfl⟩
  · exact ⟨_, _, _, _, rfl⟩
theorem recover_form (l : Bs) : ∃ D' P' c' n b, recoverV l = .tuple #[logV D' P' c', .int .i64 n, .bool b] := by
  unfold recoverV
  split
  · exact ⟨_, _, _, _, _, rfl⟩
  · exact ⟨_, _, _, _, _, rfl⟩
end Go.Proofs.YtkpicemjiokdpaaDoor

/-
  Records of a log in the laws: sizes, copies; arguments that are read.
-/
import Derived.Test.YtkpicemjiokdpaaDoorStr
import Derived.Test.YtkpicemjiokdpaaDoorLst
import Derived.Test.YtkpicemjiokdpaaDoorOpn
namespace Go.Proofs.YtkpicemjiokdpaaDoor
set_option linter.unusedSimpArgs false
set_option linter.unusedVariables false
open Go.ChangeShapes Go.WideShapes Go.ChangeAt Go.RowKit Go.Joins

/-- what two texts leave of a bound -/
def szT (left : Int) (a b : Nat) : Int := if left - a < 0 then -1 else if left - a - b < 0 then -1 else left - a - b
theorem szT_pos {left : Int} {a b : Nat} (h : ¬ szT left a b < 0) : (a : Int) + b ≤ left ∧ szT left a b = left - a - b := by
  unfold szT at h ⊢
  by_cases h1 : left - a < 0
  · rw [if_pos h1] at h; omega
  · rw [if_neg h1] at h ⊢
    by_cases h2 : left - a - b < 0
    · rw [if_pos h2] at h; omega
    · rw [if_neg h2] at h ⊢; omega

set_option maxRecDepth 100000 in
set_option maxHeartbeats 2000000 in
theorem szLogRecord_any (c r : Bs) (left : Int) (w : World) (h0 : 0 ≤ left) (h1 : left ≤ 1048576) (hc : c.length ≤ maxLen) (hr : r.length ≤ maxLen) :
    Calls Tryd.prog 14 #[.agg #[.string (bsA c), .string (bsA r)], .int .i64 left] w fun e w' => e = .returned (.int .i64 (szT left c.length r.length)) ∧ Below w.heap.size w w' := by
  have S1 := bsA_size
  unfold maxLen at hc hr
  by_cases g1 : left - c.length < 0
  · have HE := Lib.hid (show szT left c.length r.length = -1 by rw [szT, if_pos g1])
    go_enter Tryd.func14, Tryd.ntmps14
    go_wp2
    go_ret
    exact ⟨ri (by rw [HE.out]), by (repeat' (first | exact Below.refl _ _ | with_reducible refine Below.setCell ?_ (by first | omega | (simp; done) | (simp; omega)) _ | with_reducible refine Below.alloc ?_ (by first | omega | (simp; done) | (simp; omega)) _ | with_reducible refine Below.drew ?_ | with_reducible refine bdrewN ?_ _))⟩
  by_cases g2 : left - c.length - r.length < 0
  · have HE := Lib.hid (show szT left c.length r.length = -1 by rw [szT, if_neg g1, if_pos g2])
    go_enter Tryd.func14, Tryd.ntmps14
    go_wp2
    go_ret
    exact ⟨ri (by rw [HE.out]), by (repeat' (first | exact Below.refl _ _ | with_reducible refine Below.setCell ?_ (by first | omega | (simp; done) | (simp; omega)) _ | with_reducible refine Below.alloc ?_ (by first | omega | (simp; done) | (simp; omega)) _ | with_reducible refine Below.drew ?_ | with_reducible refine bdrewN ?_ _))⟩
  · have HE := Lib.hid (show szT left c.length r.length = left - c.length - r.length by rw [szT, if_neg g1, if_neg g2])
    go_enter Tryd.func14, Tryd.ntmps14
    go_wp2
    go_ret
    exact ⟨ri (by rw [HE.out]), by (repeat' (first | exact Below.refl _ _ | with_reducible refine Below.setCell ?_ (by first | omega | (simp; done) | (simp; omega)) _ | with_reducible refine Below.alloc ?_ (by first | omega | (simp; done) | (simp; omega)) _ | with_reducible refine Below.drew ?_ | with_reducible refine bdrewN ?_ _))⟩

set_option maxRecDepth 100000 in
set_option maxHeartbeats 1000000 in
theorem toLogRecord_any (c r : Bs) (w : World) :
    Calls Tryd.prog 16 #[.agg #[.string (bsA c), .string (bsA r)]] w fun o w' => o = .returned (.agg #[.string (bsA c), .string (bsA r)]) ∧ Below w.heap.size w w' := by
  go_enter Tryd.func16, Tryd.ntmps16
  have R1 := (Row.new (w.alloc (.cells #[.string (bsA c), .string (bsA r)] 23)) (w.heap.size + 1) (by simp) #[.string ⟨#[]⟩, .string ⟨#[]⟩] 27)
  go_wp2
  refine bodyPost_ret (v := .agg #[.string (bsA c), .string (bsA r)]) (by simp [results, Tryd.results16, go_sem, R1.cell]) rfl ⟨rfl, ?_⟩
  (repeat' (first | exact Below.refl _ _ | with_reducible refine Below.setCell ?_ (by first | omega | (simp; done) | (simp; omega)) _ | with_reducible refine Below.alloc ?_ (by first | omega | (simp; done) | (simp; omega)) _ | with_reducible refine Below.drew ?_ | with_reducible refine bdrewN ?_ _))

theorem Tryd.cells23 : Tryd.prog.cellsOf 23 = 2 := by kernel_rfl
theorem Tryd.cells9 : Tryd.prog.cellsOf 9 = 1 := by kernel_rfl
set_option maxRecDepth 100000 in
theorem elLogRecord {H : Type} {enc : TypeId × Value → H} {W : World} (fuel : Nat) (cs : List Value) (x : DataW H × List MemPlace) (h : DataW.trod enc Tryd.prog W 0 (fun _ => true) true fuel 23 cs = some x) : ∃ c r : Bs, cs = [.string (bsA c), .string (bsA r)] ∧ c.length ≤ maxLen ∧ r.length ≤ maxLen := by
  obtain ⟨ys, m, _, _, hl, hyl, hf⟩ := DataW.trod_struct Tryd.underlying23 h
  rw [Tryd.cells23] at hl
  match cs, hl, ys, hyl with
  | [c0, c1], _, [y0, y1], _ =>
    have h0 : DataW.trod enc Tryd.prog W 0 (fun _ => true) true m 9 [c0] = some y0 := by simpa [Tryd.cells9] using hf 0 _ rfl
    obtain ⟨s0, e0, _, w0⟩ := DataW.trod_string Tryd.underlying9 h0
    simp only [List.cons.injEq, and_true] at e0
    subst e0
    have h1 : DataW.trod enc Tryd.prog W 0 (fun _ => true) true m 9 [c1] = some y1 := by simpa [Tryd.cells9] using hf 1 _ rfl
    obtain ⟨s1, e1, _, w1⟩ := DataW.trod_string Tryd.underlying9 h1
    simp only [List.cons.injEq, and_true] at e1
    subst e1
    exact ⟨bl s0, bl s1, rfl, w0, w1⟩
set_option maxRecDepth 100000 in
theorem openLogRecord {H : Type} {enc : TypeId × Value → H} {W : World} {base : Nat} {v : Value} {d : DataW H} {p : List MemPlace} (hval : Value.okWide Tryd.prog W .any base 23 v) (h : DataW.Trod enc Tryd.prog W 0 (fun _ => true) true 23 v d p) : ∃ c r : Bs, v = .agg #[.string (bsA c), .string (bsA r)] ∧ c.length ≤ maxLen ∧ r.length ≤ maxLen := by
  obtain ⟨f, hf⟩ := h
  obtain ⟨cs, rfl, _⟩ := okWide_struct Tryd.underlying23 hval
  obtain ⟨c, r, hy, hc, hr⟩ := elLogRecord f _ _ hf
  exact ⟨c, r, congrArg Value.agg (Array.ext' hy), hc, hr⟩
end Go.Proofs.YtkpicemjiokdpaaDoor

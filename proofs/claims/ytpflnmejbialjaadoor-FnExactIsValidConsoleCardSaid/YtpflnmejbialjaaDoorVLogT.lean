/-
  Arguments of the laws that are read: a log.
-/
import Derived.Test.YtpflnmejbialjaaDoorVLogQ
/-
  Arguments of the laws that are read: a log.
-/
namespace Go.Proofs.YtpflnmejbialjaaDoor
set_option linter.unusedSimpArgs false
set_option linter.unusedVariables false
open Go.ChangeShapes Go.WideShapes Go.ChangeAt Go.RowKit Go.Joins

theorem Tryd.cells29 : Tryd.prog.cellsOf 29 = 3 := by kernel_rfl
theorem Tryd.cellsT3 : Tryd.prog.cellsOf 3 = 1 := by kernel_rfl
set_option maxRecDepth 100000 in
theorem elLog {H : Type} {enc : TypeId × Value → H} {W : World} (fuel : Nat) (cs : List Value) (x : DataW H × List MemPlace) (h : DataW.trod enc Tryd.prog W 0 (fun _ => true) true fuel 29 cs = some x) : ∃ (c r : Bs) (z : Int), cs = [.string (bsA c), .string (bsA r), .int .i64 z] ∧ c.length ≤ maxLen ∧ r.length ≤ maxLen := by
  obtain ⟨ys, m, _, _, hl, hyl, hf⟩ := DataW.trod_struct Tryd.underlying29 h
  rw [Tryd.cells29] at hl
  match cs, hl, ys, hyl with
  | [c0, c1, c2], _, [y0, y1, y2], _ =>
    have h0 : DataW.trod enc Tryd.prog W 0 (fun _ => true) true m 9 [c0] = some y0 := by simpa [Tryd.cells9] using hf 0 _ rfl
    obtain ⟨s0, e0, _, w0⟩ := DataW.trod_string Tryd.underlying9 h0
    simp only [List.cons.injEq, and_true] at e0
    subst e0
    have h1 : DataW.trod enc Tryd.prog W 0 (fun _ => true) true m 9 [c1] = some y1 := by simpa [Tryd.cells9] using hf 1 _ rfl
    obtain ⟨s1, e1, _, w1⟩ := DataW.trod_string Tryd.underlying9 h1
    simp only [List.cons.injEq, and_true] at e1
    subst e1
    have h2 : DataW.trod enc Tryd.prog W 0 (fun _ => true) true m 3 [c2] = some y2 := by simpa [Tryd.cellsT3] using hf 2 _ rfl
    obtain ⟨z, e2, _, _⟩ := DataW.trod_int Tryd.underlying3 h2
    simp only [List.cons.injEq, and_true] at e2
    subst e2
    exact ⟨bl s0, bl s1, z, rfl, w0, w1⟩
end Go.Proofs.YtpflnmejbialjaaDoor

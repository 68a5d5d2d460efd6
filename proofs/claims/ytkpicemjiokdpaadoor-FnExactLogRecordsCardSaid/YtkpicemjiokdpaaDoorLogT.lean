/-
  Arguments of the laws that are read: a log.
-/
import Derived.Test.YtkpicemjiokdpaaDoorLogQ
namespace Go.Proofs.YtkpicemjiokdpaaDoor
set_option linter.unusedSimpArgs false
set_option linter.unusedVariables false
open Go.ChangeShapes Go.WideShapes Go.ChangeAt Go.RowKit Go.Joins

theorem Tryd.cells36 : Tryd.prog.cellsOf 36 = 3 := by kernel_rfl
theorem Tryd.cellsT3 : Tryd.prog.cellsOf 3 = 1 := by kernel_rfl
set_option maxRecDepth 100000 in
theorem elLog {H : Type} {enc : TypeId × Value → H} {W : World} (fuel : Nat) (cs : List Value) (x : DataW H × List MemPlace) (h : DataW.trod enc Tryd.prog W 0 (fun _ => true) true fuel 36 cs = some x) : ∃ (c r : Bs) (z : Int), cs = [.string (bsA c), .string (bsA r), .int .i64 z] ∧ c.length ≤ maxLen ∧ r.length ≤ maxLen := by
  obtain ⟨ys, m, _, _, hl, hyl, hf⟩ := DataW.trod_struct Tryd.underlying36 h
  rw [Tryd.cells36] at hl
  match cs, hl, ys, hyl with
  | [c0, c1, c2], _, [y0, y1, y2], _ =>
    have h0 : DataW.trod enc Tryd.prog W 0 (fun _ => true) true m 9 [c0] = some y0 := by simpa [Tryd.cells9] using hf 0 _ rfl
    obtain ⟨s0, e0, _, w0⟩ := DataW.trod_string Tryd.underlying9 h0
    simp only [List.cons.injEq, and_true] at e0
    subst e0
    have h1 : DataW.trod enc Tryd.prog W 0 (fun _ => true) true m 9 [c1] = some y1 := by simpa [Tryd.cells9] using hf 1 _ rfl
    obtain ⟨s1, e1, _, w1⟩ := DataW.trod_string Tryd.underlying9 h1
    simp only [List.cons.injEq, and_true] at e1
    subst e1
    have h2 : DataW.trod enc Tryd.prog W 0 (fun _ => true) true m 3 [c2] = some y2 := by simpa [Tryd.cellsT3] using hf 2 _ rfl
    obtain ⟨z, e2, _, _⟩ := DataW.trod_int Tryd.underlying3 h2
    simp only [List.cons.injEq, and_true] at e2
    subst e2
    exact ⟨bl s0, bl s1, z, rfl, w0, w1⟩
set_option maxRecDepth 100000 in
theorem openLog {H : Type} {enc : TypeId × Value → H} {W : World} {base : Nat} {v : Value} {d : DataW H} {p : List MemPlace} (hval : Value.okWide Tryd.prog W .any base 36 v) (h : DataW.Trod enc Tryd.prog W 0 (fun _ => true) true 36 v d p) : ∃ (c r : Bs) (z : Int), v = .agg #[.string (bsA c), .string (bsA r), .int .i64 z] ∧ c.length ≤ maxLen ∧ r.length ≤ maxLen := by
  obtain ⟨f, hf⟩ := h
  obtain ⟨cs, rfl, _⟩ := okWide_struct Tryd.underlying36 hval
  obtain ⟨c, r, z, hy, hc, hr⟩ := elLog f _ _ hf
  exact ⟨c, r, z, congrArg Value.agg (Array.ext' hy), hc, hr⟩
end Go.Proofs.YtkpicemjiokdpaaDoor

/- Lemmas. -/
import Derived.Test.YtfnaenekdenmkaaJOpn
import Derived.Test.YtfnaenekdenmkaaJFlOrder
namespace Go.Proofs.Ytfnaenekdenmkaa
set_option linter.unusedSimpArgs false
set_option linter.unusedVariables false
open Go.ChangeShapes Go.WideShapes Go.ChangeAt Go.RowKit Go.Joins

theorem Try.cells83 : Try.prog.cellsOf 83 = 5 := by kernel_rfl
set_option maxRecDepth 100000 in
theorem elOrder {H : Type} {enc : TypeId × Value → H} {W : World} (fuel : Nat) (cs : List Value) (x : DataW H × List MemPlace) (h : DataW.trod enc Try.prog W 0 (fun _ => true) true fuel 83 cs = some x) : ∃ y, cs = FOrder.enc y ∧ FOrder.wf y := by
  obtain ⟨ys, m, _, _, hl, hyl, hf⟩ := DataW.trod_struct Try.underlying83 h
  rw [Try.cells83] at hl
  match cs, hl, ys, hyl with
  | [c0, c1, c2, c3, c4], _, [y0, y1, y2, y3, y4], _ =>
    have h0 : DataW.trod enc Try.prog W 0 (fun _ => true) true m 3 [c0] = some y0 := by simpa [Try.cells3] using hf 0 _ rfl
    obtain ⟨z0, e0, _, w0⟩ := DataW.trod_int Try.underlying3 h0
    simp only [List.cons.injEq, and_true] at e0
    subst e0
    have ce1 : Try.prog.cellsOf 9 = 1 := by kernel_rfl
    have h1 : DataW.trod enc Try.prog W 0 (fun _ => true) true m 9 [c1] = some y1 := by simpa [Try.cells3, ce1] using hf 1 _ rfl
    obtain ⟨z1, e1, _, w1⟩ := DataW.trod_string Try.underlying9 h1
    simp only [List.cons.injEq, and_true] at e1
    subst e1
    have h2 : DataW.trod enc Try.prog W 0 (fun _ => true) true m 3 [c2] = some y2 := by simpa [Try.cells3] using hf 2 _ rfl
    obtain ⟨z2, e2, _, w2⟩ := DataW.trod_int Try.underlying3 h2
    simp only [List.cons.injEq, and_true] at e2
    subst e2
    have h3 : DataW.trod enc Try.prog W 0 (fun _ => true) true m 3 [c3] = some y3 := by simpa [Try.cells3] using hf 3 _ rfl
    obtain ⟨z3, e3, _, w3⟩ := DataW.trod_int Try.underlying3 h3
    simp only [List.cons.injEq, and_true] at e3
    subst e3
    have h4 : DataW.trod enc Try.prog W 0 (fun _ => true) true m 3 [c4] = some y4 := by simpa [Try.cells3] using hf 4 _ rfl
    obtain ⟨z4, e4, _, w4⟩ := DataW.trod_int Try.underlying3 h4
    simp only [List.cons.injEq, and_true] at e4
    subst e4
    exact ⟨⟨z0, bl z1, z2, z3, z4⟩, rfl, i64_of_wf w0, w1, i64_of_wf w2, i64_of_wf w3, i64_of_wf w4⟩
theorem openOrderS {H : Type} {enc : TypeId × Value → H} {W : World} {fuel : Nat} {cs : List Value} {x : DataW H × List MemPlace} (h : DataW.trod enc Try.prog W 0 (fun _ => true) true fuel 22 cs = some x) (hlt : ∀ p ∈ x.2, p.block < W.heap.size) (hsz : ∀ n ∈ x.1.weights Try.prog 22, n ≤ reachBytes) : ∃ a n c xs, cs = [.slice a n c] ∧ Rd FOrder W a n c xs :=
  rd_open FOrder Try.underlying22 Try.cells83 (by rw [show Try.prog.bytesOf 83 = 48 from by kernel_rfl]; decide) (fun fuel cs x h _ => elOrder fuel cs x h) h hlt hsz
end Go.Proofs.Ytfnaenekdenmkaa

import Derived.Test.YtlmdckocjlogkaaOpn
import Derived.Test.YtlmdckocjlogkaaFlAction
namespace Go.Proofs.Ytlmdckocjlogkaa
set_option linter.unusedSimpArgs false
set_option linter.unusedVariables false
open Go.ChangeShapes Go.WideShapes Go.ChangeAt Go.RowKit Go.Joins

theorem Try.cells56 : Try.prog.cellsOf 56 = 2 := by kernel_rfl
set_option maxRecDepth 100000 in
theorem elAction {H : Type} {enc : TypeId × Value → H} {W : World} (fuel : Nat) (cs : List Value) (x : DataW H × List MemPlace) (h : DataW.trod enc Try.prog W 0 (fun _ => true) true fuel 56 cs = some x) : ∃ y, cs = FAction.enc y ∧ FAction.wf y := by
  obtain ⟨ys, m, _, _, hl, hyl, hf⟩ := DataW.trod_struct Try.underlying56 h
  rw [Try.cells56] at hl
  match cs, hl, ys, hyl with
  | [c0, c1], _, [y0, y1], _ =>
    have h0 : DataW.trod enc Try.prog W 0 (fun _ => true) true m 3 [c0] = some y0 := by simpa [Try.cells3] using hf 0 _ rfl
    obtain ⟨z0, e0, _, w0⟩ := DataW.trod_int Try.underlying3 h0
    simp only [List.cons.injEq, and_true] at e0
    subst e0
    have h1 : DataW.trod enc Try.prog W 0 (fun _ => true) true m 3 [c1] = some y1 := by simpa [Try.cells3] using hf 1 _ rfl
    obtain ⟨z1, e1, _, w1⟩ := DataW.trod_int Try.underlying3 h1
    simp only [List.cons.injEq, and_true] at e1
    subst e1
    exact ⟨⟨z0, z1⟩, rfl, i64_of_wf w0, i64_of_wf w1⟩
set_option maxRecDepth 100000 in
theorem openAction {H : Type} {enc : TypeId × Value → H} {W : World} {base : Nat} {v : Value} {d : DataW H} {p : List MemPlace} (hval : Value.okWide Try.prog W .any base 56 v) (h : DataW.Trod enc Try.prog W 0 (fun _ => true) true 56 v d p) : ∃ y : ActionI, v = y.val ∧ FAction.wf y := by
  obtain ⟨f, hf⟩ := h
  obtain ⟨cs, rfl, _⟩ := okWide_struct Try.underlying56 hval
  obtain ⟨y, hy, hw⟩ := elAction f _ _ hf
  exact ⟨y, congrArg Value.agg (Array.ext' hy), hw⟩
theorem openActionS {H : Type} {enc : TypeId × Value → H} {W : World} {fuel : Nat} {cs : List Value} {x : DataW H × List MemPlace} (h : DataW.trod enc Try.prog W 0 (fun _ => true) true fuel 61 cs = some x) (hlt : ∀ p ∈ x.2, p.block < W.heap.size) (hsz : ∀ n ∈ x.1.weights Try.prog 61, n ≤ reachBytes) : ∃ a n c xs, cs = [.slice a n c] ∧ Rd FAction W a n c xs :=
  rd_open FAction Try.underlying61 Try.cells56 (by rw [show Try.prog.bytesOf 56 = 16 from by kernel_rfl]; exact Nat.le_refl _) (fun fuel cs x h _ => elAction fuel cs x h) h hlt hsz
end Go.Proofs.Ytlmdckocjlogkaa

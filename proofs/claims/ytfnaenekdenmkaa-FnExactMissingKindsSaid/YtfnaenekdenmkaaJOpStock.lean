/- Lemmas. -/
import Derived.Test.YtfnaenekdenmkaaJOpn
import Derived.Test.YtfnaenekdenmkaaJFlStock
namespace Go.Proofs.Ytfnaenekdenmkaa
set_option linter.unusedSimpArgs false
set_option linter.unusedVariables false
open Go.ChangeShapes Go.WideShapes Go.ChangeAt Go.RowKit Go.Joins

theorem Try.cells85 : Try.prog.cellsOf 85 = 2 := by kernel_rfl
set_option maxRecDepth 100000 in
theorem elStock {H : Type} {enc : TypeId × Value → H} {W : World} (fuel : Nat) (cs : List Value) (x : DataW H × List MemPlace) (h : DataW.trod enc Try.prog W 0 (fun _ => true) true fuel 85 cs = some x) : ∃ y, cs = FStock.enc y ∧ FStock.wf y := by
  obtain ⟨ys, m, _, _, hl, hyl, hf⟩ := DataW.trod_struct Try.underlying85 h
  rw [Try.cells85] at hl
  match cs, hl, ys, hyl with
  | [c0, c1], _, [y0, y1], _ =>
    have ce0 : Try.prog.cellsOf 9 = 1 := by kernel_rfl
    have h0 : DataW.trod enc Try.prog W 0 (fun _ => true) true m 9 [c0] = some y0 := by simpa [Try.cells3, ce0] using hf 0 _ rfl
    obtain ⟨z0, e0, _, w0⟩ := DataW.trod_string Try.underlying9 h0
    simp only [List.cons.injEq, and_true] at e0
    subst e0
    have h1 : DataW.trod enc Try.prog W 0 (fun _ => true) true m 3 [c1] = some y1 := by simpa [Try.cells3] using hf 1 _ rfl
    obtain ⟨z1, e1, _, w1⟩ := DataW.trod_int Try.underlying3 h1
    simp only [List.cons.injEq, and_true] at e1
    subst e1
    exact ⟨⟨bl z0, z1⟩, rfl, w0, i64_of_wf w1⟩
theorem openStockS {H : Type} {enc : TypeId × Value → H} {W : World} {fuel : Nat} {cs : List Value} {x : DataW H × List MemPlace} (h : DataW.trod enc Try.prog W 0 (fun _ => true) true fuel 23 cs = some x) (hlt : ∀ p ∈ x.2, p.block < W.heap.size) (hsz : ∀ n ∈ x.1.weights Try.prog 23, n ≤ reachBytes) : ∃ a n c xs, cs = [.slice a n c] ∧ Rd FStock W a n c xs :=
  rd_open FStock Try.underlying23 Try.cells85 (by rw [show Try.prog.bytesOf 85 = 24 from by kernel_rfl]; decide) (fun fuel cs x h _ => elStock fuel cs x h) h hlt hsz
end Go.Proofs.Ytfnaenekdenmkaa

import Derived.Test.YtaaegejihgpfeaaOpn
import Derived.Test.YtaaegejihgpfeaaFlWind
namespace Go.Proofs.Ytaaegejihgpfeaa
set_option linter.unusedSimpArgs false
set_option linter.unusedVariables false
open Go.ChangeShapes Go.WideShapes Go.ChangeAt Go.RowKit Go.Joins

theorem Try.cells65 : Try.prog.cellsOf 65 = 3 := by kernel_rfl
set_option maxRecDepth 100000 in
theorem elWind {H : Type} {enc : TypeId × Value → H} {W : World} (fuel : Nat) (cs : List Value) (x : DataW H × List MemPlace) (h : DataW.trod enc Try.prog W 0 (fun _ => true) true fuel 65 cs = some x) : ∃ y, cs = FWind.enc y ∧ FWind.wf y := by
  obtain ⟨ys, m, _, _, hl, hyl, hf⟩ := DataW.trod_struct Try.underlying65 h
  rw [Try.cells65] at hl
  match cs, hl, ys, hyl with
  | [c0, c1, c2], _, [y0, y1, y2], _ =>
    have h0 : DataW.trod enc Try.prog W 0 (fun _ => true) true m 3 [c0] = some y0 := by simpa [Try.cells3] using hf 0 _ rfl
    obtain ⟨z0, e0, _, w0⟩ := DataW.trod_int Try.underlying3 h0
    simp only [List.cons.injEq, and_true] at e0
    subst e0
    have h1 : DataW.trod enc Try.prog W 0 (fun _ => true) true m 3 [c1] = some y1 := by simpa [Try.cells3] using hf 1 _ rfl
    obtain ⟨z1, e1, _, w1⟩ := DataW.trod_int Try.underlying3 h1
    simp only [List.cons.injEq, and_true] at e1
    subst e1
    have h2 : DataW.trod enc Try.prog W 0 (fun _ => true) true m 3 [c2] = some y2 := by simpa [Try.cells3] using hf 2 _ rfl
    obtain ⟨z2, e2, _, w2⟩ := DataW.trod_int Try.underlying3 h2
    simp only [List.cons.injEq, and_true] at e2
    subst e2
    exact ⟨⟨z0, z1, z2⟩, rfl, i64_of_wf w0, i64_of_wf w1, i64_of_wf w2⟩
set_option maxRecDepth 100000 in
theorem openWind {H : Type} {enc : TypeId × Value → H} {W : World} {base : Nat} {v : Value} {d : DataW H} {p : List MemPlace} (hval : Value.okWide Try.prog W .any base 65 v) (h : DataW.Trod enc Try.prog W 0 (fun _ => true) true 65 v d p) : ∃ y : WindI, v = y.val ∧ FWind.wf y := by
  obtain ⟨f, hf⟩ := h
  obtain ⟨cs, rfl, _⟩ := okWide_struct Try.underlying65 hval
  obtain ⟨y, hy, hw⟩ := elWind f _ _ hf
  exact ⟨y, congrArg Value.agg (Array.ext' hy), hw⟩
theorem openWindS {H : Type} {enc : TypeId × Value → H} {W : World} {fuel : Nat} {cs : List Value} {x : DataW H × List MemPlace} (h : DataW.trod enc Try.prog W 0 (fun _ => true) true fuel 70 cs = some x) (hlt : ∀ p ∈ x.2, p.block < W.heap.size) (hsz : ∀ n ∈ x.1.weights Try.prog 70, n ≤ reachBytes) : ∃ a n c xs, cs = [.slice a n c] ∧ Rd FWind W a n c xs :=
  rd_open FWind Try.underlying70 Try.cells65 (by rw [show Try.prog.bytesOf 65 = 24 from by kernel_rfl]; exact Nat.le_refl _) (fun fuel cs x h _ => elWind fuel cs x h) h hlt hsz
end Go.Proofs.Ytaaegejihgpfeaa

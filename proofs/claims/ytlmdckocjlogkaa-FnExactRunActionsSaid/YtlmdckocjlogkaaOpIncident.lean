import Derived.Test.YtlmdckocjlogkaaWrap
import Derived.Deep.Strs
namespace Go.Proofs.Ytlmdckocjlogkaa
set_option linter.unusedSimpArgs false
set_option linter.unusedVariables false
open Go.ChangeShapes Go.WideShapes Go.ChangeAt Go.RowKit Go.Joins

theorem Try.cells47 : Try.prog.cellsOf 47 = 6 := by kernel_rfl
set_option maxRecDepth 100000 in
theorem openIncident {H : Type} {enc : TypeId × Value → H} {W : World} {base : Nat} {v : Value} {d : DataW H} {p : List MemPlace} (hval : Value.okWide Try.prog W .any base 47 v)
    (h : DataW.Trod enc Try.prog W 0 (fun _ => true) true 47 v d p) (hlt : ∀ x ∈ p, x.block < W.heap.size) (hsz : ∀ n ∈ d.weights Try.prog 47, n ≤ reachBytes) :
    ∃ Wd Hd a1 n1 c1 xs1 a2 n2 c2 xs2 a3 n3 c3 xs3 t, v = .agg #[.int .i64 Wd, .int .i64 Hd, .slice a1 n1 c1, .slice a2 n2 c2, .slice a3 n3 c3, .int .i64 t] ∧ I64 Wd ∧ I64 Hd ∧ Ints W a1 n1 c1 xs1 ∧ Ints W a2 n2 c2 xs2 ∧ Ints W a3 n3 c3 xs3 ∧ I64 t := by
  obtain ⟨f, hf⟩ := h
  obtain ⟨cs, rfl, hcs⟩ := okWide_struct Try.underlying47 hval
  obtain ⟨y0, y1, y2, y3, m, hx, hl, h0, h1, h2, h3⟩ := trod_struct4 Try.underlying47 hf
  simp only [Prod.mk.injEq] at hx
  obtain ⟨rfl, rfl⟩ := hx
  rw [Try.cells47] at hl
  obtain ⟨l, rfl⟩ : ∃ l : List Value, cs = l.toArray := ⟨cs.toList, by simp⟩
  simp only [Value.cells] at hl h0 h1 h2 h3
  match l, hl with
  | [e0, e1, e2, e3, e4, e5], _ =>
    have g0 : DataW.trod enc Try.prog W 0 (fun _ => true) true m 24 [e0, e1, e2] = some y0 := by simpa [Try.cells24] using h0
    have g1 : DataW.trod enc Try.prog W 0 (fun _ => true) true m 22 [e3] = some y1 := by simpa [Try.cells22] using h1
    have g2 : DataW.trod enc Try.prog W 0 (fun _ => true) true m 22 [e4] = some y2 := by simpa [Try.cells22] using h2
    have g3 : DataW.trod enc Try.prog W 0 (fun _ => true) true m 3 [e5] = some y3 := by simpa [Try.cells3] using h3
    obtain ⟨z0, z1, z2, m', hz, hl', i0, i1, i2⟩ := Go.Deep.trod_struct3 Try.underlying24 g0
    obtain ⟨d0, p0⟩ := y0
    simp only [Prod.mk.injEq] at hz
    obtain ⟨rfl, rfl⟩ := hz
    have j0 : DataW.trod enc Try.prog W 0 (fun _ => true) true m' 3 [e0] = some z0 := by simpa [Try.cells3] using i0
    have j1 : DataW.trod enc Try.prog W 0 (fun _ => true) true m' 3 [e1] = some z1 := by simpa [Try.cells3] using i1
    have j2 : DataW.trod enc Try.prog W 0 (fun _ => true) true m' 22 [e2] = some z2 := by simpa [Try.cells22] using i2
    obtain ⟨Wd, q0, _, wa⟩ := DataW.trod_int Try.underlying3 j0
    obtain ⟨Hd, q1, _, wb⟩ := DataW.trod_int Try.underlying3 j1
    obtain ⟨a1, n1, c1, xs1, q2, I1⟩ := ints_open j2 (fun x hx => hlt x (by simp [hx])) (fun k hk => hsz k (by simp [DataW.weights, Try.underlying47, Try.underlying24, DataW.weightsEach, hk]))
    obtain ⟨a2, n2, c2, xs2, q3, I2⟩ := ints_open g1 (fun x hx => hlt x (by simp [hx])) (fun k hk => hsz k (by simp [DataW.weights, Try.underlying47, DataW.weightsEach, hk]))
    obtain ⟨a3, n3, c3, xs3, q4, I3⟩ := ints_open g2 (fun x hx => hlt x (by simp [hx])) (fun k hk => hsz k (by simp [DataW.weights, Try.underlying47, DataW.weightsEach, hk]))
    obtain ⟨t, q5, _, wt⟩ := DataW.trod_int Try.underlying3 g3
    simp only [List.cons.injEq, and_true] at q0 q1 q2 q3 q4 q5
    subst q0 q1 q2 q3 q4 q5
    exact ⟨Wd, Hd, a1, n1, c1, xs1, a2, n2, c2, xs2, a3, n3, c3, xs3, t, rfl, i64_of_wf wa, i64_of_wf wb, I1, I2, I3, i64_of_wf wt⟩
end Go.Proofs.Ytlmdckocjlogkaa

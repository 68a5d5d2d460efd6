/- Lemmas. -/
import Derived.Test.YtpflnmejbialjaaDoorVWrap
import Derived.Deep.Strs
import Derived.Test.YtpflnmejbialjaaDoorVOpn
import Derived.Test.YtpflnmejbialjaaDoorVFlPhase
namespace Go.Proofs.YtpflnmejbialjaaDoor
set_option linter.unusedSimpArgs false
set_option linter.unusedVariables false
open Go.ChangeShapes Go.WideShapes Go.ChangeAt Go.RowKit Go.Joins

theorem Tryd.cells26 : Tryd.prog.cellsOf 26 = 6 := by kernel_rfl
end Go.Proofs.YtpflnmejbialjaaDoor

namespace Go.Proofs.YtpflnmejbialjaaDoor
set_option linter.unusedSimpArgs false
set_option linter.unusedVariables false
open Go.ChangeShapes Go.WideShapes Go.ChangeAt Go.RowKit Go.Joins

theorem Tryd.cells66 : Tryd.prog.cellsOf 66 = 2 := by kernel_rfl
set_option maxRecDepth 100000 in
theorem elPhase {H : Type} {enc : TypeId × Value → H} {W : World} (fuel : Nat) (cs : List Value) (x : DataW H × List MemPlace) (h : DataW.trod enc Tryd.prog W 0 (fun _ => true) true fuel 66 cs = some x) : ∃ y, cs = FPhase.enc y ∧ FPhase.wf y := by
  obtain ⟨ys, m, _, _, hl, hyl, hf⟩ := DataW.trod_struct Tryd.underlying66 h
  rw [Tryd.cells66] at hl
  match cs, hl, ys, hyl with
  | [c0, c1], _, [y0, y1], _ =>
    have h0 : DataW.trod enc Tryd.prog W 0 (fun _ => true) true m 3 [c0] = some y0 := by simpa [Tryd.cells3] using hf 0 _ rfl
    obtain ⟨z0, e0, _, w0⟩ := DataW.trod_int Tryd.underlying3 h0
    simp only [List.cons.injEq, and_true] at e0
    subst e0
    have h1 : DataW.trod enc Tryd.prog W 0 (fun _ => true) true m 3 [c1] = some y1 := by simpa [Tryd.cells3] using hf 1 _ rfl
    obtain ⟨z1, e1, _, w1⟩ := DataW.trod_int Tryd.underlying3 h1
    simp only [List.cons.injEq, and_true] at e1
    subst e1
    exact ⟨⟨z0, z1⟩, rfl, i64_of_wf w0, i64_of_wf w1⟩
theorem openPhaseS {H : Type} {enc : TypeId × Value → H} {W : World} {fuel : Nat} {cs : List Value} {x : DataW H × List MemPlace} (h : DataW.trod enc Tryd.prog W 0 (fun _ => true) true fuel 27 cs = some x) (hlt : ∀ p ∈ x.2, p.block < W.heap.size) (hsz : ∀ n ∈ x.1.weights Tryd.prog 27, n ≤ reachBytes) : ∃ a n c xs, cs = [.slice a n c] ∧ Rd FPhase W a n c xs :=
  rd_open FPhase Tryd.underlying27 Tryd.cells66 (by rw [show Tryd.prog.bytesOf 66 = 16 from by kernel_rfl]; exact Nat.le_refl _) (fun fuel cs x h _ => elPhase fuel cs x h) h hlt hsz
end Go.Proofs.YtpflnmejbialjaaDoor

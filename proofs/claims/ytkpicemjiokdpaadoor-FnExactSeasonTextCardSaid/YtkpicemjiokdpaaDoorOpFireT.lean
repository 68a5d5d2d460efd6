/-
  An argument that is a list of fires, opened for a card.
-/
import Derived.Test.YtkpicemjiokdpaaDoorOpCode
import Derived.Test.YtkpicemjiokdpaaDoorOpFire
namespace Go.Proofs.YtkpicemjiokdpaaDoor
set_option linter.unusedSimpArgs false
set_option linter.unusedVariables false
open Go.ChangeShapes Go.WideShapes Go.ChangeAt Go.RowKit Go.Joins

set_option maxRecDepth 100000 in
theorem openFireT {H : Type} {enc : TypeId × Value → H} {W : World} {base : Nat} {v : Value} {d : DataW H} {p : List MemPlace} (hval : Value.okWide Tryd.prog W .any base 62 v) (h : DataW.Trod enc Tryd.prog W 0 (fun _ => true) true 62 v d p)
    (hlt : ∀ x ∈ p, x.block < W.heap.size) (hsz : ∀ n ∈ d.weights Tryd.prog 62, n ≤ reachBytes) : ∃ a n c xs, v = .slice a n c ∧ Rd FFire W a n c xs := by
  obtain ⟨f, hf⟩ := h
  obtain ⟨b0, l0, cc0, rfl⟩ := okWide_slice Tryd.underlying62 hval
  obtain ⟨a, n, c, xs, e, hI⟩ := openFireS hf hlt hsz
  obtain ⟨rfl, rfl, rfl⟩ : b0 = a ∧ l0 = n ∧ cc0 = c := by simpa [Value.cells] using e
  exact ⟨_, _, _, xs, rfl, hI⟩
end Go.Proofs.YtkpicemjiokdpaaDoor

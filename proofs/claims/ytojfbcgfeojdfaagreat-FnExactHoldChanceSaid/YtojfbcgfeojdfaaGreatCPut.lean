/-
  spec.l1Put of a number that is not there; spec.l2Reach.
-/
import Derived.Test.YtojfbcgfeojdfaaGreatCNear4
import Derived.Test.YtojfbcgfeojdfaaGreatCPutV
import Derived.Deep.LoopGhost
/-
  spec.l1Put of a number that is not there; spec.l2Reach.
-/
namespace Go.Proofs.YtojfbcgfeojdfaaGreat
set_option linter.unusedSimpArgs false
set_option linter.unusedVariables false
open Go.RowKit

set_option maxRecDepth 100000 in
set_option maxHeartbeats 4000000 in
theorem l1Put_any (g off n c : Nat) (xs : List Int) (x : Int) (w : World) (h : Ints w (some ⟨g, off, none⟩) n c xs) (hx : x ∉ xs) (hxi : I64 x) (hn : n ≤ 1000) :
    Calls Tryz.prog 112 #[.slice (some ⟨g, off, none⟩) n c, .int .i64 x] w fun e w' => ∃ g' c', e = .returned (.slice (some ⟨g', 0, none⟩) (n + 1) c') ∧ Mem w.heap.size w w' [intE (some ⟨g', 0, none⟩) (n + 1) c' (putL xs x)] := by
  refine (l1PutV_any g off n c xs x w h hxi hn).mono ?_
  rintro e w' (⟨h1, -⟩ | h2)
  · exact absurd h1 hx
  · exact h2
end Go.Proofs.YtojfbcgfeojdfaaGreat

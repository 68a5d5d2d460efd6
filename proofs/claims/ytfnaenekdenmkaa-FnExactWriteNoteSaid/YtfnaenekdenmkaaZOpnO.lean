/-
  OpenOrders: both sides.
-/
import Derived.Test.YtfnaenekdenmkaaZServS
import Derived.Test.YtfnaenekdenmkaaZOrdP
import Derived.Deep.DeepCutAuto
import Derived.Deep.CutBlock
import Derived.Laws.Cover1
import Derived.Test.YtfnaenekdenmkaaZStoI
import Derived.Test.YtfnaenekdenmkaaZRd
import Derived.Deep.LoopGhost
/-
  OpenOrders: both sides.
-/
namespace Go.Proofs.Ytfnaenekdenmkaa
set_option linter.unusedSimpArgs false
set_option linter.unusedVariables false
open Go.RowKit

theorem Mem.nilOwO {α : Type} {F : Fl α} {E : TypeId} {B : Nat} {w0 w : World} {G : List Ent} (h : Mem B w0 w G) : Mem B w0 w (owE F E none 0 0 [] :: G) := by
  refine ⟨h.below, h.size, fun e he => ?_, List.pairwise_cons.2 ⟨fun e _ k hk => ?_, h.apart⟩⟩
  · rcases List.mem_cons.1 he with rfl | he
    · exact ⟨rfl, by omega, by simp, World.ownsRow_nil _ _ _ _⟩
    · exact h.ents e he
  · simp [owE, blockOf] at hk
end Go.Proofs.Ytfnaenekdenmkaa

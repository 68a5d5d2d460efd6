/-
  OpenOrders: both sides.
-/
import Derived.Test.YtfnaenekdenmkaaJOpnI
import Derived.Test.YtfnaenekdenmkaaJSvS
import Derived.Test.YtfnaenekdenmkaaJOrdG
import Derived.Test.YtfnaenekdenmkaaJStoS
/-
  OpenOrders: both sides.
-/
namespace Go.Proofs.Ytfnaenekdenmkaa
set_option linter.unusedSimpArgs false
set_option linter.unusedVariables false
open Go.RowKit

theorem Mem.nilOwO {α : Type} {F : Fl α} {E : TypeId} {B : Nat} {w0 w : World} {G : List Ent} (h : Mem B w0 w G) : Mem B w0 w (owE F E none 0 0 [] :: G) := by
  refine ⟨h.below, h.size, fun e he => ?_, List.pairwise_cons.2 ⟨fun e _ k hk => ?_, h.apart⟩⟩
  · rcases List.mem_cons.1 he with rfl | he
    · exact ⟨rfl, by omega, by simp, World.ownsRow_nil _ _ _ _⟩
    · exact h.ents e he
  · simp [owE, blockOf] at hk
def openB (os : List OrderI) (ss : List StockI) : Bool := ordersB os && storeB ss
end Go.Proofs.Ytfnaenekdenmkaa

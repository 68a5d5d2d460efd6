/-
  OpenOrders: both sides.
-/
import Derived.Test.YtjnbdgldpmmamaaMOrdP
import Derived.Deep.DeepCutAuto
import Derived.Deep.CutBlock
import Derived.Test.YtjnbdgldpmmamaaMApp
import Derived.Test.YtjnbdgldpmmamaaMServS
import Derived.Laws.Cover1
import Derived.Test.YtjnbdgldpmmamaaMRd
import Derived.Deep.LoopGhost
/-
  Stores: the place of a kind, a copy (the program's).
-/
namespace Go.Proofs.Ytjnbdgldpmmamaa
set_option linter.unusedSimpArgs false
set_option linter.unusedVariables false
open Go.RowKit

/-- what a function value answers on the records of a list -/
def AnswersStock (f : FuncId) (caps : Array Value) (p : StockI → Bool) (xs : List StockI) (w : World) : Prop :=
  ∀ v ∈ xs, ∀ w', Below w.heap.size w w' → Calls Try.prog f (#[v.val] ++ caps) w' fun o w'' => o = .returned (.bool (p v)) ∧ Below w'.heap.size w' w''
theorem AnswersStock.ext {f : FuncId} {caps : Array Value} {p : StockI → Bool} {xs : List StockI} {w w1 : World} (h : AnswersStock f caps p xs w) (hb : Below w.heap.size w w1) : AnswersStock f caps p xs w1 :=
  fun v hv w' hb' => h v hv w' (hb.trans (hb'.mono hb.size))

end Go.Proofs.Ytjnbdgldpmmamaa

/-
  OpenOrders: both sides.
-/
namespace Go.Proofs.Ytjnbdgldpmmamaa
set_option linter.unusedSimpArgs false
set_option linter.unusedVariables false
open Go.RowKit

theorem Mem.nilOwO {α : Type} {F : Fl α} {E : TypeId} {B : Nat} {w0 w : World} {G : List Ent} (h : Mem B w0 w G) : Mem B w0 w (owE F E none 0 0 [] :: G) := by
  refine ⟨h.below, h.size, fun e he => ?_, List.pairwise_cons.2 ⟨fun e _ k hk => ?_, h.apart⟩⟩
  · rcases List.mem_cons.1 he with rfl | he
    · exact ⟨rfl, by omega, by simp, World.ownsRow_nil _ _ _ _⟩
    · exact h.ents e he
  · simp [owE, blockOf] at hk
end Go.Proofs.Ytjnbdgldpmmamaa

/-
  Orders that do not get all: the plain part.
-/
import Derived.Test.YtfnaenekdenmkaaJSvP
/-
  Orders that do not get all: the plain part.
-/
namespace Go.Proofs.Ytfnaenekdenmkaa
set_option linter.unusedSimpArgs false
set_option linter.unusedVariables false
open Go.RowKit

/-- an order with what it lacks -/
def lackO (os : List OrderI) (gs : List Int) (k : Nat) : OrderI := { os.getD k OrderI.zero with ct := (os.getD k OrderI.zero).ct - gs.getD k 0 }
def openTo (os : List OrderI) (gs : List Int) : Nat → List OrderI
  | 0 => []
  | k + 1 => if gs.getD k 0 < (os.getD k OrderI.zero).ct then openTo os gs k ++ [lackO os gs k] else openTo os gs k
theorem openTo_le (os : List OrderI) (gs : List Int) : ∀ k, (openTo os gs k).length ≤ k
  | 0 => Nat.le_refl _
  | k + 1 => by
    have := openTo_le os gs k
    unfold openTo
    split
    · rw [List.length_append, List.length_singleton]; omega
    · omega
def openL (os : List OrderI) (ss : List StockI) : List OrderI := openTo os (gotL os ss) os.length
theorem gotL_small {os : List OrderI} {ss : List StockI} (ho : ordersB os = true) (h : storeB ss = true) {k : Nat} : 0 ≤ (gotL os ss).getD k 0 ∧ (gotL os ss).getD k 0 ≤ 99 := by
  by_cases hk : k < (gotL os ss).length
  · exact (servK_small ho h _).1 _ (getD_mem hk)
  · rw [List.getD_eq_getElem?_getD, List.getElem?_eq_none (by omega)]
    decide
end Go.Proofs.Ytfnaenekdenmkaa

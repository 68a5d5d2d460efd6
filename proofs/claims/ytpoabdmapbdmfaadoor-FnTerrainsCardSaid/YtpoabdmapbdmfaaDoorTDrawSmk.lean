/-
  The reference's draws of smoke.
-/
import Derived.Test.YtpoabdmapbdmfaaDoorTCur
import Derived.Test.YtpoabdmapbdmfaaDoorTPackA
import Derived.Test.YtpoabdmapbdmfaaDoorTRegF
import Derived.Test.YtpoabdmapbdmfaaDoorTPush
import Derived.Test.YtpoabdmapbdmfaaDoorTWrap
import Derived.Deep.DeepCutAuto
/-
  The reference's draws of smoke.
-/
namespace Go.Proofs.YtpoabdmapbdmfaaDoor
set_option linter.unusedSimpArgs false
set_option linter.unusedVariables false
open Go.RowKit

def allB (lo hi : Int) (xs : List Int) : Prop := ∀ x ∈ xs, lo ≤ x ∧ x ≤ hi
theorem allB_nil (lo hi : Int) : allB lo hi [] := by intro x hx; cases hx
theorem allB_snoc {lo hi y : Int} {xs : List Int} (h : allB lo hi xs) (hy : lo ≤ y ∧ y ≤ hi) : allB lo hi (xs ++ [y]) := by
  intro x hx
  rcases List.mem_append.1 hx with hx | hx
  · exact h x hx
  · obtain rfl := List.mem_singleton.1 hx
    exact hy
theorem allB_set {lo hi y : Int} {xs : List Int} {k : Nat} (h : allB lo hi xs) (hy : lo ≤ y ∧ y ≤ hi) : allB lo hi (xs.set k y) := by
  intro x hx
  rcases List.mem_or_eq_of_mem_set hx with hx | rfl
  · exact h x hx
  · exact hy
theorem amb {x : Int} (lo hi : Int) {xs : List Int} (h : x ∈ xs) (hb : xs.all (fun y => decide (lo ≤ y) && decide (y ≤ hi)) = true) : lo ≤ x ∧ x ≤ hi := by
  have := List.all_eq_true.1 hb x h
  simpa using this
theorem Mem.out3 {B : Nat} {w0 w : World} {G : List Ent} {e e2 e3 : Ent} (h : Mem B w0 w (e :: e2 :: e3 :: G)) : Mem B w0 w (e :: G) := h.sub (by simp)
theorem Nat.mul_le_25 {a b : Nat} (ha : a ≤ 5) (hb : b ≤ 5) : a * b ≤ 25 := Nat.mul_le_mul ha hb

end Go.Proofs.YtpoabdmapbdmfaaDoor

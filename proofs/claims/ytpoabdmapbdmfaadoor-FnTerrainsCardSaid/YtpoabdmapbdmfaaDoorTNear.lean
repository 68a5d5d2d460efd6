/-
  Distances and neighbors; cells that fulfil a condition; lists filtered.
-/
import Derived.Test.YtpoabdmapbdmfaaDoorTMir
import Derived.Test.YtpoabdmapbdmfaaDoorTMkr
import Derived.Test.YtpoabdmapbdmfaaDoorTReach
/-
  Distances and neighbors; cells that fulfil a condition; lists filtered.
-/
namespace Go.Proofs.YtpoabdmapbdmfaaDoor
set_option linter.unusedSimpArgs false
set_option linter.unusedVariables false
open Go.RowKit

/-- the cells below n with p, as numbers -/
def cellsN (n : Nat) (p : Nat → Bool) : List Int := ((List.range n).filter p).map Int.ofNat
theorem cellsN_succ (n : Nat) (p : Nat → Bool) : cellsN (n + 1) p = cellsN n p ++ if p n then [(n : Int)] else [] := by
  unfold cellsN
  rw [List.range_succ, List.filter_append, List.map_append]
  cases h : p n <;> simp [h]
theorem cellsN_length (n : Nat) (p : Nat → Bool) : (cellsN n p).length ≤ n := by
  unfold cellsN
  rw [List.length_map]
  exact Nat.le_trans (List.length_filter_le _ _) (by simp)
theorem cellsN_mem {n : Nat} {p : Nat → Bool} {x : Int} : x ∈ cellsN n p ↔ ∃ c : Nat, x = c ∧ c < n ∧ p c = true := by
  unfold cellsN
  simp only [List.mem_map, List.mem_filter, List.mem_range]
  constructor
  · rintro ⟨c, ⟨h1, h2⟩, rfl⟩; exact ⟨c, rfl, h1, h2⟩
  · rintro ⟨c, rfl, h1, h2⟩; exact ⟨c, ⟨h1, h2⟩, rfl⟩
theorem cellsN_asc (n : Nat) (p : Nat → Bool) : (cellsN n p).Pairwise (· < ·) := by
  unfold cellsN
  rw [List.pairwise_map]
  refine List.Pairwise.imp ?_ (List.Pairwise.filter _ List.pairwise_lt_range)
  intro a b h
  exact Int.ofNat_lt.2 h
end Go.Proofs.YtpoabdmapbdmfaaDoor

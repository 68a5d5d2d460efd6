/-
  SavedCells.
-/
import Derived.Test.YtbgegmignhghnaaLLinesS
/-
  Sets of cells: ascending lists.
-/
namespace Go.Proofs.Ytbgegmignhghnaa
set_option linter.unusedSimpArgs false
set_option linter.unusedVariables false
open Go.RowKit

theorem risesTo_iff {xs : List Int} : ∀ {k : Nat}, k ≤ xs.length → (risesTo xs k = true ↔ (xs.take k).Pairwise (· < ·))
  | 0, _ => by simp [risesTo]
  | k + 1, h => by
    have ih := risesTo_iff (xs := xs) (k := k) (by omega)
    rw [take_succ' (show k < xs.length by omega), List.pairwise_append]
    simp only [risesTo, Bool.and_eq_true, Bool.or_eq_true, beq_iff_eq, decide_eq_true_eq, ih]
    constructor
    · rintro ⟨h1, h2⟩
      refine ⟨h1, List.pairwise_singleton _ _, fun a ha b hb => ?_⟩
      obtain rfl : b = xs.getD k 0 := by simpa using hb
      cases k with
      | zero => simp at ha
      | succ j =>
        rw [take_succ' (show j < xs.length by omega)] at ha h1
        have h3 : xs.getD j 0 < xs.getD (j + 1) 0 := by
          rcases h2 with h2 | h2
          · omega
          · simpa using h2
        rcases List.mem_append.1 ha with ha | ha
        · have := (List.pairwise_append.1 h1).2.2 a ha (xs.getD j 0) (by simp)
          omega
        · obtain rfl : a = xs.getD j 0 := by simpa using ha
          exact h3
    · rintro ⟨h1, _, h2⟩
      refine ⟨h1, ?_⟩
      cases k with
      | zero => exact .inl rfl
      | succ j =>
        refine .inr ?_
        have := h2 (xs.getD j 0) (by rw [take_succ' (show j < xs.length by omega)]; simp) (xs.getD (j + 1) 0) (by simp)
        simpa using this
theorem setB_iff {n : Nat} {xs : List Int} : setB n xs = true ↔ xs.Pairwise (· < ·) ∧ ∀ x ∈ xs, 0 ≤ x ∧ x < n := by
  unfold setB risingB
  rw [Bool.and_eq_true, risesTo_iff (Nat.le_refl _), List.take_of_length_le (Nat.le_refl _), List.all_eq_true]
  constructor
  · rintro ⟨h1, h2⟩
    exact ⟨h1, fun x hx => by have := inB_true (h2 x hx); omega⟩
  · rintro ⟨h1, h2⟩
    refine ⟨h1, fun x hx => ?_⟩
    have := h2 x hx
    unfold inB
    rw [decide_eq_true_eq]
    omega
theorem setB_filter {n : Nat} {xs : List Int} (p : Int → Bool) (h : setB n xs = true) : setB n (xs.filter p) = true := by
  rw [setB_iff] at h ⊢
  exact ⟨h.1.filter p, fun x hx => h.2 x (List.mem_filter.1 hx).1⟩
theorem setB_cells (n : Nat) (p : Nat → Bool) : setB n (cellsN n p) = true := by
  rw [setB_iff]
  refine ⟨cellsN_asc n p, fun x hx => ?_⟩
  obtain ⟨c, rfl, hc, _⟩ := cellsN_mem.1 hx
  omega
end Go.Proofs.Ytbgegmignhghnaa

/-
  SavedCells.
-/
namespace Go.Proofs.Ytbgegmignhghnaa
set_option linter.unusedSimpArgs false
set_option linter.unusedVariables false
open Go.RowKit

structure LB where
  l : List Int
  ok : Bool
/-- a list and whether there is one: new memory -/
def LRes (w : World) (r : LB) (e : Ending) (w' : World) : Prop := ∃ a m c, e = .returned (.tuple #[.slice a m c, .bool r.ok]) ∧ Mem w.heap.size w w' [intE a m c r.l]

end Go.Proofs.Ytbgegmignhghnaa

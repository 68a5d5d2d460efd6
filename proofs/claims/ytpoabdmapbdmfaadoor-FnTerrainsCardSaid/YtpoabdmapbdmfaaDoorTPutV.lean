/-
  spec.l1Put: a number put to its place in a list, once.
-/
import Derived.Test.YtpoabdmapbdmfaaDoorTQueue
/-
  spec.l1Put: a number put to its place in a list, once.
-/
namespace Go.Proofs.YtpoabdmapbdmfaaDoor
set_option linter.unusedSimpArgs false
set_option linter.unusedVariables false
open Go.RowKit

/-- where a number belongs in an ascending list -/
def putK (x : Int) : List Int → Nat
  | [] => 0
  | y :: ys => if y < x then putK x ys + 1 else 0
def putL (xs : List Int) (x : Int) : List Int := xs.take (putK x xs) ++ x :: xs.drop (putK x xs)
theorem putK_le (x : Int) : ∀ xs : List Int, putK x xs ≤ xs.length
  | [] => Nat.le_refl _
  | y :: ys => by
    unfold putK
    have := putK_le x ys
    split <;> simp <;> omega
theorem putL_mem {xs : List Int} {x y : Int} : y ∈ putL xs x ↔ y = x ∨ y ∈ xs := by
  unfold putL
  have : y ∈ xs ↔ y ∈ xs.take (putK x xs) ∨ y ∈ xs.drop (putK x xs) := by
    rw [← List.mem_append, List.take_append_drop]
  rw [List.mem_append, List.mem_cons, this]
  constructor
  · rintro (h | h | h)
    · exact .inr (.inl h)
    · exact .inl h
    · exact .inr (.inr h)
  · rintro (h | h | h)
    · exact .inr (.inl h)
    · exact .inl h
    · exact .inr (.inr h)
theorem putL_asc {x : Int} : ∀ {xs : List Int}, xs.Pairwise (· < ·) → x ∉ xs → (putL xs x).Pairwise (· < ·)
  | [], _, _ => by simp [putL, putK]
  | y :: ys, h, hx => by
    obtain ⟨h1, h2⟩ := List.pairwise_cons.1 h
    have hxy : x ≠ y := fun e => hx (by simp [e])
    have hxs : x ∉ ys := fun e => hx (by simp [e])
    unfold putL putK
    by_cases hy : y < x
    · rw [if_pos hy, List.take_succ_cons, List.drop_succ_cons, List.cons_append, List.pairwise_cons]
      refine ⟨fun z hz => ?_, putL_asc h2 hxs⟩
      rcases putL_mem.1 (show z ∈ putL ys x from hz) with rfl | hz
      · exact hy
      · exact h1 z hz
    · rw [if_neg hy, List.take_zero, List.drop_zero, List.nil_append, List.pairwise_cons]
      refine ⟨fun z hz => ?_, h⟩
      rcases List.mem_cons.1 hz with rfl | hz
      · omega
      · have := h1 z hz; omega
theorem putL_length (xs : List Int) (x : Int) : (putL xs x).length = xs.length + 1 := by
  unfold putL
  have := putK_le x xs
  rw [List.length_append, List.length_cons, List.length_take, List.length_drop]
  omega

end Go.Proofs.YtpoabdmapbdmfaaDoor

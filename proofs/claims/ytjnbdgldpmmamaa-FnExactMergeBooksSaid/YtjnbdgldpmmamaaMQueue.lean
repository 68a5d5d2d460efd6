/-
  A queue: a slice of numbers that is cut at its head and appended to; and appends of one number, in terms of entries.
-/
import Derived.Test.YtjnbdgldpmmamaaMMkr
import Derived.Test.YtjnbdgldpmmamaaMLst
import Derived.ArgAppend
import Derived.Deep.Upon
/-
  A queue: a slice of numbers that is cut at its head and appended to; and appends of one number, in terms of entries.
-/
namespace Go.Proofs.Ytjnbdgldpmmamaa
set_option linter.unusedSimpArgs false
set_option linter.unusedVariables false
open Go.RowKit

/-- the slice (a, n, c) lies in a block from B on, that is nobody else's, with the numbers xs -/
structure Qu (B : Nat) (w : World) (a : Option Addr) (n c : Nat) (xs : List Int) : Prop where
  len : xs.length = n
  cap : n ≤ c
  capm : c ≤ maxLen
  room : n ≤ 17592186044416
  wf : ∀ x ∈ xs, I64 x
  at' : (a = none ∧ c = 0) ∨ ∃ g off cur, a = some ⟨g, off, none⟩ ∧ B ≤ g ∧ w.heap[g]? = some (.cells cur 3 (0, 0)) ∧ off + c ≤ cur.size ∧ (cur.toList.drop off).take n = cellsI xs

theorem Qu.ints {B : Nat} {w : World} {a : Option Addr} {n c : Nat} {xs : List Int} (h : Qu B w a n c xs) : Ints w a n c xs := by
  refine ⟨h.len, h.cap, h.capm, ?_, h.room, h.wf, fun k hk => ?_⟩
  · rintro rfl
    rcases h.at' with ⟨_, h1⟩ | ⟨g, off, cur, e, _⟩
    · exact h1
    · cases e
  · rcases h.at' with ⟨_, h1⟩ | ⟨g, off, cur, e, hb, hh, hle, ht⟩
    · have := h.cap; omega
    · refine ⟨g, off, e, (Array.getElem?_eq_some_iff.1 hh).1, fun i hi => ?_⟩
      have h2 : (cellsI xs)[i]? = some (.int .i64 (xs.getD i 0)) := by
        have hx : i < xs.length := by rw [h.len]; exact hi
        simp [cellsI, List.getElem?_map, List.getElem?_eq_getElem hx, List.getD_eq_getElem?_getD]
      rw [← ht, List.getElem?_take_of_lt hi, List.getElem?_drop] at h2
      simp [World.cell?, hh]
      simpa using h2

section
variable {B : Nat} {w0 w w' : World} {G G' : List Ent}
end
section
variable {B : Nat} {w0 w w' : World} {G : List Ent} {G' : Ent → List Ent}
end

section
variable {B : Nat} {w0 w : World} {G : List Ent} {G' : Ent → List Ent}
end
end Go.Proofs.Ytjnbdgldpmmamaa

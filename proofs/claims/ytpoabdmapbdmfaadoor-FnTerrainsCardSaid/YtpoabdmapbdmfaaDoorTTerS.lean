/-
  A text in lines: strings.Split at a newline, and the reference's l1Split: the first line's length, and how many there are.
-/
import Derived.Test.YtpoabdmapbdmfaaDoorTTerU
import Derived.Test.YtpoabdmapbdmfaaDoorTShelf
import Derived.Lib.SplitLaws
/-
  A text in lines: strings.Split at a newline, and the reference's l1Split: the first line's length, and how many there are.
-/
namespace Go.Proofs.YtpoabdmapbdmfaaDoor
set_option linter.unusedSimpArgs false
set_option linter.unusedVariables false
open Go.RowKit

/-- the cell that strings.Index reads -/
def Mx (w : World) : Prop := 0 < w.heap.size ∧ ∃ m, w.cell? ⟨0, 0, none⟩ = some (.int .i64 m)
theorem Mx.ext {w w' : World} (h : Mx w) (hb : Below w.heap.size w w') : Mx w' := by
  obtain ⟨h1, m, h2⟩ := h
  exact ⟨Nat.lt_of_lt_of_le h1 hb.size, m, by rw [hb.cell h1]; exact h2⟩
theorem high_count (s : Bs) : highL s = s.count 10 := by
  unfold highL
  rw [← List.countP_eq_length_filter]
  unfold List.count
  congr 1
  funext c
  unfold notN
  simp
theorem tw_none : ∀ {s : Bs}, (∀ k : Nat, s[k]? ≠ some 10) → s.takeWhile notN = s
  | [], _ => rfl
  | x :: s, h => by
    have h0 := h 0
    have hx : notN x = true := by
      unfold notN
      simp only [List.getElem?_cons_zero] at h0
      have : x ≠ 10 := fun e => h0 (by rw [e])
      simpa using this
    rw [List.takeWhile_cons, hx, if_pos rfl, tw_none (s := s) fun k => by have := h (k + 1); simpa using this]
theorem tw_some : ∀ {s : Bs} {i : Nat}, s[i]? = some 10 → (∀ k : Nat, k < i → s[k]? ≠ some 10) → s.takeWhile notN = s.take i
  | [], i, h, _ => by simp at h
  | x :: s, 0, h, _ => by
    simp only [List.getElem?_cons_zero, Option.some.injEq] at h
    subst h
    rfl
  | x :: s, i + 1, h, hb => by
    have h0 := hb 0 (by omega)
    have hx : notN x = true := by
      unfold notN
      simp only [List.getElem?_cons_zero] at h0
      have : x ≠ 10 := fun e => h0 (by rw [e])
      simpa using this
    rw [List.takeWhile_cons, hx, if_pos rfl, tw_some (s := s) (i := i) (by simpa using h) (fun k hk => by have := hb (k + 1) (by omega); simpa using this), List.take_succ_cons]
theorem split_first (s : Bs) : ((Lib.splitB ⟨#[10]⟩ 0 (Lib.countB (bsA s) ⟨#[10]⟩) (bsA s)).map Value.string)[0]? = some (.string (bsA (s.takeWhile notN))) := by
  rcases Lib.indexB_cases (bsA s) ⟨#[10]⟩ with h | ⟨i, h, -⟩
  · rw [Lib.splitB_miss _ _ _ _ h]
    have h1 : Lib.index s [10] = -1 := h
    rw [Lib.index_one] at h1
    rw [tw_none (Lib.indexByte_none h1)]
    rfl
  · have hc := Lib.countB_hit (bsA s) ⟨#[10]⟩ i (by decide) h
    rw [hc, Nat.add_comm, Lib.splitB_hit _ _ _ _ i h]
    have h1 : Lib.index s [10] = i := h
    rw [Lib.index_one] at h1
    obtain ⟨h2, h3⟩ := Lib.indexByte_some h1
    rw [tw_some h2 h3, List.map_cons, List.getElem?_cons_zero, Nat.add_zero, bsA_to]
theorem split_count (s : Bs) : Lib.countB (bsA s) ⟨#[10]⟩ = highL s := by
  rw [high_count]
  exact Lib.count_one 10 s
set_option maxRecDepth 100000 in
theorem split_any (s : Bs) (w : World) (hm : Mx w) (hs : s.length ≤ 1000000) :
    Calls Tryd.prog 72 #[.string (bsA s), .string ⟨#[10]⟩] w fun e w' => ∃ cs : Array Value, cs[0]? = some (.string (bsA (s.takeWhile notN))) ∧ e = .returned (.slice (some ⟨w.heap.size, 0, none⟩) (highL s + 1) (highL s + 1)) ∧ Mem w.heap.size w w' [rowE w.heap.size 9 cs] := by
  have hM := Mem.start w
  obtain ⟨-, m, hm⟩ := hm
  refine (Tryd.strings_Split (bsA s) ⟨#[10]⟩ m w (by rw [bsA_size]; omega) hm (by decide)).mono ?_
  rintro e w' ⟨rfl, rfl⟩
  refine ⟨_, ?_, by rw [split_count], by (repeat' (first | with_reducible exact hM | with_reducible exact hMp | with_reducible apply Mem.drew | with_reducible apply Mem.drewN | with_reducible apply Mem.alloc | with_reducible apply Mem.set | with_reducible exact Sto.row | ((with_reducible refine Sto.rowEq2 ?_ ?_); omega; rfl) | ((with_reducible refine Sto.rowEq ?_); omega) | with_reducible apply Sto.int | with_reducible apply Sto.there | with_reducible assumption | (unfold I64; omega) | (with_reducible (have hMx := Mem.undrew hM; exact hMx)) | (with_reducible (have hMx := Mem.undrew hMp; exact hMx))))⟩
  rw [List.getElem?_toArray]
  exact split_first s
end Go.Proofs.YtpoabdmapbdmfaaDoor

/-
  slices.Sort over ints, from the shelf, in words of memory.
-/
import Derived.Test.YtpoabdmapbdmfaaDoorPMedP
import Derived.Test.YtpoabdmapbdmfaaDoorPShelf
import Derived.Lib.RowBridge
/-
  slices.Sort over ints, from the shelf, in words of memory.
-/
namespace Go.Proofs.YtpoabdmapbdmfaaDoor
set_option linter.unusedSimpArgs false
set_option linter.unusedVariables false
open Go.RowKit

theorem Mem.sorted {B : Nat} {w0 w : World} {G : List Ent} {g n c : Nat} {zs ys : List Int} {q : Nat} {os : Array Obj} (h : Mem B w0 w (intE (some ⟨g, 0, none⟩) n c zs :: G)) (hl : ys.length = n) (hw : ∀ y ∈ ys, I64 y) :
    Mem B w0 (Go.Sort.grow (Go.Sort.putRow (Value.int .i64) (Go.Sort.ahead w q) g 0 ys.toArray) os) (intE (some ⟨g, 0, none⟩) n c ys :: G) := by
  have hI := h.ints .here
  have hroom := hI.room
  rcases hI.row.2 with ⟨e, hn'⟩ | ⟨g', cap, cur, e, hb, hh, hle, hm, hs, ht⟩
  · simp at e
  simp only [Value.slice.injEq, Option.some.injEq, Addr.mk.injEq] at e
  obtain ⟨⟨rfl, _⟩, _, rfl⟩ := e
  have hgs : g < w.heap.size := (Array.getElem?_eq_some_iff.1 hh).1
  have hH : (Go.Sort.grow (Go.Sort.putRow (Value.int .i64) (Go.Sort.ahead w q) g 0 ys.toArray) os).heap[g]? = some (.cells (Go.Sort.putCells (Value.int .i64) 0 ys.toArray cur) 3 (0, 0)) := by
    show ((w.heap.modify g _) ++ os)[g]? = _
    rw [Array.getElem?_append_left (by simpa using hgs), Array.getElem?_modify, if_pos rfl, hh]
    rfl
  refine h.put .here ⟨rfl, rfl, rfl, ?_, fun k hk hd => ?_⟩ ?_ (fun k hk => .inl hk)
  · show w.heap.size ≤ ((w.heap.modify g _) ++ os).size
    simp
  · show ((w.heap.modify g _) ++ os)[k]? = w.heap[k]?
    rw [Array.getElem?_append_left (by simpa using hk), Array.getElem?_modify, if_neg (fun e : g = k => hd ⟨⟨g, 0, none⟩, rfl, e.symm⟩)]
  · refine ⟨hl, hI.room, hw, by rw [cellsI_length]; omega, .inr ⟨g, c, _, rfl, hb, hH, hle, hm, by simpa [Go.Sort.putCells] using hs, ?_⟩⟩
    apply List.ext_getElem?
    intro t
    rw [List.getElem?_take, Nat.mul_one]
    by_cases htn : t < n
    · rw [if_pos htn]
      have hty : t < ys.length := by omega
      have htc : t < cur.size := by omega
      simp [Go.Sort.putCells, cellsI, hty, htc]
    · rw [if_neg htn]
      symm
      rw [List.getElem?_eq_none]
      rw [cellsI_length]
      omega

theorem sortI_any {B : Nat} {w0 w : World} {G : List Ent} {g n c : Nat} {zs : List Int} (h : Mem B w0 w (intE (some ⟨g, 0, none⟩) n c zs :: G)) :
    Calls Tryd.prog 53 #[.slice (some ⟨g, 0, none⟩) n c] w fun e w' => e = .returned (.tuple #[]) ∧ Mem B w0 w' (intE (some ⟨g, 0, none⟩) n c (insS zs zs.length) :: G) := by
  have hI := h.ints .here
  have hl := hI.len
  have hr := hI.room
  have hH : Go.Sort.Holds (Value.int .i64) w g 0 zs.toArray := by
    intro j hj
    have hj' : j < n := by simpa [hl] using hj
    have hjz : j < zs.length := by omega
    refine ⟨?_, ?_⟩
    · rw [Nat.zero_add, hI.cellAt hj']
      simp [List.getD, hjz]
    · rw [Nat.zero_add]
      exact hI.freeAt _
  have hblk : g < w.heap.size := (hI.till g ⟨_, rfl, rfl⟩)
  have hsz : zs.length < 4611686018427387904 := by omega
  have hc := Tryd.slices_Sort_int g 0 c zs w hH hblk hsz
  rw [hl] at hc
  refine hc.mono ?_
  rintro e w' ⟨rfl, q, os, rfl⟩
  rw [merge_ins, hl]
  refine ⟨rfl, h.sorted (by rw [insS_length]) ?_⟩
  intro y hy
  exact hI.wf y (insS_mem (by omega) hy)
end Go.Proofs.YtpoabdmapbdmfaaDoor

/-
  WriteNote: the pure part, and what both sides need.
-/
import Derived.Test.YtjnbdgldpmmamaaMNoteF
/-
  WriteNote: the pure part, and what both sides need.
-/
namespace Go.Proofs.Ytjnbdgldpmmamaa
set_option linter.unusedSimpArgs false
set_option linter.unusedVariables false
open Go.RowKit

theorem RdN.small {u : Int} {w : World} {a : Option Addr} {n c : Nat} {xs : List NoteI} (h : RdN w a n c xs) (hb : bookB u (coreN xs) = true) : ∀ y ∈ xs, smallN y := by
  intro y hy
  obtain ⟨i, hi, rfl⟩ := List.getElem_of_mem hy
  have h1 := noteB_true (book_note hb (k := i) (by rw [coreN_len]; exact hi))
  have hu := book_u hb
  rw [coreN_getD, List.getD_eq_getElem?_getD, List.getElem?_eq_getElem hi] at h1
  have h2 : 0 ≤ (xs[i]).un ∧ (xs[i]).un ≤ u - 1 := h1.2.2.1
  have h3 : 1 ≤ (xs[i]).sq := h1.2.2.2.1
  have h4 : (xs[i]).sq ≤ 12 := h1.2.2.2.2.2.1
  exact ⟨by omega, by omega⟩
set_option maxRecDepth 100000 in
set_option maxHeartbeats 4000000 in
theorem copyNote_any (a : Option Addr) (n c : Nat) (ss : List NoteI) (w : World) (h : Rd FNote w a n c ss) (hn6 : n ≤ 1048576) :
    Calls Try.prog 34 #[.slice a n c] w fun e w' => ∃ a' c', e = .returned (.slice a' n c') ∧ Mem w.heap.size w w' [owE FNote 42 a' n c' ss] := by
  have hM := Mem.start w
  have hr : n * 4 ≤ 17592186044416 := h.room
  obtain ⟨i0, hi, hz0, hz1, hz2⟩ := info_parts Try.info42
  go_enter Try.func34, Try.ntmps34
  go_wp2_with (at_builtin; go_loud (apply Mem.atL; (focus ((repeat' (first | with_reducible exact hM | with_reducible exact hMp | with_reducible apply Mem.drew | with_reducible apply Mem.drewN | with_reducible apply Mem.alloc | with_reducible apply Mem.set | with_reducible exact Sto.row | ((with_reducible refine Sto.rowEq2 ?_ ?_); omega; rfl) | ((with_reducible refine Sto.rowEq ?_); omega) | with_reducible apply Sto.int | with_reducible apply Sto.there | with_reducible assumption | (unfold I64; omega) | (with_reducible (have hMx := Mem.undrew hM; exact hMx)) | (with_reducible (have hMx := Mem.undrew hMp; exact hMx)))); done)); clear hM; intro hM; refine wpList_appRM (F := FNote) (Mem.toOwR hM) (fun _ => .here) (h.ext hM.below) (by show (0 + n) * 4 ≤ _; omega) i0 (.agg #[.int .i64 0, .int .i64 0, .slice none 0 0, .string ⟨#[]⟩]) 56 hi hz0 hz1 hz2 rfl (by omega) rfl _ _ _ Try.underlying24 rfl rfl rfl ?_))
  intro a' c' w' hM
  go_wp2
  go_ret
  exact ⟨a', c', by first | rfl | rw [Nat.zero_add], hM⟩
end Go.Proofs.Ytjnbdgldpmmamaa

/-
  The reference's draws of the laws on lines, whole.
-/
import Derived.Test.YtbgegmignhghnaaLDrawLin
/-
  The reference's draws of the laws on lines, whole.
-/
namespace Go.Proofs.Ytbgegmignhghnaa
set_option linter.unusedSimpArgs false
set_option linter.unusedVariables false
open Go.RowKit

set_option maxRecDepth 100000 in
set_option maxHeartbeats 8000000 in
theorem drawLin_few {ac : Option Addr} {nc cc : Nat} {l : List UInt8} {w : World} (hC : Rd FByt w ac nc cc l) :
    Calls Try.prog 6 #[.slice ac nc cc] w fun e w' => ∃ (W H : Int) (a1 : Option Addr) (c1 : Nat) (xs : List Int) (a2 : Option Addr) (n2 c2 : Nat) (ss : List Int) (a3 : Option Addr) (n3 c3 : Nat) (ts : List Int), okT W H xs ∧ e = .returned (.tuple #[.agg #[.int .i64 W, .int .i64 H, .slice a1 xs.length c1], .slice a2 n2 c2, .slice a3 n3 c3]) ∧ Mem w.heap.size w w' [intE a1 xs.length c1 xs, intE a2 n2 c2 ss, intE a3 n3 c3 ts] := by
  have hM := Mem.start w
  have HC := Lib.hid hC
  clear hC
  go_enter Try.func6, Try.ntmps6 /- 6 -/
  go_wp2_with fail
  apply Mem.atA
  · (repeat' (first | with_reducible exact hM | with_reducible exact hMp | with_reducible apply Mem.drew | with_reducible apply Mem.drewN | with_reducible apply Mem.alloc | with_reducible apply Mem.set | with_reducible exact Sto.row | ((with_reducible refine Sto.rowEq2 ?_ ?_); omega; rfl) | ((with_reducible refine Sto.rowEq ?_); omega) | with_reducible apply Sto.int | with_reducible apply Sto.there | with_reducible assumption | (unfold I64; omega) | (with_reducible (have hMx := Mem.undrew hM; exact hMx)) | (with_reducible (have hMx := Mem.undrew hMp; exact hMx))))
  clear hM
  intro wst hM
  (try simp only [World.size_alloc, World.size_setCell, World.heap_drewN, heapDrew, Nat.add_assoc, Nat.reduceAdd, List.setIfInBounds_toArray, List.set_cons_zero, List.set_cons_succ, List.cons_append, List.nil_append] at hM)
  (first | refine (threat_any HC.out hM.curNew .here (by omega)).mono ?_)
  rintro e wc1 ⟨W, H, a1, c1, xs, a2, n2, c2, ss, a3, n3, c3, ts, hS, rfl, hm⟩
  clear hM
  have hM := hm
  clear hm
  try dsimp only at hM
  have HS := Lib.hid hS; clear hS
  go_upto_region 3 with fail
  apply Mem.atWpA
  · (repeat' (first | with_reducible exact hM | with_reducible exact hMp | with_reducible apply Mem.drew | with_reducible apply Mem.drewN | with_reducible apply Mem.alloc | with_reducible apply Mem.set | with_reducible exact Sto.row | ((with_reducible refine Sto.rowEq2 ?_ ?_); omega; rfl) | ((with_reducible refine Sto.rowEq ?_); omega) | with_reducible apply Sto.int | with_reducible apply Sto.there | with_reducible assumption | (unfold I64; omega) | (with_reducible (have hMx := Mem.undrew hM; exact hMx)) | (with_reducible (have hMx := Mem.undrew hMp; exact hMx))))
  clear hM
  intro wst hM
  (try simp only [World.size_alloc, World.size_setCell, World.heap_drewN, heapDrew, Nat.add_assoc, Nat.reduceAdd, List.setIfInBounds_toArray, List.set_cons_zero, List.set_cons_succ, List.cons_append, List.nil_append] at hM)
  replace hM := hM.pick (is := [5, 1, 2, 3, 0]) (by decide) rfl
  dsimp only [List.filterMap_cons, List.filterMap_nil, List.getElem?_cons_zero, List.getElem?_cons_succ] at hM
  obtain ⟨k0, f0, l0⟩ := hM.row .here
  obtain ⟨k4, f4, l4⟩ := hM.row (.there (.there (.there (.there .here))))
  go_wp2
  refine bodyPost_ret (v := .tuple #[.agg #[.int .i64 W, .int .i64 H, .slice a1 xs.length c1], .slice a2 n2 c2, .slice a3 n3 c3]) (by simp [results, Try.results6, go_sem, k0, k4]) rfl ⟨W, H, a1, c1, xs, a2, n2, c2, ss, a3, n3, c3, ts, HS.out, rfl, ?_⟩
  apply Mem.pick (is := [1, 2, 3])
  · (repeat' (first | with_reducible exact hM | with_reducible exact hMp | with_reducible apply Mem.drew | with_reducible apply Mem.drewN | with_reducible apply Mem.alloc | with_reducible apply Mem.set | with_reducible exact Sto.row | ((with_reducible refine Sto.rowEq2 ?_ ?_); omega; rfl) | ((with_reducible refine Sto.rowEq ?_); omega) | with_reducible apply Sto.int | with_reducible apply Sto.there | with_reducible assumption | (unfold I64; omega) | (with_reducible (have hMx := Mem.undrew hM; exact hMx)) | (with_reducible (have hMx := Mem.undrew hMp; exact hMx))))
  · decide
  · rfl
end Go.Proofs.Ytbgegmignhghnaa

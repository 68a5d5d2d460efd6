/-
  The reference's draws of the laws on terrains.
-/
import Derived.Test.YtkohfegajcmdbaaQDrawTer
import Derived.Test.YtkohfegajcmdbaaQOpCode
import Derived.Test.YtkohfegajcmdbaaQRegF
/-
  The reference's draws of the laws on terrains.
-/
namespace Go.Proofs.Ytkohfegajcmdbaa
set_option linter.unusedSimpArgs false
set_option linter.unusedVariables false
open Go.RowKit

section
variable {B : Nat} {w0 w : World}
theorem Mem.dt3b {a e f : Ent} (h : Mem B w0 w [e, f, a]) : Mem B w0 w [e, f] := h.sub (by simp)
theorem Mem.dt5 {a b c e f : Ent} (h : Mem B w0 w [e, a, b, c, f]) : Mem B w0 w [e, f] := h.sub (by simp)
end
set_option maxRecDepth 100000 in
set_option maxHeartbeats 8000000 in
theorem drawTer_reach {ac : Option Addr} {nc cc : Nat} {l : List UInt8} {w : World} (hC : Rd FByt w ac nc cc l) :
    Calls Try.prog 16 #[.slice ac nc cc] w fun e w' => ∃ (W H : Int) (a' : Option Addr) (c' : Nat) (xs : List Int) (a2 : Option Addr) (c2 : Nat) (ys : List Int), okT W H xs ∧ ys.length ≤ 6 ∧ e = .returned (.tuple #[.agg #[.int .i64 W, .int .i64 H, .slice a' xs.length c'], .slice a2 ys.length c2]) ∧ Mem w.heap.size w w' [intE a2 ys.length c2 ys, intE a' xs.length c' xs] := by
  have hM := Mem.start w
  have HC := Lib.hid hC
  clear hC
  go_enter Try.func16, Try.ntmps16
  go_wp2_with fail
  apply Mem.atA
  · (repeat' (first | with_reducible exact hM | with_reducible exact hMp | with_reducible apply Mem.drew | with_reducible apply Mem.drewN | with_reducible apply Mem.alloc | with_reducible apply Mem.set | with_reducible exact Sto.row | ((with_reducible refine Sto.rowEq2 ?_ ?_); omega; rfl) | ((with_reducible refine Sto.rowEq ?_); omega) | with_reducible apply Sto.int | with_reducible apply Sto.there | with_reducible assumption | (unfold I64; omega) | (with_reducible (have hMx := Mem.undrew hM; exact hMx)) | (with_reducible (have hMx := Mem.undrew hMp; exact hMx))))
  clear hM
  intro wst hM
  (try simp only [World.size_alloc, World.size_setCell, World.heap_drewN, heapDrew, Nat.add_assoc, Nat.reduceAdd, List.setIfInBounds_toArray, List.set_cons_zero, List.set_cons_succ, List.cons_append, List.nil_append] at hM)
  (first | refine (anyTerrain_any HC.out hM.curNew .here (by omega)).mono ?_)
  rintro e wc1 ⟨W, H, a', c', xs, h1, rfl, hm⟩
  clear hM
  have hM := hm
  clear hm
  try dsimp only at hM
  have hl := h1.2.2.1
  have HS := Lib.hid h1; clear h1
  go_upto_region 3 with fail
  apply Mem.atWpA
  · (repeat' (first | with_reducible exact hM | with_reducible exact hMp | with_reducible apply Mem.drew | with_reducible apply Mem.drewN | with_reducible apply Mem.alloc | with_reducible apply Mem.set | with_reducible exact Sto.row | ((with_reducible refine Sto.rowEq2 ?_ ?_); omega; rfl) | ((with_reducible refine Sto.rowEq ?_); omega) | with_reducible apply Sto.int | with_reducible apply Sto.there | with_reducible assumption | (unfold I64; omega) | (with_reducible (have hMx := Mem.undrew hM; exact hMx)) | (with_reducible (have hMx := Mem.undrew hMp; exact hMx))))
  clear hM
  intro wst hM
  (try simp only [World.size_alloc, World.size_setCell, World.heap_drewN, heapDrew, Nat.add_assoc, Nat.reduceAdd, List.setIfInBounds_toArray, List.set_cons_zero, List.set_cons_succ, List.cons_append, List.nil_append] at hM)
  replace hM := hM.pick (is := [2, 3, 0, 1]) (by decide) rfl
  dsimp only [List.filterMap_cons, List.filterMap_nil, List.getElem?_cons_zero, List.getElem?_cons_succ] at hM
  refine AtF.startA hM.tail.tail hM 5 (by kernel_rfl) ?_
  clear hM
  intro wd hM
  have hS := hM.tail.tail
  refine AtF.taked (i := 0) (v := ?_) (some 11) rfl rfl (by kernel_rfl) (by kernel_rfl) (by kernel_rfl) (anc_path [] _ _ (by kernel_rfl) (by kernel_rfl)) (fun _ _ _ h => h) (Or.inl ⟨by kernel_rfl, ?_⟩) hS rfl ?_
  rotate_left
  · (intro wS hSw; (try dsimp only at hSw); have kr0 := (Mem.row hSw .here).cell; go_simp; (try rw [if_neg (by omega)]); try with_reducible rfl)
  simp only [Act.put, List.setIfInBounds_toArray, List.set_cons_zero, List.set_cons_succ]
  refine AtF.taked (i := 1) (v := ?_) (some 12) rfl rfl (by kernel_rfl) (by kernel_rfl) (by kernel_rfl) (anc_path [] _ _ (by kernel_rfl) (by kernel_rfl)) (fun _ _ _ h => h) (Or.inl ⟨by kernel_rfl, ?_⟩) hS rfl ?_
  rotate_left
  · (intro wS hSw; (try dsimp only at hSw); go_simp; (try rw [if_neg (by omega)]); try with_reducible rfl)
  simp only [Act.put, List.setIfInBounds_toArray, List.set_cons_zero, List.set_cons_succ]
  refine AtF.taked (i := 2) (v := ?_) (some 13) rfl rfl (by kernel_rfl) (by kernel_rfl) (by kernel_rfl) (anc_path [] _ _ (by kernel_rfl) (by kernel_rfl)) (fun _ _ _ h => h) (Or.inl ⟨by kernel_rfl, ?_⟩) hS rfl ?_
  rotate_left
  · (intro wS hSw; (try dsimp only at hSw); have kr0 := (Mem.row hSw .here).cell; go_simp; (try rw [if_neg (by omega)]); try with_reducible rfl)
  simp only [Act.put, List.setIfInBounds_toArray, List.set_cons_zero, List.set_cons_succ]
  refine AtF.only (i := 3) (by kernel_rfl) rfl rfl ?_
  intro K hK
  go_simp
  refine (cellsOf_any W H a' xs.length c' hl.2 HC.out hM .here (by omega)).mono ?_
  rintro e w3 ⟨a2, c2, ys, hyl, -, rfl, hm⟩
  clear hM
  have hM := hm
  clear hm
  try dsimp only at hM
  try dsimp only
  refine hK.out _ _ (hM.tail.tail.tail) ?_
  clear hK K hS
  have hS := hM.tail.tail.tail
  refine AtF.only (i := 4) (by kernel_rfl) rfl rfl ?_
  intro K hK
  have kk2 := (hM.row (.there (.there .here))).cell
  have ff2 := (hM.row (.there (.there .here))).free
  have ll2 := (hM.row (.there (.there .here))).lt
  have kk3 := (hM.row (.there (.there (.there .here)))).cell
  have ff3 := (hM.row (.there (.there (.there .here)))).free
  have ll3 := (hM.row (.there (.there (.there .here)))).lt
  go_simp
  clear kk2 ff2 ll2 kk3 ff3 ll3
  refine hK.out _ _ (by apply Mem.tail; apply Mem.tail; apply Mem.tail; (repeat' (first | with_reducible exact hM | with_reducible exact hMp | with_reducible apply Mem.drew | with_reducible apply Mem.drewN | with_reducible apply Mem.alloc | with_reducible apply Mem.set | with_reducible exact Sto.row | ((with_reducible refine Sto.rowEq2 ?_ ?_); omega; rfl) | ((with_reducible refine Sto.rowEq ?_); omega) | with_reducible apply Sto.int | with_reducible apply Sto.there | with_reducible assumption | (unfold I64; omega) | (with_reducible (have hMx := Mem.undrew hM; exact hMx)) | (with_reducible (have hMx := Mem.undrew hMp; exact hMx))))) ?_
  clear hK K hS
  apply Mem.atF
  · (repeat' (first | with_reducible exact hM | with_reducible exact hMp | with_reducible apply Mem.drew | with_reducible apply Mem.drewN | with_reducible apply Mem.alloc | with_reducible apply Mem.set | with_reducible exact Sto.row | ((with_reducible refine Sto.rowEq2 ?_ ?_); omega; rfl) | ((with_reducible refine Sto.rowEq ?_); omega) | with_reducible apply Sto.int | with_reducible apply Sto.there | with_reducible assumption | (unfold I64; omega) | (with_reducible (have hMx := Mem.undrew hM; exact hMx)) | (with_reducible (have hMx := Mem.undrew hMp; exact hMx))))
  clear hM
  intro hM
  (try simp only [World.size_alloc, World.size_setCell, World.heap_drewN, heapDrew, Nat.add_assoc, Nat.reduceAdd, List.setIfInBounds_toArray, List.set_cons_zero, List.set_cons_succ, List.cons_append, List.nil_append] at hM)
  have hS := hM.tail.tail.tail
  refine AtF.last (by kernel_rfl) rfl (by kernel_rfl) ?_
  intro K hK
  clear hS
  go_simp
  refine hK.out _ _ ?_
  clear hK K
  apply Mem.atEx
  · (repeat' (first | with_reducible exact hM | with_reducible exact hMp | with_reducible apply Mem.drew | with_reducible apply Mem.drewN | with_reducible apply Mem.alloc | with_reducible apply Mem.set | with_reducible exact Sto.row | ((with_reducible refine Sto.rowEq2 ?_ ?_); omega; rfl) | ((with_reducible refine Sto.rowEq ?_); omega) | with_reducible apply Sto.int | with_reducible apply Sto.there | with_reducible assumption | (unfold I64; omega) | (with_reducible (have hMx := Mem.undrew hM; exact hMx)) | (with_reducible (have hMx := Mem.undrew hMp; exact hMx))))
  clear hM
  intro wst hM
  (try simp only [World.size_alloc, World.size_setCell, World.heap_drewN, heapDrew, Nat.add_assoc, Nat.reduceAdd, List.setIfInBounds_toArray, List.set_cons_zero, List.set_cons_succ, List.cons_append, List.nil_append] at hM)
  obtain ⟨k2, f2, l2⟩ := hM.row (.there (.there .here))
  go_wp2
  refine bodyPost_ret (v := .tuple #[.agg #[.int .i64 W, .int .i64 H, .slice a' xs.length c'], .slice a2 ys.length c2]) (by simp [results, Try.results16, go_sem, k2]) rfl ⟨W, H, a', c', xs, a2, c2, ys, HS.out, hyl, rfl, ?_⟩
  apply Mem.dt5
  (repeat' (first | with_reducible exact hM | with_reducible exact hMp | with_reducible apply Mem.drew | with_reducible apply Mem.drewN | with_reducible apply Mem.alloc | with_reducible apply Mem.set | with_reducible exact Sto.row | ((with_reducible refine Sto.rowEq2 ?_ ?_); omega; rfl) | ((with_reducible refine Sto.rowEq ?_); omega) | with_reducible apply Sto.int | with_reducible apply Sto.there | with_reducible assumption | (unfold I64; omega) | (with_reducible (have hMx := Mem.undrew hM; exact hMx)) | (with_reducible (have hMx := Mem.undrew hMp; exact hMx))))
set_option maxRecDepth 100000 in
set_option maxHeartbeats 8000000 in
theorem drawTer_new {ac : Option Addr} {nc cc : Nat} {l : List UInt8} {w : World} (hC : Rd FByt w ac nc cc l) :
    Calls Try.prog 49 #[.slice ac nc cc] w fun e w' => ∃ (W H : Int) (a' : Option Addr) (c' : Nat) (xs : List Int) (a2 : Option Addr) (c2 : Nat) (ys : List Int), okT W H xs ∧ ys.length ≤ 6 ∧ e = .returned (.tuple #[.agg #[.int .i64 W, .int .i64 H, .slice a' xs.length c'], .slice a2 ys.length c2]) ∧ Mem w.heap.size w w' [intE a2 ys.length c2 ys, intE a' xs.length c' xs] := by
  have hM := Mem.start w
  have HC := Lib.hid hC
  clear hC
  go_enter Try.func49, Try.ntmps49 /- 49 -/
  go_wp2_with fail
  apply Mem.atA
  · (repeat' (first | with_reducible exact hM | with_reducible exact hMp | with_reducible apply Mem.drew | with_reducible apply Mem.drewN | with_reducible apply Mem.alloc | with_reducible apply Mem.set | with_reducible exact Sto.row | ((with_reducible refine Sto.rowEq2 ?_ ?_); omega; rfl) | ((with_reducible refine Sto.rowEq ?_); omega) | with_reducible apply Sto.int | with_reducible apply Sto.there | with_reducible assumption | (unfold I64; omega) | (with_reducible (have hMx := Mem.undrew hM; exact hMx)) | (with_reducible (have hMx := Mem.undrew hMp; exact hMx))))
  clear hM
  intro wst hM
  (try simp only [World.size_alloc, World.size_setCell, World.heap_drewN, heapDrew, Nat.add_assoc, Nat.reduceAdd, List.setIfInBounds_toArray, List.set_cons_zero, List.set_cons_succ, List.cons_append, List.nil_append] at hM)
  (first | refine (drawTer_reach (HC.out.ext hM.below)).mono ?_)
  rintro e wc1 ⟨W, H, a', c', xs, a2, c2, ys, hs, hyl, rfl, hm⟩
  replace hM := hM.join hm
  clear hm
  (try simp only [World.size_alloc, World.size_setCell, World.heap_drewN, heapDrew, Nat.add_assoc, Nat.reduceAdd, List.setIfInBounds_toArray, List.set_cons_zero, List.set_cons_succ, List.cons_append, List.nil_append] at hM)
  have HS := Lib.hid hs
  clear hs
  obtain ⟨k2, f2, l2⟩ := hM.row (.there (.there .here))
  go_wp2
  refine bodyPost_ret (v := .tuple #[.agg #[.int .i64 W, .int .i64 H, .slice a' xs.length c'], .slice a2 ys.length c2]) (by simp [results, Try.results49, go_sem, k2]) rfl ⟨W, H, a', c', xs, a2, c2, ys, HS.out, hyl, rfl, ?_⟩
  apply Mem.dt3b
  (repeat' (first | with_reducible exact hM | with_reducible exact hMp | with_reducible apply Mem.drew | with_reducible apply Mem.drewN | with_reducible apply Mem.alloc | with_reducible apply Mem.set | with_reducible exact Sto.row | ((with_reducible refine Sto.rowEq2 ?_ ?_); omega; rfl) | ((with_reducible refine Sto.rowEq ?_); omega) | with_reducible apply Sto.int | with_reducible apply Sto.there | with_reducible assumption | (unfold I64; omega) | (with_reducible (have hMx := Mem.undrew hM; exact hMx)) | (with_reducible (have hMx := Mem.undrew hMp; exact hMx))))
end Go.Proofs.Ytkohfegajcmdbaa

/-
  The reference's draws of the laws on terrains: a text, a place.
-/
import Derived.Test.YtpoabdmapbdmfaaDoorTTerR
import Derived.Test.YtpoabdmapbdmfaaDoorTDrawTer2
import Derived.Test.YtpoabdmapbdmfaaDoorTDrawLog3
/-
  The reference's draws of the laws on terrains: a text, a place.
-/
namespace Go.Proofs.YtpoabdmapbdmfaaDoor
set_option linter.unusedSimpArgs false
set_option linter.unusedVariables false
open Go.RowKit

theorem quo8 {r : Nat} (h : r < 9) : ∃ q : Nat, q ≤ 1 ∧ (r : Int) / 8 = (q : Int) ∧ IntKind.i64.wrap ((r : Int) / 8) = (q : Int) := by
  refine ⟨r / 8, by omega, by omega, ?_⟩
  rw [wrap_in (by omega)]
  omega
theorem spoil_eq : (⟨#[46, 97, 10, 117]⟩ : ByteArray) = bsA [46, 97, 10, 117] := rfl
set_option maxRecDepth 100000 in
set_option maxHeartbeats 8000000 in
theorem drawTer_parse {ac : Option Addr} {nc cc : Nat} {l : List UInt8} {w : World} (hC : Rd FByt w ac nc cc l) :
    Calls Tryd.prog 29 #[.slice ac nc cc] w fun e w' => ∃ s : Bs, s.length ≤ 100 ∧ e = .returned (.string (bsA s)) ∧ Mem w.heap.size w w' [] := by
  have hM := Mem.start w
  have HC := Lib.hid hC
  clear hC
  go_enter Tryd.func29, Tryd.ntmps29
  go_wp2_with fail
  apply Mem.atA
  · (repeat' (first | with_reducible exact hM | with_reducible exact hMp | with_reducible apply Mem.drew | with_reducible apply Mem.drewN | with_reducible apply Mem.alloc | with_reducible apply Mem.set | with_reducible exact Sto.row | ((with_reducible refine Sto.rowEq2 ?_ ?_); omega; rfl) | ((with_reducible refine Sto.rowEq ?_); omega) | with_reducible apply Sto.int | with_reducible apply Sto.there | with_reducible assumption | (unfold I64; omega) | (with_reducible (have hMx := Mem.undrew hM; exact hMx)) | (with_reducible (have hMx := Mem.undrew hMp; exact hMx))))
  clear hM
  intro wst hM
  (try simp only [World.size_alloc, World.size_setCell, World.heap_drewN, heapDrew, Nat.add_assoc, Nat.reduceAdd, List.setIfInBounds_toArray, List.set_cons_zero, List.set_cons_succ, List.cons_append, List.nil_append] at hM)
  (first | refine (terrain_any HC.out hM.curNew .here (by omega)).mono ?_)
  rintro e w1 ⟨Wn, Hn, a1, c1, xs, hW, hH, hl, hx, rfl, hm⟩
  clear hM
  have hM := hm
  clear hm
  try dsimp only at hM
  obtain ⟨-, hl1, hl2⟩ := hl
  have HX := Lib.hid hx; clear hx
  go_wp2_with fail
  apply Mem.atA
  · (repeat' (first | with_reducible exact hM | with_reducible exact hMp | with_reducible apply Mem.drew | with_reducible apply Mem.drewN | with_reducible apply Mem.alloc | with_reducible apply Mem.set | with_reducible exact Sto.row | ((with_reducible refine Sto.rowEq2 ?_ ?_); omega; rfl) | ((with_reducible refine Sto.rowEq ?_); omega) | with_reducible apply Sto.int | with_reducible apply Sto.there | with_reducible assumption | (unfold I64; omega) | (with_reducible (have hMx := Mem.undrew hM; exact hMx)) | (with_reducible (have hMx := Mem.undrew hMp; exact hMx))))
  clear hM
  intro wst hM
  (try simp only [World.size_alloc, World.size_setCell, World.heap_drewN, heapDrew, Nat.add_assoc, Nat.reduceAdd, List.setIfInBounds_toArray, List.set_cons_zero, List.set_cons_succ, List.cons_append, List.nil_append] at hM)
  (first | refine (l2Text_any Wn Hn a1 xs.length c1 xs _ (hM.intsR .here) hW (by omega) HX.out).mono ?_)
  rintro e wc2 ⟨rfl, hb⟩
  replace hM := hM.ext hb
  clear hb
  have htl := text_len (xs := xs) (by omega : 0 < Wn) xs.length
  have hkw : xs.length / Wn ≤ xs.length := Nat.div_le_self _ _
  obtain ⟨t, ht⟩ : ∃ t, textTo Wn xs xs.length = t := ⟨_, rfl⟩
  rw [ht] at htl ⊢
  clear ht
  have ht50 : t.length ≤ 50 := by omega
  clear htl hkw
  go_wp2_with fail
  apply Mem.atA
  · (repeat' (first | with_reducible exact hM | with_reducible exact hMp | with_reducible apply Mem.drew | with_reducible apply Mem.drewN | with_reducible apply Mem.alloc | with_reducible apply Mem.set | with_reducible exact Sto.row | ((with_reducible refine Sto.rowEq2 ?_ ?_); omega; rfl) | ((with_reducible refine Sto.rowEq ?_); omega) | with_reducible apply Sto.int | with_reducible apply Sto.there | with_reducible assumption | (unfold I64; omega) | (with_reducible (have hMx := Mem.undrew hM; exact hMx)) | (with_reducible (have hMx := Mem.undrew hMp; exact hMx))))
  clear hM
  intro wst hM
  (try simp only [World.size_alloc, World.size_setCell, World.heap_drewN, heapDrew, Nat.add_assoc, Nat.reduceAdd, List.setIfInBounds_toArray, List.set_cons_zero, List.set_cons_succ, List.cons_append, List.nil_append] at hM)
  (first | refine (one_any 4 HC.out hM (.there .here) (by omega)).mono ?_)
  rintro e w2 ⟨b, rfl, hm⟩
  clear hM
  have hM := hm
  clear hm
  try dsimp only at hM
  cases b
  · go_wp2
    go_ret
    exact ⟨t, by omega, rfl, hM.sub (by simp)⟩
  · skip
    go_wp2_with fail
    apply Mem.atA
    · (repeat' (first | with_reducible exact hM | with_reducible exact hMp | with_reducible apply Mem.drew | with_reducible apply Mem.drewN | with_reducible apply Mem.alloc | with_reducible apply Mem.set | with_reducible exact Sto.row | ((with_reducible refine Sto.rowEq2 ?_ ?_); omega; rfl) | ((with_reducible refine Sto.rowEq ?_); omega) | with_reducible apply Sto.int | with_reducible apply Sto.there | with_reducible assumption | (unfold I64; omega) | (with_reducible (have hMx := Mem.undrew hM; exact hMx)) | (with_reducible (have hMx := Mem.undrew hMp; exact hMx))))
    clear hM
    intro wst hM
    (try simp only [World.size_alloc, World.size_setCell, World.heap_drewN, heapDrew, Nat.add_assoc, Nat.reduceAdd, List.setIfInBounds_toArray, List.set_cons_zero, List.set_cons_succ, List.cons_append, List.nil_append] at hM)
    rw [spoil_eq]
    refine (spoilt_any t [46, 97, 10, 117] HC.out hM (.there .here) (by omega) (by omega) (by decide) (by decide)).mono ?_
    rintro e w3 ⟨s, hs, rfl, hm⟩
    go_wp2
    go_ret
    exact ⟨s, by omega, rfl, hm.sub (by simp)⟩
set_option maxRecDepth 100000 in
set_option maxHeartbeats 8000000 in
theorem drawTer_cell {ac : Option Addr} {nc cc : Nat} {l : List UInt8} {w : World} (hC : Rd FByt w ac nc cc l) :
    Calls Tryd.prog 35 #[.slice ac nc cc] w fun e w' => ∃ (W H : Int) (a' : Option Addr) (c' : Nat) (xs : List Int) (p r : Int), okT W H xs ∧ ((-1 ≤ p ∧ p ≤ 5) ∧ -1 ≤ r ∧ r ≤ 5) ∧ e = .returned (.tuple #[.agg #[.int .i64 W, .int .i64 H, .slice a' xs.length c'], .int .i64 p, .int .i64 r]) ∧ Mem w.heap.size w w' [intE a' xs.length c' xs] := by
  have hM := Mem.start w
  have HC := Lib.hid hC
  clear hC
  go_enter Tryd.func35, Tryd.ntmps35
  go_wp2_with fail
  apply Mem.atA
  · (repeat' (first | with_reducible exact hM | with_reducible exact hMp | with_reducible apply Mem.drew | with_reducible apply Mem.drewN | with_reducible apply Mem.alloc | with_reducible apply Mem.set | with_reducible exact Sto.row | ((with_reducible refine Sto.rowEq2 ?_ ?_); omega; rfl) | ((with_reducible refine Sto.rowEq ?_); omega) | with_reducible apply Sto.int | with_reducible apply Sto.there | with_reducible assumption | (unfold I64; omega) | (with_reducible (have hMx := Mem.undrew hM; exact hMx)) | (with_reducible (have hMx := Mem.undrew hMp; exact hMx))))
  clear hM
  intro wst hM
  (try simp only [World.size_alloc, World.size_setCell, World.heap_drewN, heapDrew, Nat.add_assoc, Nat.reduceAdd, List.setIfInBounds_toArray, List.set_cons_zero, List.set_cons_succ, List.cons_append, List.nil_append] at hM)
  (first | refine (anyTerrain_any HC.out hM.curNew .here (by omega)).mono ?_)
  rintro e wc1 ⟨W, H, a', c', xs, h1, rfl, hm⟩
  clear hM
  have hM := hm
  clear hm
  try dsimp only at hM
  have HS := Lib.hid h1; clear h1
  go_wp2_with fail
  apply Mem.atA
  · (repeat' (first | with_reducible exact hM | with_reducible exact hMp | with_reducible apply Mem.drew | with_reducible apply Mem.drewN | with_reducible apply Mem.alloc | with_reducible apply Mem.set | with_reducible exact Sto.row | ((with_reducible refine Sto.rowEq2 ?_ ?_); omega; rfl) | ((with_reducible refine Sto.rowEq ?_); omega) | with_reducible apply Sto.int | with_reducible apply Sto.there | with_reducible assumption | (unfold I64; omega) | (with_reducible (have hMx := Mem.undrew hM; exact hMx)) | (with_reducible (have hMx := Mem.undrew hMp; exact hMx))))
  clear hM
  intro wst hM
  (try simp only [World.size_alloc, World.size_setCell, World.heap_drewN, heapDrew, Nat.add_assoc, Nat.reduceAdd, List.setIfInBounds_toArray, List.set_cons_zero, List.set_cons_succ, List.cons_append, List.nil_append] at hM)
  (first | refine (pick_any 6 HC.out hM (.there .here) (by omega)).mono ?_)
  rintro e w1 ⟨r1, hr1, hq1, rfl, hm⟩
  clear hM
  have hM := hm
  clear hm
  try dsimp only at hM
  have b1 := pick_lt hr1 (by omega)
  clear hr1 hq1
  go_wp2_with fail
  apply Mem.atA
  · (repeat' (first | with_reducible exact hM | with_reducible exact hMp | with_reducible apply Mem.drew | with_reducible apply Mem.drewN | with_reducible apply Mem.alloc | with_reducible apply Mem.set | with_reducible exact Sto.row | ((with_reducible refine Sto.rowEq2 ?_ ?_); omega; rfl) | ((with_reducible refine Sto.rowEq ?_); omega) | with_reducible apply Sto.int | with_reducible apply Sto.there | with_reducible assumption | (unfold I64; omega) | (with_reducible (have hMx := Mem.undrew hM; exact hMx)) | (with_reducible (have hMx := Mem.undrew hMp; exact hMx))))
  clear hM
  intro wst hM
  (try simp only [World.size_alloc, World.size_setCell, World.heap_drewN, heapDrew, Nat.add_assoc, Nat.reduceAdd, List.setIfInBounds_toArray, List.set_cons_zero, List.set_cons_succ, List.cons_append, List.nil_append] at hM)
  (first | refine (pick_any 9 HC.out hM (.there .here) (by omega)).mono ?_)
  rintro e w2 ⟨r2, hr2, hq2, rfl, hm⟩
  clear hM
  have hM := hm
  clear hm
  try dsimp only at hM
  obtain ⟨u2, hu2, d20, d21⟩ := quo8 (r := r2) (by have := pick_lt hr2 (by omega); omega)
  clear hr2 hq2
  go_wp2_with fail
  apply Mem.atA
  · (repeat' (first | with_reducible exact hM | with_reducible exact hMp | with_reducible apply Mem.drew | with_reducible apply Mem.drewN | with_reducible apply Mem.alloc | with_reducible apply Mem.set | with_reducible exact Sto.row | ((with_reducible refine Sto.rowEq2 ?_ ?_); omega; rfl) | ((with_reducible refine Sto.rowEq ?_); omega) | with_reducible apply Sto.int | with_reducible apply Sto.there | with_reducible assumption | (unfold I64; omega) | (with_reducible (have hMx := Mem.undrew hM; exact hMx)) | (with_reducible (have hMx := Mem.undrew hMp; exact hMx))))
  clear hM
  intro wst hM
  (try simp only [World.size_alloc, World.size_setCell, World.heap_drewN, heapDrew, Nat.add_assoc, Nat.reduceAdd, List.setIfInBounds_toArray, List.set_cons_zero, List.set_cons_succ, List.cons_append, List.nil_append] at hM)
  (first | refine (pick_any 6 HC.out hM (.there .here) (by omega)).mono ?_)
  rintro e w3 ⟨r3, hr3, hq3, rfl, hm⟩
  clear hM
  have hM := hm
  clear hm
  try dsimp only at hM
  have b3 := pick_lt hr3 (by omega)
  clear hr3 hq3
  go_wp2_with fail
  apply Mem.atA
  · (repeat' (first | with_reducible exact hM | with_reducible exact hMp | with_reducible apply Mem.drew | with_reducible apply Mem.drewN | with_reducible apply Mem.alloc | with_reducible apply Mem.set | with_reducible exact Sto.row | ((with_reducible refine Sto.rowEq2 ?_ ?_); omega; rfl) | ((with_reducible refine Sto.rowEq ?_); omega) | with_reducible apply Sto.int | with_reducible apply Sto.there | with_reducible assumption | (unfold I64; omega) | (with_reducible (have hMx := Mem.undrew hM; exact hMx)) | (with_reducible (have hMx := Mem.undrew hMp; exact hMx))))
  clear hM
  intro wst hM
  (try simp only [World.size_alloc, World.size_setCell, World.heap_drewN, heapDrew, Nat.add_assoc, Nat.reduceAdd, List.setIfInBounds_toArray, List.set_cons_zero, List.set_cons_succ, List.cons_append, List.nil_append] at hM)
  (first | refine (pick_any 9 HC.out hM (.there .here) (by omega)).mono ?_)
  rintro e w4 ⟨r4, hr4, hq4, rfl, hm⟩
  clear hM
  have hM := hm
  clear hm
  try dsimp only at hM
  obtain ⟨u4, hu4, d40, d41⟩ := quo8 (r := r4) (by have := pick_lt hr4 (by omega); omega)
  clear hr4 hq4
  have hw1 : IntKind.i64.wrap ((r1 : Int) - (u2 : Int)) = (r1 : Int) - u2 := wrap_in (by omega)
  have hw2 : IntKind.i64.wrap ((r3 : Int) - (u4 : Int)) = (r3 : Int) - u4 := wrap_in (by omega)
  obtain ⟨k2, f2, l2⟩ := hM.row (.there (.there .here))
  go_wp2
  refine bodyPost_ret (v := .tuple #[.agg #[.int .i64 W, .int .i64 H, .slice a' xs.length c'], .int .i64 ((r1 : Int) - u2), .int .i64 ((r3 : Int) - u4)]) (by simp [results, Tryd.results35, go_sem, k2]) rfl ⟨W, H, a', c', xs, _, _, HS.out, ⟨⟨by omega, by omega⟩, by omega, by omega⟩, rfl, ?_⟩
  apply Mem.dt3
  (repeat' (first | with_reducible exact hM | with_reducible exact hMp | with_reducible apply Mem.drew | with_reducible apply Mem.drewN | with_reducible apply Mem.alloc | with_reducible apply Mem.set | with_reducible exact Sto.row | ((with_reducible refine Sto.rowEq2 ?_ ?_); omega; rfl) | ((with_reducible refine Sto.rowEq ?_); omega) | with_reducible apply Sto.int | with_reducible apply Sto.there | with_reducible assumption | (unfold I64; omega) | (with_reducible (have hMx := Mem.undrew hM; exact hMx)) | (with_reducible (have hMx := Mem.undrew hMp; exact hMx))))
end Go.Proofs.YtpoabdmapbdmfaaDoor

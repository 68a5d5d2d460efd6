/-
  The reference's draws of the laws on seasons.
-/
import Derived.Test.YtpoabdmapbdmfaaDoorPDrawSea2
/-
  The reference's draws of the laws on seasons.
-/
namespace Go.Proofs.YtpoabdmapbdmfaaDoor
set_option linter.unusedSimpArgs false
set_option linter.unusedVariables false
open Go.RowKit

theorem quo_11 {r : Nat} (h : r < 24) : ∃ q : Nat, q ≤ 2 ∧ (r : Int) / 11 = (q : Int) ∧ IntKind.i64.wrap ((r : Int) / 11) = (q : Int) := by
  refine ⟨r / 11, by omega, by omega, ?_⟩
  rw [wrap_in (by omega)]
  omega
set_option maxRecDepth 100000 in
set_option maxHeartbeats 8000000 in
theorem drawSea_cause {ac : Option Addr} {nc cc : Nat} {l : List UInt8} {w : World} (hC : Rd FByt w ac nc cc l) :
    Calls Tryd.prog 17 #[.slice ac nc cc] w fun e w' => ∃ (a' : Option Addr) (c' : Nat) (xs : List FireI) (p : Int), xs.length ≤ 16 ∧ allF xs ∧ (-1 ≤ p ∧ p ≤ 5) ∧ e = .returned (.tuple #[.slice a' xs.length c', .int .i64 p]) ∧ Mem w.heap.size w w' [owE FFire 33 a' xs.length c' xs] := by
  have hM := Mem.start w
  have HC := Lib.hid hC
  clear hC
  go_enter Tryd.func17, Tryd.ntmps17
  go_wp2_with fail
  apply Mem.atA
  · (repeat' (first | with_reducible exact hM | with_reducible exact hMp | with_reducible apply Mem.drew | with_reducible apply Mem.drewN | with_reducible apply Mem.alloc | with_reducible apply Mem.set | with_reducible exact Sto.row | ((with_reducible refine Sto.rowEq2 ?_ ?_); omega; rfl) | ((with_reducible refine Sto.rowEq ?_); omega) | with_reducible apply Sto.int | with_reducible apply Sto.there | with_reducible assumption | (unfold I64; omega) | (with_reducible (have hMx := Mem.undrew hM; exact hMx)) | (with_reducible (have hMx := Mem.undrew hMp; exact hMx))))
  clear hM
  intro wst hM
  (try simp only [World.size_alloc, World.size_setCell, World.heap_drewN, heapDrew, Nat.add_assoc, Nat.reduceAdd, List.setIfInBounds_toArray, List.set_cons_zero, List.set_cons_succ, List.cons_append, List.nil_append] at hM)
  (first | refine (season_any HC.out hM.curNew .here (by omega)).mono ?_)
  rintro e wc1 ⟨a', c', xs, hl, hx, rfl, hm⟩
  clear hM
  have hM := hm
  clear hm
  try dsimp only at hM
  have HX := Lib.hid hx; clear hx
  go_wp2_with fail
  apply Mem.atA
  · (repeat' (first | with_reducible exact hM | with_reducible exact hMp | with_reducible apply Mem.drew | with_reducible apply Mem.drewN | with_reducible apply Mem.alloc | with_reducible apply Mem.set | with_reducible exact Sto.row | ((with_reducible refine Sto.rowEq2 ?_ ?_); omega; rfl) | ((with_reducible refine Sto.rowEq ?_); omega) | with_reducible apply Sto.int | with_reducible apply Sto.there | with_reducible assumption | (unfold I64; omega) | (with_reducible (have hMx := Mem.undrew hM; exact hMx)) | (with_reducible (have hMx := Mem.undrew hMp; exact hMx))))
  clear hM
  intro wst hM
  (try simp only [World.size_alloc, World.size_setCell, World.heap_drewN, heapDrew, Nat.add_assoc, Nat.reduceAdd, List.setIfInBounds_toArray, List.set_cons_zero, List.set_cons_succ, List.cons_append, List.nil_append] at hM)
  (first | refine (pick_any 24 HC.out hM (.there (.there .here)) (by omega)).mono ?_)
  rintro e wc2 ⟨r, hr, hr2, rfl, hm⟩
  clear hM
  have hM := hm
  clear hm
  try dsimp only at hM
  obtain ⟨q, hq, q0, q1⟩ := quo_11 (r := r) (by have := pick_lt hr (by omega); omega)
  clear hr hr2
  have hw : IntKind.i64.wrap (5 + (q : Int)) = ((5 + q : Nat) : Int) := by rw [wrap_in (by omega)]; omega
  have i0 : (0 : Int) ≤ ((5 + q : Nat) : Int) := by omega
  have i1 : ((5 + q : Nat) : Int) ≤ 5 + 2 := by omega
  have i2 : (((5 + q : Nat) : Int)).toNat = 5 + q := by omega
  go_wp2_with fail
  apply Mem.atA
  · (repeat' (first | with_reducible exact hM | with_reducible exact hMp | with_reducible apply Mem.drew | with_reducible apply Mem.drewN | with_reducible apply Mem.alloc | with_reducible apply Mem.set | with_reducible exact Sto.row | ((with_reducible refine Sto.rowEq2 ?_ ?_); omega; rfl) | ((with_reducible refine Sto.rowEq ?_); omega) | with_reducible apply Sto.int | with_reducible apply Sto.there | with_reducible assumption | (unfold I64; omega) | (with_reducible (have hMx := Mem.undrew hM; exact hMx)) | (with_reducible (have hMx := Mem.undrew hMp; exact hMx))))
  clear hM
  intro wst hM
  (try simp only [World.size_alloc, World.size_setCell, World.heap_drewN, heapDrew, Nat.add_assoc, Nat.reduceAdd, List.setIfInBounds_toArray, List.set_cons_zero, List.set_cons_succ, List.cons_append, List.nil_append] at hM)
  (first | refine (among_any (n := 5 + q) [0, 1, 2, 3, 4, -1, 5] HC.out hM (.there (.there .here)) (fun _ => .here) rfl (by omega) (by simp; omega) (by omega) (by omega)).mono ?_)
  rintro e wc3 ⟨p, hp, rfl, hm⟩
  clear hM
  have hM := hm
  clear hm
  try dsimp only at hM
  obtain ⟨p0, p1⟩ := mem_bound (lo := -1) (hi := 5) hp (by decide)
  clear hp
  go_wp2
  go_ret2
  exact ⟨a', c', xs, p, hl, HX.out, ⟨p0, p1⟩, rfl, (hM.tail).first⟩
set_option maxRecDepth 100000 in
set_option maxHeartbeats 8000000 in
theorem drawSeason_any {ac : Option Addr} {nc cc : Nat} {l : List UInt8} {w : World} (hC : Rd FByt w ac nc cc l) :
    Calls Tryd.prog 41 #[.slice ac nc cc] w fun e w' => ∃ (a' : Option Addr) (c' : Nat) (xs : List FireI), xs.length ≤ 16 ∧ allF xs ∧ e = .returned (.slice a' xs.length c') ∧ Mem w.heap.size w w' [owE FFire 33 a' xs.length c' xs] := by
  have hM := Mem.start w
  have HC := Lib.hid hC
  clear hC
  go_enter Tryd.func41, Tryd.ntmps41
  go_wp2_with fail
  apply Mem.atA
  · (repeat' (first | with_reducible exact hM | with_reducible exact hMp | with_reducible apply Mem.drew | with_reducible apply Mem.drewN | with_reducible apply Mem.alloc | with_reducible apply Mem.set | with_reducible exact Sto.row | ((with_reducible refine Sto.rowEq2 ?_ ?_); omega; rfl) | ((with_reducible refine Sto.rowEq ?_); omega) | with_reducible apply Sto.int | with_reducible apply Sto.there | with_reducible assumption | (unfold I64; omega) | (with_reducible (have hMx := Mem.undrew hM; exact hMx)) | (with_reducible (have hMx := Mem.undrew hMp; exact hMx))))
  clear hM
  intro wst hM
  (try simp only [World.size_alloc, World.size_setCell, World.heap_drewN, heapDrew, Nat.add_assoc, Nat.reduceAdd, List.setIfInBounds_toArray, List.set_cons_zero, List.set_cons_succ, List.cons_append, List.nil_append] at hM)
  (first | refine (season_any HC.out hM.curNew .here (by omega)).mono ?_)
  rintro e wc10 ⟨a', c', xs, hl, hx, rfl, hm⟩
  clear hM
  have hM := hm
  clear hm
  try dsimp only at hM
  have HX := Lib.hid hx; clear hx
  go_wp2
  go_ret
  exact ⟨a', c', xs, hl, HX.out, rfl, hM.first⟩
set_option maxRecDepth 100000 in
set_option maxHeartbeats 8000000 in
theorem drawSea_size {ac : Option Addr} {nc cc : Nat} {l : List UInt8} {w : World} (hC : Rd FByt w ac nc cc l) :
    Calls Tryd.prog 6 #[.slice ac nc cc] w fun e w' => ∃ (a' : Option Addr) (c' : Nat) (xs : List FireI), xs.length ≤ 16 ∧ allF xs ∧ e = .returned (.slice a' xs.length c') ∧ Mem w.heap.size w w' [owE FFire 33 a' xs.length c' xs] := by
  have HC := Lib.hid hC
  clear hC
  go_enter Tryd.func6, Tryd.ntmps6 /- 6 -/
  go_wp2_with fail
  refine (drawSeason_any HC.out).mono ?_
  rintro e w1 ⟨a', c', xs, hl, hx, rfl, hM⟩
  go_wp2
  go_ret
  exact ⟨a', c', xs, hl, hx, rfl, hM⟩
end Go.Proofs.YtpoabdmapbdmfaaDoor

/-
  The reference's draws of the law on serving.
-/
import Derived.Test.YtfnaenekdenmkaaYDrawSto
/-
  The reference's draws of the law on serving.
-/
namespace Go.Proofs.Ytfnaenekdenmkaa
set_option linter.unusedSimpArgs false
set_option linter.unusedVariables false
open Go.RowKit

set_option maxRecDepth 100000 in
set_option maxHeartbeats 8000000 in
theorem drawServe_any {ac : Option Addr} {nc cc : Nat} {l : List UInt8} {w : World} (hC : Rd FByt w ac nc cc l) :
    Calls Try.prog 21 #[.slice ac nc cc] w fun e w' => ∃ (a1 : Option Addr) (c1 : Nat) (os : List OrderI) (a2 : Option Addr) (c2 : Nat) (ss : List StockI), os.length ≤ 16 ∧ allO os ∧ ss.length ≤ 16 ∧ allSt ss ∧ e = .returned (.tuple #[.slice a1 os.length c1, .slice a2 ss.length c2]) ∧ Mem w.heap.size w w' [owE FStock 46 a2 ss.length c2 ss, owE FOrder 48 a1 os.length c1 os] := by
  have hM := Mem.start w
  have HC := Lib.hid hC
  clear hC
  go_enter Try.func21, Try.ntmps21
  go_wp2_with fail
  apply Mem.atA
  · (repeat' (first | with_reducible exact hM | with_reducible exact hMp | with_reducible apply Mem.drew | with_reducible apply Mem.drewN | with_reducible apply Mem.alloc | with_reducible apply Mem.set | with_reducible exact Sto.row | ((with_reducible refine Sto.rowEq2 ?_ ?_); omega; rfl) | ((with_reducible refine Sto.rowEq ?_); omega) | with_reducible apply Sto.int | with_reducible apply Sto.there | with_reducible assumption | (unfold I64; omega) | (with_reducible (have hMx := Mem.undrew hM; exact hMx)) | (with_reducible (have hMx := Mem.undrew hMp; exact hMx))))
  clear hM
  intro wst hM
  (try simp only [World.size_alloc, World.size_setCell, World.heap_drewN, heapDrew, Nat.add_assoc, Nat.reduceAdd, List.setIfInBounds_toArray, List.set_cons_zero, List.set_cons_succ, List.cons_append, List.nil_append] at hM)
  (first | refine (orders_any HC.out hM.curNew .here (by omega)).mono ?_)
  rintro e wc1 ⟨a1, c1, os, hl, hx, rfl, hm⟩
  clear hM
  have hM := hm
  clear hm
  try dsimp only at hM
  have HX := Lib.hid hx; clear hx
  go_wp2_with fail
  apply Mem.atA
  · (repeat' (first | with_reducible exact hM | with_reducible exact hMp | with_reducible apply Mem.drew | with_reducible apply Mem.drewN | with_reducible apply Mem.alloc | with_reducible apply Mem.set | with_reducible exact Sto.row | ((with_reducible refine Sto.rowEq2 ?_ ?_); omega; rfl) | ((with_reducible refine Sto.rowEq ?_); omega) | with_reducible apply Sto.int | with_reducible apply Sto.there | with_reducible assumption | (unfold I64; omega) | (with_reducible (have hMx := Mem.undrew hM; exact hMx)) | (with_reducible (have hMx := Mem.undrew hMp; exact hMx))))
  clear hM
  intro wst hM
  (try simp only [World.size_alloc, World.size_setCell, World.heap_drewN, heapDrew, Nat.add_assoc, Nat.reduceAdd, List.setIfInBounds_toArray, List.set_cons_zero, List.set_cons_succ, List.cons_append, List.nil_append] at hM)
  (first | refine (store_any HC.out hM (.there .here) (by omega)).mono ?_)
  rintro e wc2 ⟨a2, c2, ss, hl2, hy, rfl, hm⟩
  clear hM
  have hM := hm
  clear hm
  try dsimp only at hM
  have HY := Lib.hid hy; clear hy
  go_wp2
  go_ret2
  exact ⟨a1, c1, os, a2, c2, ss, hl, HX.out, hl2, HY.out, rfl, Mem.pick (is := [0, 1]) hM (by decide) rfl⟩
set_option maxRecDepth 100000 in
set_option maxHeartbeats 8000000 in
theorem drawMissing_any {ac : Option Addr} {nc cc : Nat} {l : List UInt8} {w : World} (hC : Rd FByt w ac nc cc l) :
    Calls Try.prog 33 #[.slice ac nc cc] w fun e w' => ∃ (a1 : Option Addr) (c1 : Nat) (os : List OrderI) (a2 : Option Addr) (c2 : Nat) (ss : List StockI), os.length ≤ 16 ∧ allO os ∧ ss.length ≤ 16 ∧ allSt ss ∧ e = .returned (.tuple #[.slice a1 os.length c1, .slice a2 ss.length c2]) ∧ Mem w.heap.size w w' [owE FStock 46 a2 ss.length c2 ss, owE FOrder 48 a1 os.length c1 os] := by
  have HC := Lib.hid hC
  clear hC
  go_enter Try.func33, Try.ntmps33
  go_wp2_with fail
  refine (drawServe_any HC.out).mono ?_
  rintro e w1 ⟨a1, c1, os, a2, c2, ss, hl, hx, hl2, hy, rfl, hM⟩
  have HX := Lib.hid hx; have HY := Lib.hid hy
  clear hx hy
  go_wp2
  go_ret2
  exact ⟨a1, c1, os, a2, c2, ss, hl, HX.out, hl2, HY.out, rfl, hM⟩
set_option maxRecDepth 100000 in
set_option maxHeartbeats 8000000 in
theorem drawAreO_any {ac : Option Addr} {nc cc : Nat} {l : List UInt8} {w : World} (hC : Rd FByt w ac nc cc l) :
    Calls Try.prog 81 #[.slice ac nc cc] w fun e w' => ∃ (a1 : Option Addr) (c1 : Nat) (os : List OrderI), os.length ≤ 16 ∧ allO os ∧ e = .returned (.slice a1 os.length c1) ∧ Mem w.heap.size w w' [owE FOrder 48 a1 os.length c1 os] := by
  have hM := Mem.start w
  have HC := Lib.hid hC
  clear hC
  go_enter Try.func81, Try.ntmps81
  go_wp2_with fail
  apply Mem.atA
  · (repeat' (first | with_reducible exact hM | with_reducible exact hMp | with_reducible apply Mem.drew | with_reducible apply Mem.drewN | with_reducible apply Mem.alloc | with_reducible apply Mem.set | with_reducible exact Sto.row | ((with_reducible refine Sto.rowEq2 ?_ ?_); omega; rfl) | ((with_reducible refine Sto.rowEq ?_); omega) | with_reducible apply Sto.int | with_reducible apply Sto.there | with_reducible assumption | (unfold I64; omega) | (with_reducible (have hMx := Mem.undrew hM; exact hMx)) | (with_reducible (have hMx := Mem.undrew hMp; exact hMx))))
  clear hM
  intro wst hM
  (try simp only [World.size_alloc, World.size_setCell, World.heap_drewN, heapDrew, Nat.add_assoc, Nat.reduceAdd, List.setIfInBounds_toArray, List.set_cons_zero, List.set_cons_succ, List.cons_append, List.nil_append] at hM)
  (first | refine (orders_any HC.out hM.curNew .here (by omega)).mono ?_)
  rintro e wc3 ⟨a1, c1, os, hl, hx, rfl, hm⟩
  clear hM
  have hM := hm
  clear hm
  try dsimp only at hM
  have HX := Lib.hid hx; clear hx
  go_wp2
  go_ret
  exact ⟨a1, c1, os, hl, HX.out, rfl, hM.first⟩
set_option maxRecDepth 100000 in
set_option maxHeartbeats 8000000 in
theorem drawServingO_any {ac : Option Addr} {nc cc : Nat} {l : List UInt8} {w : World} (hC : Rd FByt w ac nc cc l) :
    Calls Try.prog 30 #[.slice ac nc cc] w fun e w' => ∃ (a1 : Option Addr) (c1 : Nat) (os : List OrderI), os.length ≤ 16 ∧ allO os ∧ e = .returned (.slice a1 os.length c1) ∧ Mem w.heap.size w w' [owE FOrder 48 a1 os.length c1 os] := by
  have HC := Lib.hid hC
  clear hC
  go_enter Try.func30, Try.ntmps30
  go_wp2_with fail
  refine (drawAreO_any HC.out).mono ?_
  rintro e w1 ⟨a1, c1, os, hl, hx, rfl, hM⟩
  have HX := Lib.hid hx; clear hx
  go_wp2
  go_ret
  exact ⟨a1, c1, os, hl, HX.out, rfl, hM⟩
end Go.Proofs.Ytfnaenekdenmkaa

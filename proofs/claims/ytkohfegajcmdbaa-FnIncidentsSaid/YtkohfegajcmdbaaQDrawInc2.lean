/-
  The reference's draws of the laws on incidents.
-/
import Derived.Test.YtkohfegajcmdbaaQDrawInc
import Derived.Test.YtkohfegajcmdbaaQDrawTer2
import Derived.Test.YtkohfegajcmdbaaQDrawSmk
/-
  The reference's draws of the laws on incidents.
-/
namespace Go.Proofs.Ytkohfegajcmdbaa
set_option linter.unusedSimpArgs false
set_option linter.unusedVariables false
open Go.RowKit

def lenA : Value → Nat | .slice _ n _ => n | _ => 0
set_option maxRecDepth 100000 in
set_option maxHeartbeats 8000000 in
theorem drawInc_is {ac : Option Addr} {nc cc : Nat} {l : List UInt8} {w : World} (hC : Rd FByt w ac nc cc l) :
    Calls Try.prog 82 #[.slice ac nc cc] w fun e w' => ∃ (W H : Int) (a1 : Option Addr) (c1 : Nat) (xs : List Int) (a2 : Option Addr) (c2 : Nat) (fs : List Int) (a3 : Option Addr) (c3 : Nat) (ws : List Int) (t : Int), xs.length ≤ 25 ∧ (1 ≤ fs.length ∧ fs.length ≤ 26) ∧ e = .returned (.agg #[.int .i64 W, .int .i64 H, .slice a1 xs.length c1, .slice a2 fs.length c2, .slice a3 ws.length c3, .int .i64 t]) ∧ Mem w.heap.size w w' [intE a1 xs.length c1 xs, intE a2 fs.length c2 fs, intE a3 ws.length c3 ws] := by
  have hM := Mem.start w
  have HC := Lib.hid hC
  clear hC
  go_enter Try.func82, Try.ntmps82
  go_wp2_with fail
  apply Mem.atA
  · (repeat' (first | with_reducible exact hM | with_reducible exact hMp | with_reducible apply Mem.drew | with_reducible apply Mem.drewN | with_reducible apply Mem.alloc | with_reducible apply Mem.set | with_reducible exact Sto.row | ((with_reducible refine Sto.rowEq2 ?_ ?_); omega; rfl) | ((with_reducible refine Sto.rowEq ?_); omega) | with_reducible apply Sto.int | with_reducible apply Sto.there | with_reducible assumption | (unfold I64; omega) | (with_reducible (have hMx := Mem.undrew hM; exact hMx)) | (with_reducible (have hMx := Mem.undrew hMp; exact hMx))))
  clear hM
  intro wst hM
  (try simp only [World.size_alloc, World.size_setCell, World.heap_drewN, heapDrew, Nat.add_assoc, Nat.reduceAdd, List.setIfInBounds_toArray, List.set_cons_zero, List.set_cons_succ, List.cons_append, List.nil_append] at hM)
  (first | refine (incident_any HC.out hM.curNew .here (by omega)).mono ?_)
  rintro e wc1 ⟨W, H, a1, c1, xs, a2, c2, fs, a3, c3, ws, t, h1, h2, rfl, hm⟩
  clear hM
  have hM := hm
  clear hm
  try dsimp only at hM
  obtain ⟨k4, f4, l4⟩ := hM.row (.there (.there (.there (.there .here))))
  go_wp2
  refine bodyPost_ret (v := .agg #[.int .i64 W, .int .i64 H, .slice a1 xs.length c1, .slice a2 fs.length c2, .slice a3 ws.length c3, .int .i64 t]) (by simp [results, Try.results82, go_sem, k4]) rfl ⟨W, H, a1, c1, xs, a2, c2, fs, a3, c3, ws, t, h1, h2, rfl, ?_⟩
  apply Mem.pick (is := [0, 1, 2])
  · (repeat' (first | with_reducible exact hM | with_reducible exact hMp | with_reducible apply Mem.drew | with_reducible apply Mem.drewN | with_reducible apply Mem.alloc | with_reducible apply Mem.set | with_reducible exact Sto.row | ((with_reducible refine Sto.rowEq2 ?_ ?_); omega; rfl) | ((with_reducible refine Sto.rowEq ?_); omega) | with_reducible apply Sto.int | with_reducible apply Sto.there | with_reducible assumption | (unfold I64; omega) | (with_reducible (have hMx := Mem.undrew hM; exact hMx)) | (with_reducible (have hMx := Mem.undrew hMp; exact hMx))))
  · decide
  · rfl
set_option maxRecDepth 100000 in
set_option maxHeartbeats 8000000 in
theorem drawInc_burn {ac : Option Addr} {nc cc : Nat} {l : List UInt8} {w : World} (hC : Rd FByt w ac nc cc l) :
    Calls Try.prog 38 #[.slice ac nc cc] w fun e w' => ∃ (W H : Int) (a1 : Option Addr) (c1 : Nat) (xs : List Int) (a2 : Option Addr) (c2 : Nat) (fs : List Int) (a3 : Option Addr) (c3 : Nat) (ws : List Int) (t : Int), xs.length ≤ 25 ∧ (1 ≤ fs.length ∧ fs.length ≤ 26) ∧ e = .returned (.agg #[.int .i64 W, .int .i64 H, .slice a1 xs.length c1, .slice a2 fs.length c2, .slice a3 ws.length c3, .int .i64 t]) ∧ Mem w.heap.size w w' [intE a1 xs.length c1 xs, intE a2 fs.length c2 fs, intE a3 ws.length c3 ws] := by
  have hM := Mem.start w
  have HC := Lib.hid hC
  clear hC
  go_enter Try.func38, Try.ntmps38 /- 38 -/
  go_wp2_with fail
  apply Mem.atA
  · (repeat' (first | with_reducible exact hM | with_reducible exact hMp | with_reducible apply Mem.drew | with_reducible apply Mem.drewN | with_reducible apply Mem.alloc | with_reducible apply Mem.set | with_reducible exact Sto.row | ((with_reducible refine Sto.rowEq2 ?_ ?_); omega; rfl) | ((with_reducible refine Sto.rowEq ?_); omega) | with_reducible apply Sto.int | with_reducible apply Sto.there | with_reducible assumption | (unfold I64; omega) | (with_reducible (have hMx := Mem.undrew hM; exact hMx)) | (with_reducible (have hMx := Mem.undrew hMp; exact hMx))))
  clear hM
  intro wst hM
  (try simp only [World.size_alloc, World.size_setCell, World.heap_drewN, heapDrew, Nat.add_assoc, Nat.reduceAdd, List.setIfInBounds_toArray, List.set_cons_zero, List.set_cons_succ, List.cons_append, List.nil_append] at hM)
  (first | refine (drawInc_is (HC.out.ext hM.below)).mono ?_)
  rintro e wc1 ⟨W, H, a1, c1, xs, a2, c2, fs, a3, c3, ws, t, h1, h2, rfl, hm⟩
  replace hM := hM.join hm
  clear hm
  (try simp only [World.size_alloc, World.size_setCell, World.heap_drewN, heapDrew, Nat.add_assoc, Nat.reduceAdd, List.setIfInBounds_toArray, List.set_cons_zero, List.set_cons_succ, List.cons_append, List.nil_append] at hM)
  obtain ⟨k3, f3, l3⟩ := hM.row (.there (.there (.there .here)))
  go_wp2
  refine bodyPost_ret (v := .agg #[.int .i64 W, .int .i64 H, .slice a1 xs.length c1, .slice a2 fs.length c2, .slice a3 ws.length c3, .int .i64 t]) (by simp [results, Try.results38, go_sem, k3]) rfl ⟨W, H, a1, c1, xs, a2, c2, fs, a3, c3, ws, t, h1, h2, rfl, ?_⟩
  apply Mem.pick (is := [0, 1, 2])
  · (repeat' (first | with_reducible exact hM | with_reducible exact hMp | with_reducible apply Mem.drew | with_reducible apply Mem.drewN | with_reducible apply Mem.alloc | with_reducible apply Mem.set | with_reducible exact Sto.row | ((with_reducible refine Sto.rowEq2 ?_ ?_); omega; rfl) | ((with_reducible refine Sto.rowEq ?_); omega) | with_reducible apply Sto.int | with_reducible apply Sto.there | with_reducible assumption | (unfold I64; omega) | (with_reducible (have hMx := Mem.undrew hM; exact hMx)) | (with_reducible (have hMx := Mem.undrew hMp; exact hMx))))
  · decide
  · rfl
set_option maxRecDepth 100000 in
set_option maxHeartbeats 8000000 in
theorem drawInc_threat {ac : Option Addr} {nc cc : Nat} {l : List UInt8} {w : World} (hC : Rd FByt w ac nc cc l) :
    Calls Try.prog 35 #[.slice ac nc cc] w fun e w' => ∃ (W H : Int) (a1 : Option Addr) (c1 : Nat) (xs : List Int) (a2 : Option Addr) (c2 : Nat) (fs : List Int) (a3 : Option Addr) (c3 : Nat) (ws : List Int) (t : Int), xs.length ≤ 25 ∧ (1 ≤ fs.length ∧ fs.length ≤ 26) ∧ e = .returned (.agg #[.int .i64 W, .int .i64 H, .slice a1 xs.length c1, .slice a2 fs.length c2, .slice a3 ws.length c3, .int .i64 t]) ∧ Mem w.heap.size w w' [intE a1 xs.length c1 xs, intE a2 fs.length c2 fs, intE a3 ws.length c3 ws] := by
  have hM := Mem.start w
  have HC := Lib.hid hC
  clear hC
  go_enter Try.func35, Try.ntmps35 /- 35 -/
  go_wp2_with fail
  apply Mem.atA
  · (repeat' (first | with_reducible exact hM | with_reducible exact hMp | with_reducible apply Mem.drew | with_reducible apply Mem.drewN | with_reducible apply Mem.alloc | with_reducible apply Mem.set | with_reducible exact Sto.row | ((with_reducible refine Sto.rowEq2 ?_ ?_); omega; rfl) | ((with_reducible refine Sto.rowEq ?_); omega) | with_reducible apply Sto.int | with_reducible apply Sto.there | with_reducible assumption | (unfold I64; omega) | (with_reducible (have hMx := Mem.undrew hM; exact hMx)) | (with_reducible (have hMx := Mem.undrew hMp; exact hMx))))
  clear hM
  intro wst hM
  (try simp only [World.size_alloc, World.size_setCell, World.heap_drewN, heapDrew, Nat.add_assoc, Nat.reduceAdd, List.setIfInBounds_toArray, List.set_cons_zero, List.set_cons_succ, List.cons_append, List.nil_append] at hM)
  (first | refine (drawInc_is (HC.out.ext hM.below)).mono ?_)
  rintro e wc1 ⟨W, H, a1, c1, xs, a2, c2, fs, a3, c3, ws, t, h1, h2, rfl, hm⟩
  replace hM := hM.join hm
  clear hm
  (try simp only [World.size_alloc, World.size_setCell, World.heap_drewN, heapDrew, Nat.add_assoc, Nat.reduceAdd, List.setIfInBounds_toArray, List.set_cons_zero, List.set_cons_succ, List.cons_append, List.nil_append] at hM)
  obtain ⟨k3, f3, l3⟩ := hM.row (.there (.there (.there .here)))
  go_wp2
  refine bodyPost_ret (v := .agg #[.int .i64 W, .int .i64 H, .slice a1 xs.length c1, .slice a2 fs.length c2, .slice a3 ws.length c3, .int .i64 t]) (by simp [results, Try.results35, go_sem, k3]) rfl ⟨W, H, a1, c1, xs, a2, c2, fs, a3, c3, ws, t, h1, h2, rfl, ?_⟩
  apply Mem.pick (is := [0, 1, 2])
  · (repeat' (first | with_reducible exact hM | with_reducible exact hMp | with_reducible apply Mem.drew | with_reducible apply Mem.drewN | with_reducible apply Mem.alloc | with_reducible apply Mem.set | with_reducible exact Sto.row | ((with_reducible refine Sto.rowEq2 ?_ ?_); omega; rfl) | ((with_reducible refine Sto.rowEq ?_); omega) | with_reducible apply Sto.int | with_reducible apply Sto.there | with_reducible assumption | (unfold I64; omega) | (with_reducible (have hMx := Mem.undrew hM; exact hMx)) | (with_reducible (have hMx := Mem.undrew hMp; exact hMx))))
  · decide
  · rfl
set_option maxRecDepth 100000 in
set_option maxHeartbeats 8000000 in
theorem drawInc_ticks {ac : Option Addr} {nc cc : Nat} {l : List UInt8} {w : World} (hC : Rd FByt w ac nc cc l) :
    Calls Try.prog 27 #[.slice ac nc cc] w fun e w' => ∃ (W H : Int) (a1 : Option Addr) (c1 : Nat) (xs : List Int) (a2 : Option Addr) (c2 : Nat) (fs : List Int) (a3 : Option Addr) (c3 : Nat) (ws : List Int) (t : Int), xs.length ≤ 25 ∧ (1 ≤ fs.length ∧ fs.length ≤ 26) ∧ e = .returned (.agg #[.int .i64 W, .int .i64 H, .slice a1 xs.length c1, .slice a2 fs.length c2, .slice a3 ws.length c3, .int .i64 t]) ∧ Mem w.heap.size w w' [intE a1 xs.length c1 xs, intE a2 fs.length c2 fs, intE a3 ws.length c3 ws] := by
  have hM := Mem.start w
  have HC := Lib.hid hC
  clear hC
  go_enter Try.func27, Try.ntmps27 /- 27 -/
  go_wp2_with fail
  apply Mem.atA
  · (repeat' (first | with_reducible exact hM | with_reducible exact hMp | with_reducible apply Mem.drew | with_reducible apply Mem.drewN | with_reducible apply Mem.alloc | with_reducible apply Mem.set | with_reducible exact Sto.row | ((with_reducible refine Sto.rowEq2 ?_ ?_); omega; rfl) | ((with_reducible refine Sto.rowEq ?_); omega) | with_reducible apply Sto.int | with_reducible apply Sto.there | with_reducible assumption | (unfold I64; omega) | (with_reducible (have hMx := Mem.undrew hM; exact hMx)) | (with_reducible (have hMx := Mem.undrew hMp; exact hMx))))
  clear hM
  intro wst hM
  (try simp only [World.size_alloc, World.size_setCell, World.heap_drewN, heapDrew, Nat.add_assoc, Nat.reduceAdd, List.setIfInBounds_toArray, List.set_cons_zero, List.set_cons_succ, List.cons_append, List.nil_append] at hM)
  (first | refine (drawInc_is (HC.out.ext hM.below)).mono ?_)
  rintro e wc1 ⟨W, H, a1, c1, xs, a2, c2, fs, a3, c3, ws, t, h1, h2, rfl, hm⟩
  replace hM := hM.join hm
  clear hm
  (try simp only [World.size_alloc, World.size_setCell, World.heap_drewN, heapDrew, Nat.add_assoc, Nat.reduceAdd, List.setIfInBounds_toArray, List.set_cons_zero, List.set_cons_succ, List.cons_append, List.nil_append] at hM)
  obtain ⟨k3, f3, l3⟩ := hM.row (.there (.there (.there .here)))
  go_wp2
  refine bodyPost_ret (v := .agg #[.int .i64 W, .int .i64 H, .slice a1 xs.length c1, .slice a2 fs.length c2, .slice a3 ws.length c3, .int .i64 t]) (by simp [results, Try.results27, go_sem, k3]) rfl ⟨W, H, a1, c1, xs, a2, c2, fs, a3, c3, ws, t, h1, h2, rfl, ?_⟩
  apply Mem.pick (is := [0, 1, 2])
  · (repeat' (first | with_reducible exact hM | with_reducible exact hMp | with_reducible apply Mem.drew | with_reducible apply Mem.drewN | with_reducible apply Mem.alloc | with_reducible apply Mem.set | with_reducible exact Sto.row | ((with_reducible refine Sto.rowEq2 ?_ ?_); omega; rfl) | ((with_reducible refine Sto.rowEq ?_); omega) | with_reducible apply Sto.int | with_reducible apply Sto.there | with_reducible assumption | (unfold I64; omega) | (with_reducible (have hMx := Mem.undrew hM; exact hMx)) | (with_reducible (have hMx := Mem.undrew hMp; exact hMx))))
  · decide
  · rfl
set_option maxRecDepth 100000 in
set_option maxHeartbeats 8000000 in
theorem drawInc_act {ac : Option Addr} {nc cc : Nat} {l : List UInt8} {w : World} (hC : Rd FByt w ac nc cc l) :
    Calls Try.prog 41 #[.slice ac nc cc] w fun e w' => ∃ (W H : Int) (a1 : Option Addr) (c1 : Nat) (xs : List Int) (a2 : Option Addr) (c2 : Nat) (fs : List Int) (a3 : Option Addr) (c3 : Nat) (ws : List Int) (t : Int) (v : ActionI), e = .returned (.tuple #[.agg #[.int .i64 W, .int .i64 H, .slice a1 xs.length c1, .slice a2 fs.length c2, .slice a3 ws.length c3, .int .i64 t], v.val]) ∧ Mem w.heap.size w w' [intE a1 xs.length c1 xs, intE a2 fs.length c2 fs, intE a3 ws.length c3 ws] := by
  have hM := Mem.start w
  have HC := Lib.hid hC
  clear hC
  go_enter Try.func41, Try.ntmps41
  go_wp2_with fail
  apply Mem.atA
  · (repeat' (first | with_reducible exact hM | with_reducible exact hMp | with_reducible apply Mem.drew | with_reducible apply Mem.drewN | with_reducible apply Mem.alloc | with_reducible apply Mem.set | with_reducible exact Sto.row | ((with_reducible refine Sto.rowEq2 ?_ ?_); omega; rfl) | ((with_reducible refine Sto.rowEq ?_); omega) | with_reducible apply Sto.int | with_reducible apply Sto.there | with_reducible assumption | (unfold I64; omega) | (with_reducible (have hMx := Mem.undrew hM; exact hMx)) | (with_reducible (have hMx := Mem.undrew hMp; exact hMx))))
  clear hM
  intro wst hM
  (try simp only [World.size_alloc, World.size_setCell, World.heap_drewN, heapDrew, Nat.add_assoc, Nat.reduceAdd, List.setIfInBounds_toArray, List.set_cons_zero, List.set_cons_succ, List.cons_append, List.nil_append] at hM)
  (first | refine (incident_any HC.out hM.curNew .here (by omega)).mono ?_)
  rintro e wc1 ⟨W, H, a1, c1, xs, a2, c2, fs, a3, c3, ws, t, h1, h2, rfl, hm⟩
  clear hM
  have hM := hm
  clear hm
  try dsimp only at hM
  go_upto_region 3 with fail
  apply Mem.atWpA
  · (repeat' (first | with_reducible exact hM | with_reducible exact hMp | with_reducible apply Mem.drew | with_reducible apply Mem.drewN | with_reducible apply Mem.alloc | with_reducible apply Mem.set | with_reducible exact Sto.row | ((with_reducible refine Sto.rowEq2 ?_ ?_); omega; rfl) | ((with_reducible refine Sto.rowEq ?_); omega) | with_reducible apply Sto.int | with_reducible apply Sto.there | with_reducible assumption | (unfold I64; omega) | (with_reducible (have hMx := Mem.undrew hM; exact hMx)) | (with_reducible (have hMx := Mem.undrew hMp; exact hMx))))
  clear hM
  intro wst hM
  (try simp only [World.size_alloc, World.size_setCell, World.heap_drewN, heapDrew, Nat.add_assoc, Nat.reduceAdd, List.setIfInBounds_toArray, List.set_cons_zero, List.set_cons_succ, List.cons_append, List.nil_append] at hM)
  replace hM := hM.pick (is := [4, 6, 0, 1, 2, 3, 5]) (by decide) rfl
  dsimp only [List.filterMap_cons, List.filterMap_nil, List.getElem?_cons_zero, List.getElem?_cons_succ] at hM
  refine AtT.startA hM.tail.tail hM 5 (by kernel_rfl) ?_
  clear hM
  intro wd hM
  have hS := hM.tail.tail
  refine AtT.taked (i := 0) (v := ?_) (some 11) rfl rfl (by kernel_rfl) (by kernel_rfl) (by kernel_rfl) (by kernel_rfl) (fun _ _ _ h => h) (Or.inl ⟨by kernel_rfl, ?_⟩) hS ?_
  rotate_left
  · (intro wS hSw; (try dsimp only at hSw); have kr0 := (Mem.row hSw .here).cell; have kr2 := (Mem.row hSw (.there (.there (.there (.there .here))))).cell; go_simp; (try rw [if_neg (by omega)]); try with_reducible rfl)
  simp only [Act.put, List.setIfInBounds_toArray, List.set_cons_zero, List.set_cons_succ]
  refine AtT.taked (i := 1) (v := ?_) (some 12) rfl rfl (by kernel_rfl) (by kernel_rfl) (by kernel_rfl) (by kernel_rfl) (fun _ _ _ h => h) (Or.inl ⟨by kernel_rfl, ?_⟩) hS ?_
  rotate_left
  · (intro wS hSw; (try dsimp only at hSw); go_simp; (try rw [if_neg (by omega)]); try with_reducible rfl)
  simp only [Act.put, List.setIfInBounds_toArray, List.set_cons_zero, List.set_cons_succ]
  refine AtT.taked (i := 2) (v := ?_) (some 13) rfl rfl (by kernel_rfl) (by kernel_rfl) (by kernel_rfl) (by kernel_rfl) (fun _ _ _ h => h) (Or.inl ⟨by kernel_rfl, ?_⟩) hS ?_
  rotate_left
  · (intro wS hSw; (try dsimp only at hSw); have kr0 := (Mem.row hSw .here).cell; have kr2 := (Mem.row hSw (.there (.there (.there (.there .here))))).cell; go_simp; (try rw [if_neg (by omega)]); try with_reducible rfl)
  simp only [Act.put, List.setIfInBounds_toArray, List.set_cons_zero, List.set_cons_succ]
  refine AtT.only (i := 3) (by kernel_rfl) rfl rfl ?_
  intro K hK
  go_simp
  refine (action_any W H a1 xs.length c1 a2 fs.length c2 a3 ws.length c3 t h2.2 HC.out hM .here (by omega)).mono ?_
  rintro e w3 ⟨v, hv, rfl, hm⟩
  have hv1 := okA_wf hv
  clear hM hv
  have hM := hm
  clear hm
  try dsimp only at hM
  obtain ⟨v0, v1⟩ := v
  try dsimp only
  refine hK.out _ _ (hM.tail.tail) ?_
  clear hK K hS
  have hS := hM.tail.tail
  refine AtT.only (i := 4) (by kernel_rfl) rfl rfl ?_
  intro K hK
  have kk1 := (hM.row (.there .here)).cell
  have ff1 := (hM.row (.there .here)).free
  have ll1 := (hM.row (.there .here)).lt
  have kk2 := (hM.row (.there (.there .here))).cell
  have ff2 := (hM.row (.there (.there .here))).free
  have ll2 := (hM.row (.there (.there .here))).lt
  have kk6 := (hM.row (.there (.there (.there (.there (.there (.there .here))))))).cell
  have ff6 := (hM.row (.there (.there (.there (.there (.there (.there .here))))))).free
  have ll6 := (hM.row (.there (.there (.there (.there (.there (.there .here))))))).lt
  go_simp
  clear kk1 ff1 ll1 kk2 ff2 ll2 kk6 ff6 ll6
  refine hK.out _ _ (by apply Mem.tail; apply Mem.tail; (repeat' (first | with_reducible exact hM | with_reducible exact hMp | with_reducible apply Mem.drew | with_reducible apply Mem.drewN | with_reducible apply Mem.alloc | with_reducible apply Mem.set | with_reducible exact Sto.row | ((with_reducible refine Sto.rowEq2 ?_ ?_); omega; rfl) | ((with_reducible refine Sto.rowEq ?_); omega) | with_reducible apply Sto.int | with_reducible apply Sto.there | with_reducible assumption | (unfold I64; omega) | (with_reducible (have hMx := Mem.undrew hM; exact hMx)) | (with_reducible (have hMx := Mem.undrew hMp; exact hMx))))) ?_
  clear hK K hS
  apply Mem.atT
  · (repeat' (first | with_reducible exact hM | with_reducible exact hMp | with_reducible apply Mem.drew | with_reducible apply Mem.drewN | with_reducible apply Mem.alloc | with_reducible apply Mem.set | with_reducible exact Sto.row | ((with_reducible refine Sto.rowEq2 ?_ ?_); omega; rfl) | ((with_reducible refine Sto.rowEq ?_); omega) | with_reducible apply Sto.int | with_reducible apply Sto.there | with_reducible assumption | (unfold I64; omega) | (with_reducible (have hMx := Mem.undrew hM; exact hMx)) | (with_reducible (have hMx := Mem.undrew hMp; exact hMx))))
  clear hM
  intro hM
  (try simp only [World.size_alloc, World.size_setCell, World.heap_drewN, heapDrew, Nat.add_assoc, Nat.reduceAdd, List.setIfInBounds_toArray, List.set_cons_zero, List.set_cons_succ, List.cons_append, List.nil_append] at hM)
  have hS := hM.tail.tail
  refine AtT.last (by kernel_rfl) rfl (by kernel_rfl) ?_
  intro K hK
  clear hS
  have kk1 := (hM.row (.there .here)).cell
  have ff1 := (hM.row (.there .here)).free
  have ll1 := (hM.row (.there .here)).lt
  have kk2 := (hM.row (.there (.there .here))).cell
  have ff2 := (hM.row (.there (.there .here))).free
  have ll2 := (hM.row (.there (.there .here))).lt
  have kk6 := (hM.row (.there (.there (.there (.there (.there (.there .here))))))).cell
  have ff6 := (hM.row (.there (.there (.there (.there (.there (.there .here))))))).free
  have ll6 := (hM.row (.there (.there (.there (.there (.there (.there .here))))))).lt
  go_simp
  clear kk1 ff1 ll1 kk2 ff2 ll2 kk6 ff6 ll6
  refine hK.out _ _ ?_
  clear hK K
  apply Mem.atEx
  · (repeat' (first | with_reducible exact hM | with_reducible exact hMp | with_reducible apply Mem.drew | with_reducible apply Mem.drewN | with_reducible apply Mem.alloc | with_reducible apply Mem.set | with_reducible exact Sto.row | ((with_reducible refine Sto.rowEq2 ?_ ?_); omega; rfl) | ((with_reducible refine Sto.rowEq ?_); omega) | with_reducible apply Sto.int | with_reducible apply Sto.there | with_reducible assumption | (unfold I64; omega) | (with_reducible (have hMx := Mem.undrew hM; exact hMx)) | (with_reducible (have hMx := Mem.undrew hMp; exact hMx))))
  clear hM
  intro wst hM
  (try simp only [World.size_alloc, World.size_setCell, World.heap_drewN, heapDrew, Nat.add_assoc, Nat.reduceAdd, List.setIfInBounds_toArray, List.set_cons_zero, List.set_cons_succ, List.cons_append, List.nil_append] at hM)
  obtain ⟨k1, f1, l1⟩ := hM.row (.there .here)
  obtain ⟨k6, f6, l6⟩ := hM.row (.there (.there (.there (.there (.there (.there .here))))))
  go_wp2
  refine bodyPost_ret (v := .tuple #[.agg #[.int .i64 W, .int .i64 H, .slice a1 xs.length c1, .slice a2 fs.length c2, .slice a3 ws.length c3, .int .i64 t], .agg #[.int .i64 v0, .int .i64 v1]]) (by simp [results, Try.results41, go_sem, k1, k6]) rfl ⟨W, H, a1, c1, xs, a2, c2, fs, a3, c3, ws, t, ⟨v0, v1⟩, rfl, ?_⟩
  apply Mem.pick (is := [3, 4, 5])
  · (repeat' (first | with_reducible exact hM | with_reducible exact hMp | with_reducible apply Mem.drew | with_reducible apply Mem.drewN | with_reducible apply Mem.alloc | with_reducible apply Mem.set | with_reducible exact Sto.row | ((with_reducible refine Sto.rowEq2 ?_ ?_); omega; rfl) | ((with_reducible refine Sto.rowEq ?_); omega) | with_reducible apply Sto.int | with_reducible apply Sto.there | with_reducible assumption | (unfold I64; omega) | (with_reducible (have hMx := Mem.undrew hM; exact hMx)) | (with_reducible (have hMx := Mem.undrew hMp; exact hMx))))
  · decide
  · rfl
set_option maxRecDepth 100000 in
set_option maxHeartbeats 8000000 in
theorem drawInc_run {ac : Option Addr} {nc cc : Nat} {l : List UInt8} {w : World} (hC : Rd FByt w ac nc cc l) :
    Calls Try.prog 46 #[.slice ac nc cc] w fun e w' => ∃ (W H : Int) (a1 : Option Addr) (c1 : Nat) (xs : List Int) (a2 : Option Addr) (c2 : Nat) (fs : List Int) (a3 : Option Addr) (c3 : Nat) (ws : List Int) (t : Int) (a4 : Option Addr) (c4 : Nat) (vs : List ActionI), vs.length ≤ 31 ∧ e = .returned (.tuple #[.agg #[.int .i64 W, .int .i64 H, .slice a1 xs.length c1, .slice a2 fs.length c2, .slice a3 ws.length c3, .int .i64 t], .slice a4 vs.length c4]) ∧ Mem w.heap.size w w' [owE FAction 53 a4 vs.length c4 vs, intE a1 xs.length c1 xs, intE a2 fs.length c2 fs, intE a3 ws.length c3 ws] := by
  have hM := Mem.start w
  have HC := Lib.hid hC
  clear hC
  obtain ⟨i0, hi, hz0, hz1, hz2⟩ := info_parts Try.info53
  go_enter Try.func46, Try.ntmps46
  go_wp2_with fail
  apply Mem.atA
  · (repeat' (first | with_reducible exact hM | with_reducible exact hMp | with_reducible apply Mem.drew | with_reducible apply Mem.drewN | with_reducible apply Mem.alloc | with_reducible apply Mem.set | with_reducible exact Sto.row | ((with_reducible refine Sto.rowEq2 ?_ ?_); omega; rfl) | ((with_reducible refine Sto.rowEq ?_); omega) | with_reducible apply Sto.int | with_reducible apply Sto.there | with_reducible assumption | (unfold I64; omega) | (with_reducible (have hMx := Mem.undrew hM; exact hMx)) | (with_reducible (have hMx := Mem.undrew hMp; exact hMx))))
  clear hM
  intro wst hM
  (try simp only [World.size_alloc, World.size_setCell, World.heap_drewN, heapDrew, Nat.add_assoc, Nat.reduceAdd, List.setIfInBounds_toArray, List.set_cons_zero, List.set_cons_succ, List.cons_append, List.nil_append] at hM)
  (first | refine (incident_any HC.out hM.curNew .here (by omega)).mono ?_)
  rintro e wc1 ⟨W, H, a1, c1, xs, a2, c2, fs, a3, c3, ws, t, h1, h2, rfl, hm⟩
  clear hM
  have hM := hm
  clear hm
  try dsimp only at hM
  clear h1
  go_wp2_with fail
  apply Mem.atA
  · (repeat' (first | with_reducible exact hM | with_reducible exact hMp | with_reducible apply Mem.drew | with_reducible apply Mem.drewN | with_reducible apply Mem.alloc | with_reducible apply Mem.set | with_reducible exact Sto.row | ((with_reducible refine Sto.rowEq2 ?_ ?_); omega; rfl) | ((with_reducible refine Sto.rowEq ?_); omega) | with_reducible apply Sto.int | with_reducible apply Sto.there | with_reducible assumption | (unfold I64; omega) | (with_reducible (have hMx := Mem.undrew hM; exact hMx)) | (with_reducible (have hMx := Mem.undrew hMp; exact hMx))))
  clear hM
  intro wst hM
  (try simp only [World.size_alloc, World.size_setCell, World.heap_drewN, heapDrew, Nat.add_assoc, Nat.reduceAdd, List.setIfInBounds_toArray, List.set_cons_zero, List.set_cons_succ, List.cons_append, List.nil_append] at hM)
  (first | refine (pick_any 10 HC.out hM (.there (.there (.there (.there (.there .here))))) (by omega)).mono ?_)
  rintro e wc2 ⟨r, hr, hr2, rfl, hm⟩
  clear hM
  have hM := hm
  clear hm
  try dsimp only at hM
  have hr5 := pick_lt hr (by omega)
  clear hr hr2
  replace hM := Mem.toOwR (F := FAction) hM
  go_wp2_with fail
  go_loopw [6, 7] (fun s6 s7 wr => ∃ (k : Nat) (a4 : Option Addr) (c4 : Nat) (vs : List ActionI), s7 = .int .i64 k ∧ s6 = .slice a4 vs.length c4 ∧ vs.length + k ≤ 9 ∧ Mem w.heap.size w wr [owE FAction 53 a4 vs.length c4 vs, rowE wc1.heap.size 46 #[.int .i64 W, .int .i64 H, .slice a1 xs.length c1, .slice a2 fs.length c2, .slice a3 ws.length c3, .int .i64 t], intE a1 xs.length c1 xs, intE a2 fs.length c2 fs, intE a3 ws.length c3 ws, curE (w.heap.size + 1) ac nc cc (400 + 12 * (9 - k)), rowE w.heap.size 46 #[.int .i64 0, .int .i64 0, .slice none 0 0, .slice none 0 0, .slice none 0 0, .int .i64 0]]) (fun _ s7 _ => (intOf s7).toNat)
  case atStart => exact ⟨r, _, _, [], rfl, rfl, by simp; omega, hM.curMore (.there (.there (.there (.there (.there .here))))) (by omega)⟩
  case round =>
    clear hM hr5
    obtain ⟨k, a4, c4, vs, rfl, rfl, hwk, hM⟩ := hrel
    by_cases hk0 : 0 < k
    rotate_left
    · obtain rfl : k = 0 := by omega
      go_wp2_with fail
      apply Mem.atA
      · (repeat' (first | with_reducible exact hM | with_reducible exact hMp | with_reducible apply Mem.drew | with_reducible apply Mem.drewN | with_reducible apply Mem.alloc | with_reducible apply Mem.set | with_reducible exact Sto.row | ((with_reducible refine Sto.rowEq2 ?_ ?_); omega; rfl) | ((with_reducible refine Sto.rowEq ?_); omega) | with_reducible apply Sto.int | with_reducible apply Sto.there | with_reducible assumption | (unfold I64; omega) | (with_reducible (have hMx := Mem.undrew hM; exact hMx)) | (with_reducible (have hMx := Mem.undrew hMp; exact hMx))))
      clear hM
      intro wst hM
      (try simp only [World.size_alloc, World.size_setCell, World.heap_drewN, heapDrew, Nat.add_assoc, Nat.reduceAdd, List.setIfInBounds_toArray, List.set_cons_zero, List.set_cons_succ, List.cons_append, List.nil_append] at hM)
      (first | refine (one_any 24 HC.out hM (.there (.there (.there (.there (.there .here))))) (by omega)).mono ?_)
      rintro e wc8 ⟨b, rfl, hm⟩
      clear hM
      have hM := hm
      clear hm
      try dsimp only at hM
      cases b
      · skip
        obtain ⟨k1, f1, l1⟩ := hM.row (.there .here)
        go_upto_region 11 with fail
        clear k1 f1 l1
        apply Mem.atWpA
        · (repeat' (first | with_reducible exact hM | with_reducible exact hMp | with_reducible apply Mem.drew | with_reducible apply Mem.drewN | with_reducible apply Mem.alloc | with_reducible apply Mem.set | with_reducible exact Sto.row | ((with_reducible refine Sto.rowEq2 ?_ ?_); omega; rfl) | ((with_reducible refine Sto.rowEq ?_); omega) | with_reducible apply Sto.int | with_reducible apply Sto.there | with_reducible assumption | (unfold I64; omega) | (with_reducible (have hMx := Mem.undrew hM; exact hMx)) | (with_reducible (have hMx := Mem.undrew hMp; exact hMx))))
        clear hM
        intro wst hM
        (try simp only [World.size_alloc, World.size_setCell, World.heap_drewN, heapDrew, Nat.add_assoc, Nat.reduceAdd, List.setIfInBounds_toArray, List.set_cons_zero, List.set_cons_succ, List.cons_append, List.nil_append] at hM)
        obtain ⟨k1, f1, l1⟩ := hM.row (.there .here)
        obtain ⟨k6, f6, l6⟩ := hM.row (.there (.there (.there (.there (.there (.there .here))))))
        go_wp2
        refine bodyPost_ret (v := .tuple #[.agg #[.int .i64 W, .int .i64 H, .slice a1 xs.length c1, .slice a2 fs.length c2, .slice a3 ws.length c3, .int .i64 t], .slice a4 vs.length c4]) (by simp [results, Try.results46, go_sem, k1, k6]) rfl ⟨W, H, a1, c1, xs, a2, c2, fs, a3, c3, ws, t, a4, c4, vs, by omega, rfl, ?_⟩
        apply Mem.pick (is := [0, 2, 3, 4])
        · (repeat' (first | with_reducible exact hM | with_reducible exact hMp | with_reducible apply Mem.drew | with_reducible apply Mem.drewN | with_reducible apply Mem.alloc | with_reducible apply Mem.set | with_reducible exact Sto.row | ((with_reducible refine Sto.rowEq2 ?_ ?_); omega; rfl) | ((with_reducible refine Sto.rowEq ?_); omega) | with_reducible apply Sto.int | with_reducible apply Sto.there | with_reducible assumption | (unfold I64; omega) | (with_reducible (have hMx := Mem.undrew hM; exact hMx)) | (with_reducible (have hMx := Mem.undrew hMp; exact hMx))))
        · decide
        · rfl
      · replace hM := hM.curMore (A' := 600) (.there (.there (.there (.there (.there .here))))) (by omega)
        go_wp2_with fail
        go_loopw [6] (fun s6 wr => ∃ (a5 : Option Addr) (c5 : Nat) (us : List ActionI), s6 = .slice a5 us.length c5 ∧ us.length ≤ 31 ∧ Mem w.heap.size w wr [owE FAction 53 a5 us.length c5 us, rowE wc1.heap.size 46 #[.int .i64 W, .int .i64 H, .slice a1 xs.length c1, .slice a2 fs.length c2, .slice a3 ws.length c3, .int .i64 t], intE a1 xs.length c1 xs, intE a2 fs.length c2 fs, intE a3 ws.length c3 ws, curE (w.heap.size + 1) ac nc cc (600 + 2 * us.length), rowE w.heap.size 46 #[.int .i64 0, .int .i64 0, .slice none 0 0, .slice none 0 0, .slice none 0 0, .int .i64 0]]) (fun s6 _ => 32 - lenA s6)
        case atStart => exact ⟨a4, c4, vs, rfl, by omega, hM.curMore (.there (.there (.there (.there (.there .here))))) (by omega)⟩
        case round =>
          clear hM hwk hk0
          obtain ⟨a5, c5, us, rfl, hz, hM⟩ := hrel
          go_wp2_with fail
          apply Mem.atA
          · (repeat' (first | with_reducible exact hM | with_reducible exact hMp | with_reducible apply Mem.drew | with_reducible apply Mem.drewN | with_reducible apply Mem.alloc | with_reducible apply Mem.set | with_reducible exact Sto.row | ((with_reducible refine Sto.rowEq2 ?_ ?_); omega; rfl) | ((with_reducible refine Sto.rowEq ?_); omega) | with_reducible apply Sto.int | with_reducible apply Sto.there | with_reducible assumption | (unfold I64; omega) | (with_reducible (have hMx := Mem.undrew hM; exact hMx)) | (with_reducible (have hMx := Mem.undrew hMp; exact hMx))))
          clear hM
          intro wst hM
          (try simp only [World.size_alloc, World.size_setCell, World.heap_drewN, heapDrew, Nat.add_assoc, Nat.reduceAdd, List.setIfInBounds_toArray, List.set_cons_zero, List.set_cons_succ, List.cons_append, List.nil_append] at hM)
          (first | refine (pick_any 2 HC.out hM (.there (.there (.there (.there (.there .here))))) (by omega)).mono ?_)
          rintro e wc9 ⟨r, hr, hr2, rfl, hm⟩
          clear hM
          have hM := hm
          clear hm
          try dsimp only at hM
          have hr3 := pick_lt hr (by omega)
          clear hr hr2
          by_cases hlt : us.length < 30 + r
          · have hlt2 : (us.length : Int) < 30 + (r : Int) := by omega
            have hw : IntKind.i64.wrap (30 + (r : Int)) = 30 + (r : Int) := by rw [wrap_in (by omega)]
            go_wp2_with (at_builtin; apply Mem.atL; (focus ((repeat' (first | with_reducible exact hM | with_reducible exact hMp | with_reducible apply Mem.drew | with_reducible apply Mem.drewN | with_reducible apply Mem.alloc | with_reducible apply Mem.set | with_reducible exact Sto.row | ((with_reducible refine Sto.rowEq2 ?_ ?_); omega; rfl) | ((with_reducible refine Sto.rowEq ?_); omega) | with_reducible apply Sto.int | with_reducible apply Sto.there | with_reducible assumption | (unfold I64; omega) | (with_reducible (have hMx := Mem.undrew hM; exact hMx)) | (with_reducible (have hMx := Mem.undrew hMp; exact hMx)))); done)); clear hM; intro hM; refine wpList_pushR (F := FAction) (⟨1, 0⟩ : ActionI) hM (fun _ => .here) rfl (by refine ⟨?_, ?_⟩ <;> (unfold I64; decide)) (by decide) (by show (us.length + 1) * 2 ≤ _; omega) i0 (.agg #[.int .i64 0, .int .i64 0]) 16 hi hz0 hz1 hz2 rfl (by omega) rfl _ _ _ Try.underlying58 rfl rfl rfl ?_)
            intro a6 c6 w3 hM
            have hl3 : (us ++ [(⟨1, 0⟩ : ActionI)]).length = us.length + 1 := by simp
            go_wp2
            go_roundw
            case rel =>
              refine ⟨a6, c6, us ++ [⟨1, 0⟩], by rw [hl3], by rw [hl3]; omega, ?_⟩
              rw [hl3]
              exact hM.curMore (.there (.there (.there (.there (.there .here))))) (by omega)
            case measure => simp [lenA]; omega
          · have hlt2 : ¬ (us.length : Int) < 30 + (r : Int) := by omega
            have hw : IntKind.i64.wrap (30 + (r : Int)) = 30 + (r : Int) := by rw [wrap_in (by omega)]
            obtain ⟨k1, f1, l1⟩ := hM.row (.there .here)
            go_upto_region 11 with fail
            clear k1 f1 l1
            apply Mem.atWpA
            · (repeat' (first | with_reducible exact hM | with_reducible exact hMp | with_reducible apply Mem.drew | with_reducible apply Mem.drewN | with_reducible apply Mem.alloc | with_reducible apply Mem.set | with_reducible exact Sto.row | ((with_reducible refine Sto.rowEq2 ?_ ?_); omega; rfl) | ((with_reducible refine Sto.rowEq ?_); omega) | with_reducible apply Sto.int | with_reducible apply Sto.there | with_reducible assumption | (unfold I64; omega) | (with_reducible (have hMx := Mem.undrew hM; exact hMx)) | (with_reducible (have hMx := Mem.undrew hMp; exact hMx))))
            clear hM
            intro wst hM
            (try simp only [World.size_alloc, World.size_setCell, World.heap_drewN, heapDrew, Nat.add_assoc, Nat.reduceAdd, List.setIfInBounds_toArray, List.set_cons_zero, List.set_cons_succ, List.cons_append, List.nil_append] at hM)
            obtain ⟨k1, f1, l1⟩ := hM.row (.there .here)
            obtain ⟨k6, f6, l6⟩ := hM.row (.there (.there (.there (.there (.there (.there .here))))))
            go_wp2
            refine bodyPost_ret (v := .tuple #[.agg #[.int .i64 W, .int .i64 H, .slice a1 xs.length c1, .slice a2 fs.length c2, .slice a3 ws.length c3, .int .i64 t], .slice a5 us.length c5]) (by simp [results, Try.results46, go_sem, k1, k6]) rfl ⟨W, H, a1, c1, xs, a2, c2, fs, a3, c3, ws, t, a5, c5, us, hz, rfl, ?_⟩
            apply Mem.pick (is := [0, 2, 3, 4])
            · (repeat' (first | with_reducible exact hM | with_reducible exact hMp | with_reducible apply Mem.drew | with_reducible apply Mem.drewN | with_reducible apply Mem.alloc | with_reducible apply Mem.set | with_reducible exact Sto.row | ((with_reducible refine Sto.rowEq2 ?_ ?_); omega; rfl) | ((with_reducible refine Sto.rowEq ?_); omega) | with_reducible apply Sto.int | with_reducible apply Sto.there | with_reducible assumption | (unfold I64; omega) | (with_reducible (have hMx := Mem.undrew hM; exact hMx)) | (with_reducible (have hMx := Mem.undrew hMp; exact hMx))))
            · decide
            · rfl
    obtain ⟨m, rfl⟩ : ∃ m, k = m + 1 := ⟨k - 1, by omega⟩
    obtain ⟨k1, f1, l1⟩ := hM.row (.there .here)
    go_wp2_with fail
    clear k1 f1 l1
    apply Mem.atA
    · (repeat' (first | with_reducible exact hM | with_reducible exact hMp | with_reducible apply Mem.drew | with_reducible apply Mem.drewN | with_reducible apply Mem.alloc | with_reducible apply Mem.set | with_reducible exact Sto.row | ((with_reducible refine Sto.rowEq2 ?_ ?_); omega; rfl) | ((with_reducible refine Sto.rowEq ?_); omega) | with_reducible apply Sto.int | with_reducible apply Sto.there | with_reducible assumption | (unfold I64; omega) | (with_reducible (have hMx := Mem.undrew hM; exact hMx)) | (with_reducible (have hMx := Mem.undrew hMp; exact hMx))))
    clear hM
    intro wst hM
    (try simp only [World.size_alloc, World.size_setCell, World.heap_drewN, heapDrew, Nat.add_assoc, Nat.reduceAdd, List.setIfInBounds_toArray, List.set_cons_zero, List.set_cons_succ, List.cons_append, List.nil_append] at hM)
    (first | refine (action_any W H a1 xs.length c1 a2 fs.length c2 a3 ws.length c3 t h2.2 HC.out hM (.there (.there (.there (.there (.there .here))))) (by omega)).mono ?_)
    rintro e wc3 ⟨v, hv, rfl, hm⟩
    clear hM
    have hM := hm
    clear hm
    try dsimp only at hM
    have HV := Lib.hid (okA_wf hv); clear hv
    obtain ⟨v0, v1⟩ := v
    go_wp2_with (at_builtin; apply Mem.atL; (focus ((repeat' (first | with_reducible exact hM | with_reducible exact hMp | with_reducible apply Mem.drew | with_reducible apply Mem.drewN | with_reducible apply Mem.alloc | with_reducible apply Mem.set | with_reducible exact Sto.row | ((with_reducible refine Sto.rowEq2 ?_ ?_); omega; rfl) | ((with_reducible refine Sto.rowEq ?_); omega) | with_reducible apply Sto.int | with_reducible apply Sto.there | with_reducible assumption | (unfold I64; omega) | (with_reducible (have hMx := Mem.undrew hM; exact hMx)) | (with_reducible (have hMx := Mem.undrew hMp; exact hMx)))); done)); clear hM; intro hM; refine wpList_pushR (F := FAction) (⟨v0, v1⟩ : ActionI) hM (fun _ => .here) rfl HV.out (by decide) (by show (vs.length + 1) * 2 ≤ _; omega) i0 (.agg #[.int .i64 0, .int .i64 0]) 16 hi hz0 hz1 hz2 rfl (by omega) rfl _ _ _ Try.underlying58 rfl rfl rfl ?_)
    intro a5 c5 w3 hM
    have hl3 : (vs ++ [(⟨v0, v1⟩ : ActionI)]).length = vs.length + 1 := by simp
    go_wp2
    go_roundw
    case rel =>
      refine ⟨m, a5, c5, vs ++ [⟨v0, v1⟩], by go_num, by rw [hl3], by rw [hl3]; omega, ?_⟩
      rw [hl3]
      exact hM.curMore (.there (.there (.there (.there (.there .here))))) (by omega)
    case measure => simp [intOf]
end Go.Proofs.Ytkohfegajcmdbaa

/-
  The reference's draws of the laws on smoke.
-/
import Derived.Test.YtdhgkfmehegeoaaDrawWnd
namespace Go.Proofs.Ytdhgkfmehegeoaa
set_option linter.unusedSimpArgs false
set_option linter.unusedVariables false
open Go.RowKit

theorem Mem.one4 {B : Nat} {w0 w : World} {e a b c : Ent} (h : Mem B w0 w [e, a, b, c]) : Mem B w0 w [e] := h.first
theorem Mem.two5 {B : Nat} {w0 w : World} {e a f b c : Ent} (h : Mem B w0 w [e, a, f, b, c]) : Mem B w0 w [e, f] := h.sub (by simp)
def okS (W H : Int) (xs : List Int) : Prop := (0 ≤ W ∧ W ≤ 6) ∧ (1 ≤ H ∧ H ≤ 5) ∧ (1 ≤ xs.length ∧ xs.length ≤ 26) ∧ allB (-1) 10001 xs
set_option maxRecDepth 100000 in
set_option maxHeartbeats 8000000 in
theorem drawSmk_is {ac : Option Addr} {nc cc : Nat} {l : List UInt8} {w : World} (hC : Rd FByt w ac nc cc l) :
    Calls Try.prog 79 #[.slice ac nc cc] w fun e w' => ∃ (W H : Int) (a' : Option Addr) (c' : Nat) (xs : List Int), okS W H xs ∧ e = .returned (.agg #[.int .i64 W, .int .i64 H, .slice a' xs.length c']) ∧ Mem w.heap.size w w' [intE a' xs.length c' xs] := by
  have hM := Mem.start w
  have HC := Lib.hid hC
  clear hC
  go_enter Try.func79, Try.ntmps79
  go_wp2_with fail
  apply Mem.atA
  · (repeat' (first | with_reducible exact hM | with_reducible exact hMp | with_reducible apply Mem.drew | with_reducible apply Mem.drewN | with_reducible apply Mem.alloc | with_reducible apply Mem.set | with_reducible exact Sto.row | ((with_reducible refine Sto.rowEq2 ?_ ?_); omega; rfl) | ((with_reducible refine Sto.rowEq ?_); omega) | with_reducible apply Sto.int | with_reducible apply Sto.there | with_reducible assumption | (unfold I64; omega) | (with_reducible (have hMx := Mem.undrew hM; exact hMx)) | (with_reducible (have hMx := Mem.undrew hMp; exact hMx))))
  clear hM
  intro wst hM
  (try simp only [World.size_alloc, World.size_setCell, World.heap_drewN, heapDrew, Nat.add_assoc, Nat.reduceAdd, List.setIfInBounds_toArray, List.set_cons_zero, List.set_cons_succ, List.cons_append, List.nil_append] at hM)
  refine (smoke_any HC.out hM.curNew .here (by omega)).mono ?_
  rintro e wc1 ⟨W, H, a', c', xs, h1, h2, h3, h4, rfl, hm⟩
  clear hM
  have hM := hm
  clear hm
  try dsimp only at hM
  have HS := Lib.hid (show okS W H xs from ⟨h1, h2, h3, h4⟩)
  clear h4
  obtain ⟨k2, f2, l2⟩ := hM.row (.there (.there .here))
  go_wp2
  refine bodyPost_ret (v := .agg #[.int .i64 W, .int .i64 H, .slice a' xs.length c']) (by simp [results, Try.results79, go_sem, k2]) rfl ⟨W, H, a', c', xs, HS.out, rfl, ?_⟩
  apply Mem.out3
  (repeat' (first | with_reducible exact hM | with_reducible exact hMp | with_reducible apply Mem.drew | with_reducible apply Mem.drewN | with_reducible apply Mem.alloc | with_reducible apply Mem.set | with_reducible exact Sto.row | ((with_reducible refine Sto.rowEq2 ?_ ?_); omega; rfl) | ((with_reducible refine Sto.rowEq ?_); omega) | with_reducible apply Sto.int | with_reducible apply Sto.there | with_reducible assumption | (unfold I64; omega) | (with_reducible (have hMx := Mem.undrew hM; exact hMx)) | (with_reducible (have hMx := Mem.undrew hMp; exact hMx))))
set_option maxRecDepth 100000 in
set_option maxHeartbeats 8000000 in
theorem drawSmk_total {ac : Option Addr} {nc cc : Nat} {l : List UInt8} {w : World} (hC : Rd FByt w ac nc cc l) :
    Calls Try.prog 22 #[.slice ac nc cc] w fun e w' => ∃ (W H : Int) (a' : Option Addr) (c' : Nat) (xs : List Int), okS W H xs ∧ e = .returned (.agg #[.int .i64 W, .int .i64 H, .slice a' xs.length c']) ∧ Mem w.heap.size w w' [intE a' xs.length c' xs] := by
  have hM := Mem.start w
  have HC := Lib.hid hC
  clear hC
  go_enter Try.func22, Try.ntmps22 /- 22 -/
  go_wp2_with fail
  apply Mem.atA
  · (repeat' (first | with_reducible exact hM | with_reducible exact hMp | with_reducible apply Mem.drew | with_reducible apply Mem.drewN | with_reducible apply Mem.alloc | with_reducible apply Mem.set | with_reducible exact Sto.row | ((with_reducible refine Sto.rowEq2 ?_ ?_); omega; rfl) | ((with_reducible refine Sto.rowEq ?_); omega) | with_reducible apply Sto.int | with_reducible apply Sto.there | with_reducible assumption | (unfold I64; omega) | (with_reducible (have hMx := Mem.undrew hM; exact hMx)) | (with_reducible (have hMx := Mem.undrew hMp; exact hMx))))
  clear hM
  intro wst hM
  (try simp only [World.size_alloc, World.size_setCell, World.heap_drewN, heapDrew, Nat.add_assoc, Nat.reduceAdd, List.setIfInBounds_toArray, List.set_cons_zero, List.set_cons_succ, List.cons_append, List.nil_append] at hM)
  refine (drawSmk_is (HC.out.ext hM.below)).mono ?_
  rintro e wc1 ⟨W, H, a', c', xs, hs, rfl, hm⟩
  replace hM := hM.join hm
  clear hm
  (try simp only [World.size_alloc, World.size_setCell, World.heap_drewN, heapDrew, Nat.add_assoc, Nat.reduceAdd, List.setIfInBounds_toArray, List.set_cons_zero, List.set_cons_succ, List.cons_append, List.nil_append] at hM)
  have HS := Lib.hid hs
  clear hs
  obtain ⟨k1, f1, l1⟩ := hM.row (.there .here)
  go_wp2
  refine bodyPost_ret (v := .agg #[.int .i64 W, .int .i64 H, .slice a' xs.length c']) (by simp [results, Try.results22, go_sem, k1]) rfl ⟨W, H, a', c', xs, HS.out, rfl, ?_⟩
  apply Mem.drop1
  (repeat' (first | with_reducible exact hM | with_reducible exact hMp | with_reducible apply Mem.drew | with_reducible apply Mem.drewN | with_reducible apply Mem.alloc | with_reducible apply Mem.set | with_reducible exact Sto.row | ((with_reducible refine Sto.rowEq2 ?_ ?_); omega; rfl) | ((with_reducible refine Sto.rowEq ?_); omega) | with_reducible apply Sto.int | with_reducible apply Sto.there | with_reducible assumption | (unfold I64; omega) | (with_reducible (have hMx := Mem.undrew hM; exact hMx)) | (with_reducible (have hMx := Mem.undrew hMp; exact hMx))))
set_option maxRecDepth 100000 in
set_option maxHeartbeats 8000000 in
theorem drawSmk_center {ac : Option Addr} {nc cc : Nat} {l : List UInt8} {w : World} (hC : Rd FByt w ac nc cc l) :
    Calls Try.prog 32 #[.slice ac nc cc] w fun e w' => ∃ (W H : Int) (a' : Option Addr) (c' : Nat) (xs : List Int), okS W H xs ∧ e = .returned (.agg #[.int .i64 W, .int .i64 H, .slice a' xs.length c']) ∧ Mem w.heap.size w w' [intE a' xs.length c' xs] := by
  have hM := Mem.start w
  have HC := Lib.hid hC
  clear hC
  go_enter Try.func32, Try.ntmps32 /- 32 -/
  go_wp2_with fail
  apply Mem.atA
  · (repeat' (first | with_reducible exact hM | with_reducible exact hMp | with_reducible apply Mem.drew | with_reducible apply Mem.drewN | with_reducible apply Mem.alloc | with_reducible apply Mem.set | with_reducible exact Sto.row | ((with_reducible refine Sto.rowEq2 ?_ ?_); omega; rfl) | ((with_reducible refine Sto.rowEq ?_); omega) | with_reducible apply Sto.int | with_reducible apply Sto.there | with_reducible assumption | (unfold I64; omega) | (with_reducible (have hMx := Mem.undrew hM; exact hMx)) | (with_reducible (have hMx := Mem.undrew hMp; exact hMx))))
  clear hM
  intro wst hM
  (try simp only [World.size_alloc, World.size_setCell, World.heap_drewN, heapDrew, Nat.add_assoc, Nat.reduceAdd, List.setIfInBounds_toArray, List.set_cons_zero, List.set_cons_succ, List.cons_append, List.nil_append] at hM)
  refine (drawSmk_is (HC.out.ext hM.below)).mono ?_
  rintro e wc1 ⟨W, H, a', c', xs, hs, rfl, hm⟩
  replace hM := hM.join hm
  clear hm
  (try simp only [World.size_alloc, World.size_setCell, World.heap_drewN, heapDrew, Nat.add_assoc, Nat.reduceAdd, List.setIfInBounds_toArray, List.set_cons_zero, List.set_cons_succ, List.cons_append, List.nil_append] at hM)
  have HS := Lib.hid hs
  clear hs
  obtain ⟨k1, f1, l1⟩ := hM.row (.there .here)
  go_wp2
  refine bodyPost_ret (v := .agg #[.int .i64 W, .int .i64 H, .slice a' xs.length c']) (by simp [results, Try.results32, go_sem, k1]) rfl ⟨W, H, a', c', xs, HS.out, rfl, ?_⟩
  apply Mem.drop1
  (repeat' (first | with_reducible exact hM | with_reducible exact hMp | with_reducible apply Mem.drew | with_reducible apply Mem.drewN | with_reducible apply Mem.alloc | with_reducible apply Mem.set | with_reducible exact Sto.row | ((with_reducible refine Sto.rowEq2 ?_ ?_); omega; rfl) | ((with_reducible refine Sto.rowEq ?_); omega) | with_reducible apply Sto.int | with_reducible apply Sto.there | with_reducible assumption | (unfold I64; omega) | (with_reducible (have hMx := Mem.undrew hM; exact hMx)) | (with_reducible (have hMx := Mem.undrew hMp; exact hMx))))
set_option maxRecDepth 100000 in
set_option maxHeartbeats 8000000 in
theorem drawSmk_settle {ac : Option Addr} {nc cc : Nat} {l : List UInt8} {w : World} (hC : Rd FByt w ac nc cc l) :
    Calls Try.prog 19 #[.slice ac nc cc] w fun e w' => ∃ (W H : Int) (a' : Option Addr) (c' : Nat) (xs : List Int) (p : Int), okS W H xs ∧ (-1 ≤ p ∧ p ≤ 101) ∧ e = .returned (.tuple #[.agg #[.int .i64 W, .int .i64 H, .slice a' xs.length c'], .int .i64 p]) ∧ Mem w.heap.size w w' [intE a' xs.length c' xs] := by
  have hM := Mem.start w
  have HC := Lib.hid hC
  clear hC
  go_enter Try.func19, Try.ntmps19
  go_wp2_with fail
  apply Mem.atA
  · (repeat' (first | with_reducible exact hM | with_reducible exact hMp | with_reducible apply Mem.drew | with_reducible apply Mem.drewN | with_reducible apply Mem.alloc | with_reducible apply Mem.set | with_reducible exact Sto.row | ((with_reducible refine Sto.rowEq2 ?_ ?_); omega; rfl) | ((with_reducible refine Sto.rowEq ?_); omega) | with_reducible apply Sto.int | with_reducible apply Sto.there | with_reducible assumption | (unfold I64; omega) | (with_reducible (have hMx := Mem.undrew hM; exact hMx)) | (with_reducible (have hMx := Mem.undrew hMp; exact hMx))))
  clear hM
  intro wst hM
  (try simp only [World.size_alloc, World.size_setCell, World.heap_drewN, heapDrew, Nat.add_assoc, Nat.reduceAdd, List.setIfInBounds_toArray, List.set_cons_zero, List.set_cons_succ, List.cons_append, List.nil_append] at hM)
  refine (smoke_any HC.out hM.curNew .here (by omega)).mono ?_
  rintro e wc1 ⟨W, H, a', c', xs, h1, h2, h3, h4, rfl, hm⟩
  clear hM
  have hM := hm
  clear hm
  try dsimp only at hM
  have HS := Lib.hid (show okS W H xs from ⟨h1, h2, h3, h4⟩)
  clear h4
  go_wp2_with fail
  apply Mem.atA
  · (repeat' (first | with_reducible exact hM | with_reducible exact hMp | with_reducible apply Mem.drew | with_reducible apply Mem.drewN | with_reducible apply Mem.alloc | with_reducible apply Mem.set | with_reducible exact Sto.row | ((with_reducible refine Sto.rowEq2 ?_ ?_); omega; rfl) | ((with_reducible refine Sto.rowEq ?_); omega) | with_reducible apply Sto.int | with_reducible apply Sto.there | with_reducible assumption | (unfold I64; omega) | (with_reducible (have hMx := Mem.undrew hM; exact hMx)) | (with_reducible (have hMx := Mem.undrew hMp; exact hMx))))
  clear hM
  intro wst hM
  (try simp only [World.size_alloc, World.size_setCell, World.heap_drewN, heapDrew, Nat.add_assoc, Nat.reduceAdd, List.setIfInBounds_toArray, List.set_cons_zero, List.set_cons_succ, List.cons_append, List.nil_append] at hM)
  refine (among_any [0, 10, 33, 50, 99, 100, 101, -1] HC.out hM (.there (.there .here)) (fun _ => .here) rfl (by decide) (by decide) (by omega) (by decide)).mono ?_
  rintro e wc3 ⟨p, hp, rfl, hm⟩
  clear hM
  have hM := hm
  clear hm
  try dsimp only at hM
  have hpb := amb (-1) 101 hp (by decide)
  clear hp
  obtain ⟨k3, f3, l3⟩ := hM.row (.there (.there (.there .here)))
  go_wp2
  refine bodyPost_ret (v := .tuple #[.agg #[.int .i64 W, .int .i64 H, .slice a' xs.length c'], .int .i64 p]) (by simp [results, Try.results19, go_sem, k3]) rfl ⟨W, H, a', c', xs, p, HS.out, hpb, rfl, ?_⟩
  apply Mem.out4
  (repeat' (first | with_reducible exact hM | with_reducible exact hMp | with_reducible apply Mem.drew | with_reducible apply Mem.drewN | with_reducible apply Mem.alloc | with_reducible apply Mem.set | with_reducible exact Sto.row | ((with_reducible refine Sto.rowEq2 ?_ ?_); omega; rfl) | ((with_reducible refine Sto.rowEq ?_); omega) | with_reducible apply Sto.int | with_reducible apply Sto.there | with_reducible assumption | (unfold I64; omega) | (with_reducible (have hMx := Mem.undrew hM; exact hMx)) | (with_reducible (have hMx := Mem.undrew hMp; exact hMx))))
set_option maxRecDepth 100000 in
set_option maxHeartbeats 8000000 in
theorem drawSmk_thick {ac : Option Addr} {nc cc : Nat} {l : List UInt8} {w : World} (hC : Rd FByt w ac nc cc l) :
    Calls Try.prog 29 #[.slice ac nc cc] w fun e w' => ∃ (W H : Int) (a' : Option Addr) (c' : Nat) (xs : List Int) (p : Int), okS W H xs ∧ (-1 ≤ p ∧ p ≤ 999) ∧ e = .returned (.tuple #[.agg #[.int .i64 W, .int .i64 H, .slice a' xs.length c'], .int .i64 p]) ∧ Mem w.heap.size w w' [intE a' xs.length c' xs] := by
  have hM := Mem.start w
  have HC := Lib.hid hC
  clear hC
  go_enter Try.func29, Try.ntmps29
  go_wp2_with fail
  apply Mem.atA
  · (repeat' (first | with_reducible exact hM | with_reducible exact hMp | with_reducible apply Mem.drew | with_reducible apply Mem.drewN | with_reducible apply Mem.alloc | with_reducible apply Mem.set | with_reducible exact Sto.row | ((with_reducible refine Sto.rowEq2 ?_ ?_); omega; rfl) | ((with_reducible refine Sto.rowEq ?_); omega) | with_reducible apply Sto.int | with_reducible apply Sto.there | with_reducible assumption | (unfold I64; omega) | (with_reducible (have hMx := Mem.undrew hM; exact hMx)) | (with_reducible (have hMx := Mem.undrew hMp; exact hMx))))
  clear hM
  intro wst hM
  (try simp only [World.size_alloc, World.size_setCell, World.heap_drewN, heapDrew, Nat.add_assoc, Nat.reduceAdd, List.setIfInBounds_toArray, List.set_cons_zero, List.set_cons_succ, List.cons_append, List.nil_append] at hM)
  refine (smoke_any HC.out hM.curNew .here (by omega)).mono ?_
  rintro e wc1 ⟨W, H, a', c', xs, h1, h2, h3, h4, rfl, hm⟩
  clear hM
  have hM := hm
  clear hm
  try dsimp only at hM
  have HS := Lib.hid (show okS W H xs from ⟨h1, h2, h3, h4⟩)
  clear h4
  go_wp2_with fail
  apply Mem.atA
  · (repeat' (first | with_reducible exact hM | with_reducible exact hMp | with_reducible apply Mem.drew | with_reducible apply Mem.drewN | with_reducible apply Mem.alloc | with_reducible apply Mem.set | with_reducible exact Sto.row | ((with_reducible refine Sto.rowEq2 ?_ ?_); omega; rfl) | ((with_reducible refine Sto.rowEq ?_); omega) | with_reducible apply Sto.int | with_reducible apply Sto.there | with_reducible assumption | (unfold I64; omega) | (with_reducible (have hMx := Mem.undrew hM; exact hMx)) | (with_reducible (have hMx := Mem.undrew hMp; exact hMx))))
  clear hM
  intro wst hM
  (try simp only [World.size_alloc, World.size_setCell, World.heap_drewN, heapDrew, Nat.add_assoc, Nat.reduceAdd, List.setIfInBounds_toArray, List.set_cons_zero, List.set_cons_succ, List.cons_append, List.nil_append] at hM)
  refine (among_any [0, 9, 10, 50, 998, 999, -1] HC.out hM (.there (.there .here)) (fun _ => .here) rfl (by decide) (by decide) (by omega) (by decide)).mono ?_
  rintro e wc3 ⟨p, hp, rfl, hm⟩
  clear hM
  have hM := hm
  clear hm
  try dsimp only at hM
  have hpb := amb (-1) 999 hp (by decide)
  clear hp
  obtain ⟨k3, f3, l3⟩ := hM.row (.there (.there (.there .here)))
  go_wp2
  refine bodyPost_ret (v := .tuple #[.agg #[.int .i64 W, .int .i64 H, .slice a' xs.length c'], .int .i64 p]) (by simp [results, Try.results29, go_sem, k3]) rfl ⟨W, H, a', c', xs, p, HS.out, hpb, rfl, ?_⟩
  apply Mem.out4
  (repeat' (first | with_reducible exact hM | with_reducible exact hMp | with_reducible apply Mem.drew | with_reducible apply Mem.drewN | with_reducible apply Mem.alloc | with_reducible apply Mem.set | with_reducible exact Sto.row | ((with_reducible refine Sto.rowEq2 ?_ ?_); omega; rfl) | ((with_reducible refine Sto.rowEq ?_); omega) | with_reducible apply Sto.int | with_reducible apply Sto.there | with_reducible assumption | (unfold I64; omega) | (with_reducible (have hMx := Mem.undrew hM; exact hMx)) | (with_reducible (have hMx := Mem.undrew hMp; exact hMx))))
set_option maxRecDepth 100000 in
set_option maxHeartbeats 8000000 in
theorem drawSmk_blow {ac : Option Addr} {nc cc : Nat} {l : List UInt8} {w : World} (hC : Rd FByt w ac nc cc l) :
    Calls Try.prog 15 #[.slice ac nc cc] w fun e w' => ∃ (W H : Int) (a' : Option Addr) (c' : Nat) (xs : List Int) (v : WindI), okS W H xs ∧ okW v ∧ e = .returned (.tuple #[.agg #[.int .i64 W, .int .i64 H, .slice a' xs.length c'], v.val]) ∧ Mem w.heap.size w w' [intE a' xs.length c' xs] := by
  have hM := Mem.start w
  have HC := Lib.hid hC
  clear hC
  go_enter Try.func15, Try.ntmps15
  go_wp2_with fail
  apply Mem.atA
  · (repeat' (first | with_reducible exact hM | with_reducible exact hMp | with_reducible apply Mem.drew | with_reducible apply Mem.drewN | with_reducible apply Mem.alloc | with_reducible apply Mem.set | with_reducible exact Sto.row | ((with_reducible refine Sto.rowEq2 ?_ ?_); omega; rfl) | ((with_reducible refine Sto.rowEq ?_); omega) | with_reducible apply Sto.int | with_reducible apply Sto.there | with_reducible assumption | (unfold I64; omega) | (with_reducible (have hMx := Mem.undrew hM; exact hMx)) | (with_reducible (have hMx := Mem.undrew hMp; exact hMx))))
  clear hM
  intro wst hM
  (try simp only [World.size_alloc, World.size_setCell, World.heap_drewN, heapDrew, Nat.add_assoc, Nat.reduceAdd, List.setIfInBounds_toArray, List.set_cons_zero, List.set_cons_succ, List.cons_append, List.nil_append] at hM)
  refine (smoke_any HC.out hM.curNew .here (by omega)).mono ?_
  rintro e wc1 ⟨W, H, a', c', xs, h1, h2, h3, h4, rfl, hm⟩
  clear hM
  have hM := hm
  clear hm
  try dsimp only at hM
  have HS := Lib.hid (show okS W H xs from ⟨h1, h2, h3, h4⟩)
  clear h4
  go_wp2_with fail
  apply Mem.atA
  · (repeat' (first | with_reducible exact hM | with_reducible exact hMp | with_reducible apply Mem.drew | with_reducible apply Mem.drewN | with_reducible apply Mem.alloc | with_reducible apply Mem.set | with_reducible exact Sto.row | ((with_reducible refine Sto.rowEq2 ?_ ?_); omega; rfl) | ((with_reducible refine Sto.rowEq ?_); omega) | with_reducible apply Sto.int | with_reducible apply Sto.there | with_reducible assumption | (unfold I64; omega) | (with_reducible (have hMx := Mem.undrew hM; exact hMx)) | (with_reducible (have hMx := Mem.undrew hMp; exact hMx))))
  clear hM
  intro wst hM
  (try simp only [World.size_alloc, World.size_setCell, World.heap_drewN, heapDrew, Nat.add_assoc, Nat.reduceAdd, List.setIfInBounds_toArray, List.set_cons_zero, List.set_cons_succ, List.cons_append, List.nil_append] at hM)
  refine (wind_any HC.out hM (.there .here) (by omega)).mono ?_
  rintro e wc3 ⟨v, hv, rfl, hm⟩
  clear hM
  have hM := hm
  clear hm
  try dsimp only at hM
  have HV := Lib.hid hv; clear hv
  obtain ⟨v0, v1, v2⟩ := v
  obtain ⟨k2, f2, l2⟩ := hM.row (.there (.there .here))
  obtain ⟨k3, f3, l3⟩ := hM.row (.there (.there (.there .here)))
  go_wp2
  refine bodyPost_ret (v := .tuple #[.agg #[.int .i64 W, .int .i64 H, .slice a' xs.length c'], (WindI.mk v0 v1 v2).val]) (by simp [results, Try.results15, go_sem, k2, k3]) rfl ⟨W, H, a', c', xs, ⟨v0, v1, v2⟩, HS.out, HV.out, rfl, ?_⟩
  apply Mem.one4
  (repeat' (first | with_reducible exact hM | with_reducible exact hMp | with_reducible apply Mem.drew | with_reducible apply Mem.drewN | with_reducible apply Mem.alloc | with_reducible apply Mem.set | with_reducible exact Sto.row | ((with_reducible refine Sto.rowEq2 ?_ ?_); omega; rfl) | ((with_reducible refine Sto.rowEq ?_); omega) | with_reducible apply Sto.int | with_reducible apply Sto.there | with_reducible assumption | (unfold I64; omega) | (with_reducible (have hMx := Mem.undrew hM; exact hMx)) | (with_reducible (have hMx := Mem.undrew hMp; exact hMx))))
def allW (ws : List WindI) : Prop := ∀ v ∈ ws, okW v
theorem allW_nil : allW [] := by intro x hx; cases hx
theorem allW_snoc {xs : List WindI} {y : WindI} (h : allW xs) (hy : okW y) : allW (xs ++ [y]) := by
  intro x hx
  rcases List.mem_append.1 hx with hx | hx
  · exact h x hx
  · obtain rfl := List.mem_singleton.1 hx
    exact hy
set_option maxRecDepth 100000 in
set_option maxHeartbeats 8000000 in
theorem drawSmk_run {ac : Option Addr} {nc cc : Nat} {l : List UInt8} {w : World} (hC : Rd FByt w ac nc cc l) :
    Calls Try.prog 8 #[.slice ac nc cc] w fun e w' => ∃ (W H : Int) (a' : Option Addr) (c' : Nat) (xs : List Int) (a2 : Option Addr) (c2 : Nat) (ws : List WindI), okS W H xs ∧ ws.length ≤ 11 ∧ allW ws ∧ e = .returned (.tuple #[.agg #[.int .i64 W, .int .i64 H, .slice a' xs.length c'], .slice a2 ws.length c2]) ∧ Mem w.heap.size w w' [owE FWind 37 a2 ws.length c2 ws, intE a' xs.length c' xs] := by
  have hM := Mem.start w
  have HC := Lib.hid hC
  clear hC
  obtain ⟨i0, hi, hz0, hz1, hz2⟩ := info_parts Try.info37
  go_enter Try.func8, Try.ntmps8
  go_wp2_with fail
  apply Mem.atA
  · (repeat' (first | with_reducible exact hM | with_reducible exact hMp | with_reducible apply Mem.drew | with_reducible apply Mem.drewN | with_reducible apply Mem.alloc | with_reducible apply Mem.set | with_reducible exact Sto.row | ((with_reducible refine Sto.rowEq2 ?_ ?_); omega; rfl) | ((with_reducible refine Sto.rowEq ?_); omega) | with_reducible apply Sto.int | with_reducible apply Sto.there | with_reducible assumption | (unfold I64; omega) | (with_reducible (have hMx := Mem.undrew hM; exact hMx)) | (with_reducible (have hMx := Mem.undrew hMp; exact hMx))))
  clear hM
  intro wst hM
  (try simp only [World.size_alloc, World.size_setCell, World.heap_drewN, heapDrew, Nat.add_assoc, Nat.reduceAdd, List.setIfInBounds_toArray, List.set_cons_zero, List.set_cons_succ, List.cons_append, List.nil_append] at hM)
  refine (smoke_any HC.out hM.curNew .here (by omega)).mono ?_
  rintro e wc1 ⟨W, H, a', c', xs, h1, h2, h3, h4, rfl, hm⟩
  clear hM
  have hM := hm
  clear hm
  try dsimp only at hM
  have HS := Lib.hid (show okS W H xs from ⟨h1, h2, h3, h4⟩)
  clear h1 h2 h3 h4
  go_wp2_with fail
  apply Mem.atA
  · (repeat' (first | with_reducible exact hM | with_reducible exact hMp | with_reducible apply Mem.drew | with_reducible apply Mem.drewN | with_reducible apply Mem.alloc | with_reducible apply Mem.set | with_reducible exact Sto.row | ((with_reducible refine Sto.rowEq2 ?_ ?_); omega; rfl) | ((with_reducible refine Sto.rowEq ?_); omega) | with_reducible apply Sto.int | with_reducible apply Sto.there | with_reducible assumption | (unfold I64; omega) | (with_reducible (have hMx := Mem.undrew hM; exact hMx)) | (with_reducible (have hMx := Mem.undrew hMp; exact hMx))))
  clear hM
  intro wst hM
  (try simp only [World.size_alloc, World.size_setCell, World.heap_drewN, heapDrew, Nat.add_assoc, Nat.reduceAdd, List.setIfInBounds_toArray, List.set_cons_zero, List.set_cons_succ, List.cons_append, List.nil_append] at hM)
  refine (pick_any 5 HC.out hM (.there (.there (.there .here))) (by omega)).mono ?_
  rintro e wc2 ⟨r, hr, hr2, rfl, hm⟩
  clear hM
  have hM := hm
  clear hm
  try dsimp only at hM
  have hr5 := pick_lt hr (by omega)
  clear hr hr2
  replace hM := Mem.toOwR (F := FWind) hM
  go_wp2_with fail
  go_loopw [6, 7] (fun s6 s7 wr => ∃ (k : Nat) (a2 : Option Addr) (c2 : Nat) (ws : List WindI), s7 = .int .i64 k ∧ s6 = .slice a2 ws.length c2 ∧ ws.length + k ≤ 4 ∧ Hid (allW ws) ∧ Mem w.heap.size w wr [owE FWind 37 a2 ws.length c2 ws, rowE wc1.heap.size 26 #[.int .i64 W, .int .i64 H, .slice a' xs.length c'], intE a' xs.length c' xs, curE (w.heap.size + 1) ac nc cc (200 + 12 * (4 - k)), rowE w.heap.size 26 #[.int .i64 0, .int .i64 0, .slice none 0 0]]) (fun _ s7 _ => (intOf s7).toNat)
  case atStart => exact ⟨r, _, _, [], rfl, rfl, by simp; omega, Lib.hid allW_nil, hM.curMore (.there (.there (.there .here))) (by omega)⟩
  case round =>
    clear hM hr5
    obtain ⟨k, a2, c2, ws, rfl, rfl, hwk, HX, hM⟩ := hrel
    by_cases hk0 : 0 < k
    rotate_left
    · obtain rfl : k = 0 := by omega
      go_wp2_with fail
      apply Mem.atA
      · (repeat' (first | with_reducible exact hM | with_reducible exact hMp | with_reducible apply Mem.drew | with_reducible apply Mem.drewN | with_reducible apply Mem.alloc | with_reducible apply Mem.set | with_reducible exact Sto.row | ((with_reducible refine Sto.rowEq2 ?_ ?_); omega; rfl) | ((with_reducible refine Sto.rowEq ?_); omega) | with_reducible apply Sto.int | with_reducible apply Sto.there | with_reducible assumption | (unfold I64; omega) | (with_reducible (have hMx := Mem.undrew hM; exact hMx)) | (with_reducible (have hMx := Mem.undrew hMp; exact hMx))))
      clear hM
      intro wst hM
      (try simp only [World.size_alloc, World.size_setCell, World.heap_drewN, heapDrew, Nat.add_assoc, Nat.reduceAdd, List.setIfInBounds_toArray, List.set_cons_zero, List.set_cons_succ, List.cons_append, List.nil_append] at hM)
      refine (one_any 24 HC.out hM (.there (.there (.there .here))) (by omega)).mono ?_
      rintro e wc12 ⟨b, rfl, hm⟩
      clear hM
      have hM := hm
      clear hm
      try dsimp only at hM
      cases b
      · skip
        go_upto_region 11 with fail
        apply Mem.atWpA
        · (repeat' (first | with_reducible exact hM | with_reducible exact hMp | with_reducible apply Mem.drew | with_reducible apply Mem.drewN | with_reducible apply Mem.alloc | with_reducible apply Mem.set | with_reducible exact Sto.row | ((with_reducible refine Sto.rowEq2 ?_ ?_); omega; rfl) | ((with_reducible refine Sto.rowEq ?_); omega) | with_reducible apply Sto.int | with_reducible apply Sto.there | with_reducible assumption | (unfold I64; omega) | (with_reducible (have hMx := Mem.undrew hM; exact hMx)) | (with_reducible (have hMx := Mem.undrew hMp; exact hMx))))
        clear hM
        intro wst hM
        (try simp only [World.size_alloc, World.size_setCell, World.heap_drewN, heapDrew, Nat.add_assoc, Nat.reduceAdd, List.setIfInBounds_toArray, List.set_cons_zero, List.set_cons_succ, List.cons_append, List.nil_append] at hM)
        obtain ⟨k1, f1, l1⟩ := hM.row (.there .here)
        obtain ⟨k4, f4, l4⟩ := hM.row (.there (.there (.there (.there .here))))
        go_wp2
        refine bodyPost_ret (v := .tuple #[.agg #[.int .i64 W, .int .i64 H, .slice a' xs.length c'], .slice a2 ws.length c2]) (by simp [results, Try.results8, go_sem, k1, k4]) rfl ⟨W, H, a', c', xs, a2, c2, ws, HS.out, by omega, HX.out, rfl, ?_⟩
        apply Mem.two5
        (repeat' (first | with_reducible exact hM | with_reducible exact hMp | with_reducible apply Mem.drew | with_reducible apply Mem.drewN | with_reducible apply Mem.alloc | with_reducible apply Mem.set | with_reducible exact Sto.row | ((with_reducible refine Sto.rowEq2 ?_ ?_); omega; rfl) | ((with_reducible refine Sto.rowEq ?_); omega) | with_reducible apply Sto.int | with_reducible apply Sto.there | with_reducible assumption | (unfold I64; omega) | (with_reducible (have hMx := Mem.undrew hM; exact hMx)) | (with_reducible (have hMx := Mem.undrew hMp; exact hMx))))
      · replace hM := hM.curMore (A' := 300) (.there (.there (.there .here))) (by omega)
        go_wp2_with fail
        go_loopw [6] (fun s6 wr => ∃ (a2 : Option Addr) (c2 : Nat) (ws : List WindI), s6 = .slice a2 ws.length c2 ∧ ws.length ≤ 11 ∧ Hid (allW ws) ∧ Mem w.heap.size w wr [owE FWind 37 a2 ws.length c2 ws, rowE wc1.heap.size 26 #[.int .i64 W, .int .i64 H, .slice a' xs.length c'], intE a' xs.length c' xs, curE (w.heap.size + 1) ac nc cc (300 + 2 * ws.length), rowE w.heap.size 26 #[.int .i64 0, .int .i64 0, .slice none 0 0]]) (fun s6 _ => 12 - lenV s6)
        case atStart => exact ⟨a2, c2, ws, rfl, by omega, HX, hM.curMore (.there (.there (.there .here))) (by omega)⟩
        case round =>
          clear hM HX hwk hk0
          obtain ⟨a3, c3, vs, rfl, hz, HZ, hM⟩ := hrel
          go_wp2_with fail
          apply Mem.atA
          · (repeat' (first | with_reducible exact hM | with_reducible exact hMp | with_reducible apply Mem.drew | with_reducible apply Mem.drewN | with_reducible apply Mem.alloc | with_reducible apply Mem.set | with_reducible exact Sto.row | ((with_reducible refine Sto.rowEq2 ?_ ?_); omega; rfl) | ((with_reducible refine Sto.rowEq ?_); omega) | with_reducible apply Sto.int | with_reducible apply Sto.there | with_reducible assumption | (unfold I64; omega) | (with_reducible (have hMx := Mem.undrew hM; exact hMx)) | (with_reducible (have hMx := Mem.undrew hMp; exact hMx))))
          clear hM
          intro wst hM
          (try simp only [World.size_alloc, World.size_setCell, World.heap_drewN, heapDrew, Nat.add_assoc, Nat.reduceAdd, List.setIfInBounds_toArray, List.set_cons_zero, List.set_cons_succ, List.cons_append, List.nil_append] at hM)
          refine (pick_any 2 HC.out hM (.there (.there (.there .here))) (by omega)).mono ?_
          rintro e wc9 ⟨r, hr, hr2, rfl, hm⟩
          clear hM
          have hM := hm
          clear hm
          try dsimp only at hM
          have hr3 := pick_lt hr (by omega)
          clear hr hr2
          by_cases hlt : vs.length < 10 + r
          · have hlt2 : (vs.length : Int) < 10 + (r : Int) := by omega
            have hw : IntKind.i64.wrap (10 + (r : Int)) = 10 + (r : Int) := by rw [wrap_in (by omega)]
            go_wp2_with (at_builtin; apply Mem.atL; (focus ((repeat' (first | with_reducible exact hM | with_reducible exact hMp | with_reducible apply Mem.drew | with_reducible apply Mem.drewN | with_reducible apply Mem.alloc | with_reducible apply Mem.set | with_reducible exact Sto.row | ((with_reducible refine Sto.rowEq2 ?_ ?_); omega; rfl) | ((with_reducible refine Sto.rowEq ?_); omega) | with_reducible apply Sto.int | with_reducible apply Sto.there | with_reducible assumption | (unfold I64; omega) | (with_reducible (have hMx := Mem.undrew hM; exact hMx)) | (with_reducible (have hMx := Mem.undrew hMp; exact hMx)))); done)); clear hM; intro hM; refine wpList_pushR (F := FWind) (⟨1, 0, 5⟩ : WindI) hM (fun _ => .here) rfl (by refine ⟨?_, ?_, ?_⟩ <;> (unfold I64; decide)) (by decide) (by show (vs.length + 1) * 3 ≤ _; omega) i0 (.agg #[.int .i64 0, .int .i64 0, .int .i64 0]) 24 hi hz0 hz1 hz2 rfl (by omega) rfl _ _ _ Try.underlying27 rfl rfl rfl ?_)
            intro a4 c4 w3 hM
            have hl3 : (vs ++ [(⟨1, 0, 5⟩ : WindI)]).length = vs.length + 1 := by simp
            go_wp2
            go_roundw
            case rel =>
              refine ⟨a4, c4, vs ++ [⟨1, 0, 5⟩], by rw [hl3], by rw [hl3]; omega, Lib.hid (allW_snoc HZ.out (by unfold okW; dsimp only; omega)), ?_⟩
              rw [hl3]
              exact hM.curMore (.there (.there (.there .here))) (by omega)
            case measure => simp [lenV]; omega
          · have hlt2 : ¬ (vs.length : Int) < 10 + (r : Int) := by omega
            have hw : IntKind.i64.wrap (10 + (r : Int)) = 10 + (r : Int) := by rw [wrap_in (by omega)]
            go_upto_region 11 with fail
            apply Mem.atWpA
            · (repeat' (first | with_reducible exact hM | with_reducible exact hMp | with_reducible apply Mem.drew | with_reducible apply Mem.drewN | with_reducible apply Mem.alloc | with_reducible apply Mem.set | with_reducible exact Sto.row | ((with_reducible refine Sto.rowEq2 ?_ ?_); omega; rfl) | ((with_reducible refine Sto.rowEq ?_); omega) | with_reducible apply Sto.int | with_reducible apply Sto.there | with_reducible assumption | (unfold I64; omega) | (with_reducible (have hMx := Mem.undrew hM; exact hMx)) | (with_reducible (have hMx := Mem.undrew hMp; exact hMx))))
            clear hM
            intro wst hM
            (try simp only [World.size_alloc, World.size_setCell, World.heap_drewN, heapDrew, Nat.add_assoc, Nat.reduceAdd, List.setIfInBounds_toArray, List.set_cons_zero, List.set_cons_succ, List.cons_append, List.nil_append] at hM)
            obtain ⟨k1, f1, l1⟩ := hM.row (.there .here)
            obtain ⟨k4, f4, l4⟩ := hM.row (.there (.there (.there (.there .here))))
            go_wp2
            refine bodyPost_ret (v := .tuple #[.agg #[.int .i64 W, .int .i64 H, .slice a' xs.length c'], .slice a3 vs.length c3]) (by simp [results, Try.results8, go_sem, k1, k4]) rfl ⟨W, H, a', c', xs, a3, c3, vs, HS.out, by omega, HZ.out, rfl, ?_⟩
            apply Mem.two5
            (repeat' (first | with_reducible exact hM | with_reducible exact hMp | with_reducible apply Mem.drew | with_reducible apply Mem.drewN | with_reducible apply Mem.alloc | with_reducible apply Mem.set | with_reducible exact Sto.row | ((with_reducible refine Sto.rowEq2 ?_ ?_); omega; rfl) | ((with_reducible refine Sto.rowEq ?_); omega) | with_reducible apply Sto.int | with_reducible apply Sto.there | with_reducible assumption | (unfold I64; omega) | (with_reducible (have hMx := Mem.undrew hM; exact hMx)) | (with_reducible (have hMx := Mem.undrew hMp; exact hMx))))
    obtain ⟨m, rfl⟩ : ∃ m, k = m + 1 := ⟨k - 1, by omega⟩
    go_wp2_with fail
    apply Mem.atA
    · (repeat' (first | with_reducible exact hM | with_reducible exact hMp | with_reducible apply Mem.drew | with_reducible apply Mem.drewN | with_reducible apply Mem.alloc | with_reducible apply Mem.set | with_reducible exact Sto.row | ((with_reducible refine Sto.rowEq2 ?_ ?_); omega; rfl) | ((with_reducible refine Sto.rowEq ?_); omega) | with_reducible apply Sto.int | with_reducible apply Sto.there | with_reducible assumption | (unfold I64; omega) | (with_reducible (have hMx := Mem.undrew hM; exact hMx)) | (with_reducible (have hMx := Mem.undrew hMp; exact hMx))))
    clear hM
    intro wst hM
    (try simp only [World.size_alloc, World.size_setCell, World.heap_drewN, heapDrew, Nat.add_assoc, Nat.reduceAdd, List.setIfInBounds_toArray, List.set_cons_zero, List.set_cons_succ, List.cons_append, List.nil_append] at hM)
    refine (wind_any HC.out hM (.there (.there (.there .here))) (by omega)).mono ?_
    rintro e wc3 ⟨v, hv, rfl, hm⟩
    clear hM
    have hM := hm
    clear hm
    try dsimp only at hM
    have HV := Lib.hid hv; clear hv
    obtain ⟨v0, v1, v2⟩ := v
    go_wp2_with (at_builtin; apply Mem.atL; (focus ((repeat' (first | with_reducible exact hM | with_reducible exact hMp | with_reducible apply Mem.drew | with_reducible apply Mem.drewN | with_reducible apply Mem.alloc | with_reducible apply Mem.set | with_reducible exact Sto.row | ((with_reducible refine Sto.rowEq2 ?_ ?_); omega; rfl) | ((with_reducible refine Sto.rowEq ?_); omega) | with_reducible apply Sto.int | with_reducible apply Sto.there | with_reducible assumption | (unfold I64; omega) | (with_reducible (have hMx := Mem.undrew hM; exact hMx)) | (with_reducible (have hMx := Mem.undrew hMp; exact hMx)))); done)); clear hM; intro hM; refine wpList_pushR (F := FWind) (⟨v0, v1, v2⟩ : WindI) hM (fun _ => .here) rfl (okW_wf HV.out) (by decide) (by show (ws.length + 1) * 3 ≤ _; omega) i0 (.agg #[.int .i64 0, .int .i64 0, .int .i64 0]) 24 hi hz0 hz1 hz2 rfl (by omega) rfl _ _ _ Try.underlying27 rfl rfl rfl ?_)
    intro a3 c3 w3 hM
    have hl3 : (ws ++ [(⟨v0, v1, v2⟩ : WindI)]).length = ws.length + 1 := by simp
    go_wp2
    go_roundw
    case rel =>
      refine ⟨m, a3, c3, ws ++ [⟨v0, v1, v2⟩], by go_num, by rw [hl3], by rw [hl3]; omega, Lib.hid (allW_snoc HX.out HV.out), ?_⟩
      rw [hl3]
      exact hM.curMore (.there (.there (.there .here))) (by omega)
    case measure => simp [intOf]
end Go.Proofs.Ytdhgkfmehegeoaa

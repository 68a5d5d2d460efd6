/-
  The reference's draws of fires.
-/
import Derived.Test.YtpoabdmapbdmfaaDoorPCur
import Derived.Test.YtpoabdmapbdmfaaDoorPAt
import Derived.Test.YtpoabdmapbdmfaaDoorPFlFire
/-
  The reference's draws of fires.
-/
namespace Go.Proofs.YtpoabdmapbdmfaaDoor
set_option linter.unusedSimpArgs false
set_option linter.unusedVariables false
open Go.RowKit

def okF (x : FireI) : Prop := (-1 ≤ x.day ∧ x.day ≤ 365) ∧ (-1 ≤ x.cause ∧ x.cause ≤ 65535) ∧ (-1 ≤ x.hect ∧ x.hect ≤ 100001) ∧ (0 ≤ x.hours ∧ x.hours ≤ 2001)
theorem okF_wf {x : FireI} (h : okF x) : FFire.wf x := by
  obtain ⟨⟨a, b⟩, ⟨c, d⟩, ⟨e, f⟩, ⟨g, i⟩⟩ := h
  refine ⟨?_, ?_, ?_, ?_⟩ <;> (unfold I64; omega)
theorem mem_bound {x lo hi : Int} {xs : List Int} (h : x ∈ xs) (hb : xs.all (fun y => decide (lo ≤ y) && decide (y ≤ hi)) = true) : lo ≤ x ∧ x ≤ hi := by
  have := List.all_eq_true.1 hb x h
  simpa using this

set_option maxRecDepth 100000 in
set_option maxHeartbeats 8000000 in
theorem fire26_any {g : Nat} {ac : Option Addr} {nc cc : Nat} {l : List UInt8} {A : Nat} {w0 w : World} {G : List Ent} {F : Ent → List Ent} (d : Int) (hd0 : 0 ≤ d) (hd1 : d ≤ 364) (hC : Rd FByt w0 ac nc cc l) (hM : Mem w0.heap.size w0 w G) (p : At G (curE g ac nc cc A) F) (hA : A ≤ 100000000) :
    Calls Tryd.prog 66 #[.pointer (some ⟨g, 0, none⟩), .int .i64 d] w fun e w' => ∃ x : FireI, okF x ∧ e = .returned x.val ∧ Mem w0.heap.size w0 w' (F (curE g ac nc cc (A + 10))) := by
  have HP := Lib.hid p
  have HC := Lib.hid hC
  clear p hC
  go_enter Tryd.func66, Tryd.ntmps66
  go_wp2_with fail
  apply Mem.atA
  · (repeat' (first | with_reducible exact hM | with_reducible exact hMp | with_reducible apply Mem.drew | with_reducible apply Mem.drewN | with_reducible apply Mem.alloc | with_reducible apply Mem.set | with_reducible exact Sto.row | ((with_reducible refine Sto.rowEq2 ?_ ?_); omega; rfl) | ((with_reducible refine Sto.rowEq ?_); omega) | with_reducible apply Sto.int | with_reducible apply Sto.there | with_reducible assumption | (unfold I64; omega) | (with_reducible (have hMx := Mem.undrew hM; exact hMx)) | (with_reducible (have hMx := Mem.undrew hMp; exact hMx))))
  clear hM
  intro wst hM
  (try simp only [World.size_alloc, World.size_setCell, World.heap_drewN, heapDrew, Nat.add_assoc, Nat.reduceAdd, List.setIfInBounds_toArray, List.set_cons_zero, List.set_cons_succ, List.cons_append, List.nil_append] at hM)
  (first | refine (pick_any 5 HC.out hM (.there HP.out) (by omega)).mono ?_)
  rintro e wc1 ⟨j, hj1, hj2, rfl, hm⟩
  clear hM
  have hM := hm
  clear hm
  try dsimp only at hM
  go_wp2_with fail
  apply Mem.atA
  · (repeat' (first | with_reducible exact hM | with_reducible exact hMp | with_reducible apply Mem.drew | with_reducible apply Mem.drewN | with_reducible apply Mem.alloc | with_reducible apply Mem.set | with_reducible exact Sto.row | ((with_reducible refine Sto.rowEq2 ?_ ?_); omega; rfl) | ((with_reducible refine Sto.rowEq ?_); omega) | with_reducible apply Sto.int | with_reducible apply Sto.there | with_reducible assumption | (unfold I64; omega) | (with_reducible (have hMx := Mem.undrew hM; exact hMx)) | (with_reducible (have hMx := Mem.undrew hMp; exact hMx))))
  clear hM
  intro wst hM
  (try simp only [World.size_alloc, World.size_setCell, World.heap_drewN, heapDrew, Nat.add_assoc, Nat.reduceAdd, List.setIfInBounds_toArray, List.set_cons_zero, List.set_cons_succ, List.cons_append, List.nil_append] at hM)
  (first | refine (among_any [0, 1, 9, 10, 99, 100, 999, 1000, 100000] HC.out hM (.there (.there (HP.out.again _))) (fun _ => .here) rfl (by decide) (by decide) (by omega) (by decide)).mono ?_)
  rintro e wc2 ⟨x2, hx2, rfl, hm⟩
  clear hM
  have hM := hm
  clear hm
  try dsimp only at hM
  go_wp2_with fail
  apply Mem.atA
  · (repeat' (first | with_reducible exact hM | with_reducible exact hMp | with_reducible apply Mem.drew | with_reducible apply Mem.drewN | with_reducible apply Mem.alloc | with_reducible apply Mem.set | with_reducible exact Sto.row | ((with_reducible refine Sto.rowEq2 ?_ ?_); omega; rfl) | ((with_reducible refine Sto.rowEq ?_); omega) | with_reducible apply Sto.int | with_reducible apply Sto.there | with_reducible assumption | (unfold I64; omega) | (with_reducible (have hMx := Mem.undrew hM; exact hMx)) | (with_reducible (have hMx := Mem.undrew hMp; exact hMx))))
  clear hM
  intro wst hM
  (try simp only [World.size_alloc, World.size_setCell, World.heap_drewN, heapDrew, Nat.add_assoc, Nat.reduceAdd, List.setIfInBounds_toArray, List.set_cons_zero, List.set_cons_succ, List.cons_append, List.nil_append] at hM)
  (first | refine (among_any [1, 2, 5, 30, 2000] HC.out hM (.there (.there (.there (HP.out.again _)))) (fun _ => .here) rfl (by decide) (by decide) (by omega) (by decide)).mono ?_)
  rintro e wc3 ⟨x3, hx3, rfl, hm⟩
  clear hM
  have hM := hm
  clear hm
  try dsimp only at hM
  obtain ⟨b20, b21⟩ := mem_bound (lo := 0) (hi := 100000) hx2 (by decide)
  obtain ⟨b30, b31⟩ := mem_bound (lo := 1) (hi := 2000) hx3 (by decide)
  clear hx2 hx3 hj1
  go_wp2_with fail
  apply Mem.atA
  · (repeat' (first | with_reducible exact hM | with_reducible exact hMp | with_reducible apply Mem.drew | with_reducible apply Mem.drewN | with_reducible apply Mem.alloc | with_reducible apply Mem.set | with_reducible exact Sto.row | ((with_reducible refine Sto.rowEq2 ?_ ?_); omega; rfl) | ((with_reducible refine Sto.rowEq ?_); omega) | with_reducible apply Sto.int | with_reducible apply Sto.there | with_reducible assumption | (unfold I64; omega) | (with_reducible (have hMx := Mem.undrew hM; exact hMx)) | (with_reducible (have hMx := Mem.undrew hMp; exact hMx))))
  clear hM
  intro wst hM
  (try simp only [World.size_alloc, World.size_setCell, World.heap_drewN, heapDrew, Nat.add_assoc, Nat.reduceAdd, List.setIfInBounds_toArray, List.set_cons_zero, List.set_cons_succ, List.cons_append, List.nil_append] at hM)
  (first | refine (pick_any 80 HC.out hM (.there (.there (.there (.there (HP.out.again _))))) (by omega)).mono ?_)
  rintro e wc4 ⟨r, hr, hr2, rfl, hm⟩
  clear hM
  have hM := hm
  clear hm
  try dsimp only at hM
  clear hr
  by_cases h0 : r = 0
  · subst h0
    go_wp2_with fail
    apply Mem.atA
    · (repeat' (first | with_reducible exact hM | with_reducible exact hMp | with_reducible apply Mem.drew | with_reducible apply Mem.drewN | with_reducible apply Mem.alloc | with_reducible apply Mem.set | with_reducible exact Sto.row | ((with_reducible refine Sto.rowEq2 ?_ ?_); omega; rfl) | ((with_reducible refine Sto.rowEq ?_); omega) | with_reducible apply Sto.int | with_reducible apply Sto.there | with_reducible assumption | (unfold I64; omega) | (with_reducible (have hMx := Mem.undrew hM; exact hMx)) | (with_reducible (have hMx := Mem.undrew hMp; exact hMx))))
    clear hM
    intro wst hM
    (try simp only [World.size_alloc, World.size_setCell, World.heap_drewN, heapDrew, Nat.add_assoc, Nat.reduceAdd, List.setIfInBounds_toArray, List.set_cons_zero, List.set_cons_succ, List.cons_append, List.nil_append] at hM)
    (first | refine (among_any [-1, 364, 365] HC.out hM (.there (.there (.there (.there (.there (HP.out.again _)))))) (fun _ => .here) rfl (by decide) (by decide) (by omega) (by decide)).mono ?_)
    rintro e wc5 ⟨x4, hx4, rfl, hm⟩
    clear hM
    have hM := hm
    clear hm
    try dsimp only at hM
    obtain ⟨b40, b41⟩ := mem_bound (lo := -1) (hi := 365) hx4 (by decide)
    clear hx4
    obtain ⟨k1, f1, l1⟩ := hM.row (.there .here)
    go_upto_region 11 with fail
    clear k1 f1 l1
    apply Mem.atWpA
    · (repeat' (first | with_reducible exact hM | with_reducible exact hMp | with_reducible apply Mem.drew | with_reducible apply Mem.drewN | with_reducible apply Mem.alloc | with_reducible apply Mem.set | with_reducible exact Sto.row | ((with_reducible refine Sto.rowEq2 ?_ ?_); omega; rfl) | ((with_reducible refine Sto.rowEq ?_); omega) | with_reducible apply Sto.int | with_reducible apply Sto.there | with_reducible assumption | (unfold I64; omega) | (with_reducible (have hMx := Mem.undrew hM; exact hMx)) | (with_reducible (have hMx := Mem.undrew hMp; exact hMx))))
    clear hM
    intro wst hM
    (try simp only [World.size_alloc, World.size_setCell, World.heap_drewN, heapDrew, Nat.add_assoc, Nat.reduceAdd, List.setIfInBounds_toArray, List.set_cons_zero, List.set_cons_succ, List.cons_append, List.nil_append] at hM)
    obtain ⟨k1, f1, l1⟩ := hM.row (.there .here)
    obtain ⟨k4, f4, l4⟩ := hM.row (.there (.there (.there (.there .here))))
    go_wp2
    refine bodyPost_ret (v := (FireI.mk x4 j x2 x3).val) (by simp [results, Tryd.results66, go_sem, k1, k4]) rfl ⟨⟨x4, j, x2, x3⟩, by unfold okF; dsimp only; omega, rfl, ?_⟩
    apply Mem.curMore (hA := show A + 8 + 2 ≤ A + 10 by omega) (p := HP.out.again _)
    apply Mem.tail; apply Mem.tail; apply Mem.tail; apply Mem.tail; apply Mem.tail
    (repeat' (first | with_reducible exact hM | with_reducible exact hMp | with_reducible apply Mem.drew | with_reducible apply Mem.drewN | with_reducible apply Mem.alloc | with_reducible apply Mem.set | with_reducible exact Sto.row | ((with_reducible refine Sto.rowEq2 ?_ ?_); omega; rfl) | ((with_reducible refine Sto.rowEq ?_); omega) | with_reducible apply Sto.int | with_reducible apply Sto.there | with_reducible assumption | (unfold I64; omega) | (with_reducible (have hMx := Mem.undrew hM; exact hMx)) | (with_reducible (have hMx := Mem.undrew hMp; exact hMx))))
  by_cases h1 : r = 1
  · subst h1
    go_wp2_with fail
    apply Mem.atA
    · (repeat' (first | with_reducible exact hM | with_reducible exact hMp | with_reducible apply Mem.drew | with_reducible apply Mem.drewN | with_reducible apply Mem.alloc | with_reducible apply Mem.set | with_reducible exact Sto.row | ((with_reducible refine Sto.rowEq2 ?_ ?_); omega; rfl) | ((with_reducible refine Sto.rowEq ?_); omega) | with_reducible apply Sto.int | with_reducible apply Sto.there | with_reducible assumption | (unfold I64; omega) | (with_reducible (have hMx := Mem.undrew hM; exact hMx)) | (with_reducible (have hMx := Mem.undrew hMp; exact hMx))))
    clear hM
    intro wst hM
    (try simp only [World.size_alloc, World.size_setCell, World.heap_drewN, heapDrew, Nat.add_assoc, Nat.reduceAdd, List.setIfInBounds_toArray, List.set_cons_zero, List.set_cons_succ, List.cons_append, List.nil_append] at hM)
    (first | refine (among_any [-1, 5] HC.out hM (.there (.there (.there (.there (.there (HP.out.again _)))))) (fun _ => .here) rfl (by decide) (by decide) (by omega) (by decide)).mono ?_)
    rintro e wc6 ⟨x4, hx4, rfl, hm⟩
    clear hM
    have hM := hm
    clear hm
    try dsimp only at hM
    obtain ⟨b40, b41⟩ := mem_bound (lo := -1) (hi := 5) hx4 (by decide)
    clear hx4
    obtain ⟨k1, f1, l1⟩ := hM.row (.there .here)
    go_upto_region 11 with fail
    clear k1 f1 l1
    apply Mem.atWpA
    · (repeat' (first | with_reducible exact hM | with_reducible exact hMp | with_reducible apply Mem.drew | with_reducible apply Mem.drewN | with_reducible apply Mem.alloc | with_reducible apply Mem.set | with_reducible exact Sto.row | ((with_reducible refine Sto.rowEq2 ?_ ?_); omega; rfl) | ((with_reducible refine Sto.rowEq ?_); omega) | with_reducible apply Sto.int | with_reducible apply Sto.there | with_reducible assumption | (unfold I64; omega) | (with_reducible (have hMx := Mem.undrew hM; exact hMx)) | (with_reducible (have hMx := Mem.undrew hMp; exact hMx))))
    clear hM
    intro wst hM
    (try simp only [World.size_alloc, World.size_setCell, World.heap_drewN, heapDrew, Nat.add_assoc, Nat.reduceAdd, List.setIfInBounds_toArray, List.set_cons_zero, List.set_cons_succ, List.cons_append, List.nil_append] at hM)
    obtain ⟨k1, f1, l1⟩ := hM.row (.there .here)
    obtain ⟨k4, f4, l4⟩ := hM.row (.there (.there (.there (.there .here))))
    go_wp2
    refine bodyPost_ret (v := (FireI.mk d x4 x2 x3).val) (by simp [results, Tryd.results66, go_sem, k1, k4]) rfl ⟨⟨d, x4, x2, x3⟩, by unfold okF; dsimp only; omega, rfl, ?_⟩
    apply Mem.curMore (hA := show A + 8 + 2 ≤ A + 10 by omega) (p := HP.out.again _)
    apply Mem.tail; apply Mem.tail; apply Mem.tail; apply Mem.tail; apply Mem.tail
    (repeat' (first | with_reducible exact hM | with_reducible exact hMp | with_reducible apply Mem.drew | with_reducible apply Mem.drewN | with_reducible apply Mem.alloc | with_reducible apply Mem.set | with_reducible exact Sto.row | ((with_reducible refine Sto.rowEq2 ?_ ?_); omega; rfl) | ((with_reducible refine Sto.rowEq ?_); omega) | with_reducible apply Sto.int | with_reducible apply Sto.there | with_reducible assumption | (unfold I64; omega) | (with_reducible (have hMx := Mem.undrew hM; exact hMx)) | (with_reducible (have hMx := Mem.undrew hMp; exact hMx))))
  by_cases h2 : r = 2
  · subst h2
    go_wp2_with fail
    apply Mem.atA
    · (repeat' (first | with_reducible exact hM | with_reducible exact hMp | with_reducible apply Mem.drew | with_reducible apply Mem.drewN | with_reducible apply Mem.alloc | with_reducible apply Mem.set | with_reducible exact Sto.row | ((with_reducible refine Sto.rowEq2 ?_ ?_); omega; rfl) | ((with_reducible refine Sto.rowEq ?_); omega) | with_reducible apply Sto.int | with_reducible apply Sto.there | with_reducible assumption | (unfold I64; omega) | (with_reducible (have hMx := Mem.undrew hM; exact hMx)) | (with_reducible (have hMx := Mem.undrew hMp; exact hMx))))
    clear hM
    intro wst hM
    (try simp only [World.size_alloc, World.size_setCell, World.heap_drewN, heapDrew, Nat.add_assoc, Nat.reduceAdd, List.setIfInBounds_toArray, List.set_cons_zero, List.set_cons_succ, List.cons_append, List.nil_append] at hM)
    (first | refine (among_any [-1, 100001] HC.out hM (.there (.there (.there (.there (.there (HP.out.again _)))))) (fun _ => .here) rfl (by decide) (by decide) (by omega) (by decide)).mono ?_)
    rintro e wc7 ⟨x4, hx4, rfl, hm⟩
    clear hM
    have hM := hm
    clear hm
    try dsimp only at hM
    obtain ⟨b40, b41⟩ := mem_bound (lo := -1) (hi := 100001) hx4 (by decide)
    clear hx4
    obtain ⟨k1, f1, l1⟩ := hM.row (.there .here)
    go_upto_region 11 with fail
    clear k1 f1 l1
    apply Mem.atWpA
    · (repeat' (first | with_reducible exact hM | with_reducible exact hMp | with_reducible apply Mem.drew | with_reducible apply Mem.drewN | with_reducible apply Mem.alloc | with_reducible apply Mem.set | with_reducible exact Sto.row | ((with_reducible refine Sto.rowEq2 ?_ ?_); omega; rfl) | ((with_reducible refine Sto.rowEq ?_); omega) | with_reducible apply Sto.int | with_reducible apply Sto.there | with_reducible assumption | (unfold I64; omega) | (with_reducible (have hMx := Mem.undrew hM; exact hMx)) | (with_reducible (have hMx := Mem.undrew hMp; exact hMx))))
    clear hM
    intro wst hM
    (try simp only [World.size_alloc, World.size_setCell, World.heap_drewN, heapDrew, Nat.add_assoc, Nat.reduceAdd, List.setIfInBounds_toArray, List.set_cons_zero, List.set_cons_succ, List.cons_append, List.nil_append] at hM)
    obtain ⟨k1, f1, l1⟩ := hM.row (.there .here)
    obtain ⟨k4, f4, l4⟩ := hM.row (.there (.there (.there (.there .here))))
    go_wp2
    refine bodyPost_ret (v := (FireI.mk d j x4 x3).val) (by simp [results, Tryd.results66, go_sem, k1, k4]) rfl ⟨⟨d, j, x4, x3⟩, by unfold okF; dsimp only; omega, rfl, ?_⟩
    apply Mem.curMore (hA := show A + 8 + 2 ≤ A + 10 by omega) (p := HP.out.again _)
    apply Mem.tail; apply Mem.tail; apply Mem.tail; apply Mem.tail; apply Mem.tail
    (repeat' (first | with_reducible exact hM | with_reducible exact hMp | with_reducible apply Mem.drew | with_reducible apply Mem.drewN | with_reducible apply Mem.alloc | with_reducible apply Mem.set | with_reducible exact Sto.row | ((with_reducible refine Sto.rowEq2 ?_ ?_); omega; rfl) | ((with_reducible refine Sto.rowEq ?_); omega) | with_reducible apply Sto.int | with_reducible apply Sto.there | with_reducible assumption | (unfold I64; omega) | (with_reducible (have hMx := Mem.undrew hM; exact hMx)) | (with_reducible (have hMx := Mem.undrew hMp; exact hMx))))
  by_cases h3 : r = 3
  · subst h3
    go_wp2_with fail
    apply Mem.atA
    · (repeat' (first | with_reducible exact hM | with_reducible exact hMp | with_reducible apply Mem.drew | with_reducible apply Mem.drewN | with_reducible apply Mem.alloc | with_reducible apply Mem.set | with_reducible exact Sto.row | ((with_reducible refine Sto.rowEq2 ?_ ?_); omega; rfl) | ((with_reducible refine Sto.rowEq ?_); omega) | with_reducible apply Sto.int | with_reducible apply Sto.there | with_reducible assumption | (unfold I64; omega) | (with_reducible (have hMx := Mem.undrew hM; exact hMx)) | (with_reducible (have hMx := Mem.undrew hMp; exact hMx))))
    clear hM
    intro wst hM
    (try simp only [World.size_alloc, World.size_setCell, World.heap_drewN, heapDrew, Nat.add_assoc, Nat.reduceAdd, List.setIfInBounds_toArray, List.set_cons_zero, List.set_cons_succ, List.cons_append, List.nil_append] at hM)
    (first | refine (among_any [0, 2001] HC.out hM (.there (.there (.there (.there (.there (HP.out.again _)))))) (fun _ => .here) rfl (by decide) (by decide) (by omega) (by decide)).mono ?_)
    rintro e wc8 ⟨x4, hx4, rfl, hm⟩
    clear hM
    have hM := hm
    clear hm
    try dsimp only at hM
    obtain ⟨b40, b41⟩ := mem_bound (lo := 0) (hi := 2001) hx4 (by decide)
    clear hx4
    obtain ⟨k1, f1, l1⟩ := hM.row (.there .here)
    go_upto_region 11 with fail
    clear k1 f1 l1
    apply Mem.atWpA
    · (repeat' (first | with_reducible exact hM | with_reducible exact hMp | with_reducible apply Mem.drew | with_reducible apply Mem.drewN | with_reducible apply Mem.alloc | with_reducible apply Mem.set | with_reducible exact Sto.row | ((with_reducible refine Sto.rowEq2 ?_ ?_); omega; rfl) | ((with_reducible refine Sto.rowEq ?_); omega) | with_reducible apply Sto.int | with_reducible apply Sto.there | with_reducible assumption | (unfold I64; omega) | (with_reducible (have hMx := Mem.undrew hM; exact hMx)) | (with_reducible (have hMx := Mem.undrew hMp; exact hMx))))
    clear hM
    intro wst hM
    (try simp only [World.size_alloc, World.size_setCell, World.heap_drewN, heapDrew, Nat.add_assoc, Nat.reduceAdd, List.setIfInBounds_toArray, List.set_cons_zero, List.set_cons_succ, List.cons_append, List.nil_append] at hM)
    obtain ⟨k1, f1, l1⟩ := hM.row (.there .here)
    obtain ⟨k4, f4, l4⟩ := hM.row (.there (.there (.there (.there .here))))
    go_wp2
    refine bodyPost_ret (v := (FireI.mk d j x2 x4).val) (by simp [results, Tryd.results66, go_sem, k1, k4]) rfl ⟨⟨d, j, x2, x4⟩, by unfold okF; dsimp only; omega, rfl, ?_⟩
    apply Mem.curMore (hA := show A + 8 + 2 ≤ A + 10 by omega) (p := HP.out.again _)
    apply Mem.tail; apply Mem.tail; apply Mem.tail; apply Mem.tail; apply Mem.tail
    (repeat' (first | with_reducible exact hM | with_reducible exact hMp | with_reducible apply Mem.drew | with_reducible apply Mem.drewN | with_reducible apply Mem.alloc | with_reducible apply Mem.set | with_reducible exact Sto.row | ((with_reducible refine Sto.rowEq2 ?_ ?_); omega; rfl) | ((with_reducible refine Sto.rowEq ?_); omega) | with_reducible apply Sto.int | with_reducible apply Sto.there | with_reducible assumption | (unfold I64; omega) | (with_reducible (have hMx := Mem.undrew hM; exact hMx)) | (with_reducible (have hMx := Mem.undrew hMp; exact hMx))))
  have h0' : ¬ (r : Int) = 0 := by omega
  have h1' : ¬ (r : Int) = 1 := by omega
  have h2' : ¬ (r : Int) = 2 := by omega
  have h3' : ¬ (r : Int) = 3 := by omega
  clear h0 h1 h2 h3
  obtain ⟨k0, f0, l0⟩ := hM.row .here
  obtain ⟨k3, f3, l3⟩ := hM.row (.there (.there (.there .here)))
  go_wp2
  refine bodyPost_ret (v := (FireI.mk d j x2 x3).val) (by simp [results, Tryd.results66, go_sem, k0, k3]) rfl ⟨⟨d, j, x2, x3⟩, by unfold okF; dsimp only; omega, rfl, ?_⟩
  apply Mem.curMore (hA := show A + 6 + 2 ≤ A + 10 by omega) (p := HP.out.again _)
  apply Mem.tail; apply Mem.tail; apply Mem.tail; apply Mem.tail
  (repeat' (first | with_reducible exact hM | with_reducible exact hMp | with_reducible apply Mem.drew | with_reducible apply Mem.drewN | with_reducible apply Mem.alloc | with_reducible apply Mem.set | with_reducible exact Sto.row | ((with_reducible refine Sto.rowEq2 ?_ ?_); omega; rfl) | ((with_reducible refine Sto.rowEq ?_); omega) | with_reducible apply Sto.int | with_reducible apply Sto.there | with_reducible assumption | (unfold I64; omega) | (with_reducible (have hMx := Mem.undrew hM; exact hMx)) | (with_reducible (have hMx := Mem.undrew hMp; exact hMx))))
end Go.Proofs.YtpoabdmapbdmfaaDoor

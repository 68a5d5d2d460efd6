/-
  The law FnExactFormatConsole, walked.
-/
import Derived.Test.YtpflnmejbialjaaGreatDoorVConG
/-
  The law FnExactFormatConsole, walked.
-/
namespace Go.Proofs.YtpflnmejbialjaaGreatDoor
set_option linter.unusedSimpArgs false
set_option linter.unusedVariables false
open Go.RowKit

set_option maxRecDepth 100000 in
set_option maxHeartbeats 8000000 in
theorem FnExactFormatConsole_walk (W H : Int) (a1 : Option Addr) (n1 c1 : Nat) (xs1 : List Int) (a2 : Option Addr) (n2 c2 : Nat) (xs2 : List Int) (a3 : Option Addr) (n3 c3 : Nat) (xs3 : List Int) (t : Int) (a4 : Option Addr) (n4 c4 : Nat) (ph : List PhaseI) (a5 : Option Addr) (n5 c5 : Nat) (av : List Int) (D P : Bs) (ct : Int) (w : World) (ht : Tab w)
    (h1 : Ints w a1 n1 c1 xs1) (h2 : Ints w a2 n2 c2 xs2) (h3 : Ints w a3 n3 c3 xs3) (h4 : Rd FPhase w a4 n4 c4 ph) (h5 : Ints w a5 n5 c5 av) (hD : D.length ≤ maxLen) (hP : P.length ≤ maxLen) :
    Calls Tryz.prog 3 #[conV W H a1 n1 c1 a2 n2 c2 a3 n3 c3 t a4 n4 c4 a5 n5 c5 (bsA D) (bsA P) ct] w fun e w' => e = .returned (.bool true) ∧ Below w.heap.size w w' := by
  have hM := Mem.start w
  have HT := Lib.hid ht; clear ht
  go_enter Tryz.func3, Tryz.ntmps3
  go_wp2_with fail
  apply Mem.atA
  · (repeat' (first | with_reducible exact hM | with_reducible exact hMp | with_reducible apply Mem.drew | with_reducible apply Mem.drewN | with_reducible apply Mem.alloc | with_reducible apply Mem.set | with_reducible exact Sto.row | ((with_reducible refine Sto.rowEq2 ?_ ?_); omega; rfl) | ((with_reducible refine Sto.rowEq ?_); omega) | with_reducible apply Sto.int | with_reducible apply Sto.there | with_reducible assumption | (unfold I64; omega) | (with_reducible (have hMx := Mem.undrew hM; exact hMx)) | (with_reducible (have hMx := Mem.undrew hMp; exact hMx))))
  clear hM
  intro wst hM
  (try simp only [World.size_alloc, World.size_setCell, World.heap_drewN, heapDrew, Nat.add_assoc, Nat.reduceAdd, List.setIfInBounds_toArray, List.set_cons_zero, List.set_cons_succ, List.cons_append, List.nil_append] at hM)
  refine (szConsole_any W H a1 n1 c1 a2 n2 c2 a3 n3 c3 t a4 n4 c4 a5 n5 c5 D P ct _ h1.room h2.room h3.room h4.nroom h5.room hD hP).mono ?_
  rintro e w1 ⟨z, hz, rfl, hb⟩
  replace hM := hM.ext hb
  clear hb
  by_cases hzn : z < 0
  · skip
    obtain ⟨k0, f0, l0⟩ := hM.row .here
    go_wp2
    go_ret
    exact ⟨rfl, (by apply Mem.below; (repeat' (first | with_reducible exact hM | with_reducible exact hMp | with_reducible apply Mem.drew | with_reducible apply Mem.drewN | with_reducible apply Mem.alloc | with_reducible apply Mem.set | with_reducible exact Sto.row | ((with_reducible refine Sto.rowEq2 ?_ ?_); omega; rfl) | ((with_reducible refine Sto.rowEq ?_); omega) | with_reducible apply Sto.int | with_reducible apply Sto.there | with_reducible assumption | (unfold I64; omega) | (with_reducible (have hMx := Mem.undrew hM; exact hMx)) | (with_reducible (have hMx := Mem.undrew hMp; exact hMx)))))⟩
  have hl : D.length + P.length ≤ 4194304 := by have := hz (by omega); omega
  clear hz
  obtain ⟨k0, f0, l0⟩ := hM.row .here
  go_wp2_with fail
  clear k0 f0 l0
  apply Mem.atA
  · (repeat' (first | with_reducible exact hM | with_reducible exact hMp | with_reducible apply Mem.drew | with_reducible apply Mem.drewN | with_reducible apply Mem.alloc | with_reducible apply Mem.set | with_reducible exact Sto.row | ((with_reducible refine Sto.rowEq2 ?_ ?_); omega; rfl) | ((with_reducible refine Sto.rowEq ?_); omega) | with_reducible apply Sto.int | with_reducible apply Sto.there | with_reducible assumption | (unfold I64; omega) | (with_reducible (have hMx := Mem.undrew hM; exact hMx)) | (with_reducible (have hMx := Mem.undrew hMp; exact hMx))))
  clear hM
  intro wst hM
  (try simp only [World.size_alloc, World.size_setCell, World.heap_drewN, heapDrew, Nat.add_assoc, Nat.reduceAdd, List.setIfInBounds_toArray, List.set_cons_zero, List.set_cons_succ, List.cons_append, List.nil_append] at hM)
  (first | refine (toConsole_any W H a1 n1 c1 xs1 a2 n2 c2 xs2 a3 n3 c3 xs3 t a4 n4 c4 ph a5 n5 c5 av D P ct _ (h1.ext hM.below) (h2.ext hM.below) (h3.ext hM.below) (h4.ext hM.below) (h5.ext hM.below)).mono ?_)
  rintro e wc1 ⟨b1, d1, b2, d2, b3, d3, b4, d4, b5, d5, rfl, hm⟩
  replace hM := hM.join hm
  clear hm
  (try simp only [World.size_alloc, World.size_setCell, World.heap_drewN, heapDrew, Nat.add_assoc, Nat.reduceAdd, List.setIfInBounds_toArray, List.set_cons_zero, List.set_cons_succ, List.cons_append, List.nil_append] at hM)
  obtain ⟨q, hq⟩ : ∃ q, consB W H xs1 xs2 xs3 t ph av D P ct = q := ⟨_, rfl⟩
  obtain ⟨tx, htx⟩ : ∃ q, formR W H xs1 xs2 xs3 t ph av D P ct = q := ⟨_, rfl⟩
  have HQ := Lib.hid hq; have HTX := Lib.hid htx
  clear hq htx
  have S3 := bsA_list
  have hss : (tx != tx) = false := by simp
  obtain ⟨k5, f5, l5⟩ := hM.row (.there (.there (.there (.there (.there .here)))))
  go_wp2_with fail
  clear k5 f5 l5
  apply Mem.atA
  · (repeat' (first | with_reducible exact hM | with_reducible exact hMp | with_reducible apply Mem.drew | with_reducible apply Mem.drewN | with_reducible apply Mem.alloc | with_reducible apply Mem.set | with_reducible exact Sto.row | ((with_reducible refine Sto.rowEq2 ?_ ?_); omega; rfl) | ((with_reducible refine Sto.rowEq ?_); omega) | with_reducible apply Sto.int | with_reducible apply Sto.there | with_reducible assumption | (unfold I64; omega) | (with_reducible (have hMx := Mem.undrew hM; exact hMx)) | (with_reducible (have hMx := Mem.undrew hMp; exact hMx))))
  clear hM
  intro wst hM
  (try simp only [World.size_alloc, World.size_setCell, World.heap_drewN, heapDrew, Nat.add_assoc, Nat.reduceAdd, List.setIfInBounds_toArray, List.set_cons_zero, List.set_cons_succ, List.cons_append, List.nil_append] at hM)
  (first | refine (specForm_any W H b1 n1 d1 xs1 b2 n2 d2 xs2 b3 n3 d3 xs3 t b4 n4 d4 ph b5 n5 d5 av D P ct _ (hM.ints (.there (.there .here))).ints (hM.ints (.there (.there (.there .here)))).ints (hM.ints (.there (.there (.there (.there .here))))).ints (hM.ow (.there .here)).rd (hM.ints .here).ints hl).mono ?_)
  rw [HQ.out]
  rw [HTX.out]
  rintro e wc2 ⟨rfl, hb⟩
  replace hM := hM.ext hb
  clear hb
  replace hM := hM.tail.tail.tail.tail.tail
  obtain ⟨k0, f0, l0⟩ := hM.row .here
  go_wp2_with fail
  clear k0 f0 l0
  apply Mem.atA
  · (repeat' (first | with_reducible exact hM | with_reducible exact hMp | with_reducible apply Mem.drew | with_reducible apply Mem.drewN | with_reducible apply Mem.alloc | with_reducible apply Mem.set | with_reducible exact Sto.row | ((with_reducible refine Sto.rowEq2 ?_ ?_); omega; rfl) | ((with_reducible refine Sto.rowEq ?_); omega) | with_reducible apply Sto.int | with_reducible apply Sto.there | with_reducible assumption | (unfold I64; omega) | (with_reducible (have hMx := Mem.undrew hM; exact hMx)) | (with_reducible (have hMx := Mem.undrew hMp; exact hMx))))
  clear hM
  intro wst hM
  (try simp only [World.size_alloc, World.size_setCell, World.heap_drewN, heapDrew, Nat.add_assoc, Nat.reduceAdd, List.setIfInBounds_toArray, List.set_cons_zero, List.set_cons_succ, List.cons_append, List.nil_append] at hM)
  (first | refine (toConsole_any W H a1 n1 c1 xs1 a2 n2 c2 xs2 a3 n3 c3 xs3 t a4 n4 c4 ph a5 n5 c5 av D P ct _ (h1.ext hM.below) (h2.ext hM.below) (h3.ext hM.below) (h4.ext hM.below) (h5.ext hM.below)).mono ?_)
  rintro e wc3 ⟨e1, f1, e2, f2, e3, f3, e4, f4, e5, f5, rfl, hm⟩
  replace hM := hM.join hm
  clear hm
  (try simp only [World.size_alloc, World.size_setCell, World.heap_drewN, heapDrew, Nat.add_assoc, Nat.reduceAdd, List.setIfInBounds_toArray, List.set_cons_zero, List.set_cons_succ, List.cons_append, List.nil_append] at hM)
  obtain ⟨k5, f5, l5⟩ := hM.row (.there (.there (.there (.there (.there .here)))))
  go_wp2_with fail
  clear k5 f5 l5
  apply Mem.atA
  · (repeat' (first | with_reducible exact hM | with_reducible exact hMp | with_reducible apply Mem.drew | with_reducible apply Mem.drewN | with_reducible apply Mem.alloc | with_reducible apply Mem.set | with_reducible exact Sto.row | ((with_reducible refine Sto.rowEq2 ?_ ?_); omega; rfl) | ((with_reducible refine Sto.rowEq ?_); omega) | with_reducible apply Sto.int | with_reducible apply Sto.there | with_reducible assumption | (unfold I64; omega) | (with_reducible (have hMx := Mem.undrew hM; exact hMx)) | (with_reducible (have hMx := Mem.undrew hMp; exact hMx))))
  clear hM
  intro wst hM
  (try simp only [World.size_alloc, World.size_setCell, World.heap_drewN, heapDrew, Nat.add_assoc, Nat.reduceAdd, List.setIfInBounds_toArray, List.set_cons_zero, List.set_cons_succ, List.cons_append, List.nil_append] at hM)
  (first | refine (implForm_any W H e1 n1 f1 xs1 e2 n2 f2 xs2 e3 n3 f3 xs3 t e4 n4 f4 ph e5 n5 f5 av D P ct _ (hM.ints (.there (.there (.there .here)))).ints (hM.ints (.there (.there (.there (.there .here))))).ints (hM.ints (.there (.there (.there (.there (.there .here)))))).ints (hM.ow (.there (.there .here))).rd (hM.ints (.there .here)).ints (HT.out.ext hM.below) hl).mono ?_)
  rw [HQ.out]
  rw [HTX.out]
  rintro e wc4 ⟨rfl, hb⟩
  replace hM := hM.ext hb
  clear hb
  have hqq : (q != q) = false := by cases q <;> rfl
  go_upto_region 10 with fail
  apply Mem.atWpA
  · (repeat' (first | with_reducible exact hM | with_reducible exact hMp | with_reducible apply Mem.drew | with_reducible apply Mem.drewN | with_reducible apply Mem.alloc | with_reducible apply Mem.set | with_reducible exact Sto.row | ((with_reducible refine Sto.rowEq2 ?_ ?_); omega; rfl) | ((with_reducible refine Sto.rowEq ?_); omega) | with_reducible apply Sto.int | with_reducible apply Sto.there | with_reducible assumption | (unfold I64; omega) | (with_reducible (have hMx := Mem.undrew hM; exact hMx)) | (with_reducible (have hMx := Mem.undrew hMp; exact hMx))))
  clear hM
  intro wst hM
  (try simp only [World.size_alloc, World.size_setCell, World.heap_drewN, heapDrew, Nat.add_assoc, Nat.reduceAdd, List.setIfInBounds_toArray, List.set_cons_zero, List.set_cons_succ, List.cons_append, List.nil_append] at hM)
  refine AtT.startA hM hM 4 (by kernel_rfl) ?_
  clear hM
  intro wd hM
  have hS := hM
  refine AtT.taked (i := 0) (v := ?_) (some 35) rfl rfl (by kernel_rfl) (by kernel_rfl) (by kernel_rfl) (by kernel_rfl) (fun _ _ _ h => h) (Or.inl ⟨by kernel_rfl, ?_⟩) hS ?_
  rotate_left
  · (intro wS hSw; (try dsimp only at hSw); have kr0 := (Mem.row hSw .here).cell; have kr1 := (Mem.row hSw (.there (.there (.there (.there (.there (.there .here))))))).cell; go_simp; (try rw [if_neg (by omega)]); try with_reducible rfl)
  simp only [Act.put, List.setIfInBounds_toArray, List.set_cons_zero, List.set_cons_succ]
  refine AtT.taked (i := 1) (v := ?_) (some 36) rfl rfl (by kernel_rfl) (by kernel_rfl) (by kernel_rfl) (by kernel_rfl) (fun _ _ _ h => h) (Or.inl ⟨by kernel_rfl, ?_⟩) hS ?_
  rotate_left
  · (intro wS hSw; (try dsimp only at hSw); have kr0 := (Mem.row hSw .here).cell; have kr1 := (Mem.row hSw (.there (.there (.there (.there (.there (.there .here))))))).cell; go_simp; (try rw [if_neg (by omega)]); try with_reducible rfl)
  simp only [Act.put, List.setIfInBounds_toArray, List.set_cons_zero, List.set_cons_succ]
  refine AtT.only (i := 2) (by kernel_rfl) rfl rfl ?_
  intro K hK
  go_simp
  refine (toConsole_any W H a1 n1 c1 xs1 a2 n2 c2 xs2 a3 n3 c3 xs3 t a4 n4 c4 ph a5 n5 c5 av D P ct _ (h1.ext hM.below) (h2.ext hM.below) (h3.ext hM.below) (h4.ext hM.below) (h5.ext hM.below)).mono ?_
  rintro e w5 ⟨g1, j1, g2, j2, g3, j3, g4, j4, g5, j5, rfl, hm⟩
  replace hM := hM.join hm
  clear hm
  dsimp only [List.cons_append, List.nil_append] at hM
  try dsimp only
  refine hK.out _ _ (hM.tail.tail.tail.tail.tail) ?_
  clear hK K hS
  have hS := hM.tail.tail.tail.tail.tail
  refine AtT.only (i := 3) (by kernel_rfl) rfl rfl ?_
  intro K hK
  go_simp
  refine (eqConsole_any W H e1 n1 f1 xs1 e2 n2 f2 xs2 e3 n3 f3 xs3 t e4 n4 f4 ph e5 n5 f5 av (bsA D) (bsA P) ct W H g1 n1 j1 xs1 g2 n2 j2 xs2 g3 n3 j3 xs3 t g4 n4 j4 ph g5 n5 j5 av (bsA D) (bsA P) ct _ (hM.ints (.there (.there (.there (.there (.there (.there (.there (.there .here))))))))).ints (hM.ints (.there (.there (.there (.there (.there (.there (.there (.there (.there .here)))))))))).ints (hM.ints (.there (.there (.there (.there (.there (.there (.there (.there (.there (.there .here))))))))))).ints (hM.ow (.there (.there (.there (.there (.there (.there (.there .here)))))))).rd (hM.ints (.there (.there (.there (.there (.there (.there .here))))))).ints (hM.ints (.there (.there .here))).ints (hM.ints (.there (.there (.there .here)))).ints (hM.ints (.there (.there (.there (.there .here))))).ints (hM.ow (.there .here)).rd (hM.ints .here).ints).mono ?_
  rintro e w6 ⟨rfl, hb⟩
  replace hM := hM.ext hb
  clear hb
  try dsimp only
  refine hK.out _ _ (hM.tail.tail.tail.tail.tail) ?_
  clear hK K hS
  have hS := hM.tail.tail.tail.tail.tail
  refine AtT.last (by kernel_rfl) rfl (by kernel_rfl) ?_
  intro K hK
  clear hS
  go_simp
  refine hK.out _ _ ?_
  clear hK K
  go_wp2
  go_ret
  exact ⟨rfl, (by apply Mem.below; (repeat' (first | with_reducible exact hM | with_reducible exact hMp | with_reducible apply Mem.drew | with_reducible apply Mem.drewN | with_reducible apply Mem.alloc | with_reducible apply Mem.set | with_reducible exact Sto.row | ((with_reducible refine Sto.rowEq2 ?_ ?_); omega; rfl) | ((with_reducible refine Sto.rowEq ?_); omega) | with_reducible apply Sto.int | with_reducible apply Sto.there | with_reducible assumption | (unfold I64; omega) | (with_reducible (have hMx := Mem.undrew hM; exact hMx)) | (with_reducible (have hMx := Mem.undrew hMp; exact hMx)))))⟩
end Go.Proofs.YtpflnmejbialjaaGreatDoor

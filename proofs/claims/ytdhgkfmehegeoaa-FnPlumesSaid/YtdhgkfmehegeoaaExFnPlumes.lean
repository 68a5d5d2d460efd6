/-
  The law FnPlumes, walked.
-/
import Derived.Test.YtdhgkfmehegeoaaPlmU
import Derived.Test.YtdhgkfmehegeoaaDrawPlm
import Derived.Test.YtdhgkfmehegeoaaAdd2
namespace Go.Proofs.Ytdhgkfmehegeoaa
set_option linter.unusedSimpArgs false
set_option linter.unusedVariables false
open Go.RowKit

theorem good_250 {W H : Int} {xs : List Int} (h : goodB 10000 W H xs = true) : 0 ≤ xs.sum ∧ xs.sum ≤ 250000 := by
  obtain ⟨Wn, Hn, -, -, -, -, -, -, -, h25, hall⟩ := goodB_true h
  have := sum_bound hall
  omega
theorem thickR_ok {W H m : Int} {xs th : List Int} (h : thickR W H xs m = (th, true)) : goodB 10000 W H xs = true ∧ th = thickT xs m xs.length := by
  unfold thickR at h
  split at h
  · rename_i hg
    injection h with h1 h2
    exact ⟨hg, h1.symm⟩
  · cases h
set_option maxRecDepth 100000 in
set_option maxHeartbeats 8000000 in
theorem FnPlumes_walk (a : Option Addr) (n cc : Nat) (l : List UInt8) (w : World) (hI : n ≤ maxLen ∧ (n ≤ 65536 → Rd FByt w a n cc l)) :
    Calls Try.prog 4 #[.slice a n cc] w fun e w' => e = .returned (.bool true) ∧ Below w.heap.size w w' := by
  have hM := Mem.start w
  have HI := Lib.hid hI.2
  clear hI
  go_enter Try.func4, Try.ntmps4
  go_wp2_with fail
  apply Mem.atA
  · (repeat' (first | with_reducible exact hM | with_reducible exact hMp | with_reducible apply Mem.drew | with_reducible apply Mem.drewN | with_reducible apply Mem.alloc | with_reducible apply Mem.set | with_reducible exact Sto.row | ((with_reducible refine Sto.rowEq2 ?_ ?_); omega; rfl) | ((with_reducible refine Sto.rowEq ?_); omega) | with_reducible apply Sto.int | with_reducible apply Sto.there | with_reducible assumption | (unfold I64; omega) | (with_reducible (have hMx := Mem.undrew hM; exact hMx)) | (with_reducible (have hMx := Mem.undrew hMp; exact hMx))))
  clear hM
  intro wst hM
  (try simp only [World.size_alloc, World.size_setCell, World.heap_drewN, heapDrew, Nat.add_assoc, Nat.reduceAdd, List.setIfInBounds_toArray, List.set_cons_zero, List.set_cons_succ, List.cons_append, List.nil_append] at hM)
  refine (vBig_any a n cc _).mono ?_
  rintro e wc1 ⟨rfl, hb⟩
  replace hM := hM.ext hb
  clear hb
  by_cases hb : 65536 < n
  · go_wp2
    go_ret
    exact ⟨rfl, (by apply Mem.below; (repeat' (first | with_reducible exact hM | with_reducible exact hMp | with_reducible apply Mem.drew | with_reducible apply Mem.drewN | with_reducible apply Mem.alloc | with_reducible apply Mem.set | with_reducible exact Sto.row | ((with_reducible refine Sto.rowEq2 ?_ ?_); omega; rfl) | ((with_reducible refine Sto.rowEq ?_); omega) | with_reducible apply Sto.int | with_reducible apply Sto.there | with_reducible assumption | (unfold I64; omega) | (with_reducible (have hMx := Mem.undrew hM; exact hMx)) | (with_reducible (have hMx := Mem.undrew hMp; exact hMx)))))⟩
  have HC := Lib.hid (HI.out (by omega))
  clear HI
  go_wp2_with fail
  apply Mem.atA
  · (repeat' (first | with_reducible exact hM | with_reducible exact hMp | with_reducible apply Mem.drew | with_reducible apply Mem.drewN | with_reducible apply Mem.alloc | with_reducible apply Mem.set | with_reducible exact Sto.row | ((with_reducible refine Sto.rowEq2 ?_ ?_); omega; rfl) | ((with_reducible refine Sto.rowEq ?_); omega) | with_reducible apply Sto.int | with_reducible apply Sto.there | with_reducible assumption | (unfold I64; omega) | (with_reducible (have hMx := Mem.undrew hM; exact hMx)) | (with_reducible (have hMx := Mem.undrew hMp; exact hMx))))
  clear hM
  intro wst hM
  (try simp only [World.size_alloc, World.size_setCell, World.heap_drewN, heapDrew, Nat.add_assoc, Nat.reduceAdd, List.setIfInBounds_toArray, List.set_cons_zero, List.set_cons_succ, List.cons_append, List.nil_append] at hM)
  refine (drawSmk_add (HC.out.ext hM.below)).mono ?_
  rintro e w1 ⟨W, H, a1, c1, xs, a2, c2, ys, p, hS, hp, rfl, hm⟩
  replace hM := hM.join hm
  clear hm
  (try simp only [World.size_alloc, World.size_setCell, World.heap_drewN, heapDrew, Nat.add_assoc, Nat.reduceAdd, List.setIfInBounds_toArray, List.set_cons_zero, List.set_cons_succ, List.cons_append, List.nil_append] at hM)
  clear hS
  have hpI : I64 p := by unfold I64; omega
  obtain ⟨⟨⟨gW, gH, zs⟩, v1⟩, hq0⟩ : ∃ r, addR W H xs ys p = r := ⟨_, rfl⟩
  have HQ0 := Lib.hid hq0; clear hq0
  have hbb1 : (v1 != v1) = false := by cases v1 <;> rfl
  go_wp2_with fail
  apply Mem.atA
  · (repeat' (first | with_reducible exact hM | with_reducible exact hMp | with_reducible apply Mem.drew | with_reducible apply Mem.drewN | with_reducible apply Mem.alloc | with_reducible apply Mem.set | with_reducible exact Sto.row | ((with_reducible refine Sto.rowEq2 ?_ ?_); omega; rfl) | ((with_reducible refine Sto.rowEq ?_); omega) | with_reducible apply Sto.int | with_reducible apply Sto.there | with_reducible assumption | (unfold I64; omega) | (with_reducible (have hMx := Mem.undrew hM; exact hMx)) | (with_reducible (have hMx := Mem.undrew hMp; exact hMx))))
  clear hM
  intro wst hM
  (try simp only [World.size_alloc, World.size_setCell, World.heap_drewN, heapDrew, Nat.add_assoc, Nat.reduceAdd, List.setIfInBounds_toArray, List.set_cons_zero, List.set_cons_succ, List.cons_append, List.nil_append] at hM)
  refine (implAdd_any W H _ _ _ xs _ _ _ ys p _ (hM.intsR (.there (.there .here))) (hM.intsR (.there .here)) hpI).mono ?_
  rw [HQ0.out]
  rintro e w3 ⟨a3, n3, c3, rfl, hO, hb⟩
  replace hM := hM.own hb hO
  clear hb hO
  dsimp only at hM ⊢
  obtain ⟨k1, f1, l1⟩ := hM.row (.there .here)
  go_wp2_with fail
  clear k1 f1 l1
  apply Mem.atA
  · (repeat' (first | with_reducible exact hM | with_reducible exact hMp | with_reducible apply Mem.drew | with_reducible apply Mem.drewN | with_reducible apply Mem.alloc | with_reducible apply Mem.set | with_reducible exact Sto.row | ((with_reducible refine Sto.rowEq2 ?_ ?_); omega; rfl) | ((with_reducible refine Sto.rowEq ?_); omega) | with_reducible apply Sto.int | with_reducible apply Sto.there | with_reducible assumption | (unfold I64; omega) | (with_reducible (have hMx := Mem.undrew hM; exact hMx)) | (with_reducible (have hMx := Mem.undrew hMp; exact hMx))))
  clear hM
  intro wst hM
  (try simp only [World.size_alloc, World.size_setCell, World.heap_drewN, heapDrew, Nat.add_assoc, Nat.reduceAdd, List.setIfInBounds_toArray, List.set_cons_zero, List.set_cons_succ, List.cons_append, List.nil_append] at hM)
  refine (specAdd_any W H _ _ _ xs _ _ _ ys p _ (hM.intsR (.there (.there (.there (.there .here))))) (hM.intsR (.there (.there (.there .here)))) hpI).mono ?_
  rw [HQ0.out]
  rintro e w4 ⟨a4, n4, c4, rfl, hO, hb⟩
  replace hM := hM.own hb hO
  clear hb hO
  dsimp only at hM ⊢
  obtain ⟨k1, f1, l1⟩ := hM.row (.there .here)
  go_wp2_with fail
  clear k1 f1 l1
  apply Mem.atA
  · (repeat' (first | with_reducible exact hM | with_reducible exact hMp | with_reducible apply Mem.drew | with_reducible apply Mem.drewN | with_reducible apply Mem.alloc | with_reducible apply Mem.set | with_reducible exact Sto.row | ((with_reducible refine Sto.rowEq2 ?_ ?_); omega; rfl) | ((with_reducible refine Sto.rowEq ?_); omega) | with_reducible apply Sto.int | with_reducible apply Sto.there | with_reducible assumption | (unfold I64; omega) | (with_reducible (have hMx := Mem.undrew hM; exact hMx)) | (with_reducible (have hMx := Mem.undrew hMp; exact hMx))))
  clear hM
  intro wst hM
  (try simp only [World.size_alloc, World.size_setCell, World.heap_drewN, heapDrew, Nat.add_assoc, Nat.reduceAdd, List.setIfInBounds_toArray, List.set_cons_zero, List.set_cons_succ, List.cons_append, List.nil_append] at hM)
  refine (vSmoke_same gW gH _ _ _ zs _ _ _ _ (hM.intsR (.there (.there (.there .here)))) (hM.intsR (.there .here))).mono ?_
  rintro e wc5 ⟨rfl, hb⟩
  replace hM := hM.ext hb
  clear hb
  go_upto_if 71 with fail
  go_cut [] (fun wx => Mem w.heap.size w wx [])
  case first =>
    as_aux_lemma =>
      cases v1
      · go_wp2_with fail
        go_meet
        exact hM.sub (by simp)
      obtain ⟨hg1, e1, e2, hg2, hsum, ⟨p0, p1⟩, hc25, hwi⟩ := addR_ok HQ0.out
      dsimp only at e1 e2 hg2 hsum hwi
      subst e1 e2
      have HT1 := Lib.hid (show totR gW gH xs = (xs.sum, true) by rw [totR, hg1]; rfl)
      have HT2 := Lib.hid (show totR gW gH zs = (zs.sum, true) by rw [totR, hg2]; rfl)
      have HTH := Lib.hid (show thickR gW gH zs (p - 1) = (thickT zs (p - 1) zs.length, true) by rw [thickR, hg2]; rfl)
      have HWI := Lib.hid hwi
      have hb1 := good_250 hg1
      have hb2 := good_250 hg2
      have hD0 := Int.mul_nonneg (show (0 : Int) ≤ (ys.length : Int) by omega) (show (0 : Int) ≤ p by omega)
      clear HQ0 hg1 hg2 hbb1 hwi
      generalize xs.sum = T at hsum HT1 hb1
      generalize zs.sum = S at hsum HT2 hb2
      obtain ⟨D, hD⟩ : ∃ D, (ys.length : Int) * p = D := ⟨_, rfl⟩
      rw [hD] at hsum hD0
      have hw1 : IntKind.i64.wrap (S - T) = D := by rw [wrap_in (by omega)]; omega
      have hw2 : IntKind.i64.wrap ((ys.length : Int) * p) = D := by rw [hD]; exact wrap_in (by omega)
      have hw3 : IntKind.i64.wrap (p - 1) = p - 1 := wrap_in (by omega)
      have hDD : (D != D) = false := by simp
      clear hD hsum
      obtain ⟨k4, f4, l4⟩ := hM.row (.there (.there (.there (.there .here))))
      go_wp2_with fail
      clear k4 f4 l4
      apply Mem.atA
      · (repeat' (first | with_reducible exact hM | with_reducible exact hMp | with_reducible apply Mem.drew | with_reducible apply Mem.drewN | with_reducible apply Mem.alloc | with_reducible apply Mem.set | with_reducible exact Sto.row | ((with_reducible refine Sto.rowEq2 ?_ ?_); omega; rfl) | ((with_reducible refine Sto.rowEq ?_); omega) | with_reducible apply Sto.int | with_reducible apply Sto.there | with_reducible assumption | (unfold I64; omega) | (with_reducible (have hMx := Mem.undrew hM; exact hMx)) | (with_reducible (have hMx := Mem.undrew hMp; exact hMx))))
      clear hM
      intro wst hM
      (try simp only [World.size_alloc, World.size_setCell, World.heap_drewN, heapDrew, Nat.add_assoc, Nat.reduceAdd, List.setIfInBounds_toArray, List.set_cons_zero, List.set_cons_succ, List.cons_append, List.nil_append] at hM)
      refine (implTotal_any _ _ _ _ _ xs _ (hM.intsR (.there (.there (.there (.there (.there (.there .here)))))))).mono ?_
      rw [HT1.out]
      rintro e wc6 ⟨rfl, hb⟩
      replace hM := hM.ext hb
      clear hb
      dsimp only
      obtain ⟨k2, f2, l2⟩ := hM.row (.there (.there .here))
      go_wp2_with fail
      clear k2 f2 l2
      apply Mem.atA
      · (repeat' (first | with_reducible exact hM | with_reducible exact hMp | with_reducible apply Mem.drew | with_reducible apply Mem.drewN | with_reducible apply Mem.alloc | with_reducible apply Mem.set | with_reducible exact Sto.row | ((with_reducible refine Sto.rowEq2 ?_ ?_); omega; rfl) | ((with_reducible refine Sto.rowEq ?_); omega) | with_reducible apply Sto.int | with_reducible apply Sto.there | with_reducible assumption | (unfold I64; omega) | (with_reducible (have hMx := Mem.undrew hM; exact hMx)) | (with_reducible (have hMx := Mem.undrew hMp; exact hMx))))
      clear hM
      intro wst hM
      (try simp only [World.size_alloc, World.size_setCell, World.heap_drewN, heapDrew, Nat.add_assoc, Nat.reduceAdd, List.setIfInBounds_toArray, List.set_cons_zero, List.set_cons_succ, List.cons_append, List.nil_append] at hM)
      refine (implTotal_any _ _ _ _ _ zs _ (hM.intsR (.there (.there (.there .here))))).mono ?_
      rw [HT2.out]
      rintro e wc7 ⟨rfl, hb⟩
      replace hM := hM.ext hb
      clear hb
      dsimp only
      obtain ⟨k2, f2, l2⟩ := hM.row (.there (.there .here))
      go_wp2_with fail
      clear k2 f2 l2
      apply Mem.atA
      · (repeat' (first | with_reducible exact hM | with_reducible exact hMp | with_reducible apply Mem.drew | with_reducible apply Mem.drewN | with_reducible apply Mem.alloc | with_reducible apply Mem.set | with_reducible exact Sto.row | ((with_reducible refine Sto.rowEq2 ?_ ?_); omega; rfl) | ((with_reducible refine Sto.rowEq ?_); omega) | with_reducible apply Sto.int | with_reducible apply Sto.there | with_reducible assumption | (unfold I64; omega) | (with_reducible (have hMx := Mem.undrew hM; exact hMx)) | (with_reducible (have hMx := Mem.undrew hMp; exact hMx))))
      clear hM
      intro wst hM
      (try simp only [World.size_alloc, World.size_setCell, World.heap_drewN, heapDrew, Nat.add_assoc, Nat.reduceAdd, List.setIfInBounds_toArray, List.set_cons_zero, List.set_cons_succ, List.cons_append, List.nil_append] at hM)
      refine (implThick_any _ _ _ _ _ zs (p - 1) _ (hM.intsR (.there (.there (.there .here))))).mono ?_
      rw [HTH.out]
      rintro e w8 ⟨a8, n8, c8, rfl, hm⟩
      replace hM := hM.join hm
      clear hm
      (try simp only [World.size_alloc, World.size_setCell, World.heap_drewN, heapDrew, Nat.add_assoc, Nat.reduceAdd, List.setIfInBounds_toArray, List.set_cons_zero, List.set_cons_succ, List.cons_append, List.nil_append] at hM)
      dsimp only at hM ⊢
      go_wp2_with fail
      apply Mem.atA
      · (repeat' (first | with_reducible exact hM | with_reducible exact hMp | with_reducible apply Mem.drew | with_reducible apply Mem.drewN | with_reducible apply Mem.alloc | with_reducible apply Mem.set | with_reducible exact Sto.row | ((with_reducible refine Sto.rowEq2 ?_ ?_); omega; rfl) | ((with_reducible refine Sto.rowEq ?_); omega) | with_reducible apply Sto.int | with_reducible apply Sto.there | with_reducible assumption | (unfold I64; omega) | (with_reducible (have hMx := Mem.undrew hM; exact hMx)) | (with_reducible (have hMx := Mem.undrew hMp; exact hMx))))
      clear hM
      intro wst hM
      (try simp only [World.size_alloc, World.size_setCell, World.heap_drewN, heapDrew, Nat.add_assoc, Nat.reduceAdd, List.setIfInBounds_toArray, List.set_cons_zero, List.set_cons_succ, List.cons_append, List.nil_append] at hM)
      refine (vWithin_any _ _ _ ys _ _ _ (thickT zs (p - 1) zs.length) _ (hM.intsR (.there (.there (.there (.there (.there (.there .here))))))) (hM.intsR .here)).mono ?_
      rw [HWI.out]
      rintro e wc9 ⟨rfl, rfl⟩
      go_wp2_with fail
      go_meet
      exact hM.sub (by simp)
  case rest =>
    as_aux_lemma =>
      clear hM HQ0 hbb1 hpI hp
      have hM := hcut
      clear hcut
      go_wp2_with fail
      apply Mem.atA
      · (repeat' (first | with_reducible exact hM | with_reducible exact hMp | with_reducible apply Mem.drew | with_reducible apply Mem.drewN | with_reducible apply Mem.alloc | with_reducible apply Mem.set | with_reducible exact Sto.row | ((with_reducible refine Sto.rowEq2 ?_ ?_); omega; rfl) | ((with_reducible refine Sto.rowEq ?_); omega) | with_reducible apply Sto.int | with_reducible apply Sto.there | with_reducible assumption | (unfold I64; omega) | (with_reducible (have hMx := Mem.undrew hM; exact hMx)) | (with_reducible (have hMx := Mem.undrew hMp; exact hMx))))
      clear hM
      intro wst hM
      (try simp only [World.size_alloc, World.size_setCell, World.heap_drewN, heapDrew, Nat.add_assoc, Nat.reduceAdd, List.setIfInBounds_toArray, List.set_cons_zero, List.set_cons_succ, List.cons_append, List.nil_append] at hM)
      refine (drawSmk_thick (HC.out.ext hM.below)).mono ?_
      rintro e w5 ⟨W2, H2, a5, c5, us, m, hS, hm2, rfl, hm⟩
      replace hM := hM.join hm
      clear hm
      (try simp only [World.size_alloc, World.size_setCell, World.heap_drewN, heapDrew, Nat.add_assoc, Nat.reduceAdd, List.setIfInBounds_toArray, List.set_cons_zero, List.set_cons_succ, List.cons_append, List.nil_append] at hM)
      clear hS
      obtain ⟨⟨th, v2⟩, hq1⟩ : ∃ r, thickR W2 H2 us m = r := ⟨_, rfl⟩
      have HQ1 := Lib.hid hq1; clear hq1
      have hbb2 : (v2 != v2) = false := by cases v2 <;> rfl
      go_wp2_with fail
      apply Mem.atA
      · (repeat' (first | with_reducible exact hM | with_reducible exact hMp | with_reducible apply Mem.drew | with_reducible apply Mem.drewN | with_reducible apply Mem.alloc | with_reducible apply Mem.set | with_reducible exact Sto.row | ((with_reducible refine Sto.rowEq2 ?_ ?_); omega; rfl) | ((with_reducible refine Sto.rowEq ?_); omega) | with_reducible apply Sto.int | with_reducible apply Sto.there | with_reducible assumption | (unfold I64; omega) | (with_reducible (have hMx := Mem.undrew hM; exact hMx)) | (with_reducible (have hMx := Mem.undrew hMp; exact hMx))))
      clear hM
      intro wst hM
      (try simp only [World.size_alloc, World.size_setCell, World.heap_drewN, heapDrew, Nat.add_assoc, Nat.reduceAdd, List.setIfInBounds_toArray, List.set_cons_zero, List.set_cons_succ, List.cons_append, List.nil_append] at hM)
      refine (implThick_any W2 H2 _ _ _ us m _ (hM.intsR (.there .here))).mono ?_
      rw [HQ1.out]
      rintro e w6 ⟨a6, n6, c6, rfl, hm⟩
      replace hM := hM.join hm
      clear hm
      (try simp only [World.size_alloc, World.size_setCell, World.heap_drewN, heapDrew, Nat.add_assoc, Nat.reduceAdd, List.setIfInBounds_toArray, List.set_cons_zero, List.set_cons_succ, List.cons_append, List.nil_append] at hM)
      dsimp only at hM ⊢
      obtain ⟨k1, f1, l1⟩ := hM.row (.there .here)
      go_wp2_with fail
      clear k1 f1 l1
      apply Mem.atA
      · (repeat' (first | with_reducible exact hM | with_reducible exact hMp | with_reducible apply Mem.drew | with_reducible apply Mem.drewN | with_reducible apply Mem.alloc | with_reducible apply Mem.set | with_reducible exact Sto.row | ((with_reducible refine Sto.rowEq2 ?_ ?_); omega; rfl) | ((with_reducible refine Sto.rowEq ?_); omega) | with_reducible apply Sto.int | with_reducible apply Sto.there | with_reducible assumption | (unfold I64; omega) | (with_reducible (have hMx := Mem.undrew hM; exact hMx)) | (with_reducible (have hMx := Mem.undrew hMp; exact hMx))))
      clear hM
      intro wst hM
      (try simp only [World.size_alloc, World.size_setCell, World.heap_drewN, heapDrew, Nat.add_assoc, Nat.reduceAdd, List.setIfInBounds_toArray, List.set_cons_zero, List.set_cons_succ, List.cons_append, List.nil_append] at hM)
      refine (specThick_any W2 H2 _ _ _ us m _ (hM.intsR (.there (.there .here)))).mono ?_
      rw [HQ1.out]
      rintro e w7 ⟨a7, n7, c7, rfl, hm⟩
      replace hM := hM.join hm
      clear hm
      (try simp only [World.size_alloc, World.size_setCell, World.heap_drewN, heapDrew, Nat.add_assoc, Nat.reduceAdd, List.setIfInBounds_toArray, List.set_cons_zero, List.set_cons_succ, List.cons_append, List.nil_append] at hM)
      dsimp only at hM ⊢
      go_wp2_with fail
      apply Mem.atA
      · (repeat' (first | with_reducible exact hM | with_reducible exact hMp | with_reducible apply Mem.drew | with_reducible apply Mem.drewN | with_reducible apply Mem.alloc | with_reducible apply Mem.set | with_reducible exact Sto.row | ((with_reducible refine Sto.rowEq2 ?_ ?_); omega; rfl) | ((with_reducible refine Sto.rowEq ?_); omega) | with_reducible apply Sto.int | with_reducible apply Sto.there | with_reducible assumption | (unfold I64; omega) | (with_reducible (have hMx := Mem.undrew hM; exact hMx)) | (with_reducible (have hMx := Mem.undrew hMp; exact hMx))))
      clear hM
      intro wst hM
      (try simp only [World.size_alloc, World.size_setCell, World.heap_drewN, heapDrew, Nat.add_assoc, Nat.reduceAdd, List.setIfInBounds_toArray, List.set_cons_zero, List.set_cons_succ, List.cons_append, List.nil_append] at hM)
      refine (vInts_same _ _ _ th _ _ _ _ (hM.intsR (.there .here)) (hM.intsR .here)).mono ?_
      rintro e wc13 ⟨rfl, hb⟩
      replace hM := hM.ext hb
      clear hb
      go_upto_if 141 with fail
      go_cut [] (fun wx => Mem w.heap.size w wx [])
      case first =>
        as_aux_lemma =>
          cases v2
          · go_wp2_with fail
            go_meet
            exact hM.sub (by simp)
          obtain ⟨hg1, rfl⟩ := thickR_ok HQ1.out
          have HT1 := Lib.hid (show thickR W2 H2 us (m + 1) = (thickT us (m + 1) us.length, true) by rw [thickR, hg1]; rfl)
          have hw3 : IntKind.i64.wrap (m + 1) = m + 1 := wrap_in (by omega)
          clear HQ1 hg1 hbb2
          obtain ⟨k2, f2, l2⟩ := hM.row (.there (.there .here))
          go_wp2_with fail
          clear k2 f2 l2
          apply Mem.atA
          · (repeat' (first | with_reducible exact hM | with_reducible exact hMp | with_reducible apply Mem.drew | with_reducible apply Mem.drewN | with_reducible apply Mem.alloc | with_reducible apply Mem.set | with_reducible exact Sto.row | ((with_reducible refine Sto.rowEq2 ?_ ?_); omega; rfl) | ((with_reducible refine Sto.rowEq ?_); omega) | with_reducible apply Sto.int | with_reducible apply Sto.there | with_reducible assumption | (unfold I64; omega) | (with_reducible (have hMx := Mem.undrew hM; exact hMx)) | (with_reducible (have hMx := Mem.undrew hMp; exact hMx))))
          clear hM
          intro wst hM
          (try simp only [World.size_alloc, World.size_setCell, World.heap_drewN, heapDrew, Nat.add_assoc, Nat.reduceAdd, List.setIfInBounds_toArray, List.set_cons_zero, List.set_cons_succ, List.cons_append, List.nil_append] at hM)
          refine (implThick_any _ _ _ _ _ us (m + 1) _ (hM.intsR (.there (.there (.there .here))))).mono ?_
          rw [HT1.out]
          rintro e w8 ⟨a8, n8, c8, rfl, hm⟩
          replace hM := hM.join hm
          clear hm
          (try simp only [World.size_alloc, World.size_setCell, World.heap_drewN, heapDrew, Nat.add_assoc, Nat.reduceAdd, List.setIfInBounds_toArray, List.set_cons_zero, List.set_cons_succ, List.cons_append, List.nil_append] at hM)
          dsimp only at hM ⊢
          go_wp2_with fail
          apply Mem.atA
          · (repeat' (first | with_reducible exact hM | with_reducible exact hMp | with_reducible apply Mem.drew | with_reducible apply Mem.drewN | with_reducible apply Mem.alloc | with_reducible apply Mem.set | with_reducible exact Sto.row | ((with_reducible refine Sto.rowEq2 ?_ ?_); omega; rfl) | ((with_reducible refine Sto.rowEq ?_); omega) | with_reducible apply Sto.int | with_reducible apply Sto.there | with_reducible assumption | (unfold I64; omega) | (with_reducible (have hMx := Mem.undrew hM; exact hMx)) | (with_reducible (have hMx := Mem.undrew hMp; exact hMx))))
          clear hM
          intro wst hM
          (try simp only [World.size_alloc, World.size_setCell, World.heap_drewN, heapDrew, Nat.add_assoc, Nat.reduceAdd, List.setIfInBounds_toArray, List.set_cons_zero, List.set_cons_succ, List.cons_append, List.nil_append] at hM)
          refine (vWithin_any _ _ _ (thickT us (m + 1) us.length) _ _ _ (thickT us m us.length) _ (hM.intsR .here) (hM.intsR (.there (.there .here)))).mono ?_
          rw [thick_less]
          rintro e wc15 ⟨rfl, rfl⟩
          go_wp2_with fail
          go_meet
          exact hM.sub (by simp)
      case rest =>
        as_aux_lemma =>
          clear hM HQ1 hbb2 hm2
          have hM := hcut
          clear hcut
          go_wp2_with fail
          apply Mem.atA
          · (repeat' (first | with_reducible exact hM | with_reducible exact hMp | with_reducible apply Mem.drew | with_reducible apply Mem.drewN | with_reducible apply Mem.alloc | with_reducible apply Mem.set | with_reducible exact Sto.row | ((with_reducible refine Sto.rowEq2 ?_ ?_); omega; rfl) | ((with_reducible refine Sto.rowEq ?_); omega) | with_reducible apply Sto.int | with_reducible apply Sto.there | with_reducible assumption | (unfold I64; omega) | (with_reducible (have hMx := Mem.undrew hM; exact hMx)) | (with_reducible (have hMx := Mem.undrew hMp; exact hMx))))
          clear hM
          intro wst hM
          (try simp only [World.size_alloc, World.size_setCell, World.heap_drewN, heapDrew, Nat.add_assoc, Nat.reduceAdd, List.setIfInBounds_toArray, List.set_cons_zero, List.set_cons_succ, List.cons_append, List.nil_append] at hM)
          refine (drawSmk_center (HC.out.ext hM.below)).mono ?_
          rintro e w9 ⟨W3, H3, a9, c9, vs, hS, rfl, hm⟩
          replace hM := hM.join hm
          clear hm
          (try simp only [World.size_alloc, World.size_setCell, World.heap_drewN, heapDrew, Nat.add_assoc, Nat.reduceAdd, List.setIfInBounds_toArray, List.set_cons_zero, List.set_cons_succ, List.cons_append, List.nil_append] at hM)
          obtain ⟨⟨A, B, T, v3⟩, hq2⟩ : ∃ r, cenR W3 H3 vs = r := ⟨_, rfl⟩
          have HQ2 := Lib.hid hq2; clear hq2
          have hbb3 : (v3 != v3) = false := by cases v3 <;> rfl
          have hA : (A != A) = false := by simp
          have hB : (B != B) = false := by simp
          have hT : (T != T) = false := by simp
          go_wp2_with fail
          apply Mem.atA
          · (repeat' (first | with_reducible exact hM | with_reducible exact hMp | with_reducible apply Mem.drew | with_reducible apply Mem.drewN | with_reducible apply Mem.alloc | with_reducible apply Mem.set | with_reducible exact Sto.row | ((with_reducible refine Sto.rowEq2 ?_ ?_); omega; rfl) | ((with_reducible refine Sto.rowEq ?_); omega) | with_reducible apply Sto.int | with_reducible apply Sto.there | with_reducible assumption | (unfold I64; omega) | (with_reducible (have hMx := Mem.undrew hM; exact hMx)) | (with_reducible (have hMx := Mem.undrew hMp; exact hMx))))
          clear hM
          intro wst hM
          (try simp only [World.size_alloc, World.size_setCell, World.heap_drewN, heapDrew, Nat.add_assoc, Nat.reduceAdd, List.setIfInBounds_toArray, List.set_cons_zero, List.set_cons_succ, List.cons_append, List.nil_append] at hM)
          refine (implCen_any W3 H3 _ _ _ vs _ (hM.intsR (.there .here))).mono ?_
          rw [HQ2.out]
          rintro e wc17 ⟨rfl, hb⟩
          replace hM := hM.ext hb
          clear hb
          dsimp only
          obtain ⟨k0, f0, l0⟩ := hM.row .here
          go_wp2_with fail
          clear k0 f0 l0
          apply Mem.atA
          · (repeat' (first | with_reducible exact hM | with_reducible exact hMp | with_reducible apply Mem.drew | with_reducible apply Mem.drewN | with_reducible apply Mem.alloc | with_reducible apply Mem.set | with_reducible exact Sto.row | ((with_reducible refine Sto.rowEq2 ?_ ?_); omega; rfl) | ((with_reducible refine Sto.rowEq ?_); omega) | with_reducible apply Sto.int | with_reducible apply Sto.there | with_reducible assumption | (unfold I64; omega) | (with_reducible (have hMx := Mem.undrew hM; exact hMx)) | (with_reducible (have hMx := Mem.undrew hMp; exact hMx))))
          clear hM
          intro wst hM
          (try simp only [World.size_alloc, World.size_setCell, World.heap_drewN, heapDrew, Nat.add_assoc, Nat.reduceAdd, List.setIfInBounds_toArray, List.set_cons_zero, List.set_cons_succ, List.cons_append, List.nil_append] at hM)
          refine (specCen_any W3 H3 _ _ _ vs _ (hM.intsR (.there .here))).mono ?_
          rw [HQ2.out]
          rintro e wc18 ⟨rfl, hb⟩
          replace hM := hM.ext hb
          clear hb
          dsimp only
          go_upto_region 26 with fail
          go_cut [219] (fun s219 wx => s219 = .bool false ∧ Mem w.heap.size w wx [])
          case first =>
            as_aux_lemma =>
              cases v3
              · go_wp2_with fail
                go_meet
                exact ⟨rfl, hM.sub (by simp)⟩
              obtain ⟨q1, q2, q3, q4, q5, q6, q7, q8, q9, q10⟩ := cenR_ok HQ2.out
              have m1 := mul_bound (a := 250000) (b := 4) q5 q6 (show 0 ≤ W3 - 1 by omega) (by omega)
              have m2 := mul_bound (a := 250000) (b := 4) q5 q6 (show 0 ≤ H3 - 1 by omega) (by omega)
              clear HQ2 hS hbb3
              obtain ⟨D1, hD1⟩ : ∃ D, T * (W3 - 1) = D := ⟨_, rfl⟩
              obtain ⟨D2, hD2⟩ : ∃ D, T * (H3 - 1) = D := ⟨_, rfl⟩
              rw [hD1] at q2 m1
              rw [hD2] at q4 m2
              have hw1 : IntKind.i64.wrap (W3 - 1) = W3 - 1 := wrap_in (by omega)
              have hw2 : IntKind.i64.wrap (H3 - 1) = H3 - 1 := wrap_in (by omega)
              have hw3 : IntKind.i64.wrap (T * (W3 - 1)) = D1 := by rw [hD1]; exact wrap_in (by omega)
              have hw4 : IntKind.i64.wrap (T * (H3 - 1)) = D2 := by rw [hD2]; exact wrap_in (by omega)
              have n1 : ¬ A < 0 := by omega
              have n2 : ¬ D1 < A := by omega
              have n3 : ¬ B < 0 := by omega
              have n4 : ¬ D2 < B := by omega
              clear hD1 hD2
              obtain ⟨k0, f0, l0⟩ := hM.row .here
              go_wp2_with fail
              go_meet
              exact ⟨rfl, hM.sub (by simp)⟩
          case rest =>
            clear hM HQ2 hbb3 hA hB hT hS
            obtain ⟨rfl, hM⟩ := hcut
            go_wp2_with fail
            apply Mem.atA
            · (repeat' (first | with_reducible exact hM | with_reducible exact hMp | with_reducible apply Mem.drew | with_reducible apply Mem.drewN | with_reducible apply Mem.alloc | with_reducible apply Mem.set | with_reducible exact Sto.row | ((with_reducible refine Sto.rowEq2 ?_ ?_); omega; rfl) | ((with_reducible refine Sto.rowEq ?_); omega) | with_reducible apply Sto.int | with_reducible apply Sto.there | with_reducible assumption | (unfold I64; omega) | (with_reducible (have hMx := Mem.undrew hM; exact hMx)) | (with_reducible (have hMx := Mem.undrew hMp; exact hMx))))
            clear hM
            intro wst hM
            (try simp only [World.size_alloc, World.size_setCell, World.heap_drewN, heapDrew, Nat.add_assoc, Nat.reduceAdd, List.setIfInBounds_toArray, List.set_cons_zero, List.set_cons_succ, List.cons_append, List.nil_append] at hM)
            refine (drawSmk_from (HC.out.ext hM.below)).mono ?_
            rintro e w10 ⟨W4, H4, a10, c10, ts, v, x, hS, hV, hx, rfl, hm⟩
            replace hM := hM.join hm
            clear hm
            (try simp only [World.size_alloc, World.size_setCell, World.heap_drewN, heapDrew, Nat.add_assoc, Nat.reduceAdd, List.setIfInBounds_toArray, List.set_cons_zero, List.set_cons_succ, List.cons_append, List.nil_append] at hM)
            clear hS hV hx
            obtain ⟨e, s, q⟩ := v
            obtain ⟨⟨fl, v4⟩, hq3⟩ : ∃ r, fromR W4 H4 e s q ts x = r := ⟨_, rfl⟩
            have HQ3 := Lib.hid hq3; clear hq3
            have hbb4 : (v4 == v4) = true := by cases v4 <;> rfl
            go_wp2_with fail
            apply Mem.atA
            · (repeat' (first | with_reducible exact hM | with_reducible exact hMp | with_reducible apply Mem.drew | with_reducible apply Mem.drewN | with_reducible apply Mem.alloc | with_reducible apply Mem.set | with_reducible exact Sto.row | ((with_reducible refine Sto.rowEq2 ?_ ?_); omega; rfl) | ((with_reducible refine Sto.rowEq ?_); omega) | with_reducible apply Sto.int | with_reducible apply Sto.there | with_reducible assumption | (unfold I64; omega) | (with_reducible (have hMx := Mem.undrew hM; exact hMx)) | (with_reducible (have hMx := Mem.undrew hMp; exact hMx))))
            clear hM
            intro wst hM
            (try simp only [World.size_alloc, World.size_setCell, World.heap_drewN, heapDrew, Nat.add_assoc, Nat.reduceAdd, List.setIfInBounds_toArray, List.set_cons_zero, List.set_cons_succ, List.cons_append, List.nil_append] at hM)
            refine (implFrom_any W4 H4 _ _ _ ts e s q x _ (hM.intsR (.there (.there .here)))).mono ?_
            rw [HQ3.out]
            rintro e w11 ⟨a11, n11, c11, rfl, hm⟩
            replace hM := hM.join hm
            clear hm
            (try simp only [World.size_alloc, World.size_setCell, World.heap_drewN, heapDrew, Nat.add_assoc, Nat.reduceAdd, List.setIfInBounds_toArray, List.set_cons_zero, List.set_cons_succ, List.cons_append, List.nil_append] at hM)
            dsimp only at hM ⊢
            obtain ⟨k1, f1, l1⟩ := hM.row (.there .here)
            obtain ⟨k2, f2, l2⟩ := hM.row (.there (.there .here))
            go_wp2_with fail
            clear k1 f1 l1 k2 f2 l2
            apply Mem.atA
            · (repeat' (first | with_reducible exact hM | with_reducible exact hMp | with_reducible apply Mem.drew | with_reducible apply Mem.drewN | with_reducible apply Mem.alloc | with_reducible apply Mem.set | with_reducible exact Sto.row | ((with_reducible refine Sto.rowEq2 ?_ ?_); omega; rfl) | ((with_reducible refine Sto.rowEq ?_); omega) | with_reducible apply Sto.int | with_reducible apply Sto.there | with_reducible assumption | (unfold I64; omega) | (with_reducible (have hMx := Mem.undrew hM; exact hMx)) | (with_reducible (have hMx := Mem.undrew hMp; exact hMx))))
            clear hM
            intro wst hM
            (try simp only [World.size_alloc, World.size_setCell, World.heap_drewN, heapDrew, Nat.add_assoc, Nat.reduceAdd, List.setIfInBounds_toArray, List.set_cons_zero, List.set_cons_succ, List.cons_append, List.nil_append] at hM)
            refine (specFrom_any W4 H4 _ _ _ ts e s q x _ (hM.intsR (.there (.there (.there .here))))).mono ?_
            rw [HQ3.out]
            rintro e w12 ⟨a12, n12, c12, rfl, hm⟩
            replace hM := hM.join hm
            clear hm
            (try simp only [World.size_alloc, World.size_setCell, World.heap_drewN, heapDrew, Nat.add_assoc, Nat.reduceAdd, List.setIfInBounds_toArray, List.set_cons_zero, List.set_cons_succ, List.cons_append, List.nil_append] at hM)
            dsimp only at hM ⊢
            go_wp2_with fail
            apply Mem.atA
            · (repeat' (first | with_reducible exact hM | with_reducible exact hMp | with_reducible apply Mem.drew | with_reducible apply Mem.drewN | with_reducible apply Mem.alloc | with_reducible apply Mem.set | with_reducible exact Sto.row | ((with_reducible refine Sto.rowEq2 ?_ ?_); omega; rfl) | ((with_reducible refine Sto.rowEq ?_); omega) | with_reducible apply Sto.int | with_reducible apply Sto.there | with_reducible assumption | (unfold I64; omega) | (with_reducible (have hMx := Mem.undrew hM; exact hMx)) | (with_reducible (have hMx := Mem.undrew hMp; exact hMx))))
            clear hM
            intro wst hM
            (try simp only [World.size_alloc, World.size_setCell, World.heap_drewN, heapDrew, Nat.add_assoc, Nat.reduceAdd, List.setIfInBounds_toArray, List.set_cons_zero, List.set_cons_succ, List.cons_append, List.nil_append] at hM)
            refine (vInts_same _ _ _ fl _ _ _ _ (hM.intsR (.there .here)) (hM.intsR .here)).mono ?_
            rintro e wc22 ⟨rfl, hb⟩
            replace hM := hM.ext hb
            clear hb
            go_wp2
            go_ret
            exact ⟨rfl, (by apply Mem.below; (repeat' (first | with_reducible exact hM | with_reducible exact hMp | with_reducible apply Mem.drew | with_reducible apply Mem.drewN | with_reducible apply Mem.alloc | with_reducible apply Mem.set | with_reducible exact Sto.row | ((with_reducible refine Sto.rowEq2 ?_ ?_); omega; rfl) | ((with_reducible refine Sto.rowEq ?_); omega) | with_reducible apply Sto.int | with_reducible apply Sto.there | with_reducible assumption | (unfold I64; omega) | (with_reducible (have hMx := Mem.undrew hM; exact hMx)) | (with_reducible (have hMx := Mem.undrew hMp; exact hMx)))))⟩
end Go.Proofs.Ytdhgkfmehegeoaa

/-
  The law FnIncidents, walked.
-/
import Derived.Test.YtkohfegajcmdbaaQIncQ
import Derived.Test.YtkohfegajcmdbaaQDrawInc2
import Derived.Test.YtkohfegajcmdbaaQRegF
import Derived.Deep.DeepCutAuto
/-
  The law FnIncidents, walked.
-/
namespace Go.Proofs.Ytkohfegajcmdbaa
set_option linter.unusedSimpArgs false
set_option linter.unusedVariables false
open Go.RowKit

theorem Mem.packInts {B : Nat} {w0 w : World} {G R : List Ent} {a : Option Addr} {n c : Nat} {xs : List Int} (h : Mem B w0 w G) (i : In G (packE R)) (j : In R (intE a n c xs)) : Ints w a n c xs := Own.ints ((h.ents _ i.mem).1 _ j.mem)
set_option maxRecDepth 100000 in
set_option maxHeartbeats 8000000 in
theorem FnIncidents_walk (a : Option Addr) (n cc : Nat) (l : List UInt8) (w : World) (hI : n ≤ maxLen ∧ (n ≤ 65536 → Rd FByt w a n cc l)) :
    Calls Try.prog 5 #[.slice a n cc] w fun e w' => e = .returned (.bool true) ∧ Below w.heap.size w w' := by
  have hM := Mem.start w
  have HI := Lib.hid hI.2
  clear hI
  go_enter Try.func5, Try.ntmps5
  go_wp2_with fail
  apply Mem.atA
  · (repeat' (first | with_reducible exact hM | with_reducible exact hMp | with_reducible apply Mem.drew | with_reducible apply Mem.drewN | with_reducible apply Mem.alloc | with_reducible apply Mem.set | with_reducible exact Sto.row | ((with_reducible refine Sto.rowEq2 ?_ ?_); omega; rfl) | ((with_reducible refine Sto.rowEq ?_); omega) | with_reducible apply Sto.int | with_reducible apply Sto.there | with_reducible assumption | (unfold I64; omega) | (with_reducible (have hMx := Mem.undrew hM; exact hMx)) | (with_reducible (have hMx := Mem.undrew hMp; exact hMx))))
  clear hM
  intro wst hM
  (try simp only [World.size_alloc, World.size_setCell, World.heap_drewN, heapDrew, Nat.add_assoc, Nat.reduceAdd, List.setIfInBounds_toArray, List.set_cons_zero, List.set_cons_succ, List.cons_append, List.nil_append] at hM)
  (first | refine (vBig_any a n cc _).mono ?_)
  rintro e wc1 ⟨rfl, hb⟩
  replace hM := hM.ext hb
  clear hb
  by_cases hb : 65536 < n
  · go_wp2
    go_ret
    exact ⟨rfl, (by apply Mem.below; (repeat' (first | with_reducible exact hM | with_reducible exact hMp | with_reducible apply Mem.drew | with_reducible apply Mem.drewN | with_reducible apply Mem.alloc | with_reducible apply Mem.set | with_reducible exact Sto.row | ((with_reducible refine Sto.rowEq2 ?_ ?_); omega; rfl) | ((with_reducible refine Sto.rowEq ?_); omega) | with_reducible apply Sto.int | with_reducible apply Sto.there | with_reducible assumption | (unfold I64; omega) | (with_reducible (have hMx := Mem.undrew hM; exact hMx)) | (with_reducible (have hMx := Mem.undrew hMp; exact hMx)))))⟩
  have HC := Lib.hid (HI.out (by omega))
  clear HI
  go_wp2_with fail
  apply Mem.atA
  · (repeat' (first | with_reducible exact hM | with_reducible exact hMp | with_reducible apply Mem.drew | with_reducible apply Mem.drewN | with_reducible apply Mem.alloc | with_reducible apply Mem.set | with_reducible exact Sto.row | ((with_reducible refine Sto.rowEq2 ?_ ?_); omega; rfl) | ((with_reducible refine Sto.rowEq ?_); omega) | with_reducible apply Sto.int | with_reducible apply Sto.there | with_reducible assumption | (unfold I64; omega) | (with_reducible (have hMx := Mem.undrew hM; exact hMx)) | (with_reducible (have hMx := Mem.undrew hMp; exact hMx))))
  clear hM
  intro wst hM
  (try simp only [World.size_alloc, World.size_setCell, World.heap_drewN, heapDrew, Nat.add_assoc, Nat.reduceAdd, List.setIfInBounds_toArray, List.set_cons_zero, List.set_cons_succ, List.cons_append, List.nil_append] at hM)
  (first | refine (drawInc_act (HC.out.ext hM.below)).mono ?_)
  rintro e w1 ⟨W, H, a1, c1, xs, a2, c2, fs, a3, c3, ws, t, v, rfl, hm⟩
  replace hM := hM.join hm
  clear hm
  (try simp only [World.size_alloc, World.size_setCell, World.heap_drewN, heapDrew, Nat.add_assoc, Nat.reduceAdd, List.setIfInBounds_toArray, List.set_cons_zero, List.set_cons_succ, List.cons_append, List.nil_append] at hM)
  obtain ⟨kd, cl⟩ := v
  obtain ⟨⟨⟨gW, gH, zs, gs, us, gt⟩, v1⟩, hq0⟩ : ∃ r, actIncR W H xs fs ws t kd cl = r := ⟨_, rfl⟩
  have HQ0 := Lib.hid hq0; clear hq0
  have hbb1 : (v1 != v1) = false := by cases v1 <;> rfl
  go_wp2_with fail
  apply Mem.atA
  · (repeat' (first | with_reducible exact hM | with_reducible exact hMp | with_reducible apply Mem.drew | with_reducible apply Mem.drewN | with_reducible apply Mem.alloc | with_reducible apply Mem.set | with_reducible exact Sto.row | ((with_reducible refine Sto.rowEq2 ?_ ?_); omega; rfl) | ((with_reducible refine Sto.rowEq ?_); omega) | with_reducible apply Sto.int | with_reducible apply Sto.there | with_reducible assumption | (unfold I64; omega) | (with_reducible (have hMx := Mem.undrew hM; exact hMx)) | (with_reducible (have hMx := Mem.undrew hMp; exact hMx))))
  clear hM
  intro wst hM
  (try simp only [World.size_alloc, World.size_setCell, World.heap_drewN, heapDrew, Nat.add_assoc, Nat.reduceAdd, List.setIfInBounds_toArray, List.set_cons_zero, List.set_cons_succ, List.cons_append, List.nil_append] at hM)
  (first | refine (implAct_any W H a1 xs.length c1 xs a2 fs.length c2 fs a3 ws.length c3 ws t kd cl _ (hM.intsR (.there (.there .here))) (hM.intsR (.there (.there (.there .here)))) (hM.intsR (.there (.there (.there (.there .here)))))).mono ?_)
  rw [HQ0.out]
  rintro e w3 ⟨b1, m1, d1, b2, m2, d2, b3, m3, d3, rfl, hm⟩
  replace hM := hM.join hm
  clear hm
  (try simp only [World.size_alloc, World.size_setCell, World.heap_drewN, heapDrew, Nat.add_assoc, Nat.reduceAdd, List.setIfInBounds_toArray, List.set_cons_zero, List.set_cons_succ, List.cons_append, List.nil_append] at hM)
  dsimp only at hM ⊢
  obtain ⟨k3, f3, l3⟩ := hM.row (.there (.there (.there .here)))
  obtain ⟨k4, f4, l4⟩ := hM.row (.there (.there (.there (.there .here))))
  go_wp2_with fail
  clear k3 f3 l3 k4 f4 l4
  apply Mem.atA
  · (repeat' (first | with_reducible exact hM | with_reducible exact hMp | with_reducible apply Mem.drew | with_reducible apply Mem.drewN | with_reducible apply Mem.alloc | with_reducible apply Mem.set | with_reducible exact Sto.row | ((with_reducible refine Sto.rowEq2 ?_ ?_); omega; rfl) | ((with_reducible refine Sto.rowEq ?_); omega) | with_reducible apply Sto.int | with_reducible apply Sto.there | with_reducible assumption | (unfold I64; omega) | (with_reducible (have hMx := Mem.undrew hM; exact hMx)) | (with_reducible (have hMx := Mem.undrew hMp; exact hMx))))
  clear hM
  intro wst hM
  (try simp only [World.size_alloc, World.size_setCell, World.heap_drewN, heapDrew, Nat.add_assoc, Nat.reduceAdd, List.setIfInBounds_toArray, List.set_cons_zero, List.set_cons_succ, List.cons_append, List.nil_append] at hM)
  (first | refine (specAct_any W H a1 xs.length c1 xs a2 fs.length c2 fs a3 ws.length c3 ws t kd cl _ (hM.intsR (.there (.there (.there (.there (.there (.there .here))))))) (hM.intsR (.there (.there (.there (.there (.there (.there (.there .here)))))))) (hM.intsR (.there (.there (.there (.there (.there (.there (.there (.there .here)))))))))).mono ?_)
  rw [HQ0.out]
  rintro e w4 ⟨e1, p1, q1, e2, p2, q2, e3, p3, q3, rfl, hm⟩
  replace hM := hM.join hm
  clear hm
  (try simp only [World.size_alloc, World.size_setCell, World.heap_drewN, heapDrew, Nat.add_assoc, Nat.reduceAdd, List.setIfInBounds_toArray, List.set_cons_zero, List.set_cons_succ, List.cons_append, List.nil_append] at hM)
  dsimp only at hM ⊢
  go_upto_region 6 with fail
  apply Mem.atWpA
  · (repeat' (first | with_reducible exact hM | with_reducible exact hMp | with_reducible apply Mem.drew | with_reducible apply Mem.drewN | with_reducible apply Mem.alloc | with_reducible apply Mem.set | with_reducible exact Sto.row | ((with_reducible refine Sto.rowEq2 ?_ ?_); omega; rfl) | ((with_reducible refine Sto.rowEq ?_); omega) | with_reducible apply Sto.int | with_reducible apply Sto.there | with_reducible assumption | (unfold I64; omega) | (with_reducible (have hMx := Mem.undrew hM; exact hMx)) | (with_reducible (have hMx := Mem.undrew hMp; exact hMx))))
  clear hM
  intro wst hM
  (try simp only [World.size_alloc, World.size_setCell, World.heap_drewN, heapDrew, Nat.add_assoc, Nat.reduceAdd, List.setIfInBounds_toArray, List.set_cons_zero, List.set_cons_succ, List.cons_append, List.nil_append] at hM)
  obtain ⟨i0, hi0⟩ : ∃ i0, incB W H xs fs ws t = i0 := ⟨_, rfl⟩
  have HI0 := Lib.hid hi0; clear hi0
  have hbi : (i0 != i0) = false := by cases i0 <;> rfl
  go_cut [81] (fun s81 wx => s81 = .bool false ∧ Mem w.heap.size w wx [rowE w3.heap.size 46 #[.int .i64 gW, .int .i64 gH, .slice b1 m1 d1, .slice b2 m2 d2, .slice b3 m3 d3, .int .i64 gt], intE b1 m1 d1 zs, intE b2 m2 d2 gs, intE b3 m3 d3 us, rowE (w1.heap.size + 1) 53 #[.int .i64 kd, .int .i64 cl], rowE w1.heap.size 46 #[.int .i64 W, .int .i64 H, .slice a1 xs.length c1, .slice a2 fs.length c2, .slice a3 ws.length c3, .int .i64 t], intE a1 xs.length c1 xs, intE a2 fs.length c2 fs, intE a3 ws.length c3 ws])
  case first =>
    as_aux_lemma =>
      cases v1
      · skip
        refine AtF.startA hM hM 23 (by kernel_rfl) ?_
        clear hM
        intro wd hM
        have hS := hM
        refine AtF.taked (i := 0) (v := ?_) (some 58) rfl rfl (by kernel_rfl) (by kernel_rfl) (by kernel_rfl) (anc_path [16, 15, 9, 8, 3, 2] _ _ (by kernel_rfl) (by kernel_rfl)) (fun _ _ _ h => h) (Or.inl ⟨by kernel_rfl, ?_⟩) hS rfl ?_
        rotate_left
        · (intro wS hSw; (try dsimp only at hSw); go_simp; (try rw [if_neg (by omega)]); try with_reducible rfl)
        simp only [Act.put, List.setIfInBounds_toArray, List.set_cons_zero, List.set_cons_succ]
        refine AtF.taked (i := 1) (v := ?_) (some 59) rfl rfl (by kernel_rfl) (by kernel_rfl) (by kernel_rfl) (anc_path [16, 15, 9, 8, 3, 2] _ _ (by kernel_rfl) (by kernel_rfl)) (fun _ _ _ h => h) (Or.inl ⟨by kernel_rfl, ?_⟩) hS rfl ?_
        rotate_left
        · (intro wS hSw; (try dsimp only at hSw); go_simp; (try rw [if_neg (by omega)]); try with_reducible rfl)
        simp only [Act.put, List.setIfInBounds_toArray, List.set_cons_zero, List.set_cons_succ]
        refine AtF.taked (i := 2) (v := ?_) (some 60) rfl rfl (by kernel_rfl) (by kernel_rfl) (by kernel_rfl) (anc_path [16, 15, 9, 8, 3] _ _ (by kernel_rfl) (by kernel_rfl)) (fun _ _ _ h => h) (Or.inl ⟨by kernel_rfl, ?_⟩) hS rfl ?_
        rotate_left
        · (intro wS hSw; (try dsimp only at hSw); go_simp; (try rw [if_neg (by omega)]); try with_reducible rfl)
        simp only [Act.put, List.setIfInBounds_toArray, List.set_cons_zero, List.set_cons_succ]
        refine AtF.taked (i := 3) (v := ?_) (some 61) rfl rfl (by kernel_rfl) (by kernel_rfl) (by kernel_rfl) (anc_path [16, 15, 9, 8] _ _ (by kernel_rfl) (by kernel_rfl)) (fun _ _ _ h => h) (Or.inl ⟨by kernel_rfl, ?_⟩) hS rfl ?_
        rotate_left
        · (intro wS hSw; (try dsimp only at hSw); go_simp; (try rw [if_neg (by omega)]); try with_reducible rfl)
        simp only [Act.put, List.setIfInBounds_toArray, List.set_cons_zero, List.set_cons_succ]
        refine AtF.taked (i := 4) (v := ?_) (some 62) rfl rfl (by kernel_rfl) (by kernel_rfl) (by kernel_rfl) (anc_path [16, 15, 9, 6] _ _ (by kernel_rfl) (by kernel_rfl)) (fun _ _ _ h => h) (Or.inl ⟨by kernel_rfl, ?_⟩) hS rfl ?_
        rotate_left
        · (intro wS hSw; (try dsimp only at hSw); have kr0 := (Mem.row hSw .here).cell; have kr1 := (Mem.row hSw (.there (.there (.there (.there .here))))).cell; have kr2 := (Mem.row hSw (.there (.there (.there (.there (.there (.there (.there (.there (.there .here)))))))))).cell; go_simp; (try rw [if_neg (by omega)]); try with_reducible rfl)
        simp only [Act.put, List.setIfInBounds_toArray, List.set_cons_zero, List.set_cons_succ]
        refine AtF.taked (i := 5) (v := ?_) (some 63) rfl rfl (by kernel_rfl) (by kernel_rfl) (by kernel_rfl) (anc_path [16, 15, 9, 6] _ _ (by kernel_rfl) (by kernel_rfl)) (fun _ _ _ h => h) (Or.inl ⟨by kernel_rfl, ?_⟩) hS rfl ?_
        rotate_left
        · (intro wS hSw; (try dsimp only at hSw); have kr0 := (Mem.row hSw .here).cell; have kr1 := (Mem.row hSw (.there (.there (.there (.there .here))))).cell; have kr2 := (Mem.row hSw (.there (.there (.there (.there (.there (.there (.there (.there (.there .here)))))))))).cell; go_simp; (try rw [if_neg (by omega)]); try with_reducible rfl)
        simp only [Act.put, List.setIfInBounds_toArray, List.set_cons_zero, List.set_cons_succ]
        refine AtF.only (i := 6) (by kernel_rfl) rfl rfl ?_
        intro K hK
        go_simp
        refine (vIncident_same gW gH _ _ _ zs _ _ _ gs _ _ _ us gt _ _ _ _ _ _ _ _ _ _ (hM.intsR (.there (.there (.there (.there (.there .here)))))) (hM.intsR (.there (.there (.there (.there (.there (.there .here))))))) (hM.intsR (.there (.there (.there (.there (.there (.there (.there .here)))))))) (hM.intsR (.there .here)) (hM.intsR (.there (.there .here))) (hM.intsR (.there (.there (.there .here))))).mono ?_
        rintro e w5 ⟨rfl, hb⟩
        replace hM := hM.ext hb
        clear hb
        try dsimp only
        refine hK.out _ _ (hM) ?_
        clear hK K hS
        have hS := hM
        refine AtF.taked (i := 7) (v := ?_) (some 65) rfl rfl (by kernel_rfl) (by kernel_rfl) (by kernel_rfl) (anc_path [16, 15, 9, 8] _ _ (by kernel_rfl) (by kernel_rfl)) (fun _ _ _ h => h) (Or.inl ⟨by kernel_rfl, ?_⟩) hS rfl ?_
        rotate_left
        · (intro wS hSw; (try dsimp only at hSw); go_simp; (try rw [if_neg (by omega)]); try with_reducible rfl)
        simp only [Act.put, List.setIfInBounds_toArray, List.set_cons_zero, List.set_cons_succ]
        refine AtF.taked (i := 8) (v := ?_) (some 66) rfl rfl (by kernel_rfl) (by kernel_rfl) (by kernel_rfl) (anc_path [16, 15, 9] _ _ (by kernel_rfl) (by kernel_rfl)) (fun _ _ _ h => h) (Or.inl ⟨by kernel_rfl, ?_⟩) hS rfl ?_
        rotate_left
        · (intro wS hSw; (try dsimp only at hSw); go_simp; (try rw [if_neg (by omega)]); try with_reducible rfl)
        simp only [Act.put, List.setIfInBounds_toArray, List.set_cons_zero, List.set_cons_succ]
        refine AtF.taked (i := 9) (v := ?_) (some 67) rfl rfl (by kernel_rfl) (by kernel_rfl) (by kernel_rfl) (anc_path [16, 15] _ _ (by kernel_rfl) (by kernel_rfl)) (fun _ _ _ h => h) (Or.inl ⟨by kernel_rfl, ?_⟩) hS rfl ?_
        rotate_left
        · (intro wS hSw; (try dsimp only at hSw); go_simp; (try rw [if_neg (by omega)]); try with_reducible rfl)
        simp only [Act.put, List.setIfInBounds_toArray, List.set_cons_zero, List.set_cons_succ]
        refine AtF.taked (i := 10) (v := ?_) (some 68) rfl rfl (by kernel_rfl) (by kernel_rfl) (by kernel_rfl) (anc_path [16, 13, 11] _ _ (by kernel_rfl) (by kernel_rfl)) (fun _ _ _ h => h) (Or.inl ⟨by kernel_rfl, ?_⟩) hS rfl ?_
        rotate_left
        · (intro wS hSw; (try dsimp only at hSw); have kr0 := (Mem.row hSw .here).cell; have kr1 := (Mem.row hSw (.there (.there (.there (.there .here))))).cell; have kr2 := (Mem.row hSw (.there (.there (.there (.there (.there (.there (.there (.there (.there .here)))))))))).cell; go_simp; (try rw [if_neg (by omega)]); try with_reducible rfl)
        simp only [Act.put, List.setIfInBounds_toArray, List.set_cons_zero, List.set_cons_succ]
        refine AtF.taked (i := 12) (v := ?_) (some 70) rfl rfl (by kernel_rfl) (by kernel_rfl) (by kernel_rfl) (anc_path [16, 13] _ _ (by kernel_rfl) (by kernel_rfl)) (fun _ _ _ h => h) (Or.inl ⟨by kernel_rfl, ?_⟩) hS rfl ?_
        rotate_left
        · (intro wS hSw; (try dsimp only at hSw); have kr0 := (Mem.row hSw .here).cell; have kr1 := (Mem.row hSw (.there (.there (.there (.there .here))))).cell; have kr2 := (Mem.row hSw (.there (.there (.there (.there (.there (.there (.there (.there (.there .here)))))))))).cell; go_simp; (try rw [if_neg (by omega)]); try with_reducible rfl)
        simp only [Act.put, List.setIfInBounds_toArray, List.set_cons_zero, List.set_cons_succ]
        refine AtF.only (i := 11) (by kernel_rfl) rfl rfl ?_
        intro K hK
        go_simp
        refine (IsIncident_any W H a1 xs.length c1 xs a2 fs.length c2 fs a3 ws.length c3 ws t _ (hM.intsR (.there (.there (.there (.there (.there (.there (.there (.there (.there (.there .here))))))))))) (hM.intsR (.there (.there (.there (.there (.there (.there (.there (.there (.there (.there (.there .here)))))))))))) (hM.intsR (.there (.there (.there (.there (.there (.there (.there (.there (.there (.there (.there (.there .here)))))))))))))).mono ?_
        rw [HI0.out]
        rintro e w6 ⟨rfl, hb⟩
        replace hM := hM.ext hb
        clear hb
        try dsimp only
        refine hK.out _ _ (hM) ?_
        clear hK K hS
        have hS := hM
        refine AtF.only (i := 13) (by kernel_rfl) rfl rfl ?_
        intro K hK
        go_simp
        refine (sIsInc_any W H a1 xs.length c1 xs a2 fs.length c2 fs a3 ws.length c3 ws t _ (hM.intsR (.there (.there (.there (.there (.there (.there (.there (.there (.there (.there .here))))))))))) (hM.intsR (.there (.there (.there (.there (.there (.there (.there (.there (.there (.there (.there .here)))))))))))) (hM.intsR (.there (.there (.there (.there (.there (.there (.there (.there (.there (.there (.there (.there .here)))))))))))))).mono ?_
        rw [HI0.out]
        rintro e w6 ⟨rfl, hb⟩
        replace hM := hM.ext hb
        clear hb
        try dsimp only
        refine hK.out _ _ (hM) ?_
        clear hK K hS
        have hS := hM
        refine AtF.taked (i := 14) (v := ?_) (some 72) rfl rfl (by kernel_rfl) (by kernel_rfl) (by kernel_rfl) (anc_path [16, 15] _ _ (by kernel_rfl) (by kernel_rfl)) (fun _ _ _ h => h) (Or.inl ⟨by kernel_rfl, ?_⟩) hS rfl ?_
        rotate_left
        · (intro wS hSw; (try dsimp only at hSw); go_simp; (try rw [if_neg (by omega)]); try with_reducible rfl)
        simp only [Act.put, List.setIfInBounds_toArray, List.set_cons_zero, List.set_cons_succ]
        refine AtF.taked (i := 15) (v := ?_) (some 73) rfl rfl (by kernel_rfl) (by kernel_rfl) (by kernel_rfl) (anc_path [16] _ _ (by kernel_rfl) (by kernel_rfl)) (fun _ _ _ h => h) (Or.inl ⟨by kernel_rfl, ?_⟩) hS rfl ?_
        rotate_left
        · (intro wS hSw; (try dsimp only at hSw); go_simp; (try rw [if_neg (by omega)]); try with_reducible rfl)
        simp only [Act.put, List.setIfInBounds_toArray, List.set_cons_zero, List.set_cons_succ]
        refine AtF.taked (i := 16) (v := ?_) (some 74) rfl rfl (by kernel_rfl) (by kernel_rfl) (by kernel_rfl) (anc_path [] _ _ (by kernel_rfl) (by kernel_rfl)) (fun _ _ _ h => h) (Or.inl ⟨by kernel_rfl, ?_⟩) hS rfl ?_
        rotate_left
        · (intro wS hSw; (try dsimp only at hSw); go_simp; (try rw [if_neg (by omega)]); try with_reducible rfl)
        simp only [Act.put, List.setIfInBounds_toArray, List.set_cons_zero, List.set_cons_succ]
        refine AtF.taked (i := 17) (v := ?_) (some 75) rfl rfl (by kernel_rfl) (by kernel_rfl) (by kernel_rfl) (anc_path [22, 18] _ _ (by kernel_rfl) (by kernel_rfl)) (fun _ _ _ h => h) (Or.inl ⟨by kernel_rfl, ?_⟩) hS rfl ?_
        rotate_left
        · (intro wS hSw; (try dsimp only at hSw); go_simp; (try rw [if_neg (by omega)]); try with_reducible rfl)
        simp only [Act.put, List.setIfInBounds_toArray, List.set_cons_zero, List.set_cons_succ]
        refine AtF.taked (i := 18) (v := ?_) (some 76) rfl rfl (by kernel_rfl) (by kernel_rfl) (by kernel_rfl) (anc_path [22] _ _ (by kernel_rfl) (by kernel_rfl)) (fun _ _ _ h => h) (Or.inl ⟨by kernel_rfl, ?_⟩) hS rfl ?_
        rotate_left
        · (intro wS hSw; (try dsimp only at hSw); go_simp; (try rw [if_neg (by omega)]); try with_reducible rfl)
        simp only [Act.put, List.setIfInBounds_toArray, List.set_cons_zero, List.set_cons_succ]
        refine AtF.taked (i := 19) (v := undef) (some 77) rfl rfl (by kernel_rfl) (by kernel_rfl) (by kernel_rfl) (anc_path [22, 21, 20] _ _ (by kernel_rfl) (by kernel_rfl)) (fun _ _ _ h => h) (Or.inr ⟨by kernel_rfl, rfl⟩) hS rfl ?_
        simp only [Act.put, List.setIfInBounds_toArray, List.set_cons_zero, List.set_cons_succ]
        refine AtF.taked (i := 20) (v := undef) (some 78) rfl rfl (by kernel_rfl) (by kernel_rfl) (by kernel_rfl) (anc_path [22, 21] _ _ (by kernel_rfl) (by kernel_rfl)) (fun _ _ _ h => h) (Or.inr ⟨by kernel_rfl, rfl⟩) hS rfl ?_
        simp only [Act.put, List.setIfInBounds_toArray, List.set_cons_zero, List.set_cons_succ]
        refine AtF.taked (i := 21) (v := undef) (some 79) rfl rfl (by kernel_rfl) (by kernel_rfl) (by kernel_rfl) (anc_path [22] _ _ (by kernel_rfl) (by kernel_rfl)) (fun _ _ _ h => h) (Or.inr ⟨by kernel_rfl, rfl⟩) hS rfl ?_
        simp only [Act.put, List.setIfInBounds_toArray, List.set_cons_zero, List.set_cons_succ]
        refine AtF.taked (i := 22) (v := ?_) (some 80) rfl rfl (by kernel_rfl) (by kernel_rfl) (by kernel_rfl) (anc_path [] _ _ (by kernel_rfl) (by kernel_rfl)) (fun _ _ _ h => h) (Or.inl ⟨by kernel_rfl, ?_⟩) hS rfl ?_
        rotate_left
        · (intro wS hSw; (try dsimp only at hSw); go_simp; (try rw [if_neg (by omega)]); try with_reducible rfl)
        simp only [Act.put, List.setIfInBounds_toArray, List.set_cons_zero, List.set_cons_succ]
        refine AtF.last (by kernel_rfl) rfl (by kernel_rfl) ?_
        intro K hK
        clear hS
        go_simp
        refine hK.out _ _ ?_
        clear hK K
        go_wp2_with fail
        go_meet
        refine ⟨rfl, ?_⟩
        apply Mem.pick (is := [4, 5, 6, 7, 8, 9, 10, 11, 12])
        · (repeat' (first | with_reducible exact hM | with_reducible exact hMp | with_reducible apply Mem.drew | with_reducible apply Mem.drewN | with_reducible apply Mem.alloc | with_reducible apply Mem.set | with_reducible exact Sto.row | ((with_reducible refine Sto.rowEq2 ?_ ?_); omega; rfl) | ((with_reducible refine Sto.rowEq ?_); omega) | with_reducible apply Sto.int | with_reducible apply Sto.there | with_reducible assumption | (unfold I64; omega) | (with_reducible (have hMx := Mem.undrew hM; exact hMx)) | (with_reducible (have hMx := Mem.undrew hMp; exact hMx))))
        · decide
        · rfl
      · have HY := Lib.hid (act_inc2 HQ0.out rfl)
        refine AtF.startA hM hM 23 (by kernel_rfl) ?_
        clear hM
        intro wd hM
        have hS := hM
        refine AtF.taked (i := 0) (v := ?_) (some 58) rfl rfl (by kernel_rfl) (by kernel_rfl) (by kernel_rfl) (anc_path [16, 15, 9, 8, 3, 2] _ _ (by kernel_rfl) (by kernel_rfl)) (fun _ _ _ h => h) (Or.inl ⟨by kernel_rfl, ?_⟩) hS rfl ?_
        rotate_left
        · (intro wS hSw; (try dsimp only at hSw); go_simp; (try rw [if_neg (by omega)]); try with_reducible rfl)
        simp only [Act.put, List.setIfInBounds_toArray, List.set_cons_zero, List.set_cons_succ]
        refine AtF.taked (i := 1) (v := ?_) (some 59) rfl rfl (by kernel_rfl) (by kernel_rfl) (by kernel_rfl) (anc_path [16, 15, 9, 8, 3, 2] _ _ (by kernel_rfl) (by kernel_rfl)) (fun _ _ _ h => h) (Or.inl ⟨by kernel_rfl, ?_⟩) hS rfl ?_
        rotate_left
        · (intro wS hSw; (try dsimp only at hSw); go_simp; (try rw [if_neg (by omega)]); try with_reducible rfl)
        simp only [Act.put, List.setIfInBounds_toArray, List.set_cons_zero, List.set_cons_succ]
        refine AtF.taked (i := 2) (v := ?_) (some 60) rfl rfl (by kernel_rfl) (by kernel_rfl) (by kernel_rfl) (anc_path [16, 15, 9, 8, 3] _ _ (by kernel_rfl) (by kernel_rfl)) (fun _ _ _ h => h) (Or.inl ⟨by kernel_rfl, ?_⟩) hS rfl ?_
        rotate_left
        · (intro wS hSw; (try dsimp only at hSw); go_simp; (try rw [if_neg (by omega)]); try with_reducible rfl)
        simp only [Act.put, List.setIfInBounds_toArray, List.set_cons_zero, List.set_cons_succ]
        refine AtF.taked (i := 3) (v := ?_) (some 61) rfl rfl (by kernel_rfl) (by kernel_rfl) (by kernel_rfl) (anc_path [16, 15, 9, 8] _ _ (by kernel_rfl) (by kernel_rfl)) (fun _ _ _ h => h) (Or.inl ⟨by kernel_rfl, ?_⟩) hS rfl ?_
        rotate_left
        · (intro wS hSw; (try dsimp only at hSw); go_simp; (try rw [if_neg (by omega)]); try with_reducible rfl)
        simp only [Act.put, List.setIfInBounds_toArray, List.set_cons_zero, List.set_cons_succ]
        refine AtF.taked (i := 4) (v := ?_) (some 62) rfl rfl (by kernel_rfl) (by kernel_rfl) (by kernel_rfl) (anc_path [16, 15, 9, 6] _ _ (by kernel_rfl) (by kernel_rfl)) (fun _ _ _ h => h) (Or.inl ⟨by kernel_rfl, ?_⟩) hS rfl ?_
        rotate_left
        · (intro wS hSw; (try dsimp only at hSw); have kr0 := (Mem.row hSw .here).cell; have kr1 := (Mem.row hSw (.there (.there (.there (.there .here))))).cell; have kr2 := (Mem.row hSw (.there (.there (.there (.there (.there (.there (.there (.there (.there .here)))))))))).cell; go_simp; (try rw [if_neg (by omega)]); try with_reducible rfl)
        simp only [Act.put, List.setIfInBounds_toArray, List.set_cons_zero, List.set_cons_succ]
        refine AtF.taked (i := 5) (v := ?_) (some 63) rfl rfl (by kernel_rfl) (by kernel_rfl) (by kernel_rfl) (anc_path [16, 15, 9, 6] _ _ (by kernel_rfl) (by kernel_rfl)) (fun _ _ _ h => h) (Or.inl ⟨by kernel_rfl, ?_⟩) hS rfl ?_
        rotate_left
        · (intro wS hSw; (try dsimp only at hSw); have kr0 := (Mem.row hSw .here).cell; have kr1 := (Mem.row hSw (.there (.there (.there (.there .here))))).cell; have kr2 := (Mem.row hSw (.there (.there (.there (.there (.there (.there (.there (.there (.there .here)))))))))).cell; go_simp; (try rw [if_neg (by omega)]); try with_reducible rfl)
        simp only [Act.put, List.setIfInBounds_toArray, List.set_cons_zero, List.set_cons_succ]
        refine AtF.only (i := 6) (by kernel_rfl) rfl rfl ?_
        intro K hK
        go_simp
        refine (vIncident_same gW gH _ _ _ zs _ _ _ gs _ _ _ us gt _ _ _ _ _ _ _ _ _ _ (hM.intsR (.there (.there (.there (.there (.there .here)))))) (hM.intsR (.there (.there (.there (.there (.there (.there .here))))))) (hM.intsR (.there (.there (.there (.there (.there (.there (.there .here)))))))) (hM.intsR (.there .here)) (hM.intsR (.there (.there .here))) (hM.intsR (.there (.there (.there .here))))).mono ?_
        rintro e w5 ⟨rfl, hb⟩
        replace hM := hM.ext hb
        clear hb
        try dsimp only
        refine hK.out _ _ (hM) ?_
        clear hK K hS
        have hS := hM
        refine AtF.taked (i := 7) (v := ?_) (some 65) rfl rfl (by kernel_rfl) (by kernel_rfl) (by kernel_rfl) (anc_path [16, 15, 9, 8] _ _ (by kernel_rfl) (by kernel_rfl)) (fun _ _ _ h => h) (Or.inl ⟨by kernel_rfl, ?_⟩) hS rfl ?_
        rotate_left
        · (intro wS hSw; (try dsimp only at hSw); go_simp; (try rw [if_neg (by omega)]); try with_reducible rfl)
        simp only [Act.put, List.setIfInBounds_toArray, List.set_cons_zero, List.set_cons_succ]
        refine AtF.taked (i := 8) (v := ?_) (some 66) rfl rfl (by kernel_rfl) (by kernel_rfl) (by kernel_rfl) (anc_path [16, 15, 9] _ _ (by kernel_rfl) (by kernel_rfl)) (fun _ _ _ h => h) (Or.inl ⟨by kernel_rfl, ?_⟩) hS rfl ?_
        rotate_left
        · (intro wS hSw; (try dsimp only at hSw); go_simp; (try rw [if_neg (by omega)]); try with_reducible rfl)
        simp only [Act.put, List.setIfInBounds_toArray, List.set_cons_zero, List.set_cons_succ]
        refine AtF.taked (i := 9) (v := ?_) (some 67) rfl rfl (by kernel_rfl) (by kernel_rfl) (by kernel_rfl) (anc_path [16, 15] _ _ (by kernel_rfl) (by kernel_rfl)) (fun _ _ _ h => h) (Or.inl ⟨by kernel_rfl, ?_⟩) hS rfl ?_
        rotate_left
        · (intro wS hSw; (try dsimp only at hSw); go_simp; (try rw [if_neg (by omega)]); try with_reducible rfl)
        simp only [Act.put, List.setIfInBounds_toArray, List.set_cons_zero, List.set_cons_succ]
        refine AtF.taked (i := 10) (v := ?_) (some 68) rfl rfl (by kernel_rfl) (by kernel_rfl) (by kernel_rfl) (anc_path [16, 13, 11] _ _ (by kernel_rfl) (by kernel_rfl)) (fun _ _ _ h => h) (Or.inl ⟨by kernel_rfl, ?_⟩) hS rfl ?_
        rotate_left
        · (intro wS hSw; (try dsimp only at hSw); have kr0 := (Mem.row hSw .here).cell; have kr1 := (Mem.row hSw (.there (.there (.there (.there .here))))).cell; have kr2 := (Mem.row hSw (.there (.there (.there (.there (.there (.there (.there (.there (.there .here)))))))))).cell; go_simp; (try rw [if_neg (by omega)]); try with_reducible rfl)
        simp only [Act.put, List.setIfInBounds_toArray, List.set_cons_zero, List.set_cons_succ]
        refine AtF.taked (i := 12) (v := ?_) (some 70) rfl rfl (by kernel_rfl) (by kernel_rfl) (by kernel_rfl) (anc_path [16, 13] _ _ (by kernel_rfl) (by kernel_rfl)) (fun _ _ _ h => h) (Or.inl ⟨by kernel_rfl, ?_⟩) hS rfl ?_
        rotate_left
        · (intro wS hSw; (try dsimp only at hSw); have kr0 := (Mem.row hSw .here).cell; have kr1 := (Mem.row hSw (.there (.there (.there (.there .here))))).cell; have kr2 := (Mem.row hSw (.there (.there (.there (.there (.there (.there (.there (.there (.there .here)))))))))).cell; go_simp; (try rw [if_neg (by omega)]); try with_reducible rfl)
        simp only [Act.put, List.setIfInBounds_toArray, List.set_cons_zero, List.set_cons_succ]
        refine AtF.only (i := 11) (by kernel_rfl) rfl rfl ?_
        intro K hK
        go_simp
        refine (IsIncident_any W H a1 xs.length c1 xs a2 fs.length c2 fs a3 ws.length c3 ws t _ (hM.intsR (.there (.there (.there (.there (.there (.there (.there (.there (.there (.there .here))))))))))) (hM.intsR (.there (.there (.there (.there (.there (.there (.there (.there (.there (.there (.there .here)))))))))))) (hM.intsR (.there (.there (.there (.there (.there (.there (.there (.there (.there (.there (.there (.there .here)))))))))))))).mono ?_
        rw [HI0.out]
        rintro e w6 ⟨rfl, hb⟩
        replace hM := hM.ext hb
        clear hb
        try dsimp only
        refine hK.out _ _ (hM) ?_
        clear hK K hS
        have hS := hM
        refine AtF.only (i := 13) (by kernel_rfl) rfl rfl ?_
        intro K hK
        go_simp
        refine (sIsInc_any W H a1 xs.length c1 xs a2 fs.length c2 fs a3 ws.length c3 ws t _ (hM.intsR (.there (.there (.there (.there (.there (.there (.there (.there (.there (.there .here))))))))))) (hM.intsR (.there (.there (.there (.there (.there (.there (.there (.there (.there (.there (.there .here)))))))))))) (hM.intsR (.there (.there (.there (.there (.there (.there (.there (.there (.there (.there (.there (.there .here)))))))))))))).mono ?_
        rw [HI0.out]
        rintro e w6 ⟨rfl, hb⟩
        replace hM := hM.ext hb
        clear hb
        try dsimp only
        refine hK.out _ _ (hM) ?_
        clear hK K hS
        have hS := hM
        refine AtF.taked (i := 14) (v := ?_) (some 72) rfl rfl (by kernel_rfl) (by kernel_rfl) (by kernel_rfl) (anc_path [16, 15] _ _ (by kernel_rfl) (by kernel_rfl)) (fun _ _ _ h => h) (Or.inl ⟨by kernel_rfl, ?_⟩) hS rfl ?_
        rotate_left
        · (intro wS hSw; (try dsimp only at hSw); go_simp; (try rw [if_neg (by omega)]); try with_reducible rfl)
        simp only [Act.put, List.setIfInBounds_toArray, List.set_cons_zero, List.set_cons_succ]
        refine AtF.taked (i := 15) (v := ?_) (some 73) rfl rfl (by kernel_rfl) (by kernel_rfl) (by kernel_rfl) (anc_path [16] _ _ (by kernel_rfl) (by kernel_rfl)) (fun _ _ _ h => h) (Or.inl ⟨by kernel_rfl, ?_⟩) hS rfl ?_
        rotate_left
        · (intro wS hSw; (try dsimp only at hSw); go_simp; (try rw [if_neg (by omega)]); try with_reducible rfl)
        simp only [Act.put, List.setIfInBounds_toArray, List.set_cons_zero, List.set_cons_succ]
        refine AtF.taked (i := 16) (v := ?_) (some 74) rfl rfl (by kernel_rfl) (by kernel_rfl) (by kernel_rfl) (anc_path [] _ _ (by kernel_rfl) (by kernel_rfl)) (fun _ _ _ h => h) (Or.inl ⟨by kernel_rfl, ?_⟩) hS rfl ?_
        rotate_left
        · (intro wS hSw; (try dsimp only at hSw); go_simp; (try rw [if_neg (by omega)]); try with_reducible rfl)
        simp only [Act.put, List.setIfInBounds_toArray, List.set_cons_zero, List.set_cons_succ]
        refine AtF.taked (i := 17) (v := ?_) (some 75) rfl rfl (by kernel_rfl) (by kernel_rfl) (by kernel_rfl) (anc_path [22, 18] _ _ (by kernel_rfl) (by kernel_rfl)) (fun _ _ _ h => h) (Or.inl ⟨by kernel_rfl, ?_⟩) hS rfl ?_
        rotate_left
        · (intro wS hSw; (try dsimp only at hSw); go_simp; (try rw [if_neg (by omega)]); try with_reducible rfl)
        simp only [Act.put, List.setIfInBounds_toArray, List.set_cons_zero, List.set_cons_succ]
        refine AtF.taked (i := 18) (v := ?_) (some 76) rfl rfl (by kernel_rfl) (by kernel_rfl) (by kernel_rfl) (anc_path [22] _ _ (by kernel_rfl) (by kernel_rfl)) (fun _ _ _ h => h) (Or.inl ⟨by kernel_rfl, ?_⟩) hS rfl ?_
        rotate_left
        · (intro wS hSw; (try dsimp only at hSw); go_simp; (try rw [if_neg (by omega)]); try with_reducible rfl)
        simp only [Act.put, List.setIfInBounds_toArray, List.set_cons_zero, List.set_cons_succ]
        refine AtF.taked (i := 19) (v := ?_) (some 77) rfl rfl (by kernel_rfl) (by kernel_rfl) (by kernel_rfl) (anc_path [22, 21, 20] _ _ (by kernel_rfl) (by kernel_rfl)) (fun _ _ _ h => h) (Or.inl ⟨by kernel_rfl, ?_⟩) hS rfl ?_
        rotate_left
        · (intro wS hSw; (try dsimp only at hSw); have kr0 := (Mem.row hSw .here).cell; have kr1 := (Mem.row hSw (.there (.there (.there (.there .here))))).cell; have kr2 := (Mem.row hSw (.there (.there (.there (.there (.there (.there (.there (.there (.there .here)))))))))).cell; go_simp; (try rw [if_neg (by omega)]); try with_reducible rfl)
        simp only [Act.put, List.setIfInBounds_toArray, List.set_cons_zero, List.set_cons_succ]
        refine AtF.only (i := 20) (by kernel_rfl) rfl rfl ?_
        intro K hK
        go_simp
        refine (IsIncident_any gW gH _ _ _ zs _ _ _ gs _ _ _ us gt _ (hM.intsR (.there (.there (.there (.there (.there .here)))))) (hM.intsR (.there (.there (.there (.there (.there (.there .here))))))) (hM.intsR (.there (.there (.there (.there (.there (.there (.there .here))))))))).mono ?_
        rw [HY.out]
        rintro e w7 ⟨rfl, hb⟩
        replace hM := hM.ext hb
        clear hb
        try dsimp only
        refine hK.out _ _ (hM) ?_
        clear hK K hS
        have hS := hM
        refine AtF.taked (i := 21) (v := ?_) (some 79) rfl rfl (by kernel_rfl) (by kernel_rfl) (by kernel_rfl) (anc_path [22] _ _ (by kernel_rfl) (by kernel_rfl)) (fun _ _ _ h => h) (Or.inl ⟨by kernel_rfl, ?_⟩) hS rfl ?_
        rotate_left
        · (intro wS hSw; (try dsimp only at hSw); go_simp; (try rw [if_neg (by omega)]); try with_reducible rfl)
        simp only [Act.put, List.setIfInBounds_toArray, List.set_cons_zero, List.set_cons_succ]
        refine AtF.taked (i := 22) (v := ?_) (some 80) rfl rfl (by kernel_rfl) (by kernel_rfl) (by kernel_rfl) (anc_path [] _ _ (by kernel_rfl) (by kernel_rfl)) (fun _ _ _ h => h) (Or.inl ⟨by kernel_rfl, ?_⟩) hS rfl ?_
        rotate_left
        · (intro wS hSw; (try dsimp only at hSw); go_simp; (try rw [if_neg (by omega)]); try with_reducible rfl)
        simp only [Act.put, List.setIfInBounds_toArray, List.set_cons_zero, List.set_cons_succ]
        refine AtF.last (by kernel_rfl) rfl (by kernel_rfl) ?_
        intro K hK
        clear hS
        go_simp
        refine hK.out _ _ ?_
        clear hK K
        go_wp2_with fail
        go_meet
        refine ⟨rfl, ?_⟩
        apply Mem.pick (is := [4, 5, 6, 7, 8, 9, 10, 11, 12])
        · (repeat' (first | with_reducible exact hM | with_reducible exact hMp | with_reducible apply Mem.drew | with_reducible apply Mem.drewN | with_reducible apply Mem.alloc | with_reducible apply Mem.set | with_reducible exact Sto.row | ((with_reducible refine Sto.rowEq2 ?_ ?_); omega; rfl) | ((with_reducible refine Sto.rowEq ?_); omega) | with_reducible apply Sto.int | with_reducible apply Sto.there | with_reducible assumption | (unfold I64; omega) | (with_reducible (have hMx := Mem.undrew hM; exact hMx)) | (with_reducible (have hMx := Mem.undrew hMp; exact hMx))))
        · decide
        · rfl
  case rest =>
  clear hM
  obtain ⟨rfl, hM⟩ := hcut
  clear HI0 hbi
  go_upto_if 82 with fail
  go_cut [] (fun wx => Mem w.heap.size w wx [])
  case first =>
    as_aux_lemma =>
      cases v1
      · go_wp2_with fail
        go_meet
        exact hM.sub (by simp)
      obtain ⟨S1, S2, B1, B2, T, h1, h2, h3, h4, h5, h6, h7, h8, h9⟩ := act_ok HQ0.out
      have HS1 := Lib.hid h1; have HS2 := Lib.hid h2; have HB1 := Lib.hid h3; have HB2 := Lib.hid h4; have HT := Lib.hid h5; have HW := Lib.hid h6; have HB := Lib.hid h7; have HTW := Lib.hid h8; have HBB := Lib.hid h9
      clear h1 h2 h3 h4 h5 h6 h7 h8 h9 HQ0 hbb1
      obtain ⟨k5, f5, l5⟩ := hM.row (.there (.there (.there (.there (.there .here)))))
      go_wp2_with fail
      clear k5 f5 l5
      apply Mem.atA
      · (repeat' (first | with_reducible exact hM | with_reducible exact hMp | with_reducible apply Mem.drew | with_reducible apply Mem.drewN | with_reducible apply Mem.alloc | with_reducible apply Mem.set | with_reducible exact Sto.row | ((with_reducible refine Sto.rowEq2 ?_ ?_); omega; rfl) | ((with_reducible refine Sto.rowEq ?_); omega) | with_reducible apply Sto.int | with_reducible apply Sto.there | with_reducible assumption | (unfold I64; omega) | (with_reducible (have hMx := Mem.undrew hM; exact hMx)) | (with_reducible (have hMx := Mem.undrew hMp; exact hMx))))
      clear hM
      intro wst hM
      (try simp only [World.size_alloc, World.size_setCell, World.heap_drewN, heapDrew, Nat.add_assoc, Nat.reduceAdd, List.setIfInBounds_toArray, List.set_cons_zero, List.set_cons_succ, List.cons_append, List.nil_append] at hM)
      (first | refine (implSpent_any W H a1 xs.length c1 xs a2 fs.length c2 fs a3 ws.length c3 ws t _ (hM.intsR (.there (.there (.there (.there (.there (.there .here))))))) (hM.intsR (.there (.there (.there (.there (.there (.there (.there .here)))))))) (hM.intsR (.there (.there (.there (.there (.there (.there (.there (.there .here)))))))))).mono ?_)
      rw [HS1.out]
      rintro e w5 ⟨f1, k1, l1, rfl, hm⟩
      replace hM := hM.join hm
      clear hm
      (try simp only [World.size_alloc, World.size_setCell, World.heap_drewN, heapDrew, Nat.add_assoc, Nat.reduceAdd, List.setIfInBounds_toArray, List.set_cons_zero, List.set_cons_succ, List.cons_append, List.nil_append] at hM)
      dsimp only at hM ⊢
      obtain ⟨k1, f1, l1⟩ := hM.row (.there .here)
      go_wp2_with fail
      clear k1 f1 l1
      apply Mem.atA
      · (repeat' (first | with_reducible exact hM | with_reducible exact hMp | with_reducible apply Mem.drew | with_reducible apply Mem.drewN | with_reducible apply Mem.alloc | with_reducible apply Mem.set | with_reducible exact Sto.row | ((with_reducible refine Sto.rowEq2 ?_ ?_); omega; rfl) | ((with_reducible refine Sto.rowEq ?_); omega) | with_reducible apply Sto.int | with_reducible apply Sto.there | with_reducible assumption | (unfold I64; omega) | (with_reducible (have hMx := Mem.undrew hM; exact hMx)) | (with_reducible (have hMx := Mem.undrew hMp; exact hMx))))
      clear hM
      intro wst hM
      (try simp only [World.size_alloc, World.size_setCell, World.heap_drewN, heapDrew, Nat.add_assoc, Nat.reduceAdd, List.setIfInBounds_toArray, List.set_cons_zero, List.set_cons_succ, List.cons_append, List.nil_append] at hM)
      (first | refine (implSpent_any gW gH _ _ _ zs _ _ _ gs _ _ _ us gt _ (hM.intsR (.there (.there .here))) (hM.intsR (.there (.there (.there .here)))) (hM.intsR (.there (.there (.there (.there .here)))))).mono ?_)
      rw [HS2.out]
      rintro e w6 ⟨f2, k2, l2, rfl, hm⟩
      replace hM := hM.join hm
      clear hm
      (try simp only [World.size_alloc, World.size_setCell, World.heap_drewN, heapDrew, Nat.add_assoc, Nat.reduceAdd, List.setIfInBounds_toArray, List.set_cons_zero, List.set_cons_succ, List.cons_append, List.nil_append] at hM)
      dsimp only at hM ⊢
      obtain ⟨k7, f7, l7⟩ := hM.row (.there (.there (.there (.there (.there (.there (.there .here)))))))
      go_wp2_with fail
      clear k7 f7 l7
      apply Mem.atA
      · (repeat' (first | with_reducible exact hM | with_reducible exact hMp | with_reducible apply Mem.drew | with_reducible apply Mem.drewN | with_reducible apply Mem.alloc | with_reducible apply Mem.set | with_reducible exact Sto.row | ((with_reducible refine Sto.rowEq2 ?_ ?_); omega; rfl) | ((with_reducible refine Sto.rowEq ?_); omega) | with_reducible apply Sto.int | with_reducible apply Sto.there | with_reducible assumption | (unfold I64; omega) | (with_reducible (have hMx := Mem.undrew hM; exact hMx)) | (with_reducible (have hMx := Mem.undrew hMp; exact hMx))))
      clear hM
      intro wst hM
      (try simp only [World.size_alloc, World.size_setCell, World.heap_drewN, heapDrew, Nat.add_assoc, Nat.reduceAdd, List.setIfInBounds_toArray, List.set_cons_zero, List.set_cons_succ, List.cons_append, List.nil_append] at hM)
      (first | refine (implBurning_any W H a1 xs.length c1 xs a2 fs.length c2 fs a3 ws.length c3 ws t _ (hM.intsR (.there (.there (.there (.there (.there (.there (.there (.there .here))))))))) (hM.intsR (.there (.there (.there (.there (.there (.there (.there (.there (.there .here)))))))))) (hM.intsR (.there (.there (.there (.there (.there (.there (.there (.there (.there (.there .here)))))))))))).mono ?_)
      rw [HB1.out]
      rintro e w7 ⟨f3, k3, l3, rfl, hm⟩
      replace hM := hM.join hm
      clear hm
      (try simp only [World.size_alloc, World.size_setCell, World.heap_drewN, heapDrew, Nat.add_assoc, Nat.reduceAdd, List.setIfInBounds_toArray, List.set_cons_zero, List.set_cons_succ, List.cons_append, List.nil_append] at hM)
      dsimp only at hM ⊢
      obtain ⟨k3, f3, l3⟩ := hM.row (.there (.there (.there .here)))
      go_wp2_with fail
      clear k3 f3 l3
      apply Mem.atA
      · (repeat' (first | with_reducible exact hM | with_reducible exact hMp | with_reducible apply Mem.drew | with_reducible apply Mem.drewN | with_reducible apply Mem.alloc | with_reducible apply Mem.set | with_reducible exact Sto.row | ((with_reducible refine Sto.rowEq2 ?_ ?_); omega; rfl) | ((with_reducible refine Sto.rowEq ?_); omega) | with_reducible apply Sto.int | with_reducible apply Sto.there | with_reducible assumption | (unfold I64; omega) | (with_reducible (have hMx := Mem.undrew hM; exact hMx)) | (with_reducible (have hMx := Mem.undrew hMp; exact hMx))))
      clear hM
      intro wst hM
      (try simp only [World.size_alloc, World.size_setCell, World.heap_drewN, heapDrew, Nat.add_assoc, Nat.reduceAdd, List.setIfInBounds_toArray, List.set_cons_zero, List.set_cons_succ, List.cons_append, List.nil_append] at hM)
      (first | refine (implBurning_any gW gH _ _ _ zs _ _ _ gs _ _ _ us gt _ (hM.intsR (.there (.there (.there (.there .here))))) (hM.intsR (.there (.there (.there (.there (.there .here)))))) (hM.intsR (.there (.there (.there (.there (.there (.there .here)))))))).mono ?_)
      rw [HB2.out]
      rintro e w8 ⟨f4, k4, l4, rfl, hm⟩
      replace hM := hM.join hm
      clear hm
      (try simp only [World.size_alloc, World.size_setCell, World.heap_drewN, heapDrew, Nat.add_assoc, Nat.reduceAdd, List.setIfInBounds_toArray, List.set_cons_zero, List.set_cons_succ, List.cons_append, List.nil_append] at hM)
      dsimp only at hM ⊢
      obtain ⟨k9, f9, l9⟩ := hM.row (.there (.there (.there (.there (.there (.there (.there (.there (.there .here)))))))))
      go_wp2_with fail
      clear k9 f9 l9
      apply Mem.atA
      · (repeat' (first | with_reducible exact hM | with_reducible exact hMp | with_reducible apply Mem.drew | with_reducible apply Mem.drewN | with_reducible apply Mem.alloc | with_reducible apply Mem.set | with_reducible exact Sto.row | ((with_reducible refine Sto.rowEq2 ?_ ?_); omega; rfl) | ((with_reducible refine Sto.rowEq ?_); omega) | with_reducible apply Sto.int | with_reducible apply Sto.there | with_reducible assumption | (unfold I64; omega) | (with_reducible (have hMx := Mem.undrew hM; exact hMx)) | (with_reducible (have hMx := Mem.undrew hMp; exact hMx))))
      clear hM
      intro wst hM
      (try simp only [World.size_alloc, World.size_setCell, World.heap_drewN, heapDrew, Nat.add_assoc, Nat.reduceAdd, List.setIfInBounds_toArray, List.set_cons_zero, List.set_cons_succ, List.cons_append, List.nil_append] at hM)
      (first | refine (implThreat_any W H a1 xs.length c1 xs a2 fs.length c2 fs a3 ws.length c3 ws t _ (hM.intsR (.there (.there (.there (.there (.there (.there (.there (.there (.there (.there .here))))))))))) (hM.intsR (.there (.there (.there (.there (.there (.there (.there (.there (.there (.there (.there .here)))))))))))) (hM.intsR (.there (.there (.there (.there (.there (.there (.there (.there (.there (.there (.there (.there .here)))))))))))))).mono ?_)
      rw [HT.out]
      rintro e w9 ⟨f5, k5, l5, rfl, hm⟩
      replace hM := hM.join hm
      clear hm
      (try simp only [World.size_alloc, World.size_setCell, World.heap_drewN, heapDrew, Nat.add_assoc, Nat.reduceAdd, List.setIfInBounds_toArray, List.set_cons_zero, List.set_cons_succ, List.cons_append, List.nil_append] at hM)
      dsimp only at hM ⊢
      go_wp2_with fail
      apply Mem.atA
      · (repeat' (first | with_reducible exact hM | with_reducible exact hMp | with_reducible apply Mem.drew | with_reducible apply Mem.drewN | with_reducible apply Mem.alloc | with_reducible apply Mem.set | with_reducible exact Sto.row | ((with_reducible refine Sto.rowEq2 ?_ ?_); omega; rfl) | ((with_reducible refine Sto.rowEq ?_); omega) | with_reducible apply Sto.int | with_reducible apply Sto.there | with_reducible assumption | (unfold I64; omega) | (with_reducible (have hMx := Mem.undrew hM; exact hMx)) | (with_reducible (have hMx := Mem.undrew hMp; exact hMx))))
      clear hM
      intro wst hM
      (try simp only [World.size_alloc, World.size_setCell, World.heap_drewN, heapDrew, Nat.add_assoc, Nat.reduceAdd, List.setIfInBounds_toArray, List.set_cons_zero, List.set_cons_succ, List.cons_append, List.nil_append] at hM)
      (first | refine (vWithin_any _ _ _ S1 _ _ _ S2 _ (hM.intsR (.there (.there (.there (.there .here))))) (hM.intsR (.there (.there (.there .here))))).mono ?_)
      rw [HW.out]
      rintro e wc10 ⟨rfl, rfl⟩
      replace hM := hM.pick (is := [0, 1, 2, 9]) (by decide) rfl
      dsimp only [List.filterMap_cons, List.filterMap_nil, List.getElem?_cons_zero, List.getElem?_cons_succ] at hM
      obtain rfl : k4 = B2.length := (hM.ints (.there .here)).len.symm
      have hbl := (hM.ints (.there .here)).ints.room
      go_wp2_with fail
      go_loopw [19] (fun s19 wr => ∃ k : Nat, k ≤ B2.length ∧ s19 = .int .i64 k ∧ Mem w.heap.size w wr [intE f5 k5 l5 T, intE f4 B2.length l4 B2, intE f3 k3 l3 B1, rowE (w1.heap.size + 1) 53 #[.int .i64 kd, .int .i64 cl]]) (fun s19 _ => B2.length - (intOf s19).toNat)
      case atStart => exact ⟨0, Nat.zero_le _, rfl, hM⟩
      case round =>
        clear hM
        obtain ⟨k, hk, rfl, hM⟩ := hrel
        by_cases hlt : k < B2.length
        · obtain ⟨g4, rfl, -⟩ := (hM.ints (.there .here)).head (by omega)
          have hcn := (hM.ints (.there .here)).cellAt hlt
          have hx := HB.out (B2.getD k 0) (getD_mem hlt)
          obtain ⟨x, hxx⟩ : ∃ x, B2.getD k 0 = x := ⟨_, rfl⟩
          rw [hxx] at hcn hx
          have HX := Lib.hid hx
          have HXX := Lib.hid hxx
          clear hx hxx
          have i0 : (0 : Int) ≤ (k : Int) := by omega
          have i1 : (k : Int) < (B2.length : Int) := by omega
          go_wp2_with fail
          clear hcn
          go_wp2_with fail
          apply Mem.atA
          · (repeat' (first | with_reducible exact hM | with_reducible exact hMp | with_reducible apply Mem.drew | with_reducible apply Mem.drewN | with_reducible apply Mem.alloc | with_reducible apply Mem.set | with_reducible exact Sto.row | ((with_reducible refine Sto.rowEq2 ?_ ?_); omega; rfl) | ((with_reducible refine Sto.rowEq ?_); omega) | with_reducible apply Sto.int | with_reducible apply Sto.there | with_reducible assumption | (unfold I64; omega) | (with_reducible (have hMx := Mem.undrew hM; exact hMx)) | (with_reducible (have hMx := Mem.undrew hMp; exact hMx))))
          clear hM
          intro wst hM
          (try simp only [World.size_alloc, World.size_setCell, World.heap_drewN, heapDrew, Nat.add_assoc, Nat.reduceAdd, List.setIfInBounds_toArray, List.set_cons_zero, List.set_cons_succ, List.cons_append, List.nil_append] at hM)
          refine (vHas_any _ _ _ B1 x _ (hM.intsR (.there (.there .here)))).mono ?_
          obtain ⟨q, hq⟩ : ∃ q, hasV B1 x = q := ⟨_, rfl⟩
          rw [hq]
          have HQ := Lib.hid hq; clear hq
          rintro e w10 ⟨rfl, rfl⟩
          cases q
          · obtain ⟨rfl, hT⟩ : kd = 1 ∧ hasV T x = true := by
              rcases HX.out with h | h
              · rw [HQ.out] at h; cases h
              · exact h
            have HTX := Lib.hid hT; clear hT
            obtain ⟨k3, f3, l3⟩ := hM.row (.there (.there (.there .here)))
            have hcn := (hM.ints (.there .here)).cellAt hlt
            rw [HXX.out] at hcn
            go_wp2_with fail
            clear hcn k3 f3 l3
            go_wp2_with fail
            apply Mem.atA
            · (repeat' (first | with_reducible exact hM | with_reducible exact hMp | with_reducible apply Mem.drew | with_reducible apply Mem.drewN | with_reducible apply Mem.alloc | with_reducible apply Mem.set | with_reducible exact Sto.row | ((with_reducible refine Sto.rowEq2 ?_ ?_); omega; rfl) | ((with_reducible refine Sto.rowEq ?_); omega) | with_reducible apply Sto.int | with_reducible apply Sto.there | with_reducible assumption | (unfold I64; omega) | (with_reducible (have hMx := Mem.undrew hM; exact hMx)) | (with_reducible (have hMx := Mem.undrew hMp; exact hMx))))
            clear hM
            intro wst hM
            (try simp only [World.size_alloc, World.size_setCell, World.heap_drewN, heapDrew, Nat.add_assoc, Nat.reduceAdd, List.setIfInBounds_toArray, List.set_cons_zero, List.set_cons_succ, List.cons_append, List.nil_append] at hM)
            refine (vHas_any _ _ _ T x _ (hM.intsR .here)).mono ?_
            rw [HTX.out]
            rintro e w11 ⟨rfl, rfl⟩
            go_wp2
            go_roundw
            case rel => exact ⟨k + 1, by omega, by go_num, hM⟩
            case measure => simp [intOf]; omega
          · go_wp2
            go_roundw
            case rel => exact ⟨k + 1, by omega, by go_num, hM⟩
            case measure => simp [intOf]; omega
        · obtain rfl : k = B2.length := by omega
          by_cases h1 : kd = 1
          · have hTW := Lib.hid (HTW.out h1)
            subst h1
            obtain ⟨k3, f3, l3⟩ := hM.row (.there (.there (.there .here)))
            go_wp2_with fail
            clear k3 f3 l3
            go_wp2_with fail
            apply Mem.atA
            · (repeat' (first | with_reducible exact hM | with_reducible exact hMp | with_reducible apply Mem.drew | with_reducible apply Mem.drewN | with_reducible apply Mem.alloc | with_reducible apply Mem.set | with_reducible exact Sto.row | ((with_reducible refine Sto.rowEq2 ?_ ?_); omega; rfl) | ((with_reducible refine Sto.rowEq ?_); omega) | with_reducible apply Sto.int | with_reducible apply Sto.there | with_reducible assumption | (unfold I64; omega) | (with_reducible (have hMx := Mem.undrew hM; exact hMx)) | (with_reducible (have hMx := Mem.undrew hMp; exact hMx))))
            clear hM
            intro wst hM
            (try simp only [World.size_alloc, World.size_setCell, World.heap_drewN, heapDrew, Nat.add_assoc, Nat.reduceAdd, List.setIfInBounds_toArray, List.set_cons_zero, List.set_cons_succ, List.cons_append, List.nil_append] at hM)
            refine (vWithin_any _ _ _ T _ _ _ B2 _ (hM.intsR .here) (hM.intsR (.there .here))).mono ?_
            rw [hTW.out]
            rintro e w11 ⟨rfl, rfl⟩
            obtain ⟨k3, f3, l3⟩ := hM.row (.there (.there (.there .here)))
            go_wp2_with fail
            go_meet
            exact hM.sub (by simp)
          · have hBB := HBB.out h1
            subst hBB
            have hk1 : (kd == 1) = false := by simpa using h1
            have hk2 : (kd != 1) = true := by simpa using h1
            obtain ⟨k3, f3, l3⟩ := hM.row (.there (.there (.there .here)))
            go_wp2_with fail
            clear k3 f3 l3
            go_wp2_with fail
            apply Mem.atA
            · (repeat' (first | with_reducible exact hM | with_reducible exact hMp | with_reducible apply Mem.drew | with_reducible apply Mem.drewN | with_reducible apply Mem.alloc | with_reducible apply Mem.set | with_reducible exact Sto.row | ((with_reducible refine Sto.rowEq2 ?_ ?_); omega; rfl) | ((with_reducible refine Sto.rowEq ?_); omega) | with_reducible apply Sto.int | with_reducible apply Sto.there | with_reducible assumption | (unfold I64; omega) | (with_reducible (have hMx := Mem.undrew hM; exact hMx)) | (with_reducible (have hMx := Mem.undrew hMp; exact hMx))))
            clear hM
            intro wst hM
            (try simp only [World.size_alloc, World.size_setCell, World.heap_drewN, heapDrew, Nat.add_assoc, Nat.reduceAdd, List.setIfInBounds_toArray, List.set_cons_zero, List.set_cons_succ, List.cons_append, List.nil_append] at hM)
            refine (vInts_same _ _ _ B1 _ _ _ _ (hM.intsR (.there (.there .here))) (hM.intsR (.there .here))).mono ?_
            rintro e w11 ⟨rfl, hb⟩
            replace hM := hM.ext hb
            clear hb
            go_wp2_with fail
            go_meet
            exact hM.sub (by simp)
  case rest =>
    as_aux_lemma =>
      clear hM HQ0 hbb1
      have hM := hcut
      clear hcut
      go_wp2_with fail
      apply Mem.atA
      · (repeat' (first | with_reducible exact hM | with_reducible exact hMp | with_reducible apply Mem.drew | with_reducible apply Mem.drewN | with_reducible apply Mem.alloc | with_reducible apply Mem.set | with_reducible exact Sto.row | ((with_reducible refine Sto.rowEq2 ?_ ?_); omega; rfl) | ((with_reducible refine Sto.rowEq ?_); omega) | with_reducible apply Sto.int | with_reducible apply Sto.there | with_reducible assumption | (unfold I64; omega) | (with_reducible (have hMx := Mem.undrew hM; exact hMx)) | (with_reducible (have hMx := Mem.undrew hMp; exact hMx))))
      clear hM
      intro wst hM
      (try simp only [World.size_alloc, World.size_setCell, World.heap_drewN, heapDrew, Nat.add_assoc, Nat.reduceAdd, List.setIfInBounds_toArray, List.set_cons_zero, List.set_cons_succ, List.cons_append, List.nil_append] at hM)
      (first | refine (drawInc_run (HC.out.ext hM.below)).mono ?_)
      rintro e w1 ⟨W, H, a1, c1, xs, a2, c2, fs, a3, c3, ws, t, a4, c4, vs, hvl, rfl, hm⟩
      replace hM := hM.join hm
      clear hm
      (try simp only [World.size_alloc, World.size_setCell, World.heap_drewN, heapDrew, Nat.add_assoc, Nat.reduceAdd, List.setIfInBounds_toArray, List.set_cons_zero, List.set_cons_succ, List.cons_append, List.nil_append] at hM)
      obtain ⟨⟨⟨gW, gH, zs, gs, us, gt⟩, cnt, v1⟩, hq0⟩ : ∃ r, runAR W H xs fs ws t vs = r := ⟨_, rfl⟩
      have HQ0 := Lib.hid hq0; clear hq0
      have hbb1 : (v1 != v1) = false := by cases v1 <;> rfl
      have hbc : (cnt != cnt) = false := by simp
      go_wp2_with fail
      apply Mem.atA
      · (repeat' (first | with_reducible exact hM | with_reducible exact hMp | with_reducible apply Mem.drew | with_reducible apply Mem.drewN | with_reducible apply Mem.alloc | with_reducible apply Mem.set | with_reducible exact Sto.row | ((with_reducible refine Sto.rowEq2 ?_ ?_); omega; rfl) | ((with_reducible refine Sto.rowEq ?_); omega) | with_reducible apply Sto.int | with_reducible apply Sto.there | with_reducible assumption | (unfold I64; omega) | (with_reducible (have hMx := Mem.undrew hM; exact hMx)) | (with_reducible (have hMx := Mem.undrew hMp; exact hMx))))
      clear hM
      intro wst hM
      (try simp only [World.size_alloc, World.size_setCell, World.heap_drewN, heapDrew, Nat.add_assoc, Nat.reduceAdd, List.setIfInBounds_toArray, List.set_cons_zero, List.set_cons_succ, List.cons_append, List.nil_append] at hM)
      (first | refine (implRun_any W H a1 xs.length c1 xs a2 fs.length c2 fs a3 ws.length c3 ws t a4 vs.length c4 vs _ (hM.intsR (.there (.there .here))) (hM.intsR (.there (.there (.there .here)))) (hM.intsR (.there (.there (.there (.there .here))))) (hM.ow (.there .here)).rd).mono ?_)
      rw [HQ0.out]
      rintro e w3 ⟨b1, m1, d1, b2, m2, d2, b3, m3, d3, rfl, hm⟩
      replace hM := hM.join hm
      clear hm
      (try simp only [World.size_alloc, World.size_setCell, World.heap_drewN, heapDrew, Nat.add_assoc, Nat.reduceAdd, List.setIfInBounds_toArray, List.set_cons_zero, List.set_cons_succ, List.cons_append, List.nil_append] at hM)
      dsimp only at hM ⊢
      obtain ⟨k3, f3, l3⟩ := hM.row (.there (.there (.there .here)))
      go_wp2_with fail
      clear k3 f3 l3
      apply Mem.atA
      · (repeat' (first | with_reducible exact hM | with_reducible exact hMp | with_reducible apply Mem.drew | with_reducible apply Mem.drewN | with_reducible apply Mem.alloc | with_reducible apply Mem.set | with_reducible exact Sto.row | ((with_reducible refine Sto.rowEq2 ?_ ?_); omega; rfl) | ((with_reducible refine Sto.rowEq ?_); omega) | with_reducible apply Sto.int | with_reducible apply Sto.there | with_reducible assumption | (unfold I64; omega) | (with_reducible (have hMx := Mem.undrew hM; exact hMx)) | (with_reducible (have hMx := Mem.undrew hMp; exact hMx))))
      clear hM
      intro wst hM
      (try simp only [World.size_alloc, World.size_setCell, World.heap_drewN, heapDrew, Nat.add_assoc, Nat.reduceAdd, List.setIfInBounds_toArray, List.set_cons_zero, List.set_cons_succ, List.cons_append, List.nil_append] at hM)
      (first | refine (specRun_any W H a1 xs.length c1 xs a2 fs.length c2 fs a3 ws.length c3 ws t a4 vs.length c4 vs _ (hM.intsR (.there (.there (.there (.there (.there (.there .here))))))) (hM.intsR (.there (.there (.there (.there (.there (.there (.there .here)))))))) (hM.intsR (.there (.there (.there (.there (.there (.there (.there (.there .here))))))))) (hM.ow (.there (.there (.there (.there (.there .here)))))).rd).mono ?_)
      rw [HQ0.out]
      rintro e w4 ⟨e1, p1, q1, e2, p2, q2, e3, p3, q3, rfl, hm⟩
      replace hM := hM.join hm
      clear hm
      (try simp only [World.size_alloc, World.size_setCell, World.heap_drewN, heapDrew, Nat.add_assoc, Nat.reduceAdd, List.setIfInBounds_toArray, List.set_cons_zero, List.set_cons_succ, List.cons_append, List.nil_append] at hM)
      dsimp only at hM ⊢
      obtain ⟨k3, f3, l3⟩ := hM.row (.there (.there (.there .here)))
      go_wp2_with fail
      clear k3 f3 l3
      apply Mem.atA
      · (repeat' (first | with_reducible exact hM | with_reducible exact hMp | with_reducible apply Mem.drew | with_reducible apply Mem.drewN | with_reducible apply Mem.alloc | with_reducible apply Mem.set | with_reducible exact Sto.row | ((with_reducible refine Sto.rowEq2 ?_ ?_); omega; rfl) | ((with_reducible refine Sto.rowEq ?_); omega) | with_reducible apply Sto.int | with_reducible apply Sto.there | with_reducible assumption | (unfold I64; omega) | (with_reducible (have hMx := Mem.undrew hM; exact hMx)) | (with_reducible (have hMx := Mem.undrew hMp; exact hMx))))
      clear hM
      intro wst hM
      (try simp only [World.size_alloc, World.size_setCell, World.heap_drewN, heapDrew, Nat.add_assoc, Nat.reduceAdd, List.setIfInBounds_toArray, List.set_cons_zero, List.set_cons_succ, List.cons_append, List.nil_append] at hM)
      (first | refine (vIncident_same gW gH _ _ _ zs _ _ _ gs _ _ _ us gt _ _ _ _ _ _ _ _ _ _ (hM.intsR (.there (.there (.there (.there (.there .here)))))) (hM.intsR (.there (.there (.there (.there (.there (.there .here))))))) (hM.intsR (.there (.there (.there (.there (.there (.there (.there .here)))))))) (hM.intsR (.there .here)) (hM.intsR (.there (.there .here))) (hM.intsR (.there (.there (.there .here))))).mono ?_)
      rintro e w5 ⟨rfl, hb⟩
      replace hM := hM.ext hb
      clear hb
      replace hM := hM.pick (is := [4, 5, 6, 7, 8, 9, 10, 11, 12]) (by decide) rfl
      dsimp only [List.filterMap_cons, List.filterMap_nil, List.getElem?_cons_zero, List.getElem?_cons_succ] at hM
      go_upto_if 212 with fail
      go_cut [] (fun wx => Mem w.heap.size w wx [])
      case first =>
        as_aux_lemma =>
          cases v1
          · go_wp2_with fail
            go_meet
            exact hM.sub (by simp)
          obtain ⟨hi, hl30, ha, hr1, hr2⟩ := runR_true HQ0.out
          have HRN := Lib.hid (fun j (hj : j < vs.length) => @run_next W H t xs fs ws vs hi ha j hj)
          have HR1 := Lib.hid hr1; have HR2 := Lib.hid hr2
          clear hi ha hr1 hr2 HQ0 hbb1 hl30
          obtain ⟨k4, f4, l4⟩ := hM.row (.there (.there (.there (.there .here))))
          go_wp2_with fail
          clear k4 f4 l4
          apply Mem.atWpA
          · (repeat' (first | with_reducible exact hM | with_reducible exact hMp | with_reducible apply Mem.drew | with_reducible apply Mem.drewN | with_reducible apply Mem.alloc | with_reducible apply Mem.set | with_reducible exact Sto.row | ((with_reducible refine Sto.rowEq2 ?_ ?_); omega; rfl) | ((with_reducible refine Sto.rowEq ?_); omega) | with_reducible apply Sto.int | with_reducible apply Sto.there | with_reducible assumption | (unfold I64; omega) | (with_reducible (have hMx := Mem.undrew hM; exact hMx)) | (with_reducible (have hMx := Mem.undrew hMp; exact hMx))))
          clear hM
          intro wst hM
          (try simp only [World.size_alloc, World.size_setCell, World.heap_drewN, heapDrew, Nat.add_assoc, Nat.reduceAdd, List.setIfInBounds_toArray, List.set_cons_zero, List.set_cons_succ, List.cons_append, List.nil_append] at hM)
          replace hM := hM.pick (is := [0, 7, 8, 9, 6, 1, 2, 3, 4]) (by decide) rfl
          dsimp only [List.filterMap_cons, List.filterMap_nil, List.getElem?_cons_zero, List.getElem?_cons_succ] at hM
          go_loopw [29, 30] (fun s29 s30 wr => ∃ (j : Nat) (zs2 gs2 us2 : List Int) (gt2 : Int) (n2 : Nat) (r1 : Option Addr) (s1 t1 : Nat) (r2 : Option Addr) (s2 t2 : Nat) (r3 : Option Addr) (s3 t3 : Nat), j ≤ vs.length ∧ s29 = .int .i64 n2 ∧ s30 = .int .i64 j ∧ Hid (runTo xs.length (vs.take j) ⟨⟨W, H, xs, fs, ws, t⟩, 0⟩ = ⟨⟨W, H, zs2, gs2, us2, gt2⟩, n2⟩) ∧ Mem w.heap.size w wr [rowE w5.heap.size 46 #[.int .i64 W, .int .i64 H, .slice r1 s1 t1, .slice r2 s2 t2, .slice r3 s3 t3, .int .i64 gt2], packE [intE r1 s1 t1 zs2, intE r2 s2 t2 gs2, intE r3 s3 t3 us2], owE FAction 53 a4 vs.length c4 vs, rowE w3.heap.size 46 #[.int .i64 gW, .int .i64 gH, .slice b1 m1 d1, .slice b2 m2 d2, .slice b3 m3 d3, .int .i64 gt], packE [intE b1 m1 d1 zs, intE b2 m2 d2 gs, intE b3 m3 d3 us]]) (fun _ s30 _ => vs.length - (intOf s30).toNat)
          case atStart =>
            refine ⟨0, xs, fs, ws, t, 0, a1, xs.length, c1, a2, fs.length, c2, a3, ws.length, c3, Nat.zero_le _, rfl, rfl, Lib.hid (by simp [runTo]), ?_⟩
            apply Mem.packAt [_]
            dsimp only [List.cons_append, List.nil_append]
            apply Mem.packAt [_, _, _, _, _, _]
            dsimp only [List.cons_append, List.nil_append]
            exact hM
          case round =>
            clear hM
            obtain ⟨j, zs2, gs2, us2, gt2, n2, r1, s1, t1, r2, s2, t2, r3, s3, t3, hj, rfl, rfl, HS, hM⟩ := hrel
            by_cases hlt : j < vs.length
            · as_aux_lemma =>
                obtain ⟨⟨⟨qW, qH, z3, g3, u3, qt⟩, b⟩, hq⟩ : ∃ r, actIncR W H zs2 gs2 us2 gt2 (vs.getD j ActionI.zero).kd (vs.getD j ActionI.zero).cell = r := ⟨_, rfl⟩
                obtain ⟨k1, k2⟩ := HRN.out j hlt HS.out hq
                have HK1 := Lib.hid k1; have HK2 := Lib.hid k2
                obtain ⟨v, hv⟩ : ∃ v, vs.getD j ActionI.zero = v := ⟨_, rfl⟩
                rw [hv] at hq
                obtain ⟨ak, acl⟩ := v
                dsimp only at hq
                have HQ := Lib.hid hq; have HV := Lib.hid hv
                clear k1 k2 hq hv HR1 HR2 HRN hbc
                obtain ⟨g4, rfl, -⟩ := (hM.ow (.there (.there .here))).head (by omega)
                have i0 : (0 : Int) ≤ (j : Int) := by omega
                have i1 : (j : Int) < (vs.length : Int) := by omega
                obtain ⟨k0, f0, l0⟩ := hM.row .here
                go_upto_region 33 with fail
                clear k0 f0 l0
                apply Mem.atWpA
                · (repeat' (first | with_reducible exact hM | with_reducible exact hMp | with_reducible apply Mem.drew | with_reducible apply Mem.drewN | with_reducible apply Mem.alloc | with_reducible apply Mem.set | with_reducible exact Sto.row | ((with_reducible refine Sto.rowEq2 ?_ ?_); omega; rfl) | ((with_reducible refine Sto.rowEq ?_); omega) | with_reducible apply Sto.int | with_reducible apply Sto.there | with_reducible assumption | (unfold I64; omega) | (with_reducible (have hMx := Mem.undrew hM; exact hMx)) | (with_reducible (have hMx := Mem.undrew hMp; exact hMx))))
                clear hM
                intro wst hM
                (try simp only [World.size_alloc, World.size_setCell, World.heap_drewN, heapDrew, Nat.add_assoc, Nat.reduceAdd, List.setIfInBounds_toArray, List.set_cons_zero, List.set_cons_succ, List.cons_append, List.nil_append] at hM)
                go_cut [31, 32] (fun s31 s32 wx => ∃ (bb : Nat) (fa1 : Option Addr) (fk1 fl1 : Nat) (fa2 : Option Addr) (fk2 fl2 : Nat) (fa3 : Option Addr) (fk3 fl3 : Nat), s31 = .pointer (some ⟨bb, 0, none⟩) ∧ s32 = .bool b ∧ Mem w.heap.size w wx [rowE w5.heap.size 46 #[.int .i64 W, .int .i64 H, .slice r1 s1 t1, .slice r2 s2 t2, .slice r3 s3 t3, .int .i64 gt2], rowE bb 46 #[.int .i64 qW, .int .i64 qH, .slice fa1 fk1 fl1, .slice fa2 fk2 fl2, .slice fa3 fk3 fl3, .int .i64 qt], packE [intE fa1 fk1 fl1 z3, intE fa2 fk2 fl2 g3, intE fa3 fk3 fl3 u3], packE [intE r1 s1 t1 zs2, intE r2 s2 t2 gs2, intE r3 s3 t3 us2], owE FAction 53 (some ⟨g4, 0, none⟩) vs.length c4 vs, rowE w3.heap.size 46 #[.int .i64 gW, .int .i64 gH, .slice b1 m1 d1, .slice b2 m2 d2, .slice b3 m3 d3, .int .i64 gt], packE [intE b1 m1 d1 zs, intE b2 m2 d2 gs, intE b3 m3 d3 us]])
                case first =>
                  refine AtF.startA hM hM 11 (by kernel_rfl) ?_
                  clear hM
                  intro wd hM
                  have hS := hM
                  refine AtF.taked (i := 0) (v := ?_) (some 221) rfl rfl (by kernel_rfl) (by kernel_rfl) (by kernel_rfl) (anc_path [] _ _ (by kernel_rfl) (by kernel_rfl)) (fun _ _ _ h => h) (Or.inl ⟨by kernel_rfl, ?_⟩) hS rfl ?_
                  rotate_left
                  · (intro wS hSw; (try dsimp only at hSw); have kr0 := (Mem.row hSw .here).cell; have hc0 := ((hSw.ow (.there (.there .here))).cellAction hlt).1; have hc1 := ((hSw.ow (.there (.there .here))).cellAction hlt).2; rw [HV.out] at hc0 hc1; dsimp only at hc0 hc1; go_simp; (try rw [if_neg (by omega)]); try with_reducible rfl)
                  simp only [Act.put, List.setIfInBounds_toArray, List.set_cons_zero, List.set_cons_succ]
                  refine AtF.taked (i := 1) (v := ?_) (some 222) rfl rfl (by kernel_rfl) (by kernel_rfl) (by kernel_rfl) (anc_path [] _ _ (by kernel_rfl) (by kernel_rfl)) (fun _ _ _ h => h) (Or.inl ⟨by kernel_rfl, ?_⟩) hS rfl ?_
                  rotate_left
                  · (intro wS hSw; (try dsimp only at hSw); go_simp; (try rw [if_neg (by omega)]); try with_reducible rfl)
                  simp only [Act.put, List.setIfInBounds_toArray, List.set_cons_zero, List.set_cons_succ]
                  refine AtF.taked (i := 2) (v := ?_) (some 223) rfl rfl (by kernel_rfl) (by kernel_rfl) (by kernel_rfl) (anc_path [] _ _ (by kernel_rfl) (by kernel_rfl)) (fun _ _ _ h => h) (Or.inl ⟨by kernel_rfl, ?_⟩) hS rfl ?_
                  rotate_left
                  · (intro wS hSw; (try dsimp only at hSw); go_simp; (try rw [if_neg (by omega)]); try with_reducible rfl)
                  simp only [Act.put, List.setIfInBounds_toArray, List.set_cons_zero, List.set_cons_succ]
                  refine AtF.taked (i := 3) (v := ?_) (some 224) rfl rfl (by kernel_rfl) (by kernel_rfl) (by kernel_rfl) (anc_path [] _ _ (by kernel_rfl) (by kernel_rfl)) (fun _ _ _ h => h) (Or.inl ⟨by kernel_rfl, ?_⟩) hS rfl ?_
                  rotate_left
                  · (intro wS hSw; (try dsimp only at hSw); have kr0 := (Mem.row hSw .here).cell; have hc0 := ((hSw.ow (.there (.there .here))).cellAction hlt).1; have hc1 := ((hSw.ow (.there (.there .here))).cellAction hlt).2; rw [HV.out] at hc0 hc1; dsimp only at hc0 hc1; go_simp; (try rw [if_neg (by omega)]); try with_reducible rfl)
                  simp only [Act.put, List.setIfInBounds_toArray, List.set_cons_zero, List.set_cons_succ]
                  refine AtF.taked (i := 4) (v := ?_) (some 225) rfl rfl (by kernel_rfl) (by kernel_rfl) (by kernel_rfl) (anc_path [] _ _ (by kernel_rfl) (by kernel_rfl)) (fun _ _ _ h => h) (Or.inl ⟨by kernel_rfl, ?_⟩) hS rfl ?_
                  rotate_left
                  · (intro wS hSw; (try dsimp only at hSw); have kr0 := (Mem.row hSw .here).cell; have hc0 := ((hSw.ow (.there (.there .here))).cellAction hlt).1; have hc1 := ((hSw.ow (.there (.there .here))).cellAction hlt).2; rw [HV.out] at hc0 hc1; dsimp only at hc0 hc1; go_simp; (try rw [if_neg (by omega)]); try with_reducible rfl)
                  simp only [Act.put, List.setIfInBounds_toArray, List.set_cons_zero, List.set_cons_succ]
                  refine AtF.two (i := 5) (j := 9) (by kernel_rfl) rfl rfl rfl rfl ?_ ?_
                  · skip
                    intro K hK
                    go_simp
                    refine (implAct_any W H r1 s1 t1 zs2 r2 s2 t2 gs2 r3 s3 t3 us2 gt2 ak acl _ (hM.packInts (.there .here) .here) (hM.packInts (.there .here) (.there .here)) (hM.packInts (.there .here) (.there (.there .here)))).mono ?_
                    rw [HQ.out]
                    rintro e w6 ⟨fa1, fk1, fl1, fa2, fk2, fl2, fa3, fk3, fl3, rfl, hm⟩
                    have hm2 := Mem.packAt [] (G := [intE fa1 fk1 fl1 z3, intE fa2 fk2 fl2 g3, intE fa3 fk3 fl3 u3]) (Y := []) hm
                    replace hM := hM.join hm2
                    clear hm hm2
                    dsimp only [List.cons_append, List.nil_append] at hM
                    try dsimp only
                    refine hK.out _ _ (hM.tail) ?_
                    clear hK K hS
                    have hS := hM.tail
                    refine AtF.taked (i := 6) (v := ?_) (some 220) rfl rfl (by kernel_rfl) (by kernel_rfl) (by kernel_rfl) (anc_path [] _ _ (by kernel_rfl) (by kernel_rfl)) (fun _ _ _ h => h) (Or.inl ⟨by kernel_rfl, ?_⟩) hS rfl ?_
                    rotate_left
                    · (intro wS hSw; (try dsimp only at hSw); go_simp; (try rw [if_neg (by omega)]); try with_reducible rfl)
                    simp only [Act.put, List.setIfInBounds_toArray, List.set_cons_zero, List.set_cons_succ]
                    refine AtF.taked (i := 7) (v := ?_) (some 227) rfl rfl (by kernel_rfl) (by kernel_rfl) (by kernel_rfl) (anc_path [] _ _ (by kernel_rfl) (by kernel_rfl)) (fun _ _ _ h => h) (Or.inl ⟨by kernel_rfl, ?_⟩) hS rfl ?_
                    rotate_left
                    · (intro wS hSw; (try dsimp only at hSw); go_simp; (try rw [if_neg (by omega)]); try with_reducible rfl)
                    simp only [Act.put, List.setIfInBounds_toArray, List.set_cons_zero, List.set_cons_succ]
                    refine AtF.taked (i := 8) (v := ?_) (some 228) rfl rfl (by kernel_rfl) (by kernel_rfl) (by kernel_rfl) (anc_path [] _ _ (by kernel_rfl) (by kernel_rfl)) (fun _ _ _ h => h) (Or.inl ⟨by kernel_rfl, ?_⟩) hS rfl ?_
                    rotate_left
                    · (intro wS hSw; (try dsimp only at hSw); go_simp; (try rw [if_neg (by omega)]); try with_reducible rfl)
                    simp only [Act.put, List.setIfInBounds_toArray, List.set_cons_zero, List.set_cons_succ]
                    refine AtF.only (i := 9) (by kernel_rfl) rfl rfl ?_
                    intro K hK
                    go_simp
                    refine hK.out _ _ (by apply Mem.tail; apply Mem.tail; (repeat' (first | with_reducible exact hM | with_reducible exact hMp | with_reducible apply Mem.drew | with_reducible apply Mem.drewN | with_reducible apply Mem.alloc | with_reducible apply Mem.set | with_reducible exact Sto.row | ((with_reducible refine Sto.rowEq2 ?_ ?_); omega; rfl) | ((with_reducible refine Sto.rowEq ?_); omega) | with_reducible apply Sto.int | with_reducible apply Sto.there | with_reducible assumption | (unfold I64; omega) | (with_reducible (have hMx := Mem.undrew hM; exact hMx)) | (with_reducible (have hMx := Mem.undrew hMp; exact hMx))))) ?_
                    clear hK K hS
                    have hMp := hM
                    apply Mem.atF
                    · (repeat' (first | with_reducible exact hM | with_reducible exact hMp | with_reducible apply Mem.drew | with_reducible apply Mem.drewN | with_reducible apply Mem.alloc | with_reducible apply Mem.set | with_reducible exact Sto.row | ((with_reducible refine Sto.rowEq2 ?_ ?_); omega; rfl) | ((with_reducible refine Sto.rowEq ?_); omega) | with_reducible apply Sto.int | with_reducible apply Sto.there | with_reducible assumption | (unfold I64; omega) | (with_reducible (have hMx := Mem.undrew hM; exact hMx)) | (with_reducible (have hMx := Mem.undrew hMp; exact hMx))))
                    clear hM
                    intro hM
                    (try simp only [World.size_alloc, World.size_setCell, World.heap_drewN, heapDrew, Nat.add_assoc, Nat.reduceAdd, List.setIfInBounds_toArray, List.set_cons_zero, List.set_cons_succ, List.cons_append, List.nil_append] at hM)
                    have hS := hM.tail.tail
                    refine AtF.only (i := 10) (by kernel_rfl) rfl rfl ?_
                    intro K hK
                    have kk0 := (hM.row .here).cell
                    have ff0 := (hM.row .here).free
                    have ll0 := (hM.row .here).lt
                    have kk2 := (hM.row (.there (.there .here))).cell
                    have ff2 := (hM.row (.there (.there .here))).free
                    have ll2 := (hM.row (.there (.there .here))).lt
                    go_simp
                    clear kk0 ff0 ll0 kk2 ff2 ll2
                    refine hK.out _ _ (by apply Mem.tail; apply Mem.tail; (repeat' (first | with_reducible exact hM | with_reducible exact hMp | with_reducible apply Mem.drew | with_reducible apply Mem.drewN | with_reducible apply Mem.alloc | with_reducible apply Mem.set | with_reducible exact Sto.row | ((with_reducible refine Sto.rowEq2 ?_ ?_); omega; rfl) | ((with_reducible refine Sto.rowEq ?_); omega) | with_reducible apply Sto.int | with_reducible apply Sto.there | with_reducible assumption | (unfold I64; omega) | (with_reducible (have hMx := Mem.undrew hM; exact hMx)) | (with_reducible (have hMx := Mem.undrew hMp; exact hMx))))) ?_
                    clear hK K hS
                    apply Mem.atF
                    · (repeat' (first | with_reducible exact hM | with_reducible exact hMp | with_reducible apply Mem.drew | with_reducible apply Mem.drewN | with_reducible apply Mem.alloc | with_reducible apply Mem.set | with_reducible exact Sto.row | ((with_reducible refine Sto.rowEq2 ?_ ?_); omega; rfl) | ((with_reducible refine Sto.rowEq ?_); omega) | with_reducible apply Sto.int | with_reducible apply Sto.there | with_reducible assumption | (unfold I64; omega) | (with_reducible (have hMx := Mem.undrew hM; exact hMx)) | (with_reducible (have hMx := Mem.undrew hMp; exact hMx))))
                    clear hM
                    intro hM
                    (try simp only [World.size_alloc, World.size_setCell, World.heap_drewN, heapDrew, Nat.add_assoc, Nat.reduceAdd, List.setIfInBounds_toArray, List.set_cons_zero, List.set_cons_succ, List.cons_append, List.nil_append] at hM)
                    have hS := hM.tail.tail
                    refine AtF.last (by kernel_rfl) rfl (by kernel_rfl) ?_
                    intro K hK
                    clear hS
                    go_simp
                    refine hK.out _ _ ?_
                    clear hK K
                    go_wp2_with fail
                    go_meet
                    refine ⟨_, fa1, fk1, fl1, fa2, fk2, fl2, fa3, fk3, fl3, rfl, rfl, ?_⟩
                    apply Mem.pick (is := [2, 0, 1, 3, 4, 5, 6])
                    · (repeat' (first | with_reducible exact hM | with_reducible exact hMp | with_reducible apply Mem.drew | with_reducible apply Mem.drewN | with_reducible apply Mem.alloc | with_reducible apply Mem.set | with_reducible exact Sto.row | ((with_reducible refine Sto.rowEq2 ?_ ?_); omega; rfl) | ((with_reducible refine Sto.rowEq ?_); omega) | with_reducible apply Sto.int | with_reducible apply Sto.there | with_reducible assumption | (unfold I64; omega) | (with_reducible (have hMx := Mem.undrew hM; exact hMx)) | (with_reducible (have hMx := Mem.undrew hMp; exact hMx))))
                    · decide
                    · rfl
                  · skip
                    intro K hK
                    go_simp
                    refine hK.out _ _ (by apply Mem.tail; (repeat' (first | with_reducible exact hM | with_reducible exact hMp | with_reducible apply Mem.drew | with_reducible apply Mem.drewN | with_reducible apply Mem.alloc | with_reducible apply Mem.set | with_reducible exact Sto.row | ((with_reducible refine Sto.rowEq2 ?_ ?_); omega; rfl) | ((with_reducible refine Sto.rowEq ?_); omega) | with_reducible apply Sto.int | with_reducible apply Sto.there | with_reducible assumption | (unfold I64; omega) | (with_reducible (have hMx := Mem.undrew hM; exact hMx)) | (with_reducible (have hMx := Mem.undrew hMp; exact hMx))))) ?_
                    clear hK K hS
                    have hMp := hM
                    apply Mem.atF
                    · (repeat' (first | with_reducible exact hM | with_reducible exact hMp | with_reducible apply Mem.drew | with_reducible apply Mem.drewN | with_reducible apply Mem.alloc | with_reducible apply Mem.set | with_reducible exact Sto.row | ((with_reducible refine Sto.rowEq2 ?_ ?_); omega; rfl) | ((with_reducible refine Sto.rowEq ?_); omega) | with_reducible apply Sto.int | with_reducible apply Sto.there | with_reducible assumption | (unfold I64; omega) | (with_reducible (have hMx := Mem.undrew hM; exact hMx)) | (with_reducible (have hMx := Mem.undrew hMp; exact hMx))))
                    clear hM
                    intro hM
                    (try simp only [World.size_alloc, World.size_setCell, World.heap_drewN, heapDrew, Nat.add_assoc, Nat.reduceAdd, List.setIfInBounds_toArray, List.set_cons_zero, List.set_cons_succ, List.cons_append, List.nil_append] at hM)
                    have hS := hM.tail
                    refine AtF.only (i := 5) (by kernel_rfl) rfl rfl ?_
                    intro K hK
                    go_simp
                    refine (implAct_any W H r1 s1 t1 zs2 r2 s2 t2 gs2 r3 s3 t3 us2 gt2 ak acl _ (hM.packInts (.there (.there .here)) .here) (hM.packInts (.there (.there .here)) (.there .here)) (hM.packInts (.there (.there .here)) (.there (.there .here)))).mono ?_
                    rw [HQ.out]
                    rintro e w6 ⟨fa1, fk1, fl1, fa2, fk2, fl2, fa3, fk3, fl3, rfl, hm⟩
                    have hm2 := Mem.packAt [] (G := [intE fa1 fk1 fl1 z3, intE fa2 fk2 fl2 g3, intE fa3 fk3 fl3 u3]) (Y := []) hm
                    replace hM := hM.join hm2
                    clear hm hm2
                    dsimp only [List.cons_append, List.nil_append] at hM
                    try dsimp only
                    refine hK.out _ _ (hM.tail.tail) ?_
                    clear hK K hS
                    have hS := hM.tail.tail
                    refine AtF.taked (i := 6) (v := ?_) (some 220) rfl rfl (by kernel_rfl) (by kernel_rfl) (by kernel_rfl) (anc_path [] _ _ (by kernel_rfl) (by kernel_rfl)) (fun _ _ _ h => h) (Or.inl ⟨by kernel_rfl, ?_⟩) hS rfl ?_
                    rotate_left
                    · (intro wS hSw; (try dsimp only at hSw); go_simp; (try rw [if_neg (by omega)]); try with_reducible rfl)
                    simp only [Act.put, List.setIfInBounds_toArray, List.set_cons_zero, List.set_cons_succ]
                    refine AtF.taked (i := 7) (v := ?_) (some 227) rfl rfl (by kernel_rfl) (by kernel_rfl) (by kernel_rfl) (anc_path [] _ _ (by kernel_rfl) (by kernel_rfl)) (fun _ _ _ h => h) (Or.inl ⟨by kernel_rfl, ?_⟩) hS rfl ?_
                    rotate_left
                    · (intro wS hSw; (try dsimp only at hSw); go_simp; (try rw [if_neg (by omega)]); try with_reducible rfl)
                    simp only [Act.put, List.setIfInBounds_toArray, List.set_cons_zero, List.set_cons_succ]
                    refine AtF.taked (i := 8) (v := ?_) (some 228) rfl rfl (by kernel_rfl) (by kernel_rfl) (by kernel_rfl) (anc_path [] _ _ (by kernel_rfl) (by kernel_rfl)) (fun _ _ _ h => h) (Or.inl ⟨by kernel_rfl, ?_⟩) hS rfl ?_
                    rotate_left
                    · (intro wS hSw; (try dsimp only at hSw); go_simp; (try rw [if_neg (by omega)]); try with_reducible rfl)
                    simp only [Act.put, List.setIfInBounds_toArray, List.set_cons_zero, List.set_cons_succ]
                    refine AtF.only (i := 10) (by kernel_rfl) rfl rfl ?_
                    intro K hK
                    have kk1 := (hM.row (.there .here)).cell
                    have ff1 := (hM.row (.there .here)).free
                    have ll1 := (hM.row (.there .here)).lt
                    have kk2 := (hM.row (.there (.there .here))).cell
                    have ff2 := (hM.row (.there (.there .here))).free
                    have ll2 := (hM.row (.there (.there .here))).lt
                    go_simp
                    clear kk1 ff1 ll1 kk2 ff2 ll2
                    refine hK.out _ _ (by apply Mem.tail; apply Mem.tail; (repeat' (first | with_reducible exact hM | with_reducible exact hMp | with_reducible apply Mem.drew | with_reducible apply Mem.drewN | with_reducible apply Mem.alloc | with_reducible apply Mem.set | with_reducible exact Sto.row | ((with_reducible refine Sto.rowEq2 ?_ ?_); omega; rfl) | ((with_reducible refine Sto.rowEq ?_); omega) | with_reducible apply Sto.int | with_reducible apply Sto.there | with_reducible assumption | (unfold I64; omega) | (with_reducible (have hMx := Mem.undrew hM; exact hMx)) | (with_reducible (have hMx := Mem.undrew hMp; exact hMx))))) ?_
                    clear hK K hS
                    apply Mem.atF
                    · (repeat' (first | with_reducible exact hM | with_reducible exact hMp | with_reducible apply Mem.drew | with_reducible apply Mem.drewN | with_reducible apply Mem.alloc | with_reducible apply Mem.set | with_reducible exact Sto.row | ((with_reducible refine Sto.rowEq2 ?_ ?_); omega; rfl) | ((with_reducible refine Sto.rowEq ?_); omega) | with_reducible apply Sto.int | with_reducible apply Sto.there | with_reducible assumption | (unfold I64; omega) | (with_reducible (have hMx := Mem.undrew hM; exact hMx)) | (with_reducible (have hMx := Mem.undrew hMp; exact hMx))))
                    clear hM
                    intro hM
                    (try simp only [World.size_alloc, World.size_setCell, World.heap_drewN, heapDrew, Nat.add_assoc, Nat.reduceAdd, List.setIfInBounds_toArray, List.set_cons_zero, List.set_cons_succ, List.cons_append, List.nil_append] at hM)
                    have hS := hM.tail.tail
                    refine AtF.last (by kernel_rfl) rfl (by kernel_rfl) ?_
                    intro K hK
                    clear hS
                    go_simp
                    refine hK.out _ _ ?_
                    clear hK K
                    go_wp2_with fail
                    go_meet
                    refine ⟨_, fa1, fk1, fl1, fa2, fk2, fl2, fa3, fk3, fl3, rfl, rfl, ?_⟩
                    apply Mem.pick (is := [2, 1, 0, 3, 4, 5, 6])
                    · (repeat' (first | with_reducible exact hM | with_reducible exact hMp | with_reducible apply Mem.drew | with_reducible apply Mem.drewN | with_reducible apply Mem.alloc | with_reducible apply Mem.set | with_reducible exact Sto.row | ((with_reducible refine Sto.rowEq2 ?_ ?_); omega; rfl) | ((with_reducible refine Sto.rowEq ?_); omega) | with_reducible apply Sto.int | with_reducible apply Sto.there | with_reducible assumption | (unfold I64; omega) | (with_reducible (have hMx := Mem.undrew hM; exact hMx)) | (with_reducible (have hMx := Mem.undrew hMp; exact hMx))))
                    · decide
                    · rfl
                case rest =>
                  clear hM
                  obtain ⟨bb, fa1, fk1, fl1, fa2, fk2, fl2, fa3, fk3, fl3, rfl, rfl, hM⟩ := hcut
                  cases b
                  · go_wp2
                    go_roundw
                    case rel =>
                      refine ⟨j + 1, zs2, gs2, us2, gt2, n2, r1, s1, t1, r2, s2, t2, r3, s3, t3, by omega, rfl, by go_num, Lib.hid (HK1.out rfl), ?_⟩
                      apply Mem.pick (is := [0, 3, 4, 5, 6])
                      · (repeat' (first | with_reducible exact hM | with_reducible exact hMp | with_reducible apply Mem.drew | with_reducible apply Mem.drewN | with_reducible apply Mem.alloc | with_reducible apply Mem.set | with_reducible exact Sto.row | ((with_reducible refine Sto.rowEq2 ?_ ?_); omega; rfl) | ((with_reducible refine Sto.rowEq ?_); omega) | with_reducible apply Sto.int | with_reducible apply Sto.there | with_reducible assumption | (unfold I64; omega) | (with_reducible (have hMx := Mem.undrew hM; exact hMx)) | (with_reducible (have hMx := Mem.undrew hMp; exact hMx))))
                      · decide
                      · rfl
                    case measure => simp [intOf]; omega
                  · obtain ⟨rfl, rfl, hn2, hk2⟩ := HK2.out rfl
                    have HKK := Lib.hid hk2; clear hk2
                    obtain ⟨k0, f0, l0⟩ := hM.row .here
                    obtain ⟨k1, f1, l1⟩ := hM.row (.there .here)
                    go_wp2
                    go_roundw
                    case rel =>
                      refine ⟨j + 1, z3, g3, u3, qt, n2 + 1, fa1, fk1, fl1, fa2, fk2, fl2, fa3, fk3, fl3, by omega, by go_num, by go_num, HKK, ?_⟩
                      apply Mem.pick (is := [0, 2, 4, 5, 6])
                      · (repeat' (first | with_reducible exact hM | with_reducible exact hMp | with_reducible apply Mem.drew | with_reducible apply Mem.drewN | with_reducible apply Mem.alloc | with_reducible apply Mem.set | with_reducible exact Sto.row | ((with_reducible refine Sto.rowEq2 ?_ ?_); omega; rfl) | ((with_reducible refine Sto.rowEq ?_); omega) | with_reducible apply Sto.int | with_reducible apply Sto.there | with_reducible assumption | (unfold I64; omega) | (with_reducible (have hMx := Mem.undrew hM; exact hMx)) | (with_reducible (have hMx := Mem.undrew hMp; exact hMx))))
                      · decide
                      · rfl
                    case measure => simp [intOf]; omega
            · as_aux_lemma =>
                obtain rfl : j = vs.length := by omega
                have h1 := HS.out
                rw [List.take_of_length_le (Nat.le_refl _)] at h1
                have h2 := HR1.out; have h3 := HR2.out
                rw [h1] at h2 h3
                dsimp only at h2 h3
                injection h2 with e1 e2 e3 e4 e5 e6
                subst e1 e2 e3 e4 e5 e6 h3
                clear h1 HS HR1 HR2 HRN
                replace hM := Mem.unpackAt [_] hM
                dsimp only [List.cons_append, List.nil_append] at hM
                replace hM := Mem.unpackAt [_, _, _, _, _, _] hM
                dsimp only [List.cons_append, List.nil_append] at hM
                obtain ⟨k0, f0, l0⟩ := hM.row .here
                obtain ⟨k5, f5, l5⟩ := hM.row (.there (.there (.there (.there (.there .here)))))
                go_wp2_with fail
                clear k0 f0 l0 k5 f5 l5
                apply Mem.atA
                · (repeat' (first | with_reducible exact hM | with_reducible exact hMp | with_reducible apply Mem.drew | with_reducible apply Mem.drewN | with_reducible apply Mem.alloc | with_reducible apply Mem.set | with_reducible exact Sto.row | ((with_reducible refine Sto.rowEq2 ?_ ?_); omega; rfl) | ((with_reducible refine Sto.rowEq ?_); omega) | with_reducible apply Sto.int | with_reducible apply Sto.there | with_reducible assumption | (unfold I64; omega) | (with_reducible (have hMx := Mem.undrew hM; exact hMx)) | (with_reducible (have hMx := Mem.undrew hMp; exact hMx))))
                clear hM
                intro wst hM
                (try simp only [World.size_alloc, World.size_setCell, World.heap_drewN, heapDrew, Nat.add_assoc, Nat.reduceAdd, List.setIfInBounds_toArray, List.set_cons_zero, List.set_cons_succ, List.cons_append, List.nil_append] at hM)
                (first | refine (vIncident_same W H _ _ _ zs2 _ _ _ gs2 _ _ _ us2 gt2 _ _ _ _ _ _ _ _ _ _ (hM.intsR (.there .here)) (hM.intsR (.there (.there .here))) (hM.intsR (.there (.there (.there .here)))) (hM.intsR (.there (.there (.there (.there (.there (.there .here))))))) (hM.intsR (.there (.there (.there (.there (.there (.there (.there .here)))))))) (hM.intsR (.there (.there (.there (.there (.there (.there (.there (.there .here)))))))))).mono ?_)
                rintro e wc15 ⟨rfl, hb⟩
                replace hM := hM.ext hb
                clear hb
                go_wp2_with fail
                go_meet
                exact hM.sub (by simp)
      case rest =>
        as_aux_lemma =>
          clear hM HQ0 hbb1 hbc hvl
          have hM := hcut
          clear hcut
          go_wp2_with fail
          apply Mem.atA
          · (repeat' (first | with_reducible exact hM | with_reducible exact hMp | with_reducible apply Mem.drew | with_reducible apply Mem.drewN | with_reducible apply Mem.alloc | with_reducible apply Mem.set | with_reducible exact Sto.row | ((with_reducible refine Sto.rowEq2 ?_ ?_); omega; rfl) | ((with_reducible refine Sto.rowEq ?_); omega) | with_reducible apply Sto.int | with_reducible apply Sto.there | with_reducible assumption | (unfold I64; omega) | (with_reducible (have hMx := Mem.undrew hM; exact hMx)) | (with_reducible (have hMx := Mem.undrew hMp; exact hMx))))
          clear hM
          intro wst hM
          (try simp only [World.size_alloc, World.size_setCell, World.heap_drewN, heapDrew, Nat.add_assoc, Nat.reduceAdd, List.setIfInBounds_toArray, List.set_cons_zero, List.set_cons_succ, List.cons_append, List.nil_append] at hM)
          (first | refine (drawTer_new (HC.out.ext hM.below)).mono ?_)
          rintro e w1 ⟨W, H, a1, c1, xs, a2, c2, ys, hS, hyl, rfl, hm⟩
          replace hM := hM.join hm
          clear hm
          (try simp only [World.size_alloc, World.size_setCell, World.heap_drewN, heapDrew, Nat.add_assoc, Nat.reduceAdd, List.setIfInBounds_toArray, List.set_cons_zero, List.set_cons_succ, List.cons_append, List.nil_append] at hM)
          clear hS hyl
          obtain ⟨⟨⟨gW, gH, zs, gs, us, gt⟩, v1⟩, hq0⟩ : ∃ r, newR W H xs ys = r := ⟨_, rfl⟩
          have HQ0 := Lib.hid hq0; clear hq0
          have hbb1 : (v1 == v1) = true := by cases v1 <;> rfl
          go_wp2_with fail
          apply Mem.atA
          · (repeat' (first | with_reducible exact hM | with_reducible exact hMp | with_reducible apply Mem.drew | with_reducible apply Mem.drewN | with_reducible apply Mem.alloc | with_reducible apply Mem.set | with_reducible exact Sto.row | ((with_reducible refine Sto.rowEq2 ?_ ?_); omega; rfl) | ((with_reducible refine Sto.rowEq ?_); omega) | with_reducible apply Sto.int | with_reducible apply Sto.there | with_reducible assumption | (unfold I64; omega) | (with_reducible (have hMx := Mem.undrew hM; exact hMx)) | (with_reducible (have hMx := Mem.undrew hMp; exact hMx))))
          clear hM
          intro wst hM
          (try simp only [World.size_alloc, World.size_setCell, World.heap_drewN, heapDrew, Nat.add_assoc, Nat.reduceAdd, List.setIfInBounds_toArray, List.set_cons_zero, List.set_cons_succ, List.cons_append, List.nil_append] at hM)
          (first | refine (implNewInc_any W H a1 xs.length c1 xs a2 ys.length c2 ys _ (hM.intsR (.there (.there .here))) (hM.intsR (.there .here))).mono ?_)
          rw [HQ0.out]
          rintro e w3 ⟨b1, m1, d1, b2, m2, d2, b3, m3, d3, rfl, hm⟩
          replace hM := hM.join hm
          clear hm
          (try simp only [World.size_alloc, World.size_setCell, World.heap_drewN, heapDrew, Nat.add_assoc, Nat.reduceAdd, List.setIfInBounds_toArray, List.set_cons_zero, List.set_cons_succ, List.cons_append, List.nil_append] at hM)
          dsimp only at hM ⊢
          obtain ⟨k3, f3, l3⟩ := hM.row (.there (.there (.there .here)))
          go_wp2_with fail
          clear k3 f3 l3
          apply Mem.atA
          · (repeat' (first | with_reducible exact hM | with_reducible exact hMp | with_reducible apply Mem.drew | with_reducible apply Mem.drewN | with_reducible apply Mem.alloc | with_reducible apply Mem.set | with_reducible exact Sto.row | ((with_reducible refine Sto.rowEq2 ?_ ?_); omega; rfl) | ((with_reducible refine Sto.rowEq ?_); omega) | with_reducible apply Sto.int | with_reducible apply Sto.there | with_reducible assumption | (unfold I64; omega) | (with_reducible (have hMx := Mem.undrew hM; exact hMx)) | (with_reducible (have hMx := Mem.undrew hMp; exact hMx))))
          clear hM
          intro wst hM
          (try simp only [World.size_alloc, World.size_setCell, World.heap_drewN, heapDrew, Nat.add_assoc, Nat.reduceAdd, List.setIfInBounds_toArray, List.set_cons_zero, List.set_cons_succ, List.cons_append, List.nil_append] at hM)
          (first | refine (specNewInc_any W H a1 xs.length c1 xs a2 ys.length c2 ys _ (hM.intsR (.there (.there (.there (.there (.there (.there .here))))))) (hM.intsR (.there (.there (.there (.there (.there .here))))))).mono ?_)
          rw [HQ0.out]
          rintro e w4 ⟨e1, p1, q1, e2, p2, q2, e3, p3, q3, rfl, hm⟩
          replace hM := hM.join hm
          clear hm
          (try simp only [World.size_alloc, World.size_setCell, World.heap_drewN, heapDrew, Nat.add_assoc, Nat.reduceAdd, List.setIfInBounds_toArray, List.set_cons_zero, List.set_cons_succ, List.cons_append, List.nil_append] at hM)
          dsimp only at hM ⊢
          obtain ⟨k3, f3, l3⟩ := hM.row (.there (.there (.there .here)))
          go_wp2_with fail
          clear k3 f3 l3
          apply Mem.atA
          · (repeat' (first | with_reducible exact hM | with_reducible exact hMp | with_reducible apply Mem.drew | with_reducible apply Mem.drewN | with_reducible apply Mem.alloc | with_reducible apply Mem.set | with_reducible exact Sto.row | ((with_reducible refine Sto.rowEq2 ?_ ?_); omega; rfl) | ((with_reducible refine Sto.rowEq ?_); omega) | with_reducible apply Sto.int | with_reducible apply Sto.there | with_reducible assumption | (unfold I64; omega) | (with_reducible (have hMx := Mem.undrew hM; exact hMx)) | (with_reducible (have hMx := Mem.undrew hMp; exact hMx))))
          clear hM
          intro wst hM
          (try simp only [World.size_alloc, World.size_setCell, World.heap_drewN, heapDrew, Nat.add_assoc, Nat.reduceAdd, List.setIfInBounds_toArray, List.set_cons_zero, List.set_cons_succ, List.cons_append, List.nil_append] at hM)
          (first | refine (vIncident_same gW gH _ _ _ zs _ _ _ gs _ _ _ us gt _ _ _ _ _ _ _ _ _ _ (hM.intsR (.there (.there (.there (.there (.there .here)))))) (hM.intsR (.there (.there (.there (.there (.there (.there .here))))))) (hM.intsR (.there (.there (.there (.there (.there (.there (.there .here)))))))) (hM.intsR (.there .here)) (hM.intsR (.there (.there .here))) (hM.intsR (.there (.there (.there .here))))).mono ?_)
          rintro e wc19 ⟨rfl, hb⟩
          replace hM := hM.ext hb
          clear hb
          go_wp2
          go_ret
          exact ⟨rfl, (by apply Mem.below; (repeat' (first | with_reducible exact hM | with_reducible exact hMp | with_reducible apply Mem.drew | with_reducible apply Mem.drewN | with_reducible apply Mem.alloc | with_reducible apply Mem.set | with_reducible exact Sto.row | ((with_reducible refine Sto.rowEq2 ?_ ?_); omega; rfl) | ((with_reducible refine Sto.rowEq ?_); omega) | with_reducible apply Sto.int | with_reducible apply Sto.there | with_reducible assumption | (unfold I64; omega) | (with_reducible (have hMx := Mem.undrew hM; exact hMx)) | (with_reducible (have hMx := Mem.undrew hMp; exact hMx)))))⟩
end Go.Proofs.Ytkohfegajcmdbaa

/-
  The law FnNeighbors, walked.
-/
import Derived.Test.YtkohfegajcmdbaaNbrF
import Derived.Test.YtkohfegajcmdbaaDrawTer2
import Derived.Test.YtkohfegajcmdbaaLawV
import Derived.Test.YtkohfegajcmdbaaClear2
import Derived.Test.YtkohfegajcmdbaaRegF
import Derived.Deep.DeepCutAuto
namespace Go.Proofs.Ytkohfegajcmdbaa
set_option linter.unusedSimpArgs false
set_option linter.unusedVariables false
open Go.RowKit

theorem any_take_succI {p : Int → Bool} {xs : List Int} {k : Nat} (hk : k < xs.length) : (xs.take (k + 1)).any p = ((xs.take k).any p || p (xs.getD k 0)) := any_take_succ hk
set_option maxRecDepth 100000 in
set_option maxHeartbeats 8000000 in
theorem FnNeighbors_walk (a : Option Addr) (n cc : Nat) (l : List UInt8) (w : World) (hI : n ≤ maxLen ∧ (n ≤ 65536 → Rd FByt w a n cc l)) :
    Calls Try.prog 3 #[.slice a n cc] w fun e w' => e = .returned (.bool true) ∧ Below w.heap.size w w' := by
  have hM := Mem.start w
  have HI := Lib.hid hI.2
  clear hI
  go_enter Try.func3, Try.ntmps3
  go_wp2_with fail
  apply Mem.atA
  · (repeat' (first | with_reducible exact hM | with_reducible exact hMp | with_reducible apply Mem.drew | with_reducible apply Mem.drewN | with_reducible apply Mem.alloc | with_reducible apply Mem.set | with_reducible exact Sto.row | ((with_reducible refine Sto.rowEq2 ?_ ?_); omega; rfl) | ((with_reducible refine Sto.rowEq ?_); omega) | with_reducible apply Sto.int | with_reducible apply Sto.there | with_reducible assumption | (unfold I64; omega) | (with_reducible (have hMx := Mem.undrew hM; exact hMx)) | (with_reducible (have hMx := Mem.undrew hMp; exact hMx))))
  clear hM
  intro wst hM
  (try simp only [World.size_alloc, World.size_setCell, World.heap_drewN, heapDrew, Nat.add_assoc, Nat.reduceAdd, List.setIfInBounds_toArray, List.set_cons_zero, List.set_cons_succ, List.cons_append, List.nil_append] at hM)
  (first | refine (vBig_any a n cc _).mono ?_)
  rintro e wc1 ⟨rfl, hb⟩
  replace hM := hM.ext hb
  clear hb
  by_cases hb : 65536 < n
  · go_wp2
    go_ret
    exact ⟨rfl, (by apply Mem.below; (repeat' (first | with_reducible exact hM | with_reducible exact hMp | with_reducible apply Mem.drew | with_reducible apply Mem.drewN | with_reducible apply Mem.alloc | with_reducible apply Mem.set | with_reducible exact Sto.row | ((with_reducible refine Sto.rowEq2 ?_ ?_); omega; rfl) | ((with_reducible refine Sto.rowEq ?_); omega) | with_reducible apply Sto.int | with_reducible apply Sto.there | with_reducible assumption | (unfold I64; omega) | (with_reducible (have hMx := Mem.undrew hM; exact hMx)) | (with_reducible (have hMx := Mem.undrew hMp; exact hMx)))))⟩
  have HC := Lib.hid (HI.out (by omega))
  clear HI
  go_wp2_with fail
  apply Mem.atA
  · (repeat' (first | with_reducible exact hM | with_reducible exact hMp | with_reducible apply Mem.drew | with_reducible apply Mem.drewN | with_reducible apply Mem.alloc | with_reducible apply Mem.set | with_reducible exact Sto.row | ((with_reducible refine Sto.rowEq2 ?_ ?_); omega; rfl) | ((with_reducible refine Sto.rowEq ?_); omega) | with_reducible apply Sto.int | with_reducible apply Sto.there | with_reducible assumption | (unfold I64; omega) | (with_reducible (have hMx := Mem.undrew hM; exact hMx)) | (with_reducible (have hMx := Mem.undrew hMp; exact hMx))))
  clear hM
  intro wst hM
  (try simp only [World.size_alloc, World.size_setCell, World.heap_drewN, heapDrew, Nat.add_assoc, Nat.reduceAdd, List.setIfInBounds_toArray, List.set_cons_zero, List.set_cons_succ, List.cons_append, List.nil_append] at hM)
  (first | refine (drawTer_near (HC.out.ext hM.below)).mono ?_)
  rintro e w1 ⟨W, H, a1, c1, xs, p, hS, hp, rfl, hm⟩
  replace hM := hM.join hm
  clear hm
  (try simp only [World.size_alloc, World.size_setCell, World.heap_drewN, heapDrew, Nat.add_assoc, Nat.reduceAdd, List.setIfInBounds_toArray, List.set_cons_zero, List.set_cons_succ, List.cons_append, List.nil_append] at hM)
  clear hS hp
  obtain ⟨⟨ns, v1⟩, hq0⟩ : ∃ r, nbrR W H xs p = r := ⟨_, rfl⟩
  have HQ0 := Lib.hid hq0; clear hq0
  have hbb1 : (v1 != v1) = false := by cases v1 <;> rfl
  go_wp2_with fail
  apply Mem.atA
  · (repeat' (first | with_reducible exact hM | with_reducible exact hMp | with_reducible apply Mem.drew | with_reducible apply Mem.drewN | with_reducible apply Mem.alloc | with_reducible apply Mem.set | with_reducible exact Sto.row | ((with_reducible refine Sto.rowEq2 ?_ ?_); omega; rfl) | ((with_reducible refine Sto.rowEq ?_); omega) | with_reducible apply Sto.int | with_reducible apply Sto.there | with_reducible assumption | (unfold I64; omega) | (with_reducible (have hMx := Mem.undrew hM; exact hMx)) | (with_reducible (have hMx := Mem.undrew hMp; exact hMx))))
  clear hM
  intro wst hM
  (try simp only [World.size_alloc, World.size_setCell, World.heap_drewN, heapDrew, Nat.add_assoc, Nat.reduceAdd, List.setIfInBounds_toArray, List.set_cons_zero, List.set_cons_succ, List.cons_append, List.nil_append] at hM)
  (first | refine (implNbr_any W H a1 xs.length c1 xs p _ (hM.intsR (.there .here))).mono ?_)
  rw [HQ0.out]
  rintro e w3 ⟨a3, n3, c3, rfl, hm⟩
  replace hM := hM.join hm
  clear hm
  (try simp only [World.size_alloc, World.size_setCell, World.heap_drewN, heapDrew, Nat.add_assoc, Nat.reduceAdd, List.setIfInBounds_toArray, List.set_cons_zero, List.set_cons_succ, List.cons_append, List.nil_append] at hM)
  dsimp only at hM ⊢
  obtain ⟨k1, f1, l1⟩ := hM.row (.there .here)
  go_wp2_with fail
  clear k1 f1 l1
  apply Mem.atA
  · (repeat' (first | with_reducible exact hM | with_reducible exact hMp | with_reducible apply Mem.drew | with_reducible apply Mem.drewN | with_reducible apply Mem.alloc | with_reducible apply Mem.set | with_reducible exact Sto.row | ((with_reducible refine Sto.rowEq2 ?_ ?_); omega; rfl) | ((with_reducible refine Sto.rowEq ?_); omega) | with_reducible apply Sto.int | with_reducible apply Sto.there | with_reducible assumption | (unfold I64; omega) | (with_reducible (have hMx := Mem.undrew hM; exact hMx)) | (with_reducible (have hMx := Mem.undrew hMp; exact hMx))))
  clear hM
  intro wst hM
  (try simp only [World.size_alloc, World.size_setCell, World.heap_drewN, heapDrew, Nat.add_assoc, Nat.reduceAdd, List.setIfInBounds_toArray, List.set_cons_zero, List.set_cons_succ, List.cons_append, List.nil_append] at hM)
  (first | refine (specNbr_any W H a1 xs.length c1 xs p _ (hM.intsR (.there (.there .here)))).mono ?_)
  rw [HQ0.out]
  rintro e w4 ⟨a4, n4, c4, rfl, hm⟩
  replace hM := hM.join hm
  clear hm
  (try simp only [World.size_alloc, World.size_setCell, World.heap_drewN, heapDrew, Nat.add_assoc, Nat.reduceAdd, List.setIfInBounds_toArray, List.set_cons_zero, List.set_cons_succ, List.cons_append, List.nil_append] at hM)
  dsimp only at hM ⊢
  obtain rfl : n3 = ns.length := (hM.ints (.there .here)).len.symm
  go_wp2_with fail
  apply Mem.atA
  · (repeat' (first | with_reducible exact hM | with_reducible exact hMp | with_reducible apply Mem.drew | with_reducible apply Mem.drewN | with_reducible apply Mem.alloc | with_reducible apply Mem.set | with_reducible exact Sto.row | ((with_reducible refine Sto.rowEq2 ?_ ?_); omega; rfl) | ((with_reducible refine Sto.rowEq ?_); omega) | with_reducible apply Sto.int | with_reducible apply Sto.there | with_reducible assumption | (unfold I64; omega) | (with_reducible (have hMx := Mem.undrew hM; exact hMx)) | (with_reducible (have hMx := Mem.undrew hMp; exact hMx))))
  clear hM
  intro wst hM
  (try simp only [World.size_alloc, World.size_setCell, World.heap_drewN, heapDrew, Nat.add_assoc, Nat.reduceAdd, List.setIfInBounds_toArray, List.set_cons_zero, List.set_cons_succ, List.cons_append, List.nil_append] at hM)
  (first | refine (vInts_same _ _ _ ns _ _ _ _ (hM.intsR (.there .here)) (hM.intsR .here)).mono ?_)
  rintro e wc5 ⟨rfl, hb⟩
  replace hM := hM.ext hb
  clear hb
  replace hM := hM.tail
  have hns := (hM.ints .here).ints.room
  go_wp2_with fail
  go_loopw [9] (fun s9 wr => ∃ k : Nat, k ≤ ns.length ∧ s9 = .int .i64 k ∧ Mem w.heap.size w wr [intE a3 ns.length c3 ns, rowE w1.heap.size 26 #[.int .i64 W, .int .i64 H, .slice a1 xs.length c1], intE a1 xs.length c1 xs]) (fun s9 _ => ns.length - (intOf s9).toNat)
  case atStart => exact ⟨0, Nat.zero_le _, rfl, hM⟩
  case round =>
    clear hM
    obtain ⟨k, hk, rfl, hM⟩ := hrel
    by_cases hlt : k < ns.length
    · as_aux_lemma =>
        obtain ⟨x, cs, h1, h2, h3, h4, h5⟩ := nbr_at HQ0.out hlt
        have HX := Lib.hid h1; have HNB := Lib.hid h3; have HHV := Lib.hid h4; have HST := Lib.hid h5
        clear h1 h3 h4 h5 HQ0 hbb1
        obtain ⟨g3, rfl, -⟩ := (hM.ints .here).head (by omega)
        have i0 : (0 : Int) ≤ (k : Int) := by omega
        have i1 : (k : Int) < (ns.length : Int) := by omega
        go_upto_region 11 with fail
        apply Mem.atWpA
        · (repeat' (first | with_reducible exact hM | with_reducible exact hMp | with_reducible apply Mem.drew | with_reducible apply Mem.drewN | with_reducible apply Mem.alloc | with_reducible apply Mem.set | with_reducible exact Sto.row | ((with_reducible refine Sto.rowEq2 ?_ ?_); omega; rfl) | ((with_reducible refine Sto.rowEq ?_); omega) | with_reducible apply Sto.int | with_reducible apply Sto.there | with_reducible assumption | (unfold I64; omega) | (with_reducible (have hMx := Mem.undrew hM; exact hMx)) | (with_reducible (have hMx := Mem.undrew hMp; exact hMx))))
        clear hM
        intro wst hM
        (try simp only [World.size_alloc, World.size_setCell, World.heap_drewN, heapDrew, Nat.add_assoc, Nat.reduceAdd, List.setIfInBounds_toArray, List.set_cons_zero, List.set_cons_succ, List.cons_append, List.nil_append] at hM)
        refine AtF.startA hM hM 10 (by kernel_rfl) ?_
        clear hM
        intro wd hM
        have hS := hM
        refine AtF.taked (i := 0) (v := ?_) (some 88) rfl rfl (by kernel_rfl) (by kernel_rfl) (by kernel_rfl) (anc_path [] _ _ (by kernel_rfl) (by kernel_rfl)) (fun _ _ _ h => h) (Or.inl ⟨by kernel_rfl, ?_⟩) hS rfl ?_
        rotate_left
        · (intro wS hSw; (try dsimp only at hSw); have kr0 := (Mem.row hSw (.there .here)).cell; have hce := (hSw.ints .here).cellAt hlt; rw [HX.out] at hce; go_simp; (try rw [if_neg (by omega)]); try with_reducible rfl)
        simp only [Act.put, List.setIfInBounds_toArray, List.set_cons_zero, List.set_cons_succ]
        refine AtF.taked (i := 1) (v := ?_) (some 89) rfl rfl (by kernel_rfl) (by kernel_rfl) (by kernel_rfl) (anc_path [] _ _ (by kernel_rfl) (by kernel_rfl)) (fun _ _ _ h => h) (Or.inl ⟨by kernel_rfl, ?_⟩) hS rfl ?_
        rotate_left
        · (intro wS hSw; (try dsimp only at hSw); go_simp; (try rw [if_neg (by omega)]); try with_reducible rfl)
        simp only [Act.put, List.setIfInBounds_toArray, List.set_cons_zero, List.set_cons_succ]
        refine AtF.taked (i := 2) (v := ?_) (some 90) rfl rfl (by kernel_rfl) (by kernel_rfl) (by kernel_rfl) (anc_path [] _ _ (by kernel_rfl) (by kernel_rfl)) (fun _ _ _ h => h) (Or.inl ⟨by kernel_rfl, ?_⟩) hS rfl ?_
        rotate_left
        · (intro wS hSw; (try dsimp only at hSw); go_simp; (try rw [if_neg (by omega)]); try with_reducible rfl)
        simp only [Act.put, List.setIfInBounds_toArray, List.set_cons_zero, List.set_cons_succ]
        refine AtF.taked (i := 3) (v := ?_) (some 91) rfl rfl (by kernel_rfl) (by kernel_rfl) (by kernel_rfl) (anc_path [] _ _ (by kernel_rfl) (by kernel_rfl)) (fun _ _ _ h => h) (Or.inl ⟨by kernel_rfl, ?_⟩) hS rfl ?_
        rotate_left
        · (intro wS hSw; (try dsimp only at hSw); have kr0 := (Mem.row hSw (.there .here)).cell; have hce := (hSw.ints .here).cellAt hlt; rw [HX.out] at hce; go_simp; (try rw [if_neg (by omega)]); try with_reducible rfl)
        simp only [Act.put, List.setIfInBounds_toArray, List.set_cons_zero, List.set_cons_succ]
        refine AtF.taked (i := 4) (v := ?_) (some 92) rfl rfl (by kernel_rfl) (by kernel_rfl) (by kernel_rfl) (anc_path [] _ _ (by kernel_rfl) (by kernel_rfl)) (fun _ _ _ h => h) (Or.inl ⟨by kernel_rfl, ?_⟩) hS rfl ?_
        rotate_left
        · (intro wS hSw; (try dsimp only at hSw); have kr0 := (Mem.row hSw (.there .here)).cell; have hce := (hSw.ints .here).cellAt hlt; rw [HX.out] at hce; go_simp; (try rw [if_neg (by omega)]); try with_reducible rfl)
        simp only [Act.put, List.setIfInBounds_toArray, List.set_cons_zero, List.set_cons_succ]
        refine AtF.only (i := 5) (by kernel_rfl) rfl rfl ?_
        intro K hK
        go_simp
        refine (implNbr_any W H a1 xs.length c1 xs x _ (hM.ints (.there (.there .here))).ints).mono ?_
        rw [HNB.out]
        rintro e w5 ⟨a5, n5, c5, rfl, hm⟩
        replace hM := hM.join hm
        clear hm
        dsimp only [List.cons_append, List.nil_append] at hM
        try dsimp only
        refine hK.out _ _ (hM.tail) ?_
        clear hK K hS
        have hS := hM.tail
        refine AtF.taked (i := 6) (v := ?_) (some 87) rfl rfl (by kernel_rfl) (by kernel_rfl) (by kernel_rfl) (anc_path [] _ _ (by kernel_rfl) (by kernel_rfl)) (fun _ _ _ h => h) (Or.inl ⟨by kernel_rfl, ?_⟩) hS rfl ?_
        rotate_left
        · (intro wS hSw; (try dsimp only at hSw); go_simp; (try rw [if_neg (by omega)]); try with_reducible rfl)
        simp only [Act.put, List.setIfInBounds_toArray, List.set_cons_zero, List.set_cons_succ]
        refine AtF.taked (i := 7) (v := ?_) (some 94) rfl rfl (by kernel_rfl) (by kernel_rfl) (by kernel_rfl) (anc_path [] _ _ (by kernel_rfl) (by kernel_rfl)) (fun _ _ _ h => h) (Or.inl ⟨by kernel_rfl, ?_⟩) hS rfl ?_
        rotate_left
        · (intro wS hSw; (try dsimp only at hSw); go_simp; (try rw [if_neg (by omega)]); try with_reducible rfl)
        simp only [Act.put, List.setIfInBounds_toArray, List.set_cons_zero, List.set_cons_succ]
        refine AtF.taked (i := 8) (v := ?_) (some 95) rfl rfl (by kernel_rfl) (by kernel_rfl) (by kernel_rfl) (anc_path [] _ _ (by kernel_rfl) (by kernel_rfl)) (fun _ _ _ h => h) (Or.inl ⟨by kernel_rfl, ?_⟩) hS rfl ?_
        rotate_left
        · (intro wS hSw; (try dsimp only at hSw); go_simp; (try rw [if_neg (by omega)]); try with_reducible rfl)
        simp only [Act.put, List.setIfInBounds_toArray, List.set_cons_zero, List.set_cons_succ]
        refine AtF.taked (i := 9) (v := ?_) (some 10) rfl rfl (by kernel_rfl) (by kernel_rfl) (by kernel_rfl) (anc_path [] _ _ (by kernel_rfl) (by kernel_rfl)) (fun _ _ _ h => h) (Or.inl ⟨by kernel_rfl, ?_⟩) hS rfl ?_
        rotate_left
        · (intro wS hSw; (try dsimp only at hSw); go_simp; (try rw [if_neg (by omega)]); try with_reducible rfl)
        simp only [Act.put, List.setIfInBounds_toArray, List.set_cons_zero, List.set_cons_succ]
        refine AtF.last (by kernel_rfl) rfl (by kernel_rfl) ?_
        intro K hK
        clear hS
        go_simp
        refine hK.out _ _ ?_
        clear hK K
        apply Mem.atEx
        · (repeat' (first | with_reducible exact hM | with_reducible exact hMp | with_reducible apply Mem.drew | with_reducible apply Mem.drewN | with_reducible apply Mem.alloc | with_reducible apply Mem.set | with_reducible exact Sto.row | ((with_reducible refine Sto.rowEq2 ?_ ?_); omega; rfl) | ((with_reducible refine Sto.rowEq ?_); omega) | with_reducible apply Sto.int | with_reducible apply Sto.there | with_reducible assumption | (unfold I64; omega) | (with_reducible (have hMx := Mem.undrew hM; exact hMx)) | (with_reducible (have hMx := Mem.undrew hMp; exact hMx))))
        clear hM
        intro wst hM
        (try simp only [World.size_alloc, World.size_setCell, World.heap_drewN, heapDrew, Nat.add_assoc, Nat.reduceAdd, List.setIfInBounds_toArray, List.set_cons_zero, List.set_cons_succ, List.cons_append, List.nil_append] at hM)
        go_upto_region 12 with fail
        apply Mem.atWpA
        · (repeat' (first | with_reducible exact hM | with_reducible exact hMp | with_reducible apply Mem.drew | with_reducible apply Mem.drewN | with_reducible apply Mem.alloc | with_reducible apply Mem.set | with_reducible exact Sto.row | ((with_reducible refine Sto.rowEq2 ?_ ?_); omega; rfl) | ((with_reducible refine Sto.rowEq ?_); omega) | with_reducible apply Sto.int | with_reducible apply Sto.there | with_reducible assumption | (unfold I64; omega) | (with_reducible (have hMx := Mem.undrew hM; exact hMx)) | (with_reducible (have hMx := Mem.undrew hMp; exact hMx))))
        clear hM
        intro wst hM
        (try simp only [World.size_alloc, World.size_setCell, World.heap_drewN, heapDrew, Nat.add_assoc, Nat.reduceAdd, List.setIfInBounds_toArray, List.set_cons_zero, List.set_cons_succ, List.cons_append, List.nil_append] at hM)
        refine AtF.startA hM hM 11 (by kernel_rfl) ?_
        clear hM
        intro wd hM
        have hS := hM
        refine AtF.taked (i := 0) (v := ?_) (some 97) rfl rfl (by kernel_rfl) (by kernel_rfl) (by kernel_rfl) (anc_path [] _ _ (by kernel_rfl) (by kernel_rfl)) (fun _ _ _ h => h) (Or.inl ⟨by kernel_rfl, ?_⟩) hS rfl ?_
        rotate_left
        · (intro wS hSw; (try dsimp only at hSw); have kr0 := (Mem.row hSw (.there (.there .here))).cell; have hce := (hSw.ints (.there .here)).cellAt hlt; rw [HX.out] at hce; go_simp; (try rw [if_neg (by omega)]); try with_reducible rfl)
        simp only [Act.put, List.setIfInBounds_toArray, List.set_cons_zero, List.set_cons_succ]
        refine AtF.taked (i := 1) (v := ?_) (some 98) rfl rfl (by kernel_rfl) (by kernel_rfl) (by kernel_rfl) (anc_path [] _ _ (by kernel_rfl) (by kernel_rfl)) (fun _ _ _ h => h) (Or.inl ⟨by kernel_rfl, ?_⟩) hS rfl ?_
        rotate_left
        · (intro wS hSw; (try dsimp only at hSw); go_simp; (try rw [if_neg (by omega)]); try with_reducible rfl)
        simp only [Act.put, List.setIfInBounds_toArray, List.set_cons_zero, List.set_cons_succ]
        refine AtF.taked (i := 2) (v := ?_) (some 99) rfl rfl (by kernel_rfl) (by kernel_rfl) (by kernel_rfl) (anc_path [] _ _ (by kernel_rfl) (by kernel_rfl)) (fun _ _ _ h => h) (Or.inl ⟨by kernel_rfl, ?_⟩) hS rfl ?_
        rotate_left
        · (intro wS hSw; (try dsimp only at hSw); go_simp; (try rw [if_neg (by omega)]); try with_reducible rfl)
        simp only [Act.put, List.setIfInBounds_toArray, List.set_cons_zero, List.set_cons_succ]
        refine AtF.taked (i := 3) (v := ?_) (some 100) rfl rfl (by kernel_rfl) (by kernel_rfl) (by kernel_rfl) (anc_path [] _ _ (by kernel_rfl) (by kernel_rfl)) (fun _ _ _ h => h) (Or.inl ⟨by kernel_rfl, ?_⟩) hS rfl ?_
        rotate_left
        · (intro wS hSw; (try dsimp only at hSw); go_simp; (try rw [if_neg (by omega)]); try with_reducible rfl)
        simp only [Act.put, List.setIfInBounds_toArray, List.set_cons_zero, List.set_cons_succ]
        refine AtF.taked (i := 4) (v := ?_) (some 101) rfl rfl (by kernel_rfl) (by kernel_rfl) (by kernel_rfl) (anc_path [] _ _ (by kernel_rfl) (by kernel_rfl)) (fun _ _ _ h => h) (Or.inl ⟨by kernel_rfl, ?_⟩) hS rfl ?_
        rotate_left
        · (intro wS hSw; (try dsimp only at hSw); have kr0 := (Mem.row hSw (.there (.there .here))).cell; have hce := (hSw.ints (.there .here)).cellAt hlt; rw [HX.out] at hce; go_simp; (try rw [if_neg (by omega)]); try with_reducible rfl)
        simp only [Act.put, List.setIfInBounds_toArray, List.set_cons_zero, List.set_cons_succ]
        refine AtF.taked (i := 5) (v := ?_) (some 102) rfl rfl (by kernel_rfl) (by kernel_rfl) (by kernel_rfl) (anc_path [] _ _ (by kernel_rfl) (by kernel_rfl)) (fun _ _ _ h => h) (Or.inl ⟨by kernel_rfl, ?_⟩) hS rfl ?_
        rotate_left
        · (intro wS hSw; (try dsimp only at hSw); have kr0 := (Mem.row hSw (.there (.there .here))).cell; have hce := (hSw.ints (.there .here)).cellAt hlt; rw [HX.out] at hce; go_simp; (try rw [if_neg (by omega)]); try with_reducible rfl)
        simp only [Act.put, List.setIfInBounds_toArray, List.set_cons_zero, List.set_cons_succ]
        refine AtF.only (i := 6) (by kernel_rfl) rfl rfl ?_
        intro K hK
        go_simp
        refine (implStep_any W H a1 xs.length c1 xs p x _ (hM.ints (.there (.there (.there .here)))).ints).mono ?_
        rw [HST.out]
        rintro e w6 ⟨rfl, hb⟩
        replace hM := hM.ext hb
        clear hb
        dsimp only
        try dsimp only
        refine hK.out _ _ (hM) ?_
        clear hK K hS
        have hS := hM
        refine AtF.taked (i := 7) (v := ?_) (some 96) rfl rfl (by kernel_rfl) (by kernel_rfl) (by kernel_rfl) (anc_path [] _ _ (by kernel_rfl) (by kernel_rfl)) (fun _ _ _ h => h) (Or.inl ⟨by kernel_rfl, ?_⟩) hS rfl ?_
        rotate_left
        · (intro wS hSw; (try dsimp only at hSw); go_simp; (try rw [if_neg (by omega)]); try with_reducible rfl)
        simp only [Act.put, List.setIfInBounds_toArray, List.set_cons_zero, List.set_cons_succ]
        refine AtF.taked (i := 8) (v := ?_) (some 104) rfl rfl (by kernel_rfl) (by kernel_rfl) (by kernel_rfl) (anc_path [] _ _ (by kernel_rfl) (by kernel_rfl)) (fun _ _ _ h => h) (Or.inl ⟨by kernel_rfl, ?_⟩) hS rfl ?_
        rotate_left
        · (intro wS hSw; (try dsimp only at hSw); go_simp; (try rw [if_neg (by omega)]); try with_reducible rfl)
        simp only [Act.put, List.setIfInBounds_toArray, List.set_cons_zero, List.set_cons_succ]
        refine AtF.taked (i := 9) (v := ?_) (some 105) rfl rfl (by kernel_rfl) (by kernel_rfl) (by kernel_rfl) (anc_path [] _ _ (by kernel_rfl) (by kernel_rfl)) (fun _ _ _ h => h) (Or.inl ⟨by kernel_rfl, ?_⟩) hS rfl ?_
        rotate_left
        · (intro wS hSw; (try dsimp only at hSw); go_simp; (try rw [if_neg (by omega)]); try with_reducible rfl)
        simp only [Act.put, List.setIfInBounds_toArray, List.set_cons_zero, List.set_cons_succ]
        refine AtF.taked (i := 10) (v := ?_) (some 12) rfl rfl (by kernel_rfl) (by kernel_rfl) (by kernel_rfl) (anc_path [] _ _ (by kernel_rfl) (by kernel_rfl)) (fun _ _ _ h => h) (Or.inl ⟨by kernel_rfl, ?_⟩) hS rfl ?_
        rotate_left
        · (intro wS hSw; (try dsimp only at hSw); go_simp; (try rw [if_neg (by omega)]); try with_reducible rfl)
        simp only [Act.put, List.setIfInBounds_toArray, List.set_cons_zero, List.set_cons_succ]
        refine AtF.last (by kernel_rfl) rfl (by kernel_rfl) ?_
        intro K hK
        clear hS
        go_simp
        refine hK.out _ _ ?_
        clear hK K
        apply Mem.atEx
        · (repeat' (first | with_reducible exact hM | with_reducible exact hMp | with_reducible apply Mem.drew | with_reducible apply Mem.drewN | with_reducible apply Mem.alloc | with_reducible apply Mem.set | with_reducible exact Sto.row | ((with_reducible refine Sto.rowEq2 ?_ ?_); omega; rfl) | ((with_reducible refine Sto.rowEq ?_); omega) | with_reducible apply Sto.int | with_reducible apply Sto.there | with_reducible assumption | (unfold I64; omega) | (with_reducible (have hMx := Mem.undrew hM; exact hMx)) | (with_reducible (have hMx := Mem.undrew hMp; exact hMx))))
        clear hM
        intro wst hM
        (try simp only [World.size_alloc, World.size_setCell, World.heap_drewN, heapDrew, Nat.add_assoc, Nat.reduceAdd, List.setIfInBounds_toArray, List.set_cons_zero, List.set_cons_succ, List.cons_append, List.nil_append] at hM)
        go_wp2_with fail
        apply Mem.atA
        · (repeat' (first | with_reducible exact hM | with_reducible exact hMp | with_reducible apply Mem.drew | with_reducible apply Mem.drewN | with_reducible apply Mem.alloc | with_reducible apply Mem.set | with_reducible exact Sto.row | ((with_reducible refine Sto.rowEq2 ?_ ?_); omega; rfl) | ((with_reducible refine Sto.rowEq ?_); omega) | with_reducible apply Sto.int | with_reducible apply Sto.there | with_reducible assumption | (unfold I64; omega) | (with_reducible (have hMx := Mem.undrew hM; exact hMx)) | (with_reducible (have hMx := Mem.undrew hMp; exact hMx))))
        clear hM
        intro wst hM
        (try simp only [World.size_alloc, World.size_setCell, World.heap_drewN, heapDrew, Nat.add_assoc, Nat.reduceAdd, List.setIfInBounds_toArray, List.set_cons_zero, List.set_cons_succ, List.cons_append, List.nil_append] at hM)
        (first | refine (vHas_any _ _ _ cs p _ (hM.intsR .here)).mono ?_)
        rw [HHV.out]
        rintro e wc6 ⟨rfl, rfl⟩
        go_wp2
        go_roundw
        case rel => exact ⟨k + 1, by omega, by go_num, hM.tail⟩
        case measure => simp [intOf]; omega
    · as_aux_lemma =>
        obtain rfl : k = ns.length := by omega
        clear HQ0 hbb1 hk
        replace hM := hM.sub (G' := []) (by simp)
        go_wp2_with fail
        apply Mem.atA
        · (repeat' (first | with_reducible exact hM | with_reducible exact hMp | with_reducible apply Mem.drew | with_reducible apply Mem.drewN | with_reducible apply Mem.alloc | with_reducible apply Mem.set | with_reducible exact Sto.row | ((with_reducible refine Sto.rowEq2 ?_ ?_); omega; rfl) | ((with_reducible refine Sto.rowEq ?_); omega) | with_reducible apply Sto.int | with_reducible apply Sto.there | with_reducible assumption | (unfold I64; omega) | (with_reducible (have hMx := Mem.undrew hM; exact hMx)) | (with_reducible (have hMx := Mem.undrew hMp; exact hMx))))
        clear hM
        intro wst hM
        (try simp only [World.size_alloc, World.size_setCell, World.heap_drewN, heapDrew, Nat.add_assoc, Nat.reduceAdd, List.setIfInBounds_toArray, List.set_cons_zero, List.set_cons_succ, List.cons_append, List.nil_append] at hM)
        (first | refine (drawTer_steps (HC.out.ext hM.below)).mono ?_)
        rintro e w1 ⟨W, H, a1, c1, xs, p, q, hS, hp, hq, rfl, hm⟩
        replace hM := hM.join hm
        clear hm
        (try simp only [World.size_alloc, World.size_setCell, World.heap_drewN, heapDrew, Nat.add_assoc, Nat.reduceAdd, List.setIfInBounds_toArray, List.set_cons_zero, List.set_cons_succ, List.cons_append, List.nil_append] at hM)
        clear hS hp hq
        obtain ⟨⟨s, v1⟩, hq0⟩ : ∃ r, stepR W H xs p q = r := ⟨_, rfl⟩
        have HQ0 := Lib.hid hq0; clear hq0
        have hbb1 : (v1 != v1) = false := by cases v1 <;> rfl
        have hss : (s != s) = false := by simp
        go_wp2_with fail
        apply Mem.atA
        · (repeat' (first | with_reducible exact hM | with_reducible exact hMp | with_reducible apply Mem.drew | with_reducible apply Mem.drewN | with_reducible apply Mem.alloc | with_reducible apply Mem.set | with_reducible exact Sto.row | ((with_reducible refine Sto.rowEq2 ?_ ?_); omega; rfl) | ((with_reducible refine Sto.rowEq ?_); omega) | with_reducible apply Sto.int | with_reducible apply Sto.there | with_reducible assumption | (unfold I64; omega) | (with_reducible (have hMx := Mem.undrew hM; exact hMx)) | (with_reducible (have hMx := Mem.undrew hMp; exact hMx))))
        clear hM
        intro wst hM
        (try simp only [World.size_alloc, World.size_setCell, World.heap_drewN, heapDrew, Nat.add_assoc, Nat.reduceAdd, List.setIfInBounds_toArray, List.set_cons_zero, List.set_cons_succ, List.cons_append, List.nil_append] at hM)
        (first | refine (implStep_any W H a1 xs.length c1 xs p q _ (hM.intsR (.there .here))).mono ?_)
        rw [HQ0.out]
        rintro e wc8 ⟨rfl, hb⟩
        replace hM := hM.ext hb
        clear hb
        dsimp only
        obtain ⟨k0, f0, l0⟩ := hM.row .here
        go_wp2_with fail
        clear k0 f0 l0
        apply Mem.atA
        · (repeat' (first | with_reducible exact hM | with_reducible exact hMp | with_reducible apply Mem.drew | with_reducible apply Mem.drewN | with_reducible apply Mem.alloc | with_reducible apply Mem.set | with_reducible exact Sto.row | ((with_reducible refine Sto.rowEq2 ?_ ?_); omega; rfl) | ((with_reducible refine Sto.rowEq ?_); omega) | with_reducible apply Sto.int | with_reducible apply Sto.there | with_reducible assumption | (unfold I64; omega) | (with_reducible (have hMx := Mem.undrew hM; exact hMx)) | (with_reducible (have hMx := Mem.undrew hMp; exact hMx))))
        clear hM
        intro wst hM
        (try simp only [World.size_alloc, World.size_setCell, World.heap_drewN, heapDrew, Nat.add_assoc, Nat.reduceAdd, List.setIfInBounds_toArray, List.set_cons_zero, List.set_cons_succ, List.cons_append, List.nil_append] at hM)
        (first | refine (specStep_any W H a1 xs.length c1 xs p q _ (hM.intsR (.there .here))).mono ?_)
        rw [HQ0.out]
        rintro e wc9 ⟨rfl, hb⟩
        replace hM := hM.ext hb
        clear hb
        dsimp only
        go_upto_if 150 with fail
        go_cut [] (fun wx => Mem w.heap.size w wx [])
        case first =>
          as_aux_lemma =>
            cases v1
            · go_wp2_with fail
              go_meet
              exact hM.sub (by simp)
            obtain ⟨e1, ⟨c, d, e2, e3, h4, h5, h6⟩, h7⟩ := step_ok HQ0.out
            have HE1 := Lib.hid e1; have HE2 := Lib.hid e2; have HE3 := Lib.hid e3
            clear e1 e2 e3 HQ0 hbb1
            have hw1 : IntKind.i64.wrap (c + d) = c + d := wrap_in (by omega)
            have hn1 : ¬ (c + d < s) := by omega
            obtain ⟨k0, f0, l0⟩ := hM.row .here
            go_wp2_with fail
            clear k0 f0 l0
            apply Mem.atA
            · (repeat' (first | with_reducible exact hM | with_reducible exact hMp | with_reducible apply Mem.drew | with_reducible apply Mem.drewN | with_reducible apply Mem.alloc | with_reducible apply Mem.set | with_reducible exact Sto.row | ((with_reducible refine Sto.rowEq2 ?_ ?_); omega; rfl) | ((with_reducible refine Sto.rowEq ?_); omega) | with_reducible apply Sto.int | with_reducible apply Sto.there | with_reducible assumption | (unfold I64; omega) | (with_reducible (have hMx := Mem.undrew hM; exact hMx)) | (with_reducible (have hMx := Mem.undrew hMp; exact hMx))))
            clear hM
            intro wst hM
            (try simp only [World.size_alloc, World.size_setCell, World.heap_drewN, heapDrew, Nat.add_assoc, Nat.reduceAdd, List.setIfInBounds_toArray, List.set_cons_zero, List.set_cons_succ, List.cons_append, List.nil_append] at hM)
            (first | refine (implStep_any W H a1 xs.length c1 xs q p _ (hM.intsR (.there .here))).mono ?_)
            rw [HE1.out]
            rintro e wc10 ⟨rfl, hb⟩
            replace hM := hM.ext hb
            clear hb
            dsimp only
            obtain ⟨k0, f0, l0⟩ := hM.row .here
            go_wp2_with fail
            clear k0 f0 l0
            apply Mem.atA
            · (repeat' (first | with_reducible exact hM | with_reducible exact hMp | with_reducible apply Mem.drew | with_reducible apply Mem.drewN | with_reducible apply Mem.alloc | with_reducible apply Mem.set | with_reducible exact Sto.row | ((with_reducible refine Sto.rowEq2 ?_ ?_); omega; rfl) | ((with_reducible refine Sto.rowEq ?_); omega) | with_reducible apply Sto.int | with_reducible apply Sto.there | with_reducible assumption | (unfold I64; omega) | (with_reducible (have hMx := Mem.undrew hM; exact hMx)) | (with_reducible (have hMx := Mem.undrew hMp; exact hMx))))
            clear hM
            intro wst hM
            (try simp only [World.size_alloc, World.size_setCell, World.heap_drewN, heapDrew, Nat.add_assoc, Nat.reduceAdd, List.setIfInBounds_toArray, List.set_cons_zero, List.set_cons_succ, List.cons_append, List.nil_append] at hM)
            (first | refine (implStep_any W H a1 xs.length c1 xs p 0 _ (hM.intsR (.there .here))).mono ?_)
            rw [HE2.out]
            rintro e wc11 ⟨rfl, hb⟩
            replace hM := hM.ext hb
            clear hb
            dsimp only
            obtain ⟨k0, f0, l0⟩ := hM.row .here
            go_wp2_with fail
            clear k0 f0 l0
            apply Mem.atA
            · (repeat' (first | with_reducible exact hM | with_reducible exact hMp | with_reducible apply Mem.drew | with_reducible apply Mem.drewN | with_reducible apply Mem.alloc | with_reducible apply Mem.set | with_reducible exact Sto.row | ((with_reducible refine Sto.rowEq2 ?_ ?_); omega; rfl) | ((with_reducible refine Sto.rowEq ?_); omega) | with_reducible apply Sto.int | with_reducible apply Sto.there | with_reducible assumption | (unfold I64; omega) | (with_reducible (have hMx := Mem.undrew hM; exact hMx)) | (with_reducible (have hMx := Mem.undrew hMp; exact hMx))))
            clear hM
            intro wst hM
            (try simp only [World.size_alloc, World.size_setCell, World.heap_drewN, heapDrew, Nat.add_assoc, Nat.reduceAdd, List.setIfInBounds_toArray, List.set_cons_zero, List.set_cons_succ, List.cons_append, List.nil_append] at hM)
            (first | refine (implStep_any W H a1 xs.length c1 xs 0 q _ (hM.intsR (.there .here))).mono ?_)
            rw [HE3.out]
            rintro e wc12 ⟨rfl, hb⟩
            replace hM := hM.ext hb
            clear hb
            dsimp only
            obtain ⟨z, hz⟩ : ∃ z, (p == q) = z := ⟨_, rfl⟩
            rw [hz] at h7
            have hzz : (z != z) = false := by cases z <;> rfl
            go_wp2_with fail
            go_meet
            exact hM.sub (by simp)
        case rest =>
          as_aux_lemma =>
            clear hM HQ0 hbb1 hss
            have hM := hcut
            clear hcut
            go_wp2_with fail
            apply Mem.atA
            · (repeat' (first | with_reducible exact hM | with_reducible exact hMp | with_reducible apply Mem.drew | with_reducible apply Mem.drewN | with_reducible apply Mem.alloc | with_reducible apply Mem.set | with_reducible exact Sto.row | ((with_reducible refine Sto.rowEq2 ?_ ?_); omega; rfl) | ((with_reducible refine Sto.rowEq ?_); omega) | with_reducible apply Sto.int | with_reducible apply Sto.there | with_reducible assumption | (unfold I64; omega) | (with_reducible (have hMx := Mem.undrew hM; exact hMx)) | (with_reducible (have hMx := Mem.undrew hMp; exact hMx))))
            clear hM
            intro wst hM
            (try simp only [World.size_alloc, World.size_setCell, World.heap_drewN, heapDrew, Nat.add_assoc, Nat.reduceAdd, List.setIfInBounds_toArray, List.set_cons_zero, List.set_cons_succ, List.cons_append, List.nil_append] at hM)
            (first | refine (drawTer_reach (HC.out.ext hM.below)).mono ?_)
            rintro e w1 ⟨W, H, a1, c1, xs, a2, c2, cs, hS, hcl, rfl, hm⟩
            replace hM := hM.join hm
            clear hm
            (try simp only [World.size_alloc, World.size_setCell, World.heap_drewN, heapDrew, Nat.add_assoc, Nat.reduceAdd, List.setIfInBounds_toArray, List.set_cons_zero, List.set_cons_succ, List.cons_append, List.nil_append] at hM)
            clear hS
            obtain ⟨⟨rs, v1⟩, hq0⟩ : ∃ r, reachR W H xs cs = r := ⟨_, rfl⟩
            have HQ0 := Lib.hid hq0; clear hq0
            have hbb1 : (v1 != v1) = false := by cases v1 <;> rfl
            go_wp2_with fail
            apply Mem.atA
            · (repeat' (first | with_reducible exact hM | with_reducible exact hMp | with_reducible apply Mem.drew | with_reducible apply Mem.drewN | with_reducible apply Mem.alloc | with_reducible apply Mem.set | with_reducible exact Sto.row | ((with_reducible refine Sto.rowEq2 ?_ ?_); omega; rfl) | ((with_reducible refine Sto.rowEq ?_); omega) | with_reducible apply Sto.int | with_reducible apply Sto.there | with_reducible assumption | (unfold I64; omega) | (with_reducible (have hMx := Mem.undrew hM; exact hMx)) | (with_reducible (have hMx := Mem.undrew hMp; exact hMx))))
            clear hM
            intro wst hM
            (try simp only [World.size_alloc, World.size_setCell, World.heap_drewN, heapDrew, Nat.add_assoc, Nat.reduceAdd, List.setIfInBounds_toArray, List.set_cons_zero, List.set_cons_succ, List.cons_append, List.nil_append] at hM)
            (first | refine (implReach_any W H a1 xs.length c1 xs a2 cs.length c2 cs _ (hM.intsR (.there (.there .here))) (hM.intsR (.there .here))).mono ?_)
            rw [HQ0.out]
            rintro e w3 ⟨a3, n3, c3, rfl, hm⟩
            replace hM := hM.join hm
            clear hm
            (try simp only [World.size_alloc, World.size_setCell, World.heap_drewN, heapDrew, Nat.add_assoc, Nat.reduceAdd, List.setIfInBounds_toArray, List.set_cons_zero, List.set_cons_succ, List.cons_append, List.nil_append] at hM)
            dsimp only at hM ⊢
            obtain ⟨k1, f1, l1⟩ := hM.row (.there .here)
            go_wp2_with fail
            clear k1 f1 l1
            apply Mem.atA
            · (repeat' (first | with_reducible exact hM | with_reducible exact hMp | with_reducible apply Mem.drew | with_reducible apply Mem.drewN | with_reducible apply Mem.alloc | with_reducible apply Mem.set | with_reducible exact Sto.row | ((with_reducible refine Sto.rowEq2 ?_ ?_); omega; rfl) | ((with_reducible refine Sto.rowEq ?_); omega) | with_reducible apply Sto.int | with_reducible apply Sto.there | with_reducible assumption | (unfold I64; omega) | (with_reducible (have hMx := Mem.undrew hM; exact hMx)) | (with_reducible (have hMx := Mem.undrew hMp; exact hMx))))
            clear hM
            intro wst hM
            (try simp only [World.size_alloc, World.size_setCell, World.heap_drewN, heapDrew, Nat.add_assoc, Nat.reduceAdd, List.setIfInBounds_toArray, List.set_cons_zero, List.set_cons_succ, List.cons_append, List.nil_append] at hM)
            (first | refine (specReach_any W H a1 xs.length c1 xs a2 cs.length c2 cs _ (hM.intsR (.there (.there (.there .here)))) (hM.intsR (.there (.there .here)))).mono ?_)
            rw [HQ0.out]
            rintro e w4 ⟨a4, n4, c4, rfl, hm⟩
            replace hM := hM.join hm
            clear hm
            (try simp only [World.size_alloc, World.size_setCell, World.heap_drewN, heapDrew, Nat.add_assoc, Nat.reduceAdd, List.setIfInBounds_toArray, List.set_cons_zero, List.set_cons_succ, List.cons_append, List.nil_append] at hM)
            dsimp only at hM ⊢
            go_wp2_with fail
            apply Mem.atA
            · (repeat' (first | with_reducible exact hM | with_reducible exact hMp | with_reducible apply Mem.drew | with_reducible apply Mem.drewN | with_reducible apply Mem.alloc | with_reducible apply Mem.set | with_reducible exact Sto.row | ((with_reducible refine Sto.rowEq2 ?_ ?_); omega; rfl) | ((with_reducible refine Sto.rowEq ?_); omega) | with_reducible apply Sto.int | with_reducible apply Sto.there | with_reducible assumption | (unfold I64; omega) | (with_reducible (have hMx := Mem.undrew hM; exact hMx)) | (with_reducible (have hMx := Mem.undrew hMp; exact hMx))))
            clear hM
            intro wst hM
            (try simp only [World.size_alloc, World.size_setCell, World.heap_drewN, heapDrew, Nat.add_assoc, Nat.reduceAdd, List.setIfInBounds_toArray, List.set_cons_zero, List.set_cons_succ, List.cons_append, List.nil_append] at hM)
            (first | refine (vInts_same _ _ _ rs _ _ _ _ (hM.intsR (.there .here)) (hM.intsR .here)).mono ?_)
            rintro e wc16 ⟨rfl, hb⟩
            replace hM := hM.ext hb
            clear hb
            replace hM := hM.tail
            go_upto_if 226 with fail
            go_cut [] (fun wx => Mem w.heap.size w wx [])
            case first =>
              as_aux_lemma =>
                cases v1
                · go_wp2_with fail
                  go_meet
                  exact hM.sub (by simp)
                obtain ⟨bs, e1, e2, e3, e4⟩ := reach_ok HQ0.out
                have HE1 := Lib.hid e1; have HE2 := Lib.hid e2; have HE3 := Lib.hid e3; have HE4 := Lib.hid e4
                clear e1 e2 e3 e4 HQ0 hbb1
                obtain ⟨k1, f1, l1⟩ := hM.row (.there .here)
                go_wp2_with fail
                clear k1 f1 l1
                apply Mem.atA
                · (repeat' (first | with_reducible exact hM | with_reducible exact hMp | with_reducible apply Mem.drew | with_reducible apply Mem.drewN | with_reducible apply Mem.alloc | with_reducible apply Mem.set | with_reducible exact Sto.row | ((with_reducible refine Sto.rowEq2 ?_ ?_); omega; rfl) | ((with_reducible refine Sto.rowEq ?_); omega) | with_reducible apply Sto.int | with_reducible apply Sto.there | with_reducible assumption | (unfold I64; omega) | (with_reducible (have hMx := Mem.undrew hM; exact hMx)) | (with_reducible (have hMx := Mem.undrew hMp; exact hMx))))
                clear hM
                intro wst hM
                (try simp only [World.size_alloc, World.size_setCell, World.heap_drewN, heapDrew, Nat.add_assoc, Nat.reduceAdd, List.setIfInBounds_toArray, List.set_cons_zero, List.set_cons_succ, List.cons_append, List.nil_append] at hM)
                (first | refine (implBurn_any W H a1 xs.length c1 xs _ (hM.intsR (.there (.there (.there .here))))).mono ?_)
                rw [HE1.out]
                rintro e w5 ⟨a5, n5, c5, rfl, hm⟩
                replace hM := hM.join hm
                clear hm
                (try simp only [World.size_alloc, World.size_setCell, World.heap_drewN, heapDrew, Nat.add_assoc, Nat.reduceAdd, List.setIfInBounds_toArray, List.set_cons_zero, List.set_cons_succ, List.cons_append, List.nil_append] at hM)
                dsimp only at hM ⊢
                obtain ⟨k2, f2, l2⟩ := hM.row (.there (.there .here))
                go_wp2_with fail
                clear k2 f2 l2
                apply Mem.atA
                · (repeat' (first | with_reducible exact hM | with_reducible exact hMp | with_reducible apply Mem.drew | with_reducible apply Mem.drewN | with_reducible apply Mem.alloc | with_reducible apply Mem.set | with_reducible exact Sto.row | ((with_reducible refine Sto.rowEq2 ?_ ?_); omega; rfl) | ((with_reducible refine Sto.rowEq ?_); omega) | with_reducible apply Sto.int | with_reducible apply Sto.there | with_reducible assumption | (unfold I64; omega) | (with_reducible (have hMx := Mem.undrew hM; exact hMx)) | (with_reducible (have hMx := Mem.undrew hMp; exact hMx))))
                clear hM
                intro wst hM
                (try simp only [World.size_alloc, World.size_setCell, World.heap_drewN, heapDrew, Nat.add_assoc, Nat.reduceAdd, List.setIfInBounds_toArray, List.set_cons_zero, List.set_cons_succ, List.cons_append, List.nil_append] at hM)
                (first | refine (implReach_any W H a1 xs.length c1 xs _ _ _ rs _ (hM.intsR (.there (.there (.there (.there .here))))) (hM.intsR (.there .here))).mono ?_)
                rw [HE2.out]
                rintro e w6 ⟨a6, n6, c6, rfl, hm⟩
                replace hM := hM.join hm
                clear hm
                (try simp only [World.size_alloc, World.size_setCell, World.heap_drewN, heapDrew, Nat.add_assoc, Nat.reduceAdd, List.setIfInBounds_toArray, List.set_cons_zero, List.set_cons_succ, List.cons_append, List.nil_append] at hM)
                dsimp only at hM ⊢
                go_wp2_with fail
                apply Mem.atA
                · (repeat' (first | with_reducible exact hM | with_reducible exact hMp | with_reducible apply Mem.drew | with_reducible apply Mem.drewN | with_reducible apply Mem.alloc | with_reducible apply Mem.set | with_reducible exact Sto.row | ((with_reducible refine Sto.rowEq2 ?_ ?_); omega; rfl) | ((with_reducible refine Sto.rowEq ?_); omega) | with_reducible apply Sto.int | with_reducible apply Sto.there | with_reducible assumption | (unfold I64; omega) | (with_reducible (have hMx := Mem.undrew hM; exact hMx)) | (with_reducible (have hMx := Mem.undrew hMp; exact hMx))))
                clear hM
                intro wst hM
                (try simp only [World.size_alloc, World.size_setCell, World.heap_drewN, heapDrew, Nat.add_assoc, Nat.reduceAdd, List.setIfInBounds_toArray, List.set_cons_zero, List.set_cons_succ, List.cons_append, List.nil_append] at hM)
                (first | refine (vWithin_any _ _ _ rs _ _ _ bs _ (hM.intsR (.there (.there .here))) (hM.intsR (.there .here))).mono ?_)
                rw [HE3.out]
                rintro e wc19 ⟨rfl, rfl⟩
                go_wp2_with fail
                apply Mem.atA
                · (repeat' (first | with_reducible exact hM | with_reducible exact hMp | with_reducible apply Mem.drew | with_reducible apply Mem.drewN | with_reducible apply Mem.alloc | with_reducible apply Mem.set | with_reducible exact Sto.row | ((with_reducible refine Sto.rowEq2 ?_ ?_); omega; rfl) | ((with_reducible refine Sto.rowEq ?_); omega) | with_reducible apply Sto.int | with_reducible apply Sto.there | with_reducible assumption | (unfold I64; omega) | (with_reducible (have hMx := Mem.undrew hM; exact hMx)) | (with_reducible (have hMx := Mem.undrew hMp; exact hMx))))
                clear hM
                intro wst hM
                (try simp only [World.size_alloc, World.size_setCell, World.heap_drewN, heapDrew, Nat.add_assoc, Nat.reduceAdd, List.setIfInBounds_toArray, List.set_cons_zero, List.set_cons_succ, List.cons_append, List.nil_append] at hM)
                (first | refine (vInts_same _ _ _ rs _ _ _ _ (hM.intsR .here) (hM.intsR (.there (.there .here)))).mono ?_)
                rintro e wc20 ⟨rfl, hb⟩
                replace hM := hM.ext hb
                clear hb
                obtain rfl : n5 = bs.length := (hM.ints (.there .here)).len.symm
                replace hM := hM.tail
                have hbl := (hM.ints .here).ints.room
                go_wp2_with fail
                go_loopw [37] (fun s37 wr => ∃ k : Nat, k ≤ bs.length ∧ s37 = .int .i64 k ∧ Mem w.heap.size w wr [intE a5 bs.length c5 bs, intE a3 n3 c3 rs, rowE w1.heap.size 26 #[.int .i64 W, .int .i64 H, .slice a1 xs.length c1], intE a2 cs.length c2 cs, intE a1 xs.length c1 xs]) (fun s37 _ => bs.length - (intOf s37).toNat)
                case atStart => exact ⟨0, Nat.zero_le _, rfl, hM⟩
                case round =>
                  clear hM
                  obtain ⟨k, hk, rfl, hM⟩ := hrel
                  by_cases hlt : k < bs.length
                  · obtain ⟨x, ns, h1, h2, h3⟩ := HE4.out k hlt
                    have HX := Lib.hid h1; have HNB := Lib.hid h2; have HRX := Lib.hid h3
                    clear h1 h2 h3
                    obtain ⟨g5, rfl, -⟩ := (hM.ints .here).head (by omega)
                    have i0 : (0 : Int) ≤ (k : Int) := by omega
                    have i1 : (k : Int) < (bs.length : Int) := by omega
                    go_upto_region 39 with fail
                    apply Mem.atWpA
                    · (repeat' (first | with_reducible exact hM | with_reducible exact hMp | with_reducible apply Mem.drew | with_reducible apply Mem.drewN | with_reducible apply Mem.alloc | with_reducible apply Mem.set | with_reducible exact Sto.row | ((with_reducible refine Sto.rowEq2 ?_ ?_); omega; rfl) | ((with_reducible refine Sto.rowEq ?_); omega) | with_reducible apply Sto.int | with_reducible apply Sto.there | with_reducible assumption | (unfold I64; omega) | (with_reducible (have hMx := Mem.undrew hM; exact hMx)) | (with_reducible (have hMx := Mem.undrew hMp; exact hMx))))
                    clear hM
                    intro wst hM
                    (try simp only [World.size_alloc, World.size_setCell, World.heap_drewN, heapDrew, Nat.add_assoc, Nat.reduceAdd, List.setIfInBounds_toArray, List.set_cons_zero, List.set_cons_succ, List.cons_append, List.nil_append] at hM)
                    refine AtF.startA hM hM 10 (by kernel_rfl) ?_
                    clear hM
                    intro wd hM
                    have hS := hM
                    refine AtF.taked (i := 0) (v := ?_) (some 263) rfl rfl (by kernel_rfl) (by kernel_rfl) (by kernel_rfl) (anc_path [] _ _ (by kernel_rfl) (by kernel_rfl)) (fun _ _ _ h => h) (Or.inl ⟨by kernel_rfl, ?_⟩) hS rfl ?_
                    rotate_left
                    · (intro wS hSw; (try dsimp only at hSw); have kr0 := (Mem.row hSw (.there (.there .here))).cell; have hce := (hSw.ints .here).cellAt hlt; rw [HX.out] at hce; go_simp; (try rw [if_neg (by omega)]); try with_reducible rfl)
                    simp only [Act.put, List.setIfInBounds_toArray, List.set_cons_zero, List.set_cons_succ]
                    refine AtF.taked (i := 1) (v := ?_) (some 264) rfl rfl (by kernel_rfl) (by kernel_rfl) (by kernel_rfl) (anc_path [] _ _ (by kernel_rfl) (by kernel_rfl)) (fun _ _ _ h => h) (Or.inl ⟨by kernel_rfl, ?_⟩) hS rfl ?_
                    rotate_left
                    · (intro wS hSw; (try dsimp only at hSw); go_simp; (try rw [if_neg (by omega)]); try with_reducible rfl)
                    simp only [Act.put, List.setIfInBounds_toArray, List.set_cons_zero, List.set_cons_succ]
                    refine AtF.taked (i := 2) (v := ?_) (some 265) rfl rfl (by kernel_rfl) (by kernel_rfl) (by kernel_rfl) (anc_path [] _ _ (by kernel_rfl) (by kernel_rfl)) (fun _ _ _ h => h) (Or.inl ⟨by kernel_rfl, ?_⟩) hS rfl ?_
                    rotate_left
                    · (intro wS hSw; (try dsimp only at hSw); go_simp; (try rw [if_neg (by omega)]); try with_reducible rfl)
                    simp only [Act.put, List.setIfInBounds_toArray, List.set_cons_zero, List.set_cons_succ]
                    refine AtF.taked (i := 3) (v := ?_) (some 266) rfl rfl (by kernel_rfl) (by kernel_rfl) (by kernel_rfl) (anc_path [] _ _ (by kernel_rfl) (by kernel_rfl)) (fun _ _ _ h => h) (Or.inl ⟨by kernel_rfl, ?_⟩) hS rfl ?_
                    rotate_left
                    · (intro wS hSw; (try dsimp only at hSw); have kr0 := (Mem.row hSw (.there (.there .here))).cell; have hce := (hSw.ints .here).cellAt hlt; rw [HX.out] at hce; go_simp; (try rw [if_neg (by omega)]); try with_reducible rfl)
                    simp only [Act.put, List.setIfInBounds_toArray, List.set_cons_zero, List.set_cons_succ]
                    refine AtF.taked (i := 4) (v := ?_) (some 267) rfl rfl (by kernel_rfl) (by kernel_rfl) (by kernel_rfl) (anc_path [] _ _ (by kernel_rfl) (by kernel_rfl)) (fun _ _ _ h => h) (Or.inl ⟨by kernel_rfl, ?_⟩) hS rfl ?_
                    rotate_left
                    · (intro wS hSw; (try dsimp only at hSw); have kr0 := (Mem.row hSw (.there (.there .here))).cell; have hce := (hSw.ints .here).cellAt hlt; rw [HX.out] at hce; go_simp; (try rw [if_neg (by omega)]); try with_reducible rfl)
                    simp only [Act.put, List.setIfInBounds_toArray, List.set_cons_zero, List.set_cons_succ]
                    refine AtF.only (i := 5) (by kernel_rfl) rfl rfl ?_
                    intro K hK
                    go_simp
                    refine (implNbr_any W H a1 xs.length c1 xs x _ (hM.ints (.there (.there (.there (.there .here))))).ints).mono ?_
                    rw [HNB.out]
                    rintro e w5 ⟨a7, n7, c7, rfl, hm⟩
                    replace hM := hM.join hm
                    clear hm
                    dsimp only [List.cons_append, List.nil_append] at hM
                    try dsimp only
                    refine hK.out _ _ (hM.tail) ?_
                    clear hK K hS
                    have hS := hM.tail
                    refine AtF.taked (i := 6) (v := ?_) (some 262) rfl rfl (by kernel_rfl) (by kernel_rfl) (by kernel_rfl) (anc_path [] _ _ (by kernel_rfl) (by kernel_rfl)) (fun _ _ _ h => h) (Or.inl ⟨by kernel_rfl, ?_⟩) hS rfl ?_
                    rotate_left
                    · (intro wS hSw; (try dsimp only at hSw); go_simp; (try rw [if_neg (by omega)]); try with_reducible rfl)
                    simp only [Act.put, List.setIfInBounds_toArray, List.set_cons_zero, List.set_cons_succ]
                    refine AtF.taked (i := 7) (v := ?_) (some 269) rfl rfl (by kernel_rfl) (by kernel_rfl) (by kernel_rfl) (anc_path [] _ _ (by kernel_rfl) (by kernel_rfl)) (fun _ _ _ h => h) (Or.inl ⟨by kernel_rfl, ?_⟩) hS rfl ?_
                    rotate_left
                    · (intro wS hSw; (try dsimp only at hSw); go_simp; (try rw [if_neg (by omega)]); try with_reducible rfl)
                    simp only [Act.put, List.setIfInBounds_toArray, List.set_cons_zero, List.set_cons_succ]
                    refine AtF.taked (i := 8) (v := ?_) (some 270) rfl rfl (by kernel_rfl) (by kernel_rfl) (by kernel_rfl) (anc_path [] _ _ (by kernel_rfl) (by kernel_rfl)) (fun _ _ _ h => h) (Or.inl ⟨by kernel_rfl, ?_⟩) hS rfl ?_
                    rotate_left
                    · (intro wS hSw; (try dsimp only at hSw); go_simp; (try rw [if_neg (by omega)]); try with_reducible rfl)
                    simp only [Act.put, List.setIfInBounds_toArray, List.set_cons_zero, List.set_cons_succ]
                    refine AtF.taked (i := 9) (v := ?_) (some 38) rfl rfl (by kernel_rfl) (by kernel_rfl) (by kernel_rfl) (anc_path [] _ _ (by kernel_rfl) (by kernel_rfl)) (fun _ _ _ h => h) (Or.inl ⟨by kernel_rfl, ?_⟩) hS rfl ?_
                    rotate_left
                    · (intro wS hSw; (try dsimp only at hSw); go_simp; (try rw [if_neg (by omega)]); try with_reducible rfl)
                    simp only [Act.put, List.setIfInBounds_toArray, List.set_cons_zero, List.set_cons_succ]
                    refine AtF.last (by kernel_rfl) rfl (by kernel_rfl) ?_
                    intro K hK
                    clear hS
                    go_simp
                    refine hK.out _ _ ?_
                    clear hK K
                    apply Mem.atEx
                    · (repeat' (first | with_reducible exact hM | with_reducible exact hMp | with_reducible apply Mem.drew | with_reducible apply Mem.drewN | with_reducible apply Mem.alloc | with_reducible apply Mem.set | with_reducible exact Sto.row | ((with_reducible refine Sto.rowEq2 ?_ ?_); omega; rfl) | ((with_reducible refine Sto.rowEq ?_); omega) | with_reducible apply Sto.int | with_reducible apply Sto.there | with_reducible assumption | (unfold I64; omega) | (with_reducible (have hMx := Mem.undrew hM; exact hMx)) | (with_reducible (have hMx := Mem.undrew hMp; exact hMx))))
                    clear hM
                    intro wst hM
                    (try simp only [World.size_alloc, World.size_setCell, World.heap_drewN, heapDrew, Nat.add_assoc, Nat.reduceAdd, List.setIfInBounds_toArray, List.set_cons_zero, List.set_cons_succ, List.cons_append, List.nil_append] at hM)
                    obtain rfl : n7 = ns.length := (hM.ints .here).len.symm
                    have hnl := (hM.ints .here).ints.room
                    have hbc := (hM.ints (.there .here)).cellAt hlt
                    rw [HX.out] at hbc
                    go_wp2_with fail
                    clear hbc
                    go_wp2_with fail
                    apply Mem.atA
                    · (repeat' (first | with_reducible exact hM | with_reducible exact hMp | with_reducible apply Mem.drew | with_reducible apply Mem.drewN | with_reducible apply Mem.alloc | with_reducible apply Mem.set | with_reducible exact Sto.row | ((with_reducible refine Sto.rowEq2 ?_ ?_); omega; rfl) | ((with_reducible refine Sto.rowEq ?_); omega) | with_reducible apply Sto.int | with_reducible apply Sto.there | with_reducible assumption | (unfold I64; omega) | (with_reducible (have hMx := Mem.undrew hM; exact hMx)) | (with_reducible (have hMx := Mem.undrew hMp; exact hMx))))
                    clear hM
                    intro wst hM
                    (try simp only [World.size_alloc, World.size_setCell, World.heap_drewN, heapDrew, Nat.add_assoc, Nat.reduceAdd, List.setIfInBounds_toArray, List.set_cons_zero, List.set_cons_succ, List.cons_append, List.nil_append] at hM)
                    refine (vHas_any _ _ _ cs x _ (hM.intsR (.there (.there (.there (.there .here)))))).mono ?_
                    rintro e w9 ⟨rfl, rfl⟩
                    go_wp2_with fail
                    go_loopw [40, 41] (fun s40 s41 wr => ∃ j : Nat, j ≤ ns.length ∧ s41 = .int .i64 j ∧ s40 = .bool (hasV cs x || (ns.take j).any (hasV rs)) ∧ Mem w.heap.size w wr [intE a7 ns.length c7 ns, intE (some ⟨g5, 0, none⟩) bs.length c5 bs, intE a3 n3 c3 rs, rowE w1.heap.size 26 #[.int .i64 W, .int .i64 H, .slice a1 xs.length c1], intE a2 cs.length c2 cs, intE a1 xs.length c1 xs]) (fun _ s41 _ => ns.length - (intOf s41).toNat)
                    case atStart => exact ⟨0, Nat.zero_le _, rfl, by simp, hM⟩
                    case round =>
                      clear hM
                      obtain ⟨j, hj, rfl, rfl, hM⟩ := hrel
                      have hts := fun h => any_take_succI (p := hasV rs) (xs := ns) (k := j) h
                      have hall : j = ns.length → (ns.take j).any (hasV rs) = ns.any (hasV rs) := fun h => by rw [h, List.take_of_length_le (Nat.le_refl _)]
                      obtain ⟨B0, hB0⟩ : ∃ B0, (ns.take j).any (hasV rs) = B0 := ⟨_, rfl⟩
                      rw [hB0] at hall ⊢
                      simp only [hB0] at hts
                      have HTS := Lib.hid hts; have HAL := Lib.hid hall
                      clear hts hall hB0
                      by_cases hltj : j < ns.length
                      · obtain ⟨g7, rfl, -⟩ := (hM.ints .here).head (by omega)
                        have hcn := (hM.ints .here).cellAt hltj
                        obtain ⟨y, hy⟩ : ∃ y, ns.getD j 0 = y := ⟨_, rfl⟩
                        rw [hy] at hcn
                        have HTY := Lib.hid (show (ns.take (j + 1)).any (hasV rs) = (B0 || hasV rs y) by rw [HTS.out hltj, hy])
                        clear hy HTS HAL
                        obtain ⟨C0, hC0⟩ : ∃ C0, hasV cs x = C0 := ⟨_, rfl⟩
                        rw [hC0]
                        clear hC0
                        cases hnx : (C0 || B0)
                        · go_wp2_with fail
                          clear hcn
                          go_wp2_with fail
                          apply Mem.atA
                          · (repeat' (first | with_reducible exact hM | with_reducible exact hMp | with_reducible apply Mem.drew | with_reducible apply Mem.drewN | with_reducible apply Mem.alloc | with_reducible apply Mem.set | with_reducible exact Sto.row | ((with_reducible refine Sto.rowEq2 ?_ ?_); omega; rfl) | ((with_reducible refine Sto.rowEq ?_); omega) | with_reducible apply Sto.int | with_reducible apply Sto.there | with_reducible assumption | (unfold I64; omega) | (with_reducible (have hMx := Mem.undrew hM; exact hMx)) | (with_reducible (have hMx := Mem.undrew hMp; exact hMx))))
                          clear hM
                          intro wst hM
                          (try simp only [World.size_alloc, World.size_setCell, World.heap_drewN, heapDrew, Nat.add_assoc, Nat.reduceAdd, List.setIfInBounds_toArray, List.set_cons_zero, List.set_cons_succ, List.cons_append, List.nil_append] at hM)
                          refine (vHas_any _ _ _ rs y _ (hM.intsR (.there (.there .here)))).mono ?_
                          rintro e w10 ⟨rfl, rfl⟩
                          go_wp2
                          go_roundw
                          case rel => exact ⟨j + 1, by omega, by go_num, by rw [HTY.out, ← Bool.or_assoc, hnx]; rfl, hM⟩
                          case measure => simp [intOf]; omega
                        · go_wp2
                          go_roundw
                          case rel => exact ⟨j + 1, by omega, by go_num, by rw [HTY.out, ← Bool.or_assoc, hnx]; rfl, hM⟩
                          case measure => simp [intOf]; omega
                      · obtain rfl : j = ns.length := by omega
                        have hfin := HRX.out
                        rw [← HAL.out rfl] at hfin
                        obtain ⟨N0, hN0⟩ : ∃ N0, (hasV cs x || B0) = N0 := ⟨_, rfl⟩
                        rw [hN0] at hfin ⊢
                        have HFI := Lib.hid hfin
                        clear hfin hN0 HAL HTS
                        have hNN : (N0 != N0) = false := by cases N0 <;> rfl
                        have hbc := (hM.ints (.there .here)).cellAt hlt
                        rw [HX.out] at hbc
                        go_wp2_with fail
                        clear hbc
                        go_wp2_with fail
                        apply Mem.atA
                        · (repeat' (first | with_reducible exact hM | with_reducible exact hMp | with_reducible apply Mem.drew | with_reducible apply Mem.drewN | with_reducible apply Mem.alloc | with_reducible apply Mem.set | with_reducible exact Sto.row | ((with_reducible refine Sto.rowEq2 ?_ ?_); omega; rfl) | ((with_reducible refine Sto.rowEq ?_); omega) | with_reducible apply Sto.int | with_reducible apply Sto.there | with_reducible assumption | (unfold I64; omega) | (with_reducible (have hMx := Mem.undrew hM; exact hMx)) | (with_reducible (have hMx := Mem.undrew hMp; exact hMx))))
                        clear hM
                        intro wst hM
                        (try simp only [World.size_alloc, World.size_setCell, World.heap_drewN, heapDrew, Nat.add_assoc, Nat.reduceAdd, List.setIfInBounds_toArray, List.set_cons_zero, List.set_cons_succ, List.cons_append, List.nil_append] at hM)
                        refine (vHas_any _ _ _ rs x _ (hM.intsR (.there (.there .here)))).mono ?_
                        rw [HFI.out]
                        rintro e w10 ⟨rfl, rfl⟩
                        go_wp2
                        go_roundw
                        case rel => exact ⟨k + 1, by omega, by go_num, hM.tail⟩
                        case measure => simp [intOf]; omega
                  · obtain rfl : k = bs.length := by omega
                    go_wp2_with fail
                    go_meet
                    exact hM.sub (by simp)
            case rest =>
              as_aux_lemma =>
                clear hM HQ0 hbb1 hcl
                have hM := hcut
                clear hcut
                go_wp2_with fail
                apply Mem.atA
                · (repeat' (first | with_reducible exact hM | with_reducible exact hMp | with_reducible apply Mem.drew | with_reducible apply Mem.drewN | with_reducible apply Mem.alloc | with_reducible apply Mem.set | with_reducible exact Sto.row | ((with_reducible refine Sto.rowEq2 ?_ ?_); omega; rfl) | ((with_reducible refine Sto.rowEq ?_); omega) | with_reducible apply Sto.int | with_reducible apply Sto.there | with_reducible assumption | (unfold I64; omega) | (with_reducible (have hMx := Mem.undrew hM; exact hMx)) | (with_reducible (have hMx := Mem.undrew hMp; exact hMx))))
                clear hM
                intro wst hM
                (try simp only [World.size_alloc, World.size_setCell, World.heap_drewN, heapDrew, Nat.add_assoc, Nat.reduceAdd, List.setIfInBounds_toArray, List.set_cons_zero, List.set_cons_succ, List.cons_append, List.nil_append] at hM)
                (first | refine (drawTer_clear (HC.out.ext hM.below)).mono ?_)
                rintro e w1 ⟨W, H, a1, c1, xs, a2, c2, cs, hS, hcl, rfl, hm⟩
                replace hM := hM.join hm
                clear hm
                (try simp only [World.size_alloc, World.size_setCell, World.heap_drewN, heapDrew, Nat.add_assoc, Nat.reduceAdd, List.setIfInBounds_toArray, List.set_cons_zero, List.set_cons_succ, List.cons_append, List.nil_append] at hM)
                clear hS hcl
                obtain ⟨⟨⟨gW, gH, zs⟩, v1⟩, hq0⟩ : ∃ r, clrR W H xs cs = r := ⟨_, rfl⟩
                have HQ0 := Lib.hid hq0; clear hq0
                have hbb1 : (v1 != v1) = false := by cases v1 <;> rfl
                go_wp2_with fail
                apply Mem.atA
                · (repeat' (first | with_reducible exact hM | with_reducible exact hMp | with_reducible apply Mem.drew | with_reducible apply Mem.drewN | with_reducible apply Mem.alloc | with_reducible apply Mem.set | with_reducible exact Sto.row | ((with_reducible refine Sto.rowEq2 ?_ ?_); omega; rfl) | ((with_reducible refine Sto.rowEq ?_); omega) | with_reducible apply Sto.int | with_reducible apply Sto.there | with_reducible assumption | (unfold I64; omega) | (with_reducible (have hMx := Mem.undrew hM; exact hMx)) | (with_reducible (have hMx := Mem.undrew hMp; exact hMx))))
                clear hM
                intro wst hM
                (try simp only [World.size_alloc, World.size_setCell, World.heap_drewN, heapDrew, Nat.add_assoc, Nat.reduceAdd, List.setIfInBounds_toArray, List.set_cons_zero, List.set_cons_succ, List.cons_append, List.nil_append] at hM)
                (first | refine (implClear_any W H a1 xs.length c1 xs a2 cs.length c2 cs _ (hM.intsR (.there (.there .here))) (hM.intsR (.there .here))).mono ?_)
                rw [HQ0.out]
                rintro e w3 ⟨a3, n3, c3, rfl, hO, hb⟩
                replace hM := hM.own hb hO
                clear hb hO
                dsimp only at hM ⊢
                obtain ⟨k1, f1, l1⟩ := hM.row (.there .here)
                go_wp2_with fail
                clear k1 f1 l1
                apply Mem.atA
                · (repeat' (first | with_reducible exact hM | with_reducible exact hMp | with_reducible apply Mem.drew | with_reducible apply Mem.drewN | with_reducible apply Mem.alloc | with_reducible apply Mem.set | with_reducible exact Sto.row | ((with_reducible refine Sto.rowEq2 ?_ ?_); omega; rfl) | ((with_reducible refine Sto.rowEq ?_); omega) | with_reducible apply Sto.int | with_reducible apply Sto.there | with_reducible assumption | (unfold I64; omega) | (with_reducible (have hMx := Mem.undrew hM; exact hMx)) | (with_reducible (have hMx := Mem.undrew hMp; exact hMx))))
                clear hM
                intro wst hM
                (try simp only [World.size_alloc, World.size_setCell, World.heap_drewN, heapDrew, Nat.add_assoc, Nat.reduceAdd, List.setIfInBounds_toArray, List.set_cons_zero, List.set_cons_succ, List.cons_append, List.nil_append] at hM)
                (first | refine (specClear_any W H a1 xs.length c1 xs a2 cs.length c2 cs _ (hM.intsR (.there (.there (.there (.there .here))))) (hM.intsR (.there (.there (.there .here))))).mono ?_)
                rw [HQ0.out]
                rintro e w4 ⟨a4, n4, c4, rfl, hO, hb⟩
                replace hM := hM.own hb hO
                clear hb hO
                dsimp only at hM ⊢
                obtain ⟨k1, f1, l1⟩ := hM.row (.there .here)
                go_wp2_with fail
                clear k1 f1 l1
                apply Mem.atA
                · (repeat' (first | with_reducible exact hM | with_reducible exact hMp | with_reducible apply Mem.drew | with_reducible apply Mem.drewN | with_reducible apply Mem.alloc | with_reducible apply Mem.set | with_reducible exact Sto.row | ((with_reducible refine Sto.rowEq2 ?_ ?_); omega; rfl) | ((with_reducible refine Sto.rowEq ?_); omega) | with_reducible apply Sto.int | with_reducible apply Sto.there | with_reducible assumption | (unfold I64; omega) | (with_reducible (have hMx := Mem.undrew hM; exact hMx)) | (with_reducible (have hMx := Mem.undrew hMp; exact hMx))))
                clear hM
                intro wst hM
                (try simp only [World.size_alloc, World.size_setCell, World.heap_drewN, heapDrew, Nat.add_assoc, Nat.reduceAdd, List.setIfInBounds_toArray, List.set_cons_zero, List.set_cons_succ, List.cons_append, List.nil_append] at hM)
                (first | refine (vTerrain_same gW gH _ _ _ zs _ _ _ _ (hM.intsR (.there (.there (.there .here)))) (hM.intsR (.there .here))).mono ?_)
                rintro e wc24 ⟨rfl, hb⟩
                replace hM := hM.ext hb
                clear hb
                replace hM := hM.sub (G' := []) (by simp)
                go_wp2_with fail
                apply Mem.atA
                · (repeat' (first | with_reducible exact hM | with_reducible exact hMp | with_reducible apply Mem.drew | with_reducible apply Mem.drewN | with_reducible apply Mem.alloc | with_reducible apply Mem.set | with_reducible exact Sto.row | ((with_reducible refine Sto.rowEq2 ?_ ?_); omega; rfl) | ((with_reducible refine Sto.rowEq ?_); omega) | with_reducible apply Sto.int | with_reducible apply Sto.there | with_reducible assumption | (unfold I64; omega) | (with_reducible (have hMx := Mem.undrew hM; exact hMx)) | (with_reducible (have hMx := Mem.undrew hMp; exact hMx))))
                clear hM
                intro wst hM
                (try simp only [World.size_alloc, World.size_setCell, World.heap_drewN, heapDrew, Nat.add_assoc, Nat.reduceAdd, List.setIfInBounds_toArray, List.set_cons_zero, List.set_cons_succ, List.cons_append, List.nil_append] at hM)
                (first | refine (drawTer_burn (HC.out.ext hM.below)).mono ?_)
                rintro e w5 ⟨W2, H2, a5, c5, ys, hS, rfl, hm⟩
                replace hM := hM.join hm
                clear hm
                (try simp only [World.size_alloc, World.size_setCell, World.heap_drewN, heapDrew, Nat.add_assoc, Nat.reduceAdd, List.setIfInBounds_toArray, List.set_cons_zero, List.set_cons_succ, List.cons_append, List.nil_append] at hM)
                clear hS
                obtain ⟨⟨bs, v2⟩, hq1⟩ : ∃ r, burnR W2 H2 ys = r := ⟨_, rfl⟩
                have HQ1 := Lib.hid hq1; clear hq1
                have hbb2 : (v2 == v2) = true := by cases v2 <;> rfl
                go_wp2_with fail
                apply Mem.atA
                · (repeat' (first | with_reducible exact hM | with_reducible exact hMp | with_reducible apply Mem.drew | with_reducible apply Mem.drewN | with_reducible apply Mem.alloc | with_reducible apply Mem.set | with_reducible exact Sto.row | ((with_reducible refine Sto.rowEq2 ?_ ?_); omega; rfl) | ((with_reducible refine Sto.rowEq ?_); omega) | with_reducible apply Sto.int | with_reducible apply Sto.there | with_reducible assumption | (unfold I64; omega) | (with_reducible (have hMx := Mem.undrew hM; exact hMx)) | (with_reducible (have hMx := Mem.undrew hMp; exact hMx))))
                clear hM
                intro wst hM
                (try simp only [World.size_alloc, World.size_setCell, World.heap_drewN, heapDrew, Nat.add_assoc, Nat.reduceAdd, List.setIfInBounds_toArray, List.set_cons_zero, List.set_cons_succ, List.cons_append, List.nil_append] at hM)
                (first | refine (implBurn_any W2 H2 a5 ys.length c5 ys _ (hM.intsR (.there .here))).mono ?_)
                rw [HQ1.out]
                rintro e w6 ⟨a6, n6, c6, rfl, hm⟩
                replace hM := hM.join hm
                clear hm
                (try simp only [World.size_alloc, World.size_setCell, World.heap_drewN, heapDrew, Nat.add_assoc, Nat.reduceAdd, List.setIfInBounds_toArray, List.set_cons_zero, List.set_cons_succ, List.cons_append, List.nil_append] at hM)
                dsimp only at hM ⊢
                obtain ⟨k1, f1, l1⟩ := hM.row (.there .here)
                go_wp2_with fail
                clear k1 f1 l1
                apply Mem.atA
                · (repeat' (first | with_reducible exact hM | with_reducible exact hMp | with_reducible apply Mem.drew | with_reducible apply Mem.drewN | with_reducible apply Mem.alloc | with_reducible apply Mem.set | with_reducible exact Sto.row | ((with_reducible refine Sto.rowEq2 ?_ ?_); omega; rfl) | ((with_reducible refine Sto.rowEq ?_); omega) | with_reducible apply Sto.int | with_reducible apply Sto.there | with_reducible assumption | (unfold I64; omega) | (with_reducible (have hMx := Mem.undrew hM; exact hMx)) | (with_reducible (have hMx := Mem.undrew hMp; exact hMx))))
                clear hM
                intro wst hM
                (try simp only [World.size_alloc, World.size_setCell, World.heap_drewN, heapDrew, Nat.add_assoc, Nat.reduceAdd, List.setIfInBounds_toArray, List.set_cons_zero, List.set_cons_succ, List.cons_append, List.nil_append] at hM)
                (first | refine (specBurn_any W2 H2 a5 ys.length c5 ys _ (hM.intsR (.there (.there .here)))).mono ?_)
                rw [HQ1.out]
                rintro e w7 ⟨a7, n7, c7, rfl, hm⟩
                replace hM := hM.join hm
                clear hm
                (try simp only [World.size_alloc, World.size_setCell, World.heap_drewN, heapDrew, Nat.add_assoc, Nat.reduceAdd, List.setIfInBounds_toArray, List.set_cons_zero, List.set_cons_succ, List.cons_append, List.nil_append] at hM)
                dsimp only at hM ⊢
                go_wp2_with fail
                apply Mem.atA
                · (repeat' (first | with_reducible exact hM | with_reducible exact hMp | with_reducible apply Mem.drew | with_reducible apply Mem.drewN | with_reducible apply Mem.alloc | with_reducible apply Mem.set | with_reducible exact Sto.row | ((with_reducible refine Sto.rowEq2 ?_ ?_); omega; rfl) | ((with_reducible refine Sto.rowEq ?_); omega) | with_reducible apply Sto.int | with_reducible apply Sto.there | with_reducible assumption | (unfold I64; omega) | (with_reducible (have hMx := Mem.undrew hM; exact hMx)) | (with_reducible (have hMx := Mem.undrew hMp; exact hMx))))
                clear hM
                intro wst hM
                (try simp only [World.size_alloc, World.size_setCell, World.heap_drewN, heapDrew, Nat.add_assoc, Nat.reduceAdd, List.setIfInBounds_toArray, List.set_cons_zero, List.set_cons_succ, List.cons_append, List.nil_append] at hM)
                (first | refine (vInts_same _ _ _ bs _ _ _ _ (hM.intsR (.there .here)) (hM.intsR .here)).mono ?_)
                rintro e wc28 ⟨rfl, hb⟩
                replace hM := hM.ext hb
                clear hb
                go_wp2
                go_ret
                exact ⟨rfl, (by apply Mem.below; (repeat' (first | with_reducible exact hM | with_reducible exact hMp | with_reducible apply Mem.drew | with_reducible apply Mem.drewN | with_reducible apply Mem.alloc | with_reducible apply Mem.set | with_reducible exact Sto.row | ((with_reducible refine Sto.rowEq2 ?_ ?_); omega; rfl) | ((with_reducible refine Sto.rowEq ?_); omega) | with_reducible apply Sto.int | with_reducible apply Sto.there | with_reducible assumption | (unfold I64; omega) | (with_reducible (have hMx := Mem.undrew hM; exact hMx)) | (with_reducible (have hMx := Mem.undrew hMp; exact hMx)))))⟩
end Go.Proofs.Ytkohfegajcmdbaa

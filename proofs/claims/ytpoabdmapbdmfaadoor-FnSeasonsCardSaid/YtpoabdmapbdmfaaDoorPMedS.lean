/-
  The median of hours: the reference's.
-/
import Derived.Test.YtpoabdmapbdmfaaDoorPMedP
import Derived.Test.YtpoabdmapbdmfaaDoorPLargestS
/-
  The median of hours: the reference's.
-/
namespace Go.Proofs.YtpoabdmapbdmfaaDoor
set_option linter.unusedSimpArgs false
set_option linter.unusedVariables false
open Go.RowKit

set_option maxRecDepth 100000 in
set_option maxHeartbeats 8000000 in
theorem specMed_any (a : Option Addr) (n c : Nat) (xs : List FireI) (w : World) (h : Rd FFire w a n c xs) :
    Calls Tryd.prog 14 #[.slice a n c] w fun e w' => e = .returned (.tuple #[.int .i64 (medR xs).a, .int .i64 (medR xs).b, .bool (medR xs).ok]) ∧ Below w.heap.size w w' := by
  have hn := h.cap
  have hc := h.nroom
  have HL := Lib.hid h.len
  have hM := Mem.start w
  obtain ⟨i0, hi, hz0, hz1, hz2⟩ := info_parts Tryd.info3
  cases hs : seasonB xs
  · have HF := Lib.hid (show medR xs = ⟨0, 0, false⟩ by simp [medR, hs])
    go_enter Tryd.func14, Tryd.ntmps14
    go_wp2_with fail
    apply Mem.at
    · (repeat' (first | with_reducible exact hM | with_reducible exact hMp | with_reducible apply Mem.drew | with_reducible apply Mem.drewN | with_reducible apply Mem.alloc | with_reducible apply Mem.set | with_reducible exact Sto.row | ((with_reducible refine Sto.rowEq2 ?_ ?_); omega; rfl) | ((with_reducible refine Sto.rowEq ?_); omega) | with_reducible apply Sto.int | with_reducible apply Sto.there | with_reducible assumption | (unfold I64; omega) | (with_reducible (have hMx := Mem.undrew hM; exact hMx)) | (with_reducible (have hMx := Mem.undrew hMp; exact hMx))))
    clear hM
    intro hM
    (try simp only [World.size_alloc, World.size_setCell, World.heap_drewN, heapDrew, Nat.add_assoc, Nat.reduceAdd, List.setIfInBounds_toArray, List.set_cons_zero, List.set_cons_succ, List.cons_append, List.nil_append] at hM)
    refine (l26Good_any a n c xs _ (h.ext hM.below)).mono ?_
    rw [hs]
    rintro e w1 ⟨rfl, hb⟩
    replace hM := hM.ext hb
    clear hb
    go_wp2
    go_ret3
    exact ⟨by rw [HF.out]; rfl, (by apply Mem.below; (repeat' (first | with_reducible exact hM | with_reducible exact hMp | with_reducible apply Mem.drew | with_reducible apply Mem.drewN | with_reducible apply Mem.alloc | with_reducible apply Mem.set | with_reducible exact Sto.row | ((with_reducible refine Sto.rowEq2 ?_ ?_); omega; rfl) | ((with_reducible refine Sto.rowEq ?_); omega) | with_reducible apply Sto.int | with_reducible apply Sto.there | with_reducible assumption | (unfold I64; omega) | (with_reducible (have hMx := Mem.undrew hM; exact hMx)) | (with_reducible (have hMx := Mem.undrew hMp; exact hMx)))))⟩
  obtain ⟨v15, vall⟩ := seasonB_true hs
  rw [h.len] at v15
  by_cases h0 : n = 0
  · have HF := Lib.hid (show medR xs = ⟨0, 0, false⟩ by simp [medR, h.len, h0])
    clear vall
    subst h0
    go_enter Tryd.func14, Tryd.ntmps14
    go_wp2_with fail
    apply Mem.at
    · (repeat' (first | with_reducible exact hM | with_reducible exact hMp | with_reducible apply Mem.drew | with_reducible apply Mem.drewN | with_reducible apply Mem.alloc | with_reducible apply Mem.set | with_reducible exact Sto.row | ((with_reducible refine Sto.rowEq2 ?_ ?_); omega; rfl) | ((with_reducible refine Sto.rowEq ?_); omega) | with_reducible apply Sto.int | with_reducible apply Sto.there | with_reducible assumption | (unfold I64; omega) | (with_reducible (have hMx := Mem.undrew hM; exact hMx)) | (with_reducible (have hMx := Mem.undrew hMp; exact hMx))))
    clear hM
    intro hM
    (try simp only [World.size_alloc, World.size_setCell, World.heap_drewN, heapDrew, Nat.add_assoc, Nat.reduceAdd, List.setIfInBounds_toArray, List.set_cons_zero, List.set_cons_succ, List.cons_append, List.nil_append] at hM)
    refine (l26Good_any a 0 c xs _ (h.ext hM.below)).mono ?_
    rw [hs]
    rintro e w1 ⟨rfl, hb⟩
    replace hM := hM.ext hb
    clear hb
    go_wp2
    go_ret3
    exact ⟨by rw [HF.out]; rfl, (by apply Mem.below; (repeat' (first | with_reducible exact hM | with_reducible exact hMp | with_reducible apply Mem.drew | with_reducible apply Mem.drewN | with_reducible apply Mem.alloc | with_reducible apply Mem.set | with_reducible exact Sto.row | ((with_reducible refine Sto.rowEq2 ?_ ?_); omega; rfl) | ((with_reducible refine Sto.rowEq ?_); omega) | with_reducible apply Sto.int | with_reducible apply Sto.there | with_reducible assumption | (unfold I64; omega) | (with_reducible (have hMx := Mem.undrew hM; exact hMx)) | (with_reducible (have hMx := Mem.undrew hMp; exact hMx)))))⟩
  have HF := Lib.hid (show medR xs = ⟨redA (medS xs) 2, redB (medS xs) 2, true⟩ by simp [medR, hs, h.len, h0])
  have hnz : ((n : Int) == 0) = false := by simp; omega
  have HS := Lib.hid hs; clear hs
  have HV := Lib.hid vall; clear vall
  have hln : (hrsL xs).length = n := by simp [hrsL, HL.out]
  have HLN := Lib.hid hln; clear hln
  have HBD : Hid (∀ k, k ≤ n → ∀ y ∈ insS (hrsL xs) k, 1 ≤ y ∧ y ≤ 2000) := fun k hk y hy => hrs_bound HV.out (by rw [HL.out]; exact hk) hy
  go_enter Tryd.func14, Tryd.ntmps14
  go_wp2_with fail
  apply Mem.at
  · (repeat' (first | with_reducible exact hM | with_reducible exact hMp | with_reducible apply Mem.drew | with_reducible apply Mem.drewN | with_reducible apply Mem.alloc | with_reducible apply Mem.set | with_reducible exact Sto.row | ((with_reducible refine Sto.rowEq2 ?_ ?_); omega; rfl) | ((with_reducible refine Sto.rowEq ?_); omega) | with_reducible apply Sto.int | with_reducible apply Sto.there | with_reducible assumption | (unfold I64; omega) | (with_reducible (have hMx := Mem.undrew hM; exact hMx)) | (with_reducible (have hMx := Mem.undrew hMp; exact hMx))))
  clear hM
  intro hM
  (try simp only [World.size_alloc, World.size_setCell, World.heap_drewN, heapDrew, Nat.add_assoc, Nat.reduceAdd, List.setIfInBounds_toArray, List.set_cons_zero, List.set_cons_succ, List.cons_append, List.nil_append] at hM)
  refine (l26Good_any a n c xs _ (h.ext hM.below)).mono ?_
  rw [HS.out]
  rintro e w1 ⟨rfl, hb⟩
  replace hM := hM.ext hb
  clear hb
  go_wp2
  go_loopg [6, 7] n (fun gh s3 s4 wr => ∃ (i g c' : Nat), i ≤ n ∧ gh = n - i ∧ s4 = .int .i64 i ∧ s3 = .slice (some ⟨g, 0, none⟩) i c' ∧ Mem w.heap.size w wr [intE (some ⟨g, 0, none⟩) i c' (insS (hrsL xs) i)])
  case atStart =>
    refine ⟨0, _, _, Nat.zero_le _, rfl, rfl, rfl, ?_⟩
    apply Mem.toInts0
    (repeat' (first | with_reducible exact hM | with_reducible exact hMp | with_reducible apply Mem.drew | with_reducible apply Mem.drewN | with_reducible apply Mem.alloc | with_reducible apply Mem.set | with_reducible exact Sto.row | ((with_reducible refine Sto.rowEq2 ?_ ?_); omega; rfl) | ((with_reducible refine Sto.rowEq ?_); omega) | with_reducible apply Sto.int | with_reducible apply Sto.there | with_reducible assumption | (unfold I64; omega) | (with_reducible (have hMx := Mem.undrew hM; exact hMx)) | (with_reducible (have hMx := Mem.undrew hMp; exact hMx))))
  case round =>
    clear hM
    obtain ⟨i, g, c', hin, rfl, rfl, rfl, hM⟩ := hrel
    obtain ⟨os, hos⟩ : ∃ os, insS (hrsL xs) i = os := ⟨_, rfl⟩
    have hol : os.length = i := by rw [← hos]; exact insS_length _ _
    have hom : ∀ x ∈ os, 1 ≤ x ∧ x ≤ 2000 := by rw [← hos]; exact HBD.out i hin
    have hnx : insS (hrsL xs) (i + 1) = os.take (scanK ltI ((hrsL xs).getD i 0) os i) ++ (hrsL xs).getD i 0 :: os.drop (scanK ltI ((hrsL xs).getD i 0) os i) := by rw [insS, hos]
    rw [hos] at hM
    have HOS := Lib.hid hos; clear hos
    have HOL := Lib.hid hol; clear hol
    have HOM := Lib.hid hom; clear hom
    have HNX := Lib.hid hnx; clear hnx
    by_cases hlt : i < n
    · obtain ⟨bb, off, rfl, _⟩ := h.at' _ hlt
      have hbl : bb < w.heap.size := (h.cellFire hlt).1
      obtain ⟨xv, hxv⟩ : ∃ xv, (hrsL xs).getD i 0 = xv := ⟨_, rfl⟩
      have hxb : 1 ≤ xv ∧ xv ≤ 2000 := by
        rw [← hxv, hrs_get (by rw [HL.out]; exact hlt)]
        exact (fireB_true (HV.out _ (by rw [List.getD_eq_getElem?_getD, List.getElem?_eq_getElem (by rw [HL.out]; exact hlt)]; exact List.getElem_mem _))).2.2.2
      obtain ⟨xb0, xb1⟩ := hxb
      have hnx := HNX.out
      rw [hxv] at hnx
      replace HNX := Lib.hid hnx
      clear hnx
      have hxc : (xs.getD i FireI.zero).hours = xv := by rw [← hxv, hrs_get (by rw [HL.out]; exact hlt)]
      have HXV := Lib.hid hxc; clear hxc hxv
      have hi15 : i ≤ 15 := by omega
      go_upto_block 2 with fail
      go_cut [8] (fun s5 wx => s5 = .int .i64 ((scanK ltI xv os i : Nat) : Int) ∧ Mem w.heap.size w wx [intE (some ⟨g, 0, none⟩) i c' os])
      case first =>
        go_wp2_with fail
        go_loopg [8] i (fun gh s5 wq => ∃ k : Nat, k ≤ i ∧ k = gh ∧ s5 = .int .i64 k ∧ scanK ltI xv os i = scanK ltI xv os k ∧ Mem w.heap.size w wq [intE (some ⟨g, 0, none⟩) i c' os])
        case atStart => exact ⟨i, Nat.le_refl _, rfl, rfl, rfl, hM⟩
        case round =>
          clear hM
          obtain ⟨k, hk, rfl, rfl, hsk, hM⟩ := hrel
          have HSK := Lib.hid hsk; clear hsk
          by_cases hk0 : k = 0
          · have kz : decide (0 < k) = false := decide_eq_false (by omega)
            have HK := Lib.hid hk0; clear hk0
            go_wp2_with fail
            apply Mem.atWp
            · (repeat' (first | with_reducible exact hM | with_reducible exact hMp | with_reducible apply Mem.drew | with_reducible apply Mem.drewN | with_reducible apply Mem.alloc | with_reducible apply Mem.set | with_reducible exact Sto.row | ((with_reducible refine Sto.rowEq2 ?_ ?_); omega; rfl) | ((with_reducible refine Sto.rowEq ?_); omega) | with_reducible apply Sto.int | with_reducible apply Sto.there | with_reducible assumption | (unfold I64; omega) | (with_reducible (have hMx := Mem.undrew hM; exact hMx)) | (with_reducible (have hMx := Mem.undrew hMp; exact hMx))))
            clear hM
            intro hM
            refine AtT.startA hM hM 14 (by kernel_rfl) ?_
            clear hM
            intro wd hM
            have hS := hM
            refine AtT.taked (i := 0) (v := ?_) (some 27) rfl rfl (by kernel_rfl) (by kernel_rfl) (by kernel_rfl) (by kernel_rfl) (fun _ _ _ h => h) (Or.inl ⟨by kernel_rfl, ?_⟩) hS ?_
            rotate_left
            · (intro wS hSw; (try dsimp only at hSw); go_simp; (try rw [if_neg (by omega)]); try with_reducible rfl)
            simp only [Act.put, List.setIfInBounds_toArray, List.set_cons_zero, List.set_cons_succ]
            refine AtT.taked (i := 1) (v := ?_) (some 28) rfl rfl (by kernel_rfl) (by kernel_rfl) (by kernel_rfl) (by kernel_rfl) (fun _ _ _ h => h) (Or.inl ⟨by kernel_rfl, ?_⟩) hS ?_
            rotate_left
            · (intro wS hSw; (try dsimp only at hSw); go_simp; (try rw [if_neg (by omega)]); try with_reducible rfl)
            simp only [Act.put, List.setIfInBounds_toArray, List.set_cons_zero, List.set_cons_succ]
            refine AtT.taked (i := 2) (v := ?_) (some 29) rfl rfl (by kernel_rfl) (by kernel_rfl) (by kernel_rfl) (by kernel_rfl) (fun _ _ _ h => h) (Or.inl ⟨by kernel_rfl, ?_⟩) hS ?_
            rotate_left
            · (intro wS hSw; (try dsimp only at hSw); go_simp; (try rw [if_neg (by omega)]); try with_reducible rfl)
            simp only [Act.put, List.setIfInBounds_toArray, List.set_cons_zero, List.set_cons_succ]
            refine AtT.taked (i := 3) (v := undef) (some 30) rfl rfl (by kernel_rfl) (by kernel_rfl) (by kernel_rfl) (by kernel_rfl) (fun _ _ _ h => h) (Or.inr ⟨by kernel_rfl, rfl⟩) hS ?_
            simp only [Act.put, List.setIfInBounds_toArray, List.set_cons_zero, List.set_cons_succ]
            refine AtT.taked (i := 4) (v := undef) (some 31) rfl rfl (by kernel_rfl) (by kernel_rfl) (by kernel_rfl) (by kernel_rfl) (fun _ _ _ h => h) (Or.inr ⟨by kernel_rfl, rfl⟩) hS ?_
            simp only [Act.put, List.setIfInBounds_toArray, List.set_cons_zero, List.set_cons_succ]
            refine AtT.taked (i := 5) (v := undef) (some 32) rfl rfl (by kernel_rfl) (by kernel_rfl) (by kernel_rfl) (by kernel_rfl) (fun _ _ _ h => h) (Or.inr ⟨by kernel_rfl, rfl⟩) hS ?_
            simp only [Act.put, List.setIfInBounds_toArray, List.set_cons_zero, List.set_cons_succ]
            refine AtT.taked (i := 6) (v := undef) (some 33) rfl rfl (by kernel_rfl) (by kernel_rfl) (by kernel_rfl) (by kernel_rfl) (fun _ _ _ h => h) (Or.inr ⟨by kernel_rfl, rfl⟩) hS ?_
            simp only [Act.put, List.setIfInBounds_toArray, List.set_cons_zero, List.set_cons_succ]
            refine AtT.taked (i := 7) (v := undef) (some 34) rfl rfl (by kernel_rfl) (by kernel_rfl) (by kernel_rfl) (by kernel_rfl) (fun _ _ _ h => h) (Or.inr ⟨by kernel_rfl, rfl⟩) hS ?_
            simp only [Act.put, List.setIfInBounds_toArray, List.set_cons_zero, List.set_cons_succ]
            refine AtT.taked (i := 8) (v := undef) (some 35) rfl rfl (by kernel_rfl) (by kernel_rfl) (by kernel_rfl) (by kernel_rfl) (fun _ _ _ h => h) (Or.inr ⟨by kernel_rfl, rfl⟩) hS ?_
            simp only [Act.put, List.setIfInBounds_toArray, List.set_cons_zero, List.set_cons_succ]
            refine AtT.taked (i := 9) (v := undef) (some 36) rfl rfl (by kernel_rfl) (by kernel_rfl) (by kernel_rfl) (by kernel_rfl) (fun _ _ _ h => h) (Or.inr ⟨by kernel_rfl, rfl⟩) hS ?_
            simp only [Act.put, List.setIfInBounds_toArray, List.set_cons_zero, List.set_cons_succ]
            refine AtT.taked (i := 10) (v := undef) (some 37) rfl rfl (by kernel_rfl) (by kernel_rfl) (by kernel_rfl) (by kernel_rfl) (fun _ _ _ h => h) (Or.inr ⟨by kernel_rfl, rfl⟩) hS ?_
            simp only [Act.put, List.setIfInBounds_toArray, List.set_cons_zero, List.set_cons_succ]
            refine AtT.taked (i := 11) (v := undef) (some 38) rfl rfl (by kernel_rfl) (by kernel_rfl) (by kernel_rfl) (by kernel_rfl) (fun _ _ _ h => h) (Or.inr ⟨by kernel_rfl, rfl⟩) hS ?_
            simp only [Act.put, List.setIfInBounds_toArray, List.set_cons_zero, List.set_cons_succ]
            refine AtT.taked (i := 12) (v := undef) (some 39) rfl rfl (by kernel_rfl) (by kernel_rfl) (by kernel_rfl) (by kernel_rfl) (fun _ _ _ h => h) (Or.inr ⟨by kernel_rfl, rfl⟩) hS ?_
            simp only [Act.put, List.setIfInBounds_toArray, List.set_cons_zero, List.set_cons_succ]
            refine AtT.taked (i := 13) (v := undef) (some 40) rfl rfl (by kernel_rfl) (by kernel_rfl) (by kernel_rfl) (by kernel_rfl) (fun _ _ _ h => h) (Or.inr ⟨by kernel_rfl, rfl⟩) hS ?_
            simp only [Act.put, List.setIfInBounds_toArray, List.set_cons_zero, List.set_cons_succ]
            refine AtT.last (by kernel_rfl) rfl (by kernel_rfl) ?_
            intro K hK
            clear hS
            go_simp
            refine hK.out _ _ ?_
            clear hK K
            go_wp2
            go_meet
            exact ⟨by rw [HSK.out, HK.out]; rfl, hM⟩
          · obtain ⟨j, hj⟩ : ∃ j, k = j + 1 := ⟨k - 1, by omega⟩
            have hmem := HOM.out _ (getD_mem (xs := os) (k := j) (by rw [HOL.out]; omega))
            have hst : scanK ltI xv os k = if ltI xv (os.getD j 0) then scanK ltI xv os j else k := by subst hj; rfl
            obtain ⟨y, hy⟩ : ∃ y, os.getD j 0 = y := ⟨_, rfl⟩
            rw [hy] at hmem hst
            have HG : Hid (ltI xv y = decide (xv < y)) := by
              show _ = _
              rfl
            have HS2 : Hid (∀ w1 : World, Mem w.heap.size w w1 [intE (some ⟨g, 0, none⟩) i c' os] → w1.cell? ⟨g, j, none⟩ = some (.int .i64 y) ∧ w1.cell? ⟨bb, off + i * 4 + 3, none⟩ = some (.int .i64 xv)) := by
              intro w1 h1
              refine ⟨?_, ?_⟩
              · rw [← hy]; exact (h1.ints .here).cellAt (by omega)
              · rw [h1.below.cell (p := ⟨bb, off + i * 4 + 3, none⟩) hbl, ← HXV.out]; exact (h.cellFire hlt).2.2.2.2
            have HST := Lib.hid hst; clear hst
            have hjI : IntKind.i64.wrap ((k : Int) - 1) = (j : Int) := by rw [wrap_in (by omega)]; omega
            have a0 : (0 : Int) ≤ (j : Int) := by omega
            have a1 : (j : Int) < (i : Int) := by omega
            have c0 : (0 : Int) ≤ (i : Int) := by omega
            have c1 : (i : Int) < (n : Int) := by omega
            have kp : decide (0 < k) = true := decide_eq_true (by omega)
            have HJ := Lib.hid hj; clear hj hy hmem
            go_wp2_with fail
            apply Mem.atWp
            · (repeat' (first | with_reducible exact hM | with_reducible exact hMp | with_reducible apply Mem.drew | with_reducible apply Mem.drewN | with_reducible apply Mem.alloc | with_reducible apply Mem.set | with_reducible exact Sto.row | ((with_reducible refine Sto.rowEq2 ?_ ?_); omega; rfl) | ((with_reducible refine Sto.rowEq ?_); omega) | with_reducible apply Sto.int | with_reducible apply Sto.there | with_reducible assumption | (unfold I64; omega) | (with_reducible (have hMx := Mem.undrew hM; exact hMx)) | (with_reducible (have hMx := Mem.undrew hMp; exact hMx))))
            clear hM
            intro hM
            refine AtT.startA hM hM 14 (by kernel_rfl) ?_
            clear hM
            intro wd hM
            have hS := hM
            refine AtT.taked (i := 0) (v := ?_) (some 27) rfl rfl (by kernel_rfl) (by kernel_rfl) (by kernel_rfl) (by kernel_rfl) (fun _ _ _ h => h) (Or.inl ⟨by kernel_rfl, ?_⟩) hS ?_
            rotate_left
            · (intro wS hSw; (try dsimp only at hSw); go_simp; (try rw [if_neg (by omega)]); try with_reducible rfl)
            simp only [Act.put, List.setIfInBounds_toArray, List.set_cons_zero, List.set_cons_succ]
            refine AtT.taked (i := 1) (v := ?_) (some 28) rfl rfl (by kernel_rfl) (by kernel_rfl) (by kernel_rfl) (by kernel_rfl) (fun _ _ _ h => h) (Or.inl ⟨by kernel_rfl, ?_⟩) hS ?_
            rotate_left
            · (intro wS hSw; (try dsimp only at hSw); go_simp; (try rw [if_neg (by omega)]); try with_reducible rfl)
            simp only [Act.put, List.setIfInBounds_toArray, List.set_cons_zero, List.set_cons_succ]
            refine AtT.taked (i := 2) (v := ?_) (some 29) rfl rfl (by kernel_rfl) (by kernel_rfl) (by kernel_rfl) (by kernel_rfl) (fun _ _ _ h => h) (Or.inl ⟨by kernel_rfl, ?_⟩) hS ?_
            rotate_left
            · (intro wS hSw; (try dsimp only at hSw); go_simp; (try rw [if_neg (by omega)]); try with_reducible rfl)
            simp only [Act.put, List.setIfInBounds_toArray, List.set_cons_zero, List.set_cons_succ]
            refine AtT.taked (i := 3) (v := ?_) (some 30) rfl rfl (by kernel_rfl) (by kernel_rfl) (by kernel_rfl) (by kernel_rfl) (fun _ _ _ h => h) (Or.inl ⟨by kernel_rfl, ?_⟩) hS ?_
            rotate_left
            · (intro wS hSw; (try dsimp only at hSw); go_simp; (try rw [if_neg (by omega)]); try with_reducible rfl)
            simp only [Act.put, List.setIfInBounds_toArray, List.set_cons_zero, List.set_cons_succ]
            refine AtT.taked (i := 4) (v := ?_) (some 31) rfl rfl (by kernel_rfl) (by kernel_rfl) (by kernel_rfl) (by kernel_rfl) (fun _ _ _ h => h) (Or.inl ⟨by kernel_rfl, ?_⟩) hS ?_
            rotate_left
            · (intro wS hSw; (try dsimp only at hSw); go_simp; (try rw [if_neg (by omega)]); try with_reducible rfl)
            simp only [Act.put, List.setIfInBounds_toArray, List.set_cons_zero, List.set_cons_succ]
            refine AtT.taked (i := 5) (v := ?_) (some 32) rfl rfl (by kernel_rfl) (by kernel_rfl) (by kernel_rfl) (by kernel_rfl) (fun _ _ _ h => h) (Or.inl ⟨by kernel_rfl, ?_⟩) hS ?_
            rotate_left
            · (intro wS hSw; (try dsimp only at hSw); go_simp; (try rw [if_neg (by omega)]); try with_reducible rfl)
            simp only [Act.put, List.setIfInBounds_toArray, List.set_cons_zero, List.set_cons_succ]
            refine AtT.taked (i := 6) (v := ?_) (some 33) rfl rfl (by kernel_rfl) (by kernel_rfl) (by kernel_rfl) (by kernel_rfl) (fun _ _ _ h => h) (Or.inl ⟨by kernel_rfl, ?_⟩) hS ?_
            rotate_left
            · (intro wS hSw; (try dsimp only at hSw); have q1 := (HS2.out _ hSw).1; have q2 := (HS2.out _ hSw).2; go_simp; (try rw [if_neg (by omega)]); try with_reducible rfl)
            simp only [Act.put, List.setIfInBounds_toArray, List.set_cons_zero, List.set_cons_succ]
            refine AtT.taked (i := 7) (v := ?_) (some 34) rfl rfl (by kernel_rfl) (by kernel_rfl) (by kernel_rfl) (by kernel_rfl) (fun _ _ _ h => h) (Or.inl ⟨by kernel_rfl, ?_⟩) hS ?_
            rotate_left
            · (intro wS hSw; (try dsimp only at hSw); have q1 := (HS2.out _ hSw).1; have q2 := (HS2.out _ hSw).2; go_simp; (try rw [if_neg (by omega)]); try with_reducible rfl)
            simp only [Act.put, List.setIfInBounds_toArray, List.set_cons_zero, List.set_cons_succ]
            refine AtT.taked (i := 8) (v := ?_) (some 35) rfl rfl (by kernel_rfl) (by kernel_rfl) (by kernel_rfl) (by kernel_rfl) (fun _ _ _ h => h) (Or.inl ⟨by kernel_rfl, ?_⟩) hS ?_
            rotate_left
            · (intro wS hSw; (try dsimp only at hSw); go_simp; (try rw [if_neg (by omega)]); try with_reducible rfl)
            simp only [Act.put, List.setIfInBounds_toArray, List.set_cons_zero, List.set_cons_succ]
            refine AtT.taked (i := 9) (v := ?_) (some 36) rfl rfl (by kernel_rfl) (by kernel_rfl) (by kernel_rfl) (by kernel_rfl) (fun _ _ _ h => h) (Or.inl ⟨by kernel_rfl, ?_⟩) hS ?_
            rotate_left
            · (intro wS hSw; (try dsimp only at hSw); go_simp; (try rw [if_neg (by omega)]); try with_reducible rfl)
            simp only [Act.put, List.setIfInBounds_toArray, List.set_cons_zero, List.set_cons_succ]
            refine AtT.taked (i := 10) (v := ?_) (some 37) rfl rfl (by kernel_rfl) (by kernel_rfl) (by kernel_rfl) (by kernel_rfl) (fun _ _ _ h => h) (Or.inl ⟨by kernel_rfl, ?_⟩) hS ?_
            rotate_left
            · (intro wS hSw; (try dsimp only at hSw); have q1 := (HS2.out _ hSw).1; have q2 := (HS2.out _ hSw).2; go_simp; (try rw [if_neg (by omega)]); try with_reducible rfl)
            simp only [Act.put, List.setIfInBounds_toArray, List.set_cons_zero, List.set_cons_succ]
            refine AtT.taked (i := 11) (v := ?_) (some 38) rfl rfl (by kernel_rfl) (by kernel_rfl) (by kernel_rfl) (by kernel_rfl) (fun _ _ _ h => h) (Or.inl ⟨by kernel_rfl, ?_⟩) hS ?_
            rotate_left
            · (intro wS hSw; (try dsimp only at hSw); go_simp; (try rw [if_neg (by omega)]); try with_reducible rfl)
            simp only [Act.put, List.setIfInBounds_toArray, List.set_cons_zero, List.set_cons_succ]
            refine AtT.taked (i := 12) (v := ?_) (some 39) rfl rfl (by kernel_rfl) (by kernel_rfl) (by kernel_rfl) (by kernel_rfl) (fun _ _ _ h => h) (Or.inl ⟨by kernel_rfl, ?_⟩) hS ?_
            rotate_left
            · (intro wS hSw; (try dsimp only at hSw); have q1 := (HS2.out _ hSw).1; have q2 := (HS2.out _ hSw).2; go_simp; (try rw [if_neg (by omega)]); try with_reducible rfl)
            simp only [Act.put, List.setIfInBounds_toArray, List.set_cons_zero, List.set_cons_succ]
            refine AtT.taked (i := 13) (v := ?_) (some 40) rfl rfl (by kernel_rfl) (by kernel_rfl) (by kernel_rfl) (by kernel_rfl) (fun _ _ _ h => h) (Or.inl ⟨by kernel_rfl, ?_⟩) hS ?_
            rotate_left
            · (intro wS hSw; (try dsimp only at hSw); go_simp; (try rw [if_neg (by omega)]); try with_reducible rfl)
            simp only [Act.put, List.setIfInBounds_toArray, List.set_cons_zero, List.set_cons_succ]
            refine AtT.last (by kernel_rfl) rfl (by kernel_rfl) ?_
            intro K hK
            clear hS
            go_simp
            refine hK.out _ _ ?_
            clear hK K
            by_cases hyx : xv < y
            · have HY : Hid (scanK ltI xv os k = scanK ltI xv os j) := by
                show _ = _
                rw [HST.out, HG.out, if_pos (by simpa using hyx)]
              go_wp2
              go_roundg j
              case measure => have := HJ.out; omega
              case rel => exact ⟨j, by omega, rfl, rfl, by rw [HSK.out, HY.out], hM⟩
            · have HY : Hid (scanK ltI xv os k = k) := by
                show _ = _
                rw [HST.out, HG.out, if_neg (by simpa using hyx)]
              go_wp2
              go_meet
              exact ⟨by rw [HSK.out, HY.out], hM⟩
      case rest =>
        clear hM
        obtain ⟨rfl, hM⟩ := hcut
        have hki := scanK_le ltI xv os i
        obtain ⟨k, hk⟩ : ∃ k, scanK ltI xv os i = k := ⟨_, rfl⟩
        rw [hk] at hki ⊢
        have HK := Lib.hid hk; clear hk
        have HLN : Hid (os.take k ++ [xv] ++ os.drop k = insS (hrsL xs) (i + 1)) := by
          show _ = _
          rw [HNX.out, HK.out]
          simp
        have HWN : Hid (∀ x ∈ insS (hrsL xs) (i + 1), I64 x) := fun x hx => by
          have := HBD.out (i + 1) (by omega) x hx
          unfold I64; omega
        have HWO : ∀ x ∈ os, I64 x := fun x hx => by
          have := HOM.out x hx
          unfold I64; omega
        have HWT : Hid (∀ x ∈ os.take k, I64 x) := fun x hx => HWO x (List.mem_of_mem_take hx)
        have HWI : Hid (∀ x ∈ os.take k ++ [xv], I64 x) := fun x hx => by
          rcases List.mem_append.1 hx with hx | hx
          · exact HWT.out x hx
          · obtain rfl : x = xv := by simpa using hx
            unfold I64; omega
        clear HWO
        have HQ9 : Hid (∀ w1 : World, Mem w.heap.size w w1 [intE (some ⟨g, 0, none⟩) i c' os] → w1.cell? ⟨bb, off + i * 4 + 3, none⟩ = some (.int .i64 xv)) := by
          intro w1 h1
          rw [h1.below.cell (p := ⟨bb, off + i * 4 + 3, none⟩) hbl, ← HXV.out]; exact (h.cellFire hlt).2.2.2.2
        have d0 : (0 : Int) ≤ (i : Int) := by omega
        have d1 : (i : Int) < (n : Int) := by omega
        have hol := HOL.out
        have hoc := (hM.ints .here).ints.cap
        have hom := (hM.ints .here).ints.capm
        unfold maxLen at hom
        have k0 : (0 : Int) ≤ (k : Int) := by omega
        have k1 : (k : Int) ≤ (i : Int) := by omega
        have k2 : (k : Int) ≤ (c' : Int) := by omega
        have HLO := Lib.hid hol; clear hol
        by_cases hcap : k = c'
        · obtain rfl : i = c' := by omega
          obtain rfl : i = k := by omega
          clear hcap
          go_wp2_with fail
          apply Mem.atWp
          · (repeat' (first | with_reducible exact hM | with_reducible exact hMp | with_reducible apply Mem.drew | with_reducible apply Mem.drewN | with_reducible apply Mem.alloc | with_reducible apply Mem.set | with_reducible exact Sto.row | ((with_reducible refine Sto.rowEq2 ?_ ?_); omega; rfl) | ((with_reducible refine Sto.rowEq ?_); omega) | with_reducible apply Sto.int | with_reducible apply Sto.there | with_reducible assumption | (unfold I64; omega) | (with_reducible (have hMx := Mem.undrew hM; exact hMx)) | (with_reducible (have hMx := Mem.undrew hMp; exact hMx))))
          clear hM
          intro hM
          refine AtT.startA hM hM 16 (by kernel_rfl) ?_
          clear hM
          intro wd hM
          have hS := hM
          refine AtT.taked (i := 1) (v := ?_) (some 45) rfl rfl (by kernel_rfl) (by kernel_rfl) (by kernel_rfl) (by kernel_rfl) (fun _ _ _ h => h) (Or.inl ⟨by kernel_rfl, ?_⟩) hS ?_
          rotate_left
          · (intro wS hSw; (try dsimp only at hSw); go_simp; (try rw [if_neg (by omega)]); try with_reducible rfl)
          simp only [Act.put, List.setIfInBounds_toArray, List.set_cons_zero, List.set_cons_succ]
          refine AtT.taked (i := 2) (v := ?_) (some 46) rfl rfl (by kernel_rfl) (by kernel_rfl) (by kernel_rfl) (by kernel_rfl) (fun _ _ _ h => h) (Or.inl ⟨by kernel_rfl, ?_⟩) hS ?_
          rotate_left
          · (intro wS hSw; (try dsimp only at hSw); go_simp; (try rw [if_neg (by omega)]); try with_reducible rfl)
          simp only [Act.put, List.setIfInBounds_toArray, List.set_cons_zero, List.set_cons_succ]
          refine AtT.taked (i := 3) (v := ?_) (some 47) rfl rfl (by kernel_rfl) (by kernel_rfl) (by kernel_rfl) (by kernel_rfl) (fun _ _ _ h => h) (Or.inl ⟨by kernel_rfl, ?_⟩) hS ?_
          rotate_left
          · (intro wS hSw; (try dsimp only at hSw); have q9 := HQ9.out _ hSw; go_simp; (try rw [if_neg (by omega)]); try with_reducible rfl)
          simp only [Act.put, List.setIfInBounds_toArray, List.set_cons_zero, List.set_cons_succ]
          refine AtT.taked (i := 5) (v := ?_) (some 49) rfl rfl (by kernel_rfl) (by kernel_rfl) (by kernel_rfl) (by kernel_rfl) (fun _ _ _ h => h) (Or.inl ⟨by kernel_rfl, ?_⟩) hS ?_
          rotate_left
          · (intro wS hSw; (try dsimp only at hSw); go_simp; (try rw [if_neg (by omega)]); try with_reducible rfl)
          simp only [Act.put, List.setIfInBounds_toArray, List.set_cons_zero, List.set_cons_succ]
          refine AtT.taked (i := 6) (v := ?_) (some 50) rfl rfl (by kernel_rfl) (by kernel_rfl) (by kernel_rfl) (by kernel_rfl) (fun _ _ _ h => h) (Or.inl ⟨by kernel_rfl, ?_⟩) hS ?_
          rotate_left
          · (intro wS hSw; (try dsimp only at hSw); go_simp; (try rw [if_neg (by omega)]); try with_reducible rfl)
          simp only [Act.put, List.setIfInBounds_toArray, List.set_cons_zero, List.set_cons_succ]
          refine AtT.taked (i := 7) (v := ?_) (some 51) rfl rfl (by kernel_rfl) (by kernel_rfl) (by kernel_rfl) (by kernel_rfl) (fun _ _ _ h => h) (Or.inl ⟨by kernel_rfl, ?_⟩) hS ?_
          rotate_left
          · (intro wS hSw; (try dsimp only at hSw); have q9 := HQ9.out _ hSw; go_simp; (try rw [if_neg (by omega)]); try with_reducible rfl)
          simp only [Act.put, List.setIfInBounds_toArray, List.set_cons_zero, List.set_cons_succ]
          refine AtT.taked (i := 8) (v := ?_) (some 52) rfl rfl (by kernel_rfl) (by kernel_rfl) (by kernel_rfl) (by kernel_rfl) (fun _ _ _ h => h) (Or.inl ⟨by kernel_rfl, ?_⟩) hS ?_
          rotate_left
          · (intro wS hSw; (try dsimp only at hSw); go_simp; (try rw [if_neg (by omega)]); try with_reducible rfl)
          simp only [Act.put, List.setIfInBounds_toArray, List.set_cons_zero, List.set_cons_succ]
          refine AtT.taked (i := 9) (v := ?_) (some 53) rfl rfl (by kernel_rfl) (by kernel_rfl) (by kernel_rfl) (by kernel_rfl) (fun _ _ _ h => h) (Or.inl ⟨by kernel_rfl, ?_⟩) hS ?_
          rotate_left
          · (intro wS hSw; (try dsimp only at hSw); have q9 := HQ9.out _ hSw; go_simp; (try rw [if_neg (by omega)]); try with_reducible rfl)
          simp only [Act.put, List.setIfInBounds_toArray, List.set_cons_zero, List.set_cons_succ]
          refine AtT.taked (i := 12) (v := ?_) (some 56) rfl rfl (by kernel_rfl) (by kernel_rfl) (by kernel_rfl) (by kernel_rfl) (fun _ _ _ h => h) (Or.inl ⟨by kernel_rfl, ?_⟩) hS ?_
          rotate_left
          · (intro wS hSw; (try dsimp only at hSw); go_simp; (try rw [if_neg (by omega)]); try with_reducible rfl)
          simp only [Act.put, List.setIfInBounds_toArray, List.set_cons_zero, List.set_cons_succ]
          refine AtT.taked (i := 13) (v := ?_) (some 57) rfl rfl (by kernel_rfl) (by kernel_rfl) (by kernel_rfl) (by kernel_rfl) (fun _ _ _ h => h) (Or.inl ⟨by kernel_rfl, ?_⟩) hS ?_
          rotate_left
          · (intro wS hSw; (try dsimp only at hSw); go_simp; (try rw [if_neg (by omega)]); try with_reducible rfl)
          simp only [Act.put, List.setIfInBounds_toArray, List.set_cons_zero, List.set_cons_succ]
          refine AtT.taked (i := 14) (v := ?_) (some 58) rfl rfl (by kernel_rfl) (by kernel_rfl) (by kernel_rfl) (by kernel_rfl) (fun _ _ _ h => h) (Or.inl ⟨by kernel_rfl, ?_⟩) hS ?_
          rotate_left
          · (intro wS hSw; (try dsimp only at hSw); have q9 := HQ9.out _ hSw; go_simp; (try rw [if_neg (by omega)]); try with_reducible rfl)
          simp only [Act.put, List.setIfInBounds_toArray, List.set_cons_zero, List.set_cons_succ]
          refine AtT.two (i := 0) (j := 10) (by kernel_rfl) rfl rfl rfl rfl ?_ ?_
          · skip
            intro K hK
            go_simp
            refine hK.out _ _ (by apply Mem.tail; (repeat' (first | with_reducible exact hM | with_reducible exact hMp | with_reducible apply Mem.drew | with_reducible apply Mem.drewN | with_reducible apply Mem.alloc | with_reducible apply Mem.set | with_reducible exact Sto.row | ((with_reducible refine Sto.rowEq2 ?_ ?_); omega; rfl) | ((with_reducible refine Sto.rowEq ?_); omega) | with_reducible apply Sto.int | with_reducible apply Sto.there | with_reducible assumption | (unfold I64; omega) | (with_reducible (have hMx := Mem.undrew hM; exact hMx)) | (with_reducible (have hMx := Mem.undrew hMp; exact hMx))))) ?_
            clear hK K hS
            have hMp := hM
            apply Mem.atT
            · (repeat' (first | with_reducible exact hM | with_reducible exact hMp | with_reducible apply Mem.drew | with_reducible apply Mem.drewN | with_reducible apply Mem.alloc | with_reducible apply Mem.set | with_reducible exact Sto.row | ((with_reducible refine Sto.rowEq2 ?_ ?_); omega; rfl) | ((with_reducible refine Sto.rowEq ?_); omega) | with_reducible apply Sto.int | with_reducible apply Sto.there | with_reducible assumption | (unfold I64; omega) | (with_reducible (have hMx := Mem.undrew hM; exact hMx)) | (with_reducible (have hMx := Mem.undrew hMp; exact hMx))))
            clear hM
            intro hM
            (try simp only [World.size_alloc, World.size_setCell, World.heap_drewN, heapDrew, Nat.add_assoc, Nat.reduceAdd, List.setIfInBounds_toArray, List.set_cons_zero, List.set_cons_succ, List.cons_append, List.nil_append] at hM)
            have hS := hM.tail
            refine AtT.two (i := 4) (j := 10) (by kernel_rfl) rfl rfl rfl rfl ?_ ?_
            · skip
              intro K hK
              replace hM := hM.toInts (xs := []) .here rfl (by simp) (by simp)
              refine step_appendI rfl (.tmp 44) (.tmp 47) 26 rfl 3 i0 Tryd.underlying26 hi hz0 hz1 hz2 w.heap.size _ 0 _ [] rfl (hM.ints .here).row (some ⟨g, 0, none⟩) i i (os.take i) rfl ((hM.ints (.there .here)).ints.take hki) (by omega) hM.size ?_
              intro a2 c2 w2 hrow hg hbl
              rw [Nat.zero_add, List.nil_append] at hrow
              rw [Nat.zero_add]
              have hO := own_of hrow (by rw [List.length_take, HLO.out]; omega) (by omega) HWT.out
              replace hM := hM.appended .here hO hg (fun k hk => by simpa using hbl k hk)
              clear hO hrow hg hbl
              try dsimp only
              refine hK.out _ _ (hM.tail) ?_
              clear hK K hS
              have hS := hM.tail
              refine AtT.only (i := 10) (by kernel_rfl) rfl rfl ?_
              intro K hK
              go_simp
              refine hK.out _ _ (by apply Mem.tail; apply Mem.tail; (repeat' (first | with_reducible exact hM | with_reducible exact hMp | with_reducible apply Mem.drew | with_reducible apply Mem.drewN | with_reducible apply Mem.alloc | with_reducible apply Mem.set | with_reducible exact Sto.row | ((with_reducible refine Sto.rowEq2 ?_ ?_); omega; rfl) | ((with_reducible refine Sto.rowEq ?_); omega) | with_reducible apply Sto.int | with_reducible apply Sto.there | with_reducible assumption | (unfold I64; omega) | (with_reducible (have hMx := Mem.undrew hM; exact hMx)) | (with_reducible (have hMx := Mem.undrew hMp; exact hMx))))) ?_
              clear hK K hS
              have hMp := hM
              apply Mem.atT
              · (repeat' (first | with_reducible exact hM | with_reducible exact hMp | with_reducible apply Mem.drew | with_reducible apply Mem.drewN | with_reducible apply Mem.alloc | with_reducible apply Mem.set | with_reducible exact Sto.row | ((with_reducible refine Sto.rowEq2 ?_ ?_); omega; rfl) | ((with_reducible refine Sto.rowEq ?_); omega) | with_reducible apply Sto.int | with_reducible apply Sto.there | with_reducible assumption | (unfold I64; omega) | (with_reducible (have hMx := Mem.undrew hM; exact hMx)) | (with_reducible (have hMx := Mem.undrew hMp; exact hMx))))
              clear hM
              intro hM
              (try simp only [World.size_alloc, World.size_setCell, World.heap_drewN, heapDrew, Nat.add_assoc, Nat.reduceAdd, List.setIfInBounds_toArray, List.set_cons_zero, List.set_cons_succ, List.cons_append, List.nil_append] at hM)
              have hS := hM.tail.tail
              refine AtT.only (i := 11) (by kernel_rfl) rfl rfl ?_
              intro K hK
              refine step_appendI rfl (.tmp 48) (.tmp 54) 26 rfl 3 i0 Tryd.underlying26 hi hz0 hz1 hz2 w.heap.size _ _ _ _ rfl (hM.ints (.there .here)).row _ 1 1 [xv] rfl (hM.oneInt .here (by unfold I64; omega)) (by omega) hM.size ?_
              intro a3 c3 w3 hrow hg hbl
              have hO := own_of hrow (by first | (simp [HLO.out]; done) | (simp [HLO.out]; omega)) (by omega) HWI.out
              replace hM := hM.appended (.there .here) hO hg (fun k hk => by simpa using hbl k hk)
              clear hO hrow hg hbl
              try dsimp only
              refine hK.out _ _ (hM.tail.tail) ?_
              clear hK K hS
              have hS := hM.tail.tail
              refine AtT.only (i := 15) (by kernel_rfl) rfl rfl ?_
              intro K hK
              refine step_appendI rfl (.tmp 55) (.tmp 58) 26 rfl 3 i0 Tryd.underlying26 hi hz0 hz1 hz2 w.heap.size _ _ _ _ rfl (hM.ints (.there .here)).row (some ⟨g, 0, none⟩) 0 0 (os.drop i) rfl (by rw [List.drop_of_length_le (by rw [HLO.out]; exact Nat.le_refl _)]; exact Ints.none' (by unfold maxLen; omega) (by simp)) (by omega) hM.size ?_
              intro a4 c4 w4 hrow hg hbl
              rw [show i + 1 + 0 = i + 1 by omega] at hrow ⊢
              rw [HLN.out] at hrow
              have hO := own_of hrow (insS_length _ _) (by omega) HWN.out
              replace hM := hM.appended (.there .here) hO hg (fun k hk => by simpa using hbl k hk)
              obtain ⟨g4, rfl, _⟩ := hO.head (by omega)
              clear hO hrow hg hbl
              try dsimp only
              refine hK.out _ _ (hM.tail.tail) ?_
              clear hK K hS
              have hS := hM.tail.tail
              refine AtT.last (by kernel_rfl) rfl (by kernel_rfl) ?_
              intro K hK
              clear hS
              go_simp
              refine hK.out _ _ ?_
              clear hK K
              go_wp2
              go_roundg (n - (i + 1))
              case measure => omega
              case rel =>
              refine ⟨i + 1, g4, c4, by omega, rfl, by go_num, rfl, ?_⟩
              apply Mem.pick (is := [1])
              · (repeat' (first | with_reducible exact hM | with_reducible exact hMp | with_reducible apply Mem.drew | with_reducible apply Mem.drewN | with_reducible apply Mem.alloc | with_reducible apply Mem.set | with_reducible exact Sto.row | ((with_reducible refine Sto.rowEq2 ?_ ?_); omega; rfl) | ((with_reducible refine Sto.rowEq ?_); omega) | with_reducible apply Sto.int | with_reducible apply Sto.there | with_reducible assumption | (unfold I64; omega) | (with_reducible (have hMx := Mem.undrew hM; exact hMx)) | (with_reducible (have hMx := Mem.undrew hMp; exact hMx))))
              · decide
              · rfl
            · skip
              intro K hK
              go_simp
              refine hK.out _ _ (by apply Mem.tail; apply Mem.tail; (repeat' (first | with_reducible exact hM | with_reducible exact hMp | with_reducible apply Mem.drew | with_reducible apply Mem.drewN | with_reducible apply Mem.alloc | with_reducible apply Mem.set | with_reducible exact Sto.row | ((with_reducible refine Sto.rowEq2 ?_ ?_); omega; rfl) | ((with_reducible refine Sto.rowEq ?_); omega) | with_reducible apply Sto.int | with_reducible apply Sto.there | with_reducible assumption | (unfold I64; omega) | (with_reducible (have hMx := Mem.undrew hM; exact hMx)) | (with_reducible (have hMx := Mem.undrew hMp; exact hMx))))) ?_
              clear hK K hS
              have hMp := hM
              apply Mem.atT
              · (repeat' (first | with_reducible exact hM | with_reducible exact hMp | with_reducible apply Mem.drew | with_reducible apply Mem.drewN | with_reducible apply Mem.alloc | with_reducible apply Mem.set | with_reducible exact Sto.row | ((with_reducible refine Sto.rowEq2 ?_ ?_); omega; rfl) | ((with_reducible refine Sto.rowEq ?_); omega) | with_reducible apply Sto.int | with_reducible apply Sto.there | with_reducible assumption | (unfold I64; omega) | (with_reducible (have hMx := Mem.undrew hM; exact hMx)) | (with_reducible (have hMx := Mem.undrew hMp; exact hMx))))
              clear hM
              intro hM
              (try simp only [World.size_alloc, World.size_setCell, World.heap_drewN, heapDrew, Nat.add_assoc, Nat.reduceAdd, List.setIfInBounds_toArray, List.set_cons_zero, List.set_cons_succ, List.cons_append, List.nil_append] at hM)
              have hS := hM.tail.tail
              refine AtT.only (i := 4) (by kernel_rfl) rfl rfl ?_
              intro K hK
              replace hM := hM.toInts (xs := []) (.there .here) rfl (by simp) (by simp)
              refine step_appendI rfl (.tmp 44) (.tmp 47) 26 rfl 3 i0 Tryd.underlying26 hi hz0 hz1 hz2 w.heap.size _ 0 _ [] rfl (hM.ints (.there .here)).row (some ⟨g, 0, none⟩) i i (os.take i) rfl ((hM.ints (.there (.there .here))).ints.take hki) (by omega) hM.size ?_
              intro a2 c2 w2 hrow hg hbl
              rw [Nat.zero_add, List.nil_append] at hrow
              rw [Nat.zero_add]
              have hO := own_of hrow (by rw [List.length_take, HLO.out]; omega) (by omega) HWT.out
              replace hM := hM.appended (.there .here) hO hg (fun k hk => by simpa using hbl k hk)
              clear hO hrow hg hbl
              try dsimp only
              refine hK.out _ _ (hM.tail.tail) ?_
              clear hK K hS
              have hS := hM.tail.tail
              refine AtT.only (i := 11) (by kernel_rfl) rfl rfl ?_
              intro K hK
              refine step_appendI rfl (.tmp 48) (.tmp 54) 26 rfl 3 i0 Tryd.underlying26 hi hz0 hz1 hz2 w.heap.size _ _ _ _ rfl (hM.ints (.there .here)).row _ 1 1 [xv] rfl (hM.oneInt .here (by unfold I64; omega)) (by omega) hM.size ?_
              intro a3 c3 w3 hrow hg hbl
              have hO := own_of hrow (by first | (simp [HLO.out]; done) | (simp [HLO.out]; omega)) (by omega) HWI.out
              replace hM := hM.appended (.there .here) hO hg (fun k hk => by simpa using hbl k hk)
              clear hO hrow hg hbl
              try dsimp only
              refine hK.out _ _ (hM.tail.tail) ?_
              clear hK K hS
              have hS := hM.tail.tail
              refine AtT.only (i := 15) (by kernel_rfl) rfl rfl ?_
              intro K hK
              refine step_appendI rfl (.tmp 55) (.tmp 58) 26 rfl 3 i0 Tryd.underlying26 hi hz0 hz1 hz2 w.heap.size _ _ _ _ rfl (hM.ints (.there .here)).row (some ⟨g, 0, none⟩) 0 0 (os.drop i) rfl (by rw [List.drop_of_length_le (by rw [HLO.out]; exact Nat.le_refl _)]; exact Ints.none' (by unfold maxLen; omega) (by simp)) (by omega) hM.size ?_
              intro a4 c4 w4 hrow hg hbl
              rw [show i + 1 + 0 = i + 1 by omega] at hrow ⊢
              rw [HLN.out] at hrow
              have hO := own_of hrow (insS_length _ _) (by omega) HWN.out
              replace hM := hM.appended (.there .here) hO hg (fun k hk => by simpa using hbl k hk)
              obtain ⟨g4, rfl, _⟩ := hO.head (by omega)
              clear hO hrow hg hbl
              try dsimp only
              refine hK.out _ _ (hM.tail.tail) ?_
              clear hK K hS
              have hS := hM.tail.tail
              refine AtT.last (by kernel_rfl) rfl (by kernel_rfl) ?_
              intro K hK
              clear hS
              go_simp
              refine hK.out _ _ ?_
              clear hK K
              go_wp2
              go_roundg (n - (i + 1))
              case measure => omega
              case rel =>
              refine ⟨i + 1, g4, c4, by omega, rfl, by go_num, rfl, ?_⟩
              apply Mem.pick (is := [1])
              · (repeat' (first | with_reducible exact hM | with_reducible exact hMp | with_reducible apply Mem.drew | with_reducible apply Mem.drewN | with_reducible apply Mem.alloc | with_reducible apply Mem.set | with_reducible exact Sto.row | ((with_reducible refine Sto.rowEq2 ?_ ?_); omega; rfl) | ((with_reducible refine Sto.rowEq ?_); omega) | with_reducible apply Sto.int | with_reducible apply Sto.there | with_reducible assumption | (unfold I64; omega) | (with_reducible (have hMx := Mem.undrew hM; exact hMx)) | (with_reducible (have hMx := Mem.undrew hMp; exact hMx))))
              · decide
              · rfl
          · skip
            intro K hK
            go_simp
            refine hK.out _ _ (by apply Mem.tail; (repeat' (first | with_reducible exact hM | with_reducible exact hMp | with_reducible apply Mem.drew | with_reducible apply Mem.drewN | with_reducible apply Mem.alloc | with_reducible apply Mem.set | with_reducible exact Sto.row | ((with_reducible refine Sto.rowEq2 ?_ ?_); omega; rfl) | ((with_reducible refine Sto.rowEq ?_); omega) | with_reducible apply Sto.int | with_reducible apply Sto.there | with_reducible assumption | (unfold I64; omega) | (with_reducible (have hMx := Mem.undrew hM; exact hMx)) | (with_reducible (have hMx := Mem.undrew hMp; exact hMx))))) ?_
            clear hK K hS
            have hMp := hM
            apply Mem.atT
            · (repeat' (first | with_reducible exact hM | with_reducible exact hMp | with_reducible apply Mem.drew | with_reducible apply Mem.drewN | with_reducible apply Mem.alloc | with_reducible apply Mem.set | with_reducible exact Sto.row | ((with_reducible refine Sto.rowEq2 ?_ ?_); omega; rfl) | ((with_reducible refine Sto.rowEq ?_); omega) | with_reducible apply Sto.int | with_reducible apply Sto.there | with_reducible assumption | (unfold I64; omega) | (with_reducible (have hMx := Mem.undrew hM; exact hMx)) | (with_reducible (have hMx := Mem.undrew hMp; exact hMx))))
            clear hM
            intro hM
            (try simp only [World.size_alloc, World.size_setCell, World.heap_drewN, heapDrew, Nat.add_assoc, Nat.reduceAdd, List.setIfInBounds_toArray, List.set_cons_zero, List.set_cons_succ, List.cons_append, List.nil_append] at hM)
            have hS := hM.tail
            refine AtT.only (i := 0) (by kernel_rfl) rfl rfl ?_
            intro K hK
            go_simp
            refine hK.out _ _ (by apply Mem.tail; apply Mem.tail; (repeat' (first | with_reducible exact hM | with_reducible exact hMp | with_reducible apply Mem.drew | with_reducible apply Mem.drewN | with_reducible apply Mem.alloc | with_reducible apply Mem.set | with_reducible exact Sto.row | ((with_reducible refine Sto.rowEq2 ?_ ?_); omega; rfl) | ((with_reducible refine Sto.rowEq ?_); omega) | with_reducible apply Sto.int | with_reducible apply Sto.there | with_reducible assumption | (unfold I64; omega) | (with_reducible (have hMx := Mem.undrew hM; exact hMx)) | (with_reducible (have hMx := Mem.undrew hMp; exact hMx))))) ?_
            clear hK K hS
            have hMp := hM
            apply Mem.atT
            · (repeat' (first | with_reducible exact hM | with_reducible exact hMp | with_reducible apply Mem.drew | with_reducible apply Mem.drewN | with_reducible apply Mem.alloc | with_reducible apply Mem.set | with_reducible exact Sto.row | ((with_reducible refine Sto.rowEq2 ?_ ?_); omega; rfl) | ((with_reducible refine Sto.rowEq ?_); omega) | with_reducible apply Sto.int | with_reducible apply Sto.there | with_reducible assumption | (unfold I64; omega) | (with_reducible (have hMx := Mem.undrew hM; exact hMx)) | (with_reducible (have hMx := Mem.undrew hMp; exact hMx))))
            clear hM
            intro hM
            (try simp only [World.size_alloc, World.size_setCell, World.heap_drewN, heapDrew, Nat.add_assoc, Nat.reduceAdd, List.setIfInBounds_toArray, List.set_cons_zero, List.set_cons_succ, List.cons_append, List.nil_append] at hM)
            have hS := hM.tail.tail
            refine AtT.only (i := 4) (by kernel_rfl) rfl rfl ?_
            intro K hK
            replace hM := hM.toInts (xs := []) .here rfl (by simp) (by simp)
            refine step_appendI rfl (.tmp 44) (.tmp 47) 26 rfl 3 i0 Tryd.underlying26 hi hz0 hz1 hz2 w.heap.size _ 0 _ [] rfl (hM.ints .here).row (some ⟨g, 0, none⟩) i i (os.take i) rfl ((hM.ints (.there (.there .here))).ints.take hki) (by omega) hM.size ?_
            intro a2 c2 w2 hrow hg hbl
            rw [Nat.zero_add, List.nil_append] at hrow
            rw [Nat.zero_add]
            have hO := own_of hrow (by rw [List.length_take, HLO.out]; omega) (by omega) HWT.out
            replace hM := hM.appended .here hO hg (fun k hk => by simpa using hbl k hk)
            clear hO hrow hg hbl
            try dsimp only
            refine hK.out _ _ (hM.tail.tail) ?_
            clear hK K hS
            have hS := hM.tail.tail
            refine AtT.only (i := 11) (by kernel_rfl) rfl rfl ?_
            intro K hK
            refine step_appendI rfl (.tmp 48) (.tmp 54) 26 rfl 3 i0 Tryd.underlying26 hi hz0 hz1 hz2 w.heap.size _ _ _ _ rfl (hM.ints .here).row _ 1 1 [xv] rfl (hM.oneInt (.there .here) (by unfold I64; omega)) (by omega) hM.size ?_
            intro a3 c3 w3 hrow hg hbl
            have hO := own_of hrow (by first | (simp [HLO.out]; done) | (simp [HLO.out]; omega)) (by omega) HWI.out
            replace hM := hM.appended .here hO hg (fun k hk => by simpa using hbl k hk)
            clear hO hrow hg hbl
            try dsimp only
            refine hK.out _ _ (hM.tail.tail) ?_
            clear hK K hS
            have hS := hM.tail.tail
            refine AtT.only (i := 15) (by kernel_rfl) rfl rfl ?_
            intro K hK
            refine step_appendI rfl (.tmp 55) (.tmp 58) 26 rfl 3 i0 Tryd.underlying26 hi hz0 hz1 hz2 w.heap.size _ _ _ _ rfl (hM.ints .here).row (some ⟨g, 0, none⟩) 0 0 (os.drop i) rfl (by rw [List.drop_of_length_le (by rw [HLO.out]; exact Nat.le_refl _)]; exact Ints.none' (by unfold maxLen; omega) (by simp)) (by omega) hM.size ?_
            intro a4 c4 w4 hrow hg hbl
            rw [show i + 1 + 0 = i + 1 by omega] at hrow ⊢
            rw [HLN.out] at hrow
            have hO := own_of hrow (insS_length _ _) (by omega) HWN.out
            replace hM := hM.appended .here hO hg (fun k hk => by simpa using hbl k hk)
            obtain ⟨g4, rfl, _⟩ := hO.head (by omega)
            clear hO hrow hg hbl
            try dsimp only
            refine hK.out _ _ (hM.tail.tail) ?_
            clear hK K hS
            have hS := hM.tail.tail
            refine AtT.last (by kernel_rfl) rfl (by kernel_rfl) ?_
            intro K hK
            clear hS
            go_simp
            refine hK.out _ _ ?_
            clear hK K
            go_wp2
            go_roundg (n - (i + 1))
            case measure => omega
            case rel =>
            refine ⟨i + 1, g4, c4, by omega, rfl, by go_num, rfl, ?_⟩
            apply Mem.pick (is := [0])
            · (repeat' (first | with_reducible exact hM | with_reducible exact hMp | with_reducible apply Mem.drew | with_reducible apply Mem.drewN | with_reducible apply Mem.alloc | with_reducible apply Mem.set | with_reducible exact Sto.row | ((with_reducible refine Sto.rowEq2 ?_ ?_); omega; rfl) | ((with_reducible refine Sto.rowEq ?_); omega) | with_reducible apply Sto.int | with_reducible apply Sto.there | with_reducible assumption | (unfold I64; omega) | (with_reducible (have hMx := Mem.undrew hM; exact hMx)) | (with_reducible (have hMx := Mem.undrew hMp; exact hMx))))
            · decide
            · rfl
        · have hki2 : k < c' := by omega
          have hck : ¬ c' = k := by omega
          go_wp2_with fail
          apply Mem.atWp
          · (repeat' (first | with_reducible exact hM | with_reducible exact hMp | with_reducible apply Mem.drew | with_reducible apply Mem.drewN | with_reducible apply Mem.alloc | with_reducible apply Mem.set | with_reducible exact Sto.row | ((with_reducible refine Sto.rowEq2 ?_ ?_); omega; rfl) | ((with_reducible refine Sto.rowEq ?_); omega) | with_reducible apply Sto.int | with_reducible apply Sto.there | with_reducible assumption | (unfold I64; omega) | (with_reducible (have hMx := Mem.undrew hM; exact hMx)) | (with_reducible (have hMx := Mem.undrew hMp; exact hMx))))
          clear hM
          intro hM
          refine AtT.startA hM hM 16 (by kernel_rfl) ?_
          clear hM
          intro wd hM
          have hS := hM
          refine AtT.taked (i := 1) (v := ?_) (some 45) rfl rfl (by kernel_rfl) (by kernel_rfl) (by kernel_rfl) (by kernel_rfl) (fun _ _ _ h => h) (Or.inl ⟨by kernel_rfl, ?_⟩) hS ?_
          rotate_left
          · (intro wS hSw; (try dsimp only at hSw); go_simp; (try rw [if_neg (by omega)]); try with_reducible rfl)
          simp only [Act.put, List.setIfInBounds_toArray, List.set_cons_zero, List.set_cons_succ]
          refine AtT.taked (i := 2) (v := ?_) (some 46) rfl rfl (by kernel_rfl) (by kernel_rfl) (by kernel_rfl) (by kernel_rfl) (fun _ _ _ h => h) (Or.inl ⟨by kernel_rfl, ?_⟩) hS ?_
          rotate_left
          · (intro wS hSw; (try dsimp only at hSw); go_simp; (try rw [if_neg (by omega)]); try with_reducible rfl)
          simp only [Act.put, List.setIfInBounds_toArray, List.set_cons_zero, List.set_cons_succ]
          refine AtT.taked (i := 3) (v := ?_) (some 47) rfl rfl (by kernel_rfl) (by kernel_rfl) (by kernel_rfl) (by kernel_rfl) (fun _ _ _ h => h) (Or.inl ⟨by kernel_rfl, ?_⟩) hS ?_
          rotate_left
          · (intro wS hSw; (try dsimp only at hSw); have q9 := HQ9.out _ hSw; go_simp; (try rw [if_neg (by omega)]); try with_reducible rfl)
          simp only [Act.put, List.setIfInBounds_toArray, List.set_cons_zero, List.set_cons_succ]
          refine AtT.taked (i := 5) (v := ?_) (some 49) rfl rfl (by kernel_rfl) (by kernel_rfl) (by kernel_rfl) (by kernel_rfl) (fun _ _ _ h => h) (Or.inl ⟨by kernel_rfl, ?_⟩) hS ?_
          rotate_left
          · (intro wS hSw; (try dsimp only at hSw); go_simp; (try rw [if_neg (by omega)]); try with_reducible rfl)
          simp only [Act.put, List.setIfInBounds_toArray, List.set_cons_zero, List.set_cons_succ]
          refine AtT.taked (i := 6) (v := ?_) (some 50) rfl rfl (by kernel_rfl) (by kernel_rfl) (by kernel_rfl) (by kernel_rfl) (fun _ _ _ h => h) (Or.inl ⟨by kernel_rfl, ?_⟩) hS ?_
          rotate_left
          · (intro wS hSw; (try dsimp only at hSw); go_simp; (try rw [if_neg (by omega)]); try with_reducible rfl)
          simp only [Act.put, List.setIfInBounds_toArray, List.set_cons_zero, List.set_cons_succ]
          refine AtT.taked (i := 7) (v := ?_) (some 51) rfl rfl (by kernel_rfl) (by kernel_rfl) (by kernel_rfl) (by kernel_rfl) (fun _ _ _ h => h) (Or.inl ⟨by kernel_rfl, ?_⟩) hS ?_
          rotate_left
          · (intro wS hSw; (try dsimp only at hSw); have q9 := HQ9.out _ hSw; go_simp; (try rw [if_neg (by omega)]); try with_reducible rfl)
          simp only [Act.put, List.setIfInBounds_toArray, List.set_cons_zero, List.set_cons_succ]
          refine AtT.taked (i := 8) (v := ?_) (some 52) rfl rfl (by kernel_rfl) (by kernel_rfl) (by kernel_rfl) (by kernel_rfl) (fun _ _ _ h => h) (Or.inl ⟨by kernel_rfl, ?_⟩) hS ?_
          rotate_left
          · (intro wS hSw; (try dsimp only at hSw); go_simp; (try rw [if_neg (by omega)]); try with_reducible rfl)
          simp only [Act.put, List.setIfInBounds_toArray, List.set_cons_zero, List.set_cons_succ]
          refine AtT.taked (i := 9) (v := ?_) (some 53) rfl rfl (by kernel_rfl) (by kernel_rfl) (by kernel_rfl) (by kernel_rfl) (fun _ _ _ h => h) (Or.inl ⟨by kernel_rfl, ?_⟩) hS ?_
          rotate_left
          · (intro wS hSw; (try dsimp only at hSw); have q9 := HQ9.out _ hSw; go_simp; (try rw [if_neg (by omega)]); try with_reducible rfl)
          simp only [Act.put, List.setIfInBounds_toArray, List.set_cons_zero, List.set_cons_succ]
          refine AtT.taked (i := 12) (v := ?_) (some 56) rfl rfl (by kernel_rfl) (by kernel_rfl) (by kernel_rfl) (by kernel_rfl) (fun _ _ _ h => h) (Or.inl ⟨by kernel_rfl, ?_⟩) hS ?_
          rotate_left
          · (intro wS hSw; (try dsimp only at hSw); go_simp; (try rw [if_neg (by omega)]); try with_reducible rfl)
          simp only [Act.put, List.setIfInBounds_toArray, List.set_cons_zero, List.set_cons_succ]
          refine AtT.taked (i := 13) (v := ?_) (some 57) rfl rfl (by kernel_rfl) (by kernel_rfl) (by kernel_rfl) (by kernel_rfl) (fun _ _ _ h => h) (Or.inl ⟨by kernel_rfl, ?_⟩) hS ?_
          rotate_left
          · (intro wS hSw; (try dsimp only at hSw); go_simp; (try rw [if_neg (by omega)]); try with_reducible rfl)
          simp only [Act.put, List.setIfInBounds_toArray, List.set_cons_zero, List.set_cons_succ]
          refine AtT.taked (i := 14) (v := ?_) (some 58) rfl rfl (by kernel_rfl) (by kernel_rfl) (by kernel_rfl) (by kernel_rfl) (fun _ _ _ h => h) (Or.inl ⟨by kernel_rfl, ?_⟩) hS ?_
          rotate_left
          · (intro wS hSw; (try dsimp only at hSw); have q9 := HQ9.out _ hSw; go_simp; (try rw [if_neg (by omega)]); try with_reducible rfl)
          simp only [Act.put, List.setIfInBounds_toArray, List.set_cons_zero, List.set_cons_succ]
          refine AtT.two (i := 0) (j := 10) (by kernel_rfl) rfl rfl rfl rfl ?_ ?_
          · skip
            intro K hK
            go_simp
            refine hK.out _ _ (by apply Mem.tail; (repeat' (first | with_reducible exact hM | with_reducible exact hMp | with_reducible apply Mem.drew | with_reducible apply Mem.drewN | with_reducible apply Mem.alloc | with_reducible apply Mem.set | with_reducible exact Sto.row | ((with_reducible refine Sto.rowEq2 ?_ ?_); omega; rfl) | ((with_reducible refine Sto.rowEq ?_); omega) | with_reducible apply Sto.int | with_reducible apply Sto.there | with_reducible assumption | (unfold I64; omega) | (with_reducible (have hMx := Mem.undrew hM; exact hMx)) | (with_reducible (have hMx := Mem.undrew hMp; exact hMx))))) ?_
            clear hK K hS
            have hMp := hM
            apply Mem.atT
            · (repeat' (first | with_reducible exact hM | with_reducible exact hMp | with_reducible apply Mem.drew | with_reducible apply Mem.drewN | with_reducible apply Mem.alloc | with_reducible apply Mem.set | with_reducible exact Sto.row | ((with_reducible refine Sto.rowEq2 ?_ ?_); omega; rfl) | ((with_reducible refine Sto.rowEq ?_); omega) | with_reducible apply Sto.int | with_reducible apply Sto.there | with_reducible assumption | (unfold I64; omega) | (with_reducible (have hMx := Mem.undrew hM; exact hMx)) | (with_reducible (have hMx := Mem.undrew hMp; exact hMx))))
            clear hM
            intro hM
            (try simp only [World.size_alloc, World.size_setCell, World.heap_drewN, heapDrew, Nat.add_assoc, Nat.reduceAdd, List.setIfInBounds_toArray, List.set_cons_zero, List.set_cons_succ, List.cons_append, List.nil_append] at hM)
            have hS := hM.tail
            refine AtT.two (i := 4) (j := 10) (by kernel_rfl) rfl rfl rfl rfl ?_ ?_
            · skip
              intro K hK
              replace hM := hM.toInts (xs := []) .here rfl (by simp) (by simp)
              refine step_appendI rfl (.tmp 44) (.tmp 47) 26 rfl 3 i0 Tryd.underlying26 hi hz0 hz1 hz2 w.heap.size _ 0 _ [] rfl (hM.ints .here).row (some ⟨g, 0, none⟩) k c' (os.take k) rfl ((hM.ints (.there .here)).ints.take hki) (by omega) hM.size ?_
              intro a2 c2 w2 hrow hg hbl
              rw [Nat.zero_add, List.nil_append] at hrow
              rw [Nat.zero_add]
              have hO := own_of hrow (by rw [List.length_take, HLO.out]; omega) (by omega) HWT.out
              replace hM := hM.appended .here hO hg (fun k hk => by simpa using hbl k hk)
              clear hO hrow hg hbl
              try dsimp only
              refine hK.out _ _ (hM.tail) ?_
              clear hK K hS
              have hS := hM.tail
              refine AtT.only (i := 10) (by kernel_rfl) rfl rfl ?_
              intro K hK
              go_simp
              refine hK.out _ _ (by apply Mem.tail; apply Mem.tail; (repeat' (first | with_reducible exact hM | with_reducible exact hMp | with_reducible apply Mem.drew | with_reducible apply Mem.drewN | with_reducible apply Mem.alloc | with_reducible apply Mem.set | with_reducible exact Sto.row | ((with_reducible refine Sto.rowEq2 ?_ ?_); omega; rfl) | ((with_reducible refine Sto.rowEq ?_); omega) | with_reducible apply Sto.int | with_reducible apply Sto.there | with_reducible assumption | (unfold I64; omega) | (with_reducible (have hMx := Mem.undrew hM; exact hMx)) | (with_reducible (have hMx := Mem.undrew hMp; exact hMx))))) ?_
              clear hK K hS
              have hMp := hM
              apply Mem.atT
              · (repeat' (first | with_reducible exact hM | with_reducible exact hMp | with_reducible apply Mem.drew | with_reducible apply Mem.drewN | with_reducible apply Mem.alloc | with_reducible apply Mem.set | with_reducible exact Sto.row | ((with_reducible refine Sto.rowEq2 ?_ ?_); omega; rfl) | ((with_reducible refine Sto.rowEq ?_); omega) | with_reducible apply Sto.int | with_reducible apply Sto.there | with_reducible assumption | (unfold I64; omega) | (with_reducible (have hMx := Mem.undrew hM; exact hMx)) | (with_reducible (have hMx := Mem.undrew hMp; exact hMx))))
              clear hM
              intro hM
              (try simp only [World.size_alloc, World.size_setCell, World.heap_drewN, heapDrew, Nat.add_assoc, Nat.reduceAdd, List.setIfInBounds_toArray, List.set_cons_zero, List.set_cons_succ, List.cons_append, List.nil_append] at hM)
              have hS := hM.tail.tail
              refine AtT.only (i := 11) (by kernel_rfl) rfl rfl ?_
              intro K hK
              refine step_appendI rfl (.tmp 48) (.tmp 54) 26 rfl 3 i0 Tryd.underlying26 hi hz0 hz1 hz2 w.heap.size _ _ _ _ rfl (hM.ints (.there .here)).row _ 1 1 [xv] rfl (hM.oneInt .here (by unfold I64; omega)) (by omega) hM.size ?_
              intro a3 c3 w3 hrow hg hbl
              have hO := own_of hrow (by first | (simp [HLO.out]; done) | (simp [HLO.out]; omega)) (by omega) HWI.out
              replace hM := hM.appended (.there .here) hO hg (fun k hk => by simpa using hbl k hk)
              clear hO hrow hg hbl
              try dsimp only
              refine hK.out _ _ (hM.tail.tail) ?_
              clear hK K hS
              have hS := hM.tail.tail
              refine AtT.only (i := 15) (by kernel_rfl) rfl rfl ?_
              intro K hK
              refine step_appendI rfl (.tmp 55) (.tmp 58) 26 rfl 3 i0 Tryd.underlying26 hi hz0 hz1 hz2 w.heap.size _ _ _ _ rfl (hM.ints (.there .here)).row (some ⟨g, k, none⟩) (i - k) (c' - k) (os.drop k) rfl ((hM.ints (.there (.there .here))).ints.drop hki) (by omega) hM.size ?_
              intro a4 c4 w4 hrow hg hbl
              rw [show k + 1 + (i - k) = i + 1 by omega] at hrow ⊢
              rw [HLN.out] at hrow
              have hO := own_of hrow (insS_length _ _) (by omega) HWN.out
              replace hM := hM.appended (.there .here) hO hg (fun k hk => by simpa using hbl k hk)
              obtain ⟨g4, rfl, _⟩ := hO.head (by omega)
              clear hO hrow hg hbl
              try dsimp only
              refine hK.out _ _ (hM.tail.tail) ?_
              clear hK K hS
              have hS := hM.tail.tail
              refine AtT.last (by kernel_rfl) rfl (by kernel_rfl) ?_
              intro K hK
              clear hS
              go_simp
              refine hK.out _ _ ?_
              clear hK K
              go_wp2
              go_roundg (n - (i + 1))
              case measure => omega
              case rel =>
              refine ⟨i + 1, g4, c4, by omega, rfl, by go_num, rfl, ?_⟩
              apply Mem.pick (is := [1])
              · (repeat' (first | with_reducible exact hM | with_reducible exact hMp | with_reducible apply Mem.drew | with_reducible apply Mem.drewN | with_reducible apply Mem.alloc | with_reducible apply Mem.set | with_reducible exact Sto.row | ((with_reducible refine Sto.rowEq2 ?_ ?_); omega; rfl) | ((with_reducible refine Sto.rowEq ?_); omega) | with_reducible apply Sto.int | with_reducible apply Sto.there | with_reducible assumption | (unfold I64; omega) | (with_reducible (have hMx := Mem.undrew hM; exact hMx)) | (with_reducible (have hMx := Mem.undrew hMp; exact hMx))))
              · decide
              · rfl
            · skip
              intro K hK
              go_simp
              refine hK.out _ _ (by apply Mem.tail; apply Mem.tail; (repeat' (first | with_reducible exact hM | with_reducible exact hMp | with_reducible apply Mem.drew | with_reducible apply Mem.drewN | with_reducible apply Mem.alloc | with_reducible apply Mem.set | with_reducible exact Sto.row | ((with_reducible refine Sto.rowEq2 ?_ ?_); omega; rfl) | ((with_reducible refine Sto.rowEq ?_); omega) | with_reducible apply Sto.int | with_reducible apply Sto.there | with_reducible assumption | (unfold I64; omega) | (with_reducible (have hMx := Mem.undrew hM; exact hMx)) | (with_reducible (have hMx := Mem.undrew hMp; exact hMx))))) ?_
              clear hK K hS
              have hMp := hM
              apply Mem.atT
              · (repeat' (first | with_reducible exact hM | with_reducible exact hMp | with_reducible apply Mem.drew | with_reducible apply Mem.drewN | with_reducible apply Mem.alloc | with_reducible apply Mem.set | with_reducible exact Sto.row | ((with_reducible refine Sto.rowEq2 ?_ ?_); omega; rfl) | ((with_reducible refine Sto.rowEq ?_); omega) | with_reducible apply Sto.int | with_reducible apply Sto.there | with_reducible assumption | (unfold I64; omega) | (with_reducible (have hMx := Mem.undrew hM; exact hMx)) | (with_reducible (have hMx := Mem.undrew hMp; exact hMx))))
              clear hM
              intro hM
              (try simp only [World.size_alloc, World.size_setCell, World.heap_drewN, heapDrew, Nat.add_assoc, Nat.reduceAdd, List.setIfInBounds_toArray, List.set_cons_zero, List.set_cons_succ, List.cons_append, List.nil_append] at hM)
              have hS := hM.tail.tail
              refine AtT.only (i := 4) (by kernel_rfl) rfl rfl ?_
              intro K hK
              replace hM := hM.toInts (xs := []) (.there .here) rfl (by simp) (by simp)
              refine step_appendI rfl (.tmp 44) (.tmp 47) 26 rfl 3 i0 Tryd.underlying26 hi hz0 hz1 hz2 w.heap.size _ 0 _ [] rfl (hM.ints (.there .here)).row (some ⟨g, 0, none⟩) k c' (os.take k) rfl ((hM.ints (.there (.there .here))).ints.take hki) (by omega) hM.size ?_
              intro a2 c2 w2 hrow hg hbl
              rw [Nat.zero_add, List.nil_append] at hrow
              rw [Nat.zero_add]
              have hO := own_of hrow (by rw [List.length_take, HLO.out]; omega) (by omega) HWT.out
              replace hM := hM.appended (.there .here) hO hg (fun k hk => by simpa using hbl k hk)
              clear hO hrow hg hbl
              try dsimp only
              refine hK.out _ _ (hM.tail.tail) ?_
              clear hK K hS
              have hS := hM.tail.tail
              refine AtT.only (i := 11) (by kernel_rfl) rfl rfl ?_
              intro K hK
              refine step_appendI rfl (.tmp 48) (.tmp 54) 26 rfl 3 i0 Tryd.underlying26 hi hz0 hz1 hz2 w.heap.size _ _ _ _ rfl (hM.ints (.there .here)).row _ 1 1 [xv] rfl (hM.oneInt .here (by unfold I64; omega)) (by omega) hM.size ?_
              intro a3 c3 w3 hrow hg hbl
              have hO := own_of hrow (by first | (simp [HLO.out]; done) | (simp [HLO.out]; omega)) (by omega) HWI.out
              replace hM := hM.appended (.there .here) hO hg (fun k hk => by simpa using hbl k hk)
              clear hO hrow hg hbl
              try dsimp only
              refine hK.out _ _ (hM.tail.tail) ?_
              clear hK K hS
              have hS := hM.tail.tail
              refine AtT.only (i := 15) (by kernel_rfl) rfl rfl ?_
              intro K hK
              refine step_appendI rfl (.tmp 55) (.tmp 58) 26 rfl 3 i0 Tryd.underlying26 hi hz0 hz1 hz2 w.heap.size _ _ _ _ rfl (hM.ints (.there .here)).row (some ⟨g, k, none⟩) (i - k) (c' - k) (os.drop k) rfl ((hM.ints (.there (.there .here))).ints.drop hki) (by omega) hM.size ?_
              intro a4 c4 w4 hrow hg hbl
              rw [show k + 1 + (i - k) = i + 1 by omega] at hrow ⊢
              rw [HLN.out] at hrow
              have hO := own_of hrow (insS_length _ _) (by omega) HWN.out
              replace hM := hM.appended (.there .here) hO hg (fun k hk => by simpa using hbl k hk)
              obtain ⟨g4, rfl, _⟩ := hO.head (by omega)
              clear hO hrow hg hbl
              try dsimp only
              refine hK.out _ _ (hM.tail.tail) ?_
              clear hK K hS
              have hS := hM.tail.tail
              refine AtT.last (by kernel_rfl) rfl (by kernel_rfl) ?_
              intro K hK
              clear hS
              go_simp
              refine hK.out _ _ ?_
              clear hK K
              go_wp2
              go_roundg (n - (i + 1))
              case measure => omega
              case rel =>
              refine ⟨i + 1, g4, c4, by omega, rfl, by go_num, rfl, ?_⟩
              apply Mem.pick (is := [1])
              · (repeat' (first | with_reducible exact hM | with_reducible exact hMp | with_reducible apply Mem.drew | with_reducible apply Mem.drewN | with_reducible apply Mem.alloc | with_reducible apply Mem.set | with_reducible exact Sto.row | ((with_reducible refine Sto.rowEq2 ?_ ?_); omega; rfl) | ((with_reducible refine Sto.rowEq ?_); omega) | with_reducible apply Sto.int | with_reducible apply Sto.there | with_reducible assumption | (unfold I64; omega) | (with_reducible (have hMx := Mem.undrew hM; exact hMx)) | (with_reducible (have hMx := Mem.undrew hMp; exact hMx))))
              · decide
              · rfl
          · skip
            intro K hK
            go_simp
            refine hK.out _ _ (by apply Mem.tail; (repeat' (first | with_reducible exact hM | with_reducible exact hMp | with_reducible apply Mem.drew | with_reducible apply Mem.drewN | with_reducible apply Mem.alloc | with_reducible apply Mem.set | with_reducible exact Sto.row | ((with_reducible refine Sto.rowEq2 ?_ ?_); omega; rfl) | ((with_reducible refine Sto.rowEq ?_); omega) | with_reducible apply Sto.int | with_reducible apply Sto.there | with_reducible assumption | (unfold I64; omega) | (with_reducible (have hMx := Mem.undrew hM; exact hMx)) | (with_reducible (have hMx := Mem.undrew hMp; exact hMx))))) ?_
            clear hK K hS
            have hMp := hM
            apply Mem.atT
            · (repeat' (first | with_reducible exact hM | with_reducible exact hMp | with_reducible apply Mem.drew | with_reducible apply Mem.drewN | with_reducible apply Mem.alloc | with_reducible apply Mem.set | with_reducible exact Sto.row | ((with_reducible refine Sto.rowEq2 ?_ ?_); omega; rfl) | ((with_reducible refine Sto.rowEq ?_); omega) | with_reducible apply Sto.int | with_reducible apply Sto.there | with_reducible assumption | (unfold I64; omega) | (with_reducible (have hMx := Mem.undrew hM; exact hMx)) | (with_reducible (have hMx := Mem.undrew hMp; exact hMx))))
            clear hM
            intro hM
            (try simp only [World.size_alloc, World.size_setCell, World.heap_drewN, heapDrew, Nat.add_assoc, Nat.reduceAdd, List.setIfInBounds_toArray, List.set_cons_zero, List.set_cons_succ, List.cons_append, List.nil_append] at hM)
            have hS := hM.tail
            refine AtT.only (i := 0) (by kernel_rfl) rfl rfl ?_
            intro K hK
            go_simp
            refine hK.out _ _ (by apply Mem.tail; apply Mem.tail; (repeat' (first | with_reducible exact hM | with_reducible exact hMp | with_reducible apply Mem.drew | with_reducible apply Mem.drewN | with_reducible apply Mem.alloc | with_reducible apply Mem.set | with_reducible exact Sto.row | ((with_reducible refine Sto.rowEq2 ?_ ?_); omega; rfl) | ((with_reducible refine Sto.rowEq ?_); omega) | with_reducible apply Sto.int | with_reducible apply Sto.there | with_reducible assumption | (unfold I64; omega) | (with_reducible (have hMx := Mem.undrew hM; exact hMx)) | (with_reducible (have hMx := Mem.undrew hMp; exact hMx))))) ?_
            clear hK K hS
            have hMp := hM
            apply Mem.atT
            · (repeat' (first | with_reducible exact hM | with_reducible exact hMp | with_reducible apply Mem.drew | with_reducible apply Mem.drewN | with_reducible apply Mem.alloc | with_reducible apply Mem.set | with_reducible exact Sto.row | ((with_reducible refine Sto.rowEq2 ?_ ?_); omega; rfl) | ((with_reducible refine Sto.rowEq ?_); omega) | with_reducible apply Sto.int | with_reducible apply Sto.there | with_reducible assumption | (unfold I64; omega) | (with_reducible (have hMx := Mem.undrew hM; exact hMx)) | (with_reducible (have hMx := Mem.undrew hMp; exact hMx))))
            clear hM
            intro hM
            (try simp only [World.size_alloc, World.size_setCell, World.heap_drewN, heapDrew, Nat.add_assoc, Nat.reduceAdd, List.setIfInBounds_toArray, List.set_cons_zero, List.set_cons_succ, List.cons_append, List.nil_append] at hM)
            have hS := hM.tail.tail
            refine AtT.only (i := 4) (by kernel_rfl) rfl rfl ?_
            intro K hK
            replace hM := hM.toInts (xs := []) .here rfl (by simp) (by simp)
            refine step_appendI rfl (.tmp 44) (.tmp 47) 26 rfl 3 i0 Tryd.underlying26 hi hz0 hz1 hz2 w.heap.size _ 0 _ [] rfl (hM.ints .here).row (some ⟨g, 0, none⟩) k c' (os.take k) rfl ((hM.ints (.there (.there .here))).ints.take hki) (by omega) hM.size ?_
            intro a2 c2 w2 hrow hg hbl
            rw [Nat.zero_add, List.nil_append] at hrow
            rw [Nat.zero_add]
            have hO := own_of hrow (by rw [List.length_take, HLO.out]; omega) (by omega) HWT.out
            replace hM := hM.appended .here hO hg (fun k hk => by simpa using hbl k hk)
            clear hO hrow hg hbl
            try dsimp only
            refine hK.out _ _ (hM.tail.tail) ?_
            clear hK K hS
            have hS := hM.tail.tail
            refine AtT.only (i := 11) (by kernel_rfl) rfl rfl ?_
            intro K hK
            refine step_appendI rfl (.tmp 48) (.tmp 54) 26 rfl 3 i0 Tryd.underlying26 hi hz0 hz1 hz2 w.heap.size _ _ _ _ rfl (hM.ints .here).row _ 1 1 [xv] rfl (hM.oneInt (.there .here) (by unfold I64; omega)) (by omega) hM.size ?_
            intro a3 c3 w3 hrow hg hbl
            have hO := own_of hrow (by first | (simp [HLO.out]; done) | (simp [HLO.out]; omega)) (by omega) HWI.out
            replace hM := hM.appended .here hO hg (fun k hk => by simpa using hbl k hk)
            clear hO hrow hg hbl
            try dsimp only
            refine hK.out _ _ (hM.tail.tail) ?_
            clear hK K hS
            have hS := hM.tail.tail
            refine AtT.only (i := 15) (by kernel_rfl) rfl rfl ?_
            intro K hK
            refine step_appendI rfl (.tmp 55) (.tmp 58) 26 rfl 3 i0 Tryd.underlying26 hi hz0 hz1 hz2 w.heap.size _ _ _ _ rfl (hM.ints .here).row (some ⟨g, k, none⟩) (i - k) (c' - k) (os.drop k) rfl ((hM.ints (.there (.there .here))).ints.drop hki) (by omega) hM.size ?_
            intro a4 c4 w4 hrow hg hbl
            rw [show k + 1 + (i - k) = i + 1 by omega] at hrow ⊢
            rw [HLN.out] at hrow
            have hO := own_of hrow (insS_length _ _) (by omega) HWN.out
            replace hM := hM.appended .here hO hg (fun k hk => by simpa using hbl k hk)
            obtain ⟨g4, rfl, _⟩ := hO.head (by omega)
            clear hO hrow hg hbl
            try dsimp only
            refine hK.out _ _ (hM.tail.tail) ?_
            clear hK K hS
            have hS := hM.tail.tail
            refine AtT.last (by kernel_rfl) rfl (by kernel_rfl) ?_
            intro K hK
            clear hS
            go_simp
            refine hK.out _ _ ?_
            clear hK K
            go_wp2
            go_roundg (n - (i + 1))
            case measure => omega
            case rel =>
            refine ⟨i + 1, g4, c4, by omega, rfl, by go_num, rfl, ?_⟩
            apply Mem.pick (is := [0])
            · (repeat' (first | with_reducible exact hM | with_reducible exact hMp | with_reducible apply Mem.drew | with_reducible apply Mem.drewN | with_reducible apply Mem.alloc | with_reducible apply Mem.set | with_reducible exact Sto.row | ((with_reducible refine Sto.rowEq2 ?_ ?_); omega; rfl) | ((with_reducible refine Sto.rowEq ?_); omega) | with_reducible apply Sto.int | with_reducible apply Sto.there | with_reducible assumption | (unfold I64; omega) | (with_reducible (have hMx := Mem.undrew hM; exact hMx)) | (with_reducible (have hMx := Mem.undrew hMp; exact hMx))))
            · decide
            · rfl
    · obtain rfl : n = i := by omega
      obtain rfl : os = insS (hrsL xs) n := HOS.out.symm
      have hgl := insS_length (hrsL xs) n
      have hb1 := HBD.out n (Nat.le_refl _) ((insS (hrsL xs) n).getD ((n - 1) / 2) 0) (getD_mem (by omega))
      have hb2 := HBD.out n (Nat.le_refl _) ((insS (hrsL xs) n).getD (n / 2) 0) (getD_mem (by omega))
      have hms : medS xs = (insS (hrsL xs) n).getD ((n - 1) / 2) 0 + (insS (hrsL xs) n).getD (n / 2) 0 := by rw [medS, HL.out]
      obtain ⟨p, hp⟩ : ∃ p : Nat, p = (n - 1) / 2 := ⟨_, rfl⟩
      obtain ⟨q, hq⟩ : ∃ q : Nat, q = n / 2 := ⟨_, rfl⟩
      have hcp := (hM.ints .here).cellAt (k := p) (by omega)
      have hcq := (hM.ints .here).cellAt (k := q) (by omega)
      rw [← hp, ← hq] at hms
      rw [← hp] at hb1
      rw [← hq] at hb2
      obtain ⟨u, hu⟩ : ∃ u, (insS (hrsL xs) n).getD p 0 = u := ⟨_, rfl⟩
      obtain ⟨v, hv⟩ : ∃ v, (insS (hrsL xs) n).getD q 0 = v := ⟨_, rfl⟩
      rw [hu] at hcp hms hb1
      rw [hv] at hcq hms hb2
      have HU := Lib.hid hu; have HV2 := Lib.hid hv
      clear hu hv hcp hcq
      have HMS := Lib.hid hms; clear hms
      have hw1 : IntKind.i64.wrap ((n : Int) - 1) = ((n - 1 : Nat) : Int) := by rw [wrap_in (by omega)]; omega
      have hq1 : Int.tdiv ((n - 1 : Nat) : Int) 2 = (p : Int) := by rw [Int.tdiv_eq_ediv_of_nonneg (by omega)]; omega
      have hq2 : Int.tdiv (n : Int) 2 = (q : Int) := by rw [Int.tdiv_eq_ediv_of_nonneg (by omega)]; omega
      have hwp : IntKind.i64.wrap (p : Int) = (p : Int) := wrap_in (by omega)
      have hwq : IntKind.i64.wrap (q : Int) = (q : Int) := wrap_in (by omega)
      have hws : IntKind.i64.wrap (u + v) = u + v := wrap_in (by omega)
      have p0 : (0 : Int) ≤ (p : Int) := by omega
      have p1 : (p : Int) < (n : Int) := by omega
      have q0 : (0 : Int) ≤ (q : Int) := by omega
      have q1 : (q : Int) < (n : Int) := by omega
      clear hp hq
      go_wp2_with fail
      apply Mem.atWp
      · (repeat' (first | with_reducible exact hM | with_reducible exact hMp | with_reducible apply Mem.drew | with_reducible apply Mem.drewN | with_reducible apply Mem.alloc | with_reducible apply Mem.set | with_reducible exact Sto.row | ((with_reducible refine Sto.rowEq2 ?_ ?_); omega; rfl) | ((with_reducible refine Sto.rowEq ?_); omega) | with_reducible apply Sto.int | with_reducible apply Sto.there | with_reducible assumption | (unfold I64; omega) | (with_reducible (have hMx := Mem.undrew hM; exact hMx)) | (with_reducible (have hMx := Mem.undrew hMp; exact hMx))))
      clear hM
      intro hM
      refine AtT.startA hM hM 17 (by kernel_rfl) ?_
      clear hM
      intro wd hM
      have hS := hM
      refine AtT.taked (i := 0) (v := ?_) (some 61) rfl rfl (by kernel_rfl) (by kernel_rfl) (by kernel_rfl) (by kernel_rfl) (fun _ _ _ h => h) (Or.inl ⟨by kernel_rfl, ?_⟩) hS ?_
      rotate_left
      · (intro wS hSw; (try dsimp only at hSw); go_simp; (try rw [if_neg (by omega)]); try with_reducible rfl)
      simp only [Act.put, List.setIfInBounds_toArray, List.set_cons_zero, List.set_cons_succ]
      refine AtT.taked (i := 1) (v := ?_) (some 62) rfl rfl (by kernel_rfl) (by kernel_rfl) (by kernel_rfl) (by kernel_rfl) (fun _ _ _ h => h) (Or.inl ⟨by kernel_rfl, ?_⟩) hS ?_
      rotate_left
      · (intro wS hSw; (try dsimp only at hSw); go_simp; (try rw [if_neg (by omega)]); try with_reducible rfl)
      simp only [Act.put, List.setIfInBounds_toArray, List.set_cons_zero, List.set_cons_succ]
      refine AtT.taked (i := 2) (v := ?_) (some 63) rfl rfl (by kernel_rfl) (by kernel_rfl) (by kernel_rfl) (by kernel_rfl) (fun _ _ _ h => h) (Or.inl ⟨by kernel_rfl, ?_⟩) hS ?_
      rotate_left
      · (intro wS hSw; (try dsimp only at hSw); go_simp; (try rw [if_neg (by omega)]); try with_reducible rfl)
      simp only [Act.put, List.setIfInBounds_toArray, List.set_cons_zero, List.set_cons_succ]
      refine AtT.taked (i := 3) (v := ?_) (some 64) rfl rfl (by kernel_rfl) (by kernel_rfl) (by kernel_rfl) (by kernel_rfl) (fun _ _ _ h => h) (Or.inl ⟨by kernel_rfl, ?_⟩) hS ?_
      rotate_left
      · (intro wS hSw; (try dsimp only at hSw); go_simp; (try rw [if_neg (by omega)]); try with_reducible rfl)
      simp only [Act.put, List.setIfInBounds_toArray, List.set_cons_zero, List.set_cons_succ]
      refine AtT.taked (i := 4) (v := ?_) (some 65) rfl rfl (by kernel_rfl) (by kernel_rfl) (by kernel_rfl) (by kernel_rfl) (fun _ _ _ h => h) (Or.inl ⟨by kernel_rfl, ?_⟩) hS ?_
      rotate_left
      · (intro wS hSw; (try dsimp only at hSw); have z1 := (hSw.ints .here).cellAt (k := p) (by omega); have z2 := (hSw.ints .here).cellAt (k := q) (by omega); rw [HU.out] at z1; rw [HV2.out] at z2; go_simp; (try rw [if_neg (by omega)]); try with_reducible rfl)
      simp only [Act.put, List.setIfInBounds_toArray, List.set_cons_zero, List.set_cons_succ]
      refine AtT.taked (i := 5) (v := ?_) (some 66) rfl rfl (by kernel_rfl) (by kernel_rfl) (by kernel_rfl) (by kernel_rfl) (fun _ _ _ h => h) (Or.inl ⟨by kernel_rfl, ?_⟩) hS ?_
      rotate_left
      · (intro wS hSw; (try dsimp only at hSw); have z1 := (hSw.ints .here).cellAt (k := p) (by omega); have z2 := (hSw.ints .here).cellAt (k := q) (by omega); rw [HU.out] at z1; rw [HV2.out] at z2; go_simp; (try rw [if_neg (by omega)]); try with_reducible rfl)
      simp only [Act.put, List.setIfInBounds_toArray, List.set_cons_zero, List.set_cons_succ]
      refine AtT.taked (i := 6) (v := ?_) (some 67) rfl rfl (by kernel_rfl) (by kernel_rfl) (by kernel_rfl) (by kernel_rfl) (fun _ _ _ h => h) (Or.inl ⟨by kernel_rfl, ?_⟩) hS ?_
      rotate_left
      · (intro wS hSw; (try dsimp only at hSw); go_simp; (try rw [if_neg (by omega)]); try with_reducible rfl)
      simp only [Act.put, List.setIfInBounds_toArray, List.set_cons_zero, List.set_cons_succ]
      refine AtT.taked (i := 7) (v := ?_) (some 68) rfl rfl (by kernel_rfl) (by kernel_rfl) (by kernel_rfl) (by kernel_rfl) (fun _ _ _ h => h) (Or.inl ⟨by kernel_rfl, ?_⟩) hS ?_
      rotate_left
      · (intro wS hSw; (try dsimp only at hSw); go_simp; (try rw [if_neg (by omega)]); try with_reducible rfl)
      simp only [Act.put, List.setIfInBounds_toArray, List.set_cons_zero, List.set_cons_succ]
      refine AtT.taked (i := 8) (v := ?_) (some 69) rfl rfl (by kernel_rfl) (by kernel_rfl) (by kernel_rfl) (by kernel_rfl) (fun _ _ _ h => h) (Or.inl ⟨by kernel_rfl, ?_⟩) hS ?_
      rotate_left
      · (intro wS hSw; (try dsimp only at hSw); go_simp; (try rw [if_neg (by omega)]); try with_reducible rfl)
      simp only [Act.put, List.setIfInBounds_toArray, List.set_cons_zero, List.set_cons_succ]
      refine AtT.taked (i := 9) (v := ?_) (some 70) rfl rfl (by kernel_rfl) (by kernel_rfl) (by kernel_rfl) (by kernel_rfl) (fun _ _ _ h => h) (Or.inl ⟨by kernel_rfl, ?_⟩) hS ?_
      rotate_left
      · (intro wS hSw; (try dsimp only at hSw); have z1 := (hSw.ints .here).cellAt (k := p) (by omega); have z2 := (hSw.ints .here).cellAt (k := q) (by omega); rw [HU.out] at z1; rw [HV2.out] at z2; go_simp; (try rw [if_neg (by omega)]); try with_reducible rfl)
      simp only [Act.put, List.setIfInBounds_toArray, List.set_cons_zero, List.set_cons_succ]
      refine AtT.taked (i := 10) (v := ?_) (some 71) rfl rfl (by kernel_rfl) (by kernel_rfl) (by kernel_rfl) (by kernel_rfl) (fun _ _ _ h => h) (Or.inl ⟨by kernel_rfl, ?_⟩) hS ?_
      rotate_left
      · (intro wS hSw; (try dsimp only at hSw); have z1 := (hSw.ints .here).cellAt (k := p) (by omega); have z2 := (hSw.ints .here).cellAt (k := q) (by omega); rw [HU.out] at z1; rw [HV2.out] at z2; go_simp; (try rw [if_neg (by omega)]); try with_reducible rfl)
      simp only [Act.put, List.setIfInBounds_toArray, List.set_cons_zero, List.set_cons_succ]
      refine AtT.taked (i := 11) (v := ?_) (some 72) rfl rfl (by kernel_rfl) (by kernel_rfl) (by kernel_rfl) (by kernel_rfl) (fun _ _ _ h => h) (Or.inl ⟨by kernel_rfl, ?_⟩) hS ?_
      rotate_left
      · (intro wS hSw; (try dsimp only at hSw); go_simp; (try rw [if_neg (by omega)]); try with_reducible rfl)
      simp only [Act.put, List.setIfInBounds_toArray, List.set_cons_zero, List.set_cons_succ]
      refine AtT.only (i := 12) (by kernel_rfl) rfl rfl ?_
      intro K hK
      go_simp
      refine (l24Reduce_any (u + v) 2 _ ⟨by omega, by omega⟩ ⟨by omega, by omega⟩).mono ?_
      rw [← HMS.out]
      rintro e w9 ⟨rfl, hb⟩
      replace hM := hM.ext hb
      clear hb
      try dsimp only
      refine hK.out _ _ (hM) ?_
      clear hK K hS
      have hS := hM
      refine AtT.taked (i := 13) (v := ?_) (some 60) rfl rfl (by kernel_rfl) (by kernel_rfl) (by kernel_rfl) (by kernel_rfl) (fun _ _ _ h => h) (Or.inl ⟨by kernel_rfl, ?_⟩) hS ?_
      rotate_left
      · (intro wS hSw; (try dsimp only at hSw); go_simp; (try rw [if_neg (by omega)]); try with_reducible rfl)
      simp only [Act.put, List.setIfInBounds_toArray, List.set_cons_zero, List.set_cons_succ]
      refine AtT.taked (i := 14) (v := ?_) (some 74) rfl rfl (by kernel_rfl) (by kernel_rfl) (by kernel_rfl) (by kernel_rfl) (fun _ _ _ h => h) (Or.inl ⟨by kernel_rfl, ?_⟩) hS ?_
      rotate_left
      · (intro wS hSw; (try dsimp only at hSw); go_simp; (try rw [if_neg (by omega)]); try with_reducible rfl)
      simp only [Act.put, List.setIfInBounds_toArray, List.set_cons_zero, List.set_cons_succ]
      refine AtT.taked (i := 15) (v := ?_) (some 75) rfl rfl (by kernel_rfl) (by kernel_rfl) (by kernel_rfl) (by kernel_rfl) (fun _ _ _ h => h) (Or.inl ⟨by kernel_rfl, ?_⟩) hS ?_
      rotate_left
      · (intro wS hSw; (try dsimp only at hSw); go_simp; (try rw [if_neg (by omega)]); try with_reducible rfl)
      simp only [Act.put, List.setIfInBounds_toArray, List.set_cons_zero, List.set_cons_succ]
      refine AtT.taked (i := 16) (v := ?_) (some 9) rfl rfl (by kernel_rfl) (by kernel_rfl) (by kernel_rfl) (by kernel_rfl) (fun _ _ _ h => h) (Or.inl ⟨by kernel_rfl, ?_⟩) hS ?_
      rotate_left
      · (intro wS hSw; (try dsimp only at hSw); go_simp; (try rw [if_neg (by omega)]); try with_reducible rfl)
      simp only [Act.put, List.setIfInBounds_toArray, List.set_cons_zero, List.set_cons_succ]
      refine AtT.last (by kernel_rfl) rfl (by kernel_rfl) ?_
      intro K hK
      clear hS
      go_simp
      refine hK.out _ _ ?_
      clear hK K
      go_wp2
      go_ret3
      exact ⟨by rw [HF.out]; rfl, (by apply Mem.below; (repeat' (first | with_reducible exact hM | with_reducible exact hMp | with_reducible apply Mem.drew | with_reducible apply Mem.drewN | with_reducible apply Mem.alloc | with_reducible apply Mem.set | with_reducible exact Sto.row | ((with_reducible refine Sto.rowEq2 ?_ ?_); omega; rfl) | ((with_reducible refine Sto.rowEq ?_); omega) | with_reducible apply Sto.int | with_reducible apply Sto.there | with_reducible assumption | (unfold I64; omega) | (with_reducible (have hMx := Mem.undrew hM; exact hMx)) | (with_reducible (have hMx := Mem.undrew hMp; exact hMx)))))⟩
end Go.Proofs.YtpoabdmapbdmfaaDoor

/- Lemmas. -/
import Derived.Test.YtpoabdmapbdmfaaDoorPLargest
import Derived.Deep.CutBlock
import Derived.Deep.LoopGhost
namespace Go.Proofs.YtpoabdmapbdmfaaDoor
set_option linter.unusedSimpArgs false
set_option linter.unusedVariables false
open Go.RowKit

theorem Ints.take {w : World} {a : Option Addr} {n c : Nat} {xs : List Int} (h : Ints w a n c xs) {k : Nat} (hk : k ≤ n) : Ints w a k c (xs.take k) := by
  have hl := h.len
  refine ⟨by rw [List.length_take]; omega, by have := h.cap; omega, h.capm, h.nil, by have := h.room; omega, fun x hx => h.wf x (List.mem_of_mem_take hx), fun j hj => ?_⟩
  obtain ⟨b, off, ha, hb, hc⟩ := h.at' j (by omega)
  refine ⟨b, off, ha, hb, fun i hi => ?_⟩
  rw [hc i (by omega), List.getD_eq_getElem?_getD, List.getD_eq_getElem?_getD, List.getElem?_take, if_pos hi]
theorem Ints.drop {w : World} {g n c : Nat} {xs : List Int} (h : Ints w (some ⟨g, 0, none⟩) n c xs) {k : Nat} (hk : k ≤ n) : Ints w (some ⟨g, k, none⟩) (n - k) (c - k) (xs.drop k) := by
  have hl := h.len
  refine ⟨by rw [List.length_drop]; omega, by have := h.cap; omega, by have := h.capm; omega, by simp, by have := h.room; omega, fun x hx => h.wf x (List.mem_of_mem_drop hx), fun j hj => ?_⟩
  obtain ⟨b, off, ha, hb, hc⟩ := h.at' (k + j) (by omega)
  simp only [Option.some.injEq, Addr.mk.injEq] at ha
  obtain ⟨rfl, rfl, _⟩ := ha
  refine ⟨g, k, rfl, hb, fun i hi => ?_⟩
  have := hc (k + i) (by omega)
  rw [Nat.zero_add] at this
  rw [this, List.getD_eq_getElem?_getD, List.getD_eq_getElem?_getD, List.getElem?_drop]
theorem Ints.none' {w : World} {a : Option Addr} {c : Nat} (hc : c ≤ maxLen) (h : a = none → c = 0) : Ints w a 0 c [] :=
  ⟨rfl, Nat.zero_le _, hc, h, by omega, by simp, fun k hk => by omega⟩

set_option maxRecDepth 100000 in
set_option maxHeartbeats 8000000 in
theorem specLargest_any (a : Option Addr) (n c : Nat) (xs : List FireI) (w : World) (h : Rd FFire w a n c xs) (h15 : n ≤ 15) :
    Calls Tryd.prog 58 #[.slice a n c] w fun e w' => ∃ a' c', e = .returned (.slice a' n c') ∧ Mem w.heap.size w w' [intE a' n c' (largeL xs)] := by
  have hn := h.cap
  have hc := h.nroom
  have HL := Lib.hid h.len
  have hM := Mem.start w
  obtain ⟨i0, hi, hz0, hz1, hz2⟩ := info_parts Tryd.info3
  go_enter Tryd.func58, Tryd.ntmps58
  go_wp2
  go_loopg [3, 4] n (fun gh s3 s4 wr => ∃ (i g c' : Nat), i ≤ n ∧ gh = n - i ∧ s4 = .int .i64 i ∧ s3 = .slice (some ⟨g, 0, none⟩) i c' ∧ Mem w.heap.size w wr [intE (some ⟨g, 0, none⟩) i c' (outS (gtH xs) i)])
  case atStart =>
    refine ⟨0, _, _, Nat.zero_le _, rfl, rfl, rfl, ?_⟩
    apply Mem.toInts0
    (repeat' (first | with_reducible exact hM | with_reducible exact hMp | with_reducible apply Mem.drew | with_reducible apply Mem.drewN | with_reducible apply Mem.alloc | with_reducible apply Mem.set | with_reducible exact Sto.row | ((with_reducible refine Sto.rowEq2 ?_ ?_); omega; rfl) | ((with_reducible refine Sto.rowEq ?_); omega) | with_reducible apply Sto.int | with_reducible apply Sto.there | with_reducible assumption | (unfold I64; omega) | (with_reducible (have hMx := Mem.undrew hM; exact hMx)) | (with_reducible (have hMx := Mem.undrew hMp; exact hMx))))
  case round =>
    clear hM
    obtain ⟨i, g, c', hin, rfl, rfl, rfl, hM⟩ := hrel
    obtain ⟨os, hos⟩ : ∃ os, outS (gtH xs) i = os := ⟨_, rfl⟩
    have hol : os.length = i := by rw [← hos]; exact outS_length _ _
    have hom : ∀ x ∈ os, 0 ≤ x ∧ x < i := by rw [← hos]; exact outS_mem _ _
    have hnx : outS (gtH xs) (i + 1) = os.take (scanK (gtH xs) i os i) ++ (i : Int) :: os.drop (scanK (gtH xs) i os i) := by rw [outS, hos]
    rw [hos] at hM
    have HOS := Lib.hid hos; clear hos
    have HOL := Lib.hid hol; clear hol
    have HOM := Lib.hid hom; clear hom
    have HNX := Lib.hid hnx; clear hnx
    by_cases hlt : i < n
    · obtain ⟨bb, off, rfl, _⟩ := h.at' _ hlt
      have hbl : bb < w.heap.size := (h.cellFire hlt).1
      obtain ⟨xv, hxv⟩ : ∃ xv, hAt xs i = xv := ⟨_, rfl⟩
      have HXV := Lib.hid hxv; clear hxv
      have hi15 : i ≤ 15 := by omega
      go_upto_block 2 with fail
      go_cut [5] (fun s5 wx => s5 = .int .i64 ((scanK (gtH xs) i os i : Nat) : Int) ∧ Mem w.heap.size w wx [intE (some ⟨g, 0, none⟩) i c' os])
      case first =>
        go_wp2_with fail
        go_loopg [5] i (fun gh s5 wq => ∃ k : Nat, k ≤ i ∧ k = gh ∧ s5 = .int .i64 k ∧ scanK (gtH xs) i os i = scanK (gtH xs) i os k ∧ Mem w.heap.size w wq [intE (some ⟨g, 0, none⟩) i c' os])
        case atStart => exact ⟨i, Nat.le_refl _, rfl, rfl, rfl, hM⟩
        case round =>
          clear hM
          obtain ⟨k, hk, rfl, rfl, hsk, hM⟩ := hrel
          have HSK := Lib.hid hsk; clear hsk
          by_cases hk0 : k = 0
          · have kz : decide (0 < k) = false := decide_eq_false (by omega)
            have HK := Lib.hid hk0; clear hk0
            go_wp2_with fail
            apply Mem.atWp
            · (repeat' (first | with_reducible exact hM | with_reducible exact hMp | with_reducible apply Mem.drew | with_reducible apply Mem.drewN | with_reducible apply Mem.alloc | with_reducible apply Mem.set | with_reducible exact Sto.row | ((with_reducible refine Sto.rowEq2 ?_ ?_); omega; rfl) | ((with_reducible refine Sto.rowEq ?_); omega) | with_reducible apply Sto.int | with_reducible apply Sto.there | with_reducible assumption | (unfold I64; omega) | (with_reducible (have hMx := Mem.undrew hM; exact hMx)) | (with_reducible (have hMx := Mem.undrew hMp; exact hMx))))
            clear hM
            intro hM
            refine AtT.startA hM hM 18 (by kernel_rfl) ?_
            clear hM
            intro wd hM
            have hS := hM
            refine AtT.taked (i := 0) (v := ?_) (some 15) rfl rfl (by kernel_rfl) (by kernel_rfl) (by kernel_rfl) (by kernel_rfl) (fun _ _ _ h => h) (Or.inl ⟨by kernel_rfl, ?_⟩) hS ?_
            rotate_left
            · (intro wS hSw; (try dsimp only at hSw); go_simp; (try rw [if_neg (by omega)]); try with_reducible rfl)
            simp only [Act.put, List.setIfInBounds_toArray, List.set_cons_zero, List.set_cons_succ]
            refine AtT.taked (i := 1) (v := ?_) (some 16) rfl rfl (by kernel_rfl) (by kernel_rfl) (by kernel_rfl) (by kernel_rfl) (fun _ _ _ h => h) (Or.inl ⟨by kernel_rfl, ?_⟩) hS ?_
            rotate_left
            · (intro wS hSw; (try dsimp only at hSw); go_simp; (try rw [if_neg (by omega)]); try with_reducible rfl)
            simp only [Act.put, List.setIfInBounds_toArray, List.set_cons_zero, List.set_cons_succ]
            refine AtT.taked (i := 2) (v := ?_) (some 17) rfl rfl (by kernel_rfl) (by kernel_rfl) (by kernel_rfl) (by kernel_rfl) (fun _ _ _ h => h) (Or.inl ⟨by kernel_rfl, ?_⟩) hS ?_
            rotate_left
            · (intro wS hSw; (try dsimp only at hSw); go_simp; (try rw [if_neg (by omega)]); try with_reducible rfl)
            simp only [Act.put, List.setIfInBounds_toArray, List.set_cons_zero, List.set_cons_succ]
            refine AtT.taked (i := 3) (v := undef) (some 18) rfl rfl (by kernel_rfl) (by kernel_rfl) (by kernel_rfl) (by kernel_rfl) (fun _ _ _ h => h) (Or.inr ⟨by kernel_rfl, rfl⟩) hS ?_
            simp only [Act.put, List.setIfInBounds_toArray, List.set_cons_zero, List.set_cons_succ]
            refine AtT.taked (i := 4) (v := undef) (some 19) rfl rfl (by kernel_rfl) (by kernel_rfl) (by kernel_rfl) (by kernel_rfl) (fun _ _ _ h => h) (Or.inr ⟨by kernel_rfl, rfl⟩) hS ?_
            simp only [Act.put, List.setIfInBounds_toArray, List.set_cons_zero, List.set_cons_succ]
            refine AtT.taked (i := 5) (v := undef) (some 20) rfl rfl (by kernel_rfl) (by kernel_rfl) (by kernel_rfl) (by kernel_rfl) (fun _ _ _ h => h) (Or.inr ⟨by kernel_rfl, rfl⟩) hS ?_
            simp only [Act.put, List.setIfInBounds_toArray, List.set_cons_zero, List.set_cons_succ]
            refine AtT.taked (i := 6) (v := undef) (some 21) rfl rfl (by kernel_rfl) (by kernel_rfl) (by kernel_rfl) (by kernel_rfl) (fun _ _ _ h => h) (Or.inr ⟨by kernel_rfl, rfl⟩) hS ?_
            simp only [Act.put, List.setIfInBounds_toArray, List.set_cons_zero, List.set_cons_succ]
            refine AtT.taked (i := 7) (v := undef) (some 22) rfl rfl (by kernel_rfl) (by kernel_rfl) (by kernel_rfl) (by kernel_rfl) (fun _ _ _ h => h) (Or.inr ⟨by kernel_rfl, rfl⟩) hS ?_
            simp only [Act.put, List.setIfInBounds_toArray, List.set_cons_zero, List.set_cons_succ]
            refine AtT.taked (i := 8) (v := undef) (some 23) rfl rfl (by kernel_rfl) (by kernel_rfl) (by kernel_rfl) (by kernel_rfl) (fun _ _ _ h => h) (Or.inr ⟨by kernel_rfl, rfl⟩) hS ?_
            simp only [Act.put, List.setIfInBounds_toArray, List.set_cons_zero, List.set_cons_succ]
            refine AtT.taked (i := 9) (v := undef) (some 24) rfl rfl (by kernel_rfl) (by kernel_rfl) (by kernel_rfl) (by kernel_rfl) (fun _ _ _ h => h) (Or.inr ⟨by kernel_rfl, rfl⟩) hS ?_
            simp only [Act.put, List.setIfInBounds_toArray, List.set_cons_zero, List.set_cons_succ]
            refine AtT.taked (i := 10) (v := undef) (some 25) rfl rfl (by kernel_rfl) (by kernel_rfl) (by kernel_rfl) (by kernel_rfl) (fun _ _ _ h => h) (Or.inr ⟨by kernel_rfl, rfl⟩) hS ?_
            simp only [Act.put, List.setIfInBounds_toArray, List.set_cons_zero, List.set_cons_succ]
            refine AtT.taked (i := 11) (v := undef) (some 26) rfl rfl (by kernel_rfl) (by kernel_rfl) (by kernel_rfl) (by kernel_rfl) (fun _ _ _ h => h) (Or.inr ⟨by kernel_rfl, rfl⟩) hS ?_
            simp only [Act.put, List.setIfInBounds_toArray, List.set_cons_zero, List.set_cons_succ]
            refine AtT.taked (i := 12) (v := undef) (some 27) rfl rfl (by kernel_rfl) (by kernel_rfl) (by kernel_rfl) (by kernel_rfl) (fun _ _ _ h => h) (Or.inr ⟨by kernel_rfl, rfl⟩) hS ?_
            simp only [Act.put, List.setIfInBounds_toArray, List.set_cons_zero, List.set_cons_succ]
            refine AtT.taked (i := 13) (v := undef) (some 28) rfl rfl (by kernel_rfl) (by kernel_rfl) (by kernel_rfl) (by kernel_rfl) (fun _ _ _ h => h) (Or.inr ⟨by kernel_rfl, rfl⟩) hS ?_
            simp only [Act.put, List.setIfInBounds_toArray, List.set_cons_zero, List.set_cons_succ]
            refine AtT.taked (i := 14) (v := undef) (some 29) rfl rfl (by kernel_rfl) (by kernel_rfl) (by kernel_rfl) (by kernel_rfl) (fun _ _ _ h => h) (Or.inr ⟨by kernel_rfl, rfl⟩) hS ?_
            simp only [Act.put, List.setIfInBounds_toArray, List.set_cons_zero, List.set_cons_succ]
            refine AtT.taked (i := 15) (v := undef) (some 30) rfl rfl (by kernel_rfl) (by kernel_rfl) (by kernel_rfl) (by kernel_rfl) (fun _ _ _ h => h) (Or.inr ⟨by kernel_rfl, rfl⟩) hS ?_
            simp only [Act.put, List.setIfInBounds_toArray, List.set_cons_zero, List.set_cons_succ]
            refine AtT.taked (i := 16) (v := undef) (some 31) rfl rfl (by kernel_rfl) (by kernel_rfl) (by kernel_rfl) (by kernel_rfl) (fun _ _ _ h => h) (Or.inr ⟨by kernel_rfl, rfl⟩) hS ?_
            simp only [Act.put, List.setIfInBounds_toArray, List.set_cons_zero, List.set_cons_succ]
            refine AtT.taked (i := 17) (v := undef) (some 32) rfl rfl (by kernel_rfl) (by kernel_rfl) (by kernel_rfl) (by kernel_rfl) (fun _ _ _ h => h) (Or.inr ⟨by kernel_rfl, rfl⟩) hS ?_
            simp only [Act.put, List.setIfInBounds_toArray, List.set_cons_zero, List.set_cons_succ]
            refine AtT.last (by kernel_rfl) rfl (by kernel_rfl) ?_
            intro K hK
            clear hS
            go_simp
            refine hK.out _ _ ?_
            clear hK K
            go_wp2
            go_meet
            exact ⟨by rw [HSK.out, HK.out]; rfl, hM⟩
          · obtain ⟨j, hj⟩ : ∃ j, k = j + 1 := ⟨k - 1, by omega⟩
            have hmem := HOM.out _ (getD_mem (xs := os) (k := j) (by rw [HOL.out]; omega))
            have hst : scanK (gtH xs) i os k = if gtH xs i (os.getD j 0) then scanK (gtH xs) i os j else k := by subst hj; rfl
            obtain ⟨y, hy⟩ : ∃ y, os.getD j 0 = y := ⟨_, rfl⟩
            rw [hy] at hmem hst
            obtain ⟨yn, rfl⟩ : ∃ yn : Nat, y = yn := ⟨y.toNat, by omega⟩
            have hyn : yn < n := by omega
            obtain ⟨yv, hyv⟩ : ∃ yv, hAt xs yn = yv := ⟨_, rfl⟩
            have HG : Hid (gtH xs i yn = decide (yv < xv)) := by
              show _ = _
              rw [gtH, hyv, HXV.out]
            have HS : Hid (∀ w1 : World, Mem w.heap.size w w1 [intE (some ⟨g, 0, none⟩) i c' os] → w1.cell? ⟨g, j, none⟩ = some (.int .i64 yn) ∧ w1.cell? ⟨bb, off + yn * 4 + 2, none⟩ = some (.int .i64 yv) ∧ w1.cell? ⟨bb, off + i * 4 + 2, none⟩ = some (.int .i64 xv)) := by
              intro w1 h1
              refine ⟨?_, ?_, ?_⟩
              · rw [← hy]; exact (h1.ints .here).cellAt (by omega)
              · rw [h1.below.cell (p := ⟨bb, off + yn * 4 + 2, none⟩) hbl, ← hyv]; exact (h.cellFire hyn).2.2.2.1
              · rw [h1.below.cell (p := ⟨bb, off + i * 4 + 2, none⟩) hbl, ← HXV.out]; exact (h.cellFire hlt).2.2.2.1
            have HST := Lib.hid hst; clear hst
            have hjI : IntKind.i64.wrap ((k : Int) - 1) = (j : Int) := by rw [wrap_in (by omega)]; omega
            have a0 : (0 : Int) ≤ (j : Int) := by omega
            have a1 : (j : Int) < (i : Int) := by omega
            have b0 : (0 : Int) ≤ (yn : Int) := by omega
            have b1 : (yn : Int) < (n : Int) := by omega
            have c0 : (0 : Int) ≤ (i : Int) := by omega
            have c1 : (i : Int) < (n : Int) := by omega
            have kp : decide (0 < k) = true := decide_eq_true (by omega)
            have HJ := Lib.hid hj; clear hj hy hyv hmem
            go_wp2_with fail
            apply Mem.atWp
            · (repeat' (first | with_reducible exact hM | with_reducible exact hMp | with_reducible apply Mem.drew | with_reducible apply Mem.drewN | with_reducible apply Mem.alloc | with_reducible apply Mem.set | with_reducible exact Sto.row | ((with_reducible refine Sto.rowEq2 ?_ ?_); omega; rfl) | ((with_reducible refine Sto.rowEq ?_); omega) | with_reducible apply Sto.int | with_reducible apply Sto.there | with_reducible assumption | (unfold I64; omega) | (with_reducible (have hMx := Mem.undrew hM; exact hMx)) | (with_reducible (have hMx := Mem.undrew hMp; exact hMx))))
            clear hM
            intro hM
            refine AtT.startA hM hM 18 (by kernel_rfl) ?_
            clear hM
            intro wd hM
            have hS := hM
            refine AtT.taked (i := 0) (v := ?_) (some 15) rfl rfl (by kernel_rfl) (by kernel_rfl) (by kernel_rfl) (by kernel_rfl) (fun _ _ _ h => h) (Or.inl ⟨by kernel_rfl, ?_⟩) hS ?_
            rotate_left
            · (intro wS hSw; (try dsimp only at hSw); go_simp; (try rw [if_neg (by omega)]); try with_reducible rfl)
            simp only [Act.put, List.setIfInBounds_toArray, List.set_cons_zero, List.set_cons_succ]
            refine AtT.taked (i := 1) (v := ?_) (some 16) rfl rfl (by kernel_rfl) (by kernel_rfl) (by kernel_rfl) (by kernel_rfl) (fun _ _ _ h => h) (Or.inl ⟨by kernel_rfl, ?_⟩) hS ?_
            rotate_left
            · (intro wS hSw; (try dsimp only at hSw); go_simp; (try rw [if_neg (by omega)]); try with_reducible rfl)
            simp only [Act.put, List.setIfInBounds_toArray, List.set_cons_zero, List.set_cons_succ]
            refine AtT.taked (i := 2) (v := ?_) (some 17) rfl rfl (by kernel_rfl) (by kernel_rfl) (by kernel_rfl) (by kernel_rfl) (fun _ _ _ h => h) (Or.inl ⟨by kernel_rfl, ?_⟩) hS ?_
            rotate_left
            · (intro wS hSw; (try dsimp only at hSw); go_simp; (try rw [if_neg (by omega)]); try with_reducible rfl)
            simp only [Act.put, List.setIfInBounds_toArray, List.set_cons_zero, List.set_cons_succ]
            refine AtT.taked (i := 3) (v := ?_) (some 18) rfl rfl (by kernel_rfl) (by kernel_rfl) (by kernel_rfl) (by kernel_rfl) (fun _ _ _ h => h) (Or.inl ⟨by kernel_rfl, ?_⟩) hS ?_
            rotate_left
            · (intro wS hSw; (try dsimp only at hSw); go_simp; (try rw [if_neg (by omega)]); try with_reducible rfl)
            simp only [Act.put, List.setIfInBounds_toArray, List.set_cons_zero, List.set_cons_succ]
            refine AtT.taked (i := 4) (v := ?_) (some 19) rfl rfl (by kernel_rfl) (by kernel_rfl) (by kernel_rfl) (by kernel_rfl) (fun _ _ _ h => h) (Or.inl ⟨by kernel_rfl, ?_⟩) hS ?_
            rotate_left
            · (intro wS hSw; (try dsimp only at hSw); go_simp; (try rw [if_neg (by omega)]); try with_reducible rfl)
            simp only [Act.put, List.setIfInBounds_toArray, List.set_cons_zero, List.set_cons_succ]
            refine AtT.taked (i := 5) (v := ?_) (some 20) rfl rfl (by kernel_rfl) (by kernel_rfl) (by kernel_rfl) (by kernel_rfl) (fun _ _ _ h => h) (Or.inl ⟨by kernel_rfl, ?_⟩) hS ?_
            rotate_left
            · (intro wS hSw; (try dsimp only at hSw); go_simp; (try rw [if_neg (by omega)]); try with_reducible rfl)
            simp only [Act.put, List.setIfInBounds_toArray, List.set_cons_zero, List.set_cons_succ]
            refine AtT.taked (i := 6) (v := ?_) (some 21) rfl rfl (by kernel_rfl) (by kernel_rfl) (by kernel_rfl) (by kernel_rfl) (fun _ _ _ h => h) (Or.inl ⟨by kernel_rfl, ?_⟩) hS ?_
            rotate_left
            · (intro wS hSw; (try dsimp only at hSw); go_simp; (try rw [if_neg (by omega)]); try with_reducible rfl)
            simp only [Act.put, List.setIfInBounds_toArray, List.set_cons_zero, List.set_cons_succ]
            refine AtT.taked (i := 7) (v := ?_) (some 22) rfl rfl (by kernel_rfl) (by kernel_rfl) (by kernel_rfl) (by kernel_rfl) (fun _ _ _ h => h) (Or.inl ⟨by kernel_rfl, ?_⟩) hS ?_
            rotate_left
            · (intro wS hSw; (try dsimp only at hSw); have q1 := (HS.out _ hSw).1; have q2 := (HS.out _ hSw).2.1; have q3 := (HS.out _ hSw).2.2; go_simp; (try rw [if_neg (by omega)]); try with_reducible rfl)
            simp only [Act.put, List.setIfInBounds_toArray, List.set_cons_zero, List.set_cons_succ]
            refine AtT.taked (i := 8) (v := ?_) (some 23) rfl rfl (by kernel_rfl) (by kernel_rfl) (by kernel_rfl) (by kernel_rfl) (fun _ _ _ h => h) (Or.inl ⟨by kernel_rfl, ?_⟩) hS ?_
            rotate_left
            · (intro wS hSw; (try dsimp only at hSw); have q1 := (HS.out _ hSw).1; have q2 := (HS.out _ hSw).2.1; have q3 := (HS.out _ hSw).2.2; go_simp; (try rw [if_neg (by omega)]); try with_reducible rfl)
            simp only [Act.put, List.setIfInBounds_toArray, List.set_cons_zero, List.set_cons_succ]
            refine AtT.taked (i := 9) (v := ?_) (some 24) rfl rfl (by kernel_rfl) (by kernel_rfl) (by kernel_rfl) (by kernel_rfl) (fun _ _ _ h => h) (Or.inl ⟨by kernel_rfl, ?_⟩) hS ?_
            rotate_left
            · (intro wS hSw; (try dsimp only at hSw); have q1 := (HS.out _ hSw).1; have q2 := (HS.out _ hSw).2.1; have q3 := (HS.out _ hSw).2.2; go_simp; (try rw [if_neg (by omega)]); try with_reducible rfl)
            simp only [Act.put, List.setIfInBounds_toArray, List.set_cons_zero, List.set_cons_succ]
            refine AtT.taked (i := 10) (v := ?_) (some 25) rfl rfl (by kernel_rfl) (by kernel_rfl) (by kernel_rfl) (by kernel_rfl) (fun _ _ _ h => h) (Or.inl ⟨by kernel_rfl, ?_⟩) hS ?_
            rotate_left
            · (intro wS hSw; (try dsimp only at hSw); go_simp; (try rw [if_neg (by omega)]); try with_reducible rfl)
            simp only [Act.put, List.setIfInBounds_toArray, List.set_cons_zero, List.set_cons_succ]
            refine AtT.taked (i := 11) (v := ?_) (some 26) rfl rfl (by kernel_rfl) (by kernel_rfl) (by kernel_rfl) (by kernel_rfl) (fun _ _ _ h => h) (Or.inl ⟨by kernel_rfl, ?_⟩) hS ?_
            rotate_left
            · (intro wS hSw; (try dsimp only at hSw); have q1 := (HS.out _ hSw).1; have q2 := (HS.out _ hSw).2.1; have q3 := (HS.out _ hSw).2.2; go_simp; (try rw [if_neg (by omega)]); try with_reducible rfl)
            simp only [Act.put, List.setIfInBounds_toArray, List.set_cons_zero, List.set_cons_succ]
            refine AtT.taked (i := 12) (v := ?_) (some 27) rfl rfl (by kernel_rfl) (by kernel_rfl) (by kernel_rfl) (by kernel_rfl) (fun _ _ _ h => h) (Or.inl ⟨by kernel_rfl, ?_⟩) hS ?_
            rotate_left
            · (intro wS hSw; (try dsimp only at hSw); go_simp; (try rw [if_neg (by omega)]); try with_reducible rfl)
            simp only [Act.put, List.setIfInBounds_toArray, List.set_cons_zero, List.set_cons_succ]
            refine AtT.taked (i := 13) (v := ?_) (some 28) rfl rfl (by kernel_rfl) (by kernel_rfl) (by kernel_rfl) (by kernel_rfl) (fun _ _ _ h => h) (Or.inl ⟨by kernel_rfl, ?_⟩) hS ?_
            rotate_left
            · (intro wS hSw; (try dsimp only at hSw); go_simp; (try rw [if_neg (by omega)]); try with_reducible rfl)
            simp only [Act.put, List.setIfInBounds_toArray, List.set_cons_zero, List.set_cons_succ]
            refine AtT.taked (i := 14) (v := ?_) (some 29) rfl rfl (by kernel_rfl) (by kernel_rfl) (by kernel_rfl) (by kernel_rfl) (fun _ _ _ h => h) (Or.inl ⟨by kernel_rfl, ?_⟩) hS ?_
            rotate_left
            · (intro wS hSw; (try dsimp only at hSw); have q1 := (HS.out _ hSw).1; have q2 := (HS.out _ hSw).2.1; have q3 := (HS.out _ hSw).2.2; go_simp; (try rw [if_neg (by omega)]); try with_reducible rfl)
            simp only [Act.put, List.setIfInBounds_toArray, List.set_cons_zero, List.set_cons_succ]
            refine AtT.taked (i := 15) (v := ?_) (some 30) rfl rfl (by kernel_rfl) (by kernel_rfl) (by kernel_rfl) (by kernel_rfl) (fun _ _ _ h => h) (Or.inl ⟨by kernel_rfl, ?_⟩) hS ?_
            rotate_left
            · (intro wS hSw; (try dsimp only at hSw); go_simp; (try rw [if_neg (by omega)]); try with_reducible rfl)
            simp only [Act.put, List.setIfInBounds_toArray, List.set_cons_zero, List.set_cons_succ]
            refine AtT.taked (i := 16) (v := ?_) (some 31) rfl rfl (by kernel_rfl) (by kernel_rfl) (by kernel_rfl) (by kernel_rfl) (fun _ _ _ h => h) (Or.inl ⟨by kernel_rfl, ?_⟩) hS ?_
            rotate_left
            · (intro wS hSw; (try dsimp only at hSw); have q1 := (HS.out _ hSw).1; have q2 := (HS.out _ hSw).2.1; have q3 := (HS.out _ hSw).2.2; go_simp; (try rw [if_neg (by omega)]); try with_reducible rfl)
            simp only [Act.put, List.setIfInBounds_toArray, List.set_cons_zero, List.set_cons_succ]
            refine AtT.taked (i := 17) (v := ?_) (some 32) rfl rfl (by kernel_rfl) (by kernel_rfl) (by kernel_rfl) (by kernel_rfl) (fun _ _ _ h => h) (Or.inl ⟨by kernel_rfl, ?_⟩) hS ?_
            rotate_left
            · (intro wS hSw; (try dsimp only at hSw); go_simp; (try rw [if_neg (by omega)]); try with_reducible rfl)
            simp only [Act.put, List.setIfInBounds_toArray, List.set_cons_zero, List.set_cons_succ]
            refine AtT.last (by kernel_rfl) rfl (by kernel_rfl) ?_
            intro K hK
            clear hS
            go_simp
            refine hK.out _ _ ?_
            clear hK K
            by_cases hyx : yv < xv
            · have HY : Hid (scanK (gtH xs) i os k = scanK (gtH xs) i os j) := by
                show _ = _
                rw [HST.out, HG.out, if_pos (by simpa using hyx)]
              go_wp2
              go_roundg j
              case measure => have := HJ.out; omega
              case rel => exact ⟨j, by omega, rfl, rfl, by rw [HSK.out, HY.out], hM⟩
            · have HY : Hid (scanK (gtH xs) i os k = k) := by
                show _ = _
                rw [HST.out, HG.out, if_neg (by simpa using hyx)]
              go_wp2
              go_meet
              exact ⟨by rw [HSK.out, HY.out], hM⟩
      case rest =>
        clear hM
        obtain ⟨rfl, hM⟩ := hcut
        have hki := scanK_le (gtH xs) i os i
        obtain ⟨k, hk⟩ : ∃ k, scanK (gtH xs) i os i = k := ⟨_, rfl⟩
        rw [hk] at hki ⊢
        have HK := Lib.hid hk; clear hk
        have HLN : Hid (os.take k ++ [(i : Int)] ++ os.drop k = outS (gtH xs) (i + 1)) := by
          show _ = _
          rw [HNX.out, HK.out]
          simp
        have HWN : Hid (∀ x ∈ outS (gtH xs) (i + 1), I64 x) := fun x hx => by
          have := outS_mem _ _ x hx
          unfold I64; omega
        have HWO : ∀ x ∈ os, I64 x := fun x hx => by
          have := HOM.out x hx
          unfold I64; omega
        have HWT : Hid (∀ x ∈ os.take k, I64 x) := fun x hx => HWO x (List.mem_of_mem_take hx)
        have HWI : Hid (∀ x ∈ os.take k ++ [(i : Int)], I64 x) := fun x hx => by
          rcases List.mem_append.1 hx with hx | hx
          · exact HWT.out x hx
          · obtain rfl : x = i := by simpa using hx
            unfold I64; omega
        clear HWO
        have hol := HOL.out
        have hoc := (hM.ints .here).ints.cap
        have hom := (hM.ints .here).ints.capm
        unfold maxLen at hom
        have k0 : (0 : Int) ≤ (k : Int) := by omega
        have k1 : (k : Int) ≤ (i : Int) := by omega
        have k2 : (k : Int) ≤ (c' : Int) := by omega
        have HLO := Lib.hid hol; clear hol
        by_cases hcap : k = c'
        · obtain rfl : i = c' := by omega
          obtain rfl : i = k := by omega
          clear hcap
          go_wp2_with fail
          apply Mem.atWp
          · (repeat' (first | with_reducible exact hM | with_reducible exact hMp | with_reducible apply Mem.drew | with_reducible apply Mem.drewN | with_reducible apply Mem.alloc | with_reducible apply Mem.set | with_reducible exact Sto.row | ((with_reducible refine Sto.rowEq2 ?_ ?_); omega; rfl) | ((with_reducible refine Sto.rowEq ?_); omega) | with_reducible apply Sto.int | with_reducible apply Sto.there | with_reducible assumption | (unfold I64; omega) | (with_reducible (have hMx := Mem.undrew hM; exact hMx)) | (with_reducible (have hMx := Mem.undrew hMp; exact hMx))))
          clear hM
          intro hM
          refine AtT.startA hM hM 12 (by kernel_rfl) ?_
          clear hM
          intro wd hM
          have hS := hM
          refine AtT.taked (i := 1) (v := ?_) (some 37) rfl rfl (by kernel_rfl) (by kernel_rfl) (by kernel_rfl) (by kernel_rfl) (fun _ _ _ h => h) (Or.inl ⟨by kernel_rfl, ?_⟩) hS ?_
          rotate_left
          · (intro wS hSw; (try dsimp only at hSw); go_simp; (try rw [if_neg (by omega)]); try with_reducible rfl)
          simp only [Act.put, List.setIfInBounds_toArray, List.set_cons_zero, List.set_cons_succ]
          refine AtT.taked (i := 2) (v := ?_) (some 38) rfl rfl (by kernel_rfl) (by kernel_rfl) (by kernel_rfl) (by kernel_rfl) (fun _ _ _ h => h) (Or.inl ⟨by kernel_rfl, ?_⟩) hS ?_
          rotate_left
          · (intro wS hSw; (try dsimp only at hSw); go_simp; (try rw [if_neg (by omega)]); try with_reducible rfl)
          simp only [Act.put, List.setIfInBounds_toArray, List.set_cons_zero, List.set_cons_succ]
          refine AtT.taked (i := 3) (v := ?_) (some 39) rfl rfl (by kernel_rfl) (by kernel_rfl) (by kernel_rfl) (by kernel_rfl) (fun _ _ _ h => h) (Or.inl ⟨by kernel_rfl, ?_⟩) hS ?_
          rotate_left
          · (intro wS hSw; (try dsimp only at hSw); go_simp; (try rw [if_neg (by omega)]); try with_reducible rfl)
          simp only [Act.put, List.setIfInBounds_toArray, List.set_cons_zero, List.set_cons_succ]
          refine AtT.taked (i := 5) (v := ?_) (some 41) rfl rfl (by kernel_rfl) (by kernel_rfl) (by kernel_rfl) (by kernel_rfl) (fun _ _ _ h => h) (Or.inl ⟨by kernel_rfl, ?_⟩) hS ?_
          rotate_left
          · (intro wS hSw; (try dsimp only at hSw); go_simp; (try rw [if_neg (by omega)]); try with_reducible rfl)
          simp only [Act.put, List.setIfInBounds_toArray, List.set_cons_zero, List.set_cons_succ]
          refine AtT.taked (i := 8) (v := ?_) (some 44) rfl rfl (by kernel_rfl) (by kernel_rfl) (by kernel_rfl) (by kernel_rfl) (fun _ _ _ h => h) (Or.inl ⟨by kernel_rfl, ?_⟩) hS ?_
          rotate_left
          · (intro wS hSw; (try dsimp only at hSw); go_simp; (try rw [if_neg (by omega)]); try with_reducible rfl)
          simp only [Act.put, List.setIfInBounds_toArray, List.set_cons_zero, List.set_cons_succ]
          refine AtT.taked (i := 9) (v := ?_) (some 45) rfl rfl (by kernel_rfl) (by kernel_rfl) (by kernel_rfl) (by kernel_rfl) (fun _ _ _ h => h) (Or.inl ⟨by kernel_rfl, ?_⟩) hS ?_
          rotate_left
          · (intro wS hSw; (try dsimp only at hSw); go_simp; (try rw [if_neg (by omega)]); try with_reducible rfl)
          simp only [Act.put, List.setIfInBounds_toArray, List.set_cons_zero, List.set_cons_succ]
          refine AtT.taked (i := 10) (v := ?_) (some 46) rfl rfl (by kernel_rfl) (by kernel_rfl) (by kernel_rfl) (by kernel_rfl) (fun _ _ _ h => h) (Or.inl ⟨by kernel_rfl, ?_⟩) hS ?_
          rotate_left
          · (intro wS hSw; (try dsimp only at hSw); go_simp; (try rw [if_neg (by omega)]); try with_reducible rfl)
          simp only [Act.put, List.setIfInBounds_toArray, List.set_cons_zero, List.set_cons_succ]
          refine AtT.two (i := 0) (j := 6) (by kernel_rfl) rfl rfl rfl rfl ?_ ?_
          · skip
            intro K hK
            go_simp
            refine hK.out _ _ (by apply Mem.tail; (repeat' (first | with_reducible exact hM | with_reducible exact hMp | with_reducible apply Mem.drew | with_reducible apply Mem.drewN | with_reducible apply Mem.alloc | with_reducible apply Mem.set | with_reducible exact Sto.row | ((with_reducible refine Sto.rowEq2 ?_ ?_); omega; rfl) | ((with_reducible refine Sto.rowEq ?_); omega) | with_reducible apply Sto.int | with_reducible apply Sto.there | with_reducible assumption | (unfold I64; omega) | (with_reducible (have hMx := Mem.undrew hM; exact hMx)) | (with_reducible (have hMx := Mem.undrew hMp; exact hMx))))) ?_
            clear hK K hS
            have hMp := hM
            apply Mem.atT
            · (repeat' (first | with_reducible exact hM | with_reducible exact hMp | with_reducible apply Mem.drew | with_reducible apply Mem.drewN | with_reducible apply Mem.alloc | with_reducible apply Mem.set | with_reducible exact Sto.row | ((with_reducible refine Sto.rowEq2 ?_ ?_); omega; rfl) | ((with_reducible refine Sto.rowEq ?_); omega) | with_reducible apply Sto.int | with_reducible apply Sto.there | with_reducible assumption | (unfold I64; omega) | (with_reducible (have hMx := Mem.undrew hM; exact hMx)) | (with_reducible (have hMx := Mem.undrew hMp; exact hMx))))
            clear hM
            intro hM
            (try simp only [World.size_alloc, World.size_setCell, World.heap_drewN, heapDrew, Nat.add_assoc, Nat.reduceAdd, List.setIfInBounds_toArray, List.set_cons_zero, List.set_cons_succ, List.cons_append, List.nil_append] at hM)
            have hS := hM.tail
            refine AtT.two (i := 4) (j := 6) (by kernel_rfl) rfl rfl rfl rfl ?_ ?_
            · skip
              intro K hK
              replace hM := hM.toInts (xs := []) .here rfl (by simp) (by simp)
              refine step_appendI rfl (.tmp 36) (.tmp 39) 26 rfl 3 i0 Tryd.underlying26 hi hz0 hz1 hz2 w.heap.size _ 0 _ [] rfl (hM.ints .here).row (some ⟨g, 0, none⟩) i i (os.take i) rfl ((hM.ints (.there .here)).ints.take hki) (by omega) hM.size ?_
              intro a2 c2 w2 hrow hg hbl
              rw [Nat.zero_add, List.nil_append] at hrow
              rw [Nat.zero_add]
              have hO := own_of hrow (by rw [List.length_take, HLO.out]; omega) (by omega) HWT.out
              replace hM := hM.appended .here hO hg (fun k hk => by simpa using hbl k hk)
              clear hO hrow hg hbl
              try dsimp only
              refine hK.out _ _ (hM.tail) ?_
              clear hK K hS
              have hS := hM.tail
              refine AtT.only (i := 6) (by kernel_rfl) rfl rfl ?_
              intro K hK
              go_simp
              refine hK.out _ _ (by apply Mem.tail; apply Mem.tail; (repeat' (first | with_reducible exact hM | with_reducible exact hMp | with_reducible apply Mem.drew | with_reducible apply Mem.drewN | with_reducible apply Mem.alloc | with_reducible apply Mem.set | with_reducible exact Sto.row | ((with_reducible refine Sto.rowEq2 ?_ ?_); omega; rfl) | ((with_reducible refine Sto.rowEq ?_); omega) | with_reducible apply Sto.int | with_reducible apply Sto.there | with_reducible assumption | (unfold I64; omega) | (with_reducible (have hMx := Mem.undrew hM; exact hMx)) | (with_reducible (have hMx := Mem.undrew hMp; exact hMx))))) ?_
              clear hK K hS
              have hMp := hM
              apply Mem.atT
              · (repeat' (first | with_reducible exact hM | with_reducible exact hMp | with_reducible apply Mem.drew | with_reducible apply Mem.drewN | with_reducible apply Mem.alloc | with_reducible apply Mem.set | with_reducible exact Sto.row | ((with_reducible refine Sto.rowEq2 ?_ ?_); omega; rfl) | ((with_reducible refine Sto.rowEq ?_); omega) | with_reducible apply Sto.int | with_reducible apply Sto.there | with_reducible assumption | (unfold I64; omega) | (with_reducible (have hMx := Mem.undrew hM; exact hMx)) | (with_reducible (have hMx := Mem.undrew hMp; exact hMx))))
              clear hM
              intro hM
              (try simp only [World.size_alloc, World.size_setCell, World.heap_drewN, heapDrew, Nat.add_assoc, Nat.reduceAdd, List.setIfInBounds_toArray, List.set_cons_zero, List.set_cons_succ, List.cons_append, List.nil_append] at hM)
              have hS := hM.tail.tail
              refine AtT.only (i := 7) (by kernel_rfl) rfl rfl ?_
              intro K hK
              refine step_appendI rfl (.tmp 40) (.tmp 42) 26 rfl 3 i0 Tryd.underlying26 hi hz0 hz1 hz2 w.heap.size _ _ _ _ rfl (hM.ints (.there .here)).row _ 1 1 [(i : Int)] rfl (hM.oneInt .here (by unfold I64; omega)) (by omega) hM.size ?_
              intro a3 c3 w3 hrow hg hbl
              have hO := own_of hrow (by first | (simp [HLO.out]; done) | (simp [HLO.out]; omega)) (by omega) HWI.out
              replace hM := hM.appended (.there .here) hO hg (fun k hk => by simpa using hbl k hk)
              clear hO hrow hg hbl
              try dsimp only
              refine hK.out _ _ (hM.tail.tail) ?_
              clear hK K hS
              have hS := hM.tail.tail
              refine AtT.only (i := 11) (by kernel_rfl) rfl rfl ?_
              intro K hK
              refine step_appendI rfl (.tmp 43) (.tmp 46) 26 rfl 3 i0 Tryd.underlying26 hi hz0 hz1 hz2 w.heap.size _ _ _ _ rfl (hM.ints (.there .here)).row (some ⟨g, 0, none⟩) 0 0 (os.drop i) rfl (by rw [List.drop_of_length_le (by rw [HLO.out]; exact Nat.le_refl _)]; exact Ints.none' (by unfold maxLen; omega) (by simp)) (by omega) hM.size ?_
              intro a4 c4 w4 hrow hg hbl
              rw [show i + 1 + 0 = i + 1 by omega] at hrow ⊢
              rw [HLN.out] at hrow
              have hO := own_of hrow (outS_length _ _) (by omega) HWN.out
              replace hM := hM.appended (.there .here) hO hg (fun k hk => by simpa using hbl k hk)
              obtain ⟨g4, rfl, _⟩ := hO.head (by omega)
              clear hO hrow hg hbl
              try dsimp only
              refine hK.out _ _ (hM.tail.tail) ?_
              clear hK K hS
              have hS := hM.tail.tail
              refine AtT.last (by kernel_rfl) rfl (by kernel_rfl) ?_
              intro K hK
              clear hS
              go_simp
              refine hK.out _ _ ?_
              clear hK K
              go_wp2
              go_roundg (n - (i + 1))
              case measure => omega
              case rel =>
              refine ⟨i + 1, g4, c4, by omega, rfl, by go_num, rfl, ?_⟩
              apply Mem.pick (is := [1])
              · (repeat' (first | with_reducible exact hM | with_reducible exact hMp | with_reducible apply Mem.drew | with_reducible apply Mem.drewN | with_reducible apply Mem.alloc | with_reducible apply Mem.set | with_reducible exact Sto.row | ((with_reducible refine Sto.rowEq2 ?_ ?_); omega; rfl) | ((with_reducible refine Sto.rowEq ?_); omega) | with_reducible apply Sto.int | with_reducible apply Sto.there | with_reducible assumption | (unfold I64; omega) | (with_reducible (have hMx := Mem.undrew hM; exact hMx)) | (with_reducible (have hMx := Mem.undrew hMp; exact hMx))))
              · decide
              · rfl
            · skip
              intro K hK
              go_simp
              refine hK.out _ _ (by apply Mem.tail; apply Mem.tail; (repeat' (first | with_reducible exact hM | with_reducible exact hMp | with_reducible apply Mem.drew | with_reducible apply Mem.drewN | with_reducible apply Mem.alloc | with_reducible apply Mem.set | with_reducible exact Sto.row | ((with_reducible refine Sto.rowEq2 ?_ ?_); omega; rfl) | ((with_reducible refine Sto.rowEq ?_); omega) | with_reducible apply Sto.int | with_reducible apply Sto.there | with_reducible assumption | (unfold I64; omega) | (with_reducible (have hMx := Mem.undrew hM; exact hMx)) | (with_reducible (have hMx := Mem.undrew hMp; exact hMx))))) ?_
              clear hK K hS
              have hMp := hM
              apply Mem.atT
              · (repeat' (first | with_reducible exact hM | with_reducible exact hMp | with_reducible apply Mem.drew | with_reducible apply Mem.drewN | with_reducible apply Mem.alloc | with_reducible apply Mem.set | with_reducible exact Sto.row | ((with_reducible refine Sto.rowEq2 ?_ ?_); omega; rfl) | ((with_reducible refine Sto.rowEq ?_); omega) | with_reducible apply Sto.int | with_reducible apply Sto.there | with_reducible assumption | (unfold I64; omega) | (with_reducible (have hMx := Mem.undrew hM; exact hMx)) | (with_reducible (have hMx := Mem.undrew hMp; exact hMx))))
              clear hM
              intro hM
              (try simp only [World.size_alloc, World.size_setCell, World.heap_drewN, heapDrew, Nat.add_assoc, Nat.reduceAdd, List.setIfInBounds_toArray, List.set_cons_zero, List.set_cons_succ, List.cons_append, List.nil_append] at hM)
              have hS := hM.tail.tail
              refine AtT.only (i := 4) (by kernel_rfl) rfl rfl ?_
              intro K hK
              replace hM := hM.toInts (xs := []) (.there .here) rfl (by simp) (by simp)
              refine step_appendI rfl (.tmp 36) (.tmp 39) 26 rfl 3 i0 Tryd.underlying26 hi hz0 hz1 hz2 w.heap.size _ 0 _ [] rfl (hM.ints (.there .here)).row (some ⟨g, 0, none⟩) i i (os.take i) rfl ((hM.ints (.there (.there .here))).ints.take hki) (by omega) hM.size ?_
              intro a2 c2 w2 hrow hg hbl
              rw [Nat.zero_add, List.nil_append] at hrow
              rw [Nat.zero_add]
              have hO := own_of hrow (by rw [List.length_take, HLO.out]; omega) (by omega) HWT.out
              replace hM := hM.appended (.there .here) hO hg (fun k hk => by simpa using hbl k hk)
              clear hO hrow hg hbl
              try dsimp only
              refine hK.out _ _ (hM.tail.tail) ?_
              clear hK K hS
              have hS := hM.tail.tail
              refine AtT.only (i := 7) (by kernel_rfl) rfl rfl ?_
              intro K hK
              refine step_appendI rfl (.tmp 40) (.tmp 42) 26 rfl 3 i0 Tryd.underlying26 hi hz0 hz1 hz2 w.heap.size _ _ _ _ rfl (hM.ints (.there .here)).row _ 1 1 [(i : Int)] rfl (hM.oneInt .here (by unfold I64; omega)) (by omega) hM.size ?_
              intro a3 c3 w3 hrow hg hbl
              have hO := own_of hrow (by first | (simp [HLO.out]; done) | (simp [HLO.out]; omega)) (by omega) HWI.out
              replace hM := hM.appended (.there .here) hO hg (fun k hk => by simpa using hbl k hk)
              clear hO hrow hg hbl
              try dsimp only
              refine hK.out _ _ (hM.tail.tail) ?_
              clear hK K hS
              have hS := hM.tail.tail
              refine AtT.only (i := 11) (by kernel_rfl) rfl rfl ?_
              intro K hK
              refine step_appendI rfl (.tmp 43) (.tmp 46) 26 rfl 3 i0 Tryd.underlying26 hi hz0 hz1 hz2 w.heap.size _ _ _ _ rfl (hM.ints (.there .here)).row (some ⟨g, 0, none⟩) 0 0 (os.drop i) rfl (by rw [List.drop_of_length_le (by rw [HLO.out]; exact Nat.le_refl _)]; exact Ints.none' (by unfold maxLen; omega) (by simp)) (by omega) hM.size ?_
              intro a4 c4 w4 hrow hg hbl
              rw [show i + 1 + 0 = i + 1 by omega] at hrow ⊢
              rw [HLN.out] at hrow
              have hO := own_of hrow (outS_length _ _) (by omega) HWN.out
              replace hM := hM.appended (.there .here) hO hg (fun k hk => by simpa using hbl k hk)
              obtain ⟨g4, rfl, _⟩ := hO.head (by omega)
              clear hO hrow hg hbl
              try dsimp only
              refine hK.out _ _ (hM.tail.tail) ?_
              clear hK K hS
              have hS := hM.tail.tail
              refine AtT.last (by kernel_rfl) rfl (by kernel_rfl) ?_
              intro K hK
              clear hS
              go_simp
              refine hK.out _ _ ?_
              clear hK K
              go_wp2
              go_roundg (n - (i + 1))
              case measure => omega
              case rel =>
              refine ⟨i + 1, g4, c4, by omega, rfl, by go_num, rfl, ?_⟩
              apply Mem.pick (is := [1])
              · (repeat' (first | with_reducible exact hM | with_reducible exact hMp | with_reducible apply Mem.drew | with_reducible apply Mem.drewN | with_reducible apply Mem.alloc | with_reducible apply Mem.set | with_reducible exact Sto.row | ((with_reducible refine Sto.rowEq2 ?_ ?_); omega; rfl) | ((with_reducible refine Sto.rowEq ?_); omega) | with_reducible apply Sto.int | with_reducible apply Sto.there | with_reducible assumption | (unfold I64; omega) | (with_reducible (have hMx := Mem.undrew hM; exact hMx)) | (with_reducible (have hMx := Mem.undrew hMp; exact hMx))))
              · decide
              · rfl
          · skip
            intro K hK
            go_simp
            refine hK.out _ _ (by apply Mem.tail; (repeat' (first | with_reducible exact hM | with_reducible exact hMp | with_reducible apply Mem.drew | with_reducible apply Mem.drewN | with_reducible apply Mem.alloc | with_reducible apply Mem.set | with_reducible exact Sto.row | ((with_reducible refine Sto.rowEq2 ?_ ?_); omega; rfl) | ((with_reducible refine Sto.rowEq ?_); omega) | with_reducible apply Sto.int | with_reducible apply Sto.there | with_reducible assumption | (unfold I64; omega) | (with_reducible (have hMx := Mem.undrew hM; exact hMx)) | (with_reducible (have hMx := Mem.undrew hMp; exact hMx))))) ?_
            clear hK K hS
            have hMp := hM
            apply Mem.atT
            · (repeat' (first | with_reducible exact hM | with_reducible exact hMp | with_reducible apply Mem.drew | with_reducible apply Mem.drewN | with_reducible apply Mem.alloc | with_reducible apply Mem.set | with_reducible exact Sto.row | ((with_reducible refine Sto.rowEq2 ?_ ?_); omega; rfl) | ((with_reducible refine Sto.rowEq ?_); omega) | with_reducible apply Sto.int | with_reducible apply Sto.there | with_reducible assumption | (unfold I64; omega) | (with_reducible (have hMx := Mem.undrew hM; exact hMx)) | (with_reducible (have hMx := Mem.undrew hMp; exact hMx))))
            clear hM
            intro hM
            (try simp only [World.size_alloc, World.size_setCell, World.heap_drewN, heapDrew, Nat.add_assoc, Nat.reduceAdd, List.setIfInBounds_toArray, List.set_cons_zero, List.set_cons_succ, List.cons_append, List.nil_append] at hM)
            have hS := hM.tail
            refine AtT.only (i := 0) (by kernel_rfl) rfl rfl ?_
            intro K hK
            go_simp
            refine hK.out _ _ (by apply Mem.tail; apply Mem.tail; (repeat' (first | with_reducible exact hM | with_reducible exact hMp | with_reducible apply Mem.drew | with_reducible apply Mem.drewN | with_reducible apply Mem.alloc | with_reducible apply Mem.set | with_reducible exact Sto.row | ((with_reducible refine Sto.rowEq2 ?_ ?_); omega; rfl) | ((with_reducible refine Sto.rowEq ?_); omega) | with_reducible apply Sto.int | with_reducible apply Sto.there | with_reducible assumption | (unfold I64; omega) | (with_reducible (have hMx := Mem.undrew hM; exact hMx)) | (with_reducible (have hMx := Mem.undrew hMp; exact hMx))))) ?_
            clear hK K hS
            have hMp := hM
            apply Mem.atT
            · (repeat' (first | with_reducible exact hM | with_reducible exact hMp | with_reducible apply Mem.drew | with_reducible apply Mem.drewN | with_reducible apply Mem.alloc | with_reducible apply Mem.set | with_reducible exact Sto.row | ((with_reducible refine Sto.rowEq2 ?_ ?_); omega; rfl) | ((with_reducible refine Sto.rowEq ?_); omega) | with_reducible apply Sto.int | with_reducible apply Sto.there | with_reducible assumption | (unfold I64; omega) | (with_reducible (have hMx := Mem.undrew hM; exact hMx)) | (with_reducible (have hMx := Mem.undrew hMp; exact hMx))))
            clear hM
            intro hM
            (try simp only [World.size_alloc, World.size_setCell, World.heap_drewN, heapDrew, Nat.add_assoc, Nat.reduceAdd, List.setIfInBounds_toArray, List.set_cons_zero, List.set_cons_succ, List.cons_append, List.nil_append] at hM)
            have hS := hM.tail.tail
            refine AtT.only (i := 4) (by kernel_rfl) rfl rfl ?_
            intro K hK
            replace hM := hM.toInts (xs := []) .here rfl (by simp) (by simp)
            refine step_appendI rfl (.tmp 36) (.tmp 39) 26 rfl 3 i0 Tryd.underlying26 hi hz0 hz1 hz2 w.heap.size _ 0 _ [] rfl (hM.ints .here).row (some ⟨g, 0, none⟩) i i (os.take i) rfl ((hM.ints (.there (.there .here))).ints.take hki) (by omega) hM.size ?_
            intro a2 c2 w2 hrow hg hbl
            rw [Nat.zero_add, List.nil_append] at hrow
            rw [Nat.zero_add]
            have hO := own_of hrow (by rw [List.length_take, HLO.out]; omega) (by omega) HWT.out
            replace hM := hM.appended .here hO hg (fun k hk => by simpa using hbl k hk)
            clear hO hrow hg hbl
            try dsimp only
            refine hK.out _ _ (hM.tail.tail) ?_
            clear hK K hS
            have hS := hM.tail.tail
            refine AtT.only (i := 7) (by kernel_rfl) rfl rfl ?_
            intro K hK
            refine step_appendI rfl (.tmp 40) (.tmp 42) 26 rfl 3 i0 Tryd.underlying26 hi hz0 hz1 hz2 w.heap.size _ _ _ _ rfl (hM.ints .here).row _ 1 1 [(i : Int)] rfl (hM.oneInt (.there .here) (by unfold I64; omega)) (by omega) hM.size ?_
            intro a3 c3 w3 hrow hg hbl
            have hO := own_of hrow (by first | (simp [HLO.out]; done) | (simp [HLO.out]; omega)) (by omega) HWI.out
            replace hM := hM.appended .here hO hg (fun k hk => by simpa using hbl k hk)
            clear hO hrow hg hbl
            try dsimp only
            refine hK.out _ _ (hM.tail.tail) ?_
            clear hK K hS
            have hS := hM.tail.tail
            refine AtT.only (i := 11) (by kernel_rfl) rfl rfl ?_
            intro K hK
            refine step_appendI rfl (.tmp 43) (.tmp 46) 26 rfl 3 i0 Tryd.underlying26 hi hz0 hz1 hz2 w.heap.size _ _ _ _ rfl (hM.ints .here).row (some ⟨g, 0, none⟩) 0 0 (os.drop i) rfl (by rw [List.drop_of_length_le (by rw [HLO.out]; exact Nat.le_refl _)]; exact Ints.none' (by unfold maxLen; omega) (by simp)) (by omega) hM.size ?_
            intro a4 c4 w4 hrow hg hbl
            rw [show i + 1 + 0 = i + 1 by omega] at hrow ⊢
            rw [HLN.out] at hrow
            have hO := own_of hrow (outS_length _ _) (by omega) HWN.out
            replace hM := hM.appended .here hO hg (fun k hk => by simpa using hbl k hk)
            obtain ⟨g4, rfl, _⟩ := hO.head (by omega)
            clear hO hrow hg hbl
            try dsimp only
            refine hK.out _ _ (hM.tail.tail) ?_
            clear hK K hS
            have hS := hM.tail.tail
            refine AtT.last (by kernel_rfl) rfl (by kernel_rfl) ?_
            intro K hK
            clear hS
            go_simp
            refine hK.out _ _ ?_
            clear hK K
            go_wp2
            go_roundg (n - (i + 1))
            case measure => omega
            case rel =>
            refine ⟨i + 1, g4, c4, by omega, rfl, by go_num, rfl, ?_⟩
            apply Mem.pick (is := [0])
            · (repeat' (first | with_reducible exact hM | with_reducible exact hMp | with_reducible apply Mem.drew | with_reducible apply Mem.drewN | with_reducible apply Mem.alloc | with_reducible apply Mem.set | with_reducible exact Sto.row | ((with_reducible refine Sto.rowEq2 ?_ ?_); omega; rfl) | ((with_reducible refine Sto.rowEq ?_); omega) | with_reducible apply Sto.int | with_reducible apply Sto.there | with_reducible assumption | (unfold I64; omega) | (with_reducible (have hMx := Mem.undrew hM; exact hMx)) | (with_reducible (have hMx := Mem.undrew hMp; exact hMx))))
            · decide
            · rfl
        · have hki2 : k < c' := by omega
          have hck : ¬ c' = k := by omega
          go_wp2_with fail
          apply Mem.atWp
          · (repeat' (first | with_reducible exact hM | with_reducible exact hMp | with_reducible apply Mem.drew | with_reducible apply Mem.drewN | with_reducible apply Mem.alloc | with_reducible apply Mem.set | with_reducible exact Sto.row | ((with_reducible refine Sto.rowEq2 ?_ ?_); omega; rfl) | ((with_reducible refine Sto.rowEq ?_); omega) | with_reducible apply Sto.int | with_reducible apply Sto.there | with_reducible assumption | (unfold I64; omega) | (with_reducible (have hMx := Mem.undrew hM; exact hMx)) | (with_reducible (have hMx := Mem.undrew hMp; exact hMx))))
          clear hM
          intro hM
          refine AtT.startA hM hM 12 (by kernel_rfl) ?_
          clear hM
          intro wd hM
          have hS := hM
          refine AtT.taked (i := 1) (v := ?_) (some 37) rfl rfl (by kernel_rfl) (by kernel_rfl) (by kernel_rfl) (by kernel_rfl) (fun _ _ _ h => h) (Or.inl ⟨by kernel_rfl, ?_⟩) hS ?_
          rotate_left
          · (intro wS hSw; (try dsimp only at hSw); go_simp; (try rw [if_neg (by omega)]); try with_reducible rfl)
          simp only [Act.put, List.setIfInBounds_toArray, List.set_cons_zero, List.set_cons_succ]
          refine AtT.taked (i := 2) (v := ?_) (some 38) rfl rfl (by kernel_rfl) (by kernel_rfl) (by kernel_rfl) (by kernel_rfl) (fun _ _ _ h => h) (Or.inl ⟨by kernel_rfl, ?_⟩) hS ?_
          rotate_left
          · (intro wS hSw; (try dsimp only at hSw); go_simp; (try rw [if_neg (by omega)]); try with_reducible rfl)
          simp only [Act.put, List.setIfInBounds_toArray, List.set_cons_zero, List.set_cons_succ]
          refine AtT.taked (i := 3) (v := ?_) (some 39) rfl rfl (by kernel_rfl) (by kernel_rfl) (by kernel_rfl) (by kernel_rfl) (fun _ _ _ h => h) (Or.inl ⟨by kernel_rfl, ?_⟩) hS ?_
          rotate_left
          · (intro wS hSw; (try dsimp only at hSw); go_simp; (try rw [if_neg (by omega)]); try with_reducible rfl)
          simp only [Act.put, List.setIfInBounds_toArray, List.set_cons_zero, List.set_cons_succ]
          refine AtT.taked (i := 5) (v := ?_) (some 41) rfl rfl (by kernel_rfl) (by kernel_rfl) (by kernel_rfl) (by kernel_rfl) (fun _ _ _ h => h) (Or.inl ⟨by kernel_rfl, ?_⟩) hS ?_
          rotate_left
          · (intro wS hSw; (try dsimp only at hSw); go_simp; (try rw [if_neg (by omega)]); try with_reducible rfl)
          simp only [Act.put, List.setIfInBounds_toArray, List.set_cons_zero, List.set_cons_succ]
          refine AtT.taked (i := 8) (v := ?_) (some 44) rfl rfl (by kernel_rfl) (by kernel_rfl) (by kernel_rfl) (by kernel_rfl) (fun _ _ _ h => h) (Or.inl ⟨by kernel_rfl, ?_⟩) hS ?_
          rotate_left
          · (intro wS hSw; (try dsimp only at hSw); go_simp; (try rw [if_neg (by omega)]); try with_reducible rfl)
          simp only [Act.put, List.setIfInBounds_toArray, List.set_cons_zero, List.set_cons_succ]
          refine AtT.taked (i := 9) (v := ?_) (some 45) rfl rfl (by kernel_rfl) (by kernel_rfl) (by kernel_rfl) (by kernel_rfl) (fun _ _ _ h => h) (Or.inl ⟨by kernel_rfl, ?_⟩) hS ?_
          rotate_left
          · (intro wS hSw; (try dsimp only at hSw); go_simp; (try rw [if_neg (by omega)]); try with_reducible rfl)
          simp only [Act.put, List.setIfInBounds_toArray, List.set_cons_zero, List.set_cons_succ]
          refine AtT.taked (i := 10) (v := ?_) (some 46) rfl rfl (by kernel_rfl) (by kernel_rfl) (by kernel_rfl) (by kernel_rfl) (fun _ _ _ h => h) (Or.inl ⟨by kernel_rfl, ?_⟩) hS ?_
          rotate_left
          · (intro wS hSw; (try dsimp only at hSw); go_simp; (try rw [if_neg (by omega)]); try with_reducible rfl)
          simp only [Act.put, List.setIfInBounds_toArray, List.set_cons_zero, List.set_cons_succ]
          refine AtT.two (i := 0) (j := 6) (by kernel_rfl) rfl rfl rfl rfl ?_ ?_
          · skip
            intro K hK
            go_simp
            refine hK.out _ _ (by apply Mem.tail; (repeat' (first | with_reducible exact hM | with_reducible exact hMp | with_reducible apply Mem.drew | with_reducible apply Mem.drewN | with_reducible apply Mem.alloc | with_reducible apply Mem.set | with_reducible exact Sto.row | ((with_reducible refine Sto.rowEq2 ?_ ?_); omega; rfl) | ((with_reducible refine Sto.rowEq ?_); omega) | with_reducible apply Sto.int | with_reducible apply Sto.there | with_reducible assumption | (unfold I64; omega) | (with_reducible (have hMx := Mem.undrew hM; exact hMx)) | (with_reducible (have hMx := Mem.undrew hMp; exact hMx))))) ?_
            clear hK K hS
            have hMp := hM
            apply Mem.atT
            · (repeat' (first | with_reducible exact hM | with_reducible exact hMp | with_reducible apply Mem.drew | with_reducible apply Mem.drewN | with_reducible apply Mem.alloc | with_reducible apply Mem.set | with_reducible exact Sto.row | ((with_reducible refine Sto.rowEq2 ?_ ?_); omega; rfl) | ((with_reducible refine Sto.rowEq ?_); omega) | with_reducible apply Sto.int | with_reducible apply Sto.there | with_reducible assumption | (unfold I64; omega) | (with_reducible (have hMx := Mem.undrew hM; exact hMx)) | (with_reducible (have hMx := Mem.undrew hMp; exact hMx))))
            clear hM
            intro hM
            (try simp only [World.size_alloc, World.size_setCell, World.heap_drewN, heapDrew, Nat.add_assoc, Nat.reduceAdd, List.setIfInBounds_toArray, List.set_cons_zero, List.set_cons_succ, List.cons_append, List.nil_append] at hM)
            have hS := hM.tail
            refine AtT.two (i := 4) (j := 6) (by kernel_rfl) rfl rfl rfl rfl ?_ ?_
            · skip
              intro K hK
              replace hM := hM.toInts (xs := []) .here rfl (by simp) (by simp)
              refine step_appendI rfl (.tmp 36) (.tmp 39) 26 rfl 3 i0 Tryd.underlying26 hi hz0 hz1 hz2 w.heap.size _ 0 _ [] rfl (hM.ints .here).row (some ⟨g, 0, none⟩) k c' (os.take k) rfl ((hM.ints (.there .here)).ints.take hki) (by omega) hM.size ?_
              intro a2 c2 w2 hrow hg hbl
              rw [Nat.zero_add, List.nil_append] at hrow
              rw [Nat.zero_add]
              have hO := own_of hrow (by rw [List.length_take, HLO.out]; omega) (by omega) HWT.out
              replace hM := hM.appended .here hO hg (fun k hk => by simpa using hbl k hk)
              clear hO hrow hg hbl
              try dsimp only
              refine hK.out _ _ (hM.tail) ?_
              clear hK K hS
              have hS := hM.tail
              refine AtT.only (i := 6) (by kernel_rfl) rfl rfl ?_
              intro K hK
              go_simp
              refine hK.out _ _ (by apply Mem.tail; apply Mem.tail; (repeat' (first | with_reducible exact hM | with_reducible exact hMp | with_reducible apply Mem.drew | with_reducible apply Mem.drewN | with_reducible apply Mem.alloc | with_reducible apply Mem.set | with_reducible exact Sto.row | ((with_reducible refine Sto.rowEq2 ?_ ?_); omega; rfl) | ((with_reducible refine Sto.rowEq ?_); omega) | with_reducible apply Sto.int | with_reducible apply Sto.there | with_reducible assumption | (unfold I64; omega) | (with_reducible (have hMx := Mem.undrew hM; exact hMx)) | (with_reducible (have hMx := Mem.undrew hMp; exact hMx))))) ?_
              clear hK K hS
              have hMp := hM
              apply Mem.atT
              · (repeat' (first | with_reducible exact hM | with_reducible exact hMp | with_reducible apply Mem.drew | with_reducible apply Mem.drewN | with_reducible apply Mem.alloc | with_reducible apply Mem.set | with_reducible exact Sto.row | ((with_reducible refine Sto.rowEq2 ?_ ?_); omega; rfl) | ((with_reducible refine Sto.rowEq ?_); omega) | with_reducible apply Sto.int | with_reducible apply Sto.there | with_reducible assumption | (unfold I64; omega) | (with_reducible (have hMx := Mem.undrew hM; exact hMx)) | (with_reducible (have hMx := Mem.undrew hMp; exact hMx))))
              clear hM
              intro hM
              (try simp only [World.size_alloc, World.size_setCell, World.heap_drewN, heapDrew, Nat.add_assoc, Nat.reduceAdd, List.setIfInBounds_toArray, List.set_cons_zero, List.set_cons_succ, List.cons_append, List.nil_append] at hM)
              have hS := hM.tail.tail
              refine AtT.only (i := 7) (by kernel_rfl) rfl rfl ?_
              intro K hK
              refine step_appendI rfl (.tmp 40) (.tmp 42) 26 rfl 3 i0 Tryd.underlying26 hi hz0 hz1 hz2 w.heap.size _ _ _ _ rfl (hM.ints (.there .here)).row _ 1 1 [(i : Int)] rfl (hM.oneInt .here (by unfold I64; omega)) (by omega) hM.size ?_
              intro a3 c3 w3 hrow hg hbl
              have hO := own_of hrow (by first | (simp [HLO.out]; done) | (simp [HLO.out]; omega)) (by omega) HWI.out
              replace hM := hM.appended (.there .here) hO hg (fun k hk => by simpa using hbl k hk)
              clear hO hrow hg hbl
              try dsimp only
              refine hK.out _ _ (hM.tail.tail) ?_
              clear hK K hS
              have hS := hM.tail.tail
              refine AtT.only (i := 11) (by kernel_rfl) rfl rfl ?_
              intro K hK
              refine step_appendI rfl (.tmp 43) (.tmp 46) 26 rfl 3 i0 Tryd.underlying26 hi hz0 hz1 hz2 w.heap.size _ _ _ _ rfl (hM.ints (.there .here)).row (some ⟨g, k, none⟩) (i - k) (c' - k) (os.drop k) rfl ((hM.ints (.there (.there .here))).ints.drop hki) (by omega) hM.size ?_
              intro a4 c4 w4 hrow hg hbl
              rw [show k + 1 + (i - k) = i + 1 by omega] at hrow ⊢
              rw [HLN.out] at hrow
              have hO := own_of hrow (outS_length _ _) (by omega) HWN.out
              replace hM := hM.appended (.there .here) hO hg (fun k hk => by simpa using hbl k hk)
              obtain ⟨g4, rfl, _⟩ := hO.head (by omega)
              clear hO hrow hg hbl
              try dsimp only
              refine hK.out _ _ (hM.tail.tail) ?_
              clear hK K hS
              have hS := hM.tail.tail
              refine AtT.last (by kernel_rfl) rfl (by kernel_rfl) ?_
              intro K hK
              clear hS
              go_simp
              refine hK.out _ _ ?_
              clear hK K
              go_wp2
              go_roundg (n - (i + 1))
              case measure => omega
              case rel =>
              refine ⟨i + 1, g4, c4, by omega, rfl, by go_num, rfl, ?_⟩
              apply Mem.pick (is := [1])
              · (repeat' (first | with_reducible exact hM | with_reducible exact hMp | with_reducible apply Mem.drew | with_reducible apply Mem.drewN | with_reducible apply Mem.alloc | with_reducible apply Mem.set | with_reducible exact Sto.row | ((with_reducible refine Sto.rowEq2 ?_ ?_); omega; rfl) | ((with_reducible refine Sto.rowEq ?_); omega) | with_reducible apply Sto.int | with_reducible apply Sto.there | with_reducible assumption | (unfold I64; omega) | (with_reducible (have hMx := Mem.undrew hM; exact hMx)) | (with_reducible (have hMx := Mem.undrew hMp; exact hMx))))
              · decide
              · rfl
            · skip
              intro K hK
              go_simp
              refine hK.out _ _ (by apply Mem.tail; apply Mem.tail; (repeat' (first | with_reducible exact hM | with_reducible exact hMp | with_reducible apply Mem.drew | with_reducible apply Mem.drewN | with_reducible apply Mem.alloc | with_reducible apply Mem.set | with_reducible exact Sto.row | ((with_reducible refine Sto.rowEq2 ?_ ?_); omega; rfl) | ((with_reducible refine Sto.rowEq ?_); omega) | with_reducible apply Sto.int | with_reducible apply Sto.there | with_reducible assumption | (unfold I64; omega) | (with_reducible (have hMx := Mem.undrew hM; exact hMx)) | (with_reducible (have hMx := Mem.undrew hMp; exact hMx))))) ?_
              clear hK K hS
              have hMp := hM
              apply Mem.atT
              · (repeat' (first | with_reducible exact hM | with_reducible exact hMp | with_reducible apply Mem.drew | with_reducible apply Mem.drewN | with_reducible apply Mem.alloc | with_reducible apply Mem.set | with_reducible exact Sto.row | ((with_reducible refine Sto.rowEq2 ?_ ?_); omega; rfl) | ((with_reducible refine Sto.rowEq ?_); omega) | with_reducible apply Sto.int | with_reducible apply Sto.there | with_reducible assumption | (unfold I64; omega) | (with_reducible (have hMx := Mem.undrew hM; exact hMx)) | (with_reducible (have hMx := Mem.undrew hMp; exact hMx))))
              clear hM
              intro hM
              (try simp only [World.size_alloc, World.size_setCell, World.heap_drewN, heapDrew, Nat.add_assoc, Nat.reduceAdd, List.setIfInBounds_toArray, List.set_cons_zero, List.set_cons_succ, List.cons_append, List.nil_append] at hM)
              have hS := hM.tail.tail
              refine AtT.only (i := 4) (by kernel_rfl) rfl rfl ?_
              intro K hK
              replace hM := hM.toInts (xs := []) (.there .here) rfl (by simp) (by simp)
              refine step_appendI rfl (.tmp 36) (.tmp 39) 26 rfl 3 i0 Tryd.underlying26 hi hz0 hz1 hz2 w.heap.size _ 0 _ [] rfl (hM.ints (.there .here)).row (some ⟨g, 0, none⟩) k c' (os.take k) rfl ((hM.ints (.there (.there .here))).ints.take hki) (by omega) hM.size ?_
              intro a2 c2 w2 hrow hg hbl
              rw [Nat.zero_add, List.nil_append] at hrow
              rw [Nat.zero_add]
              have hO := own_of hrow (by rw [List.length_take, HLO.out]; omega) (by omega) HWT.out
              replace hM := hM.appended (.there .here) hO hg (fun k hk => by simpa using hbl k hk)
              clear hO hrow hg hbl
              try dsimp only
              refine hK.out _ _ (hM.tail.tail) ?_
              clear hK K hS
              have hS := hM.tail.tail
              refine AtT.only (i := 7) (by kernel_rfl) rfl rfl ?_
              intro K hK
              refine step_appendI rfl (.tmp 40) (.tmp 42) 26 rfl 3 i0 Tryd.underlying26 hi hz0 hz1 hz2 w.heap.size _ _ _ _ rfl (hM.ints (.there .here)).row _ 1 1 [(i : Int)] rfl (hM.oneInt .here (by unfold I64; omega)) (by omega) hM.size ?_
              intro a3 c3 w3 hrow hg hbl
              have hO := own_of hrow (by first | (simp [HLO.out]; done) | (simp [HLO.out]; omega)) (by omega) HWI.out
              replace hM := hM.appended (.there .here) hO hg (fun k hk => by simpa using hbl k hk)
              clear hO hrow hg hbl
              try dsimp only
              refine hK.out _ _ (hM.tail.tail) ?_
              clear hK K hS
              have hS := hM.tail.tail
              refine AtT.only (i := 11) (by kernel_rfl) rfl rfl ?_
              intro K hK
              refine step_appendI rfl (.tmp 43) (.tmp 46) 26 rfl 3 i0 Tryd.underlying26 hi hz0 hz1 hz2 w.heap.size _ _ _ _ rfl (hM.ints (.there .here)).row (some ⟨g, k, none⟩) (i - k) (c' - k) (os.drop k) rfl ((hM.ints (.there (.there .here))).ints.drop hki) (by omega) hM.size ?_
              intro a4 c4 w4 hrow hg hbl
              rw [show k + 1 + (i - k) = i + 1 by omega] at hrow ⊢
              rw [HLN.out] at hrow
              have hO := own_of hrow (outS_length _ _) (by omega) HWN.out
              replace hM := hM.appended (.there .here) hO hg (fun k hk => by simpa using hbl k hk)
              obtain ⟨g4, rfl, _⟩ := hO.head (by omega)
              clear hO hrow hg hbl
              try dsimp only
              refine hK.out _ _ (hM.tail.tail) ?_
              clear hK K hS
              have hS := hM.tail.tail
              refine AtT.last (by kernel_rfl) rfl (by kernel_rfl) ?_
              intro K hK
              clear hS
              go_simp
              refine hK.out _ _ ?_
              clear hK K
              go_wp2
              go_roundg (n - (i + 1))
              case measure => omega
              case rel =>
              refine ⟨i + 1, g4, c4, by omega, rfl, by go_num, rfl, ?_⟩
              apply Mem.pick (is := [1])
              · (repeat' (first | with_reducible exact hM | with_reducible exact hMp | with_reducible apply Mem.drew | with_reducible apply Mem.drewN | with_reducible apply Mem.alloc | with_reducible apply Mem.set | with_reducible exact Sto.row | ((with_reducible refine Sto.rowEq2 ?_ ?_); omega; rfl) | ((with_reducible refine Sto.rowEq ?_); omega) | with_reducible apply Sto.int | with_reducible apply Sto.there | with_reducible assumption | (unfold I64; omega) | (with_reducible (have hMx := Mem.undrew hM; exact hMx)) | (with_reducible (have hMx := Mem.undrew hMp; exact hMx))))
              · decide
              · rfl
          · skip
            intro K hK
            go_simp
            refine hK.out _ _ (by apply Mem.tail; (repeat' (first | with_reducible exact hM | with_reducible exact hMp | with_reducible apply Mem.drew | with_reducible apply Mem.drewN | with_reducible apply Mem.alloc | with_reducible apply Mem.set | with_reducible exact Sto.row | ((with_reducible refine Sto.rowEq2 ?_ ?_); omega; rfl) | ((with_reducible refine Sto.rowEq ?_); omega) | with_reducible apply Sto.int | with_reducible apply Sto.there | with_reducible assumption | (unfold I64; omega) | (with_reducible (have hMx := Mem.undrew hM; exact hMx)) | (with_reducible (have hMx := Mem.undrew hMp; exact hMx))))) ?_
            clear hK K hS
            have hMp := hM
            apply Mem.atT
            · (repeat' (first | with_reducible exact hM | with_reducible exact hMp | with_reducible apply Mem.drew | with_reducible apply Mem.drewN | with_reducible apply Mem.alloc | with_reducible apply Mem.set | with_reducible exact Sto.row | ((with_reducible refine Sto.rowEq2 ?_ ?_); omega; rfl) | ((with_reducible refine Sto.rowEq ?_); omega) | with_reducible apply Sto.int | with_reducible apply Sto.there | with_reducible assumption | (unfold I64; omega) | (with_reducible (have hMx := Mem.undrew hM; exact hMx)) | (with_reducible (have hMx := Mem.undrew hMp; exact hMx))))
            clear hM
            intro hM
            (try simp only [World.size_alloc, World.size_setCell, World.heap_drewN, heapDrew, Nat.add_assoc, Nat.reduceAdd, List.setIfInBounds_toArray, List.set_cons_zero, List.set_cons_succ, List.cons_append, List.nil_append] at hM)
            have hS := hM.tail
            refine AtT.only (i := 0) (by kernel_rfl) rfl rfl ?_
            intro K hK
            go_simp
            refine hK.out _ _ (by apply Mem.tail; apply Mem.tail; (repeat' (first | with_reducible exact hM | with_reducible exact hMp | with_reducible apply Mem.drew | with_reducible apply Mem.drewN | with_reducible apply Mem.alloc | with_reducible apply Mem.set | with_reducible exact Sto.row | ((with_reducible refine Sto.rowEq2 ?_ ?_); omega; rfl) | ((with_reducible refine Sto.rowEq ?_); omega) | with_reducible apply Sto.int | with_reducible apply Sto.there | with_reducible assumption | (unfold I64; omega) | (with_reducible (have hMx := Mem.undrew hM; exact hMx)) | (with_reducible (have hMx := Mem.undrew hMp; exact hMx))))) ?_
            clear hK K hS
            have hMp := hM
            apply Mem.atT
            · (repeat' (first | with_reducible exact hM | with_reducible exact hMp | with_reducible apply Mem.drew | with_reducible apply Mem.drewN | with_reducible apply Mem.alloc | with_reducible apply Mem.set | with_reducible exact Sto.row | ((with_reducible refine Sto.rowEq2 ?_ ?_); omega; rfl) | ((with_reducible refine Sto.rowEq ?_); omega) | with_reducible apply Sto.int | with_reducible apply Sto.there | with_reducible assumption | (unfold I64; omega) | (with_reducible (have hMx := Mem.undrew hM; exact hMx)) | (with_reducible (have hMx := Mem.undrew hMp; exact hMx))))
            clear hM
            intro hM
            (try simp only [World.size_alloc, World.size_setCell, World.heap_drewN, heapDrew, Nat.add_assoc, Nat.reduceAdd, List.setIfInBounds_toArray, List.set_cons_zero, List.set_cons_succ, List.cons_append, List.nil_append] at hM)
            have hS := hM.tail.tail
            refine AtT.only (i := 4) (by kernel_rfl) rfl rfl ?_
            intro K hK
            replace hM := hM.toInts (xs := []) .here rfl (by simp) (by simp)
            refine step_appendI rfl (.tmp 36) (.tmp 39) 26 rfl 3 i0 Tryd.underlying26 hi hz0 hz1 hz2 w.heap.size _ 0 _ [] rfl (hM.ints .here).row (some ⟨g, 0, none⟩) k c' (os.take k) rfl ((hM.ints (.there (.there .here))).ints.take hki) (by omega) hM.size ?_
            intro a2 c2 w2 hrow hg hbl
            rw [Nat.zero_add, List.nil_append] at hrow
            rw [Nat.zero_add]
            have hO := own_of hrow (by rw [List.length_take, HLO.out]; omega) (by omega) HWT.out
            replace hM := hM.appended .here hO hg (fun k hk => by simpa using hbl k hk)
            clear hO hrow hg hbl
            try dsimp only
            refine hK.out _ _ (hM.tail.tail) ?_
            clear hK K hS
            have hS := hM.tail.tail
            refine AtT.only (i := 7) (by kernel_rfl) rfl rfl ?_
            intro K hK
            refine step_appendI rfl (.tmp 40) (.tmp 42) 26 rfl 3 i0 Tryd.underlying26 hi hz0 hz1 hz2 w.heap.size _ _ _ _ rfl (hM.ints .here).row _ 1 1 [(i : Int)] rfl (hM.oneInt (.there .here) (by unfold I64; omega)) (by omega) hM.size ?_
            intro a3 c3 w3 hrow hg hbl
            have hO := own_of hrow (by first | (simp [HLO.out]; done) | (simp [HLO.out]; omega)) (by omega) HWI.out
            replace hM := hM.appended .here hO hg (fun k hk => by simpa using hbl k hk)
            clear hO hrow hg hbl
            try dsimp only
            refine hK.out _ _ (hM.tail.tail) ?_
            clear hK K hS
            have hS := hM.tail.tail
            refine AtT.only (i := 11) (by kernel_rfl) rfl rfl ?_
            intro K hK
            refine step_appendI rfl (.tmp 43) (.tmp 46) 26 rfl 3 i0 Tryd.underlying26 hi hz0 hz1 hz2 w.heap.size _ _ _ _ rfl (hM.ints .here).row (some ⟨g, k, none⟩) (i - k) (c' - k) (os.drop k) rfl ((hM.ints (.there (.there .here))).ints.drop hki) (by omega) hM.size ?_
            intro a4 c4 w4 hrow hg hbl
            rw [show k + 1 + (i - k) = i + 1 by omega] at hrow ⊢
            rw [HLN.out] at hrow
            have hO := own_of hrow (outS_length _ _) (by omega) HWN.out
            replace hM := hM.appended .here hO hg (fun k hk => by simpa using hbl k hk)
            obtain ⟨g4, rfl, _⟩ := hO.head (by omega)
            clear hO hrow hg hbl
            try dsimp only
            refine hK.out _ _ (hM.tail.tail) ?_
            clear hK K hS
            have hS := hM.tail.tail
            refine AtT.last (by kernel_rfl) rfl (by kernel_rfl) ?_
            intro K hK
            clear hS
            go_simp
            refine hK.out _ _ ?_
            clear hK K
            go_wp2
            go_roundg (n - (i + 1))
            case measure => omega
            case rel =>
            refine ⟨i + 1, g4, c4, by omega, rfl, by go_num, rfl, ?_⟩
            apply Mem.pick (is := [0])
            · (repeat' (first | with_reducible exact hM | with_reducible exact hMp | with_reducible apply Mem.drew | with_reducible apply Mem.drewN | with_reducible apply Mem.alloc | with_reducible apply Mem.set | with_reducible exact Sto.row | ((with_reducible refine Sto.rowEq2 ?_ ?_); omega; rfl) | ((with_reducible refine Sto.rowEq ?_); omega) | with_reducible apply Sto.int | with_reducible apply Sto.there | with_reducible assumption | (unfold I64; omega) | (with_reducible (have hMx := Mem.undrew hM; exact hMx)) | (with_reducible (have hMx := Mem.undrew hMp; exact hMx))))
            · decide
            · rfl
    · obtain rfl : i = n := by omega
      go_wp2
      go_ret
      exact ⟨_, _, rfl, by rw [largeL, HL.out, HOS.out]; exact hM⟩
end Go.Proofs.YtpoabdmapbdmfaaDoor

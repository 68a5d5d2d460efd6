/-
  The law FnLog, walked.
-/
import Derived.Test.YtkpicemjiokdpaaDoorDrawCr
import Derived.Test.YtkpicemjiokdpaaDoorOpCode
import Derived.Test.YtkpicemjiokdpaaDoorLogR
import Derived.Test.YtkpicemjiokdpaaDoorLogW
namespace Go.Proofs.YtkpicemjiokdpaaDoor
set_option linter.unusedSimpArgs false
set_option linter.unusedVariables false
open Go.RowKit

theorem recover_ok {D P : Bs} {c : Int} (h : okI D P c = true) : recoverV (D ++ P) = .tuple #[logV (D ++ P) [] c, .int .i64 (D ++ P).length, .bool true] := by
  obtain ⟨_, _, _, hE, hc⟩ := okI_parts h
  obtain ⟨_, _, _, h4⟩ := ok_open h
  rw [recoverV, if_pos (by omega), hE, List.take_length, ← hc]
theorem specValidRec_any (c r : Bs) (w : World) (hc : c.length ≤ 1048576) (hr : r.length ≤ 1048576) :
    Calls Tryd.prog 39 #[.agg #[.string (bsA c), .string (bsA r)]] w fun e w' => e = .returned (.bool (okB ⟨c, r⟩)) ∧ Below w.heap.size w w' := by
  have hM := Mem.start w
  go_enter Tryd.func39, Tryd.ntmps39
  go_wp2_with fail
  apply Mem.atA
  · (repeat' (first | with_reducible exact hM | with_reducible exact hMp | with_reducible apply Mem.drew | with_reducible apply Mem.drewN | with_reducible apply Mem.alloc | with_reducible apply Mem.set | with_reducible exact Sto.row | ((with_reducible refine Sto.rowEq2 ?_ ?_); omega; rfl) | ((with_reducible refine Sto.rowEq ?_); omega) | with_reducible apply Sto.int | with_reducible apply Sto.there | with_reducible assumption | (unfold I64; omega) | (with_reducible (have hMx := Mem.undrew hM; exact hMx)) | (with_reducible (have hMx := Mem.undrew hMp; exact hMx))))
  clear hM
  intro wst hM
  (try simp only [World.size_alloc, World.size_setCell, World.heap_drewN, heapDrew, Nat.add_assoc, Nat.reduceAdd, List.setIfInBounds_toArray, List.set_cons_zero, List.set_cons_succ, List.cons_append, List.nil_append] at hM)
  refine (l27Good_any c r _ (by omega) (by omega)).mono ?_
  rintro e wc1 ⟨rfl, hb⟩
  replace hM := hM.ext hb
  clear hb
  go_wp2
  go_ret
  exact ⟨rfl, (by apply Mem.below; (repeat' (first | with_reducible exact hM | with_reducible exact hMp | with_reducible apply Mem.drew | with_reducible apply Mem.drewN | with_reducible apply Mem.alloc | with_reducible apply Mem.set | with_reducible exact Sto.row | ((with_reducible refine Sto.rowEq2 ?_ ?_); omega; rfl) | ((with_reducible refine Sto.rowEq ?_); omega) | with_reducible apply Sto.int | with_reducible apply Sto.there | with_reducible assumption | (unfold I64; omega) | (with_reducible (have hMx := Mem.undrew hM; exact hMx)) | (with_reducible (have hMx := Mem.undrew hMp; exact hMx)))))⟩
theorem implSync_ok {D P : Bs} {c : Int} {w : World} (h : okI D P c = true) (ht : Tab w) (hl : D.length + P.length ≤ 4194304) :
    Calls Tryd.prog 28 #[logV D P c] w fun e w' => e = .returned (.tuple #[logV (D ++ P) [] c, .bool true]) ∧ Below w.heap.size w w' := by
  have := implSync_any D P c w ht hl
  rw [syncV, h] at this
  exact this
theorem specValid_b {D P : Bs} {c : Int} {w : World} {b : Bool} (h : okI D P c = b) (hl : D.length + P.length ≤ 4194304) :
    Calls Tryd.prog 22 #[logV D P c] w fun e w' => e = .returned (.bool b) ∧ Below w.heap.size w w' := by
  have := specValid_any D P c w hl
  rw [validV, h] at this
  exact this
theorem app_no {D P : Bs} {c : Int} {e : RecB} (h : (okI D P c && okB e && !(c == 60)) = false) : ∃ i : Int, appV D P c e = .tuple #[logV D P c, .int .i64 i] ∧ i ≠ 0 := by
  unfold appV
  cases h1 : okI D P c && okB e
  · exact ⟨1, rfl, by decide⟩
  · rw [h1, Bool.true_and, Bool.not_eq_false'] at h
    rw [if_pos rfl, if_pos h]
    exact ⟨2, rfl, by decide⟩

set_option maxRecDepth 100000 in
set_option maxHeartbeats 8000000 in
theorem FnLog_walk (a : Option Addr) (n cc : Nat) (l : List UInt8) (w : World) (ht : Tab w) (hI : n ≤ maxLen ∧ (n ≤ 65536 → Rd FByt w a n cc l)) :
    Calls Tryd.prog 10 #[.slice a n cc] w fun e w' => e = .returned (.bool true) ∧ Below w.heap.size w w' := by
  have hM := Mem.start w
  have HT := Lib.hid ht; clear ht
  have S1 := bsA_size
  have S2 := bsA_app
  have S3 := bsA_list
  have HI := Lib.hid hI.2
  clear hI
  go_enter Tryd.func10, Tryd.ntmps10
  go_wp2_with fail
  apply Mem.atA
  · (repeat' (first | with_reducible exact hM | with_reducible exact hMp | with_reducible apply Mem.drew | with_reducible apply Mem.drewN | with_reducible apply Mem.alloc | with_reducible apply Mem.set | with_reducible exact Sto.row | ((with_reducible refine Sto.rowEq2 ?_ ?_); omega; rfl) | ((with_reducible refine Sto.rowEq ?_); omega) | with_reducible apply Sto.int | with_reducible apply Sto.there | with_reducible assumption | (unfold I64; omega) | (with_reducible (have hMx := Mem.undrew hM; exact hMx)) | (with_reducible (have hMx := Mem.undrew hMp; exact hMx))))
  clear hM
  intro wst hM
  (try simp only [World.size_alloc, World.size_setCell, World.heap_drewN, heapDrew, Nat.add_assoc, Nat.reduceAdd, List.setIfInBounds_toArray, List.set_cons_zero, List.set_cons_succ, List.cons_append, List.nil_append] at hM)
  refine (vBig_any a n cc _).mono ?_
  rintro e wc2 ⟨rfl, hb⟩
  replace hM := hM.ext hb
  clear hb
  by_cases hb : 65536 < n
  · go_wp2
    go_ret
    exact ⟨rfl, (by apply Mem.below; (repeat' (first | with_reducible exact hM | with_reducible exact hMp | with_reducible apply Mem.drew | with_reducible apply Mem.drewN | with_reducible apply Mem.alloc | with_reducible apply Mem.set | with_reducible exact Sto.row | ((with_reducible refine Sto.rowEq2 ?_ ?_); omega; rfl) | ((with_reducible refine Sto.rowEq ?_); omega) | with_reducible apply Sto.int | with_reducible apply Sto.there | with_reducible assumption | (unfold I64; omega) | (with_reducible (have hMx := Mem.undrew hM; exact hMx)) | (with_reducible (have hMx := Mem.undrew hMp; exact hMx)))))⟩
  have HC := Lib.hid (HI.out (by omega))
  go_wp2_with fail
  apply Mem.atA
  · (repeat' (first | with_reducible exact hM | with_reducible exact hMp | with_reducible apply Mem.drew | with_reducible apply Mem.drewN | with_reducible apply Mem.alloc | with_reducible apply Mem.set | with_reducible exact Sto.row | ((with_reducible refine Sto.rowEq2 ?_ ?_); omega; rfl) | ((with_reducible refine Sto.rowEq ?_); omega) | with_reducible apply Sto.int | with_reducible apply Sto.there | with_reducible assumption | (unfold I64; omega) | (with_reducible (have hMx := Mem.undrew hM; exact hMx)) | (with_reducible (have hMx := Mem.undrew hMp; exact hMx))))
  clear hM
  intro wst hM
  (try simp only [World.size_alloc, World.size_setCell, World.heap_drewN, heapDrew, Nat.add_assoc, Nat.reduceAdd, List.setIfInBounds_toArray, List.set_cons_zero, List.set_cons_succ, List.cons_append, List.nil_append] at hM)
  refine (drawApp_any (HC.out.ext hM.below)).mono ?_
  rintro e wl ⟨D, P, c, q, r, hDP, hq, hr, rfl, hb⟩
  replace hM := hM.ext hb
  clear hb
  have hDE : (D == D) = true := by simp
  have hPE : (P == P) = true := by simp
  have hcE : (c == c) = true := by simp
  cases hk : okI D P c && okB ⟨q, r⟩ && !(c == 60)
  · obtain ⟨i, hv, hi⟩ := app_no hk
    have HV := Lib.hid hv; clear hv hk
    have hii : (i == i) = true := by simp
    have hi0 : (i == 0) = false := by simpa using hi
    go_wp2_with fail
    apply Mem.atA
    · (repeat' (first | with_reducible exact hM | with_reducible exact hMp | with_reducible apply Mem.drew | with_reducible apply Mem.drewN | with_reducible apply Mem.alloc | with_reducible apply Mem.set | with_reducible exact Sto.row | ((with_reducible refine Sto.rowEq2 ?_ ?_); omega; rfl) | ((with_reducible refine Sto.rowEq ?_); omega) | with_reducible apply Sto.int | with_reducible apply Sto.there | with_reducible assumption | (unfold I64; omega) | (with_reducible (have hMx := Mem.undrew hM; exact hMx)) | (with_reducible (have hMx := Mem.undrew hMp; exact hMx))))
    clear hM
    intro wst hM
    (try simp only [World.size_alloc, World.size_setCell, World.heap_drewN, heapDrew, Nat.add_assoc, Nat.reduceAdd, List.setIfInBounds_toArray, List.set_cons_zero, List.set_cons_succ, List.cons_append, List.nil_append] at hM)
    refine (implApp_any D P c q r _ (HT.out.ext hM.below) (by omega)).mono ?_
    rw [HV.out]
    rintro e wm ⟨rfl, hb⟩
    replace hM := hM.ext hb
    clear hb
    obtain ⟨k0, f0, l0⟩ := hM.row .here
    obtain ⟨k1, f1, l1⟩ := hM.row (.there .here)
    go_wp2_with fail
    clear k0 f0 l0 k1 f1 l1
    apply Mem.atA
    · (repeat' (first | with_reducible exact hM | with_reducible exact hMp | with_reducible apply Mem.drew | with_reducible apply Mem.drewN | with_reducible apply Mem.alloc | with_reducible apply Mem.set | with_reducible exact Sto.row | ((with_reducible refine Sto.rowEq2 ?_ ?_); omega; rfl) | ((with_reducible refine Sto.rowEq ?_); omega) | with_reducible apply Sto.int | with_reducible apply Sto.there | with_reducible assumption | (unfold I64; omega) | (with_reducible (have hMx := Mem.undrew hM; exact hMx)) | (with_reducible (have hMx := Mem.undrew hMp; exact hMx))))
    clear hM
    intro wst hM
    (try simp only [World.size_alloc, World.size_setCell, World.heap_drewN, heapDrew, Nat.add_assoc, Nat.reduceAdd, List.setIfInBounds_toArray, List.set_cons_zero, List.set_cons_succ, List.cons_append, List.nil_append] at hM)
    refine (specApp_any D P c q r _ (by omega) (by omega) (by omega)).mono ?_
    rw [HV.out]
    rintro e wn ⟨rfl, hb⟩
    replace hM := hM.ext hb
    clear hb
    have HB1 := Lib.hid (show ∃ b, okI D P c = b from ⟨_, rfl⟩)
    obtain ⟨b1, hb1⟩ := HB1.out
    have HB2 := Lib.hid (show ∃ b, okB ⟨q, r⟩ = b from ⟨_, rfl⟩)
    obtain ⟨b2, hb2⟩ := HB2.out
    have HB1' := Lib.hid hb1
    have HB2' := Lib.hid hb2
    clear hb1 hb2 HB1 HB2
    have hbb1 : (b1 != b1) = false := by simp
    have hbb2 : (b2 != b2) = false := by simp
    go_wp2_with fail
    apply Mem.atWpA
    · (repeat' (first | with_reducible exact hM | with_reducible exact hMp | with_reducible apply Mem.drew | with_reducible apply Mem.drewN | with_reducible apply Mem.alloc | with_reducible apply Mem.set | with_reducible exact Sto.row | ((with_reducible refine Sto.rowEq2 ?_ ?_); omega; rfl) | ((with_reducible refine Sto.rowEq ?_); omega) | with_reducible apply Sto.int | with_reducible apply Sto.there | with_reducible assumption | (unfold I64; omega) | (with_reducible (have hMx := Mem.undrew hM; exact hMx)) | (with_reducible (have hMx := Mem.undrew hMp; exact hMx))))
    clear hM
    intro wst hM
    (try simp only [World.size_alloc, World.size_setCell, World.heap_drewN, heapDrew, Nat.add_assoc, Nat.reduceAdd, List.setIfInBounds_toArray, List.set_cons_zero, List.set_cons_succ, List.cons_append, List.nil_append] at hM)
    refine AtT.startA hM hM 21 (by kernel_rfl) ?_
    clear hM
    intro wd hM
    have hS := hM
    refine AtT.taked (i := 0) (v := ?_) (some 38) rfl rfl (by kernel_rfl) (by kernel_rfl) (by kernel_rfl) (by kernel_rfl) (fun _ _ _ h => h) (Or.inl ⟨by kernel_rfl, ?_⟩) hS ?_
    rotate_left
    · (intro wS hSw; (try dsimp only at hSw); have kr0 := (Mem.row hSw .here).cell; have kr1 := (Mem.row hSw (.there .here)).cell; have kr2 := (Mem.row hSw (.there (.there .here))).cell; have kr3 := (Mem.row hSw (.there (.there (.there .here)))).cell; go_simp; (try rw [if_neg (by omega)]); try with_reducible rfl)
    simp only [Act.put, List.setIfInBounds_toArray, List.set_cons_zero, List.set_cons_succ]
    refine AtT.taked (i := 1) (v := ?_) (some 39) rfl rfl (by kernel_rfl) (by kernel_rfl) (by kernel_rfl) (by kernel_rfl) (fun _ _ _ h => h) (Or.inl ⟨by kernel_rfl, ?_⟩) hS ?_
    rotate_left
    · (intro wS hSw; (try dsimp only at hSw); have kr0 := (Mem.row hSw .here).cell; have kr1 := (Mem.row hSw (.there .here)).cell; have kr2 := (Mem.row hSw (.there (.there .here))).cell; have kr3 := (Mem.row hSw (.there (.there (.there .here)))).cell; go_simp; (try rw [if_neg (by omega)]); try with_reducible rfl)
    simp only [Act.put, List.setIfInBounds_toArray, List.set_cons_zero, List.set_cons_succ]
    refine AtT.taked (i := 2) (v := ?_) (some 40) rfl rfl (by kernel_rfl) (by kernel_rfl) (by kernel_rfl) (by kernel_rfl) (fun _ _ _ h => h) (Or.inl ⟨by kernel_rfl, ?_⟩) hS ?_
    rotate_left
    · (intro wS hSw; (try dsimp only at hSw); go_simp; (try rw [if_neg (by omega)]); try with_reducible rfl)
    simp only [Act.put, List.setIfInBounds_toArray, List.set_cons_zero, List.set_cons_succ]
    refine AtT.taked (i := 3) (v := ?_) (some 41) rfl rfl (by kernel_rfl) (by kernel_rfl) (by kernel_rfl) (by kernel_rfl) (fun _ _ _ h => h) (Or.inl ⟨by kernel_rfl, ?_⟩) hS ?_
    rotate_left
    · (intro wS hSw; (try dsimp only at hSw); go_simp; (try rw [if_neg (by omega)]); try with_reducible rfl)
    simp only [Act.put, List.setIfInBounds_toArray, List.set_cons_zero, List.set_cons_succ]
    refine AtT.taked (i := 4) (v := ?_) (some 42) rfl rfl (by kernel_rfl) (by kernel_rfl) (by kernel_rfl) (by kernel_rfl) (fun _ _ _ h => h) (Or.inl ⟨by kernel_rfl, ?_⟩) hS ?_
    rotate_left
    · (intro wS hSw; (try dsimp only at hSw); go_simp; (try rw [if_neg (by omega)]); try with_reducible rfl)
    simp only [Act.put, List.setIfInBounds_toArray, List.set_cons_zero, List.set_cons_succ]
    refine AtT.taked (i := 5) (v := ?_) (some 43) rfl rfl (by kernel_rfl) (by kernel_rfl) (by kernel_rfl) (by kernel_rfl) (fun _ _ _ h => h) (Or.inl ⟨by kernel_rfl, ?_⟩) hS ?_
    rotate_left
    · (intro wS hSw; (try dsimp only at hSw); go_simp; (try rw [if_neg (by omega)]); try with_reducible rfl)
    simp only [Act.put, List.setIfInBounds_toArray, List.set_cons_zero, List.set_cons_succ]
    refine AtT.taked (i := 6) (v := ?_) (some 44) rfl rfl (by kernel_rfl) (by kernel_rfl) (by kernel_rfl) (by kernel_rfl) (fun _ _ _ h => h) (Or.inl ⟨by kernel_rfl, ?_⟩) hS ?_
    rotate_left
    · (intro wS hSw; (try dsimp only at hSw); go_simp; (try rw [if_neg (by omega)]); try with_reducible rfl)
    simp only [Act.put, List.setIfInBounds_toArray, List.set_cons_zero, List.set_cons_succ]
    refine AtT.taked (i := 7) (v := ?_) (some 45) rfl rfl (by kernel_rfl) (by kernel_rfl) (by kernel_rfl) (by kernel_rfl) (fun _ _ _ h => h) (Or.inl ⟨by kernel_rfl, ?_⟩) hS ?_
    rotate_left
    · (intro wS hSw; (try dsimp only at hSw); go_simp; (try rw [if_neg (by omega)]); try with_reducible rfl)
    simp only [Act.put, List.setIfInBounds_toArray, List.set_cons_zero, List.set_cons_succ]
    refine AtT.taked (i := 8) (v := ?_) (some 46) rfl rfl (by kernel_rfl) (by kernel_rfl) (by kernel_rfl) (by kernel_rfl) (fun _ _ _ h => h) (Or.inl ⟨by kernel_rfl, ?_⟩) hS ?_
    rotate_left
    · (intro wS hSw; (try dsimp only at hSw); go_simp; (try rw [if_neg (by omega)]); try with_reducible rfl)
    simp only [Act.put, List.setIfInBounds_toArray, List.set_cons_zero, List.set_cons_succ]
    refine AtT.taked (i := 9) (v := ?_) (some 47) rfl rfl (by kernel_rfl) (by kernel_rfl) (by kernel_rfl) (by kernel_rfl) (fun _ _ _ h => h) (Or.inl ⟨by kernel_rfl, ?_⟩) hS ?_
    rotate_left
    · (intro wS hSw; (try dsimp only at hSw); have kr0 := (Mem.row hSw .here).cell; have kr1 := (Mem.row hSw (.there .here)).cell; have kr2 := (Mem.row hSw (.there (.there .here))).cell; have kr3 := (Mem.row hSw (.there (.there (.there .here)))).cell; go_simp; (try rw [if_neg (by omega)]); try with_reducible rfl)
    simp only [Act.put, List.setIfInBounds_toArray, List.set_cons_zero, List.set_cons_succ]
    refine AtT.taked (i := 11) (v := ?_) (some 49) rfl rfl (by kernel_rfl) (by kernel_rfl) (by kernel_rfl) (by kernel_rfl) (fun _ _ _ h => h) (Or.inl ⟨by kernel_rfl, ?_⟩) hS ?_
    rotate_left
    · (intro wS hSw; (try dsimp only at hSw); have kr0 := (Mem.row hSw .here).cell; have kr1 := (Mem.row hSw (.there .here)).cell; have kr2 := (Mem.row hSw (.there (.there .here))).cell; have kr3 := (Mem.row hSw (.there (.there (.there .here)))).cell; go_simp; (try rw [if_neg (by omega)]); try with_reducible rfl)
    simp only [Act.put, List.setIfInBounds_toArray, List.set_cons_zero, List.set_cons_succ]
    refine AtT.only (i := 10) (by kernel_rfl) rfl rfl ?_
    intro K hK
    go_simp
    refine (implValid_b HB1'.out (HT.out.ext hM.below) (by omega)).mono ?_
    rintro e w5 ⟨rfl, hb⟩
    replace hM := hM.ext hb
    clear hb
    try dsimp only
    refine hK.out _ _ (hM) ?_
    clear hK K hS
    have hS := hM
    refine AtT.only (i := 12) (by kernel_rfl) rfl rfl ?_
    intro K hK
    go_simp
    refine (specValid_b HB1'.out (by omega)).mono ?_
    rintro e w5 ⟨rfl, hb⟩
    replace hM := hM.ext hb
    clear hb
    try dsimp only
    refine hK.out _ _ (hM) ?_
    clear hK K hS
    have hS := hM
    refine AtT.taked (i := 13) (v := ?_) (some 51) rfl rfl (by kernel_rfl) (by kernel_rfl) (by kernel_rfl) (by kernel_rfl) (fun _ _ _ h => h) (Or.inl ⟨by kernel_rfl, ?_⟩) hS ?_
    rotate_left
    · (intro wS hSw; (try dsimp only at hSw); go_simp; (try rw [if_neg (by omega)]); try with_reducible rfl)
    simp only [Act.put, List.setIfInBounds_toArray, List.set_cons_zero, List.set_cons_succ]
    refine AtT.taked (i := 14) (v := ?_) (some 52) rfl rfl (by kernel_rfl) (by kernel_rfl) (by kernel_rfl) (by kernel_rfl) (fun _ _ _ h => h) (Or.inl ⟨by kernel_rfl, ?_⟩) hS ?_
    rotate_left
    · (intro wS hSw; (try dsimp only at hSw); go_simp; (try rw [if_neg (by omega)]); try with_reducible rfl)
    simp only [Act.put, List.setIfInBounds_toArray, List.set_cons_zero, List.set_cons_succ]
    refine AtT.taked (i := 15) (v := ?_) (some 53) rfl rfl (by kernel_rfl) (by kernel_rfl) (by kernel_rfl) (by kernel_rfl) (fun _ _ _ h => h) (Or.inl ⟨by kernel_rfl, ?_⟩) hS ?_
    rotate_left
    · (intro wS hSw; (try dsimp only at hSw); go_simp; (try rw [if_neg (by omega)]); try with_reducible rfl)
    simp only [Act.put, List.setIfInBounds_toArray, List.set_cons_zero, List.set_cons_succ]
    refine AtT.taked (i := 16) (v := ?_) (some 54) rfl rfl (by kernel_rfl) (by kernel_rfl) (by kernel_rfl) (by kernel_rfl) (fun _ _ _ h => h) (Or.inl ⟨by kernel_rfl, ?_⟩) hS ?_
    rotate_left
    · (intro wS hSw; (try dsimp only at hSw); have kr0 := (Mem.row hSw .here).cell; have kr1 := (Mem.row hSw (.there .here)).cell; have kr2 := (Mem.row hSw (.there (.there .here))).cell; have kr3 := (Mem.row hSw (.there (.there (.there .here)))).cell; go_simp; (try rw [if_neg (by omega)]); try with_reducible rfl)
    simp only [Act.put, List.setIfInBounds_toArray, List.set_cons_zero, List.set_cons_succ]
    refine AtT.taked (i := 18) (v := ?_) (some 56) rfl rfl (by kernel_rfl) (by kernel_rfl) (by kernel_rfl) (by kernel_rfl) (fun _ _ _ h => h) (Or.inl ⟨by kernel_rfl, ?_⟩) hS ?_
    rotate_left
    · (intro wS hSw; (try dsimp only at hSw); have kr0 := (Mem.row hSw .here).cell; have kr1 := (Mem.row hSw (.there .here)).cell; have kr2 := (Mem.row hSw (.there (.there .here))).cell; have kr3 := (Mem.row hSw (.there (.there (.there .here)))).cell; go_simp; (try rw [if_neg (by omega)]); try with_reducible rfl)
    simp only [Act.put, List.setIfInBounds_toArray, List.set_cons_zero, List.set_cons_succ]
    refine AtT.only (i := 17) (by kernel_rfl) rfl rfl ?_
    intro K hK
    go_simp
    refine (isValidRecord_any q r _).mono ?_
    rw [HB2'.out]
    rintro e w5 ⟨rfl, hb⟩
    replace hM := hM.ext hb
    clear hb
    try dsimp only
    refine hK.out _ _ (hM) ?_
    clear hK K hS
    have hS := hM
    refine AtT.only (i := 19) (by kernel_rfl) rfl rfl ?_
    intro K hK
    go_simp
    refine (specValidRec_any q r _ (by omega) (by omega)).mono ?_
    rw [HB2'.out]
    rintro e w5 ⟨rfl, hb⟩
    replace hM := hM.ext hb
    clear hb
    try dsimp only
    refine hK.out _ _ (hM) ?_
    clear hK K hS
    have hS := hM
    refine AtT.taked (i := 20) (v := ?_) (some 58) rfl rfl (by kernel_rfl) (by kernel_rfl) (by kernel_rfl) (by kernel_rfl) (fun _ _ _ h => h) (Or.inl ⟨by kernel_rfl, ?_⟩) hS ?_
    rotate_left
    · (intro wS hSw; (try dsimp only at hSw); go_simp; (try rw [if_neg (by omega)]); try with_reducible rfl)
    simp only [Act.put, List.setIfInBounds_toArray, List.set_cons_zero, List.set_cons_succ]
    refine AtT.last (by kernel_rfl) rfl (by kernel_rfl) ?_
    intro K hK
    clear hS
    go_simp
    refine hK.out _ _ ?_
    clear hK K
    apply Mem.atEx
    · (repeat' (first | with_reducible exact hM | with_reducible exact hMp | with_reducible apply Mem.drew | with_reducible apply Mem.drewN | with_reducible apply Mem.alloc | with_reducible apply Mem.set | with_reducible exact Sto.row | ((with_reducible refine Sto.rowEq2 ?_ ?_); omega; rfl) | ((with_reducible refine Sto.rowEq ?_); omega) | with_reducible apply Sto.int | with_reducible apply Sto.there | with_reducible assumption | (unfold I64; omega) | (with_reducible (have hMx := Mem.undrew hM; exact hMx)) | (with_reducible (have hMx := Mem.undrew hMp; exact hMx))))
    clear hM
    intro wst hM
    (try simp only [World.size_alloc, World.size_setCell, World.heap_drewN, heapDrew, Nat.add_assoc, Nat.reduceAdd, List.setIfInBounds_toArray, List.set_cons_zero, List.set_cons_succ, List.cons_append, List.nil_append] at hM)
    obtain ⟨k1, f1, l1⟩ := hM.row (.there .here)
    obtain ⟨k3, f3, l3⟩ := hM.row (.there (.there (.there .here)))
    go_wp2
    go_ret
    exact ⟨rfl, (by apply Mem.below; (repeat' (first | with_reducible exact hM | with_reducible exact hMp | with_reducible apply Mem.drew | with_reducible apply Mem.drewN | with_reducible apply Mem.alloc | with_reducible apply Mem.set | with_reducible exact Sto.row | ((with_reducible refine Sto.rowEq2 ?_ ?_); omega; rfl) | ((with_reducible refine Sto.rowEq ?_); omega) | with_reducible apply Sto.int | with_reducible apply Sto.there | with_reducible assumption | (unfold I64; omega) | (with_reducible (have hMx := Mem.undrew hM; exact hMx)) | (with_reducible (have hMx := Mem.undrew hMp; exact hMx)))))⟩
  · simp only [Bool.and_eq_true, Bool.not_eq_true'] at hk
    obtain ⟨⟨h1, h2⟩, h3⟩ := hk
    obtain ⟨k, hck, hk60, hp1, hp2⟩ := app_parts h1
    obtain ⟨j0, hj0, hDj, hE, hcl⟩ := okI_parts h1
    have hk59 : (openB (D ++ P)).length ≤ 59 := by
      have : c ≠ 60 := by simpa using h3
      omega
    have hsn := open_snoc h1 h2 hk59
    have hok := okI_snoc h1 h2 hk59
    have hv : appV D P c ⟨q, r⟩ = .tuple #[logV D (P ++ lineB c.toNat ⟨q, r⟩) (c + 1), .int .i64 0] := by rw [appV, h1, h2, h3]; rfl
    rw [hcl, Int.toNat_natCast] at hv
    rw [hcl] at hok
    have hcz : okI D P (openB (D ++ P)).length = true := by rw [← hcl]; exact h1
    have hll := (line_len h2 hk59).1
    rw [hcl] at hcE ⊢
    clear hE hDj hj0 hcl h3 hck
    generalize hrs : openB (D ++ P) = rs at hv hok hsn hk59 hcz hcE hll ⊢
    obtain ⟨P', hP'⟩ : ∃ P', P' = P ++ lineB rs.length ⟨q, r⟩ := ⟨_, rfl⟩
    have hPl : P'.length ≤ P.length + 444 := by rw [hP', List.length_append]; omega
    rw [← hP'] at hv hok hsn
    clear hP' hll
    have hwr : recoverV (D ++ P') = _ := recover_ok hok
    obtain ⟨qs, hqs⟩ : ∃ qs, qs = rs ++ [⟨q, r⟩] := ⟨_, rfl⟩
    rw [← hqs] at hsn
    have hql : qs.length = rs.length + 1 := by rw [hqs, List.length_append, List.length_singleton]
    have HG := Lib.hid (show ∀ j, j < rs.length → qs.getD j FRec.z = rs.getD j FRec.z from fun j hj => by
      rw [hqs]
      simp [List.getD, List.getElem?_append_left hj])
    have HGL := Lib.hid (show qs.getD rs.length FRec.z = ⟨q, r⟩ by rw [hqs]; simp [List.getD])
    have HV := Lib.hid hv; clear hv
    have HB1 := Lib.hid hcz; clear hcz h1
    have HB2 := Lib.hid h2; clear h2
    have HOK := Lib.hid hok; clear hok
    have HSN := Lib.hid hsn; clear hsn
    have HRV := Lib.hid hwr; clear hwr
    have HRS := Lib.hid hrs; clear hrs
    clear hqs
    have hPE' : (P' == P') = true := by simp
    have hcat : ¬ 9223372036854775807 < D.length + P'.length := by omega
    have hw1 : IntKind.i64.wrap ((rs.length : Int) + 1) = (rs.length : Int) + 1 := wrap_in (by omega)
    go_wp2_with fail
    apply Mem.atA
    · (repeat' (first | with_reducible exact hM | with_reducible exact hMp | with_reducible apply Mem.drew | with_reducible apply Mem.drewN | with_reducible apply Mem.alloc | with_reducible apply Mem.set | with_reducible exact Sto.row | ((with_reducible refine Sto.rowEq2 ?_ ?_); omega; rfl) | ((with_reducible refine Sto.rowEq ?_); omega) | with_reducible apply Sto.int | with_reducible apply Sto.there | with_reducible assumption | (unfold I64; omega) | (with_reducible (have hMx := Mem.undrew hM; exact hMx)) | (with_reducible (have hMx := Mem.undrew hMp; exact hMx))))
    clear hM
    intro wst hM
    (try simp only [World.size_alloc, World.size_setCell, World.heap_drewN, heapDrew, Nat.add_assoc, Nat.reduceAdd, List.setIfInBounds_toArray, List.set_cons_zero, List.set_cons_succ, List.cons_append, List.nil_append] at hM)
    refine (implApp_any D P rs.length q r _ (HT.out.ext hM.below) (by omega)).mono ?_
    rw [HV.out]
    rintro e wm ⟨rfl, hb⟩
    replace hM := hM.ext hb
    clear hb
    obtain ⟨k0, f0, l0⟩ := hM.row .here
    obtain ⟨k1, f1, l1⟩ := hM.row (.there .here)
    go_wp2_with fail
    clear k0 f0 l0 k1 f1 l1
    apply Mem.atA
    · (repeat' (first | with_reducible exact hM | with_reducible exact hMp | with_reducible apply Mem.drew | with_reducible apply Mem.drewN | with_reducible apply Mem.alloc | with_reducible apply Mem.set | with_reducible exact Sto.row | ((with_reducible refine Sto.rowEq2 ?_ ?_); omega; rfl) | ((with_reducible refine Sto.rowEq ?_); omega) | with_reducible apply Sto.int | with_reducible apply Sto.there | with_reducible assumption | (unfold I64; omega) | (with_reducible (have hMx := Mem.undrew hM; exact hMx)) | (with_reducible (have hMx := Mem.undrew hMp; exact hMx))))
    clear hM
    intro wst hM
    (try simp only [World.size_alloc, World.size_setCell, World.heap_drewN, heapDrew, Nat.add_assoc, Nat.reduceAdd, List.setIfInBounds_toArray, List.set_cons_zero, List.set_cons_succ, List.cons_append, List.nil_append] at hM)
    refine (specApp_any D P rs.length q r _ (by omega) (by omega) (by omega)).mono ?_
    rw [HV.out]
    rintro e wn ⟨rfl, hb⟩
    replace hM := hM.ext hb
    clear hb
    go_wp2_with fail
    apply Mem.atWpA
    · (repeat' (first | with_reducible exact hM | with_reducible exact hMp | with_reducible apply Mem.drew | with_reducible apply Mem.drewN | with_reducible apply Mem.alloc | with_reducible apply Mem.set | with_reducible exact Sto.row | ((with_reducible refine Sto.rowEq2 ?_ ?_); omega; rfl) | ((with_reducible refine Sto.rowEq ?_); omega) | with_reducible apply Sto.int | with_reducible apply Sto.there | with_reducible assumption | (unfold I64; omega) | (with_reducible (have hMx := Mem.undrew hM; exact hMx)) | (with_reducible (have hMx := Mem.undrew hMp; exact hMx))))
    clear hM
    intro wst hM
    (try simp only [World.size_alloc, World.size_setCell, World.heap_drewN, heapDrew, Nat.add_assoc, Nat.reduceAdd, List.setIfInBounds_toArray, List.set_cons_zero, List.set_cons_succ, List.cons_append, List.nil_append] at hM)
    refine AtT.startA hM hM 21 (by kernel_rfl) ?_
    clear hM
    intro wd hM
    have hS := hM
    refine AtT.taked (i := 0) (v := ?_) (some 38) rfl rfl (by kernel_rfl) (by kernel_rfl) (by kernel_rfl) (by kernel_rfl) (fun _ _ _ h => h) (Or.inl ⟨by kernel_rfl, ?_⟩) hS ?_
    rotate_left
    · (intro wS hSw; (try dsimp only at hSw); have kr0 := (Mem.row hSw .here).cell; have kr1 := (Mem.row hSw (.there .here)).cell; have kr2 := (Mem.row hSw (.there (.there .here))).cell; have kr3 := (Mem.row hSw (.there (.there (.there .here)))).cell; go_simp; (try rw [if_neg (by omega)]); try with_reducible rfl)
    simp only [Act.put, List.setIfInBounds_toArray, List.set_cons_zero, List.set_cons_succ]
    refine AtT.taked (i := 1) (v := ?_) (some 39) rfl rfl (by kernel_rfl) (by kernel_rfl) (by kernel_rfl) (by kernel_rfl) (fun _ _ _ h => h) (Or.inl ⟨by kernel_rfl, ?_⟩) hS ?_
    rotate_left
    · (intro wS hSw; (try dsimp only at hSw); have kr0 := (Mem.row hSw .here).cell; have kr1 := (Mem.row hSw (.there .here)).cell; have kr2 := (Mem.row hSw (.there (.there .here))).cell; have kr3 := (Mem.row hSw (.there (.there (.there .here)))).cell; go_simp; (try rw [if_neg (by omega)]); try with_reducible rfl)
    simp only [Act.put, List.setIfInBounds_toArray, List.set_cons_zero, List.set_cons_succ]
    refine AtT.taked (i := 2) (v := ?_) (some 40) rfl rfl (by kernel_rfl) (by kernel_rfl) (by kernel_rfl) (by kernel_rfl) (fun _ _ _ h => h) (Or.inl ⟨by kernel_rfl, ?_⟩) hS ?_
    rotate_left
    · (intro wS hSw; (try dsimp only at hSw); go_simp; (try rw [if_neg (by omega)]); try with_reducible rfl)
    simp only [Act.put, List.setIfInBounds_toArray, List.set_cons_zero, List.set_cons_succ]
    refine AtT.taked (i := 3) (v := ?_) (some 41) rfl rfl (by kernel_rfl) (by kernel_rfl) (by kernel_rfl) (by kernel_rfl) (fun _ _ _ h => h) (Or.inl ⟨by kernel_rfl, ?_⟩) hS ?_
    rotate_left
    · (intro wS hSw; (try dsimp only at hSw); go_simp; (try rw [if_neg (by omega)]); try with_reducible rfl)
    simp only [Act.put, List.setIfInBounds_toArray, List.set_cons_zero, List.set_cons_succ]
    refine AtT.taked (i := 4) (v := ?_) (some 42) rfl rfl (by kernel_rfl) (by kernel_rfl) (by kernel_rfl) (by kernel_rfl) (fun _ _ _ h => h) (Or.inl ⟨by kernel_rfl, ?_⟩) hS ?_
    rotate_left
    · (intro wS hSw; (try dsimp only at hSw); go_simp; (try rw [if_neg (by omega)]); try with_reducible rfl)
    simp only [Act.put, List.setIfInBounds_toArray, List.set_cons_zero, List.set_cons_succ]
    refine AtT.taked (i := 5) (v := ?_) (some 43) rfl rfl (by kernel_rfl) (by kernel_rfl) (by kernel_rfl) (by kernel_rfl) (fun _ _ _ h => h) (Or.inl ⟨by kernel_rfl, ?_⟩) hS ?_
    rotate_left
    · (intro wS hSw; (try dsimp only at hSw); go_simp; (try rw [if_neg (by omega)]); try with_reducible rfl)
    simp only [Act.put, List.setIfInBounds_toArray, List.set_cons_zero, List.set_cons_succ]
    refine AtT.taked (i := 6) (v := ?_) (some 44) rfl rfl (by kernel_rfl) (by kernel_rfl) (by kernel_rfl) (by kernel_rfl) (fun _ _ _ h => h) (Or.inl ⟨by kernel_rfl, ?_⟩) hS ?_
    rotate_left
    · (intro wS hSw; (try dsimp only at hSw); go_simp; (try rw [if_neg (by omega)]); try with_reducible rfl)
    simp only [Act.put, List.setIfInBounds_toArray, List.set_cons_zero, List.set_cons_succ]
    refine AtT.taked (i := 7) (v := ?_) (some 45) rfl rfl (by kernel_rfl) (by kernel_rfl) (by kernel_rfl) (by kernel_rfl) (fun _ _ _ h => h) (Or.inl ⟨by kernel_rfl, ?_⟩) hS ?_
    rotate_left
    · (intro wS hSw; (try dsimp only at hSw); go_simp; (try rw [if_neg (by omega)]); try with_reducible rfl)
    simp only [Act.put, List.setIfInBounds_toArray, List.set_cons_zero, List.set_cons_succ]
    refine AtT.taked (i := 8) (v := ?_) (some 46) rfl rfl (by kernel_rfl) (by kernel_rfl) (by kernel_rfl) (by kernel_rfl) (fun _ _ _ h => h) (Or.inl ⟨by kernel_rfl, ?_⟩) hS ?_
    rotate_left
    · (intro wS hSw; (try dsimp only at hSw); go_simp; (try rw [if_neg (by omega)]); try with_reducible rfl)
    simp only [Act.put, List.setIfInBounds_toArray, List.set_cons_zero, List.set_cons_succ]
    refine AtT.taked (i := 9) (v := ?_) (some 47) rfl rfl (by kernel_rfl) (by kernel_rfl) (by kernel_rfl) (by kernel_rfl) (fun _ _ _ h => h) (Or.inl ⟨by kernel_rfl, ?_⟩) hS ?_
    rotate_left
    · (intro wS hSw; (try dsimp only at hSw); have kr0 := (Mem.row hSw .here).cell; have kr1 := (Mem.row hSw (.there .here)).cell; have kr2 := (Mem.row hSw (.there (.there .here))).cell; have kr3 := (Mem.row hSw (.there (.there (.there .here)))).cell; go_simp; (try rw [if_neg (by omega)]); try with_reducible rfl)
    simp only [Act.put, List.setIfInBounds_toArray, List.set_cons_zero, List.set_cons_succ]
    refine AtT.taked (i := 11) (v := ?_) (some 49) rfl rfl (by kernel_rfl) (by kernel_rfl) (by kernel_rfl) (by kernel_rfl) (fun _ _ _ h => h) (Or.inl ⟨by kernel_rfl, ?_⟩) hS ?_
    rotate_left
    · (intro wS hSw; (try dsimp only at hSw); have kr0 := (Mem.row hSw .here).cell; have kr1 := (Mem.row hSw (.there .here)).cell; have kr2 := (Mem.row hSw (.there (.there .here))).cell; have kr3 := (Mem.row hSw (.there (.there (.there .here)))).cell; go_simp; (try rw [if_neg (by omega)]); try with_reducible rfl)
    simp only [Act.put, List.setIfInBounds_toArray, List.set_cons_zero, List.set_cons_succ]
    refine AtT.only (i := 10) (by kernel_rfl) rfl rfl ?_
    intro K hK
    go_simp
    refine (implValid_b HB1.out (HT.out.ext hM.below) (by omega)).mono ?_
    rintro e w5 ⟨rfl, hb⟩
    replace hM := hM.ext hb
    clear hb
    try dsimp only
    refine hK.out _ _ (hM) ?_
    clear hK K hS
    have hS := hM
    refine AtT.only (i := 12) (by kernel_rfl) rfl rfl ?_
    intro K hK
    go_simp
    refine (specValid_b HB1.out (by omega)).mono ?_
    rintro e w5 ⟨rfl, hb⟩
    replace hM := hM.ext hb
    clear hb
    try dsimp only
    refine hK.out _ _ (hM) ?_
    clear hK K hS
    have hS := hM
    refine AtT.taked (i := 13) (v := ?_) (some 51) rfl rfl (by kernel_rfl) (by kernel_rfl) (by kernel_rfl) (by kernel_rfl) (fun _ _ _ h => h) (Or.inl ⟨by kernel_rfl, ?_⟩) hS ?_
    rotate_left
    · (intro wS hSw; (try dsimp only at hSw); go_simp; (try rw [if_neg (by omega)]); try with_reducible rfl)
    simp only [Act.put, List.setIfInBounds_toArray, List.set_cons_zero, List.set_cons_succ]
    refine AtT.taked (i := 14) (v := ?_) (some 52) rfl rfl (by kernel_rfl) (by kernel_rfl) (by kernel_rfl) (by kernel_rfl) (fun _ _ _ h => h) (Or.inl ⟨by kernel_rfl, ?_⟩) hS ?_
    rotate_left
    · (intro wS hSw; (try dsimp only at hSw); go_simp; (try rw [if_neg (by omega)]); try with_reducible rfl)
    simp only [Act.put, List.setIfInBounds_toArray, List.set_cons_zero, List.set_cons_succ]
    refine AtT.taked (i := 15) (v := ?_) (some 53) rfl rfl (by kernel_rfl) (by kernel_rfl) (by kernel_rfl) (by kernel_rfl) (fun _ _ _ h => h) (Or.inl ⟨by kernel_rfl, ?_⟩) hS ?_
    rotate_left
    · (intro wS hSw; (try dsimp only at hSw); go_simp; (try rw [if_neg (by omega)]); try with_reducible rfl)
    simp only [Act.put, List.setIfInBounds_toArray, List.set_cons_zero, List.set_cons_succ]
    refine AtT.taked (i := 16) (v := ?_) (some 54) rfl rfl (by kernel_rfl) (by kernel_rfl) (by kernel_rfl) (by kernel_rfl) (fun _ _ _ h => h) (Or.inl ⟨by kernel_rfl, ?_⟩) hS ?_
    rotate_left
    · (intro wS hSw; (try dsimp only at hSw); have kr0 := (Mem.row hSw .here).cell; have kr1 := (Mem.row hSw (.there .here)).cell; have kr2 := (Mem.row hSw (.there (.there .here))).cell; have kr3 := (Mem.row hSw (.there (.there (.there .here)))).cell; go_simp; (try rw [if_neg (by omega)]); try with_reducible rfl)
    simp only [Act.put, List.setIfInBounds_toArray, List.set_cons_zero, List.set_cons_succ]
    refine AtT.taked (i := 18) (v := ?_) (some 56) rfl rfl (by kernel_rfl) (by kernel_rfl) (by kernel_rfl) (by kernel_rfl) (fun _ _ _ h => h) (Or.inl ⟨by kernel_rfl, ?_⟩) hS ?_
    rotate_left
    · (intro wS hSw; (try dsimp only at hSw); have kr0 := (Mem.row hSw .here).cell; have kr1 := (Mem.row hSw (.there .here)).cell; have kr2 := (Mem.row hSw (.there (.there .here))).cell; have kr3 := (Mem.row hSw (.there (.there (.there .here)))).cell; go_simp; (try rw [if_neg (by omega)]); try with_reducible rfl)
    simp only [Act.put, List.setIfInBounds_toArray, List.set_cons_zero, List.set_cons_succ]
    refine AtT.only (i := 17) (by kernel_rfl) rfl rfl ?_
    intro K hK
    go_simp
    refine (isValidRecord_any q r _).mono ?_
    rw [HB2.out]
    rintro e w5 ⟨rfl, hb⟩
    replace hM := hM.ext hb
    clear hb
    try dsimp only
    refine hK.out _ _ (hM) ?_
    clear hK K hS
    have hS := hM
    refine AtT.only (i := 19) (by kernel_rfl) rfl rfl ?_
    intro K hK
    go_simp
    refine (specValidRec_any q r _ (by omega) (by omega)).mono ?_
    rw [HB2.out]
    rintro e w5 ⟨rfl, hb⟩
    replace hM := hM.ext hb
    clear hb
    try dsimp only
    refine hK.out _ _ (hM) ?_
    clear hK K hS
    have hS := hM
    refine AtT.taked (i := 20) (v := ?_) (some 58) rfl rfl (by kernel_rfl) (by kernel_rfl) (by kernel_rfl) (by kernel_rfl) (fun _ _ _ h => h) (Or.inl ⟨by kernel_rfl, ?_⟩) hS ?_
    rotate_left
    · (intro wS hSw; (try dsimp only at hSw); go_simp; (try rw [if_neg (by omega)]); try with_reducible rfl)
    simp only [Act.put, List.setIfInBounds_toArray, List.set_cons_zero, List.set_cons_succ]
    refine AtT.last (by kernel_rfl) rfl (by kernel_rfl) ?_
    intro K hK
    clear hS
    go_simp
    refine hK.out _ _ ?_
    clear hK K
    apply Mem.atEx
    · (repeat' (first | with_reducible exact hM | with_reducible exact hMp | with_reducible apply Mem.drew | with_reducible apply Mem.drewN | with_reducible apply Mem.alloc | with_reducible apply Mem.set | with_reducible exact Sto.row | ((with_reducible refine Sto.rowEq2 ?_ ?_); omega; rfl) | ((with_reducible refine Sto.rowEq ?_); omega) | with_reducible apply Sto.int | with_reducible apply Sto.there | with_reducible assumption | (unfold I64; omega) | (with_reducible (have hMx := Mem.undrew hM; exact hMx)) | (with_reducible (have hMx := Mem.undrew hMp; exact hMx))))
    clear hM
    intro wst hM
    (try simp only [World.size_alloc, World.size_setCell, World.heap_drewN, heapDrew, Nat.add_assoc, Nat.reduceAdd, List.setIfInBounds_toArray, List.set_cons_zero, List.set_cons_succ, List.cons_append, List.nil_append] at hM)
    obtain ⟨k1, f1, l1⟩ := hM.row (.there .here)
    go_wp2_with fail
    clear k1 f1 l1
    apply Mem.atA
    · (repeat' (first | with_reducible exact hM | with_reducible exact hMp | with_reducible apply Mem.drew | with_reducible apply Mem.drewN | with_reducible apply Mem.alloc | with_reducible apply Mem.set | with_reducible exact Sto.row | ((with_reducible refine Sto.rowEq2 ?_ ?_); omega; rfl) | ((with_reducible refine Sto.rowEq ?_); omega) | with_reducible apply Sto.int | with_reducible apply Sto.there | with_reducible assumption | (unfold I64; omega) | (with_reducible (have hMx := Mem.undrew hM; exact hMx)) | (with_reducible (have hMx := Mem.undrew hMp; exact hMx))))
    clear hM
    intro wst hM
    (try simp only [World.size_alloc, World.size_setCell, World.heap_drewN, heapDrew, Nat.add_assoc, Nat.reduceAdd, List.setIfInBounds_toArray, List.set_cons_zero, List.set_cons_succ, List.cons_append, List.nil_append] at hM)
    refine (implRecs_ok D P' _ _ HOK.out (HT.out.ext hM.below) (by omega)).mono ?_
    rw [HSN.out]
    rintro e wc8 ⟨a1, c1, rfl, hm⟩
    replace hM := hM.join hm
    clear hm
    (try simp only [World.size_alloc, World.size_setCell, World.heap_drewN, heapDrew, Nat.add_assoc, Nat.reduceAdd, List.setIfInBounds_toArray, List.set_cons_zero, List.set_cons_succ, List.cons_append, List.nil_append] at hM)
    obtain ⟨k4, f4, l4⟩ := hM.row (.there (.there (.there (.there .here))))
    go_wp2_with fail
    clear k4 f4 l4
    apply Mem.atA
    · (repeat' (first | with_reducible exact hM | with_reducible exact hMp | with_reducible apply Mem.drew | with_reducible apply Mem.drewN | with_reducible apply Mem.alloc | with_reducible apply Mem.set | with_reducible exact Sto.row | ((with_reducible refine Sto.rowEq2 ?_ ?_); omega; rfl) | ((with_reducible refine Sto.rowEq ?_); omega) | with_reducible apply Sto.int | with_reducible apply Sto.there | with_reducible assumption | (unfold I64; omega) | (with_reducible (have hMx := Mem.undrew hM; exact hMx)) | (with_reducible (have hMx := Mem.undrew hMp; exact hMx))))
    clear hM
    intro wst hM
    (try simp only [World.size_alloc, World.size_setCell, World.heap_drewN, heapDrew, Nat.add_assoc, Nat.reduceAdd, List.setIfInBounds_toArray, List.set_cons_zero, List.set_cons_succ, List.cons_append, List.nil_append] at hM)
    refine (implRecs_ok D P _ _ HB1.out (HT.out.ext hM.below) (by omega)).mono ?_
    rw [HRS.out]
    rintro e wc9 ⟨a2, c2, rfl, hm⟩
    replace hM := hM.join hm
    clear hm
    (try simp only [World.size_alloc, World.size_setCell, World.heap_drewN, heapDrew, Nat.add_assoc, Nat.reduceAdd, List.setIfInBounds_toArray, List.set_cons_zero, List.set_cons_succ, List.cons_append, List.nil_append] at hM)
    obtain ⟨k3, f3, l3⟩ := hM.row (.there (.there (.there .here)))
    go_wp2_with fail
    clear k3 f3 l3
    apply Mem.atA
    · (repeat' (first | with_reducible exact hM | with_reducible exact hMp | with_reducible apply Mem.drew | with_reducible apply Mem.drewN | with_reducible apply Mem.alloc | with_reducible apply Mem.set | with_reducible exact Sto.row | ((with_reducible refine Sto.rowEq2 ?_ ?_); omega; rfl) | ((with_reducible refine Sto.rowEq ?_); omega) | with_reducible apply Sto.int | with_reducible apply Sto.there | with_reducible assumption | (unfold I64; omega) | (with_reducible (have hMx := Mem.undrew hM; exact hMx)) | (with_reducible (have hMx := Mem.undrew hMp; exact hMx))))
    clear hM
    intro wst hM
    (try simp only [World.size_alloc, World.size_setCell, World.heap_drewN, heapDrew, Nat.add_assoc, Nat.reduceAdd, List.setIfInBounds_toArray, List.set_cons_zero, List.set_cons_succ, List.cons_append, List.nil_append] at hM)
    refine (implRecover_any (D ++ P') _ (HT.out.ext hM.below) (by rw [List.length_append]; omega)).mono ?_
    rw [HRV.out]
    rintro e wr0 ⟨rfl, hb⟩
    replace hM := hM.ext hb
    clear hb
    obtain ⟨k3, f3, l3⟩ := hM.row (.there (.there (.there .here)))
    go_wp2_with fail
    clear k3 f3 l3
    apply Mem.atA
    · (repeat' (first | with_reducible exact hM | with_reducible exact hMp | with_reducible apply Mem.drew | with_reducible apply Mem.drewN | with_reducible apply Mem.alloc | with_reducible apply Mem.set | with_reducible exact Sto.row | ((with_reducible refine Sto.rowEq2 ?_ ?_); omega; rfl) | ((with_reducible refine Sto.rowEq ?_); omega) | with_reducible apply Sto.int | with_reducible apply Sto.there | with_reducible assumption | (unfold I64; omega) | (with_reducible (have hMx := Mem.undrew hM; exact hMx)) | (with_reducible (have hMx := Mem.undrew hMp; exact hMx))))
    clear hM
    intro wst hM
    (try simp only [World.size_alloc, World.size_setCell, World.heap_drewN, heapDrew, Nat.add_assoc, Nat.reduceAdd, List.setIfInBounds_toArray, List.set_cons_zero, List.set_cons_succ, List.cons_append, List.nil_append] at hM)
    refine (implSync_ok HOK.out (HT.out.ext hM.below) (by omega)).mono ?_
    rintro e ws ⟨rfl, hb⟩
    replace hM := hM.ext hb
    clear hb
    rw [hql] at hM
    have hroom := (hM.ow (.there (.there .here))).rd.nroom
    have hla : (D ++ P').length = D.length + P'.length := List.length_append
    obtain ⟨k4, f4, l4⟩ := hM.row (.there (.there (.there (.there .here))))
    go_wp2_with fail
    apply Mem.atWpA
    · (repeat' (first | with_reducible exact hM | with_reducible exact hMp | with_reducible apply Mem.drew | with_reducible apply Mem.drewN | with_reducible apply Mem.alloc | with_reducible apply Mem.set | with_reducible exact Sto.row | ((with_reducible refine Sto.rowEq2 ?_ ?_); omega; rfl) | ((with_reducible refine Sto.rowEq ?_); omega) | with_reducible apply Sto.int | with_reducible apply Sto.there | with_reducible assumption | (unfold I64; omega) | (with_reducible (have hMx := Mem.undrew hM; exact hMx)) | (with_reducible (have hMx := Mem.undrew hMp; exact hMx))))
    clear hM
    intro wst hM
    (try simp only [World.size_alloc, World.size_setCell, World.heap_drewN, heapDrew, Nat.add_assoc, Nat.reduceAdd, List.setIfInBounds_toArray, List.set_cons_zero, List.set_cons_succ, List.cons_append, List.nil_append] at hM)
    go_loopw [18] (fun i wr => ∃ j : Nat, j ≤ rs.length ∧ i = .int .i64 j ∧ Mem w.heap.size w wr [rowE ws.heap.size 31 #[.string (bsA (D ++ P')), .string (bsA []), .int .i64 ((rs.length : Int) + 1)], rowE wr0.heap.size 31 #[.string (bsA (D ++ P')), .string (bsA []), .int .i64 ((rs.length : Int) + 1)], owE FRec 27 a2 rs.length c2 rs, owE FRec 27 a1 (rs.length + 1) c1 qs, rowE wn.heap.size 31 #[.string (bsA D), .string (bsA P'), .int .i64 ((rs.length : Int) + 1)], rowE wm.heap.size 31 #[.string (bsA D), .string (bsA P'), .int .i64 ((rs.length : Int) + 1)], rowE (wl.heap.size + 1) 27 #[.string (bsA q), .string (bsA r)], rowE wl.heap.size 31 #[.string (bsA D), .string (bsA P), .int .i64 rs.length]]) (fun i _ => rs.length - (intOf i).toNat)
    case atStart => exact ⟨0, Nat.zero_le _, rfl, hM⟩
    case round =>
      clear hM
      obtain ⟨j, hj, rfl, hM⟩ := hrel
      by_cases hlt : j < rs.length
      · obtain ⟨g1, rfl, -⟩ := (hM.ow (.there (.there (.there .here)))).head (by omega)
        obtain ⟨g2, rfl, -⟩ := (hM.ow (.there (.there .here))).head (by omega)
        have hc0 := (hM.ow (.there (.there (.there .here)))).cell (show j < rs.length + 1 by omega) (j := 0) (by decide)
        have hc1 := (hM.ow (.there (.there (.there .here)))).cell (show j < rs.length + 1 by omega) (j := 1) (by decide)
        have hd0 := (hM.ow (.there (.there .here))).cell hlt (j := 0) (by decide)
        have hd1 := (hM.ow (.there (.there .here))).cell hlt (j := 1) (by decide)
        rw [HG.out j hlt] at hc0 hc1
        generalize rs.getD j FRec.z = e at hc0 hc1 hd0 hd1
        obtain ⟨ec, er⟩ := e
        replace hc0 : wr.cell? ⟨g1, j * 2, none⟩ = some (.string (bsA ec)) := hc0
        replace hc1 : wr.cell? ⟨g1, j * 2 + 1, none⟩ = some (.string (bsA er)) := hc1
        replace hd0 : wr.cell? ⟨g2, j * 2, none⟩ = some (.string (bsA ec)) := hd0
        replace hd1 : wr.cell? ⟨g2, j * 2 + 1, none⟩ = some (.string (bsA er)) := hd1
        have i0 : (0 : Int) ≤ (j : Int) := by omega
        have i1 : (j : Int) < (rs.length : Int) := by omega
        have i2 : (j : Int) < (rs.length : Int) + 1 := by omega
        have hw2 : IntKind.i64.wrap ((j : Int) + 1) = (j : Int) + 1 := wrap_in (by omega)
        go_wp2
        go_quiet (fail)
        go_wp2_with fail
        refine ⟨⟨j + 1, by omega, by go_num, hM.drewN _⟩, by simp [intOf]; omega⟩
      · obtain rfl : j = rs.length := by omega
        clear hlt hj
        obtain ⟨g1, rfl, -⟩ := (hM.ow (.there (.there (.there .here)))).head (by omega)
        go_wp2_with fail
        have i0 : (0 : Int) ≤ (rs.length : Int) := by omega
        have i2 : (rs.length : Int) < (rs.length : Int) + 1 := by omega
        have hqE : (q == q) = true := by simp
        have hrE : (r == r) = true := by simp
        have hDPE : ((D ++ P') == (D ++ P')) = true := by simp
        have hNN : (([] : Bs) == []) = true := by simp
        have hLE : ((rs.length : Int) + 1 == (rs.length : Int) + 1) = true := by simp
        apply Mem.atWpA
        · (repeat' (first | with_reducible exact hM | with_reducible exact hMp | with_reducible apply Mem.drew | with_reducible apply Mem.drewN | with_reducible apply Mem.alloc | with_reducible apply Mem.set | with_reducible exact Sto.row | ((with_reducible refine Sto.rowEq2 ?_ ?_); omega; rfl) | ((with_reducible refine Sto.rowEq ?_); omega) | with_reducible apply Sto.int | with_reducible apply Sto.there | with_reducible assumption | (unfold I64; omega) | (with_reducible (have hMx := Mem.undrew hM; exact hMx)) | (with_reducible (have hMx := Mem.undrew hMp; exact hMx))))
        clear hM
        intro wst hM
        (try simp only [World.size_alloc, World.size_setCell, World.heap_drewN, heapDrew, Nat.add_assoc, Nat.reduceAdd, List.setIfInBounds_toArray, List.set_cons_zero, List.set_cons_succ, List.cons_append, List.nil_append] at hM)
        refine AtT.startA hM hM 32 (by kernel_rfl) ?_
        clear hM
        intro wd hM
        have hS := hM
        refine AtT.taked (i := 0) (v := ?_) (some 122) rfl rfl (by kernel_rfl) (by kernel_rfl) (by kernel_rfl) (by kernel_rfl) (fun _ _ _ h => h) (Or.inl ⟨by kernel_rfl, ?_⟩) hS ?_
        rotate_left
        · (intro wS hSw; (try dsimp only at hSw); go_simp; (try rw [if_neg (by omega)]); try with_reducible rfl)
        simp only [Act.put, List.setIfInBounds_toArray, List.set_cons_zero, List.set_cons_succ]
        refine AtT.taked (i := 1) (v := ?_) (some 123) rfl rfl (by kernel_rfl) (by kernel_rfl) (by kernel_rfl) (by kernel_rfl) (fun _ _ _ h => h) (Or.inl ⟨by kernel_rfl, ?_⟩) hS ?_
        rotate_left
        · (intro wS hSw; (try dsimp only at hSw); go_simp; (try rw [if_neg (by omega)]); try with_reducible rfl)
        simp only [Act.put, List.setIfInBounds_toArray, List.set_cons_zero, List.set_cons_succ]
        refine AtT.taked (i := 2) (v := ?_) (some 124) rfl rfl (by kernel_rfl) (by kernel_rfl) (by kernel_rfl) (by kernel_rfl) (fun _ _ _ h => h) (Or.inl ⟨by kernel_rfl, ?_⟩) hS ?_
        rotate_left
        · (intro wS hSw; (try dsimp only at hSw); go_simp; (try rw [if_neg (by omega)]); try with_reducible rfl)
        simp only [Act.put, List.setIfInBounds_toArray, List.set_cons_zero, List.set_cons_succ]
        refine AtT.taked (i := 3) (v := ?_) (some 125) rfl rfl (by kernel_rfl) (by kernel_rfl) (by kernel_rfl) (by kernel_rfl) (fun _ _ _ h => h) (Or.inl ⟨by kernel_rfl, ?_⟩) hS ?_
        rotate_left
        · (intro wS hSw; (try dsimp only at hSw); have kr0 := (Mem.row hSw .here).cell; have kr1 := (Mem.row hSw (.there .here)).cell; have kr2 := (Mem.row hSw (.there (.there (.there (.there (.there .here)))))).cell; have kr3 := (Mem.row hSw (.there (.there (.there (.there (.there (.there .here))))))).cell; have hc0 := (hSw.ow (.there (.there (.there .here)))).cell (show rs.length < rs.length + 1 by omega) (j := 0) (by decide); have hc1 := (hSw.ow (.there (.there (.there .here)))).cell (show rs.length < rs.length + 1 by omega) (j := 1) (by decide); rw [HGL.out] at hc0 hc1; replace hc0 : wS.cell? ⟨g1, rs.length * 2, none⟩ = some (.string (bsA q)) := hc0; replace hc1 : wS.cell? ⟨g1, rs.length * 2 + 1, none⟩ = some (.string (bsA r)) := hc1; go_simp; (try rw [if_neg (by omega)]); try with_reducible rfl)
        simp only [Act.put, List.setIfInBounds_toArray, List.set_cons_zero, List.set_cons_succ]
        refine AtT.taked (i := 4) (v := ?_) (some 126) rfl rfl (by kernel_rfl) (by kernel_rfl) (by kernel_rfl) (by kernel_rfl) (fun _ _ _ h => h) (Or.inl ⟨by kernel_rfl, ?_⟩) hS ?_
        rotate_left
        · (intro wS hSw; (try dsimp only at hSw); have kr0 := (Mem.row hSw .here).cell; have kr1 := (Mem.row hSw (.there .here)).cell; have kr2 := (Mem.row hSw (.there (.there (.there (.there (.there .here)))))).cell; have kr3 := (Mem.row hSw (.there (.there (.there (.there (.there (.there .here))))))).cell; have hc0 := (hSw.ow (.there (.there (.there .here)))).cell (show rs.length < rs.length + 1 by omega) (j := 0) (by decide); have hc1 := (hSw.ow (.there (.there (.there .here)))).cell (show rs.length < rs.length + 1 by omega) (j := 1) (by decide); rw [HGL.out] at hc0 hc1; replace hc0 : wS.cell? ⟨g1, rs.length * 2, none⟩ = some (.string (bsA q)) := hc0; replace hc1 : wS.cell? ⟨g1, rs.length * 2 + 1, none⟩ = some (.string (bsA r)) := hc1; go_simp; (try rw [if_neg (by omega)]); try with_reducible rfl)
        simp only [Act.put, List.setIfInBounds_toArray, List.set_cons_zero, List.set_cons_succ]
        refine AtT.taked (i := 5) (v := ?_) (some 127) rfl rfl (by kernel_rfl) (by kernel_rfl) (by kernel_rfl) (by kernel_rfl) (fun _ _ _ h => h) (Or.inl ⟨by kernel_rfl, ?_⟩) hS ?_
        rotate_left
        · (intro wS hSw; (try dsimp only at hSw); have kr0 := (Mem.row hSw .here).cell; have kr1 := (Mem.row hSw (.there .here)).cell; have kr2 := (Mem.row hSw (.there (.there (.there (.there (.there .here)))))).cell; have kr3 := (Mem.row hSw (.there (.there (.there (.there (.there (.there .here))))))).cell; have hc0 := (hSw.ow (.there (.there (.there .here)))).cell (show rs.length < rs.length + 1 by omega) (j := 0) (by decide); have hc1 := (hSw.ow (.there (.there (.there .here)))).cell (show rs.length < rs.length + 1 by omega) (j := 1) (by decide); rw [HGL.out] at hc0 hc1; replace hc0 : wS.cell? ⟨g1, rs.length * 2, none⟩ = some (.string (bsA q)) := hc0; replace hc1 : wS.cell? ⟨g1, rs.length * 2 + 1, none⟩ = some (.string (bsA r)) := hc1; go_simp; (try rw [if_neg (by omega)]); try with_reducible rfl)
        simp only [Act.put, List.setIfInBounds_toArray, List.set_cons_zero, List.set_cons_succ]
        refine AtT.taked (i := 6) (v := ?_) (some 128) rfl rfl (by kernel_rfl) (by kernel_rfl) (by kernel_rfl) (by kernel_rfl) (fun _ _ _ h => h) (Or.inl ⟨by kernel_rfl, ?_⟩) hS ?_
        rotate_left
        · (intro wS hSw; (try dsimp only at hSw); go_simp; (try rw [if_neg (by omega)]); try with_reducible rfl)
        simp only [Act.put, List.setIfInBounds_toArray, List.set_cons_zero, List.set_cons_succ]
        refine AtT.taked (i := 7) (v := ?_) (some 129) rfl rfl (by kernel_rfl) (by kernel_rfl) (by kernel_rfl) (by kernel_rfl) (fun _ _ _ h => h) (Or.inl ⟨by kernel_rfl, ?_⟩) hS ?_
        rotate_left
        · (intro wS hSw; (try dsimp only at hSw); go_simp; (try rw [if_neg (by omega)]); try with_reducible rfl)
        simp only [Act.put, List.setIfInBounds_toArray, List.set_cons_zero, List.set_cons_succ]
        refine AtT.taked (i := 8) (v := ?_) (some 130) rfl rfl (by kernel_rfl) (by kernel_rfl) (by kernel_rfl) (by kernel_rfl) (fun _ _ _ h => h) (Or.inl ⟨by kernel_rfl, ?_⟩) hS ?_
        rotate_left
        · (intro wS hSw; (try dsimp only at hSw); go_simp; (try rw [if_neg (by omega)]); try with_reducible rfl)
        simp only [Act.put, List.setIfInBounds_toArray, List.set_cons_zero, List.set_cons_succ]
        refine AtT.taked (i := 9) (v := ?_) (some 131) rfl rfl (by kernel_rfl) (by kernel_rfl) (by kernel_rfl) (by kernel_rfl) (fun _ _ _ h => h) (Or.inl ⟨by kernel_rfl, ?_⟩) hS ?_
        rotate_left
        · (intro wS hSw; (try dsimp only at hSw); go_simp; (try rw [if_neg (by omega)]); try with_reducible rfl)
        simp only [Act.put, List.setIfInBounds_toArray, List.set_cons_zero, List.set_cons_succ]
        refine AtT.taked (i := 10) (v := ?_) (some 132) rfl rfl (by kernel_rfl) (by kernel_rfl) (by kernel_rfl) (by kernel_rfl) (fun _ _ _ h => h) (Or.inl ⟨by kernel_rfl, ?_⟩) hS ?_
        rotate_left
        · (intro wS hSw; (try dsimp only at hSw); go_simp; (try rw [if_neg (by omega)]); try with_reducible rfl)
        simp only [Act.put, List.setIfInBounds_toArray, List.set_cons_zero, List.set_cons_succ]
        refine AtT.taked (i := 11) (v := ?_) (some 133) rfl rfl (by kernel_rfl) (by kernel_rfl) (by kernel_rfl) (by kernel_rfl) (fun _ _ _ h => h) (Or.inl ⟨by kernel_rfl, ?_⟩) hS ?_
        rotate_left
        · (intro wS hSw; (try dsimp only at hSw); go_simp; (try rw [if_neg (by omega)]); try with_reducible rfl)
        simp only [Act.put, List.setIfInBounds_toArray, List.set_cons_zero, List.set_cons_succ]
        refine AtT.taked (i := 12) (v := ?_) (some 134) rfl rfl (by kernel_rfl) (by kernel_rfl) (by kernel_rfl) (by kernel_rfl) (fun _ _ _ h => h) (Or.inl ⟨by kernel_rfl, ?_⟩) hS ?_
        rotate_left
        · (intro wS hSw; (try dsimp only at hSw); go_simp; (try rw [if_neg (by omega)]); try with_reducible rfl)
        simp only [Act.put, List.setIfInBounds_toArray, List.set_cons_zero, List.set_cons_succ]
        refine AtT.taked (i := 13) (v := ?_) (some 135) rfl rfl (by kernel_rfl) (by kernel_rfl) (by kernel_rfl) (by kernel_rfl) (fun _ _ _ h => h) (Or.inl ⟨by kernel_rfl, ?_⟩) hS ?_
        rotate_left
        · (intro wS hSw; (try dsimp only at hSw); have kr0 := (Mem.row hSw .here).cell; have kr1 := (Mem.row hSw (.there .here)).cell; have kr2 := (Mem.row hSw (.there (.there (.there (.there (.there .here)))))).cell; have kr3 := (Mem.row hSw (.there (.there (.there (.there (.there (.there .here))))))).cell; have hc0 := (hSw.ow (.there (.there (.there .here)))).cell (show rs.length < rs.length + 1 by omega) (j := 0) (by decide); have hc1 := (hSw.ow (.there (.there (.there .here)))).cell (show rs.length < rs.length + 1 by omega) (j := 1) (by decide); rw [HGL.out] at hc0 hc1; replace hc0 : wS.cell? ⟨g1, rs.length * 2, none⟩ = some (.string (bsA q)) := hc0; replace hc1 : wS.cell? ⟨g1, rs.length * 2 + 1, none⟩ = some (.string (bsA r)) := hc1; go_simp; (try rw [if_neg (by omega)]); try with_reducible rfl)
        simp only [Act.put, List.setIfInBounds_toArray, List.set_cons_zero, List.set_cons_succ]
        refine AtT.taked (i := 14) (v := ?_) (some 136) rfl rfl (by kernel_rfl) (by kernel_rfl) (by kernel_rfl) (by kernel_rfl) (fun _ _ _ h => h) (Or.inl ⟨by kernel_rfl, ?_⟩) hS ?_
        rotate_left
        · (intro wS hSw; (try dsimp only at hSw); go_simp; (try rw [if_neg (by omega)]); try with_reducible rfl)
        simp only [Act.put, List.setIfInBounds_toArray, List.set_cons_zero, List.set_cons_succ]
        refine AtT.taked (i := 15) (v := ?_) (some 137) rfl rfl (by kernel_rfl) (by kernel_rfl) (by kernel_rfl) (by kernel_rfl) (fun _ _ _ h => h) (Or.inl ⟨by kernel_rfl, ?_⟩) hS ?_
        rotate_left
        · (intro wS hSw; (try dsimp only at hSw); have kr0 := (Mem.row hSw .here).cell; have kr1 := (Mem.row hSw (.there .here)).cell; have kr2 := (Mem.row hSw (.there (.there (.there (.there (.there .here)))))).cell; have kr3 := (Mem.row hSw (.there (.there (.there (.there (.there (.there .here))))))).cell; have hc0 := (hSw.ow (.there (.there (.there .here)))).cell (show rs.length < rs.length + 1 by omega) (j := 0) (by decide); have hc1 := (hSw.ow (.there (.there (.there .here)))).cell (show rs.length < rs.length + 1 by omega) (j := 1) (by decide); rw [HGL.out] at hc0 hc1; replace hc0 : wS.cell? ⟨g1, rs.length * 2, none⟩ = some (.string (bsA q)) := hc0; replace hc1 : wS.cell? ⟨g1, rs.length * 2 + 1, none⟩ = some (.string (bsA r)) := hc1; go_simp; (try rw [if_neg (by omega)]); try with_reducible rfl)
        simp only [Act.put, List.setIfInBounds_toArray, List.set_cons_zero, List.set_cons_succ]
        refine AtT.taked (i := 16) (v := ?_) (some 138) rfl rfl (by kernel_rfl) (by kernel_rfl) (by kernel_rfl) (by kernel_rfl) (fun _ _ _ h => h) (Or.inl ⟨by kernel_rfl, ?_⟩) hS ?_
        rotate_left
        · (intro wS hSw; (try dsimp only at hSw); go_simp; (try rw [if_neg (by omega)]); try with_reducible rfl)
        simp only [Act.put, List.setIfInBounds_toArray, List.set_cons_zero, List.set_cons_succ]
        refine AtT.taked (i := 17) (v := ?_) (some 139) rfl rfl (by kernel_rfl) (by kernel_rfl) (by kernel_rfl) (by kernel_rfl) (fun _ _ _ h => h) (Or.inl ⟨by kernel_rfl, ?_⟩) hS ?_
        rotate_left
        · (intro wS hSw; (try dsimp only at hSw); go_simp; (try rw [if_neg (by omega)]); try with_reducible rfl)
        simp only [Act.put, List.setIfInBounds_toArray, List.set_cons_zero, List.set_cons_succ]
        refine AtT.taked (i := 18) (v := ?_) (some 140) rfl rfl (by kernel_rfl) (by kernel_rfl) (by kernel_rfl) (by kernel_rfl) (fun _ _ _ h => h) (Or.inl ⟨by kernel_rfl, ?_⟩) hS ?_
        rotate_left
        · (intro wS hSw; (try dsimp only at hSw); go_simp; (try rw [if_neg (by omega)]); try with_reducible rfl)
        simp only [Act.put, List.setIfInBounds_toArray, List.set_cons_zero, List.set_cons_succ]
        refine AtT.taked (i := 19) (v := ?_) (some 141) rfl rfl (by kernel_rfl) (by kernel_rfl) (by kernel_rfl) (by kernel_rfl) (fun _ _ _ h => h) (Or.inl ⟨by kernel_rfl, ?_⟩) hS ?_
        rotate_left
        · (intro wS hSw; (try dsimp only at hSw); go_simp; (try rw [if_neg (by omega)]); try with_reducible rfl)
        simp only [Act.put, List.setIfInBounds_toArray, List.set_cons_zero, List.set_cons_succ]
        refine AtT.taked (i := 20) (v := ?_) (some 142) rfl rfl (by kernel_rfl) (by kernel_rfl) (by kernel_rfl) (by kernel_rfl) (fun _ _ _ h => h) (Or.inl ⟨by kernel_rfl, ?_⟩) hS ?_
        rotate_left
        · (intro wS hSw; (try dsimp only at hSw); go_simp; (try rw [if_neg (by omega)]); try with_reducible rfl)
        simp only [Act.put, List.setIfInBounds_toArray, List.set_cons_zero, List.set_cons_succ]
        refine AtT.taked (i := 21) (v := ?_) (some 143) rfl rfl (by kernel_rfl) (by kernel_rfl) (by kernel_rfl) (by kernel_rfl) (fun _ _ _ h => h) (Or.inl ⟨by kernel_rfl, ?_⟩) hS ?_
        rotate_left
        · (intro wS hSw; (try dsimp only at hSw); go_simp; (try rw [if_neg (by omega)]); try with_reducible rfl)
        simp only [Act.put, List.setIfInBounds_toArray, List.set_cons_zero, List.set_cons_succ]
        refine AtT.taked (i := 22) (v := ?_) (some 144) rfl rfl (by kernel_rfl) (by kernel_rfl) (by kernel_rfl) (by kernel_rfl) (fun _ _ _ h => h) (Or.inl ⟨by kernel_rfl, ?_⟩) hS ?_
        rotate_left
        · (intro wS hSw; (try dsimp only at hSw); go_simp; (try rw [if_neg (by omega)]); try with_reducible rfl)
        simp only [Act.put, List.setIfInBounds_toArray, List.set_cons_zero, List.set_cons_succ]
        refine AtT.taked (i := 23) (v := ?_) (some 145) rfl rfl (by kernel_rfl) (by kernel_rfl) (by kernel_rfl) (by kernel_rfl) (fun _ _ _ h => h) (Or.inl ⟨by kernel_rfl, ?_⟩) hS ?_
        rotate_left
        · (intro wS hSw; (try dsimp only at hSw); go_simp; (try rw [if_neg (by omega)]); try with_reducible rfl)
        simp only [Act.put, List.setIfInBounds_toArray, List.set_cons_zero, List.set_cons_succ]
        refine AtT.taked (i := 24) (v := ?_) (some 146) rfl rfl (by kernel_rfl) (by kernel_rfl) (by kernel_rfl) (by kernel_rfl) (fun _ _ _ h => h) (Or.inl ⟨by kernel_rfl, ?_⟩) hS ?_
        rotate_left
        · (intro wS hSw; (try dsimp only at hSw); have kr0 := (Mem.row hSw .here).cell; have kr1 := (Mem.row hSw (.there .here)).cell; have kr2 := (Mem.row hSw (.there (.there (.there (.there (.there .here)))))).cell; have kr3 := (Mem.row hSw (.there (.there (.there (.there (.there (.there .here))))))).cell; have hc0 := (hSw.ow (.there (.there (.there .here)))).cell (show rs.length < rs.length + 1 by omega) (j := 0) (by decide); have hc1 := (hSw.ow (.there (.there (.there .here)))).cell (show rs.length < rs.length + 1 by omega) (j := 1) (by decide); rw [HGL.out] at hc0 hc1; replace hc0 : wS.cell? ⟨g1, rs.length * 2, none⟩ = some (.string (bsA q)) := hc0; replace hc1 : wS.cell? ⟨g1, rs.length * 2 + 1, none⟩ = some (.string (bsA r)) := hc1; go_simp; (try rw [if_neg (by omega)]); try with_reducible rfl)
        simp only [Act.put, List.setIfInBounds_toArray, List.set_cons_zero, List.set_cons_succ]
        refine AtT.taked (i := 25) (v := ?_) (some 147) rfl rfl (by kernel_rfl) (by kernel_rfl) (by kernel_rfl) (by kernel_rfl) (fun _ _ _ h => h) (Or.inl ⟨by kernel_rfl, ?_⟩) hS ?_
        rotate_left
        · (intro wS hSw; (try dsimp only at hSw); have kr0 := (Mem.row hSw .here).cell; have kr1 := (Mem.row hSw (.there .here)).cell; have kr2 := (Mem.row hSw (.there (.there (.there (.there (.there .here)))))).cell; have kr3 := (Mem.row hSw (.there (.there (.there (.there (.there (.there .here))))))).cell; have hc0 := (hSw.ow (.there (.there (.there .here)))).cell (show rs.length < rs.length + 1 by omega) (j := 0) (by decide); have hc1 := (hSw.ow (.there (.there (.there .here)))).cell (show rs.length < rs.length + 1 by omega) (j := 1) (by decide); rw [HGL.out] at hc0 hc1; replace hc0 : wS.cell? ⟨g1, rs.length * 2, none⟩ = some (.string (bsA q)) := hc0; replace hc1 : wS.cell? ⟨g1, rs.length * 2 + 1, none⟩ = some (.string (bsA r)) := hc1; go_simp; (try rw [if_neg (by omega)]); try with_reducible rfl)
        simp only [Act.put, List.setIfInBounds_toArray, List.set_cons_zero, List.set_cons_succ]
        refine AtT.taked (i := 26) (v := ?_) (some 148) rfl rfl (by kernel_rfl) (by kernel_rfl) (by kernel_rfl) (by kernel_rfl) (fun _ _ _ h => h) (Or.inl ⟨by kernel_rfl, ?_⟩) hS ?_
        rotate_left
        · (intro wS hSw; (try dsimp only at hSw); go_simp; (try rw [if_neg (by omega)]); try with_reducible rfl)
        simp only [Act.put, List.setIfInBounds_toArray, List.set_cons_zero, List.set_cons_succ]
        refine AtT.taked (i := 27) (v := ?_) (some 149) rfl rfl (by kernel_rfl) (by kernel_rfl) (by kernel_rfl) (by kernel_rfl) (fun _ _ _ h => h) (Or.inl ⟨by kernel_rfl, ?_⟩) hS ?_
        rotate_left
        · (intro wS hSw; (try dsimp only at hSw); go_simp; (try rw [if_neg (by omega)]); try with_reducible rfl)
        simp only [Act.put, List.setIfInBounds_toArray, List.set_cons_zero, List.set_cons_succ]
        refine AtT.taked (i := 28) (v := ?_) (some 150) rfl rfl (by kernel_rfl) (by kernel_rfl) (by kernel_rfl) (by kernel_rfl) (fun _ _ _ h => h) (Or.inl ⟨by kernel_rfl, ?_⟩) hS ?_
        rotate_left
        · (intro wS hSw; (try dsimp only at hSw); go_simp; (try rw [if_neg (by omega)]); try with_reducible rfl)
        simp only [Act.put, List.setIfInBounds_toArray, List.set_cons_zero, List.set_cons_succ]
        refine AtT.taked (i := 29) (v := ?_) (some 151) rfl rfl (by kernel_rfl) (by kernel_rfl) (by kernel_rfl) (by kernel_rfl) (fun _ _ _ h => h) (Or.inl ⟨by kernel_rfl, ?_⟩) hS ?_
        rotate_left
        · (intro wS hSw; (try dsimp only at hSw); have kr0 := (Mem.row hSw .here).cell; have kr1 := (Mem.row hSw (.there .here)).cell; have kr2 := (Mem.row hSw (.there (.there (.there (.there (.there .here)))))).cell; have kr3 := (Mem.row hSw (.there (.there (.there (.there (.there (.there .here))))))).cell; have hc0 := (hSw.ow (.there (.there (.there .here)))).cell (show rs.length < rs.length + 1 by omega) (j := 0) (by decide); have hc1 := (hSw.ow (.there (.there (.there .here)))).cell (show rs.length < rs.length + 1 by omega) (j := 1) (by decide); rw [HGL.out] at hc0 hc1; replace hc0 : wS.cell? ⟨g1, rs.length * 2, none⟩ = some (.string (bsA q)) := hc0; replace hc1 : wS.cell? ⟨g1, rs.length * 2 + 1, none⟩ = some (.string (bsA r)) := hc1; go_simp; (try rw [if_neg (by omega)]); try with_reducible rfl)
        simp only [Act.put, List.setIfInBounds_toArray, List.set_cons_zero, List.set_cons_succ]
        refine AtT.only (i := 30) (by kernel_rfl) rfl rfl ?_
        intro K hK
        go_simp
        refine (implValid_b HOK.out (HT.out.ext hM.below) (by omega)).mono ?_
        rintro e w5 ⟨rfl, hb⟩
        replace hM := hM.ext hb
        clear hb
        try dsimp only
        refine hK.out _ _ (hM) ?_
        clear hK K hS
        have hS := hM
        refine AtT.taked (i := 31) (v := ?_) (some 153) rfl rfl (by kernel_rfl) (by kernel_rfl) (by kernel_rfl) (by kernel_rfl) (fun _ _ _ h => h) (Or.inl ⟨by kernel_rfl, ?_⟩) hS ?_
        rotate_left
        · (intro wS hSw; (try dsimp only at hSw); go_simp; (try rw [if_neg (by omega)]); try with_reducible rfl)
        simp only [Act.put, List.setIfInBounds_toArray, List.set_cons_zero, List.set_cons_succ]
        refine AtT.last (by kernel_rfl) rfl (by kernel_rfl) ?_
        intro K hK
        clear hS
        go_simp
        refine hK.out _ _ ?_
        clear hK K
        go_wp2
        go_ret
        exact ⟨rfl, (by apply Mem.below; (repeat' (first | with_reducible exact hM | with_reducible exact hMp | with_reducible apply Mem.drew | with_reducible apply Mem.drewN | with_reducible apply Mem.alloc | with_reducible apply Mem.set | with_reducible exact Sto.row | ((with_reducible refine Sto.rowEq2 ?_ ?_); omega; rfl) | ((with_reducible refine Sto.rowEq ?_); omega) | with_reducible apply Sto.int | with_reducible apply Sto.there | with_reducible assumption | (unfold I64; omega) | (with_reducible (have hMx := Mem.undrew hM; exact hMx)) | (with_reducible (have hMx := Mem.undrew hMp; exact hMx)))))⟩
end Go.Proofs.YtkpicemjiokdpaaDoor

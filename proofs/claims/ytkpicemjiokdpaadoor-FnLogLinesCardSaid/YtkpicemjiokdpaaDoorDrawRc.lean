/-
  The reference's draw of bytes of a log.
-/
import Derived.Test.YtkpicemjiokdpaaDoorDrawCr
import Derived.Deep.CutBlock
namespace Go.Proofs.YtkpicemjiokdpaaDoor
set_option linter.unusedSimpArgs false
set_option linter.unusedVariables false
open Go.RowKit

set_option maxRecDepth 100000 in
set_option maxHeartbeats 4000000 in
theorem l27LineS_any (k : Nat) (c r : Bs) (w : World) (hk : k ≤ 59) (lc : c.length ≤ 200) (lr : r.length ≤ 200) :
    Calls Tryd.prog 50 #[.int .i64 k, .agg #[.string (bsA c), .string (bsA r)]] w fun e w' => e = .returned (.string (bsA (lineB k ⟨c, r⟩))) ∧ Below w.heap.size w w' := by
  have hM := Mem.start w
  have S1 := bsA_size
  have S2 := bsA_app
  have C1 := c32
  have C2 := c64
  have C3 := c10
  have ld := digits_len (n := k) (by omega)
  have lp : (payB k ⟨c, r⟩).length ≤ 422 := by simp [payB]; omega
  have ls0 := digits_len (n := sumB (payB k ⟨c, r⟩)) (by have := sumB_lt (payB k ⟨c, r⟩); omega)
  have ll : (sealB (payB k ⟨c, r⟩)).length ≤ 443 := by simp [sealB]; omega
  have HL := Lib.hid (fun w => l1Num_any k w (by omega))
  have HP : payB k ⟨c, r⟩ = Lib.decDigits k ++ 32 :: (c ++ 64 :: r) := rfl
  have HLi := Lib.hid (show lineB k ⟨c, r⟩ = sealB (payB k ⟨c, r⟩) ++ [10] from rfl)
  have HS := Lib.hid (fun w => l1Seal_any (payB k ⟨c, r⟩) w (by omega))
  have ls := ll
  rw [HP] at HS HLi ls
  clear lp ll HP ls0
  generalize Lib.decDigits k = d at ld HL HS HLi ls
  generalize sealB (d ++ 32 :: (c ++ 64 :: r)) = q at HS HLi ls
  go_enter Tryd.func50, Tryd.ntmps50
  go_upto_region 1 with fail
  apply Mem.atWpA
  · (repeat' (first | with_reducible exact hM | with_reducible exact hMp | with_reducible apply Mem.drew | with_reducible apply Mem.drewN | with_reducible apply Mem.alloc | with_reducible apply Mem.set | with_reducible exact Sto.row | ((with_reducible refine Sto.rowEq2 ?_ ?_); omega; rfl) | ((with_reducible refine Sto.rowEq ?_); omega) | with_reducible apply Sto.int | with_reducible apply Sto.there | with_reducible assumption | (unfold I64; omega) | (with_reducible (have hMx := Mem.undrew hM; exact hMx)) | (with_reducible (have hMx := Mem.undrew hMp; exact hMx))))
  clear hM
  intro wst hM
  (try simp only [World.size_alloc, World.size_setCell, World.heap_drewN, heapDrew, Nat.add_assoc, Nat.reduceAdd, List.setIfInBounds_toArray, List.set_cons_zero, List.set_cons_succ, List.cons_append, List.nil_append] at hM)
  refine AtT.startA hM hM 12 (by kernel_rfl) ?_
  clear hM
  intro wd hM
  have hS := hM
  refine AtT.taked (i := 0) (v := ?_) (some 5) rfl rfl (by kernel_rfl) (by kernel_rfl) (by kernel_rfl) (by kernel_rfl) (fun _ _ _ h => h) (Or.inl ⟨by kernel_rfl, ?_⟩) hS ?_
  rotate_left
  · (intro wS hSw; (try dsimp only at hSw); go_simp; (try rw [if_neg (by omega)]); try with_reducible rfl)
  simp only [Act.put, List.setIfInBounds_toArray, List.set_cons_zero, List.set_cons_succ]
  refine AtT.taked (i := 3) (v := ?_) (some 8) rfl rfl (by kernel_rfl) (by kernel_rfl) (by kernel_rfl) (by kernel_rfl) (fun _ _ _ h => h) (Or.inl ⟨by kernel_rfl, ?_⟩) hS ?_
  rotate_left
  · (intro wS hSw; (try dsimp only at hSw); go_simp; (try rw [if_neg (by omega)]); try with_reducible rfl)
  simp only [Act.put, List.setIfInBounds_toArray, List.set_cons_zero, List.set_cons_succ]
  refine AtT.taked (i := 4) (v := ?_) (some 9) rfl rfl (by kernel_rfl) (by kernel_rfl) (by kernel_rfl) (by kernel_rfl) (fun _ _ _ h => h) (Or.inl ⟨by kernel_rfl, ?_⟩) hS ?_
  rotate_left
  · (intro wS hSw; (try dsimp only at hSw); have kr0 := (Mem.row hSw .here).cell; go_simp; (try rw [if_neg (by omega)]); try with_reducible rfl)
  simp only [Act.put, List.setIfInBounds_toArray, List.set_cons_zero, List.set_cons_succ]
  refine AtT.taked (i := 7) (v := ?_) (some 12) rfl rfl (by kernel_rfl) (by kernel_rfl) (by kernel_rfl) (by kernel_rfl) (fun _ _ _ h => h) (Or.inl ⟨by kernel_rfl, ?_⟩) hS ?_
  rotate_left
  · (intro wS hSw; (try dsimp only at hSw); go_simp; (try rw [if_neg (by omega)]); try with_reducible rfl)
  simp only [Act.put, List.setIfInBounds_toArray, List.set_cons_zero, List.set_cons_succ]
  refine AtT.taked (i := 8) (v := ?_) (some 13) rfl rfl (by kernel_rfl) (by kernel_rfl) (by kernel_rfl) (by kernel_rfl) (fun _ _ _ h => h) (Or.inl ⟨by kernel_rfl, ?_⟩) hS ?_
  rotate_left
  · (intro wS hSw; (try dsimp only at hSw); have kr0 := (Mem.row hSw .here).cell; go_simp; (try rw [if_neg (by omega)]); try with_reducible rfl)
  simp only [Act.put, List.setIfInBounds_toArray, List.set_cons_zero, List.set_cons_succ]
  refine AtT.only (i := 1) (by kernel_rfl) rfl rfl ?_
  intro K hK
  go_simp
  refine (HL.out _).mono ?_
  rintro e w3 ⟨rfl, hb⟩
  replace hM := hM.ext hb
  clear hb
  try dsimp only
  refine hK.out _ _ (hM) ?_
  clear hK K hS
  have hS := hM
  refine AtT.taked (i := 2) (v := ?_) (some 7) rfl rfl (by kernel_rfl) (by kernel_rfl) (by kernel_rfl) (by kernel_rfl) (fun _ _ _ h => h) (Or.inl ⟨by kernel_rfl, ?_⟩) hS ?_
  rotate_left
  · (intro wS hSw; (try dsimp only at hSw); go_simp; (try rw [if_neg (by omega)]); try with_reducible rfl)
  simp only [Act.put, List.setIfInBounds_toArray, List.set_cons_zero, List.set_cons_succ]
  refine AtT.taked (i := 5) (v := ?_) (some 10) rfl rfl (by kernel_rfl) (by kernel_rfl) (by kernel_rfl) (by kernel_rfl) (fun _ _ _ h => h) (Or.inl ⟨by kernel_rfl, ?_⟩) hS ?_
  rotate_left
  · (intro wS hSw; (try dsimp only at hSw); go_simp; (try rw [if_neg (by omega)]); try with_reducible rfl)
  simp only [Act.put, List.setIfInBounds_toArray, List.set_cons_zero, List.set_cons_succ]
  refine AtT.taked (i := 6) (v := ?_) (some 11) rfl rfl (by kernel_rfl) (by kernel_rfl) (by kernel_rfl) (by kernel_rfl) (fun _ _ _ h => h) (Or.inl ⟨by kernel_rfl, ?_⟩) hS ?_
  rotate_left
  · (intro wS hSw; (try dsimp only at hSw); go_simp; (try rw [if_neg (by omega)]); try with_reducible rfl)
  simp only [Act.put, List.setIfInBounds_toArray, List.set_cons_zero, List.set_cons_succ]
  refine AtT.taked (i := 9) (v := ?_) (some 14) rfl rfl (by kernel_rfl) (by kernel_rfl) (by kernel_rfl) (by kernel_rfl) (fun _ _ _ h => h) (Or.inl ⟨by kernel_rfl, ?_⟩) hS ?_
  rotate_left
  · (intro wS hSw; (try dsimp only at hSw); go_simp; (try rw [if_neg (by omega)]); try with_reducible rfl)
  simp only [Act.put, List.setIfInBounds_toArray, List.set_cons_zero, List.set_cons_succ]
  refine AtT.only (i := 10) (by kernel_rfl) rfl rfl ?_
  intro K hK
  go_simp
  refine (HS.out _).mono ?_
  rintro e w3 ⟨rfl, hb⟩
  replace hM := hM.ext hb
  clear hb
  try dsimp only
  refine hK.out _ _ (hM) ?_
  clear hK K hS
  have hS := hM
  refine AtT.taked (i := 11) (v := ?_) (some 16) rfl rfl (by kernel_rfl) (by kernel_rfl) (by kernel_rfl) (by kernel_rfl) (fun _ _ _ h => h) (Or.inl ⟨by kernel_rfl, ?_⟩) hS ?_
  rotate_left
  · (intro wS hSw; (try dsimp only at hSw); go_simp; (try rw [if_neg (by omega)]); try with_reducible rfl)
  simp only [Act.put, List.setIfInBounds_toArray, List.set_cons_zero, List.set_cons_succ]
  refine AtT.last (by kernel_rfl) rfl (by kernel_rfl) ?_
  intro K hK
  clear hS
  go_simp
  refine hK.out _ _ ?_
  clear hK K
  go_wp2
  go_ret
  exact ⟨by rw [HLi.out]; rfl, (by apply Mem.below; (repeat' (first | with_reducible exact hM | with_reducible exact hMp | with_reducible apply Mem.drew | with_reducible apply Mem.drewN | with_reducible apply Mem.alloc | with_reducible apply Mem.set | with_reducible exact Sto.row | ((with_reducible refine Sto.rowEq2 ?_ ?_); omega; rfl) | ((with_reducible refine Sto.rowEq ?_); omega) | with_reducible apply Sto.int | with_reducible apply Sto.there | with_reducible assumption | (unfold I64; omega) | (with_reducible (have hMx := Mem.undrew hM; exact hMx)) | (with_reducible (have hMx := Mem.undrew hMp; exact hMx)))))⟩

theorem lineS_len {k : Nat} {c r : Bs} (hk : k ≤ 59) (lc : c.length ≤ 200) (lr : r.length ≤ 200) : (lineB k ⟨c, r⟩).length ≤ 444 := by
  have ld := digits_len (n := k) (by omega)
  have lp : (payB k ⟨c, r⟩).length ≤ 422 := by simp [payB]; omega
  have ls0 := digits_len (n := sumB (payB k ⟨c, r⟩)) (by have := sumB_lt (payB k ⟨c, r⟩); omega)
  simp [lineB, sealB]
  omega

set_option maxRecDepth 100000 in
set_option maxHeartbeats 8000000 in
theorem drawRec_any {ac : Option Addr} {nc cc : Nat} {l : List UInt8} {w : World} (hC : Rd FByt w ac nc cc l) :
    Calls Tryd.prog 41 #[.slice ac nc cc] w fun e w' => ∃ s : Bs, s.length ≤ 60000 ∧ e = .returned (.string (bsA s)) ∧ Below w.heap.size w w' := by
  have hM := Mem.start w
  have HC := Lib.hid hC
  clear hC
  have S1 := bsA_size
  have S2 := bsA_app
  go_enter Tryd.func41, Tryd.ntmps41
  go_wp2_with fail
  apply Mem.atA
  · (repeat' (first | with_reducible exact hM | with_reducible exact hMp | with_reducible apply Mem.drew | with_reducible apply Mem.drewN | with_reducible apply Mem.alloc | with_reducible apply Mem.set | with_reducible exact Sto.row | ((with_reducible refine Sto.rowEq2 ?_ ?_); omega; rfl) | ((with_reducible refine Sto.rowEq ?_); omega) | with_reducible apply Sto.int | with_reducible apply Sto.there | with_reducible assumption | (unfold I64; omega) | (with_reducible (have hMx := Mem.undrew hM; exact hMx)) | (with_reducible (have hMx := Mem.undrew hMp; exact hMx))))
  clear hM
  intro wst hM
  (try simp only [World.size_alloc, World.size_setCell, World.heap_drewN, heapDrew, Nat.add_assoc, Nat.reduceAdd, List.setIfInBounds_toArray, List.set_cons_zero, List.set_cons_succ, List.cons_append, List.nil_append] at hM)
  refine (log_any HC.out hM.curNew .here (by omega)).mono ?_
  rintro e wl ⟨D, P, c, hDP, rfl, hm⟩
  clear hM
  have hM := hm
  clear hm
  try dsimp only at hM
  have c1 : ¬ 9223372036854775807 < D.length + P.length := by omega
  go_wp2_with fail
  apply Mem.atA
  · (repeat' (first | with_reducible exact hM | with_reducible exact hMp | with_reducible apply Mem.drew | with_reducible apply Mem.drewN | with_reducible apply Mem.alloc | with_reducible apply Mem.set | with_reducible exact Sto.row | ((with_reducible refine Sto.rowEq2 ?_ ?_); omega; rfl) | ((with_reducible refine Sto.rowEq ?_); omega) | with_reducible apply Sto.int | with_reducible apply Sto.there | with_reducible assumption | (unfold I64; omega) | (with_reducible (have hMx := Mem.undrew hM; exact hMx)) | (with_reducible (have hMx := Mem.undrew hMp; exact hMx))))
  clear hM
  intro wst hM
  (try simp only [World.size_alloc, World.size_setCell, World.heap_drewN, heapDrew, Nat.add_assoc, Nat.reduceAdd, List.setIfInBounds_toArray, List.set_cons_zero, List.set_cons_succ, List.cons_append, List.nil_append] at hM)
  refine (pick_any 4 HC.out hM (.there .here) (by omega)).mono ?_
  rintro e wc2 ⟨r, hr, hr2, rfl, hm⟩
  clear hM
  have hM := hm
  clear hm
  try dsimp only at hM
  clear hr hr2
  have htl : (D ++ P).length ≤ 24240 := by rw [List.length_append]; exact hDP
  generalize D ++ P = t at htl ⊢
  clear c1
  go_upto_block 0 with fail
  go_cut [5] (fun s5 wx => ∃ s : Bs, s5 = .string (bsA s) ∧ s.length ≤ 50000 ∧ Mem w.heap.size w wx [rowE wl.heap.size 31 #[.string (bsA D), .string (bsA P), .int .i64 c], curE w.heap.size ac nc cc 200])
  case first =>
    by_cases h0 : r = 0
    · subst h0
      go_wp2_with fail
      apply Mem.atA
      · (repeat' (first | with_reducible exact hM | with_reducible exact hMp | with_reducible apply Mem.drew | with_reducible apply Mem.drewN | with_reducible apply Mem.alloc | with_reducible apply Mem.set | with_reducible exact Sto.row | ((with_reducible refine Sto.rowEq2 ?_ ?_); omega; rfl) | ((with_reducible refine Sto.rowEq ?_); omega) | with_reducible apply Sto.int | with_reducible apply Sto.there | with_reducible assumption | (unfold I64; omega) | (with_reducible (have hMx := Mem.undrew hM; exact hMx)) | (with_reducible (have hMx := Mem.undrew hMp; exact hMx))))
      clear hM
      intro wst hM
      (try simp only [World.size_alloc, World.size_setCell, World.heap_drewN, heapDrew, Nat.add_assoc, Nat.reduceAdd, List.setIfInBounds_toArray, List.set_cons_zero, List.set_cons_succ, List.cons_append, List.nil_append] at hM)
      refine (spoilt_any t [35, 64, 10, 48, 49] HC.out hM (.there .here) (by omega) (by omega) (by decide) (by decide)).mono ?_
      rintro e wc3 ⟨s, hs, rfl, hm⟩
      clear hM
      have hM := hm
      clear hm
      try dsimp only at hM
      go_wp2_with fail
      go_meet
      exact ⟨s, rfl, by omega, hM.curMore (.there .here) (by omega)⟩
    by_cases h1 : r = 1
    · subst h1
      have hw : IntKind.i64.wrap ((t.length : Int) + 1) = (t.length : Int) + 1 := by rw [wrap_in (by omega)]
      go_wp2_with fail
      apply Mem.atA
      · (repeat' (first | with_reducible exact hM | with_reducible exact hMp | with_reducible apply Mem.drew | with_reducible apply Mem.drewN | with_reducible apply Mem.alloc | with_reducible apply Mem.set | with_reducible exact Sto.row | ((with_reducible refine Sto.rowEq2 ?_ ?_); omega; rfl) | ((with_reducible refine Sto.rowEq ?_); omega) | with_reducible apply Sto.int | with_reducible apply Sto.there | with_reducible assumption | (unfold I64; omega) | (with_reducible (have hMx := Mem.undrew hM; exact hMx)) | (with_reducible (have hMx := Mem.undrew hMp; exact hMx))))
      clear hM
      intro wst hM
      (try simp only [World.size_alloc, World.size_setCell, World.heap_drewN, heapDrew, Nat.add_assoc, Nat.reduceAdd, List.setIfInBounds_toArray, List.set_cons_zero, List.set_cons_succ, List.cons_append, List.nil_append] at hM)
      refine (pick_any ((t.length : Int) + 1) HC.out hM (.there .here) (by omega)).mono ?_
      rintro e wc4 ⟨j, hj, hj2, rfl, hm⟩
      clear hM
      have hM := hm
      clear hm
      try dsimp only at hM
      have hjl := pick_lt hj (by omega)
      have E1 : (bsA t).extract 0 j = bsA (t.take j) := bsA_to t j
      have hl1 : (t.take j).length ≤ t.length := by rw [List.length_take]; omega
      have j0 : (0 : Int) ≤ (j : Int) ∧ (j : Int) ≤ (t.length : Int) := ⟨by omega, by omega⟩
      generalize t.take j = t1 at E1 hl1
      go_wp2_with fail
      go_meet
      exact ⟨t1, rfl, by omega, hM.curMore (.there .here) (by omega)⟩
    by_cases h2 : r = 2
    · subst h2
      go_wp2_with fail
      apply Mem.atA
      · (repeat' (first | with_reducible exact hM | with_reducible exact hMp | with_reducible apply Mem.drew | with_reducible apply Mem.drewN | with_reducible apply Mem.alloc | with_reducible apply Mem.set | with_reducible exact Sto.row | ((with_reducible refine Sto.rowEq2 ?_ ?_); omega; rfl) | ((with_reducible refine Sto.rowEq ?_); omega) | with_reducible apply Sto.int | with_reducible apply Sto.there | with_reducible assumption | (unfold I64; omega) | (with_reducible (have hMx := Mem.undrew hM; exact hMx)) | (with_reducible (have hMx := Mem.undrew hMp; exact hMx))))
      clear hM
      intro wst hM
      (try simp only [World.size_alloc, World.size_setCell, World.heap_drewN, heapDrew, Nat.add_assoc, Nat.reduceAdd, List.setIfInBounds_toArray, List.set_cons_zero, List.set_cons_succ, List.cons_append, List.nil_append] at hM)
      refine (pick_any 4 HC.out hM (.there .here) (by omega)).mono ?_
      rintro e wc5 ⟨k, hk, hk2, rfl, hm⟩
      clear hM
      have hM := hm
      clear hm
      try dsimp only at hM
      have hk4 := pick_lt hk (by omega)
      go_wp2_with fail
      apply Mem.atA
      · (repeat' (first | with_reducible exact hM | with_reducible exact hMp | with_reducible apply Mem.drew | with_reducible apply Mem.drewN | with_reducible apply Mem.alloc | with_reducible apply Mem.set | with_reducible exact Sto.row | ((with_reducible refine Sto.rowEq2 ?_ ?_); omega; rfl) | ((with_reducible refine Sto.rowEq ?_); omega) | with_reducible apply Sto.int | with_reducible apply Sto.there | with_reducible assumption | (unfold I64; omega) | (with_reducible (have hMx := Mem.undrew hM; exact hMx)) | (with_reducible (have hMx := Mem.undrew hMp; exact hMx))))
      clear hM
      intro wst hM
      (try simp only [World.size_alloc, World.size_setCell, World.heap_drewN, heapDrew, Nat.add_assoc, Nat.reduceAdd, List.setIfInBounds_toArray, List.set_cons_zero, List.set_cons_succ, List.cons_append, List.nil_append] at hM)
      refine (logRecord_any HC.out hM (.there .here) (by omega)).mono ?_
      rintro e wc6 ⟨q, u, hq, hu, rfl, hm⟩
      clear hM
      have hM := hm
      clear hm
      try dsimp only at hM
      have hll := lineS_len (k := k) (c := q) (r := u) (by omega) (by omega) (by omega)
      go_wp2_with fail
      apply Mem.atA
      · (repeat' (first | with_reducible exact hM | with_reducible exact hMp | with_reducible apply Mem.drew | with_reducible apply Mem.drewN | with_reducible apply Mem.alloc | with_reducible apply Mem.set | with_reducible exact Sto.row | ((with_reducible refine Sto.rowEq2 ?_ ?_); omega; rfl) | ((with_reducible refine Sto.rowEq ?_); omega) | with_reducible apply Sto.int | with_reducible apply Sto.there | with_reducible assumption | (unfold I64; omega) | (with_reducible (have hMx := Mem.undrew hM; exact hMx)) | (with_reducible (have hMx := Mem.undrew hMp; exact hMx))))
      clear hM
      intro wst hM
      (try simp only [World.size_alloc, World.size_setCell, World.heap_drewN, heapDrew, Nat.add_assoc, Nat.reduceAdd, List.setIfInBounds_toArray, List.set_cons_zero, List.set_cons_succ, List.cons_append, List.nil_append] at hM)
      refine (l27LineS_any k q u _ (by omega) (by omega) (by omega)).mono ?_
      rintro e wc7 ⟨rfl, hb⟩
      replace hM := hM.ext hb
      clear hb
      generalize lineB k ⟨q, u⟩ = ln at hll ⊢
      have c1 : ¬ 9223372036854775807 < t.length + ln.length := by omega
      go_wp2_with fail
      go_meet
      exact ⟨t ++ ln, rfl, by rw [List.length_append]; omega, hM.curMore (.there .here) (by omega)⟩
    have h0' : ¬ (r : Int) = 0 := by omega
    have h1' : ¬ (r : Int) = 1 := by omega
    have h2' : ¬ (r : Int) = 2 := by omega
    go_wp2_with fail
    go_meet
    exact ⟨t, rfl, by omega, hM.curMore (.there .here) (by omega)⟩
  case rest =>
    clear hM
    obtain ⟨s, rfl, hs, hM⟩ := hcut
    go_wp2_with fail
    apply Mem.atA
    · (repeat' (first | with_reducible exact hM | with_reducible exact hMp | with_reducible apply Mem.drew | with_reducible apply Mem.drewN | with_reducible apply Mem.alloc | with_reducible apply Mem.set | with_reducible exact Sto.row | ((with_reducible refine Sto.rowEq2 ?_ ?_); omega; rfl) | ((with_reducible refine Sto.rowEq ?_); omega) | with_reducible apply Sto.int | with_reducible apply Sto.there | with_reducible assumption | (unfold I64; omega) | (with_reducible (have hMx := Mem.undrew hM; exact hMx)) | (with_reducible (have hMx := Mem.undrew hMp; exact hMx))))
    clear hM
    intro wst hM
    (try simp only [World.size_alloc, World.size_setCell, World.heap_drewN, heapDrew, Nat.add_assoc, Nat.reduceAdd, List.setIfInBounds_toArray, List.set_cons_zero, List.set_cons_succ, List.cons_append, List.nil_append] at hM)
    refine (one_any 40 HC.out hM (.there .here) (by omega)).mono ?_
    rintro e wc8 ⟨b, rfl, hm⟩
    clear hM
    have hM := hm
    clear hm
    try dsimp only at hM
    cases b
    · go_wp2
      go_ret
      exact ⟨s, by omega, rfl, (by apply Mem.below; (repeat' (first | with_reducible exact hM | with_reducible exact hMp | with_reducible apply Mem.drew | with_reducible apply Mem.drewN | with_reducible apply Mem.alloc | with_reducible apply Mem.set | with_reducible exact Sto.row | ((with_reducible refine Sto.rowEq2 ?_ ?_); omega; rfl) | ((with_reducible refine Sto.rowEq ?_); omega) | with_reducible apply Sto.int | with_reducible apply Sto.there | with_reducible assumption | (unfold I64; omega) | (with_reducible (have hMx := Mem.undrew hM; exact hMx)) | (with_reducible (have hMx := Mem.undrew hMp; exact hMx)))))⟩
    go_wp2_with fail
    apply Mem.atA
    · (repeat' (first | with_reducible exact hM | with_reducible exact hMp | with_reducible apply Mem.drew | with_reducible apply Mem.drewN | with_reducible apply Mem.alloc | with_reducible apply Mem.set | with_reducible exact Sto.row | ((with_reducible refine Sto.rowEq2 ?_ ?_); omega; rfl) | ((with_reducible refine Sto.rowEq ?_); omega) | with_reducible apply Sto.int | with_reducible apply Sto.there | with_reducible assumption | (unfold I64; omega) | (with_reducible (have hMx := Mem.undrew hM; exact hMx)) | (with_reducible (have hMx := Mem.undrew hMp; exact hMx))))
    clear hM
    intro wst hM
    (try simp only [World.size_alloc, World.size_setCell, World.heap_drewN, heapDrew, Nat.add_assoc, Nat.reduceAdd, List.setIfInBounds_toArray, List.set_cons_zero, List.set_cons_succ, List.cons_append, List.nil_append] at hM)
    refine (pick_any 2 HC.out hM (.there .here) (by omega)).mono ?_
    rintro e wc9 ⟨j, hj, hj2, rfl, hm⟩
    clear hM
    have hM := hm
    clear hm
    try dsimp only at hM
    have hj3 := pick_lt hj (by omega)
    clear hj hj2
    obtain ⟨N, hN⟩ : ∃ N : Nat, N = 30000 + j := ⟨_, rfl⟩
    have hN1 : N ≤ 30001 := by omega
    have hNj : (30000 : Int) + (j : Int) = (N : Int) := by omega
    obtain ⟨i0, hi, hz0, hz1, hz2⟩ := info_parts Tryd.info5
    have HNJ := Lib.hid hNj
    clear hN
    go_wp2_with (at_make; apply Mem.atL; (focus ((repeat' (first | with_reducible exact hM | with_reducible exact hMp | with_reducible apply Mem.drew | with_reducible apply Mem.drewN | with_reducible apply Mem.alloc | with_reducible apply Mem.set | with_reducible exact Sto.row | ((with_reducible refine Sto.rowEq2 ?_ ?_); omega; rfl) | ((with_reducible refine Sto.rowEq ?_); omega) | with_reducible apply Sto.int | with_reducible apply Sto.there | with_reducible assumption | (unfold I64; omega) | (with_reducible (have hMx := Mem.undrew hM; exact hMx)) | (with_reducible (have hMx := Mem.undrew hMp; exact hMx)))); done)); clear hM; intro hM; refine wpList_make_full _ rfl _ _ 53 rfl wc9.heap.size 5 i0 (.int .u8 0) 1 Tryd.underlying53 hi hz0 hz1 .i64 .i64 N N N rfl rfl rfl rfl ?b1 ?b2 ?b3 ?_)
    case b1 => rw [hz2]; omega
    case b2 => unfold maxLen; omega
    case b3 => exact Nat.le_refl _
    intro w4 hown hg
    have hown2 : w4.ownsRow wc9.heap.size 5 FByt.sz (.slice (some ⟨wc9.heap.size, 0, none⟩) N N) N (madeCells #[.int .u8 0] (N * FByt.sz)).toList := by
      rw [show N * FByt.sz = N from Nat.mul_one N]
      exact hown
    have hO : Ow FByt 5 wc9.heap.size w4 (some ⟨wc9.heap.size, 0, none⟩) N N (List.replicate N (0 : UInt8)) := ow_made (zs := #[.int .u8 0]) rfl hown2 (by show N * 1 ≤ _; omega) trivial
    clear hown2
    have hlz : (List.replicate N (0 : UInt8)).length = N := List.length_replicate
    have hcz : ∀ j (hj : j < (List.replicate N (0 : UInt8)).length), w4.cell? ⟨wc9.heap.size, j, none⟩ = some (.int .u8 ((List.replicate N (0 : UInt8))[j].toNat : Int)) := by
      intro j hj
      have hjN : j < N := by rw [← hlz]; exact hj
      have h1 := hO.cell (i := j) hjN (j := 0) (by decide)
      have h2 : (List.replicate N (0 : UInt8)).getD j FByt.z = (List.replicate N (0 : UInt8))[j] := by simp [List.getD, hjN]
      rw [h2] at h1
      simpa [FByt] using h1
    replace hM := hM.owned ((Below.refl _ _).grown hg (Nat.le_refl _) (by intro k hk; cases hk)) hO
    clear hown hg hO hi hz0 hz1 hz2 i0
    generalize List.replicate N (0 : UInt8) = zs at hlz hcz hM
    subst hlz
    have HCZ := Lib.hid hcz
    clear hcz
    go_wp2_with (refine wpList_toStringC (l := zs) HCZ.out rfl 53 9 5 (.tmp 46) rfl rfl Tryd.underlying53 Tryd.underlying5 Tryd.underlying9 ?_)
    clear HCZ
    go_wp2
    go_ret
    exact ⟨zs, by omega, rfl, (by apply Mem.below; (repeat' (first | with_reducible exact hM | with_reducible exact hMp | with_reducible apply Mem.drew | with_reducible apply Mem.drewN | with_reducible apply Mem.alloc | with_reducible apply Mem.set | with_reducible exact Sto.row | ((with_reducible refine Sto.rowEq2 ?_ ?_); omega; rfl) | ((with_reducible refine Sto.rowEq ?_); omega) | with_reducible apply Sto.int | with_reducible apply Sto.there | with_reducible assumption | (unfold I64; omega) | (with_reducible (have hMx := Mem.undrew hM; exact hMx)) | (with_reducible (have hMx := Mem.undrew hMp; exact hMx)))))⟩
end Go.Proofs.YtkpicemjiokdpaaDoor

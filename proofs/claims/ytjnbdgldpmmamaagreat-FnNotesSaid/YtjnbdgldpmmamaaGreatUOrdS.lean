/-
  The order of a complete notebook: the reference's.
-/
import Derived.Test.YtjnbdgldpmmamaaGreatUOrdI
import Derived.Test.YtjnbdgldpmmamaaGreatUMisS
import Derived.Deep.CutBlock
import Derived.Deep.LoopGhost
/-
  The order of a complete notebook: the reference's.
-/
namespace Go.Proofs.YtjnbdgldpmmamaaGreat
set_option linter.unusedSimpArgs false
set_option linter.unusedVariables false
open Go.RowKit

set_option maxRecDepth 100000 in
set_option maxHeartbeats 4000000 in
theorem l17Sum_any (x : NoteI) (w : World) (h : Ints w x.ad x.n x.c x.cl) (hn25 : x.n ≤ 25) (hx : ∀ z ∈ x.cl, 0 ≤ z ∧ z ≤ 12) :
    Calls Tryz.prog 31 #[x.val] w fun e w' => e = .returned (.int .i64 (sumTo x.cl x.n)) ∧ Below w.heap.size w w' := by
  have hM := Mem.start w
  obtain ⟨xu, xq, a, n, c, xs, xw⟩ := x
  dsimp only at h hn25 hx ⊢
  have hc := h.room
  have HH := Lib.hid h
  have HL := Lib.hid h.len
  have HX := Lib.hid hx
  have HB := Lib.hid (sumTo_b hx)
  clear hx h
  go_enter Tryz.func31, Tryz.ntmps31
  go_upto_region 1 with fail
  apply Mem.atWpA
  · exact memA
  clear hM
  intro wst hM
  (try simp only [World.size_alloc, World.size_setCell, World.heap_drewN, heapDrew, Nat.add_assoc, Nat.reduceAdd, sA, List.cons_append, List.nil_append] at hM)
  go_wp2_with fail
  go_loopw [3, 4] (fun t i wr => ∃ k : Nat, k ≤ n ∧ i = .int .i64 k ∧ t = .int .i64 (sumTo xs k) ∧ Mem w.heap.size w wr [rowE w.heap.size 40 #[.int .i64 xu, .int .i64 xq, .slice a n c, .string (bsA xw)]]) (fun _ i _ => n - (intOf i).toNat)
  case atStart => exact ⟨0, Nat.zero_le _, rfl, rfl, hM⟩
  case round =>
    clear hM
    obtain ⟨k, hk, rfl, rfl, hM⟩ := hrel
    have hb2 := HB.out k
    have hss : sumTo xs (k + 1) = sumTo xs k + xs.getD k 0 := rfl
    obtain ⟨t, ht⟩ : ∃ t, sumTo xs k = t := ⟨_, rfl⟩
    rw [ht] at hb2 hss ⊢
    have HT := Lib.hid ht; clear ht
    obtain ⟨t0, t1⟩ := hb2
    obtain ⟨k0, f0, l0⟩ := hM.row .here
    by_cases hlt : k < n
    · obtain ⟨b, off, rfl, hb, hcell⟩ := (HH.out.ext hM.below).at' _ hlt
      have hck := hcell k hlt
      clear hcell
      have hv := HX.out _ (getD_mem (xs := xs) (k := k) (by rw [HL.out]; exact hlt))
      obtain ⟨v, hv'⟩ : ∃ v, xs.getD k 0 = v := ⟨_, rfl⟩
      rw [hv'] at hck hv hss
      have HS2 := Lib.hid hss
      clear hv' hss
      obtain ⟨v0, v1⟩ := hv
      have hw : IntKind.i64.wrap (t + v) = t + v := wrap_in (by omega)
      have i0 : (0 : Int) ≤ (k : Int) := by omega
      have i1 : (k : Int) < (n : Int) := by omega
      go_wp2
      go_roundw
      case rel => exact ⟨k + 1, by omega, by go_num, by rw [HS2.out], hM⟩
      case measure => simp [intOf]; omega
    · obtain rfl : k = n := by omega
      go_wp2
      go_ret
      exact ⟨ri HT.out.symm, (by apply Mem.below; (exact memA))⟩
set_option maxRecDepth 100000 in
set_option maxHeartbeats 8000000 in
theorem specOrder_any (u : Int) (a : Option Addr) (n c : Nat) (xs : List NoteI) (w : World) (hu : I64 u) (h : RdN w a n c xs) :
    Calls Tryz.prog 7 #[.int .i64 u, .slice a n c] w fun e w' => ∃ a' c', e = .returned (.tuple #[.slice a' (ordR u (coreN xs)).length c', .bool (bookB u (coreN xs) && compB (coreN xs))]) ∧ Mem w.heap.size w w' [intE a' (ordR u (coreN xs)).length c' (ordR u (coreN xs))] := by
  have hM := Mem.start w
  have HU := Lib.hid hu
  have HH := Lib.hid h
  have hn := h.rd.cap
  have hc := h.rd.nroom
  clear hu
  cases hb : bookB u (coreN xs)
  · have hr : ordR u (coreN xs) = [] := by rw [ordR, hb]; rfl
    rw [hr]
    have HB := Lib.hid hb; clear hb hr
    go_enter Tryz.func7, Tryz.ntmps7
    go_wp2_with fail
    apply Mem.atA
    · exact memA
    clear hM
    intro wst hM
    (try simp only [World.size_alloc, World.size_setCell, World.heap_drewN, heapDrew, Nat.add_assoc, Nat.reduceAdd, sA, List.cons_append, List.nil_append] at hM)
    (first | refine (l17Good_any u a n c xs _ HU.out (HH.out.ext hM.below)).mono ?_)
    rw [HB.out]
    rintro e wc1 ⟨rfl, hb⟩
    replace hM := hM.ext hb
    clear hb
    go_wp2
    go_ret2
    exact ⟨_, _, rfl, Mem.toInts0' hM⟩
  have HC := Lib.hid (fun (w' : World) (hb' : Below w.heap.size w w') => l17Complete_any u a n c xs w' hb (HH.out.ext hb'))
  have HSU := Lib.hid (fun (i : Nat) (hi : i < n) => book_sum hb h hi)
  have hn12 : n ≤ 12 := by have := book_len hb; rw [coreN_len, h.rd.len] at this; exact this
  have hNL : (coreN xs).length = n := by rw [coreN_len, h.rd.len]
  have hr : ordR u (coreN xs) = if compB (coreN xs) then ordL (coreN xs) else [] := by rw [ordR, hb, Bool.true_and]
  rw [hr]
  have HB := Lib.hid hb
  clear hb h hr
  cases hq : compB (coreN xs)
  · rw [hq] at HC
    simp only [Bool.false_eq_true, if_false]
    clear hq
    go_enter Tryz.func7, Tryz.ntmps7
    go_wp2_with fail
    apply Mem.atA
    · exact memA
    clear hM
    intro wst hM
    (try simp only [World.size_alloc, World.size_setCell, World.heap_drewN, heapDrew, Nat.add_assoc, Nat.reduceAdd, sA, List.cons_append, List.nil_append] at hM)
    (first | refine (l17Good_any u a n c xs _ HU.out (HH.out.ext hM.below)).mono ?_)
    rw [HB.out]
    rintro e wc2 ⟨rfl, hb⟩
    replace hM := hM.ext hb
    clear hb
    go_wp2_with fail
    apply Mem.atA
    · exact memA
    clear hM
    intro wst hM
    (try simp only [World.size_alloc, World.size_setCell, World.heap_drewN, heapDrew, Nat.add_assoc, Nat.reduceAdd, sA, List.cons_append, List.nil_append] at hM)
    (first | refine (HC.out _ hM.below).mono ?_)
    rintro e wc3 ⟨rfl, hb⟩
    replace hM := hM.ext hb
    clear hb
    go_wp2
    go_ret2
    exact ⟨_, _, rfl, Mem.toInts0' hM⟩
  rw [hq] at HC
  simp only [if_true]
  have hle : (ordL (coreN xs)).length = n := by rw [ordL_len, hNL]
  rw [hle]
  have HOE := Lib.hid (show ordL (coreN xs) = outS (ltSum (coreN xs)) n by rw [ordL_outS, hNL])
  have HLT := Lib.hid (fun (i y : Nat) (hi : i < n) (hy : y < n) => (by
    rw [ltSum, Int.toNat_natCast, Int.toNat_natCast, (HSU.out i hi).2.2, (HSU.out y hy).2.2] : ltSum (coreN xs) (i : Int) (y : Int) = decide (sumTo (xs.getD i NoteI.zero).cl (xs.getD i NoteI.zero).n < sumTo (xs.getD y NoteI.zero).cl (xs.getD y NoteI.zero).n)))
  clear hq hle hNL
  obtain ⟨lt, hlt⟩ : ∃ lt, ltSum (coreN xs) = lt := ⟨_, rfl⟩
  rw [hlt] at HOE HLT
  clear hlt
  obtain ⟨i0, hi, hz0, hz1, hz2⟩ := info_parts Tryz.info3
  go_enter Tryz.func7, Tryz.ntmps7
  go_wp2_with fail
  apply Mem.atA
  · exact memA
  clear hM
  intro wst hM
  (try simp only [World.size_alloc, World.size_setCell, World.heap_drewN, heapDrew, Nat.add_assoc, Nat.reduceAdd, sA, List.cons_append, List.nil_append] at hM)
  (first | refine (l17Good_any u a n c xs _ HU.out (HH.out.ext hM.below)).mono ?_)
  rw [HB.out]
  rintro e wc4 ⟨rfl, hb⟩
  replace hM := hM.ext hb
  clear hb
  go_wp2_with fail
  apply Mem.atA
  · exact memA
  clear hM
  intro wst hM
  (try simp only [World.size_alloc, World.size_setCell, World.heap_drewN, heapDrew, Nat.add_assoc, Nat.reduceAdd, sA, List.cons_append, List.nil_append] at hM)
  (first | refine (HC.out _ hM.below).mono ?_)
  rintro e wc5 ⟨rfl, hb⟩
  replace hM := hM.ext hb
  clear hb
  replace hM := Mem.toInts0' hM
  go_wp2_with fail
  go_loopg [6, 7] n (fun gh s3 s4 wr => ∃ (i g c' : Nat), i ≤ n ∧ gh = n - i ∧ s4 = .int .i64 i ∧ s3 = .slice (some ⟨g, 0, none⟩) i c' ∧ Mem w.heap.size w wr [intE (some ⟨g, 0, none⟩) i c' (outS lt i)])
  case atStart => exact ⟨0, _, _, Nat.zero_le _, rfl, rfl, rfl, hM⟩
  case round =>
    clear hM
    obtain ⟨i, g, c', hin, rfl, rfl, rfl, hM⟩ := hrel
    obtain ⟨os, hos⟩ : ∃ os, outS lt i = os := ⟨_, rfl⟩
    have hol : os.length = i := by rw [← hos]; exact outS_length _ _
    have hom : ∀ x ∈ os, 0 ≤ x ∧ x < i := by rw [← hos]; exact outS_mem _ _
    have hnx : outS lt (i + 1) = os.take (scanK lt i os i) ++ (i : Int) :: os.drop (scanK lt i os i) := by rw [outS, hos]
    rw [hos] at hM
    have HOS := Lib.hid hos; clear hos
    have HOL := Lib.hid hol; clear hol
    have HOM := Lib.hid hom; clear hom
    have HNX := Lib.hid hnx; clear hnx
    by_cases hlt : i < n
    · obtain ⟨bb, off, rfl, _⟩ := HH.out.rd.at' _ hlt
      have hbl : bb < w.heap.size := (HH.out.rd.cellNote hlt).1
      obtain ⟨x25, xw9, -⟩ := HSU.out i hlt
      have hxi := HH.out.get hlt
      have hltx := fun (y : Nat) (hy : y < n) => HLT.out i y hlt hy
      have hcx := fun (w1 : World) (hb : Below w.heap.size w w1) => ((HH.out.rd.ext hb).cellNote hlt).2
      obtain ⟨x, hx⟩ : ∃ x, xs.getD i NoteI.zero = x := ⟨_, rfl⟩
      simp only [hx] at x25 xw9 hxi hltx hcx
      clear hx
      obtain ⟨sx, hsx⟩ : ∃ s, sumTo x.cl x.n = s := ⟨_, rfl⟩
      simp only [hsx] at hltx
      obtain ⟨xu, xq, xa, xn, xc, xl, xw⟩ := x
      dsimp only at x25 xw9 hxi hcx hsx
      have HSX := Lib.hid hsx; have HXW := Lib.hid xw9; have HXI := Lib.hid hxi; have HLX := Lib.hid hltx; have HCX := Lib.hid hcx
      clear hsx xw9 hxi hltx hcx
      have hi15 : i ≤ 15 := by omega
      go_upto_block 2 with fail
      go_cut [8] (fun s5 wx => s5 = .int .i64 ((scanK lt i os i : Nat) : Int) ∧ Mem w.heap.size w wx [intE (some ⟨g, 0, none⟩) i c' os])
      case first =>
        go_wp2_with fail
        go_loopg [8] i (fun gh s5 wq => ∃ k : Nat, k ≤ i ∧ k = gh ∧ s5 = .int .i64 k ∧ scanK lt i os i = scanK lt i os k ∧ Mem w.heap.size w wq [intE (some ⟨g, 0, none⟩) i c' os])
        case atStart => exact ⟨i, Nat.le_refl _, rfl, rfl, rfl, hM⟩
        case round =>
          clear hM
          obtain ⟨k, hk, rfl, rfl, hsk, hM⟩ := hrel
          have HSK := Lib.hid hsk; clear hsk
          by_cases hk0 : k = 0
          · have kz : decide (0 < k) = false := decide_eq_false (by omega)
            have HK := Lib.hid hk0; clear hk0
            go_wp2_with fail
            apply Mem.atWp
            · exact memA
            clear hM
            intro hM
            refine AtT.startA hM hM 18 (by kernel_rfl) ?_
            clear hM
            intro wd hM
            have hS := hM
            refine AtT.tk 0 ?_ 28 ?_ hS ?_
            rotate_left
            · (intro wS hSw; (try dsimp only at hSw); go_simp; (try rw [if_neg (by omega)]); try with_reducible rfl)
            simp only [Act.put, sA]
            refine AtT.tk 1 ?_ 29 ?_ hS ?_
            rotate_left
            · (intro wS hSw; (try dsimp only at hSw); go_simp; (try rw [if_neg (by omega)]); try with_reducible rfl)
            simp only [Act.put, sA]
            refine AtT.tk 2 ?_ 30 ?_ hS ?_
            rotate_left
            · (intro wS hSw; (try dsimp only at hSw); go_simp; (try rw [if_neg (by omega)]); try with_reducible rfl)
            simp only [Act.put, sA]
            refine AtT.tn 3 31 hS ?_
            simp only [Act.put, sA]
            refine AtT.tn 4 32 hS ?_
            simp only [Act.put, sA]
            refine AtT.tn 5 33 hS ?_
            simp only [Act.put, sA]
            refine AtT.tn 6 34 hS ?_
            simp only [Act.put, sA]
            refine AtT.tn 7 35 hS ?_
            simp only [Act.put, sA]
            refine AtT.tn 8 36 hS ?_
            simp only [Act.put, sA]
            refine AtT.tn 9 37 hS ?_
            simp only [Act.put, sA]
            refine AtT.tn 10 38 hS ?_
            simp only [Act.put, sA]
            refine AtT.tn 11 39 hS ?_
            simp only [Act.put, sA]
            refine AtT.tn 12 40 hS ?_
            simp only [Act.put, sA]
            refine AtT.tn 13 41 hS ?_
            simp only [Act.put, sA]
            refine AtT.tn 14 42 hS ?_
            simp only [Act.put, sA]
            refine AtT.tn 15 43 hS ?_
            simp only [Act.put, sA]
            refine AtT.tn 16 44 hS ?_
            simp only [Act.put, sA]
            refine AtT.tn 17 45 hS ?_
            simp only [Act.put, sA]
            refine AtT.last (by kernel_rfl) rfl (by kernel_rfl) ?_
            intro K hK
            clear hS
            go_simp
            refine hK.out _ _ ?_
            clear hK K
            go_wp2
            go_meet
            exact ⟨by rw [HSK.out, HK.out]; rfl, hM⟩
          · obtain ⟨j, hj⟩ : ∃ j, k = j + 1 := ⟨k - 1, by omega⟩
            have hmem := HOM.out _ (getD_mem (xs := os) (k := j) (by rw [HOL.out]; omega))
            have hst : scanK lt i os k = if lt i (os.getD j 0) then scanK lt i os j else k := by subst hj; rfl
            have hcj := fun (w1 : World) (h1 : Mem w.heap.size w w1 [intE (some ⟨g, 0, none⟩) i c' os]) => (h1.ints .here).cellAt (k := j) (by omega)
            obtain ⟨y, hy⟩ : ∃ y, os.getD j 0 = y := ⟨_, rfl⟩
            rw [hy] at hmem hst
            simp only [hy] at hcj
            obtain ⟨yn, rfl⟩ : ∃ yn : Nat, y = yn := ⟨y.toNat, by omega⟩
            have hyn : yn < n := by omega
            obtain ⟨y25, yw9, -⟩ := HSU.out yn hyn
            have hyi := HH.out.get hyn
            have hly := HLX.out yn hyn
            have hcy := fun (w1 : World) (hb : Below w.heap.size w w1) => ((HH.out.rd.ext hb).cellNote hyn).2
            obtain ⟨yv, hyv⟩ : ∃ x, xs.getD yn NoteI.zero = x := ⟨_, rfl⟩
            simp only [hyv] at y25 yw9 hyi hly hcy
            clear hyv
            obtain ⟨sy, hsy⟩ : ∃ s, sumTo yv.cl yv.n = s := ⟨_, rfl⟩
            rw [hsy] at hly
            rw [hly] at hst
            obtain ⟨yu, yq, ya, ym, yc, yl, yw⟩ := yv
            dsimp only at y25 yw9 hyi hcy hsy
            have HSY := Lib.hid hsy; have HYW := Lib.hid yw9; have HYI := Lib.hid hyi; have HCY := Lib.hid hcy; have HCJ := Lib.hid hcj
            have HST := Lib.hid hst
            clear hsy yw9 hyi hcy hst hly hcj
            have hjI : IntKind.i64.wrap ((k : Int) - 1) = (j : Int) := by rw [wrap_in (by omega)]; omega
            have a0 : (0 : Int) ≤ (j : Int) := by omega
            have a1 : (j : Int) < (i : Int) := by omega
            have b0 : (0 : Int) ≤ (yn : Int) := by omega
            have b1 : (yn : Int) < (n : Int) := by omega
            have c0 : (0 : Int) ≤ (i : Int) := by omega
            have c1 : (i : Int) < (n : Int) := by omega
            have kp : decide (0 < k) = true := decide_eq_true (by omega)
            have HJ := Lib.hid hj; clear hj hy hmem
            go_wp2_with fail
            apply Mem.atWp
            · exact memA
            clear hM
            intro hM
            refine AtT.startA hM hM 18 (by kernel_rfl) ?_
            clear hM
            intro wd hM
            have hS := hM
            refine AtT.tk 0 ?_ 28 ?_ hS ?_
            rotate_left
            · (intro wS hSw; (try dsimp only at hSw); go_simp; (try rw [if_neg (by omega)]); try with_reducible rfl)
            simp only [Act.put, sA]
            refine AtT.tk 1 ?_ 29 ?_ hS ?_
            rotate_left
            · (intro wS hSw; (try dsimp only at hSw); go_simp; (try rw [if_neg (by omega)]); try with_reducible rfl)
            simp only [Act.put, sA]
            refine AtT.tk 2 ?_ 30 ?_ hS ?_
            rotate_left
            · (intro wS hSw; (try dsimp only at hSw); go_simp; (try rw [if_neg (by omega)]); try with_reducible rfl)
            simp only [Act.put, sA]
            refine AtT.tk 3 ?_ 31 ?_ hS ?_
            rotate_left
            · (intro wS hSw; (try dsimp only at hSw); go_simp; (try rw [if_neg (by omega)]); try with_reducible rfl)
            simp only [Act.put, sA]
            refine AtT.tk 4 ?_ 32 ?_ hS ?_
            rotate_left
            · (intro wS hSw; (try dsimp only at hSw); go_simp; (try rw [if_neg (by omega)]); try with_reducible rfl)
            simp only [Act.put, sA]
            refine AtT.tk 5 ?_ 33 ?_ hS ?_
            rotate_left
            · (intro wS hSw; (try dsimp only at hSw); go_simp; (try rw [if_neg (by omega)]); try with_reducible rfl)
            simp only [Act.put, sA]
            refine AtT.tk 6 ?_ 34 ?_ hS ?_
            rotate_left
            · (intro wS hSw; (try dsimp only at hSw); go_simp; (try rw [if_neg (by omega)]); try with_reducible rfl)
            simp only [Act.put, sA]
            refine AtT.tk 7 ?_ 35 ?_ hS ?_
            rotate_left
            · (intro wS hSw; (try dsimp only at hSw); have q1 := HCJ.out _ hSw; obtain ⟨x0, x1, x2, x3⟩ := HCX.out _ hSw.below; obtain ⟨y0, y1, y2, y3⟩ := HCY.out _ hSw.below; go_simp; (try rw [if_neg (by omega)]); try with_reducible rfl)
            simp only [Act.put, sA]
            refine AtT.tk 8 ?_ 36 ?_ hS ?_
            rotate_left
            · (intro wS hSw; (try dsimp only at hSw); have q1 := HCJ.out _ hSw; obtain ⟨x0, x1, x2, x3⟩ := HCX.out _ hSw.below; obtain ⟨y0, y1, y2, y3⟩ := HCY.out _ hSw.below; go_simp; (try rw [if_neg (by omega)]); try with_reducible rfl)
            simp only [Act.put, sA]
            refine AtT.tk 9 ?_ 37 ?_ hS ?_
            rotate_left
            · (intro wS hSw; (try dsimp only at hSw); have q1 := HCJ.out _ hSw; obtain ⟨x0, x1, x2, x3⟩ := HCX.out _ hSw.below; obtain ⟨y0, y1, y2, y3⟩ := HCY.out _ hSw.below; go_simp; (try rw [if_neg (by omega)]); try with_reducible rfl)
            simp only [Act.put, sA]
            refine AtT.tk 10 ?_ 38 ?_ hS ?_
            rotate_left
            · (intro wS hSw; (try dsimp only at hSw); have q1 := HCJ.out _ hSw; obtain ⟨x0, x1, x2, x3⟩ := HCX.out _ hSw.below; obtain ⟨y0, y1, y2, y3⟩ := HCY.out _ hSw.below; go_simp; (try rw [if_neg (by omega)]); try with_reducible rfl)
            simp only [Act.put, sA]
            refine AtT.tk 12 ?_ 40 ?_ hS ?_
            rotate_left
            · (intro wS hSw; (try dsimp only at hSw); go_simp; (try rw [if_neg (by omega)]); try with_reducible rfl)
            simp only [Act.put, sA]
            refine AtT.tk 13 ?_ 41 ?_ hS ?_
            rotate_left
            · (intro wS hSw; (try dsimp only at hSw); go_simp; (try rw [if_neg (by omega)]); try with_reducible rfl)
            simp only [Act.put, sA]
            refine AtT.tk 14 ?_ 42 ?_ hS ?_
            rotate_left
            · (intro wS hSw; (try dsimp only at hSw); have q1 := HCJ.out _ hSw; obtain ⟨x0, x1, x2, x3⟩ := HCX.out _ hSw.below; obtain ⟨y0, y1, y2, y3⟩ := HCY.out _ hSw.below; go_simp; (try rw [if_neg (by omega)]); try with_reducible rfl)
            simp only [Act.put, sA]
            refine AtT.tk 15 ?_ 43 ?_ hS ?_
            rotate_left
            · (intro wS hSw; (try dsimp only at hSw); have q1 := HCJ.out _ hSw; obtain ⟨x0, x1, x2, x3⟩ := HCX.out _ hSw.below; obtain ⟨y0, y1, y2, y3⟩ := HCY.out _ hSw.below; go_simp; (try rw [if_neg (by omega)]); try with_reducible rfl)
            simp only [Act.put, sA]
            refine AtT.only (i := 11) (by kernel_rfl) rfl rfl ?_
            intro K hK
            go_simp
            refine (l17Sum_any ⟨yu, yq, ya, ym, yc, yl, yw⟩ _ (HYI.out.ext hM.below) y25 HYW.out).mono ?_
            try dsimp only
            rw [HSY.out]
            rintro e w2 ⟨rfl, hb⟩
            replace hM := hM.ext hb
            clear hb
            try dsimp only
            refine hK.out _ _ (hM) ?_
            clear hK K hS
            have hS := hM
            refine AtT.only (i := 16) (by kernel_rfl) rfl rfl ?_
            intro K hK
            go_simp
            refine (l17Sum_any ⟨xu, xq, xa, xn, xc, xl, xw⟩ _ (HXI.out.ext hM.below) x25 HXW.out).mono ?_
            try dsimp only
            rw [HSX.out]
            rintro e w2 ⟨rfl, hb⟩
            replace hM := hM.ext hb
            clear hb
            try dsimp only
            refine hK.out _ _ (hM) ?_
            clear hK K hS
            have hS := hM
            refine AtT.tk 17 ?_ 45 ?_ hS ?_
            rotate_left
            · (intro wS hSw; (try dsimp only at hSw); go_simp; (try rw [if_neg (by omega)]); try with_reducible rfl)
            simp only [Act.put, sA]
            refine AtT.last (by kernel_rfl) rfl (by kernel_rfl) ?_
            intro K hK
            clear hS
            go_simp
            refine hK.out _ _ ?_
            clear hK K
            have hM9 := Lib.hid hM
            by_cases hyx : sx < sy
            have HY : Hid (scanK lt i os k = scanK lt i os j) := Lib.hid (by rw [HST.out, if_pos (by simpa using hyx)])
            go_wp2
            go_roundg j
            case measure => have := HJ.out; omega
            case rel => exact ⟨j, by omega, rfl, rfl, by rw [HSK.out, HY.out], hM9.out⟩
            have HY : Hid (scanK lt i os k = k) := Lib.hid (by rw [HST.out, if_neg (by simpa using hyx)])
            go_wp2
            go_meet
            exact ⟨by rw [HSK.out, HY.out], hM9.out⟩
      case rest =>
        clear hM
        obtain ⟨rfl, hM⟩ := hcut
        have hki := scanK_le (lt) i os i
        obtain ⟨k, hk⟩ : ∃ k, scanK (lt) i os i = k := ⟨_, rfl⟩
        rw [hk] at hki ⊢
        have HK := Lib.hid hk; clear hk
        have HLN : Hid (os.take k ++ [(i : Int)] ++ os.drop k = outS (lt) (i + 1)) := by
          show _ = _
          rw [HNX.out, HK.out]
          simp
        have HWN : Hid (∀ x ∈ outS (lt) (i + 1), I64 x) := fun x hx => by
          have := outS_mem _ _ x hx
          unfold I64; omega
        have HWO : ∀ x ∈ os, I64 x := fun x hx => by
          have := HOM.out x hx
          unfold I64; omega
        have HWT : Hid (∀ x ∈ os.take k, I64 x) := fun x hx => HWO x (List.mem_of_mem_take hx)
        have HWI : Hid (∀ x ∈ os.take k ++ [(i : Int)], I64 x) := fun x hx => by
          rcases List.mem_append.1 hx with hx | hx
          · exact HWT.out x hx
          · obtain rfl : x = i := by simpa using hx
            unfold I64; omega
        clear HWO
        have hol := HOL.out
        have hoc := (hM.ints .here).ints.cap
        have hom := (hM.ints .here).ints.capm
        unfold maxLen at hom
        have k0 : (0 : Int) ≤ (k : Int) := by omega
        have k1 : (k : Int) ≤ (i : Int) := by omega
        have k2 : (k : Int) ≤ (c' : Int) := by omega
        have HLO := Lib.hid hol; clear hol
        by_cases hcap : k = c'
        · obtain rfl : i = c' := by omega
          obtain rfl : i = k := by omega
          clear hcap
          go_wp2_with fail
          apply Mem.atWp
          · exact memA
          clear hM
          intro hM
          refine AtT.startA hM hM 12 (by kernel_rfl) ?_
          clear hM
          intro wd hM
          have hS := hM
          refine AtT.tk 1 ?_ 50 ?_ hS ?_
          rotate_left
          · (intro wS hSw; (try dsimp only at hSw); go_simp; (try rw [if_neg (by omega)]); try with_reducible rfl)
          simp only [Act.put, sA]
          refine AtT.tk 2 ?_ 51 ?_ hS ?_
          rotate_left
          · (intro wS hSw; (try dsimp only at hSw); go_simp; (try rw [if_neg (by omega)]); try with_reducible rfl)
          simp only [Act.put, sA]
          refine AtT.tk 3 ?_ 52 ?_ hS ?_
          rotate_left
          · (intro wS hSw; (try dsimp only at hSw); go_simp; (try rw [if_neg (by omega)]); try with_reducible rfl)
          simp only [Act.put, sA]
          refine AtT.tk 5 ?_ 54 ?_ hS ?_
          rotate_left
          · (intro wS hSw; (try dsimp only at hSw); go_simp; (try rw [if_neg (by omega)]); try with_reducible rfl)
          simp only [Act.put, sA]
          refine AtT.tk 8 ?_ 57 ?_ hS ?_
          rotate_left
          · (intro wS hSw; (try dsimp only at hSw); go_simp; (try rw [if_neg (by omega)]); try with_reducible rfl)
          simp only [Act.put, sA]
          refine AtT.tk 9 ?_ 58 ?_ hS ?_
          rotate_left
          · (intro wS hSw; (try dsimp only at hSw); go_simp; (try rw [if_neg (by omega)]); try with_reducible rfl)
          simp only [Act.put, sA]
          refine AtT.tk 10 ?_ 59 ?_ hS ?_
          rotate_left
          · (intro wS hSw; (try dsimp only at hSw); go_simp; (try rw [if_neg (by omega)]); try with_reducible rfl)
          simp only [Act.put, sA]
          refine AtT.two (i := 0) (j := 6) (by kernel_rfl) rfl rfl rfl rfl ?_ ?_
          · skip
            intro K hK
            go_simp
            refine hK.out _ _ (by apply Mem.tail; (exact memA)) ?_
            clear hK K hS
            have hMp := hM
            apply Mem.atT
            · exact memA
            clear hM
            intro hM
            (try simp only [World.size_alloc, World.size_setCell, World.heap_drewN, heapDrew, Nat.add_assoc, Nat.reduceAdd, sA, List.cons_append, List.nil_append] at hM)
            have hS := hM.tail
            refine AtT.two (i := 4) (j := 6) (by kernel_rfl) rfl rfl rfl rfl ?_ ?_
            · skip
              intro K hK
              replace hM := hM.toInts (xs := []) .here rfl (by simp) (by simp)
              refine step_appendI rfl (.tmp 49) (.tmp 52) 27 rfl 3 i0 Tryz.underlying27 hi hz0 hz1 hz2 w.heap.size _ 0 _ [] rfl (hM.ints .here).row (some ⟨g, 0, none⟩) i i (os.take i) rfl ((hM.ints (.there .here)).ints.take hki) (by omega) hM.size ?_
              intro a2 c2 w2 hrow hg hbl
              rw [Nat.zero_add, List.nil_append] at hrow
              rw [Nat.zero_add]
              have hO := own_of hrow (by rw [List.length_take, HLO.out]; omega) (by omega) HWT.out
              replace hM := hM.appended .here hO hg (fun k hk => by simpa using hbl k hk)
              clear hO hrow hg hbl
              try dsimp only
              refine hK.out _ _ (hM.tail) ?_
              clear hK K hS
              have hS := hM.tail
              refine AtT.only (i := 6) (by kernel_rfl) rfl rfl ?_
              intro K hK
              go_simp
              refine hK.out _ _ (by apply Mem.tail; apply Mem.tail; (exact memA)) ?_
              clear hK K hS
              have hMp := hM
              apply Mem.atT
              · exact memA
              clear hM
              intro hM
              (try simp only [World.size_alloc, World.size_setCell, World.heap_drewN, heapDrew, Nat.add_assoc, Nat.reduceAdd, sA, List.cons_append, List.nil_append] at hM)
              have hS := hM.tail.tail
              refine AtT.only (i := 7) (by kernel_rfl) rfl rfl ?_
              intro K hK
              refine step_appendI rfl (.tmp 53) (.tmp 55) 27 rfl 3 i0 Tryz.underlying27 hi hz0 hz1 hz2 w.heap.size _ _ _ _ rfl (hM.ints (.there .here)).row _ 1 1 [(i : Int)] rfl (hM.oneInt .here (by unfold I64; omega)) (by omega) hM.size ?_
              intro a3 c3 w3 hrow hg hbl
              have hO := own_of hrow (by first | (simp [HLO.out]; done) | (simp [HLO.out]; omega)) (by omega) HWI.out
              replace hM := hM.appended (.there .here) hO hg (fun k hk => by simpa using hbl k hk)
              clear hO hrow hg hbl
              try dsimp only
              refine hK.out _ _ (hM.tail.tail) ?_
              clear hK K hS
              have hS := hM.tail.tail
              refine AtT.only (i := 11) (by kernel_rfl) rfl rfl ?_
              intro K hK
              refine step_appendI rfl (.tmp 56) (.tmp 59) 27 rfl 3 i0 Tryz.underlying27 hi hz0 hz1 hz2 w.heap.size _ _ _ _ rfl (hM.ints (.there .here)).row (some ⟨g, 0, none⟩) 0 0 (os.drop i) rfl (by rw [List.drop_of_length_le (by rw [HLO.out]; exact Nat.le_refl _)]; exact Ints.none' (by unfold maxLen; omega) (by simp)) (by omega) hM.size ?_
              intro a4 c4 w4 hrow hg hbl
              rw [show i + 1 + 0 = i + 1 by omega] at hrow ⊢
              rw [HLN.out] at hrow
              have hO := own_of hrow (outS_length _ _) (by omega) HWN.out
              replace hM := hM.appended (.there .here) hO hg (fun k hk => by simpa using hbl k hk)
              obtain ⟨g4, rfl, _⟩ := hO.head (by omega)
              clear hO hrow hg hbl
              try dsimp only
              refine hK.out _ _ (hM.tail.tail) ?_
              clear hK K hS
              have hS := hM.tail.tail
              refine AtT.last (by kernel_rfl) rfl (by kernel_rfl) ?_
              intro K hK
              clear hS
              go_simp
              refine hK.out _ _ ?_
              clear hK K
              go_wp2
              go_roundg (n - (i + 1))
              case measure => omega
              case rel =>
              refine ⟨i + 1, g4, c4, by omega, rfl, by go_num, rfl, ?_⟩
              apply Mem.pick (is := [1])
              · exact memA
              · decide
              · rfl
            · skip
              intro K hK
              go_simp
              refine hK.out _ _ (by apply Mem.tail; apply Mem.tail; (exact memA)) ?_
              clear hK K hS
              have hMp := hM
              apply Mem.atT
              · exact memA
              clear hM
              intro hM
              (try simp only [World.size_alloc, World.size_setCell, World.heap_drewN, heapDrew, Nat.add_assoc, Nat.reduceAdd, sA, List.cons_append, List.nil_append] at hM)
              have hS := hM.tail.tail
              refine AtT.only (i := 4) (by kernel_rfl) rfl rfl ?_
              intro K hK
              replace hM := hM.toInts (xs := []) (.there .here) rfl (by simp) (by simp)
              refine step_appendI rfl (.tmp 49) (.tmp 52) 27 rfl 3 i0 Tryz.underlying27 hi hz0 hz1 hz2 w.heap.size _ 0 _ [] rfl (hM.ints (.there .here)).row (some ⟨g, 0, none⟩) i i (os.take i) rfl ((hM.ints (.there (.there .here))).ints.take hki) (by omega) hM.size ?_
              intro a2 c2 w2 hrow hg hbl
              rw [Nat.zero_add, List.nil_append] at hrow
              rw [Nat.zero_add]
              have hO := own_of hrow (by rw [List.length_take, HLO.out]; omega) (by omega) HWT.out
              replace hM := hM.appended (.there .here) hO hg (fun k hk => by simpa using hbl k hk)
              clear hO hrow hg hbl
              try dsimp only
              refine hK.out _ _ (hM.tail.tail) ?_
              clear hK K hS
              have hS := hM.tail.tail
              refine AtT.only (i := 7) (by kernel_rfl) rfl rfl ?_
              intro K hK
              refine step_appendI rfl (.tmp 53) (.tmp 55) 27 rfl 3 i0 Tryz.underlying27 hi hz0 hz1 hz2 w.heap.size _ _ _ _ rfl (hM.ints (.there .here)).row _ 1 1 [(i : Int)] rfl (hM.oneInt .here (by unfold I64; omega)) (by omega) hM.size ?_
              intro a3 c3 w3 hrow hg hbl
              have hO := own_of hrow (by first | (simp [HLO.out]; done) | (simp [HLO.out]; omega)) (by omega) HWI.out
              replace hM := hM.appended (.there .here) hO hg (fun k hk => by simpa using hbl k hk)
              clear hO hrow hg hbl
              try dsimp only
              refine hK.out _ _ (hM.tail.tail) ?_
              clear hK K hS
              have hS := hM.tail.tail
              refine AtT.only (i := 11) (by kernel_rfl) rfl rfl ?_
              intro K hK
              refine step_appendI rfl (.tmp 56) (.tmp 59) 27 rfl 3 i0 Tryz.underlying27 hi hz0 hz1 hz2 w.heap.size _ _ _ _ rfl (hM.ints (.there .here)).row (some ⟨g, 0, none⟩) 0 0 (os.drop i) rfl (by rw [List.drop_of_length_le (by rw [HLO.out]; exact Nat.le_refl _)]; exact Ints.none' (by unfold maxLen; omega) (by simp)) (by omega) hM.size ?_
              intro a4 c4 w4 hrow hg hbl
              rw [show i + 1 + 0 = i + 1 by omega] at hrow ⊢
              rw [HLN.out] at hrow
              have hO := own_of hrow (outS_length _ _) (by omega) HWN.out
              replace hM := hM.appended (.there .here) hO hg (fun k hk => by simpa using hbl k hk)
              obtain ⟨g4, rfl, _⟩ := hO.head (by omega)
              clear hO hrow hg hbl
              try dsimp only
              refine hK.out _ _ (hM.tail.tail) ?_
              clear hK K hS
              have hS := hM.tail.tail
              refine AtT.last (by kernel_rfl) rfl (by kernel_rfl) ?_
              intro K hK
              clear hS
              go_simp
              refine hK.out _ _ ?_
              clear hK K
              go_wp2
              go_roundg (n - (i + 1))
              case measure => omega
              case rel =>
              refine ⟨i + 1, g4, c4, by omega, rfl, by go_num, rfl, ?_⟩
              apply Mem.pick (is := [1])
              · exact memA
              · decide
              · rfl
          · skip
            intro K hK
            go_simp
            refine hK.out _ _ (by apply Mem.tail; (exact memA)) ?_
            clear hK K hS
            have hMp := hM
            apply Mem.atT
            · exact memA
            clear hM
            intro hM
            (try simp only [World.size_alloc, World.size_setCell, World.heap_drewN, heapDrew, Nat.add_assoc, Nat.reduceAdd, sA, List.cons_append, List.nil_append] at hM)
            have hS := hM.tail
            refine AtT.only (i := 0) (by kernel_rfl) rfl rfl ?_
            intro K hK
            go_simp
            refine hK.out _ _ (by apply Mem.tail; apply Mem.tail; (exact memA)) ?_
            clear hK K hS
            have hMp := hM
            apply Mem.atT
            · exact memA
            clear hM
            intro hM
            (try simp only [World.size_alloc, World.size_setCell, World.heap_drewN, heapDrew, Nat.add_assoc, Nat.reduceAdd, sA, List.cons_append, List.nil_append] at hM)
            have hS := hM.tail.tail
            refine AtT.only (i := 4) (by kernel_rfl) rfl rfl ?_
            intro K hK
            replace hM := hM.toInts (xs := []) .here rfl (by simp) (by simp)
            refine step_appendI rfl (.tmp 49) (.tmp 52) 27 rfl 3 i0 Tryz.underlying27 hi hz0 hz1 hz2 w.heap.size _ 0 _ [] rfl (hM.ints .here).row (some ⟨g, 0, none⟩) i i (os.take i) rfl ((hM.ints (.there (.there .here))).ints.take hki) (by omega) hM.size ?_
            intro a2 c2 w2 hrow hg hbl
            rw [Nat.zero_add, List.nil_append] at hrow
            rw [Nat.zero_add]
            have hO := own_of hrow (by rw [List.length_take, HLO.out]; omega) (by omega) HWT.out
            replace hM := hM.appended .here hO hg (fun k hk => by simpa using hbl k hk)
            clear hO hrow hg hbl
            try dsimp only
            refine hK.out _ _ (hM.tail.tail) ?_
            clear hK K hS
            have hS := hM.tail.tail
            refine AtT.only (i := 7) (by kernel_rfl) rfl rfl ?_
            intro K hK
            refine step_appendI rfl (.tmp 53) (.tmp 55) 27 rfl 3 i0 Tryz.underlying27 hi hz0 hz1 hz2 w.heap.size _ _ _ _ rfl (hM.ints .here).row _ 1 1 [(i : Int)] rfl (hM.oneInt (.there .here) (by unfold I64; omega)) (by omega) hM.size ?_
            intro a3 c3 w3 hrow hg hbl
            have hO := own_of hrow (by first | (simp [HLO.out]; done) | (simp [HLO.out]; omega)) (by omega) HWI.out
            replace hM := hM.appended .here hO hg (fun k hk => by simpa using hbl k hk)
            clear hO hrow hg hbl
            try dsimp only
            refine hK.out _ _ (hM.tail.tail) ?_
            clear hK K hS
            have hS := hM.tail.tail
            refine AtT.only (i := 11) (by kernel_rfl) rfl rfl ?_
            intro K hK
            refine step_appendI rfl (.tmp 56) (.tmp 59) 27 rfl 3 i0 Tryz.underlying27 hi hz0 hz1 hz2 w.heap.size _ _ _ _ rfl (hM.ints .here).row (some ⟨g, 0, none⟩) 0 0 (os.drop i) rfl (by rw [List.drop_of_length_le (by rw [HLO.out]; exact Nat.le_refl _)]; exact Ints.none' (by unfold maxLen; omega) (by simp)) (by omega) hM.size ?_
            intro a4 c4 w4 hrow hg hbl
            rw [show i + 1 + 0 = i + 1 by omega] at hrow ⊢
            rw [HLN.out] at hrow
            have hO := own_of hrow (outS_length _ _) (by omega) HWN.out
            replace hM := hM.appended .here hO hg (fun k hk => by simpa using hbl k hk)
            obtain ⟨g4, rfl, _⟩ := hO.head (by omega)
            clear hO hrow hg hbl
            try dsimp only
            refine hK.out _ _ (hM.tail.tail) ?_
            clear hK K hS
            have hS := hM.tail.tail
            refine AtT.last (by kernel_rfl) rfl (by kernel_rfl) ?_
            intro K hK
            clear hS
            go_simp
            refine hK.out _ _ ?_
            clear hK K
            go_wp2
            go_roundg (n - (i + 1))
            case measure => omega
            case rel =>
            refine ⟨i + 1, g4, c4, by omega, rfl, by go_num, rfl, ?_⟩
            apply Mem.pick (is := [0])
            · exact memA
            · decide
            · rfl
        · have hki2 : k < c' := by omega
          have hck : ¬ c' = k := by omega
          go_wp2_with fail
          apply Mem.atWp
          · exact memA
          clear hM
          intro hM
          refine AtT.startA hM hM 12 (by kernel_rfl) ?_
          clear hM
          intro wd hM
          have hS := hM
          refine AtT.tk 1 ?_ 50 ?_ hS ?_
          rotate_left
          · (intro wS hSw; (try dsimp only at hSw); go_simp; (try rw [if_neg (by omega)]); try with_reducible rfl)
          simp only [Act.put, sA]
          refine AtT.tk 2 ?_ 51 ?_ hS ?_
          rotate_left
          · (intro wS hSw; (try dsimp only at hSw); go_simp; (try rw [if_neg (by omega)]); try with_reducible rfl)
          simp only [Act.put, sA]
          refine AtT.tk 3 ?_ 52 ?_ hS ?_
          rotate_left
          · (intro wS hSw; (try dsimp only at hSw); go_simp; (try rw [if_neg (by omega)]); try with_reducible rfl)
          simp only [Act.put, sA]
          refine AtT.tk 5 ?_ 54 ?_ hS ?_
          rotate_left
          · (intro wS hSw; (try dsimp only at hSw); go_simp; (try rw [if_neg (by omega)]); try with_reducible rfl)
          simp only [Act.put, sA]
          refine AtT.tk 8 ?_ 57 ?_ hS ?_
          rotate_left
          · (intro wS hSw; (try dsimp only at hSw); go_simp; (try rw [if_neg (by omega)]); try with_reducible rfl)
          simp only [Act.put, sA]
          refine AtT.tk 9 ?_ 58 ?_ hS ?_
          rotate_left
          · (intro wS hSw; (try dsimp only at hSw); go_simp; (try rw [if_neg (by omega)]); try with_reducible rfl)
          simp only [Act.put, sA]
          refine AtT.tk 10 ?_ 59 ?_ hS ?_
          rotate_left
          · (intro wS hSw; (try dsimp only at hSw); go_simp; (try rw [if_neg (by omega)]); try with_reducible rfl)
          simp only [Act.put, sA]
          refine AtT.two (i := 0) (j := 6) (by kernel_rfl) rfl rfl rfl rfl ?_ ?_
          · skip
            intro K hK
            go_simp
            refine hK.out _ _ (by apply Mem.tail; (exact memA)) ?_
            clear hK K hS
            have hMp := hM
            apply Mem.atT
            · exact memA
            clear hM
            intro hM
            (try simp only [World.size_alloc, World.size_setCell, World.heap_drewN, heapDrew, Nat.add_assoc, Nat.reduceAdd, sA, List.cons_append, List.nil_append] at hM)
            have hS := hM.tail
            refine AtT.two (i := 4) (j := 6) (by kernel_rfl) rfl rfl rfl rfl ?_ ?_
            · skip
              intro K hK
              replace hM := hM.toInts (xs := []) .here rfl (by simp) (by simp)
              refine step_appendI rfl (.tmp 49) (.tmp 52) 27 rfl 3 i0 Tryz.underlying27 hi hz0 hz1 hz2 w.heap.size _ 0 _ [] rfl (hM.ints .here).row (some ⟨g, 0, none⟩) k c' (os.take k) rfl ((hM.ints (.there .here)).ints.take hki) (by omega) hM.size ?_
              intro a2 c2 w2 hrow hg hbl
              rw [Nat.zero_add, List.nil_append] at hrow
              rw [Nat.zero_add]
              have hO := own_of hrow (by rw [List.length_take, HLO.out]; omega) (by omega) HWT.out
              replace hM := hM.appended .here hO hg (fun k hk => by simpa using hbl k hk)
              clear hO hrow hg hbl
              try dsimp only
              refine hK.out _ _ (hM.tail) ?_
              clear hK K hS
              have hS := hM.tail
              refine AtT.only (i := 6) (by kernel_rfl) rfl rfl ?_
              intro K hK
              go_simp
              refine hK.out _ _ (by apply Mem.tail; apply Mem.tail; (exact memA)) ?_
              clear hK K hS
              have hMp := hM
              apply Mem.atT
              · exact memA
              clear hM
              intro hM
              (try simp only [World.size_alloc, World.size_setCell, World.heap_drewN, heapDrew, Nat.add_assoc, Nat.reduceAdd, sA, List.cons_append, List.nil_append] at hM)
              have hS := hM.tail.tail
              refine AtT.only (i := 7) (by kernel_rfl) rfl rfl ?_
              intro K hK
              refine step_appendI rfl (.tmp 53) (.tmp 55) 27 rfl 3 i0 Tryz.underlying27 hi hz0 hz1 hz2 w.heap.size _ _ _ _ rfl (hM.ints (.there .here)).row _ 1 1 [(i : Int)] rfl (hM.oneInt .here (by unfold I64; omega)) (by omega) hM.size ?_
              intro a3 c3 w3 hrow hg hbl
              have hO := own_of hrow (by first | (simp [HLO.out]; done) | (simp [HLO.out]; omega)) (by omega) HWI.out
              replace hM := hM.appended (.there .here) hO hg (fun k hk => by simpa using hbl k hk)
              clear hO hrow hg hbl
              try dsimp only
              refine hK.out _ _ (hM.tail.tail) ?_
              clear hK K hS
              have hS := hM.tail.tail
              refine AtT.only (i := 11) (by kernel_rfl) rfl rfl ?_
              intro K hK
              refine step_appendI rfl (.tmp 56) (.tmp 59) 27 rfl 3 i0 Tryz.underlying27 hi hz0 hz1 hz2 w.heap.size _ _ _ _ rfl (hM.ints (.there .here)).row (some ⟨g, k, none⟩) (i - k) (c' - k) (os.drop k) rfl ((hM.ints (.there (.there .here))).ints.drop hki) (by omega) hM.size ?_
              intro a4 c4 w4 hrow hg hbl
              rw [show k + 1 + (i - k) = i + 1 by omega] at hrow ⊢
              rw [HLN.out] at hrow
              have hO := own_of hrow (outS_length _ _) (by omega) HWN.out
              replace hM := hM.appended (.there .here) hO hg (fun k hk => by simpa using hbl k hk)
              obtain ⟨g4, rfl, _⟩ := hO.head (by omega)
              clear hO hrow hg hbl
              try dsimp only
              refine hK.out _ _ (hM.tail.tail) ?_
              clear hK K hS
              have hS := hM.tail.tail
              refine AtT.last (by kernel_rfl) rfl (by kernel_rfl) ?_
              intro K hK
              clear hS
              go_simp
              refine hK.out _ _ ?_
              clear hK K
              go_wp2
              go_roundg (n - (i + 1))
              case measure => omega
              case rel =>
              refine ⟨i + 1, g4, c4, by omega, rfl, by go_num, rfl, ?_⟩
              apply Mem.pick (is := [1])
              · exact memA
              · decide
              · rfl
            · skip
              intro K hK
              go_simp
              refine hK.out _ _ (by apply Mem.tail; apply Mem.tail; (exact memA)) ?_
              clear hK K hS
              have hMp := hM
              apply Mem.atT
              · exact memA
              clear hM
              intro hM
              (try simp only [World.size_alloc, World.size_setCell, World.heap_drewN, heapDrew, Nat.add_assoc, Nat.reduceAdd, sA, List.cons_append, List.nil_append] at hM)
              have hS := hM.tail.tail
              refine AtT.only (i := 4) (by kernel_rfl) rfl rfl ?_
              intro K hK
              replace hM := hM.toInts (xs := []) (.there .here) rfl (by simp) (by simp)
              refine step_appendI rfl (.tmp 49) (.tmp 52) 27 rfl 3 i0 Tryz.underlying27 hi hz0 hz1 hz2 w.heap.size _ 0 _ [] rfl (hM.ints (.there .here)).row (some ⟨g, 0, none⟩) k c' (os.take k) rfl ((hM.ints (.there (.there .here))).ints.take hki) (by omega) hM.size ?_
              intro a2 c2 w2 hrow hg hbl
              rw [Nat.zero_add, List.nil_append] at hrow
              rw [Nat.zero_add]
              have hO := own_of hrow (by rw [List.length_take, HLO.out]; omega) (by omega) HWT.out
              replace hM := hM.appended (.there .here) hO hg (fun k hk => by simpa using hbl k hk)
              clear hO hrow hg hbl
              try dsimp only
              refine hK.out _ _ (hM.tail.tail) ?_
              clear hK K hS
              have hS := hM.tail.tail
              refine AtT.only (i := 7) (by kernel_rfl) rfl rfl ?_
              intro K hK
              refine step_appendI rfl (.tmp 53) (.tmp 55) 27 rfl 3 i0 Tryz.underlying27 hi hz0 hz1 hz2 w.heap.size _ _ _ _ rfl (hM.ints (.there .here)).row _ 1 1 [(i : Int)] rfl (hM.oneInt .here (by unfold I64; omega)) (by omega) hM.size ?_
              intro a3 c3 w3 hrow hg hbl
              have hO := own_of hrow (by first | (simp [HLO.out]; done) | (simp [HLO.out]; omega)) (by omega) HWI.out
              replace hM := hM.appended (.there .here) hO hg (fun k hk => by simpa using hbl k hk)
              clear hO hrow hg hbl
              try dsimp only
              refine hK.out _ _ (hM.tail.tail) ?_
              clear hK K hS
              have hS := hM.tail.tail
              refine AtT.only (i := 11) (by kernel_rfl) rfl rfl ?_
              intro K hK
              refine step_appendI rfl (.tmp 56) (.tmp 59) 27 rfl 3 i0 Tryz.underlying27 hi hz0 hz1 hz2 w.heap.size _ _ _ _ rfl (hM.ints (.there .here)).row (some ⟨g, k, none⟩) (i - k) (c' - k) (os.drop k) rfl ((hM.ints (.there (.there .here))).ints.drop hki) (by omega) hM.size ?_
              intro a4 c4 w4 hrow hg hbl
              rw [show k + 1 + (i - k) = i + 1 by omega] at hrow ⊢
              rw [HLN.out] at hrow
              have hO := own_of hrow (outS_length _ _) (by omega) HWN.out
              replace hM := hM.appended (.there .here) hO hg (fun k hk => by simpa using hbl k hk)
              obtain ⟨g4, rfl, _⟩ := hO.head (by omega)
              clear hO hrow hg hbl
              try dsimp only
              refine hK.out _ _ (hM.tail.tail) ?_
              clear hK K hS
              have hS := hM.tail.tail
              refine AtT.last (by kernel_rfl) rfl (by kernel_rfl) ?_
              intro K hK
              clear hS
              go_simp
              refine hK.out _ _ ?_
              clear hK K
              go_wp2
              go_roundg (n - (i + 1))
              case measure => omega
              case rel =>
              refine ⟨i + 1, g4, c4, by omega, rfl, by go_num, rfl, ?_⟩
              apply Mem.pick (is := [1])
              · exact memA
              · decide
              · rfl
          · skip
            intro K hK
            go_simp
            refine hK.out _ _ (by apply Mem.tail; (exact memA)) ?_
            clear hK K hS
            have hMp := hM
            apply Mem.atT
            · exact memA
            clear hM
            intro hM
            (try simp only [World.size_alloc, World.size_setCell, World.heap_drewN, heapDrew, Nat.add_assoc, Nat.reduceAdd, sA, List.cons_append, List.nil_append] at hM)
            have hS := hM.tail
            refine AtT.only (i := 0) (by kernel_rfl) rfl rfl ?_
            intro K hK
            go_simp
            refine hK.out _ _ (by apply Mem.tail; apply Mem.tail; (exact memA)) ?_
            clear hK K hS
            have hMp := hM
            apply Mem.atT
            · exact memA
            clear hM
            intro hM
            (try simp only [World.size_alloc, World.size_setCell, World.heap_drewN, heapDrew, Nat.add_assoc, Nat.reduceAdd, sA, List.cons_append, List.nil_append] at hM)
            have hS := hM.tail.tail
            refine AtT.only (i := 4) (by kernel_rfl) rfl rfl ?_
            intro K hK
            replace hM := hM.toInts (xs := []) .here rfl (by simp) (by simp)
            refine step_appendI rfl (.tmp 49) (.tmp 52) 27 rfl 3 i0 Tryz.underlying27 hi hz0 hz1 hz2 w.heap.size _ 0 _ [] rfl (hM.ints .here).row (some ⟨g, 0, none⟩) k c' (os.take k) rfl ((hM.ints (.there (.there .here))).ints.take hki) (by omega) hM.size ?_
            intro a2 c2 w2 hrow hg hbl
            rw [Nat.zero_add, List.nil_append] at hrow
            rw [Nat.zero_add]
            have hO := own_of hrow (by rw [List.length_take, HLO.out]; omega) (by omega) HWT.out
            replace hM := hM.appended .here hO hg (fun k hk => by simpa using hbl k hk)
            clear hO hrow hg hbl
            try dsimp only
            refine hK.out _ _ (hM.tail.tail) ?_
            clear hK K hS
            have hS := hM.tail.tail
            refine AtT.only (i := 7) (by kernel_rfl) rfl rfl ?_
            intro K hK
            refine step_appendI rfl (.tmp 53) (.tmp 55) 27 rfl 3 i0 Tryz.underlying27 hi hz0 hz1 hz2 w.heap.size _ _ _ _ rfl (hM.ints .here).row _ 1 1 [(i : Int)] rfl (hM.oneInt (.there .here) (by unfold I64; omega)) (by omega) hM.size ?_
            intro a3 c3 w3 hrow hg hbl
            have hO := own_of hrow (by first | (simp [HLO.out]; done) | (simp [HLO.out]; omega)) (by omega) HWI.out
            replace hM := hM.appended .here hO hg (fun k hk => by simpa using hbl k hk)
            clear hO hrow hg hbl
            try dsimp only
            refine hK.out _ _ (hM.tail.tail) ?_
            clear hK K hS
            have hS := hM.tail.tail
            refine AtT.only (i := 11) (by kernel_rfl) rfl rfl ?_
            intro K hK
            refine step_appendI rfl (.tmp 56) (.tmp 59) 27 rfl 3 i0 Tryz.underlying27 hi hz0 hz1 hz2 w.heap.size _ _ _ _ rfl (hM.ints .here).row (some ⟨g, k, none⟩) (i - k) (c' - k) (os.drop k) rfl ((hM.ints (.there (.there .here))).ints.drop hki) (by omega) hM.size ?_
            intro a4 c4 w4 hrow hg hbl
            rw [show k + 1 + (i - k) = i + 1 by omega] at hrow ⊢
            rw [HLN.out] at hrow
            have hO := own_of hrow (outS_length _ _) (by omega) HWN.out
            replace hM := hM.appended .here hO hg (fun k hk => by simpa using hbl k hk)
            obtain ⟨g4, rfl, _⟩ := hO.head (by omega)
            clear hO hrow hg hbl
            try dsimp only
            refine hK.out _ _ (hM.tail.tail) ?_
            clear hK K hS
            have hS := hM.tail.tail
            refine AtT.last (by kernel_rfl) rfl (by kernel_rfl) ?_
            intro K hK
            clear hS
            go_simp
            refine hK.out _ _ ?_
            clear hK K
            go_wp2
            go_roundg (n - (i + 1))
            case measure => omega
            case rel =>
            refine ⟨i + 1, g4, c4, by omega, rfl, by go_num, rfl, ?_⟩
            apply Mem.pick (is := [0])
            · exact memA
            · decide
            · rfl
    · obtain rfl : i = n := by omega
      go_wp2
      go_ret2
      exact ⟨_, _, rfl, by rw [HOE.out, HOS.out]; exact hM⟩
end Go.Proofs.YtjnbdgldpmmamaaGreat

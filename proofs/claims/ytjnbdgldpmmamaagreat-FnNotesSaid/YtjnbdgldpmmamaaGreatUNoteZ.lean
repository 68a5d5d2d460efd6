/-
  WriteNote: the reference's.
-/
import Derived.Test.YtjnbdgldpmmamaaGreatUNoteY
/-
  WriteNote: the reference's.
-/
namespace Go.Proofs.YtjnbdgldpmmamaaGreat
set_option linter.unusedSimpArgs false
set_option linter.unusedVariables false
open Go.RowKit

theorem l1MostN_any (a b : Int) (w : World) : Calls Tryz.prog 36 #[.int .i64 a, .int .i64 b] w fun e w' => e = .returned (.int .i64 (moreI a b)) ∧ w = w' := by
  by_cases h : a < b
  · have hm : moreI a b = b := if_pos h
    rw [hm]
    by_cases h2 : b < a
    · omega
    go_enter Tryz.func36, Tryz.ntmps36
    go_wp2
    go_ret
    exact ⟨ri (by first | rfl | omega), rfl⟩
  · have hm : moreI a b = a := if_neg h
    rw [hm]
    by_cases h2 : b < a
    · skip
      go_enter Tryz.func36, Tryz.ntmps36
      go_wp2
      go_ret
      exact ⟨ri (by first | rfl | omega), rfl⟩
    · have h3 : a = b := by omega
      subst h3
      go_enter Tryz.func36, Tryz.ntmps36
      go_wp2
      go_ret
      exact ⟨ri (by first | rfl | omega), rfl⟩
theorem Mem.nilNstR {B : Nat} {w0 w : World} {G : List Ent} {b : Nat} (h : Mem B w0 w (rowE b 40 #[] :: G)) : Mem B w0 w [noteE (some ⟨b, 0, none⟩) 0 0 []] := Mem.nstNil (G := []) (Mem.first (Mem.toOwR (F := FNote) h))
set_option maxRecDepth 100000 in
set_option maxHeartbeats 16000000 in
theorem specWriteNote_any (u : Int) (b off n c : Nat) (xs : List NoteI) (un : Int) (wo : Bs) (w : World) (hu : I64 u) (hun : I64 un) (hwo : wo.length ≤ maxLen) (h : RdN w (some ⟨b, off, none⟩) n c xs) :
    Calls Tryz.prog 64 #[.int .i64 u, .slice (some ⟨b, off, none⟩) n c, .int .i64 un, .string (bsA wo)] w fun e w' => ∃ a' c' ys, coreN ys = writeR u (coreN xs) un wo ∧ e = .returned (.tuple #[.slice a' (writeR u (coreN xs) un wo).length c', .bool (writeB u (coreN xs) un wo)]) ∧ Mem w.heap.size w w' [noteE a' (writeR u (coreN xs) un wo).length c' ys] := by
  have hM := Mem.start w
  have HUI := Lib.hid hu
  clear hu
  cases hb : bookB u (coreN xs)
  · have e1 : writeB u (coreN xs) un wo = false := by rw [writeB, hb]; rfl
    have e2 : writeR u (coreN xs) un wo = [] := by rw [writeR, e1]; rfl
    rw [e1, e2]
    have HB := Lib.hid hb; clear hb e1 e2
    go_enter Tryz.func64, Tryz.ntmps64
    go_wp2_with fail
    apply Mem.atA
    · exact memA
    clear hM
    intro wst hM
    (try simp only [World.size_alloc, World.size_setCell, World.heap_drewN, heapDrew, Nat.add_assoc, Nat.reduceAdd, sA, List.cons_append, List.nil_append] at hM)
    (first | refine (l17Good_any u (some ⟨b, off, none⟩) n c xs _ HUI.out (h.ext hM.below)).mono ?_)
    rw [HB.out]
    rintro e wc1 ⟨rfl, hb⟩
    replace hM := hM.ext hb
    clear hb
    go_wp2
    go_ret2
    refine ⟨_, _, [], rfl, rfl, ?_⟩
    apply Mem.nilNstR
    (exact memA)
  obtain ⟨u0, u1⟩ := book_u hb
  have hr1 : IntKind.i64.wrap (u - 1) = u - 1 := wrap_in (by omega)
  cases hi0 : inB un 0 (u - 1)
  · have e1 : writeB u (coreN xs) un wo = false := by rw [writeB, hb, hi0]; rfl
    have e2 : writeR u (coreN xs) un wo = [] := by rw [writeR, e1]; rfl
    rw [e1, e2]
    have HB := Lib.hid hb; have HI := Lib.hid hi0
    clear hb e1 e2 hi0
    go_enter Tryz.func64, Tryz.ntmps64
    go_wp2_with fail
    apply Mem.atA
    · exact memA
    clear hM
    intro wst hM
    (try simp only [World.size_alloc, World.size_setCell, World.heap_drewN, heapDrew, Nat.add_assoc, Nat.reduceAdd, sA, List.cons_append, List.nil_append] at hM)
    (first | refine (l17Good_any u (some ⟨b, off, none⟩) n c xs _ HUI.out (h.ext hM.below)).mono ?_)
    rw [HB.out]
    rintro e wc2 ⟨rfl, hb⟩
    replace hM := hM.ext hb
    clear hb
    go_wp2_with fail
    apply Mem.atA
    · exact memA
    clear hM
    intro wst hM
    (try simp only [World.size_alloc, World.size_setCell, World.heap_drewN, heapDrew, Nat.add_assoc, Nat.reduceAdd, sA, List.cons_append, List.nil_append] at hM)
    (first | refine (l1In_any _ _ _ _).mono ?_)
    rw [HI.out]
    rintro e wc3 ⟨rfl, rfl⟩
    go_wp2
    go_ret2
    refine ⟨_, _, [], rfl, rfl, ?_⟩
    apply Mem.nilNstR
    (exact memA)
  obtain ⟨v0, v1⟩ := inB_true hi0
  obtain ⟨U, rfl⟩ := Int.eq_ofNat_of_zero_le (show 0 ≤ u by omega)
  obtain ⟨q, rfl⟩ := Int.eq_ofNat_of_zero_le v0
  have hqU : q < U := by omega
  have hn12 : n ≤ 12 := by have := book_len hb; rw [coreN_len, h.rd.len] at this; exact this
  have HL := Lib.hid h.rd.len
  have e1 : writeB (U : Int) (coreN xs) (q : Int) wo = bookB (U : Int) (putN (newN (U : Int) (coreN xs) (q : Int) wo) (coreN xs)) := by rw [writeB, hb, hi0]; rfl
  have hlen : (putN (newN (U : Int) (coreN xs) (q : Int) wo) (coreN xs)).length = n + 1 := by rw [putN_len, coreN_len, h.rd.len]
  have hso := write_isort (wd := wo) hb hi0
  have hcb := fun k (hk : k ≤ n) => clkTo_b hb k (by rw [coreN_len, HL.out]; exact hk)
  have hcw := fun k (hk : k ≤ n) => clkTo_wf hb k (by rw [coreN_len, HL.out]; exact hk)
  have hcl : ∀ k, (clkTo (U : Int) (coreN xs) k).length = U := fun k => by rw [clkTo_len, Int.toNat_natCast]
  have hnu : ∀ k, k < n → ∃ m : Nat, (xs.getD k NoteI.zero).un = (m : Int) ∧ m < U ∧ 1 ≤ (xs.getD k NoteI.zero).sq ∧ (xs.getD k NoteI.zero).sq ≤ 12 := fun k hk => by
    have h1 := noteB_true (book_note hb (k := k) (by rw [coreN_len, HL.out]; exact hk))
    rw [coreN_getD] at h1
    have h2 : 0 ≤ (xs.getD k NoteI.zero).un ∧ (xs.getD k NoteI.zero).un ≤ (U : Int) - 1 := h1.2.2.1
    obtain ⟨m, hm⟩ := Int.eq_ofNat_of_zero_le h2.1
    exact ⟨m, hm, by omega, h1.2.2.2.1, h1.2.2.2.2.2.1⟩
  have hstep : ∀ k, clkTo (U : Int) (coreN xs) (k + 1) = clkStep (clkTo (U : Int) (coreN xs) k) (xs.getD k NoteI.zero).core := fun k => by rw [clkTo, coreN_getD]
  have hnew : newN (U : Int) (coreN xs) (q : Int) wo = ⟨(q : Int), (clkTo (U : Int) (coreN xs) n).getD q 0 + 1, (clkTo (U : Int) (coreN xs) n).set q ((clkTo (U : Int) (coreN xs) n).getD q 0 + 1), wo⟩ := by
    unfold newN upC
    rw [coreN_len, HL.out, Int.toNat_natCast]
  have HB := Lib.hid hb; have HI := Lib.hid hi0; have HSO := Lib.hid hso; have HCB := Lib.hid hcb; have HCW := Lib.hid hcw; have HCL := Lib.hid hcl; have HNU := Lib.hid hnu; have HST := Lib.hid hstep; have HNEW := Lib.hid hnew; have HLEN := Lib.hid hlen
  clear hb hi0 hso hcb hcw hcl hnu hstep hnew hlen
  obtain ⟨bv, hbv⟩ : ∃ b, writeB (U : Int) (coreN xs) (q : Int) wo = b := ⟨_, rfl⟩
  obtain ⟨rv, hrv⟩ : ∃ b, writeR (U : Int) (coreN xs) (q : Int) wo = b := ⟨_, rfl⟩
  have e2 : rv = if bv then putN (newN (U : Int) (coreN xs) (q : Int) wo) (coreN xs) else [] := by rw [← hrv, writeR, hbv]
  rw [hbv] at e1 ⊢
  rw [hrv]
  have HBV := Lib.hid e1; have HRV := Lib.hid e2
  clear e1 e2 hbv hrv
  have HH := Lib.hid h
  have HWO := Lib.hid hwo
  clear hwo hun
  obtain ⟨i0, hi, hz0, hz1, hz2⟩ := info_parts Tryz.info3
  obtain ⟨j0, hj, hy0, hy1, hy2⟩ := info_parts Tryz.info40
  go_enter Tryz.func64, Tryz.ntmps64
  go_wp2_with fail
  apply Mem.atA
  · exact memA
  clear hM
  intro wst hM
  (try simp only [World.size_alloc, World.size_setCell, World.heap_drewN, heapDrew, Nat.add_assoc, Nat.reduceAdd, sA, List.cons_append, List.nil_append] at hM)
  (first | refine (l17Good_any (U : Int) (some ⟨b, off, none⟩) n c xs _ HUI.out (h.ext hM.below)).mono ?_)
  rw [HB.out]
  rintro e wc4 ⟨rfl, hb⟩
  replace hM := hM.ext hb
  clear hb
  go_wp2_with fail
  apply Mem.atA
  · exact memA
  clear hM
  intro wst hM
  (try simp only [World.size_alloc, World.size_setCell, World.heap_drewN, heapDrew, Nat.add_assoc, Nat.reduceAdd, sA, List.cons_append, List.nil_append] at hM)
  (first | refine (l1In_any _ _ _ _).mono ?_)
  rw [HI.out]
  rintro e wc5 ⟨rfl, rfl⟩
  skip
  go_wp2_with (at_make; apply Mem.atL; (focus ((repeat' (first | with_reducible exact hM | with_reducible exact hMp | with_reducible apply Mem.drew | with_reducible apply Mem.drewN | with_reducible apply Mem.alloc | with_reducible apply Mem.set | with_reducible exact Sto.row | ((with_reducible refine Sto.rowEq2 ?_ ?_); omega; rfl) | ((with_reducible refine Sto.rowEq ?_); omega) | with_reducible apply Sto.int | with_reducible apply Sto.there | with_reducible assumption | (unfold I64; omega) | (with_reducible (have hMx := Mem.undrew hM; exact hMx)) | (with_reducible (have hMx := Mem.undrew hMp; exact hMx)))); done)); clear hM; intro hM; refine wpList_make_full _ rfl _ _ 27 rfl _ 3 i0 (.int .i64 0) 1 Tryz.underlying27 hi hz0 hz1 .i64 .i64 U U U rfl rfl rfl rfl ?b1 ?b2 (Nat.le_refl _) ?_)
  case b1 => rw [hz2]; omega
  case b2 => unfold maxLen; omega
  intro wm hown hg
  replace hM := hM.own ((Below.refl _ _).grown hg (Nat.le_refl _) (by intro k hk; cases hk)) (own_made hown (by omega))
  clear hown hg
  obtain ⟨g, hg, -⟩ := (hM.ints .here).head (by omega)
  rw [hg] at hM ⊢
  clear hg
  have hz : List.replicate U (0 : Int) = clkTo (U : Int) (coreN xs) 0 := by rw [clkTo, Int.toNat_natCast]
  rw [hz] at hM
  clear hz
  go_wp2_with fail
  go_loopw [11] (fun s11 wr => ∃ k : Nat, k ≤ n ∧ s11 = .int .i64 k ∧ Mem w.heap.size w wr [intE (some ⟨g, 0, none⟩) U U (clkTo (U : Int) (coreN xs) k)]) (fun s11 _ => n - (intOf s11).toNat)
  case atStart => exact ⟨0, Nat.zero_le _, rfl, hM⟩
  case round =>
    clear hM
    obtain ⟨k, hk, rfl, hM⟩ := hrel
    by_cases hlt : k < n
    · obtain ⟨m, hm, hmU, s0, s1⟩ := HNU.out k hlt
      have hcb := HCB.out k hk m
      have hst := HST.out k
      obtain ⟨x, hxx⟩ : ∃ x, xs.getD k NoteI.zero = x := ⟨_, rfl⟩
      rw [hxx] at hm s0 s1 hst
      have HX := Lib.hid hxx; clear hxx
      obtain ⟨xu, xq, xa, xn, xc, xl, xw⟩ := x
      dsimp only at hm s0 s1
      subst hm
      have hst2 : clkTo (U : Int) (coreN xs) (k + 1) = (clkTo (U : Int) (coreN xs) k).set m (moreI ((clkTo (U : Int) (coreN xs) k).getD m 0) xq) := hst
      have HSTP := Lib.hid hst2
      clear hst hst2
      obtain ⟨cs, hcs⟩ : ∃ cs, clkTo (U : Int) (coreN xs) k = cs := ⟨_, rfl⟩
      rw [hcs] at hM hcb HSTP
      clear hcs
      obtain ⟨v, hv⟩ : ∃ v, cs.getD m 0 = v := ⟨_, rfl⟩
      rw [hv] at hcb HSTP
      have HV := Lib.hid hv
      clear hv
      have hmb : I64 (moreI v xq) := by unfold moreI I64; split <;> omega
      have i0' : (0 : Int) ≤ (k : Int) := by omega
      have i1 : (k : Int) < (n : Int) := by omega
      have m0 : (0 : Int) ≤ (m : Int) := by omega
      have m1 : (m : Int) < (U : Int) := by omega
      have x0 := ((h.rd.ext hM.below).cellNote hlt).2.1
      rw [HX.out] at x0
      dsimp only at x0
      go_upto_region 8 with fail
      apply Mem.atWpA
      · exact memA
      clear hM
      intro wst hM
      (try simp only [World.size_alloc, World.size_setCell, World.heap_drewN, heapDrew, Nat.add_assoc, Nat.reduceAdd, sA, List.cons_append, List.nil_append] at hM)
      clear x0
      obtain ⟨z, hz⟩ : ∃ z, moreI v xq = z := ⟨_, rfl⟩
      rw [hz] at hmb HSTP
      have HZZ := Lib.hid hz
      clear hz
      refine AtT.startA hM hM 13 (by kernel_rfl) ?_
      clear hM
      intro wd hM
      have hS := hM
      refine AtT.tk 0 ?_ 39 ?_ hS ?_
      rotate_left
      · (intro wS hSw; (try dsimp only at hSw); go_simp; (try rw [if_neg (by omega)]); try with_reducible rfl)
      simp only [Act.put, sA]
      refine AtT.tk 1 ?_ 40 ?_ hS ?_
      rotate_left
      · (intro wS hSw; (try dsimp only at hSw); go_simp; (try rw [if_neg (by omega)]); try with_reducible rfl)
      simp only [Act.put, sA]
      refine AtT.tk 2 ?_ 41 ?_ hS ?_
      rotate_left
      · (intro wS hSw; (try dsimp only at hSw); go_simp; (try rw [if_neg (by omega)]); try with_reducible rfl)
      simp only [Act.put, sA]
      refine AtT.tk 3 ?_ 42 ?_ hS ?_
      rotate_left
      · (intro wS hSw; (try dsimp only at hSw); go_simp; (try rw [if_neg (by omega)]); try with_reducible rfl)
      simp only [Act.put, sA]
      refine AtT.tk 4 ?_ 43 ?_ hS ?_
      rotate_left
      · (intro wS hSw; (try dsimp only at hSw); have r4 := (hSw.ints .here).cellAt hmU; rw [HV.out] at r4; have r5 := ((h.rd.ext hSw.below).cellNote hlt).2.2.1; rw [HX.out] at r5; dsimp only at r5; go_simp; (try rw [if_neg (by omega)]); try with_reducible rfl)
      simp only [Act.put, sA]
      refine AtT.tk 5 ?_ 44 ?_ hS ?_
      rotate_left
      · (intro wS hSw; (try dsimp only at hSw); have r4 := (hSw.ints .here).cellAt hmU; rw [HV.out] at r4; have r5 := ((h.rd.ext hSw.below).cellNote hlt).2.2.1; rw [HX.out] at r5; dsimp only at r5; go_simp; (try rw [if_neg (by omega)]); try with_reducible rfl)
      simp only [Act.put, sA]
      refine AtT.tk 6 ?_ 45 ?_ hS ?_
      rotate_left
      · (intro wS hSw; (try dsimp only at hSw); go_simp; (try rw [if_neg (by omega)]); try with_reducible rfl)
      simp only [Act.put, sA]
      refine AtT.tk 7 ?_ 46 ?_ hS ?_
      rotate_left
      · (intro wS hSw; (try dsimp only at hSw); go_simp; (try rw [if_neg (by omega)]); try with_reducible rfl)
      simp only [Act.put, sA]
      refine AtT.tk 8 ?_ 47 ?_ hS ?_
      rotate_left
      · (intro wS hSw; (try dsimp only at hSw); have r4 := (hSw.ints .here).cellAt hmU; rw [HV.out] at r4; have r5 := ((h.rd.ext hSw.below).cellNote hlt).2.2.1; rw [HX.out] at r5; dsimp only at r5; go_simp; (try rw [if_neg (by omega)]); try with_reducible rfl)
      simp only [Act.put, sA]
      refine AtT.tk 9 ?_ 48 ?_ hS ?_
      rotate_left
      · (intro wS hSw; (try dsimp only at hSw); go_simp; (try rw [if_neg (by omega)]); try with_reducible rfl)
      simp only [Act.put, sA]
      refine AtT.tk 10 ?_ 49 ?_ hS ?_
      rotate_left
      · (intro wS hSw; (try dsimp only at hSw); have r4 := (hSw.ints .here).cellAt hmU; rw [HV.out] at r4; have r5 := ((h.rd.ext hSw.below).cellNote hlt).2.2.1; rw [HX.out] at r5; dsimp only at r5; go_simp; (try rw [if_neg (by omega)]); try with_reducible rfl)
      simp only [Act.put, sA]
      refine AtT.only (i := 11) (by kernel_rfl) rfl rfl ?_
      intro K hK
      go_simp
      refine (l1MostN_any _ _ _).mono ?_
      rw [HZZ.out]
      rintro e w3 ⟨rfl, rfl⟩
      try dsimp only
      refine hK.out _ _ (hM) ?_
      clear hK K hS
      have hS := hM
      refine AtT.tk 12 ?_ 51 ?_ hS ?_
      rotate_left
      · (intro wS hSw; (try dsimp only at hSw); have r4 := (hSw.ints .here).cellAt hmU; rw [HV.out] at r4; have r5 := ((h.rd.ext hSw.below).cellNote hlt).2.2.1; rw [HX.out] at r5; dsimp only at r5; go_simp; (try rw [if_neg (by omega)]); try with_reducible rfl)
      simp only [Act.put, sA]
      refine AtT.last (by kernel_rfl) rfl (by kernel_rfl) ?_
      intro K hK
      clear hS
      have hce := (hM.ints .here).cellAt hmU
      have hfe := (hM.ints .here).freeAt m
      go_simp
      refine hK.out _ _ ?_
      clear hK K
      go_wp2
      go_roundw
      case rel => exact ⟨k + 1, by omega, by go_num, by rw [HSTP.out]; exact hM.set (Sto.int hmb)⟩
      case measure => simp [intOf]; omega
    · obtain rfl : k = n := by omega
      have hcb := HCB.out k (Nat.le_refl _) q
      have hnew := HNEW.out
      obtain ⟨cs, hcs⟩ : ∃ cs, clkTo (U : Int) (coreN xs) k = cs := ⟨_, rfl⟩
      have hcl := HCL.out k
      rw [hcs] at hM hcb hnew hcl
      clear hcs hlt hk
      obtain ⟨v, hv⟩ : ∃ v, cs.getD q 0 = v := ⟨_, rfl⟩
      rw [hv] at hcb hnew
      have HV := Lib.hid hv
      clear hv
      have hcg : (cs.set q (v + 1)).getD q 0 = v + 1 := by rw [getD_setI, if_pos rfl, if_pos (by rw [hcl]; exact hqU)]
      have HCG := Lib.hid hcg; have HNW := Lib.hid hnew
      clear hcg hnew hcl
      have hce := (hM.ints .here).cellAt hqU
      have hfe := (hM.ints .here).freeAt q
      rw [HV.out] at hce
      have q0 : (0 : Int) ≤ (q : Int) := by omega
      have q1 : (q : Int) < (U : Int) := by omega
      have hwv : IntKind.i64.wrap (v + 1) = v + 1 := wrap_in (by omega)
      have hw1 : I64 (v + 1) := by unfold I64; omega
      go_upto_region 10 with fail
      apply Mem.atWpA
      · exact memA
      clear hM
      intro wst hM
      (try simp only [World.size_alloc, World.size_setCell, World.heap_drewN, heapDrew, Nat.add_assoc, Nat.reduceAdd, sA, List.cons_append, List.nil_append] at hM)
      clear hce hfe
      obtain ⟨CL, hCL⟩ : ∃ CL, cs.set q (v + 1) = CL := ⟨_, rfl⟩
      rw [hCL] at hM HCG HNW
      clear hCL HV
      obtain ⟨v1', hv1'⟩ : ∃ z, v + 1 = z := ⟨_, rfl⟩
      rw [hv1'] at HCG HNW hw1 hwv
      have hvb : 1 ≤ v1' ∧ v1' ≤ 13 := by omega
      clear hv1' hwv hcb
      have HNI := Lib.hid (show newN (U : Int) (coreN xs) (q : Int) wo = (⟨(q : Int), v1', some ⟨g, 0, none⟩, U, U, CL, wo⟩ : NoteI).core from HNW.out)
      have HWF := Lib.hid (show FNote.wf (⟨(q : Int), v1', some ⟨g, 0, none⟩, U, U, CL, wo⟩ : NoteI) from ⟨by show I64 (q : Int); unfold I64; omega, hw1, HWO.out⟩)
      have HSM := Lib.hid (show smallN (⟨(q : Int), v1', some ⟨g, 0, none⟩, U, U, CL, wo⟩ : NoteI) from ⟨by dsimp only; omega, by dsimp only; omega⟩)
      have HSX := Lib.hid (HH.out.small HB.out)
      have r4 := (hM.ints .here).cellAt hqU
      rw [HCG.out] at r4
      go_wp2_with fail
      refine (l17Put_any b off k c xs (⟨(q : Int), v1', some ⟨g, 0, none⟩, U, U, CL, wo⟩ : NoteI) _ (HH.out.ext hM.below) (hM.ints .here).ints HWF.out HSX.out HSM.out (by omega)).mono ?_
      rintro e w7 ⟨g7, c7, ys, hyc, rfl, hm⟩
      replace hM := hM.join hm
      have HCY := Lib.hid (show coreN ys = putN (newN (U : Int) (coreN xs) (q : Int) wo) (coreN xs) by rw [hyc, HNI.out])
      clear hm hyc r4
      dsimp only [List.cons_append, List.nil_append] at hM
      replace hM := Mem.notesClose hM
      have hbk : bookB (U : Int) (coreN ys) = bv := by rw [HCY.out, HBV.out]
      have hrk : rv = if bv then coreN ys else [] := by rw [HCY.out, HRV.out]
      have hyl : (coreN ys).length = k + 1 := by rw [HCY.out, HLEN.out]
      have HBK := Lib.hid hbk; have HRK := Lib.hid hrk; have HYL := Lib.hid hyl
      clear hbk hrk hyl
      go_wp2_with fail
      apply Mem.atA
      · exact memA
      clear hM
      intro wst hM
      (try simp only [World.size_alloc, World.size_setCell, World.heap_drewN, heapDrew, Nat.add_assoc, Nat.reduceAdd, sA, List.cons_append, List.nil_append] at hM)
      (first | refine (l17Good_any (U : Int) _ _ _ ys _ HUI.out (hM.notes .here)).mono ?_)
      rw [HBK.out]
      rintro e wc6 ⟨rfl, hb⟩
      replace hM := hM.ext hb
      clear hb
      cases bv
      · have hrv : rv = [] := by rw [HRK.out]; rfl
        subst hrv
        go_wp2
        go_ret2
        refine ⟨_, _, [], rfl, rfl, ?_⟩
        apply Mem.nilNstR
        (exact memA)
      · have hrv : rv = coreN ys := by rw [HRK.out]; rfl
        subst hrv
        go_wp2
        go_ret2
        exact ⟨some ⟨g7, 0, none⟩, c7, ys, rfl, (by rw [HYL.out]; rfl), by rw [HYL.out]; exact hM.first⟩
end Go.Proofs.YtjnbdgldpmmamaaGreat

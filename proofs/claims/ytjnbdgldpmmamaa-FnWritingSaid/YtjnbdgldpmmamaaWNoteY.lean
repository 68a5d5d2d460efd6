/-
  WriteNote: the program's.
-/
import Derived.Test.YtjnbdgldpmmamaaWNoteX
/-
  WriteNote: the program's.
-/
namespace Go.Proofs.Ytjnbdgldpmmamaa
set_option linter.unusedSimpArgs false
set_option linter.unusedVariables false
open Go.RowKit

theorem Mem.nilNst {B : Nat} {w0 w : World} {G : List Ent} (h : Mem B w0 w G) : Mem B w0 w (noteE none 0 0 [] :: G) := Mem.nstNil (Mem.nilOwO h)
set_option maxRecDepth 100000 in
set_option maxHeartbeats 16000000 in
theorem implWriteNote_any (u : Int) (a : Option Addr) (n c : Nat) (xs : List NoteI) (un : Int) (wo : Bs) (w : World) (hu : I64 u) (hun : I64 un) (hwo : wo.length ≤ maxLen) (h : RdN w a n c xs) :
    Calls Try.prog 14 #[.int .i64 u, .slice a n c, .int .i64 un, .string (bsA wo)] w fun e w' => ∃ a' c' ys, coreN ys = writeR u (coreN xs) un wo ∧ e = .returned (.tuple #[.slice a' (writeR u (coreN xs) un wo).length c', .bool (writeB u (coreN xs) un wo)]) ∧ Mem w.heap.size w w' [noteE a' (writeR u (coreN xs) un wo).length c' ys] := by
  have hM := Mem.start w
  have HUI := Lib.hid hu
  clear hu
  cases hb : bookB u (coreN xs)
  · have e1 : writeB u (coreN xs) un wo = false := by rw [writeB, hb]; rfl
    have e2 : writeR u (coreN xs) un wo = [] := by rw [writeR, e1]; rfl
    rw [e1, e2]
    have HB := Lib.hid hb; clear hb e1 e2
    go_enter Try.func14, Try.ntmps14
    go_wp2_with fail
    apply Mem.atA
    · (repeat' (first | with_reducible exact hM | with_reducible exact hMp | with_reducible apply Mem.drew | with_reducible apply Mem.drewN | with_reducible apply Mem.alloc | with_reducible apply Mem.set | with_reducible exact Sto.row | ((with_reducible refine Sto.rowEq2 ?_ ?_); omega; rfl) | ((with_reducible refine Sto.rowEq ?_); omega) | with_reducible apply Sto.int | with_reducible apply Sto.there | with_reducible assumption | (unfold I64; omega) | (with_reducible (have hMx := Mem.undrew hM; exact hMx)) | (with_reducible (have hMx := Mem.undrew hMp; exact hMx))))
    clear hM
    intro wst hM
    (try simp only [World.size_alloc, World.size_setCell, World.heap_drewN, heapDrew, Nat.add_assoc, Nat.reduceAdd, List.setIfInBounds_toArray, List.set_cons_zero, List.set_cons_succ, List.cons_append, List.nil_append] at hM)
    (first | refine (isNotebook_any u a n c xs _ HUI.out (h.ext hM.below)).mono ?_)
    rw [HB.out]
    rintro e wc1 ⟨rfl, hb⟩
    replace hM := hM.ext hb
    clear hb
    go_wp2
    go_ret2
    exact ⟨none, 0, [], rfl, rfl, by apply Mem.nilNst; (repeat' (first | with_reducible exact hM | with_reducible exact hMp | with_reducible apply Mem.drew | with_reducible apply Mem.drewN | with_reducible apply Mem.alloc | with_reducible apply Mem.set | with_reducible exact Sto.row | ((with_reducible refine Sto.rowEq2 ?_ ?_); omega; rfl) | ((with_reducible refine Sto.rowEq ?_); omega) | with_reducible apply Sto.int | with_reducible apply Sto.there | with_reducible assumption | (unfold I64; omega) | (with_reducible (have hMx := Mem.undrew hM; exact hMx)) | (with_reducible (have hMx := Mem.undrew hMp; exact hMx))))⟩
  obtain ⟨u0, u1⟩ := book_u hb
  have hr1 : IntKind.i64.wrap (u - 1) = u - 1 := wrap_in (by omega)
  cases hi0 : inB un 0 (u - 1)
  · have e1 : writeB u (coreN xs) un wo = false := by rw [writeB, hb, hi0]; rfl
    have e2 : writeR u (coreN xs) un wo = [] := by rw [writeR, e1]; rfl
    rw [e1, e2]
    have HB := Lib.hid hb; have HI := Lib.hid hi0
    clear hb e1 e2 hi0
    go_enter Try.func14, Try.ntmps14
    go_wp2_with fail
    apply Mem.atA
    · (repeat' (first | with_reducible exact hM | with_reducible exact hMp | with_reducible apply Mem.drew | with_reducible apply Mem.drewN | with_reducible apply Mem.alloc | with_reducible apply Mem.set | with_reducible exact Sto.row | ((with_reducible refine Sto.rowEq2 ?_ ?_); omega; rfl) | ((with_reducible refine Sto.rowEq ?_); omega) | with_reducible apply Sto.int | with_reducible apply Sto.there | with_reducible assumption | (unfold I64; omega) | (with_reducible (have hMx := Mem.undrew hM; exact hMx)) | (with_reducible (have hMx := Mem.undrew hMp; exact hMx))))
    clear hM
    intro wst hM
    (try simp only [World.size_alloc, World.size_setCell, World.heap_drewN, heapDrew, Nat.add_assoc, Nat.reduceAdd, List.setIfInBounds_toArray, List.set_cons_zero, List.set_cons_succ, List.cons_append, List.nil_append] at hM)
    (first | refine (isNotebook_any u a n c xs _ HUI.out (h.ext hM.below)).mono ?_)
    rw [HB.out]
    rintro e wc2 ⟨rfl, hb⟩
    replace hM := hM.ext hb
    clear hb
    go_wp2_with fail
    apply Mem.atA
    · (repeat' (first | with_reducible exact hM | with_reducible exact hMp | with_reducible apply Mem.drew | with_reducible apply Mem.drewN | with_reducible apply Mem.alloc | with_reducible apply Mem.set | with_reducible exact Sto.row | ((with_reducible refine Sto.rowEq2 ?_ ?_); omega; rfl) | ((with_reducible refine Sto.rowEq ?_); omega) | with_reducible apply Sto.int | with_reducible apply Sto.there | with_reducible assumption | (unfold I64; omega) | (with_reducible (have hMx := Mem.undrew hM; exact hMx)) | (with_reducible (have hMx := Mem.undrew hMp; exact hMx))))
    clear hM
    intro wst hM
    (try simp only [World.size_alloc, World.size_setCell, World.heap_drewN, heapDrew, Nat.add_assoc, Nat.reduceAdd, List.setIfInBounds_toArray, List.set_cons_zero, List.set_cons_succ, List.cons_append, List.nil_append] at hM)
    (first | refine (in_any _ _ _ _).mono ?_)
    rw [HI.out]
    rintro e wc3 ⟨rfl, rfl⟩
    go_wp2
    go_ret2
    exact ⟨none, 0, [], rfl, rfl, by apply Mem.nilNst; (repeat' (first | with_reducible exact hM | with_reducible exact hMp | with_reducible apply Mem.drew | with_reducible apply Mem.drewN | with_reducible apply Mem.alloc | with_reducible apply Mem.set | with_reducible exact Sto.row | ((with_reducible refine Sto.rowEq2 ?_ ?_); omega; rfl) | ((with_reducible refine Sto.rowEq ?_); omega) | with_reducible apply Sto.int | with_reducible apply Sto.there | with_reducible assumption | (unfold I64; omega) | (with_reducible (have hMx := Mem.undrew hM; exact hMx)) | (with_reducible (have hMx := Mem.undrew hMp; exact hMx))))⟩
  obtain ⟨v0, v1⟩ := inB_true hi0
  obtain ⟨U, rfl⟩ := Int.eq_ofNat_of_zero_le (show 0 ≤ u by omega)
  obtain ⟨q, rfl⟩ := Int.eq_ofNat_of_zero_le v0
  have hqU : q < U := by omega
  have hn12 : n ≤ 12 := by have := book_len hb; rw [coreN_len, h.rd.len] at this; exact this
  have HL := Lib.hid h.rd.len
  have e1 : writeB (U : Int) (coreN xs) (q : Int) wo = bookB (U : Int) (putN (newN (U : Int) (coreN xs) (q : Int) wo) (coreN xs)) := by rw [writeB, hb, hi0]; rfl
  have hlen : (putN (newN (U : Int) (coreN xs) (q : Int) wo) (coreN xs)).length = n + 1 := by rw [putN_len, coreN_len, h.rd.len]
  have hso := write_isort (wd := wo) hb hi0
  have hcb := fun k (hk : k ≤ n) => clkTo_b hb k (by rw [coreN_len, HL.out]; exact hk)
  have hcw := fun k (hk : k ≤ n) => clkTo_wf hb k (by rw [coreN_len, HL.out]; exact hk)
  have hcl : ∀ k, (clkTo (U : Int) (coreN xs) k).length = U := fun k => by rw [clkTo_len, Int.toNat_natCast]
  have hnu : ∀ k, k < n → ∃ m : Nat, (xs.getD k NoteI.zero).un = (m : Int) ∧ m < U ∧ 1 ≤ (xs.getD k NoteI.zero).sq ∧ (xs.getD k NoteI.zero).sq ≤ 12 := fun k hk => by
    have h1 := noteB_true (book_note hb (k := k) (by rw [coreN_len, HL.out]; exact hk))
    rw [coreN_getD] at h1
    have h2 : 0 ≤ (xs.getD k NoteI.zero).un ∧ (xs.getD k NoteI.zero).un ≤ (U : Int) - 1 := h1.2.2.1
    obtain ⟨m, hm⟩ := Int.eq_ofNat_of_zero_le h2.1
    exact ⟨m, hm, by omega, h1.2.2.2.1, h1.2.2.2.2.2.1⟩
  have hstep : ∀ k, clkTo (U : Int) (coreN xs) (k + 1) = clkStep (clkTo (U : Int) (coreN xs) k) (xs.getD k NoteI.zero).core := fun k => by rw [clkTo, coreN_getD]
  have hnew : newN (U : Int) (coreN xs) (q : Int) wo = ⟨(q : Int), (clkTo (U : Int) (coreN xs) n).getD q 0 + 1, (clkTo (U : Int) (coreN xs) n).set q ((clkTo (U : Int) (coreN xs) n).getD q 0 + 1), wo⟩ := by
    unfold newN upC
    rw [coreN_len, HL.out, Int.toNat_natCast]
  have HB := Lib.hid hb; have HI := Lib.hid hi0; have HSO := Lib.hid hso; have HCB := Lib.hid hcb; have HCW := Lib.hid hcw; have HCL := Lib.hid hcl; have HNU := Lib.hid hnu; have HST := Lib.hid hstep; have HNEW := Lib.hid hnew; have HLEN := Lib.hid hlen
  clear hb hi0 hso hcb hcw hcl hnu hstep hnew hlen
  obtain ⟨bv, hbv⟩ : ∃ b, writeB (U : Int) (coreN xs) (q : Int) wo = b := ⟨_, rfl⟩
  obtain ⟨rv, hrv⟩ : ∃ b, writeR (U : Int) (coreN xs) (q : Int) wo = b := ⟨_, rfl⟩
  have e2 : rv = if bv then putN (newN (U : Int) (coreN xs) (q : Int) wo) (coreN xs) else [] := by rw [← hrv, writeR, hbv]
  rw [hbv] at e1 ⊢
  rw [hrv]
  have HBV := Lib.hid e1; have HRV := Lib.hid e2
  clear e1 e2 hbv hrv
  have HH := Lib.hid h
  have HWO := Lib.hid hwo
  clear hwo hun
  obtain ⟨i0, hi, hz0, hz1, hz2⟩ := info_parts Try.info3
  obtain ⟨j0, hj, hy0, hy1, hy2⟩ := info_parts Try.info42
  go_enter Try.func14, Try.ntmps14
  go_wp2_with fail
  apply Mem.atA
  · (repeat' (first | with_reducible exact hM | with_reducible exact hMp | with_reducible apply Mem.drew | with_reducible apply Mem.drewN | with_reducible apply Mem.alloc | with_reducible apply Mem.set | with_reducible exact Sto.row | ((with_reducible refine Sto.rowEq2 ?_ ?_); omega; rfl) | ((with_reducible refine Sto.rowEq ?_); omega) | with_reducible apply Sto.int | with_reducible apply Sto.there | with_reducible assumption | (unfold I64; omega) | (with_reducible (have hMx := Mem.undrew hM; exact hMx)) | (with_reducible (have hMx := Mem.undrew hMp; exact hMx))))
  clear hM
  intro wst hM
  (try simp only [World.size_alloc, World.size_setCell, World.heap_drewN, heapDrew, Nat.add_assoc, Nat.reduceAdd, List.setIfInBounds_toArray, List.set_cons_zero, List.set_cons_succ, List.cons_append, List.nil_append] at hM)
  (first | refine (isNotebook_any (U : Int) a n c xs _ HUI.out (h.ext hM.below)).mono ?_)
  rw [HB.out]
  rintro e wc4 ⟨rfl, hb⟩
  replace hM := hM.ext hb
  clear hb
  go_wp2_with fail
  apply Mem.atA
  · (repeat' (first | with_reducible exact hM | with_reducible exact hMp | with_reducible apply Mem.drew | with_reducible apply Mem.drewN | with_reducible apply Mem.alloc | with_reducible apply Mem.set | with_reducible exact Sto.row | ((with_reducible refine Sto.rowEq2 ?_ ?_); omega; rfl) | ((with_reducible refine Sto.rowEq ?_); omega) | with_reducible apply Sto.int | with_reducible apply Sto.there | with_reducible assumption | (unfold I64; omega) | (with_reducible (have hMx := Mem.undrew hM; exact hMx)) | (with_reducible (have hMx := Mem.undrew hMp; exact hMx))))
  clear hM
  intro wst hM
  (try simp only [World.size_alloc, World.size_setCell, World.heap_drewN, heapDrew, Nat.add_assoc, Nat.reduceAdd, List.setIfInBounds_toArray, List.set_cons_zero, List.set_cons_succ, List.cons_append, List.nil_append] at hM)
  (first | refine (in_any _ _ _ _).mono ?_)
  rw [HI.out]
  rintro e wc5 ⟨rfl, rfl⟩
  skip
  go_wp2_with (at_make; apply Mem.atL; (focus ((repeat' (first | with_reducible exact hM | with_reducible exact hMp | with_reducible apply Mem.drew | with_reducible apply Mem.drewN | with_reducible apply Mem.alloc | with_reducible apply Mem.set | with_reducible exact Sto.row | ((with_reducible refine Sto.rowEq2 ?_ ?_); omega; rfl) | ((with_reducible refine Sto.rowEq ?_); omega) | with_reducible apply Sto.int | with_reducible apply Sto.there | with_reducible assumption | (unfold I64; omega) | (with_reducible (have hMx := Mem.undrew hM; exact hMx)) | (with_reducible (have hMx := Mem.undrew hMp; exact hMx)))); done)); clear hM; intro hM; refine wpList_make_full _ rfl _ _ 36 rfl _ 3 i0 (.int .i64 0) 1 Try.underlying36 hi hz0 hz1 .i64 .i64 U U U rfl rfl rfl rfl ?b1 ?b2 (Nat.le_refl _) ?_)
  case b1 => rw [hz2]; omega
  case b2 => unfold maxLen; omega
  intro wm hown hg
  replace hM := hM.own ((Below.refl _ _).grown hg (Nat.le_refl _) (by intro k hk; cases hk)) (own_made hown (by omega))
  clear hown hg
  obtain ⟨g, hg, -⟩ := (hM.ints .here).head (by omega)
  rw [hg] at hM ⊢
  clear hg
  have hz : List.replicate U (0 : Int) = clkTo (U : Int) (coreN xs) 0 := by rw [clkTo, Int.toNat_natCast]
  rw [hz] at hM
  clear hz
  go_wp2_with fail
  go_loopw [29] (fun s29 wr => ∃ k : Nat, k ≤ n ∧ s29 = .int .i64 k ∧ Mem w.heap.size w wr [intE (some ⟨g, 0, none⟩) U U (clkTo (U : Int) (coreN xs) k)]) (fun s29 _ => n - (intOf s29).toNat)
  case atStart => exact ⟨0, Nat.zero_le _, rfl, hM⟩
  case round =>
    clear hM
    obtain ⟨k, hk, rfl, hM⟩ := hrel
    by_cases hlt : k < n
    · obtain ⟨b, off, rfl, -, -⟩ := h.rd.at' _ hlt
      obtain ⟨m, hm, hmU, s0, s1⟩ := HNU.out k hlt
      have hcb := HCB.out k hk m
      have hst := HST.out k
      obtain ⟨x, hxx⟩ : ∃ x, xs.getD k NoteI.zero = x := ⟨_, rfl⟩
      rw [hxx] at hm s0 s1 hst
      have hc := ((h.rd.ext hM.below).cellNote hlt).2
      rw [hxx] at hc
      obtain ⟨xu, xq, xa, xn, xc, xl, xw⟩ := x
      dsimp only at hm s0 s1
      subst hm
      have hst2 : clkTo (U : Int) (coreN xs) (k + 1) = (clkTo (U : Int) (coreN xs) k).set m (moreI ((clkTo (U : Int) (coreN xs) k).getD m 0) xq) := hst
      have HSTP := Lib.hid hst2
      clear hst hst2 hxx
      have x0 := hc.1
      have x1 := hc.2.1
      have x2 := hc.2.2.1
      have x3 := hc.2.2.2
      clear hc
      dsimp only at x0 x1 x2 x3
      obtain ⟨cs, hcs⟩ : ∃ cs, clkTo (U : Int) (coreN xs) k = cs := ⟨_, rfl⟩
      rw [hcs] at hM hcb HSTP
      clear hcs
      obtain ⟨v, hv⟩ : ∃ v, cs.getD m 0 = v := ⟨_, rfl⟩
      rw [hv] at hcb HSTP
      have HV := Lib.hid hv
      clear hv
      have i0' : (0 : Int) ≤ (k : Int) := by omega
      have i1 : (k : Int) < (n : Int) := by omega
      have m0 : (0 : Int) ≤ (m : Int) := by omega
      have m1 : (m : Int) < (U : Int) := by omega
      go_upto_region 7 with fail
      apply Mem.atWpA
      · (repeat' (first | with_reducible exact hM | with_reducible exact hMp | with_reducible apply Mem.drew | with_reducible apply Mem.drewN | with_reducible apply Mem.alloc | with_reducible apply Mem.set | with_reducible exact Sto.row | ((with_reducible refine Sto.rowEq2 ?_ ?_); omega; rfl) | ((with_reducible refine Sto.rowEq ?_); omega) | with_reducible apply Sto.int | with_reducible apply Sto.there | with_reducible assumption | (unfold I64; omega) | (with_reducible (have hMx := Mem.undrew hM; exact hMx)) | (with_reducible (have hMx := Mem.undrew hMp; exact hMx))))
      clear hM
      intro wst hM
      (try simp only [World.size_alloc, World.size_setCell, World.heap_drewN, heapDrew, Nat.add_assoc, Nat.reduceAdd, List.setIfInBounds_toArray, List.set_cons_zero, List.set_cons_succ, List.cons_append, List.nil_append] at hM)
      clear x0 x1 x2 x3
      by_cases hvs : v < xq
      · have HM1 := Lib.hid (show moreI v xq = xq from if_pos hvs)
        have hwx : I64 xq := by unfold I64; omega
        rw [HM1.out] at HSTP
        clear HM1
        refine AtT.startA hM hM 12 (by kernel_rfl) ?_
        clear hM
        intro wd hM
        have hS := hM
        refine AtT.taked (i := 0) (v := ?_) (some 33) rfl rfl (by kernel_rfl) (by kernel_rfl) (by kernel_rfl) (by kernel_rfl) (fun _ _ _ h => h) (Or.inl ⟨by kernel_rfl, ?_⟩) hS ?_
        rotate_left
        · (intro wS hSw; (try dsimp only at hSw); go_simp; (try rw [if_neg (by omega)]); try with_reducible rfl)
        simp only [Act.put, List.setIfInBounds_toArray, List.set_cons_zero, List.set_cons_succ]
        refine AtT.taked (i := 1) (v := ?_) (some 34) rfl rfl (by kernel_rfl) (by kernel_rfl) (by kernel_rfl) (by kernel_rfl) (fun _ _ _ h => h) (Or.inl ⟨by kernel_rfl, ?_⟩) hS ?_
        rotate_left
        · (intro wS hSw; (try dsimp only at hSw); go_simp; (try rw [if_neg (by omega)]); try with_reducible rfl)
        simp only [Act.put, List.setIfInBounds_toArray, List.set_cons_zero, List.set_cons_succ]
        refine AtT.taked (i := 2) (v := ?_) (some 35) rfl rfl (by kernel_rfl) (by kernel_rfl) (by kernel_rfl) (by kernel_rfl) (fun _ _ _ h => h) (Or.inl ⟨by kernel_rfl, ?_⟩) hS ?_
        rotate_left
        · (intro wS hSw; (try dsimp only at hSw); have kr0 := (Mem.row hSw .here).cell; have r4 := (hSw.ints (.there .here)).cellAt hmU; rw [HV.out] at r4; go_simp; (try rw [if_neg (by omega)]); try with_reducible rfl)
        simp only [Act.put, List.setIfInBounds_toArray, List.set_cons_zero, List.set_cons_succ]
        refine AtT.taked (i := 3) (v := ?_) (some 36) rfl rfl (by kernel_rfl) (by kernel_rfl) (by kernel_rfl) (by kernel_rfl) (fun _ _ _ h => h) (Or.inl ⟨by kernel_rfl, ?_⟩) hS ?_
        rotate_left
        · (intro wS hSw; (try dsimp only at hSw); go_simp; (try rw [if_neg (by omega)]); try with_reducible rfl)
        simp only [Act.put, List.setIfInBounds_toArray, List.set_cons_zero, List.set_cons_succ]
        refine AtT.taked (i := 4) (v := ?_) (some 37) rfl rfl (by kernel_rfl) (by kernel_rfl) (by kernel_rfl) (by kernel_rfl) (fun _ _ _ h => h) (Or.inl ⟨by kernel_rfl, ?_⟩) hS ?_
        rotate_left
        · (intro wS hSw; (try dsimp only at hSw); go_simp; (try rw [if_neg (by omega)]); try with_reducible rfl)
        simp only [Act.put, List.setIfInBounds_toArray, List.set_cons_zero, List.set_cons_succ]
        refine AtT.taked (i := 5) (v := ?_) (some 38) rfl rfl (by kernel_rfl) (by kernel_rfl) (by kernel_rfl) (by kernel_rfl) (fun _ _ _ h => h) (Or.inl ⟨by kernel_rfl, ?_⟩) hS ?_
        rotate_left
        · (intro wS hSw; (try dsimp only at hSw); have kr0 := (Mem.row hSw .here).cell; have r4 := (hSw.ints (.there .here)).cellAt hmU; rw [HV.out] at r4; go_simp; (try rw [if_neg (by omega)]); try with_reducible rfl)
        simp only [Act.put, List.setIfInBounds_toArray, List.set_cons_zero, List.set_cons_succ]
        refine AtT.taked (i := 6) (v := ?_) (some 39) rfl rfl (by kernel_rfl) (by kernel_rfl) (by kernel_rfl) (by kernel_rfl) (fun _ _ _ h => h) (Or.inl ⟨by kernel_rfl, ?_⟩) hS ?_
        rotate_left
        · (intro wS hSw; (try dsimp only at hSw); have kr0 := (Mem.row hSw .here).cell; have r4 := (hSw.ints (.there .here)).cellAt hmU; rw [HV.out] at r4; go_simp; (try rw [if_neg (by omega)]); try with_reducible rfl)
        simp only [Act.put, List.setIfInBounds_toArray, List.set_cons_zero, List.set_cons_succ]
        refine AtT.taked (i := 7) (v := ?_) (some 40) rfl rfl (by kernel_rfl) (by kernel_rfl) (by kernel_rfl) (by kernel_rfl) (fun _ _ _ h => h) (Or.inl ⟨by kernel_rfl, ?_⟩) hS ?_
        rotate_left
        · (intro wS hSw; (try dsimp only at hSw); have kr0 := (Mem.row hSw .here).cell; have r4 := (hSw.ints (.there .here)).cellAt hmU; rw [HV.out] at r4; go_simp; (try rw [if_neg (by omega)]); try with_reducible rfl)
        simp only [Act.put, List.setIfInBounds_toArray, List.set_cons_zero, List.set_cons_succ]
        refine AtT.taked (i := 8) (v := ?_) (some 41) rfl rfl (by kernel_rfl) (by kernel_rfl) (by kernel_rfl) (by kernel_rfl) (fun _ _ _ h => h) (Or.inl ⟨by kernel_rfl, ?_⟩) hS ?_
        rotate_left
        · (intro wS hSw; (try dsimp only at hSw); go_simp; (try rw [if_neg (by omega)]); try with_reducible rfl)
        simp only [Act.put, List.setIfInBounds_toArray, List.set_cons_zero, List.set_cons_succ]
        refine AtT.taked (i := 9) (v := ?_) (some 42) rfl rfl (by kernel_rfl) (by kernel_rfl) (by kernel_rfl) (by kernel_rfl) (fun _ _ _ h => h) (Or.inl ⟨by kernel_rfl, ?_⟩) hS ?_
        rotate_left
        · (intro wS hSw; (try dsimp only at hSw); have kr0 := (Mem.row hSw .here).cell; have r4 := (hSw.ints (.there .here)).cellAt hmU; rw [HV.out] at r4; go_simp; (try rw [if_neg (by omega)]); try with_reducible rfl)
        simp only [Act.put, List.setIfInBounds_toArray, List.set_cons_zero, List.set_cons_succ]
        refine AtT.taked (i := 10) (v := ?_) (some 43) rfl rfl (by kernel_rfl) (by kernel_rfl) (by kernel_rfl) (by kernel_rfl) (fun _ _ _ h => h) (Or.inl ⟨by kernel_rfl, ?_⟩) hS ?_
        rotate_left
        · (intro wS hSw; (try dsimp only at hSw); go_simp; (try rw [if_neg (by omega)]); try with_reducible rfl)
        simp only [Act.put, List.setIfInBounds_toArray, List.set_cons_zero, List.set_cons_succ]
        refine AtT.taked (i := 11) (v := ?_) (some 44) rfl rfl (by kernel_rfl) (by kernel_rfl) (by kernel_rfl) (by kernel_rfl) (fun _ _ _ h => h) (Or.inl ⟨by kernel_rfl, ?_⟩) hS ?_
        rotate_left
        · (intro wS hSw; (try dsimp only at hSw); have kr0 := (Mem.row hSw .here).cell; have r4 := (hSw.ints (.there .here)).cellAt hmU; rw [HV.out] at r4; go_simp; (try rw [if_neg (by omega)]); try with_reducible rfl)
        simp only [Act.put, List.setIfInBounds_toArray, List.set_cons_zero, List.set_cons_succ]
        refine AtT.last (by kernel_rfl) rfl (by kernel_rfl) ?_
        intro K hK
        clear hS
        have kk0 := (hM.row .here).cell
        have ff0 := (hM.row .here).free
        have ll0 := (hM.row .here).lt
        have hce := (hM.ints (.there .here)).cellAt hmU
        have hfe := (hM.ints (.there .here)).freeAt m
        go_simp
        clear kk0 ff0 ll0
        refine hK.out _ _ ?_
        clear hK K
        go_wp2
        go_roundw
        case rel => exact ⟨k + 1, by omega, by go_num, by rw [HSTP.out]; exact hM.tail.set (Sto.int hwx)⟩
        case measure => simp [intOf]; omega
      · have HM1 := Lib.hid (show moreI v xq = v from if_neg hvs)
        have hwx : I64 v := by unfold I64; omega
        rw [HM1.out] at HSTP
        clear HM1
        refine AtT.startA hM hM 12 (by kernel_rfl) ?_
        clear hM
        intro wd hM
        have hS := hM
        refine AtT.taked (i := 0) (v := ?_) (some 33) rfl rfl (by kernel_rfl) (by kernel_rfl) (by kernel_rfl) (by kernel_rfl) (fun _ _ _ h => h) (Or.inl ⟨by kernel_rfl, ?_⟩) hS ?_
        rotate_left
        · (intro wS hSw; (try dsimp only at hSw); go_simp; (try rw [if_neg (by omega)]); try with_reducible rfl)
        simp only [Act.put, List.setIfInBounds_toArray, List.set_cons_zero, List.set_cons_succ]
        refine AtT.taked (i := 1) (v := ?_) (some 34) rfl rfl (by kernel_rfl) (by kernel_rfl) (by kernel_rfl) (by kernel_rfl) (fun _ _ _ h => h) (Or.inl ⟨by kernel_rfl, ?_⟩) hS ?_
        rotate_left
        · (intro wS hSw; (try dsimp only at hSw); go_simp; (try rw [if_neg (by omega)]); try with_reducible rfl)
        simp only [Act.put, List.setIfInBounds_toArray, List.set_cons_zero, List.set_cons_succ]
        refine AtT.taked (i := 2) (v := ?_) (some 35) rfl rfl (by kernel_rfl) (by kernel_rfl) (by kernel_rfl) (by kernel_rfl) (fun _ _ _ h => h) (Or.inl ⟨by kernel_rfl, ?_⟩) hS ?_
        rotate_left
        · (intro wS hSw; (try dsimp only at hSw); have kr0 := (Mem.row hSw .here).cell; have r4 := (hSw.ints (.there .here)).cellAt hmU; rw [HV.out] at r4; go_simp; (try rw [if_neg (by omega)]); try with_reducible rfl)
        simp only [Act.put, List.setIfInBounds_toArray, List.set_cons_zero, List.set_cons_succ]
        refine AtT.taked (i := 3) (v := ?_) (some 36) rfl rfl (by kernel_rfl) (by kernel_rfl) (by kernel_rfl) (by kernel_rfl) (fun _ _ _ h => h) (Or.inl ⟨by kernel_rfl, ?_⟩) hS ?_
        rotate_left
        · (intro wS hSw; (try dsimp only at hSw); go_simp; (try rw [if_neg (by omega)]); try with_reducible rfl)
        simp only [Act.put, List.setIfInBounds_toArray, List.set_cons_zero, List.set_cons_succ]
        refine AtT.taked (i := 4) (v := ?_) (some 37) rfl rfl (by kernel_rfl) (by kernel_rfl) (by kernel_rfl) (by kernel_rfl) (fun _ _ _ h => h) (Or.inl ⟨by kernel_rfl, ?_⟩) hS ?_
        rotate_left
        · (intro wS hSw; (try dsimp only at hSw); go_simp; (try rw [if_neg (by omega)]); try with_reducible rfl)
        simp only [Act.put, List.setIfInBounds_toArray, List.set_cons_zero, List.set_cons_succ]
        refine AtT.taked (i := 5) (v := ?_) (some 38) rfl rfl (by kernel_rfl) (by kernel_rfl) (by kernel_rfl) (by kernel_rfl) (fun _ _ _ h => h) (Or.inl ⟨by kernel_rfl, ?_⟩) hS ?_
        rotate_left
        · (intro wS hSw; (try dsimp only at hSw); have kr0 := (Mem.row hSw .here).cell; have r4 := (hSw.ints (.there .here)).cellAt hmU; rw [HV.out] at r4; go_simp; (try rw [if_neg (by omega)]); try with_reducible rfl)
        simp only [Act.put, List.setIfInBounds_toArray, List.set_cons_zero, List.set_cons_succ]
        refine AtT.taked (i := 6) (v := ?_) (some 39) rfl rfl (by kernel_rfl) (by kernel_rfl) (by kernel_rfl) (by kernel_rfl) (fun _ _ _ h => h) (Or.inl ⟨by kernel_rfl, ?_⟩) hS ?_
        rotate_left
        · (intro wS hSw; (try dsimp only at hSw); have kr0 := (Mem.row hSw .here).cell; have r4 := (hSw.ints (.there .here)).cellAt hmU; rw [HV.out] at r4; go_simp; (try rw [if_neg (by omega)]); try with_reducible rfl)
        simp only [Act.put, List.setIfInBounds_toArray, List.set_cons_zero, List.set_cons_succ]
        refine AtT.taked (i := 7) (v := ?_) (some 40) rfl rfl (by kernel_rfl) (by kernel_rfl) (by kernel_rfl) (by kernel_rfl) (fun _ _ _ h => h) (Or.inl ⟨by kernel_rfl, ?_⟩) hS ?_
        rotate_left
        · (intro wS hSw; (try dsimp only at hSw); have kr0 := (Mem.row hSw .here).cell; have r4 := (hSw.ints (.there .here)).cellAt hmU; rw [HV.out] at r4; go_simp; (try rw [if_neg (by omega)]); try with_reducible rfl)
        simp only [Act.put, List.setIfInBounds_toArray, List.set_cons_zero, List.set_cons_succ]
        refine AtT.taked (i := 8) (v := ?_) (some 41) rfl rfl (by kernel_rfl) (by kernel_rfl) (by kernel_rfl) (by kernel_rfl) (fun _ _ _ h => h) (Or.inl ⟨by kernel_rfl, ?_⟩) hS ?_
        rotate_left
        · (intro wS hSw; (try dsimp only at hSw); go_simp; (try rw [if_neg (by omega)]); try with_reducible rfl)
        simp only [Act.put, List.setIfInBounds_toArray, List.set_cons_zero, List.set_cons_succ]
        refine AtT.taked (i := 9) (v := ?_) (some 42) rfl rfl (by kernel_rfl) (by kernel_rfl) (by kernel_rfl) (by kernel_rfl) (fun _ _ _ h => h) (Or.inl ⟨by kernel_rfl, ?_⟩) hS ?_
        rotate_left
        · (intro wS hSw; (try dsimp only at hSw); have kr0 := (Mem.row hSw .here).cell; have r4 := (hSw.ints (.there .here)).cellAt hmU; rw [HV.out] at r4; go_simp; (try rw [if_neg (by omega)]); try with_reducible rfl)
        simp only [Act.put, List.setIfInBounds_toArray, List.set_cons_zero, List.set_cons_succ]
        refine AtT.taked (i := 10) (v := ?_) (some 43) rfl rfl (by kernel_rfl) (by kernel_rfl) (by kernel_rfl) (by kernel_rfl) (fun _ _ _ h => h) (Or.inl ⟨by kernel_rfl, ?_⟩) hS ?_
        rotate_left
        · (intro wS hSw; (try dsimp only at hSw); go_simp; (try rw [if_neg (by omega)]); try with_reducible rfl)
        simp only [Act.put, List.setIfInBounds_toArray, List.set_cons_zero, List.set_cons_succ]
        refine AtT.taked (i := 11) (v := ?_) (some 44) rfl rfl (by kernel_rfl) (by kernel_rfl) (by kernel_rfl) (by kernel_rfl) (fun _ _ _ h => h) (Or.inl ⟨by kernel_rfl, ?_⟩) hS ?_
        rotate_left
        · (intro wS hSw; (try dsimp only at hSw); have kr0 := (Mem.row hSw .here).cell; have r4 := (hSw.ints (.there .here)).cellAt hmU; rw [HV.out] at r4; go_simp; (try rw [if_neg (by omega)]); try with_reducible rfl)
        simp only [Act.put, List.setIfInBounds_toArray, List.set_cons_zero, List.set_cons_succ]
        refine AtT.last (by kernel_rfl) rfl (by kernel_rfl) ?_
        intro K hK
        clear hS
        have kk0 := (hM.row .here).cell
        have ff0 := (hM.row .here).free
        have ll0 := (hM.row .here).lt
        have hce := (hM.ints (.there .here)).cellAt hmU
        have hfe := (hM.ints (.there .here)).freeAt m
        go_simp
        clear kk0 ff0 ll0
        refine hK.out _ _ ?_
        clear hK K
        go_wp2
        go_roundw
        case rel => exact ⟨k + 1, by omega, by go_num, by rw [HSTP.out]; exact hM.tail.set (Sto.int hwx)⟩
        case measure => simp [intOf]; omega
    · obtain rfl : k = n := by omega
      have hcb := HCB.out k (Nat.le_refl _) q
      have hnew := HNEW.out
      obtain ⟨cs, hcs⟩ : ∃ cs, clkTo (U : Int) (coreN xs) k = cs := ⟨_, rfl⟩
      have hcl := HCL.out k
      rw [hcs] at hM hcb hnew hcl
      clear hcs hlt hk
      obtain ⟨v, hv⟩ : ∃ v, cs.getD q 0 = v := ⟨_, rfl⟩
      rw [hv] at hcb hnew
      have HV := Lib.hid hv
      clear hv
      have hcg : (cs.set q (v + 1)).getD q 0 = v + 1 := by rw [getD_setI, if_pos rfl, if_pos (by rw [hcl]; exact hqU)]
      have HCG := Lib.hid hcg; have HNW := Lib.hid hnew
      clear hcg hnew hcl
      have hce := (hM.ints .here).cellAt hqU
      have hfe := (hM.ints .here).freeAt q
      rw [HV.out] at hce
      have q0 : (0 : Int) ≤ (q : Int) := by omega
      have q1 : (q : Int) < (U : Int) := by omega
      have hwv : IntKind.i64.wrap (v + 1) = v + 1 := wrap_in (by omega)
      have hw1 : I64 (v + 1) := by unfold I64; omega
      go_upto_region 10 with fail
      apply Mem.atWpA
      · (repeat' (first | with_reducible exact hM | with_reducible exact hMp | with_reducible apply Mem.drew | with_reducible apply Mem.drewN | with_reducible apply Mem.alloc | with_reducible apply Mem.set | with_reducible exact Sto.row | ((with_reducible refine Sto.rowEq2 ?_ ?_); omega; rfl) | ((with_reducible refine Sto.rowEq ?_); omega) | with_reducible apply Sto.int | with_reducible apply Sto.there | with_reducible assumption | (unfold I64; omega) | (with_reducible (have hMx := Mem.undrew hM; exact hMx)) | (with_reducible (have hMx := Mem.undrew hMp; exact hMx))))
      clear hM
      intro wst hM
      (try simp only [World.size_alloc, World.size_setCell, World.heap_drewN, heapDrew, Nat.add_assoc, Nat.reduceAdd, List.setIfInBounds_toArray, List.set_cons_zero, List.set_cons_succ, List.cons_append, List.nil_append] at hM)
      clear hce hfe
      obtain ⟨CL, hCL⟩ : ∃ CL, cs.set q (v + 1) = CL := ⟨_, rfl⟩
      rw [hCL] at hM HCG HNW
      clear hCL HV
      obtain ⟨v1', hv1'⟩ : ∃ z, v + 1 = z := ⟨_, rfl⟩
      rw [hv1'] at HCG HNW hw1 hwv
      clear hv1' hwv hcb
      have hI := hM.ints .here
      have HNI := Lib.hid (show newN (U : Int) (coreN xs) (q : Int) wo = (⟨(q : Int), v1', some ⟨g, 0, none⟩, U, U, CL, wo⟩ : NoteI).core from HNW.out)
      have HWF := Lib.hid (show FNote.wf (⟨(q : Int), v1', some ⟨g, 0, none⟩, U, U, CL, wo⟩ : NoteI) from ⟨by show I64 (q : Int); unfold I64; omega, hw1, HWO.out⟩)
      clear hI
      go_cut [13] (fun s13 wx => ∃ (g7 c7 : Nat) (ys : List NoteI), s13 = .slice (some ⟨g7, 0, none⟩) (k + 1) c7 ∧ Hid (coreN ys = putN (newN (U : Int) (coreN xs) (q : Int) wo) (coreN xs)) ∧ Mem w.heap.size w wx [noteE (some ⟨g7, 0, none⟩) (k + 1) c7 ys])
      case first =>
        refine AtT.startA hM hM 13 (by kernel_rfl) ?_
        clear hM
        intro wd hM
        have hS := hM
        refine AtT.taked (i := 0) (v := ?_) (some 52) rfl rfl (by kernel_rfl) (by kernel_rfl) (by kernel_rfl) (by kernel_rfl) (fun _ _ _ h => h) (Or.inl ⟨by kernel_rfl, ?_⟩) hS ?_
        rotate_left
        · (intro wS hSw; (try dsimp only at hSw); go_simp; (try rw [if_neg (by omega)]); try with_reducible rfl)
        simp only [Act.put, List.setIfInBounds_toArray, List.set_cons_zero, List.set_cons_succ]
        refine AtT.taked (i := 2) (v := ?_) (some 54) rfl rfl (by kernel_rfl) (by kernel_rfl) (by kernel_rfl) (by kernel_rfl) (fun _ _ _ h => h) (Or.inl ⟨by kernel_rfl, ?_⟩) hS ?_
        rotate_left
        · (intro wS hSw; (try dsimp only at hSw); go_simp; (try rw [if_neg (by omega)]); try with_reducible rfl)
        simp only [Act.put, List.setIfInBounds_toArray, List.set_cons_zero, List.set_cons_succ]
        refine AtT.taked (i := 3) (v := ?_) (some 55) rfl rfl (by kernel_rfl) (by kernel_rfl) (by kernel_rfl) (by kernel_rfl) (fun _ _ _ h => h) (Or.inl ⟨by kernel_rfl, ?_⟩) hS ?_
        rotate_left
        · (intro wS hSw; (try dsimp only at hSw); go_simp; (try rw [if_neg (by omega)]); try with_reducible rfl)
        simp only [Act.put, List.setIfInBounds_toArray, List.set_cons_zero, List.set_cons_succ]
        refine AtT.taked (i := 4) (v := ?_) (some 56) rfl rfl (by kernel_rfl) (by kernel_rfl) (by kernel_rfl) (by kernel_rfl) (fun _ _ _ h => h) (Or.inl ⟨by kernel_rfl, ?_⟩) hS ?_
        rotate_left
        · (intro wS hSw; (try dsimp only at hSw); go_simp; (try rw [if_neg (by omega)]); try with_reducible rfl)
        simp only [Act.put, List.setIfInBounds_toArray, List.set_cons_zero, List.set_cons_succ]
        refine AtT.taked (i := 5) (v := ?_) (some 57) rfl rfl (by kernel_rfl) (by kernel_rfl) (by kernel_rfl) (by kernel_rfl) (fun _ _ _ h => h) (Or.inl ⟨by kernel_rfl, ?_⟩) hS ?_
        rotate_left
        · (intro wS hSw; (try dsimp only at hSw); have r4 := (hSw.ints .here).cellAt hqU; rw [HCG.out] at r4; go_simp; (try rw [if_neg (by omega)]); try with_reducible rfl)
        simp only [Act.put, List.setIfInBounds_toArray, List.set_cons_zero, List.set_cons_succ]
        refine AtT.taked (i := 6) (v := ?_) (some 58) rfl rfl (by kernel_rfl) (by kernel_rfl) (by kernel_rfl) (by kernel_rfl) (fun _ _ _ h => h) (Or.inl ⟨by kernel_rfl, ?_⟩) hS ?_
        rotate_left
        · (intro wS hSw; (try dsimp only at hSw); have r4 := (hSw.ints .here).cellAt hqU; rw [HCG.out] at r4; go_simp; (try rw [if_neg (by omega)]); try with_reducible rfl)
        simp only [Act.put, List.setIfInBounds_toArray, List.set_cons_zero, List.set_cons_succ]
        refine AtT.taked (i := 7) (v := ?_) (some 59) rfl rfl (by kernel_rfl) (by kernel_rfl) (by kernel_rfl) (by kernel_rfl) (fun _ _ _ h => h) (Or.inl ⟨by kernel_rfl, ?_⟩) hS ?_
        rotate_left
        · (intro wS hSw; (try dsimp only at hSw); go_simp; (try rw [if_neg (by omega)]); try with_reducible rfl)
        simp only [Act.put, List.setIfInBounds_toArray, List.set_cons_zero, List.set_cons_succ]
        refine AtT.taked (i := 8) (v := ?_) (some 60) rfl rfl (by kernel_rfl) (by kernel_rfl) (by kernel_rfl) (by kernel_rfl) (fun _ _ _ h => h) (Or.inl ⟨by kernel_rfl, ?_⟩) hS ?_
        rotate_left
        · (intro wS hSw; (try dsimp only at hSw); go_simp; (try rw [if_neg (by omega)]); try with_reducible rfl)
        simp only [Act.put, List.setIfInBounds_toArray, List.set_cons_zero, List.set_cons_succ]
        refine AtT.taked (i := 9) (v := ?_) (some 61) rfl rfl (by kernel_rfl) (by kernel_rfl) (by kernel_rfl) (by kernel_rfl) (fun _ _ _ h => h) (Or.inl ⟨by kernel_rfl, ?_⟩) hS ?_
        rotate_left
        · (intro wS hSw; (try dsimp only at hSw); go_simp; (try rw [if_neg (by omega)]); try with_reducible rfl)
        simp only [Act.put, List.setIfInBounds_toArray, List.set_cons_zero, List.set_cons_succ]
        refine AtT.two (i := 1) (j := 10) (by kernel_rfl) rfl rfl rfl rfl ?_ ?_
        · skip
          intro K hK
          go_simp
          refine (copyNote_any a k c xs _ (HH.out.rd.ext hM.below) (by omega)).mono ?_
          rintro e w3 ⟨a2, c2, rfl, hm⟩
          replace hM := hM.join hm
          clear hm
          dsimp only [List.cons_append, List.nil_append] at hM
          try dsimp only
          refine hK.out _ _ (hM.tail) ?_
          clear hK K hS
          have hS := hM.tail
          refine AtT.only (i := 10) (by kernel_rfl) rfl rfl ?_
          intro K hK
          go_simp
          refine hK.out _ _ (by apply Mem.tail; apply Mem.tail; (repeat' (first | with_reducible exact hM | with_reducible exact hMp | with_reducible apply Mem.drew | with_reducible apply Mem.drewN | with_reducible apply Mem.alloc | with_reducible apply Mem.set | with_reducible exact Sto.row | ((with_reducible refine Sto.rowEq2 ?_ ?_); omega; rfl) | ((with_reducible refine Sto.rowEq ?_); omega) | with_reducible apply Sto.int | with_reducible apply Sto.there | with_reducible assumption | (unfold I64; omega) | (with_reducible (have hMx := Mem.undrew hM; exact hMx)) | (with_reducible (have hMx := Mem.undrew hMp; exact hMx))))) ?_
          clear hK K hS
          have hMp := hM
          apply Mem.atT
          · (repeat' (first | with_reducible exact hM | with_reducible exact hMp | with_reducible apply Mem.drew | with_reducible apply Mem.drewN | with_reducible apply Mem.alloc | with_reducible apply Mem.set | with_reducible exact Sto.row | ((with_reducible refine Sto.rowEq2 ?_ ?_); omega; rfl) | ((with_reducible refine Sto.rowEq ?_); omega) | with_reducible apply Sto.int | with_reducible apply Sto.there | with_reducible assumption | (unfold I64; omega) | (with_reducible (have hMx := Mem.undrew hM; exact hMx)) | (with_reducible (have hMx := Mem.undrew hMp; exact hMx))))
          clear hM
          intro hM
          (try simp only [World.size_alloc, World.size_setCell, World.heap_drewN, heapDrew, Nat.add_assoc, Nat.reduceAdd, List.setIfInBounds_toArray, List.set_cons_zero, List.set_cons_succ, List.cons_append, List.nil_append] at hM)
          have hS := hM.tail.tail
          refine AtT.only (i := 11) (by kernel_rfl) rfl rfl ?_
          intro K hK
          refine step_appRM (F := FNote) hM (fun _ => (.there .here)) (hM.oneRec (⟨(q : Int), v1', some ⟨g, 0, none⟩, U, U, CL, wo⟩ : NoteI) .here rfl HWF.out (by decide)) (by show (k + 1) * 4 ≤ _; omega) j0 (.agg #[.int .i64 0, .int .i64 0, .slice none 0 0, .string ⟨#[]⟩]) 56 hj hy0 hy1 hy2 rfl (by omega) rfl _ _ _ Try.underlying24 rfl rfl rfl ?_
          clear hM
          intro a6 c6 w6 hM
          try dsimp only
          refine hK.out _ _ (hM.tail.tail) ?_
          clear hK K hS
          have hS := hM.tail.tail
          refine AtT.only (i := 12) (by kernel_rfl) rfl rfl ?_
          intro K hK
          go_simp
          refine (copied_any a6 (k + 1) c6 (xs ++ [(⟨(q : Int), v1', some ⟨g, 0, none⟩, U, U, CL, wo⟩ : NoteI)]) _ ⟨(hM.ow (.there .here)).rd, fun z hz => (by rcases List.mem_append.1 hz with hz | hz; exact (HH.out.cl z hz).ext hM.below; obtain rfl := List.mem_singleton.1 hz; exact (hM.ints (.there (.there .here))).ints)⟩ (by omega)).mono ?_
          rintro e w7 ⟨g7, c7, ys, hyc, rfl, hm⟩
          replace hM := hM.join hm
          have HYC := Lib.hid hyc
          clear hm hyc
          dsimp only [List.cons_append, List.nil_append] at hM
          try dsimp only
          refine hK.out _ _ (hM.tail.tail.tail.tail) ?_
          clear hK K hS
          have hS := hM.tail.tail.tail.tail
          refine AtT.last (by kernel_rfl) rfl (by kernel_rfl) ?_
          intro K hK
          clear hS
          go_simp
          refine hK.out _ _ ?_
          clear hK K
          have hM9 := Lib.hid (Mem.notesClose (Mem.pick (is := [0, 1]) hM (by decide) rfl))
          have HCY := Lib.hid (show coreN ys = putN (newN (U : Int) (coreN xs) (q : Int) wo) (coreN xs) by rw [HYC.out, ← HSO.out, HNI.out]; unfold coreN; rw [List.map_append]; rfl)
          clear hM
          go_wp2_with fail
          go_meet
          exact ⟨g7, c7, ys, rfl, HCY, hM9.out⟩
        · skip
          intro K hK
          go_simp
          refine hK.out _ _ (by apply Mem.tail; (repeat' (first | with_reducible exact hM | with_reducible exact hMp | with_reducible apply Mem.drew | with_reducible apply Mem.drewN | with_reducible apply Mem.alloc | with_reducible apply Mem.set | with_reducible exact Sto.row | ((with_reducible refine Sto.rowEq2 ?_ ?_); omega; rfl) | ((with_reducible refine Sto.rowEq ?_); omega) | with_reducible apply Sto.int | with_reducible apply Sto.there | with_reducible assumption | (unfold I64; omega) | (with_reducible (have hMx := Mem.undrew hM; exact hMx)) | (with_reducible (have hMx := Mem.undrew hMp; exact hMx))))) ?_
          clear hK K hS
          have hMp := hM
          apply Mem.atT
          · (repeat' (first | with_reducible exact hM | with_reducible exact hMp | with_reducible apply Mem.drew | with_reducible apply Mem.drewN | with_reducible apply Mem.alloc | with_reducible apply Mem.set | with_reducible exact Sto.row | ((with_reducible refine Sto.rowEq2 ?_ ?_); omega; rfl) | ((with_reducible refine Sto.rowEq ?_); omega) | with_reducible apply Sto.int | with_reducible apply Sto.there | with_reducible assumption | (unfold I64; omega) | (with_reducible (have hMx := Mem.undrew hM; exact hMx)) | (with_reducible (have hMx := Mem.undrew hMp; exact hMx))))
          clear hM
          intro hM
          (try simp only [World.size_alloc, World.size_setCell, World.heap_drewN, heapDrew, Nat.add_assoc, Nat.reduceAdd, List.setIfInBounds_toArray, List.set_cons_zero, List.set_cons_succ, List.cons_append, List.nil_append] at hM)
          have hS := hM.tail
          refine AtT.only (i := 1) (by kernel_rfl) rfl rfl ?_
          intro K hK
          go_simp
          refine (copyNote_any a k c xs _ (HH.out.rd.ext hM.below) (by omega)).mono ?_
          rintro e w3 ⟨a2, c2, rfl, hm⟩
          replace hM := hM.join hm
          clear hm
          dsimp only [List.cons_append, List.nil_append] at hM
          try dsimp only
          refine hK.out _ _ (hM.tail.tail) ?_
          clear hK K hS
          have hS := hM.tail.tail
          refine AtT.only (i := 11) (by kernel_rfl) rfl rfl ?_
          intro K hK
          refine step_appRM (F := FNote) hM (fun _ => .here) (hM.oneRec (⟨(q : Int), v1', some ⟨g, 0, none⟩, U, U, CL, wo⟩ : NoteI) (.there .here) rfl HWF.out (by decide)) (by show (k + 1) * 4 ≤ _; omega) j0 (.agg #[.int .i64 0, .int .i64 0, .slice none 0 0, .string ⟨#[]⟩]) 56 hj hy0 hy1 hy2 rfl (by omega) rfl _ _ _ Try.underlying24 rfl rfl rfl ?_
          clear hM
          intro a6 c6 w6 hM
          try dsimp only
          refine hK.out _ _ (hM.tail.tail) ?_
          clear hK K hS
          have hS := hM.tail.tail
          refine AtT.only (i := 12) (by kernel_rfl) rfl rfl ?_
          intro K hK
          go_simp
          refine (copied_any a6 (k + 1) c6 (xs ++ [(⟨(q : Int), v1', some ⟨g, 0, none⟩, U, U, CL, wo⟩ : NoteI)]) _ ⟨(hM.ow .here).rd, fun z hz => (by rcases List.mem_append.1 hz with hz | hz; exact (HH.out.cl z hz).ext hM.below; obtain rfl := List.mem_singleton.1 hz; exact (hM.ints (.there (.there .here))).ints)⟩ (by omega)).mono ?_
          rintro e w7 ⟨g7, c7, ys, hyc, rfl, hm⟩
          replace hM := hM.join hm
          have HYC := Lib.hid hyc
          clear hm hyc
          dsimp only [List.cons_append, List.nil_append] at hM
          try dsimp only
          refine hK.out _ _ (hM.tail.tail.tail.tail) ?_
          clear hK K hS
          have hS := hM.tail.tail.tail.tail
          refine AtT.last (by kernel_rfl) rfl (by kernel_rfl) ?_
          intro K hK
          clear hS
          go_simp
          refine hK.out _ _ ?_
          clear hK K
          have hM9 := Lib.hid (Mem.notesClose (Mem.pick (is := [0, 1]) hM (by decide) rfl))
          have HCY := Lib.hid (show coreN ys = putN (newN (U : Int) (coreN xs) (q : Int) wo) (coreN xs) by rw [HYC.out, ← HSO.out, HNI.out]; unfold coreN; rw [List.map_append]; rfl)
          clear hM
          go_wp2_with fail
          go_meet
          exact ⟨g7, c7, ys, rfl, HCY, hM9.out⟩
      case rest =>
        clear hM
        obtain ⟨g7, c7, ys, rfl, HCY, hM⟩ := hcut
        have hbk : bookB (U : Int) (coreN ys) = bv := by rw [HCY.out, HBV.out]
        have hrk : rv = if bv then coreN ys else [] := by rw [HCY.out, HRV.out]
        have hyl : (coreN ys).length = k + 1 := by rw [HCY.out, HLEN.out]
        have HBK := Lib.hid hbk; have HRK := Lib.hid hrk; have HYL := Lib.hid hyl
        clear hbk hrk hyl
        go_wp2_with fail
        apply Mem.atA
        · (repeat' (first | with_reducible exact hM | with_reducible exact hMp | with_reducible apply Mem.drew | with_reducible apply Mem.drewN | with_reducible apply Mem.alloc | with_reducible apply Mem.set | with_reducible exact Sto.row | ((with_reducible refine Sto.rowEq2 ?_ ?_); omega; rfl) | ((with_reducible refine Sto.rowEq ?_); omega) | with_reducible apply Sto.int | with_reducible apply Sto.there | with_reducible assumption | (unfold I64; omega) | (with_reducible (have hMx := Mem.undrew hM; exact hMx)) | (with_reducible (have hMx := Mem.undrew hMp; exact hMx))))
        clear hM
        intro wst hM
        (try simp only [World.size_alloc, World.size_setCell, World.heap_drewN, heapDrew, Nat.add_assoc, Nat.reduceAdd, List.setIfInBounds_toArray, List.set_cons_zero, List.set_cons_succ, List.cons_append, List.nil_append] at hM)
        (first | refine (isNotebook_any (U : Int) _ _ _ ys _ HUI.out (hM.notes .here)).mono ?_)
        rw [HBK.out]
        rintro e wc6 ⟨rfl, hb⟩
        replace hM := hM.ext hb
        clear hb
        cases bv
        · have hrv : rv = [] := by rw [HRK.out]; rfl
          subst hrv
          go_wp2
          go_ret2
          exact ⟨none, 0, [], rfl, rfl, Mem.nilNst (hM.sub (List.nil_sublist _))⟩
        · have hrv : rv = coreN ys := by rw [HRK.out]; rfl
          subst hrv
          go_wp2
          go_ret2
          exact ⟨some ⟨g7, 0, none⟩, c7, ys, rfl, (by rw [HYL.out]; rfl), by rw [HYL.out]; exact hM⟩
end Go.Proofs.Ytjnbdgldpmmamaa

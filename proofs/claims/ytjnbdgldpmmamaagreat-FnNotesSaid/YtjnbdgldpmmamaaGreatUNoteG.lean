/-
  Notebooks: valid ones, both sides.
-/
import Derived.Test.YtjnbdgldpmmamaaGreatUNoteW
import Derived.Test.YtjnbdgldpmmamaaGreatUSeason
/-
  Notebooks: valid ones, both sides.
-/
namespace Go.Proofs.YtjnbdgldpmmamaaGreat
set_option linter.unusedSimpArgs false
set_option linter.unusedVariables false
open Go.RowKit

theorem bkOK_core (u : Int) (xs : List NoteI) (k : Nat) : bkOK u (coreN xs) k = (noteB u (xs.getD k NoteI.zero).core && (if k = 0 then true else ltN (xs.getD (k - 1) NoteI.zero).core (xs.getD k NoteI.zero).core)) := by
  unfold bkOK
  rw [coreN_getD, coreN_getD]
theorem bookB_no {u : Int} {xs : List NoteC} {k : Nat} (hk : k < xs.length) (h : bkOK u xs k = false) : bookB u xs = false := by
  unfold bookB
  rw [bk_bad hk h]
  rfl
theorem bookB_in {u : Int} {xs : List NoteC} (h : inB u 2 4 = false) : bookB u xs = false := by
  unfold bookB
  rw [h, Bool.and_false]
  rfl
theorem bookB_long {u : Int} {xs : List NoteC} (h : 12 < xs.length) : bookB u xs = false := by
  unfold bookB
  rw [show decide (xs.length ≤ 12) = false by simpa using h, Bool.and_false]
theorem bk_last {u : Int} {xs : List NoteC} {k : Nat} (h : bkTo u xs (k + 1) = true) : bkOK u xs k = true := by
  rw [bkTo_succ, Bool.and_eq_true] at h
  exact h.2
theorem RdN.wd {w : World} {a : Option Addr} {n c : Nat} {xs : List NoteI} (h : RdN w a n c xs) {k : Nat} (hk : k < n) : (xs.getD k NoteI.zero).wd.length ≤ maxLen := (h.rd.wf _ (show xs.getD k NoteI.zero ∈ xs by
  rw [List.getD_eq_getElem?_getD, List.getElem?_eq_getElem (by rw [h.rd.len]; exact hk)]
  exact List.getElem_mem _)).2.2

set_option maxRecDepth 100000 in
set_option maxHeartbeats 8000000 in
theorem isNotebook_any (u : Int) (a : Option Addr) (n c : Nat) (xs : List NoteI) (w : World) (hu : I64 u) (h : RdN w a n c xs) :
    Calls Tryz.prog 9 #[.int .i64 u, .slice a n c] w fun e w' => e = .returned (.bool (bookB u (coreN xs))) ∧ Below w.heap.size w w' := by
  have hM := Mem.start w
  have hrm := h.rd.nroom
  have HU := Lib.hid hu; clear hu
  have HL := Lib.hid (show (coreN xs).length = n by rw [coreN_len]; exact h.rd.len)
  obtain ⟨bv, hbv⟩ : ∃ b, bookB u (coreN xs) = b := ⟨_, rfl⟩
  rw [hbv]
  have HB := Lib.hid hbv; clear hbv
  go_enter Tryz.func9, Tryz.ntmps9
  go_wp2_with fail
  go_loopw [9] (fun s9 wr => ∃ k : Nat, k ≤ n ∧ s9 = .int .i64 k ∧ bkTo u (coreN xs) k = true ∧ Mem w.heap.size w wr []) (fun s9 _ => n - (intOf s9).toNat)
  case atStart => exact ⟨0, Nat.zero_le _, rfl, rfl, hM⟩
  case round =>
    clear hM
    obtain ⟨k, hk, rfl, hto, hM⟩ := hrel
    have HT := Lib.hid hto; clear hto
    by_cases hlt : k < n
    · obtain ⟨b, off, rfl, -, -⟩ := h.rd.at' _ hlt
      have hx := Lib.hid (h.get hlt)
      have hwd := h.wd hlt
      have hok := bkOK_core u xs k
      have hok1 : 0 < k → ∃ j, k = j + 1 ∧ j < n := fun h0 => ⟨k - 1, by omega, by omega⟩
      obtain ⟨x, hxx⟩ : ∃ x, xs.getD k NoteI.zero = x := ⟨_, rfl⟩
      rw [hxx] at hx hwd hok
      obtain ⟨q1, h1⟩ : ∃ q, noteB u x.core = q := ⟨_, rfl⟩
      rw [h1] at hok
      have HX := Lib.hid hxx; have H1 := Lib.hid h1; have HOK := Lib.hid hok
      clear hxx h1 hok
      have i0 : (0 : Int) ≤ (k : Int) := by omega
      have i1 : (k : Int) < (n : Int) := by omega
      have hc := ((h.rd.ext hM.below).cellNote hlt).2
      rw [HX.out] at hc
      have x0 := hc.1
      have x1 := hc.2.1
      have x2 := hc.2.2.1
      have x3 := hc.2.2.2
      clear hc
      go_upto_region 4 with fail
      apply Mem.atWpA
      · exact memA
      clear hM
      intro wst hM
      (try simp only [World.size_alloc, World.size_setCell, World.heap_drewN, heapDrew, Nat.add_assoc, Nat.reduceAdd, sA, List.cons_append, List.nil_append] at hM)
      clear x0 x1 x2 x3
      cases q1
      · have hbf := bookB_no (u := u) (xs := coreN xs) (k := k) (by rw [HL.out]; exact hlt) (by rw [HOK.out]; rfl)
        rw [HB.out] at hbf
        subst hbf
        refine AtT.startA hM hM 17 (by kernel_rfl) ?_
        clear hM
        intro wd hM
        have hS := hM
        refine AtT.tk 0 ?_ 14 ?_ hS ?_
        rotate_left
        · (intro wS hSw; (try dsimp only at hSw); go_simp; (try rw [if_neg (by omega)]); try with_reducible rfl)
        simp only [Act.put, sA]
        refine AtT.tk 1 ?_ 15 ?_ hS ?_
        rotate_left
        · (intro wS hSw; (try dsimp only at hSw); have kr0 := (Mem.row hSw .here).cell; go_simp; (try rw [if_neg (by omega)]); try with_reducible rfl)
        simp only [Act.put, sA]
        refine AtT.only (i := 2) (by kernel_rfl) rfl rfl ?_
        intro K hK
        go_simp
        refine (isNote_any u x _ HU.out hwd (hx.out.ext hM.below)).mono ?_
        rw [H1.out]
        rintro e w3 ⟨rfl, hb⟩
        replace hM := hM.ext hb
        clear hb
        try dsimp only
        refine hK.out _ _ (hM) ?_
        clear hK K hS
        have hS := hM
        refine AtT.tk 3 ?_ 17 ?_ hS ?_
        rotate_left
        · (intro wS hSw; (try dsimp only at hSw); go_simp; (try rw [if_neg (by omega)]); try with_reducible rfl)
        simp only [Act.put, sA]
        refine AtT.tk 4 ?_ 18 ?_ hS ?_
        rotate_left
        · (intro wS hSw; (try dsimp only at hSw); go_simp; (try rw [if_neg (by omega)]); try with_reducible rfl)
        simp only [Act.put, sA]
        refine AtT.tn 5 19 hS ?_
        simp only [Act.put, sA]
        refine AtT.tn 6 20 hS ?_
        simp only [Act.put, sA]
        refine AtT.tn 7 21 hS ?_
        simp only [Act.put, sA]
        refine AtT.tn 8 22 hS ?_
        simp only [Act.put, sA]
        refine AtT.tn 9 23 hS ?_
        simp only [Act.put, sA]
        refine AtT.tn 10 24 hS ?_
        simp only [Act.put, sA]
        refine AtT.tn 11 25 hS ?_
        simp only [Act.put, sA]
        refine AtT.tn 12 26 hS ?_
        simp only [Act.put, sA]
        refine AtT.tn 13 27 hS ?_
        simp only [Act.put, sA]
        refine AtT.tn 14 28 hS ?_
        simp only [Act.put, sA]
        refine AtT.tn 15 29 hS ?_
        simp only [Act.put, sA]
        refine AtT.tn 16 30 hS ?_
        simp only [Act.put, sA]
        refine AtT.last (by kernel_rfl) rfl (by kernel_rfl) ?_
        intro K hK
        clear hS
        go_simp
        refine hK.out _ _ ?_
        clear hK K
        go_wp2
        go_ret
        exact ⟨rfl, (by apply Mem.below; (exact memA))⟩
      · by_cases h0 : k = 0
        · have HK := Lib.hid (show bkTo u (coreN xs) (k + 1) = true by rw [bkTo_succ, HT.out, HOK.out, if_pos h0]; rfl)
          have kz : decide (0 < k) = false := decide_eq_false (by omega)
          clear hok1 h0
          refine AtT.startA hM hM 17 (by kernel_rfl) ?_
          clear hM
          intro wd hM
          have hS := hM
          refine AtT.tk 0 ?_ 14 ?_ hS ?_
          rotate_left
          · (intro wS hSw; (try dsimp only at hSw); go_simp; (try rw [if_neg (by omega)]); try with_reducible rfl)
          simp only [Act.put, sA]
          refine AtT.tk 1 ?_ 15 ?_ hS ?_
          rotate_left
          · (intro wS hSw; (try dsimp only at hSw); have kr0 := (Mem.row hSw .here).cell; go_simp; (try rw [if_neg (by omega)]); try with_reducible rfl)
          simp only [Act.put, sA]
          refine AtT.only (i := 2) (by kernel_rfl) rfl rfl ?_
          intro K hK
          go_simp
          refine (isNote_any u x _ HU.out hwd (hx.out.ext hM.below)).mono ?_
          rw [H1.out]
          rintro e w3 ⟨rfl, hb⟩
          replace hM := hM.ext hb
          clear hb
          try dsimp only
          refine hK.out _ _ (hM) ?_
          clear hK K hS
          have hS := hM
          refine AtT.tk 3 ?_ 17 ?_ hS ?_
          rotate_left
          · (intro wS hSw; (try dsimp only at hSw); go_simp; (try rw [if_neg (by omega)]); try with_reducible rfl)
          simp only [Act.put, sA]
          refine AtT.tk 4 ?_ 18 ?_ hS ?_
          rotate_left
          · (intro wS hSw; (try dsimp only at hSw); go_simp; (try rw [if_neg (by omega)]); try with_reducible rfl)
          simp only [Act.put, sA]
          refine AtT.tk 5 ?_ 19 ?_ hS ?_
          rotate_left
          · (intro wS hSw; (try dsimp only at hSw); go_simp; (try rw [if_neg (by omega)]); try with_reducible rfl)
          simp only [Act.put, sA]
          refine AtT.tk 6 ?_ 20 ?_ hS ?_
          rotate_left
          · (intro wS hSw; (try dsimp only at hSw); go_simp; (try rw [if_neg (by omega)]); try with_reducible rfl)
          simp only [Act.put, sA]
          refine AtT.tk 7 ?_ 21 ?_ hS ?_
          rotate_left
          · (intro wS hSw; (try dsimp only at hSw); go_simp; (try rw [if_neg (by omega)]); try with_reducible rfl)
          simp only [Act.put, sA]
          refine AtT.tn 8 22 hS ?_
          simp only [Act.put, sA]
          refine AtT.tn 9 23 hS ?_
          simp only [Act.put, sA]
          refine AtT.tn 10 24 hS ?_
          simp only [Act.put, sA]
          refine AtT.tn 11 25 hS ?_
          simp only [Act.put, sA]
          refine AtT.tn 12 26 hS ?_
          simp only [Act.put, sA]
          refine AtT.tn 13 27 hS ?_
          simp only [Act.put, sA]
          refine AtT.tn 14 28 hS ?_
          simp only [Act.put, sA]
          refine AtT.tn 15 29 hS ?_
          simp only [Act.put, sA]
          refine AtT.tk 16 ?_ 30 ?_ hS ?_
          rotate_left
          · (intro wS hSw; (try dsimp only at hSw); go_simp; (try rw [if_neg (by omega)]); try with_reducible rfl)
          simp only [Act.put, sA]
          refine AtT.last (by kernel_rfl) rfl (by kernel_rfl) ?_
          intro K hK
          clear hS
          go_simp
          refine hK.out _ _ ?_
          clear hK K
          go_wp2
          go_roundw
          case rel => exact ⟨k + 1, by omega, by go_num, HK.out, hM.tail⟩
          case measure => simp [intOf]; omega
        · obtain ⟨j, hj, hjn⟩ := hok1 (by omega)
          have hbb := HOK.out
          rw [if_neg h0, hj, Nat.add_sub_cancel] at hbb
          obtain ⟨y, hyy⟩ : ∃ y, xs.getD j NoteI.zero = y := ⟨_, rfl⟩
          rw [hyy, ← hj] at hbb
          obtain ⟨q2, h2⟩ : ∃ q, ltN y.core x.core = q := ⟨_, rfl⟩
          rw [h2] at hbb
          have HY := Lib.hid hyy; have H2 := Lib.hid h2; have HBB := Lib.hid hbb
          clear hyy h2 hbb hok1
          have kp : decide (0 < k) = true := decide_eq_true (by omega)
          have hjI : IntKind.i64.wrap ((k : Int) - 1) = (j : Int) := by rw [wrap_in (by omega)]; omega
          have j0 : (0 : Int) ≤ (j : Int) := by omega
          have j1 : (j : Int) < (n : Int) := by omega
          clear hj h0
          go_cut [31] (fun s31 wx => s31 = .bool (!q2) ∧ Mem w.heap.size w wx [])
          case first =>
            refine AtT.startA hM hM 17 (by kernel_rfl) ?_
            clear hM
            intro wd hM
            have hS := hM
            refine AtT.tk 0 ?_ 14 ?_ hS ?_
            rotate_left
            · (intro wS hSw; (try dsimp only at hSw); go_simp; (try rw [if_neg (by omega)]); try with_reducible rfl)
            simp only [Act.put, sA]
            refine AtT.tk 1 ?_ 15 ?_ hS ?_
            rotate_left
            · (intro wS hSw; (try dsimp only at hSw); have kr0 := (Mem.row hSw .here).cell; have hd := ((h.rd.ext hSw.below).cellNote hjn).2; rw [HY.out] at hd; have y0 := hd.1; have y1 := hd.2.1; have y2 := hd.2.2.1; have y3 := hd.2.2.2; go_simp; (try rw [if_neg (by omega)]); try with_reducible rfl)
            simp only [Act.put, sA]
            refine AtT.only (i := 2) (by kernel_rfl) rfl rfl ?_
            intro K hK
            go_simp
            refine (isNote_any u x _ HU.out hwd (hx.out.ext hM.below)).mono ?_
            rw [H1.out]
            rintro e w3 ⟨rfl, hb⟩
            replace hM := hM.ext hb
            clear hb
            try dsimp only
            refine hK.out _ _ (hM) ?_
            clear hK K hS
            have hS := hM
            refine AtT.tk 3 ?_ 17 ?_ hS ?_
            rotate_left
            · (intro wS hSw; (try dsimp only at hSw); go_simp; (try rw [if_neg (by omega)]); try with_reducible rfl)
            simp only [Act.put, sA]
            refine AtT.tk 4 ?_ 18 ?_ hS ?_
            rotate_left
            · (intro wS hSw; (try dsimp only at hSw); go_simp; (try rw [if_neg (by omega)]); try with_reducible rfl)
            simp only [Act.put, sA]
            refine AtT.tk 5 ?_ 19 ?_ hS ?_
            rotate_left
            · (intro wS hSw; (try dsimp only at hSw); go_simp; (try rw [if_neg (by omega)]); try with_reducible rfl)
            simp only [Act.put, sA]
            refine AtT.tk 6 ?_ 20 ?_ hS ?_
            rotate_left
            · (intro wS hSw; (try dsimp only at hSw); go_simp; (try rw [if_neg (by omega)]); try with_reducible rfl)
            simp only [Act.put, sA]
            refine AtT.tk 7 ?_ 21 ?_ hS ?_
            rotate_left
            · (intro wS hSw; (try dsimp only at hSw); go_simp; (try rw [if_neg (by omega)]); try with_reducible rfl)
            simp only [Act.put, sA]
            refine AtT.tk 8 ?_ 22 ?_ hS ?_
            rotate_left
            · (intro wS hSw; (try dsimp only at hSw); go_simp; (try rw [if_neg (by omega)]); try with_reducible rfl)
            simp only [Act.put, sA]
            refine AtT.tk 9 ?_ 23 ?_ hS ?_
            rotate_left
            · (intro wS hSw; (try dsimp only at hSw); go_simp; (try rw [if_neg (by omega)]); try with_reducible rfl)
            simp only [Act.put, sA]
            refine AtT.tk 10 ?_ 24 ?_ hS ?_
            rotate_left
            · (intro wS hSw; (try dsimp only at hSw); go_simp; (try rw [if_neg (by omega)]); try with_reducible rfl)
            simp only [Act.put, sA]
            refine AtT.tk 11 ?_ 25 ?_ hS ?_
            rotate_left
            · (intro wS hSw; (try dsimp only at hSw); have kr0 := (Mem.row hSw .here).cell; have hd := ((h.rd.ext hSw.below).cellNote hjn).2; rw [HY.out] at hd; have y0 := hd.1; have y1 := hd.2.1; have y2 := hd.2.2.1; have y3 := hd.2.2.2; go_simp; (try rw [if_neg (by omega)]); try with_reducible rfl)
            simp only [Act.put, sA]
            refine AtT.tk 12 ?_ 26 ?_ hS ?_
            rotate_left
            · (intro wS hSw; (try dsimp only at hSw); have kr0 := (Mem.row hSw .here).cell; have hd := ((h.rd.ext hSw.below).cellNote hjn).2; rw [HY.out] at hd; have y0 := hd.1; have y1 := hd.2.1; have y2 := hd.2.2.1; have y3 := hd.2.2.2; go_simp; (try rw [if_neg (by omega)]); try with_reducible rfl)
            simp only [Act.put, sA]
            refine AtT.tk 13 ?_ 27 ?_ hS ?_
            rotate_left
            · (intro wS hSw; (try dsimp only at hSw); have kr0 := (Mem.row hSw .here).cell; have hd := ((h.rd.ext hSw.below).cellNote hjn).2; rw [HY.out] at hd; have y0 := hd.1; have y1 := hd.2.1; have y2 := hd.2.2.1; have y3 := hd.2.2.2; go_simp; (try rw [if_neg (by omega)]); try with_reducible rfl)
            simp only [Act.put, sA]
            refine AtT.only (i := 14) (by kernel_rfl) rfl rfl ?_
            intro K hK
            go_simp
            refine (compareNotes_any y x _).mono ?_
            rintro e w4 ⟨⟨r, rfl, hr⟩, hb⟩
            replace hM := hM.ext hb
            clear hb
            rw [H2.out] at hr
            have HR := Lib.hid hr
            clear hr
            try dsimp only
            refine hK.out _ _ (hM) ?_
            clear hK K hS
            have hS := hM
            refine AtT.tk 15 ?_ 29 ?_ hS ?_
            rotate_left
            · (intro wS hSw; (try dsimp only at hSw); go_simp; (try rw [if_neg (by omega)]); try with_reducible rfl)
            simp only [Act.put, sA]
            refine AtT.tk 16 ?_ 30 ?_ hS ?_
            rotate_left
            · (intro wS hSw; (try dsimp only at hSw); go_simp; (try rw [if_neg (by omega)]); try with_reducible rfl)
            simp only [Act.put, sA]
            refine AtT.last (by kernel_rfl) rfl (by kernel_rfl) ?_
            intro K hK
            clear hS
            go_simp
            refine hK.out _ _ ?_
            clear hK K
            have hrr : decide (0 ≤ r) = !q2 := by have := HR.out; cases q2 <;> simp at this ⊢ <;> omega
            go_wp2_with fail
            go_meet
            exact ⟨by rw [← hrr], hM.tail⟩
          case rest =>
            clear hM
            obtain ⟨rfl, hM⟩ := hcut
            cases q2
            · have hbf := bookB_no (u := u) (xs := coreN xs) (k := k) (by rw [HL.out]; exact hlt) (by rw [HBB.out]; rfl)
              rw [HB.out] at hbf
              subst hbf
              go_wp2
              go_ret
              exact ⟨rfl, (by apply Mem.below; (exact memA))⟩
            · have HK := Lib.hid (show bkTo u (coreN xs) (k + 1) = true by rw [bkTo_succ, HT.out, HBB.out]; rfl)
              go_wp2
              go_roundw
              case rel => exact ⟨k + 1, by omega, by go_num, HK.out, hM⟩
              case measure => simp [intOf]; omega
    · obtain rfl : k = n := by omega
      obtain ⟨q0, h0⟩ : ∃ q, inB u 2 4 = q := ⟨_, rfl⟩
      have hbb : bv = (q0 && decide (k ≤ 12)) := by rw [← HB.out, bookB, HL.out, HT.out, h0, Bool.true_and]
      have H0 := Lib.hid h0; clear h0
      have HBB := Lib.hid hbb; clear hbb
      go_wp2_with fail
      apply Mem.atA
      · exact memA
      clear hM
      intro wst hM
      (try simp only [World.size_alloc, World.size_setCell, World.heap_drewN, heapDrew, Nat.add_assoc, Nat.reduceAdd, sA, List.cons_append, List.nil_append] at hM)
      (first | refine (in_any _ _ _ _).mono ?_)
      rw [H0.out]
      rintro e wc1 ⟨rfl, rfl⟩
      by_cases h12 : k ≤ 12
      · have h12' : decide (k ≤ 12) = true := decide_eq_true h12
        rw [h12', Bool.and_true] at HBB
        cases q0
        all_goals
          go_wp2
          go_ret
          exact ⟨rb (by rw [HBB.out]; first | done | rfl | exact decide_eq_true (by omega) | exact decide_eq_false (by omega)), (by apply Mem.below; (exact memA))⟩
      · have h12' : decide (k ≤ 12) = false := decide_eq_false h12
        rw [h12', Bool.and_false] at HBB
        cases q0
        all_goals
          go_wp2
          go_ret
          exact ⟨rb (by rw [HBB.out]; first | done | rfl | exact decide_eq_true (by omega) | exact decide_eq_false (by omega)), (by apply Mem.below; (exact memA))⟩
set_option maxRecDepth 100000 in
set_option maxHeartbeats 8000000 in
theorem l17Good_any (u : Int) (a : Option Addr) (n c : Nat) (xs : List NoteI) (w : World) (hu : I64 u) (h : RdN w a n c xs) :
    Calls Tryz.prog 29 #[.int .i64 u, .slice a n c] w fun e w' => e = .returned (.bool (bookB u (coreN xs))) ∧ Below w.heap.size w w' := by
  have hM := Mem.start w
  have hrm := h.rd.nroom
  have HU := Lib.hid hu; clear hu
  have HL := Lib.hid (show (coreN xs).length = n by rw [coreN_len]; exact h.rd.len)
  obtain ⟨bv, hbv⟩ : ∃ b, bookB u (coreN xs) = b := ⟨_, rfl⟩
  rw [hbv]
  have HB := Lib.hid hbv; clear hbv
  obtain ⟨q0, h0⟩ : ∃ q, inB u 2 4 = q := ⟨_, rfl⟩
  have HIN := Lib.hid h0; clear h0
  go_enter Tryz.func29, Tryz.ntmps29
  go_wp2_with fail
  go_loopw [5] (fun s5 wr => ∃ k : Nat, k ≤ n ∧ k ≤ 13 ∧ s5 = .int .i64 k ∧ bkTo u (coreN xs) k = true ∧ (0 < k → q0 = true) ∧ Mem w.heap.size w wr []) (fun s5 _ => n - (intOf s5).toNat)
  case atStart => exact ⟨0, Nat.zero_le _, by omega, rfl, rfl, fun h => by omega, hM⟩
  case round =>
    clear hM
    obtain ⟨k, hk, hk13, rfl, hto, hqk, hM⟩ := hrel
    have HT := Lib.hid hto; have HQK := Lib.hid hqk
    clear hto hqk
    by_cases hlt : k < n
    · by_cases h12 : k ≤ 12
      · obtain ⟨b, off, rfl, -, -⟩ := h.rd.at' _ hlt
        have hx := Lib.hid (h.get hlt)
        have hwd := h.wd hlt
        have hok := bkOK_core u xs k
        have hok1 : 0 < k → ∃ j, k = j + 1 ∧ j < n := fun h0 => ⟨k - 1, by omega, by omega⟩
        obtain ⟨x, hxx⟩ : ∃ x, xs.getD k NoteI.zero = x := ⟨_, rfl⟩
        rw [hxx] at hx hwd hok
        obtain ⟨q1, h1⟩ : ∃ q, noteB u x.core = q := ⟨_, rfl⟩
        rw [h1] at hok
        have HX := Lib.hid hxx; have H1 := Lib.hid h1; have HOK := Lib.hid hok
        clear hxx h1 hok
        have i0 : (0 : Int) ≤ (k : Int) := by omega
        have i1 : (k : Int) < (n : Int) := by omega
        have k12 : decide ((k : Int) ≤ 12) = true := decide_eq_true (by omega)
        by_cases hqq : (q0 && q1) = false
        · have hbf : bv = false := by
            rw [← HB.out]
            cases q0
            · exact bookB_in HIN.out
            · cases q1
              · exact bookB_no (u := u) (xs := coreN xs) (k := k) (by rw [HL.out]; exact hlt) (by rw [HOK.out]; rfl)
              · cases hqq
          subst hbf
          have HQQ := Lib.hid hqq
          clear hqq
          go_upto_region 4 with fail
          apply Mem.atWpA
          · exact memA
          clear hM
          intro wst hM
          (try simp only [World.size_alloc, World.size_setCell, World.heap_drewN, heapDrew, Nat.add_assoc, Nat.reduceAdd, sA, List.cons_append, List.nil_append] at hM)
          refine AtT.startA hM hM 23 (by kernel_rfl) ?_
          clear hM
          intro wd hM
          have hS := hM
          refine AtT.tk 0 ?_ 16 ?_ hS ?_
          rotate_left
          · (intro wS hSw; (try dsimp only at hSw); go_simp; (try rw [if_neg (by omega)]); try with_reducible rfl)
          simp only [Act.put, sA]
          refine AtT.tk 1 ?_ 17 ?_ hS ?_
          rotate_left
          · (intro wS hSw; (try dsimp only at hSw); go_simp; (try rw [if_neg (by omega)]); try with_reducible rfl)
          simp only [Act.put, sA]
          refine AtT.tk 2 ?_ 18 ?_ hS ?_
          rotate_left
          · (intro wS hSw; (try dsimp only at hSw); go_simp; (try rw [if_neg (by omega)]); try with_reducible rfl)
          simp only [Act.put, sA]
          refine AtT.tk 3 ?_ 19 ?_ hS ?_
          rotate_left
          · (intro wS hSw; (try dsimp only at hSw); have hc := ((h.rd.ext hSw.below).cellNote hlt).2; rw [HX.out] at hc; have x0 := hc.1; have x1 := hc.2.1; have x2 := hc.2.2.1; have x3 := hc.2.2.2; go_simp; (try rw [if_neg (by omega)]); try with_reducible rfl)
          simp only [Act.put, sA]
          refine AtT.tk 4 ?_ 20 ?_ hS ?_
          rotate_left
          · (intro wS hSw; (try dsimp only at hSw); have hc := ((h.rd.ext hSw.below).cellNote hlt).2; rw [HX.out] at hc; have x0 := hc.1; have x1 := hc.2.1; have x2 := hc.2.2.1; have x3 := hc.2.2.2; go_simp; (try rw [if_neg (by omega)]); try with_reducible rfl)
          simp only [Act.put, sA]
          refine AtT.only (i := 5) (by kernel_rfl) rfl rfl ?_
          intro K hK
          go_simp
          refine (l17Single_any u x _ HU.out hwd (hx.out.ext hM.below)).mono ?_
          rw [HIN.out, H1.out, HQQ.out]
          rintro e w3 ⟨rfl, hb⟩
          replace hM := hM.ext hb
          clear hb
          try dsimp only
          refine hK.out _ _ (hM) ?_
          clear hK K hS
          have hS := hM
          refine AtT.tk 6 ?_ 22 ?_ hS ?_
          rotate_left
          · (intro wS hSw; (try dsimp only at hSw); go_simp; (try rw [if_neg (by omega)]); try with_reducible rfl)
          simp only [Act.put, sA]
          refine AtT.tk 7 ?_ 23 ?_ hS ?_
          rotate_left
          · (intro wS hSw; (try dsimp only at hSw); go_simp; (try rw [if_neg (by omega)]); try with_reducible rfl)
          simp only [Act.put, sA]
          refine AtT.tn 8 24 hS ?_
          simp only [Act.put, sA]
          refine AtT.tn 9 25 hS ?_
          simp only [Act.put, sA]
          refine AtT.tn 10 26 hS ?_
          simp only [Act.put, sA]
          refine AtT.tn 11 27 hS ?_
          simp only [Act.put, sA]
          refine AtT.tn 12 28 hS ?_
          simp only [Act.put, sA]
          refine AtT.tn 13 29 hS ?_
          simp only [Act.put, sA]
          refine AtT.tn 14 30 hS ?_
          simp only [Act.put, sA]
          refine AtT.tn 15 31 hS ?_
          simp only [Act.put, sA]
          refine AtT.tn 16 32 hS ?_
          simp only [Act.put, sA]
          refine AtT.tn 17 33 hS ?_
          simp only [Act.put, sA]
          refine AtT.tn 18 34 hS ?_
          simp only [Act.put, sA]
          refine AtT.tn 19 35 hS ?_
          simp only [Act.put, sA]
          refine AtT.tn 20 36 hS ?_
          simp only [Act.put, sA]
          refine AtT.tn 21 37 hS ?_
          simp only [Act.put, sA]
          refine AtT.tn 22 38 hS ?_
          simp only [Act.put, sA]
          refine AtT.last (by kernel_rfl) rfl (by kernel_rfl) ?_
          intro K hK
          clear hS
          go_simp
          refine hK.out _ _ ?_
          clear hK K
          go_wp2
          go_ret
          exact ⟨rfl, (by apply Mem.below; (exact memA))⟩
        · obtain rfl : q0 = true := by cases q0 <;> simp_all
          obtain rfl : q1 = true := by cases q1 <;> simp_all
          clear hqq
          by_cases h0 : k = 0
          · have HK := Lib.hid (show bkTo u (coreN xs) (k + 1) = true by rw [bkTo_succ, HT.out, HOK.out, if_pos h0]; rfl)
            have kz : decide (0 < k) = false := decide_eq_false (by omega)
            clear hok1 h0
            go_upto_region 4 with fail
            apply Mem.atWpA
            · exact memA
            clear hM
            intro wst hM
            (try simp only [World.size_alloc, World.size_setCell, World.heap_drewN, heapDrew, Nat.add_assoc, Nat.reduceAdd, sA, List.cons_append, List.nil_append] at hM)
            refine AtT.startA hM hM 23 (by kernel_rfl) ?_
            clear hM
            intro wd hM
            have hS := hM
            refine AtT.tk 0 ?_ 16 ?_ hS ?_
            rotate_left
            · (intro wS hSw; (try dsimp only at hSw); go_simp; (try rw [if_neg (by omega)]); try with_reducible rfl)
            simp only [Act.put, sA]
            refine AtT.tk 1 ?_ 17 ?_ hS ?_
            rotate_left
            · (intro wS hSw; (try dsimp only at hSw); go_simp; (try rw [if_neg (by omega)]); try with_reducible rfl)
            simp only [Act.put, sA]
            refine AtT.tk 2 ?_ 18 ?_ hS ?_
            rotate_left
            · (intro wS hSw; (try dsimp only at hSw); go_simp; (try rw [if_neg (by omega)]); try with_reducible rfl)
            simp only [Act.put, sA]
            refine AtT.tk 3 ?_ 19 ?_ hS ?_
            rotate_left
            · (intro wS hSw; (try dsimp only at hSw); have hc := ((h.rd.ext hSw.below).cellNote hlt).2; rw [HX.out] at hc; have x0 := hc.1; have x1 := hc.2.1; have x2 := hc.2.2.1; have x3 := hc.2.2.2; go_simp; (try rw [if_neg (by omega)]); try with_reducible rfl)
            simp only [Act.put, sA]
            refine AtT.tk 4 ?_ 20 ?_ hS ?_
            rotate_left
            · (intro wS hSw; (try dsimp only at hSw); have hc := ((h.rd.ext hSw.below).cellNote hlt).2; rw [HX.out] at hc; have x0 := hc.1; have x1 := hc.2.1; have x2 := hc.2.2.1; have x3 := hc.2.2.2; go_simp; (try rw [if_neg (by omega)]); try with_reducible rfl)
            simp only [Act.put, sA]
            refine AtT.only (i := 5) (by kernel_rfl) rfl rfl ?_
            intro K hK
            go_simp
            refine (l17Single_any u x _ HU.out hwd (hx.out.ext hM.below)).mono ?_
            rw [HIN.out, H1.out]
            rintro e w3 ⟨rfl, hb⟩
            replace hM := hM.ext hb
            clear hb
            try dsimp only
            refine hK.out _ _ (hM) ?_
            clear hK K hS
            have hS := hM
            refine AtT.tk 6 ?_ 22 ?_ hS ?_
            rotate_left
            · (intro wS hSw; (try dsimp only at hSw); go_simp; (try rw [if_neg (by omega)]); try with_reducible rfl)
            simp only [Act.put, sA]
            refine AtT.tk 7 ?_ 23 ?_ hS ?_
            rotate_left
            · (intro wS hSw; (try dsimp only at hSw); go_simp; (try rw [if_neg (by omega)]); try with_reducible rfl)
            simp only [Act.put, sA]
            refine AtT.tk 8 ?_ 24 ?_ hS ?_
            rotate_left
            · (intro wS hSw; (try dsimp only at hSw); go_simp; (try rw [if_neg (by omega)]); try with_reducible rfl)
            simp only [Act.put, sA]
            refine AtT.tk 9 ?_ 25 ?_ hS ?_
            rotate_left
            · (intro wS hSw; (try dsimp only at hSw); go_simp; (try rw [if_neg (by omega)]); try with_reducible rfl)
            simp only [Act.put, sA]
            refine AtT.tk 10 ?_ 26 ?_ hS ?_
            rotate_left
            · (intro wS hSw; (try dsimp only at hSw); go_simp; (try rw [if_neg (by omega)]); try with_reducible rfl)
            simp only [Act.put, sA]
            refine AtT.tn 11 27 hS ?_
            simp only [Act.put, sA]
            refine AtT.tn 12 28 hS ?_
            simp only [Act.put, sA]
            refine AtT.tn 13 29 hS ?_
            simp only [Act.put, sA]
            refine AtT.tn 14 30 hS ?_
            simp only [Act.put, sA]
            refine AtT.tn 15 31 hS ?_
            simp only [Act.put, sA]
            refine AtT.tn 16 32 hS ?_
            simp only [Act.put, sA]
            refine AtT.tn 17 33 hS ?_
            simp only [Act.put, sA]
            refine AtT.tn 18 34 hS ?_
            simp only [Act.put, sA]
            refine AtT.tn 19 35 hS ?_
            simp only [Act.put, sA]
            refine AtT.tn 20 36 hS ?_
            simp only [Act.put, sA]
            refine AtT.tn 21 37 hS ?_
            simp only [Act.put, sA]
            refine AtT.tk 22 ?_ 38 ?_ hS ?_
            rotate_left
            · (intro wS hSw; (try dsimp only at hSw); go_simp; (try rw [if_neg (by omega)]); try with_reducible rfl)
            simp only [Act.put, sA]
            refine AtT.last (by kernel_rfl) rfl (by kernel_rfl) ?_
            intro K hK
            clear hS
            go_simp
            refine hK.out _ _ ?_
            clear hK K
            go_wp2
            go_roundw
            case rel => exact ⟨k + 1, by omega, by omega, by go_num, HK.out, (fun _ => by first | rfl | trivial), hM⟩
            case measure => simp [intOf]; omega
          · obtain ⟨j, hj, hjn⟩ := hok1 (by omega)
            have hbb := HOK.out
            rw [if_neg h0, hj, Nat.add_sub_cancel] at hbb
            obtain ⟨y, hyy⟩ : ∃ y, xs.getD j NoteI.zero = y := ⟨_, rfl⟩
            have hyo : bkOK u (coreN xs) j = true := bk_last (by rw [← hj]; exact HT.out)
            rw [bkOK_core, hyy, Bool.and_eq_true] at hyo
            rw [hyy, ← hj] at hbb
            obtain ⟨q2, h2⟩ : ∃ q, ltN y.core x.core = q := ⟨_, rfl⟩
            rw [h2] at hbb
            have HY := Lib.hid hyy; have H2 := Lib.hid h2; have HBB := Lib.hid hbb
            have v4 := (inB_true HIN.out).2
            have by1 := noteB_true hyo.1
            have bx1 := noteB_true H1.out
            have yu : -10 ≤ y.un ∧ y.un ≤ 10 := by have := by1.2.2.1; have h8 : y.core.un = y.un := rfl; rw [h8] at this; omega
            have xu : -10 ≤ x.un ∧ x.un ≤ 10 := by have := bx1.2.2.1; have h8 : x.core.un = x.un := rfl; rw [h8] at this; omega
            have ys : 1 ≤ y.sq ∧ y.sq ≤ 12 := ⟨by1.2.2.2.1, by1.2.2.2.2.2.1⟩
            have xs' : 1 ≤ x.sq ∧ x.sq ≤ 12 := ⟨bx1.2.2.2.1, bx1.2.2.2.2.2.1⟩
            have hord := ltN_ord (a := y.core) (b := x.core) (by show -40 ≤ y.sq - x.sq ∧ y.sq - x.sq ≤ 40; omega)
            rw [h2] at hord
            have HORD := Lib.hid (show decide ((y.un - x.un) * 100 + y.sq - x.sq < 0) = q2 from hord)
            have HYU := Lib.hid yu; have HXU := Lib.hid xu; have HYS := Lib.hid ys; have HXS := Lib.hid xs'
            clear hyy h2 hbb hok1 hyo by1 bx1 yu xu ys xs' hord v4
            have kp : decide (0 < k) = true := decide_eq_true (by omega)
            have hjI : IntKind.i64.wrap ((k : Int) - 1) = (j : Int) := by rw [wrap_in (by omega)]; omega
            have j0 : (0 : Int) ≤ (j : Int) := by omega
            have j1 : (j : Int) < (n : Int) := by omega
            clear hj h0
            go_upto_region 4 with fail
            apply Mem.atWpA
            · exact memA
            clear hM
            intro wst hM
            (try simp only [World.size_alloc, World.size_setCell, World.heap_drewN, heapDrew, Nat.add_assoc, Nat.reduceAdd, sA, List.cons_append, List.nil_append] at hM)
            go_cut [39] (fun s39 wx => s39 = .bool (!q2) ∧ Mem w.heap.size w wx [])
            case first =>
              refine AtT.startA hM hM 23 (by kernel_rfl) ?_
              clear hM
              intro wd hM
              have hS := hM
              refine AtT.tk 0 ?_ 16 ?_ hS ?_
              rotate_left
              · (intro wS hSw; (try dsimp only at hSw); go_simp; (try rw [if_neg (by omega)]); try with_reducible rfl)
              simp only [Act.put, sA]
              refine AtT.tk 1 ?_ 17 ?_ hS ?_
              rotate_left
              · (intro wS hSw; (try dsimp only at hSw); go_simp; (try rw [if_neg (by omega)]); try with_reducible rfl)
              simp only [Act.put, sA]
              refine AtT.tk 2 ?_ 18 ?_ hS ?_
              rotate_left
              · (intro wS hSw; (try dsimp only at hSw); go_simp; (try rw [if_neg (by omega)]); try with_reducible rfl)
              simp only [Act.put, sA]
              refine AtT.tk 3 ?_ 19 ?_ hS ?_
              rotate_left
              · (intro wS hSw; (try dsimp only at hSw); have hc := ((h.rd.ext hSw.below).cellNote hlt).2; rw [HX.out] at hc; have x0 := hc.1; have x1 := hc.2.1; have x2 := hc.2.2.1; have x3 := hc.2.2.2; have hd := ((h.rd.ext hSw.below).cellNote hjn).2; rw [HY.out] at hd; have y0 := hd.1; have y1 := hd.2.1; have y2 := hd.2.2.1; have y3 := hd.2.2.2; go_simp; (try rw [if_neg (by omega)]); try with_reducible rfl)
              simp only [Act.put, sA]
              refine AtT.tk 4 ?_ 20 ?_ hS ?_
              rotate_left
              · (intro wS hSw; (try dsimp only at hSw); have hc := ((h.rd.ext hSw.below).cellNote hlt).2; rw [HX.out] at hc; have x0 := hc.1; have x1 := hc.2.1; have x2 := hc.2.2.1; have x3 := hc.2.2.2; have hd := ((h.rd.ext hSw.below).cellNote hjn).2; rw [HY.out] at hd; have y0 := hd.1; have y1 := hd.2.1; have y2 := hd.2.2.1; have y3 := hd.2.2.2; go_simp; (try rw [if_neg (by omega)]); try with_reducible rfl)
              simp only [Act.put, sA]
              refine AtT.only (i := 5) (by kernel_rfl) rfl rfl ?_
              intro K hK
              go_simp
              refine (l17Single_any u x _ HU.out hwd (hx.out.ext hM.below)).mono ?_
              rw [HIN.out, H1.out]
              rintro e w3 ⟨rfl, hb⟩
              replace hM := hM.ext hb
              clear hb
              try dsimp only
              refine hK.out _ _ (hM) ?_
              clear hK K hS
              have hS := hM
              refine AtT.tk 6 ?_ 22 ?_ hS ?_
              rotate_left
              · (intro wS hSw; (try dsimp only at hSw); go_simp; (try rw [if_neg (by omega)]); try with_reducible rfl)
              simp only [Act.put, sA]
              refine AtT.tk 7 ?_ 23 ?_ hS ?_
              rotate_left
              · (intro wS hSw; (try dsimp only at hSw); go_simp; (try rw [if_neg (by omega)]); try with_reducible rfl)
              simp only [Act.put, sA]
              refine AtT.tk 8 ?_ 24 ?_ hS ?_
              rotate_left
              · (intro wS hSw; (try dsimp only at hSw); go_simp; (try rw [if_neg (by omega)]); try with_reducible rfl)
              simp only [Act.put, sA]
              refine AtT.tk 9 ?_ 25 ?_ hS ?_
              rotate_left
              · (intro wS hSw; (try dsimp only at hSw); go_simp; (try rw [if_neg (by omega)]); try with_reducible rfl)
              simp only [Act.put, sA]
              refine AtT.tk 10 ?_ 26 ?_ hS ?_
              rotate_left
              · (intro wS hSw; (try dsimp only at hSw); go_simp; (try rw [if_neg (by omega)]); try with_reducible rfl)
              simp only [Act.put, sA]
              refine AtT.tk 11 ?_ 27 ?_ hS ?_
              rotate_left
              · (intro wS hSw; (try dsimp only at hSw); go_simp; (try rw [if_neg (by omega)]); try with_reducible rfl)
              simp only [Act.put, sA]
              refine AtT.tk 12 ?_ 28 ?_ hS ?_
              rotate_left
              · (intro wS hSw; (try dsimp only at hSw); go_simp; (try rw [if_neg (by omega)]); try with_reducible rfl)
              simp only [Act.put, sA]
              refine AtT.tk 13 ?_ 29 ?_ hS ?_
              rotate_left
              · (intro wS hSw; (try dsimp only at hSw); go_simp; (try rw [if_neg (by omega)]); try with_reducible rfl)
              simp only [Act.put, sA]
              refine AtT.tk 14 ?_ 30 ?_ hS ?_
              rotate_left
              · (intro wS hSw; (try dsimp only at hSw); have hc := ((h.rd.ext hSw.below).cellNote hlt).2; rw [HX.out] at hc; have x0 := hc.1; have x1 := hc.2.1; have x2 := hc.2.2.1; have x3 := hc.2.2.2; have hd := ((h.rd.ext hSw.below).cellNote hjn).2; rw [HY.out] at hd; have y0 := hd.1; have y1 := hd.2.1; have y2 := hd.2.2.1; have y3 := hd.2.2.2; go_simp; (try rw [if_neg (by omega)]); try with_reducible rfl)
              simp only [Act.put, sA]
              refine AtT.tk 15 ?_ 31 ?_ hS ?_
              rotate_left
              · (intro wS hSw; (try dsimp only at hSw); have hc := ((h.rd.ext hSw.below).cellNote hlt).2; rw [HX.out] at hc; have x0 := hc.1; have x1 := hc.2.1; have x2 := hc.2.2.1; have x3 := hc.2.2.2; have hd := ((h.rd.ext hSw.below).cellNote hjn).2; rw [HY.out] at hd; have y0 := hd.1; have y1 := hd.2.1; have y2 := hd.2.2.1; have y3 := hd.2.2.2; go_simp; (try rw [if_neg (by omega)]); try with_reducible rfl)
              simp only [Act.put, sA]
              refine AtT.tk 16 ?_ 32 ?_ hS ?_
              rotate_left
              · (intro wS hSw; (try dsimp only at hSw); go_simp; (try rw [if_neg (by omega)]); try with_reducible rfl)
              simp only [Act.put, sA]
              refine AtT.tk 17 ?_ 33 ?_ hS ?_
              rotate_left
              · (intro wS hSw; (try dsimp only at hSw); go_simp; (try rw [if_neg (by omega)]); try with_reducible rfl)
              simp only [Act.put, sA]
              refine AtT.tk 18 ?_ 34 ?_ hS ?_
              rotate_left
              · (intro wS hSw; (try dsimp only at hSw); have hc := ((h.rd.ext hSw.below).cellNote hlt).2; rw [HX.out] at hc; have x0 := hc.1; have x1 := hc.2.1; have x2 := hc.2.2.1; have x3 := hc.2.2.2; have hd := ((h.rd.ext hSw.below).cellNote hjn).2; rw [HY.out] at hd; have y0 := hd.1; have y1 := hd.2.1; have y2 := hd.2.2.1; have y3 := hd.2.2.2; go_simp; (try rw [if_neg (by omega)]); try with_reducible rfl)
              simp only [Act.put, sA]
              refine AtT.tk 19 ?_ 35 ?_ hS ?_
              rotate_left
              · (intro wS hSw; (try dsimp only at hSw); have hc := ((h.rd.ext hSw.below).cellNote hlt).2; rw [HX.out] at hc; have x0 := hc.1; have x1 := hc.2.1; have x2 := hc.2.2.1; have x3 := hc.2.2.2; have hd := ((h.rd.ext hSw.below).cellNote hjn).2; rw [HY.out] at hd; have y0 := hd.1; have y1 := hd.2.1; have y2 := hd.2.2.1; have y3 := hd.2.2.2; go_simp; (try rw [if_neg (by omega)]); try with_reducible rfl)
              simp only [Act.put, sA]
              refine AtT.only (i := 20) (by kernel_rfl) rfl rfl ?_
              intro K hK
              go_simp
              refine (l17Order_any y x _ HYU.out HXU.out (by have := HYS.out; omega) (by have := HXS.out; omega)).mono ?_
              rintro e w4 ⟨rfl, hb⟩
              replace hM := hM.ext hb
              clear hb
              try dsimp only
              refine hK.out _ _ (hM) ?_
              clear hK K hS
              have hS := hM
              refine AtT.tk 21 ?_ 37 ?_ hS ?_
              rotate_left
              · (intro wS hSw; (try dsimp only at hSw); go_simp; (try rw [if_neg (by omega)]); try with_reducible rfl)
              simp only [Act.put, sA]
              refine AtT.tk 22 ?_ 38 ?_ hS ?_
              rotate_left
              · (intro wS hSw; (try dsimp only at hSw); go_simp; (try rw [if_neg (by omega)]); try with_reducible rfl)
              simp only [Act.put, sA]
              refine AtT.last (by kernel_rfl) rfl (by kernel_rfl) ?_
              intro K hK
              clear hS
              go_simp
              refine hK.out _ _ ?_
              clear hK K
              have hrr : decide (x.sq ≤ (y.un - x.un) * 100 + y.sq) = !q2 := by have := HORD.out; cases q2 <;> simp only [decide_eq_true_eq, decide_eq_false_iff_not, Bool.not_true, Bool.not_false] at this ⊢ <;> omega
              go_wp2_with fail
              go_meet
              exact ⟨by rw [← hrr], hM⟩
            case rest =>
              clear hM
              obtain ⟨rfl, hM⟩ := hcut
              cases q2
              · have hbf := bookB_no (u := u) (xs := coreN xs) (k := k) (by rw [HL.out]; exact hlt) (by rw [HBB.out]; rfl)
                rw [HB.out] at hbf
                subst hbf
                go_wp2
                go_ret
                exact ⟨rfl, (by apply Mem.below; (exact memA))⟩
              · have HK := Lib.hid (show bkTo u (coreN xs) (k + 1) = true by rw [bkTo_succ, HT.out, HBB.out]; rfl)
                go_wp2
                go_roundw
                case rel => exact ⟨k + 1, by omega, by omega, by go_num, HK.out, (fun _ => by first | rfl | trivial), hM⟩
                case measure => simp [intOf]; omega
      · have hbf := bookB_long (u := u) (xs := coreN xs) (by rw [HL.out]; omega)
        rw [HB.out] at hbf
        subst hbf
        have k12 : decide ((k : Int) ≤ 12) = false := decide_eq_false (by omega)
        have n12 : decide ((n : Int) ≤ 12) = false := decide_eq_false (by omega)
        go_wp2_with fail
        apply Mem.atA
        · exact memA
        clear hM
        intro wst hM
        (try simp only [World.size_alloc, World.size_setCell, World.heap_drewN, heapDrew, Nat.add_assoc, Nat.reduceAdd, sA, List.cons_append, List.nil_append] at hM)
        (first | refine (l1In_any _ _ _ _).mono ?_)
        rw [HIN.out]
        rintro e wc2 ⟨rfl, rfl⟩
        cases q0
        all_goals
          go_wp2
          go_ret
          exact ⟨rfl, (by apply Mem.below; (exact memA))⟩
    · obtain rfl : k = n := by omega
      have hbb : bv = (q0 && decide (k ≤ 12)) := by rw [← HB.out, bookB, HL.out, HT.out, HIN.out, Bool.true_and]
      have HBB := Lib.hid hbb; clear hbb
      go_wp2_with fail
      apply Mem.atA
      · exact memA
      clear hM
      intro wst hM
      (try simp only [World.size_alloc, World.size_setCell, World.heap_drewN, heapDrew, Nat.add_assoc, Nat.reduceAdd, sA, List.cons_append, List.nil_append] at hM)
      (first | refine (l1In_any _ _ _ _).mono ?_)
      rw [HIN.out]
      rintro e wc3 ⟨rfl, rfl⟩
      by_cases h12 : k ≤ 12
      · have h12' : decide (k ≤ 12) = true := decide_eq_true h12
        rw [h12', Bool.and_true] at HBB
        cases q0
        all_goals
          go_wp2
          go_ret
          exact ⟨rb (by rw [HBB.out]; first | done | rfl | exact decide_eq_true (by omega) | exact decide_eq_false (by omega)), (by apply Mem.below; (exact memA))⟩
      · have h12' : decide (k ≤ 12) = false := decide_eq_false h12
        rw [h12', Bool.and_false] at HBB
        cases q0
        all_goals
          go_wp2
          go_ret
          exact ⟨rb (by rw [HBB.out]; first | done | rfl | exact decide_eq_true (by omega) | exact decide_eq_false (by omega)), (by apply Mem.below; (exact memA))⟩
end Go.Proofs.YtjnbdgldpmmamaaGreat

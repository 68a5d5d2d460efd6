/-
  Notes: the order of two, the reference's validity.
-/
import Derived.Test.YtjnbdgldpmmamaaGreatUNoteV
/-
  Notes: the order of two, the reference's validity.
-/
namespace Go.Proofs.YtjnbdgldpmmamaaGreat
set_option linter.unusedSimpArgs false
set_option linter.unusedVariables false
open Go.RowKit

set_option maxRecDepth 100000 in
set_option maxHeartbeats 4000000 in
theorem compareNotes_any (x y : NoteI) (w : World) :
    Calls Tryz.prog 33 #[x.val, y.val] w fun e w' => (∃ r : Int, e = .returned (.int .i64 r) ∧ decide (r < 0) = ltN x.core y.core) ∧ Below w.heap.size w w' := by
  have hM := Mem.start w
  have HF := Lib.hid (ltN_cmp x.core y.core)
  obtain ⟨x0, x1, x2, x3, x4, x5, x6⟩ := x
  obtain ⟨y0, y1, y2, y3, y4, y5, y6⟩ := y
  have HF2 := Lib.hid (show decide (orI (cmpI x0 y0) (cmpI x1 y1) < 0) = _ from HF.out)
  clear HF
  go_enter Tryz.func33, Tryz.ntmps33
  go_upto_region 1 with fail
  apply Mem.atWpA
  · exact memA
  clear hM
  intro wst hM
  (try simp only [World.size_alloc, World.size_setCell, World.heap_drewN, heapDrew, Nat.add_assoc, Nat.reduceAdd, sA, List.cons_append, List.nil_append] at hM)
  refine AtT.startA hM hM 12 (by kernel_rfl) ?_
  clear hM
  intro wd hM
  have hS := hM
  refine AtT.tk 0 ?_ 5 ?_ hS ?_
  rotate_left
  · (intro wS hSw; (try dsimp only at hSw); go_simp; (try rw [if_neg (by omega)]); try with_reducible rfl)
  simp only [Act.put, sA]
  refine AtT.tk 1 ?_ 6 ?_ hS ?_
  rotate_left
  · (intro wS hSw; (try dsimp only at hSw); have kr0 := (Mem.row hSw .here).cell; have kr1 := (Mem.row hSw (.there .here)).cell; go_simp; (try rw [if_neg (by omega)]); try with_reducible rfl)
  simp only [Act.put, sA]
  refine AtT.tk 2 ?_ 7 ?_ hS ?_
  rotate_left
  · (intro wS hSw; (try dsimp only at hSw); go_simp; (try rw [if_neg (by omega)]); try with_reducible rfl)
  simp only [Act.put, sA]
  refine AtT.tk 3 ?_ 8 ?_ hS ?_
  rotate_left
  · (intro wS hSw; (try dsimp only at hSw); have kr0 := (Mem.row hSw .here).cell; have kr1 := (Mem.row hSw (.there .here)).cell; go_simp; (try rw [if_neg (by omega)]); try with_reducible rfl)
  simp only [Act.put, sA]
  refine AtT.tk 5 ?_ 10 ?_ hS ?_
  rotate_left
  · (intro wS hSw; (try dsimp only at hSw); go_simp; (try rw [if_neg (by omega)]); try with_reducible rfl)
  simp only [Act.put, sA]
  refine AtT.tk 6 ?_ 11 ?_ hS ?_
  rotate_left
  · (intro wS hSw; (try dsimp only at hSw); have kr0 := (Mem.row hSw .here).cell; have kr1 := (Mem.row hSw (.there .here)).cell; go_simp; (try rw [if_neg (by omega)]); try with_reducible rfl)
  simp only [Act.put, sA]
  refine AtT.tk 7 ?_ 12 ?_ hS ?_
  rotate_left
  · (intro wS hSw; (try dsimp only at hSw); go_simp; (try rw [if_neg (by omega)]); try with_reducible rfl)
  simp only [Act.put, sA]
  refine AtT.tk 8 ?_ 13 ?_ hS ?_
  rotate_left
  · (intro wS hSw; (try dsimp only at hSw); have kr0 := (Mem.row hSw .here).cell; have kr1 := (Mem.row hSw (.there .here)).cell; go_simp; (try rw [if_neg (by omega)]); try with_reducible rfl)
  simp only [Act.put, sA]
  refine AtT.only (i := 4) (by kernel_rfl) rfl rfl ?_
  intro K hK
  go_simp
  refine (compare_any _ _ _).mono ?_
  rintro e w2 ⟨rfl, rfl⟩
  try dsimp only
  refine hK.out _ _ (hM) ?_
  clear hK K hS
  have hS := hM
  refine AtT.only (i := 9) (by kernel_rfl) rfl rfl ?_
  intro K hK
  go_simp
  refine (compare_any _ _ _).mono ?_
  rintro e w2 ⟨rfl, rfl⟩
  try dsimp only
  refine hK.out _ _ (hM) ?_
  clear hK K hS
  have hS := hM
  refine AtT.only (i := 10) (by kernel_rfl) rfl rfl ?_
  intro K hK
  go_simp
  refine hK.out _ _ (by apply Mem.tail; (exact memA)) ?_
  clear hK K hS
  have hMp := hM
  apply Mem.atT
  · exact memA
  clear hM
  intro hM
  (try simp only [World.size_alloc, World.size_setCell, World.heap_drewN, heapDrew, Nat.add_assoc, Nat.reduceAdd, sA, List.cons_append, List.nil_append] at hM)
  have hS := hM.tail
  refine AtT.only (i := 11) (by kernel_rfl) rfl rfl ?_
  intro K hK
  go_simp
  refine (orTwo_any _ _ _ _ (hM.row .here)).mono ?_
  rintro e w2 ⟨rfl, rfl⟩
  try dsimp only
  refine hK.out _ _ (hM.tail) ?_
  clear hK K hS
  have hS := hM.tail
  refine AtT.last (by kernel_rfl) rfl (by kernel_rfl) ?_
  intro K hK
  clear hS
  go_simp
  refine hK.out _ _ ?_
  clear hK K
  go_wp2
  go_ret
  exact ⟨⟨_, rfl, HF2.out⟩, (by apply Mem.below; (exact memA))⟩
set_option maxRecDepth 100000 in
set_option maxHeartbeats 4000000 in
theorem l17Order_any (x y : NoteI) (w : World) (h1 : -10 ≤ x.un ∧ x.un ≤ 10) (h2 : -10 ≤ y.un ∧ y.un ≤ 10) (h3 : -40 ≤ x.sq ∧ x.sq ≤ 40) (h4 : -40 ≤ y.sq ∧ y.sq ≤ 40) :
    Calls Tryz.prog 49 #[x.val, y.val] w fun e w' => e = .returned (.int .i64 ((x.un - y.un) * 100 + x.sq - y.sq)) ∧ Below w.heap.size w w' := by
  have hM := Mem.start w
  obtain ⟨x0, x1, x2, x3, x4, x5, x6⟩ := x
  obtain ⟨y0, y1, y2, y3, y4, y5, y6⟩ := y
  dsimp only at h1 h2 h3 h4 ⊢
  have w1 : IntKind.i64.wrap (x0 - y0) = x0 - y0 := wrap_in (by omega)
  have w2 : IntKind.i64.wrap ((x0 - y0) * 100) = (x0 - y0) * 100 := wrap_in (by omega)
  have w3 : IntKind.i64.wrap ((x0 - y0) * 100 + x1) = (x0 - y0) * 100 + x1 := wrap_in (by omega)
  have w4 : IntKind.i64.wrap ((x0 - y0) * 100 + x1 - y1) = (x0 - y0) * 100 + x1 - y1 := wrap_in (by omega)
  go_enter Tryz.func49, Tryz.ntmps49
  go_upto_region 1 with fail
  apply Mem.atWpA
  · exact memA
  clear hM
  intro wst hM
  (try simp only [World.size_alloc, World.size_setCell, World.heap_drewN, heapDrew, Nat.add_assoc, Nat.reduceAdd, sA, List.cons_append, List.nil_append] at hM)
  obtain ⟨k0, f0, l0⟩ := hM.row .here
  obtain ⟨k1, f1, l1⟩ := hM.row (.there .here)
  go_wp2
  go_ret
  exact ⟨rfl, (by apply Mem.below; (exact memA))⟩
set_option maxRecDepth 100000 in
set_option maxHeartbeats 4000000 in
theorem l17Single_any (u : Int) (x : NoteI) (w : World) (hu : I64 u) (hk : x.wd.length ≤ maxLen) (h : Ints w x.ad x.n x.c x.cl) :
    Calls Tryz.prog 48 #[.int .i64 u, x.val] w fun e w' => e = .returned (.bool (inB u 2 4 && noteB u x.core)) ∧ Below w.heap.size w w' := by
  have hM := Mem.start w
  have hrm := h.room
  obtain ⟨un, sq, ad, n, c, cl, wo⟩ := x
  dsimp only at hk h hrm
  have hl := h.len
  obtain ⟨q0, h0⟩ : ∃ q, inB u 2 4 = q := ⟨_, rfl⟩
  obtain ⟨q1, h1⟩ : ∃ q, decide ((n : Int) = u) = q := ⟨_, rfl⟩
  obtain ⟨q2, h2⟩ : ∃ q, cl.all clkB = q := ⟨_, rfl⟩
  obtain ⟨q3, h3⟩ : ∃ q, inB un 0 (u - 1) = q := ⟨_, rfl⟩
  obtain ⟨q4, h4⟩ : ∃ q, decide (1 ≤ sq) = q := ⟨_, rfl⟩
  obtain ⟨q5, h5⟩ : ∃ q, (cl.getD un.toNat 0 == sq) = q := ⟨_, rfl⟩
  obtain ⟨q6, h6⟩ : ∃ q, wordB wo = q := ⟨_, rfl⟩
  have HF := Lib.hid (show (inB u 2 4 && noteB u ⟨un, sq, cl, wo⟩) = (q0 && (q1 && q2 && q3 && q4 && q5 && q6)) by unfold noteB; dsimp only; rw [hl, h0, h1, h2, h3, h4, h5, h6])
  show Calls Tryz.prog _ _ w fun e w' => e = .returned (.bool (inB u 2 4 && noteB u ⟨un, sq, cl, wo⟩)) ∧ Below w.heap.size w w'
  rw [HF.out]
  have H0 := Lib.hid h0; have H2 := Lib.hid h2; have H6 := Lib.hid h6; have H3 := Lib.hid h3
  have HL := Lib.hid hl
  clear h2 h6 HF hl
  have HI := Lib.hid h
  clear h
  cases q0
  · clear h0 h1 h3 h4 h5
    go_enter Tryz.func48, Tryz.ntmps48
    go_upto_region 1 with fail
    apply Mem.atWpA
    · exact memA
    clear hM
    intro wst hM
    (try simp only [World.size_alloc, World.size_setCell, World.heap_drewN, heapDrew, Nat.add_assoc, Nat.reduceAdd, sA, List.cons_append, List.nil_append] at hM)
    obtain ⟨k0, f0, l0⟩ := hM.row .here
    go_wp2_with fail
    clear k0 f0 l0
    apply Mem.atA
    · exact memA
    clear hM
    intro wst hM
    (try simp only [World.size_alloc, World.size_setCell, World.heap_drewN, heapDrew, Nat.add_assoc, Nat.reduceAdd, sA, List.cons_append, List.nil_append] at hM)
    (first | refine (l1In_any _ _ _ _).mono ?_)
    rw [H0.out]
    rintro e wc1 ⟨rfl, rfl⟩
    go_wp2
    go_ret
    exact ⟨rfl, (by apply Mem.below; (exact memA))⟩
  obtain ⟨v0, v1⟩ := inB_true h0
  clear h0
  have hr1 : IntKind.i64.wrap (u - 1) = u - 1 := wrap_in (by omega)
  cases q3
  · clear h1 h3 h4 h5
    go_enter Tryz.func48, Tryz.ntmps48
    go_upto_region 1 with fail
    apply Mem.atWpA
    · exact memA
    clear hM
    intro wst hM
    (try simp only [World.size_alloc, World.size_setCell, World.heap_drewN, heapDrew, Nat.add_assoc, Nat.reduceAdd, sA, List.cons_append, List.nil_append] at hM)
    obtain ⟨k0, f0, l0⟩ := hM.row .here
    go_wp2_with fail
    clear k0 f0 l0
    apply Mem.atA
    · exact memA
    clear hM
    intro wst hM
    (try simp only [World.size_alloc, World.size_setCell, World.heap_drewN, heapDrew, Nat.add_assoc, Nat.reduceAdd, sA, List.cons_append, List.nil_append] at hM)
    (first | refine (l1In_any _ _ _ _).mono ?_)
    rw [H0.out]
    rintro e wc2 ⟨rfl, rfl⟩
    obtain ⟨k0, f0, l0⟩ := hM.row .here
    go_wp2_with fail
    clear k0 f0 l0
    apply Mem.atA
    · exact memA
    clear hM
    intro wst hM
    (try simp only [World.size_alloc, World.size_setCell, World.heap_drewN, heapDrew, Nat.add_assoc, Nat.reduceAdd, sA, List.cons_append, List.nil_append] at hM)
    (first | refine (l1In_any _ _ _ _).mono ?_)
    rw [H3.out]
    rintro e wc3 ⟨rfl, rfl⟩
    go_wp2
    go_ret
    exact ⟨rb (by simp), (by apply Mem.below; (exact memA))⟩
  obtain ⟨u0, u1⟩ := inB_true h3
  clear h3
  cases q1
  · have hn : ¬ (n : Int) = u := by simpa using h1
    have hne : ((n : Int) != u) = true := by simpa using hn
    clear h1 h4 h5 hn
    go_enter Tryz.func48, Tryz.ntmps48
    go_upto_region 1 with fail
    apply Mem.atWpA
    · exact memA
    clear hM
    intro wst hM
    (try simp only [World.size_alloc, World.size_setCell, World.heap_drewN, heapDrew, Nat.add_assoc, Nat.reduceAdd, sA, List.cons_append, List.nil_append] at hM)
    obtain ⟨k0, f0, l0⟩ := hM.row .here
    go_wp2_with fail
    clear k0 f0 l0
    apply Mem.atA
    · exact memA
    clear hM
    intro wst hM
    (try simp only [World.size_alloc, World.size_setCell, World.heap_drewN, heapDrew, Nat.add_assoc, Nat.reduceAdd, sA, List.cons_append, List.nil_append] at hM)
    (first | refine (l1In_any _ _ _ _).mono ?_)
    rw [H0.out]
    rintro e wc4 ⟨rfl, rfl⟩
    obtain ⟨k0, f0, l0⟩ := hM.row .here
    go_wp2_with fail
    clear k0 f0 l0
    apply Mem.atA
    · exact memA
    clear hM
    intro wst hM
    (try simp only [World.size_alloc, World.size_setCell, World.heap_drewN, heapDrew, Nat.add_assoc, Nat.reduceAdd, sA, List.cons_append, List.nil_append] at hM)
    (first | refine (l1In_any _ _ _ _).mono ?_)
    rw [H3.out]
    rintro e wc5 ⟨rfl, rfl⟩
    obtain ⟨k0, f0, l0⟩ := hM.row .here
    go_wp2
    go_ret
    exact ⟨rb (by simp), (by apply Mem.below; (exact memA))⟩
  have hn : (n : Int) = u := by simpa using h1
  clear h1
  subst hn
  have hne : ((n : Int) != (n : Int)) = false := by simp
  cases q6
  · clear h4 h5
    go_enter Tryz.func48, Tryz.ntmps48
    go_upto_region 1 with fail
    apply Mem.atWpA
    · exact memA
    clear hM
    intro wst hM
    (try simp only [World.size_alloc, World.size_setCell, World.heap_drewN, heapDrew, Nat.add_assoc, Nat.reduceAdd, sA, List.cons_append, List.nil_append] at hM)
    obtain ⟨k0, f0, l0⟩ := hM.row .here
    go_wp2_with fail
    clear k0 f0 l0
    apply Mem.atA
    · exact memA
    clear hM
    intro wst hM
    (try simp only [World.size_alloc, World.size_setCell, World.heap_drewN, heapDrew, Nat.add_assoc, Nat.reduceAdd, sA, List.cons_append, List.nil_append] at hM)
    (first | refine (l1In_any _ _ _ _).mono ?_)
    rw [H0.out]
    rintro e wc6 ⟨rfl, rfl⟩
    obtain ⟨k0, f0, l0⟩ := hM.row .here
    go_wp2_with fail
    clear k0 f0 l0
    apply Mem.atA
    · exact memA
    clear hM
    intro wst hM
    (try simp only [World.size_alloc, World.size_setCell, World.heap_drewN, heapDrew, Nat.add_assoc, Nat.reduceAdd, sA, List.cons_append, List.nil_append] at hM)
    (first | refine (l1In_any _ _ _ _).mono ?_)
    rw [H3.out]
    rintro e wc7 ⟨rfl, rfl⟩
    obtain ⟨k0, f0, l0⟩ := hM.row .here
    go_wp2_with fail
    clear k0 f0 l0
    apply Mem.atA
    · exact memA
    clear hM
    intro wst hM
    (try simp only [World.size_alloc, World.size_setCell, World.heap_drewN, heapDrew, Nat.add_assoc, Nat.reduceAdd, sA, List.cons_append, List.nil_append] at hM)
    (first | refine (l2Word_any wo _ hk).mono ?_)
    rw [H6.out]
    rintro e wc8 ⟨rfl, rfl⟩
    go_wp2
    go_ret
    exact ⟨rb (by simp), (by apply Mem.below; (exact memA))⟩
  obtain ⟨m, rfl⟩ := Int.eq_ofNat_of_zero_le u0
  have hmn : m < n := by omega
  rw [Int.toNat_natCast] at h5
  obtain ⟨v, hv⟩ : ∃ v, cl.getD m 0 = v := ⟨_, rfl⟩
  rw [hv] at h5
  have HV := Lib.hid hv
  clear hv
  obtain ⟨b, off, rfl, -, -⟩ := HI.out.at' m hmn
  have m1 : (m : Int) < (n : Int) := by omega
  go_enter Tryz.func48, Tryz.ntmps48
  go_upto_region 1 with fail
  apply Mem.atWpA
  · exact memA
  clear hM
  intro wst hM
  (try simp only [World.size_alloc, World.size_setCell, World.heap_drewN, heapDrew, Nat.add_assoc, Nat.reduceAdd, sA, List.cons_append, List.nil_append] at hM)
  obtain ⟨k0, f0, l0⟩ := hM.row .here
  go_wp2_with fail
  clear k0 f0 l0
  apply Mem.atA
  · exact memA
  clear hM
  intro wst hM
  (try simp only [World.size_alloc, World.size_setCell, World.heap_drewN, heapDrew, Nat.add_assoc, Nat.reduceAdd, sA, List.cons_append, List.nil_append] at hM)
  (first | refine (l1In_any _ _ _ _).mono ?_)
  rw [H0.out]
  rintro e wc9 ⟨rfl, rfl⟩
  obtain ⟨k0, f0, l0⟩ := hM.row .here
  go_wp2_with fail
  clear k0 f0 l0
  apply Mem.atA
  · exact memA
  clear hM
  intro wst hM
  (try simp only [World.size_alloc, World.size_setCell, World.heap_drewN, heapDrew, Nat.add_assoc, Nat.reduceAdd, sA, List.cons_append, List.nil_append] at hM)
  (first | refine (l1In_any _ _ _ _).mono ?_)
  rw [H3.out]
  rintro e wc10 ⟨rfl, rfl⟩
  obtain ⟨k0, f0, l0⟩ := hM.row .here
  go_wp2_with fail
  clear k0 f0 l0
  apply Mem.atA
  · exact memA
  clear hM
  intro wst hM
  (try simp only [World.size_alloc, World.size_setCell, World.heap_drewN, heapDrew, Nat.add_assoc, Nat.reduceAdd, sA, List.cons_append, List.nil_append] at hM)
  (first | refine (l2Word_any wo _ hk).mono ?_)
  rw [H6.out]
  rintro e wc11 ⟨rfl, rfl⟩
  go_wp2_with fail
  apply Mem.atWpA
  · exact memA
  clear hM
  intro wst hM
  (try simp only [World.size_alloc, World.size_setCell, World.heap_drewN, heapDrew, Nat.add_assoc, Nat.reduceAdd, sA, List.cons_append, List.nil_append] at hM)
  go_loopw [5] (fun s5 wr => ∃ k : Nat, k ≤ n ∧ s5 = .int .i64 k ∧ (cl.take k).all clkB = true ∧ Mem w.heap.size w wr [rowE w.heap.size 40 #[.int .i64 m, .int .i64 sq, .slice (some ⟨b, off, none⟩) n c, .string (bsA wo)]]) (fun s5 _ => n - (intOf s5).toNat)
  case atStart => exact ⟨0, Nat.zero_le _, rfl, by simp, hM⟩
  case round =>
    clear hM
    obtain ⟨k, hk2, rfl, hall, hM⟩ := hrel
    have HA := Lib.hid hall; clear hall
    by_cases hlt : k < n
    · have hkl : k < cl.length := by rw [HL.out]; exact hlt
      have htk : cl.take (k + 1) = cl.take k ++ [cl.getD k 0] := take_succV hkl
      have hmem := getD_mem hkl
      obtain ⟨z, hz⟩ : ∃ z, cl.getD k 0 = z := ⟨_, rfl⟩
      have hck := (HI.out.ext hM.below).cellK hlt
      rw [hz] at hck htk hmem
      have HT := Lib.hid htk; have HME := Lib.hid hmem
      clear hz htk hmem hkl
      obtain ⟨q, hq⟩ : ∃ q, inB z 0 12 = q := ⟨_, rfl⟩
      have HQ := Lib.hid hq; clear hq
      have i0 : (0 : Int) ≤ (k : Int) := by omega
      have i1 : (k : Int) < (n : Int) := by omega
      obtain ⟨k0, f0, l0⟩ := hM.row .here
      go_wp2_with fail
      clear k0 f0 l0
      apply Mem.atA
      · exact memA
      clear hM
      intro wst hM
      (try simp only [World.size_alloc, World.size_setCell, World.heap_drewN, heapDrew, Nat.add_assoc, Nat.reduceAdd, sA, List.cons_append, List.nil_append] at hM)
      (first | refine (l1In_any _ _ _ _).mono ?_)
      rw [HQ.out]
      rintro e wc12 ⟨rfl, rfl⟩
      cases q
      · have hq2 : q2 = false := by
          rw [← H2.out, List.all_eq_false]
          exact ⟨z, HME.out, by unfold clkB; rw [HQ.out]; simp⟩
        subst hq2
        go_wp2
        go_ret
        exact ⟨rb (by simp), (by apply Mem.below; (exact memA))⟩
      · go_wp2
        go_roundw
        case rel => exact ⟨k + 1, by omega, by go_num, by rw [HT.out, List.all_append, HA.out]; unfold clkB; simp [HQ.out], hM⟩
        case measure => simp [intOf]; omega
    · obtain rfl : k = n := by omega
      have hq2 : q2 = true := by
        rw [← H2.out, ← HA.out, List.take_of_length_le (by rw [HL.out]; exact Nat.le_refl _)]
      subst hq2
      clear HA hlt hk2
      cases q4
      · clear h5
        go_upto_region 8 with fail
        apply Mem.atWpA
        · exact memA
        clear hM
        intro wst hM
        (try simp only [World.size_alloc, World.size_setCell, World.heap_drewN, heapDrew, Nat.add_assoc, Nat.reduceAdd, sA, List.cons_append, List.nil_append] at hM)
        refine AtT.startA hM hM 14 (by kernel_rfl) ?_
        clear hM
        intro wd hM
        have hS := hM
        refine AtT.tk 0 ?_ 42 ?_ hS ?_
        rotate_left
        · (intro wS hSw; (try dsimp only at hSw); go_simp; (try rw [if_neg (by omega)]); try with_reducible rfl)
        simp only [Act.put, sA]
        refine AtT.tk 1 ?_ 43 ?_ hS ?_
        rotate_left
        · (intro wS hSw; (try dsimp only at hSw); have kr0 := (Mem.row hSw .here).cell; go_simp; (try rw [if_neg (by omega)]); try with_reducible rfl)
        simp only [Act.put, sA]
        refine AtT.tk 2 ?_ 44 ?_ hS ?_
        rotate_left
        · (intro wS hSw; (try dsimp only at hSw); go_simp; (try rw [if_neg (by omega)]); try with_reducible rfl)
        simp only [Act.put, sA]
        refine AtT.tk 3 ?_ 45 ?_ hS ?_
        rotate_left
        · (intro wS hSw; (try dsimp only at hSw); go_simp; (try rw [if_neg (by omega)]); try with_reducible rfl)
        simp only [Act.put, sA]
        refine AtT.tn 4 46 hS ?_
        simp only [Act.put, sA]
        refine AtT.tn 5 47 hS ?_
        simp only [Act.put, sA]
        refine AtT.tn 6 48 hS ?_
        simp only [Act.put, sA]
        refine AtT.tn 7 49 hS ?_
        simp only [Act.put, sA]
        refine AtT.tn 8 50 hS ?_
        simp only [Act.put, sA]
        refine AtT.tn 9 51 hS ?_
        simp only [Act.put, sA]
        refine AtT.tn 10 52 hS ?_
        simp only [Act.put, sA]
        refine AtT.tn 11 53 hS ?_
        simp only [Act.put, sA]
        refine AtT.tn 12 54 hS ?_
        simp only [Act.put, sA]
        refine AtT.tk 13 ?_ 55 ?_ hS ?_
        rotate_left
        · (intro wS hSw; (try dsimp only at hSw); go_simp; (try rw [if_neg (by omega)]); try with_reducible rfl)
        simp only [Act.put, sA]
        refine AtT.last (by kernel_rfl) rfl (by kernel_rfl) ?_
        intro K hK
        clear hS
        go_simp
        refine hK.out _ _ ?_
        clear hK K
        go_wp2
        go_ret
        exact ⟨rb (by simp), (by apply Mem.below; (exact memA))⟩
      · cases q5
        all_goals skip
        · skip
          go_upto_region 8 with fail
          apply Mem.atWpA
          · exact memA
          clear hM
          intro wst hM
          (try simp only [World.size_alloc, World.size_setCell, World.heap_drewN, heapDrew, Nat.add_assoc, Nat.reduceAdd, sA, List.cons_append, List.nil_append] at hM)
          refine AtT.startA hM hM 14 (by kernel_rfl) ?_
          clear hM
          intro wd hM
          have hS := hM
          refine AtT.tk 0 ?_ 42 ?_ hS ?_
          rotate_left
          · (intro wS hSw; (try dsimp only at hSw); go_simp; (try rw [if_neg (by omega)]); try with_reducible rfl)
          simp only [Act.put, sA]
          refine AtT.tk 1 ?_ 43 ?_ hS ?_
          rotate_left
          · (intro wS hSw; (try dsimp only at hSw); have kr0 := (Mem.row hSw .here).cell; have g1 := (HI.out.ext hSw.below).cellK hmn; rw [HV.out] at g1; go_simp; (try rw [if_neg (by omega)]); try with_reducible rfl)
          simp only [Act.put, sA]
          refine AtT.tk 2 ?_ 44 ?_ hS ?_
          rotate_left
          · (intro wS hSw; (try dsimp only at hSw); go_simp; (try rw [if_neg (by omega)]); try with_reducible rfl)
          simp only [Act.put, sA]
          refine AtT.tk 3 ?_ 45 ?_ hS ?_
          rotate_left
          · (intro wS hSw; (try dsimp only at hSw); go_simp; (try rw [if_neg (by omega)]); try with_reducible rfl)
          simp only [Act.put, sA]
          refine AtT.tk 4 ?_ 46 ?_ hS ?_
          rotate_left
          · (intro wS hSw; (try dsimp only at hSw); go_simp; (try rw [if_neg (by omega)]); try with_reducible rfl)
          simp only [Act.put, sA]
          refine AtT.tk 5 ?_ 47 ?_ hS ?_
          rotate_left
          · (intro wS hSw; (try dsimp only at hSw); have kr0 := (Mem.row hSw .here).cell; have g1 := (HI.out.ext hSw.below).cellK hmn; rw [HV.out] at g1; go_simp; (try rw [if_neg (by omega)]); try with_reducible rfl)
          simp only [Act.put, sA]
          refine AtT.tk 6 ?_ 48 ?_ hS ?_
          rotate_left
          · (intro wS hSw; (try dsimp only at hSw); go_simp; (try rw [if_neg (by omega)]); try with_reducible rfl)
          simp only [Act.put, sA]
          refine AtT.tk 7 ?_ 49 ?_ hS ?_
          rotate_left
          · (intro wS hSw; (try dsimp only at hSw); have kr0 := (Mem.row hSw .here).cell; have g1 := (HI.out.ext hSw.below).cellK hmn; rw [HV.out] at g1; go_simp; (try rw [if_neg (by omega)]); try with_reducible rfl)
          simp only [Act.put, sA]
          refine AtT.tk 8 ?_ 50 ?_ hS ?_
          rotate_left
          · (intro wS hSw; (try dsimp only at hSw); have kr0 := (Mem.row hSw .here).cell; have g1 := (HI.out.ext hSw.below).cellK hmn; rw [HV.out] at g1; go_simp; (try rw [if_neg (by omega)]); try with_reducible rfl)
          simp only [Act.put, sA]
          refine AtT.tk 9 ?_ 51 ?_ hS ?_
          rotate_left
          · (intro wS hSw; (try dsimp only at hSw); have kr0 := (Mem.row hSw .here).cell; have g1 := (HI.out.ext hSw.below).cellK hmn; rw [HV.out] at g1; go_simp; (try rw [if_neg (by omega)]); try with_reducible rfl)
          simp only [Act.put, sA]
          refine AtT.tk 10 ?_ 52 ?_ hS ?_
          rotate_left
          · (intro wS hSw; (try dsimp only at hSw); go_simp; (try rw [if_neg (by omega)]); try with_reducible rfl)
          simp only [Act.put, sA]
          refine AtT.tk 11 ?_ 53 ?_ hS ?_
          rotate_left
          · (intro wS hSw; (try dsimp only at hSw); have kr0 := (Mem.row hSw .here).cell; have g1 := (HI.out.ext hSw.below).cellK hmn; rw [HV.out] at g1; go_simp; (try rw [if_neg (by omega)]); try with_reducible rfl)
          simp only [Act.put, sA]
          refine AtT.tk 12 ?_ 54 ?_ hS ?_
          rotate_left
          · (intro wS hSw; (try dsimp only at hSw); go_simp; (try rw [if_neg (by omega)]); try with_reducible rfl)
          simp only [Act.put, sA]
          refine AtT.tk 13 ?_ 55 ?_ hS ?_
          rotate_left
          · (intro wS hSw; (try dsimp only at hSw); go_simp; (try rw [if_neg (by omega)]); try with_reducible rfl)
          simp only [Act.put, sA]
          refine AtT.last (by kernel_rfl) rfl (by kernel_rfl) ?_
          intro K hK
          clear hS
          go_simp
          refine hK.out _ _ ?_
          clear hK K
          go_wp2
          go_ret
          exact ⟨rb (by simp), (by apply Mem.below; (exact memA))⟩
        · skip
          go_upto_region 8 with fail
          apply Mem.atWpA
          · exact memA
          clear hM
          intro wst hM
          (try simp only [World.size_alloc, World.size_setCell, World.heap_drewN, heapDrew, Nat.add_assoc, Nat.reduceAdd, sA, List.cons_append, List.nil_append] at hM)
          refine AtT.startA hM hM 14 (by kernel_rfl) ?_
          clear hM
          intro wd hM
          have hS := hM
          refine AtT.tk 0 ?_ 42 ?_ hS ?_
          rotate_left
          · (intro wS hSw; (try dsimp only at hSw); go_simp; (try rw [if_neg (by omega)]); try with_reducible rfl)
          simp only [Act.put, sA]
          refine AtT.tk 1 ?_ 43 ?_ hS ?_
          rotate_left
          · (intro wS hSw; (try dsimp only at hSw); have kr0 := (Mem.row hSw .here).cell; have g1 := (HI.out.ext hSw.below).cellK hmn; rw [HV.out] at g1; go_simp; (try rw [if_neg (by omega)]); try with_reducible rfl)
          simp only [Act.put, sA]
          refine AtT.tk 2 ?_ 44 ?_ hS ?_
          rotate_left
          · (intro wS hSw; (try dsimp only at hSw); go_simp; (try rw [if_neg (by omega)]); try with_reducible rfl)
          simp only [Act.put, sA]
          refine AtT.tk 3 ?_ 45 ?_ hS ?_
          rotate_left
          · (intro wS hSw; (try dsimp only at hSw); go_simp; (try rw [if_neg (by omega)]); try with_reducible rfl)
          simp only [Act.put, sA]
          refine AtT.tk 4 ?_ 46 ?_ hS ?_
          rotate_left
          · (intro wS hSw; (try dsimp only at hSw); go_simp; (try rw [if_neg (by omega)]); try with_reducible rfl)
          simp only [Act.put, sA]
          refine AtT.tk 5 ?_ 47 ?_ hS ?_
          rotate_left
          · (intro wS hSw; (try dsimp only at hSw); have kr0 := (Mem.row hSw .here).cell; have g1 := (HI.out.ext hSw.below).cellK hmn; rw [HV.out] at g1; go_simp; (try rw [if_neg (by omega)]); try with_reducible rfl)
          simp only [Act.put, sA]
          refine AtT.tk 6 ?_ 48 ?_ hS ?_
          rotate_left
          · (intro wS hSw; (try dsimp only at hSw); go_simp; (try rw [if_neg (by omega)]); try with_reducible rfl)
          simp only [Act.put, sA]
          refine AtT.tk 7 ?_ 49 ?_ hS ?_
          rotate_left
          · (intro wS hSw; (try dsimp only at hSw); have kr0 := (Mem.row hSw .here).cell; have g1 := (HI.out.ext hSw.below).cellK hmn; rw [HV.out] at g1; go_simp; (try rw [if_neg (by omega)]); try with_reducible rfl)
          simp only [Act.put, sA]
          refine AtT.tk 8 ?_ 50 ?_ hS ?_
          rotate_left
          · (intro wS hSw; (try dsimp only at hSw); have kr0 := (Mem.row hSw .here).cell; have g1 := (HI.out.ext hSw.below).cellK hmn; rw [HV.out] at g1; go_simp; (try rw [if_neg (by omega)]); try with_reducible rfl)
          simp only [Act.put, sA]
          refine AtT.tk 9 ?_ 51 ?_ hS ?_
          rotate_left
          · (intro wS hSw; (try dsimp only at hSw); have kr0 := (Mem.row hSw .here).cell; have g1 := (HI.out.ext hSw.below).cellK hmn; rw [HV.out] at g1; go_simp; (try rw [if_neg (by omega)]); try with_reducible rfl)
          simp only [Act.put, sA]
          refine AtT.tk 10 ?_ 52 ?_ hS ?_
          rotate_left
          · (intro wS hSw; (try dsimp only at hSw); go_simp; (try rw [if_neg (by omega)]); try with_reducible rfl)
          simp only [Act.put, sA]
          refine AtT.tk 11 ?_ 53 ?_ hS ?_
          rotate_left
          · (intro wS hSw; (try dsimp only at hSw); have kr0 := (Mem.row hSw .here).cell; have g1 := (HI.out.ext hSw.below).cellK hmn; rw [HV.out] at g1; go_simp; (try rw [if_neg (by omega)]); try with_reducible rfl)
          simp only [Act.put, sA]
          refine AtT.tk 12 ?_ 54 ?_ hS ?_
          rotate_left
          · (intro wS hSw; (try dsimp only at hSw); go_simp; (try rw [if_neg (by omega)]); try with_reducible rfl)
          simp only [Act.put, sA]
          refine AtT.tk 13 ?_ 55 ?_ hS ?_
          rotate_left
          · (intro wS hSw; (try dsimp only at hSw); go_simp; (try rw [if_neg (by omega)]); try with_reducible rfl)
          simp only [Act.put, sA]
          refine AtT.last (by kernel_rfl) rfl (by kernel_rfl) ?_
          intro K hK
          clear hS
          go_simp
          refine hK.out _ _ ?_
          clear hK K
          go_wp2
          go_ret
          exact ⟨rb (by simp), (by apply Mem.below; (exact memA))⟩
end Go.Proofs.YtjnbdgldpmmamaaGreat

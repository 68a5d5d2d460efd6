/-
  A note before another one: both sides.
-/
import Derived.Test.YtjnbdgldpmmamaaGreatUCompP
import Derived.Test.YtjnbdgldpmmamaaGreatUNoteW
import Derived.Test.YtjnbdgldpmmamaaGreatUNoteG
/-
  A note before another one: both sides.
-/
namespace Go.Proofs.YtjnbdgldpmmamaaGreat
set_option linter.unusedSimpArgs false
set_option linter.unusedVariables false
open Go.RowKit

set_option maxRecDepth 100000 in
set_option maxHeartbeats 4000000 in
theorem before_any (x y : NoteI) (w : World) (h : Ints w y.ad y.n y.c y.cl) (hu : 0 ≤ x.un ∧ x.un < (y.n : Int)) :
    Calls Tryz.prog 38 #[x.val, y.val] w fun e w' => e = .returned (.bool (befC x.core y.core)) ∧ Below w.heap.size w w' := by
  have hM := Mem.start w
  obtain ⟨x0, x1, x2, x3, x4, x5, x6⟩ := x
  obtain ⟨y0, y1, y2, y3, y4, y5, y6⟩ := y
  dsimp only at h hu
  obtain ⟨m, rfl⟩ := Int.eq_ofNat_of_zero_le hu.1
  have hmn : m < y3 := by omega
  have HI := Lib.hid h
  obtain ⟨v, hv⟩ : ∃ v, y5.getD m 0 = v := ⟨_, rfl⟩
  have hr : befC (NoteI.core ⟨(m : Int), x1, x2, x3, x4, x5, x6⟩) (NoteI.core ⟨y0, y1, y2, y3, y4, y5, y6⟩) = decide (x1 ≤ v) := by
    show decide (x1 ≤ y5.getD (m : Int).toNat 0) = _
    rw [Int.toNat_natCast, hv]
  rw [hr]
  obtain ⟨b, off, rfl, -, -⟩ := h.at' m hmn
  have m0 : (0 : Int) ≤ (m : Int) := by omega
  have m1 : (m : Int) < (y3 : Int) := by omega
  have HV := Lib.hid hv
  clear hv h hr hu
  go_enter Tryz.func38, Tryz.ntmps38
  go_upto_region 1 with fail
  apply Mem.atWpA
  · exact memA
  clear hM
  intro wst hM
  (try simp only [World.size_alloc, World.size_setCell, World.heap_drewN, heapDrew, Nat.add_assoc, Nat.reduceAdd, sA, List.cons_append, List.nil_append] at hM)
  refine AtT.startA hM hM 9 (by kernel_rfl) ?_
  clear hM
  intro wd hM
  have hS := hM
  refine AtT.tk 0 ?_ 5 ?_ hS ?_
  rotate_left
  · (intro wS hSw; (try dsimp only at hSw); go_simp; (try rw [if_neg (by omega)]); try with_reducible rfl)
  simp only [Act.put, sA]
  refine AtT.tk 1 ?_ 6 ?_ hS ?_
  rotate_left
  · (intro wS hSw; (try dsimp only at hSw); have kr0 := (Mem.row hSw .here).cell; have kr1 := (Mem.row hSw (.there .here)).cell; have g1 := (HI.out.ext hSw.below).cellK hmn; rw [HV.out] at g1; go_simp; (try rw [if_neg (by omega)]); try with_reducible rfl)
  simp only [Act.put, sA]
  refine AtT.tk 2 ?_ 7 ?_ hS ?_
  rotate_left
  · (intro wS hSw; (try dsimp only at hSw); go_simp; (try rw [if_neg (by omega)]); try with_reducible rfl)
  simp only [Act.put, sA]
  refine AtT.tk 3 ?_ 8 ?_ hS ?_
  rotate_left
  · (intro wS hSw; (try dsimp only at hSw); have kr0 := (Mem.row hSw .here).cell; have kr1 := (Mem.row hSw (.there .here)).cell; have g1 := (HI.out.ext hSw.below).cellK hmn; rw [HV.out] at g1; go_simp; (try rw [if_neg (by omega)]); try with_reducible rfl)
  simp only [Act.put, sA]
  refine AtT.tk 4 ?_ 9 ?_ hS ?_
  rotate_left
  · (intro wS hSw; (try dsimp only at hSw); have kr0 := (Mem.row hSw .here).cell; have kr1 := (Mem.row hSw (.there .here)).cell; have g1 := (HI.out.ext hSw.below).cellK hmn; rw [HV.out] at g1; go_simp; (try rw [if_neg (by omega)]); try with_reducible rfl)
  simp only [Act.put, sA]
  refine AtT.tk 5 ?_ 10 ?_ hS ?_
  rotate_left
  · (intro wS hSw; (try dsimp only at hSw); have kr0 := (Mem.row hSw .here).cell; have kr1 := (Mem.row hSw (.there .here)).cell; have g1 := (HI.out.ext hSw.below).cellK hmn; rw [HV.out] at g1; go_simp; (try rw [if_neg (by omega)]); try with_reducible rfl)
  simp only [Act.put, sA]
  refine AtT.tk 6 ?_ 11 ?_ hS ?_
  rotate_left
  · (intro wS hSw; (try dsimp only at hSw); go_simp; (try rw [if_neg (by omega)]); try with_reducible rfl)
  simp only [Act.put, sA]
  refine AtT.tk 7 ?_ 12 ?_ hS ?_
  rotate_left
  · (intro wS hSw; (try dsimp only at hSw); have kr0 := (Mem.row hSw .here).cell; have kr1 := (Mem.row hSw (.there .here)).cell; have g1 := (HI.out.ext hSw.below).cellK hmn; rw [HV.out] at g1; go_simp; (try rw [if_neg (by omega)]); try with_reducible rfl)
  simp only [Act.put, sA]
  refine AtT.tk 8 ?_ 13 ?_ hS ?_
  rotate_left
  · (intro wS hSw; (try dsimp only at hSw); go_simp; (try rw [if_neg (by omega)]); try with_reducible rfl)
  simp only [Act.put, sA]
  refine AtT.last (by kernel_rfl) rfl (by kernel_rfl) ?_
  intro K hK
  clear hS
  go_simp
  refine hK.out _ _ ?_
  clear hK K
  go_wp2
  go_ret
  exact ⟨rfl, (by apply Mem.below; (exact memA))⟩
theorem order_zero {a b : NoteC} (h1 : -40 ≤ a.sq - b.sq ∧ a.sq - b.sq ≤ 40) : ((a.un - b.un) * 100 + a.sq - b.sq != 0) = !sameK a b := by
  have h : ((a.un - b.un) * 100 + a.sq - b.sq = 0) ↔ sameK a b = true := by
    rw [sameK_true]
    omega
  cases hs : sameK a b
  · have : ¬ (a.un - b.un) * 100 + a.sq - b.sq = 0 := fun e => by rw [h.1 e] at hs; cases hs
    simpa using this
  · have := h.2 hs
    rw [this]
    rfl
set_option maxRecDepth 100000 in
set_option maxHeartbeats 4000000 in
theorem l17Before_any (x y : NoteI) (w : World) (h : Ints w y.ad y.n y.c y.cl) (hu : 0 ≤ x.un ∧ x.un < (y.n : Int)) (s1 : smallN x) (s2 : smallN y) :
    Calls Tryz.prog 50 #[x.val, y.val] w fun e w' => e = .returned (.bool (befC x.core y.core && !sameK x.core y.core)) ∧ Below w.heap.size w w' := by
  have hM := Mem.start w
  have hz := order_zero (a := x.core) (b := y.core) (by obtain ⟨-, s1⟩ := s1; obtain ⟨-, s2⟩ := s2; show -40 ≤ x.sq - y.sq ∧ x.sq - y.sq ≤ 40; omega)
  have HORD := Lib.hid (fun w' => l17Order_any x y w' s1.1 s2.1 (by have := s1.2; omega) (by have := s2.2; omega))
  obtain ⟨q, hq⟩ : ∃ q, sameK x.core y.core = q := ⟨_, rfl⟩
  rw [hq] at hz ⊢
  clear hq s1 s2
  obtain ⟨x0, x1, x2, x3, x4, x5, x6⟩ := x
  obtain ⟨y0, y1, y2, y3, y4, y5, y6⟩ := y
  dsimp only at h hu
  obtain ⟨m, rfl⟩ := Int.eq_ofNat_of_zero_le hu.1
  have hz2 : (((m : Int) - y0) * 100 + x1 - y1 != 0) = !q := hz
  obtain ⟨z, hze⟩ : ∃ z, ((m : Int) - y0) * 100 + x1 - y1 = z := ⟨_, rfl⟩
  rw [hze] at hz2
  have HZE := Lib.hid hze
  have hmn : m < y3 := by omega
  have HI := Lib.hid h
  obtain ⟨v, hv⟩ : ∃ v, y5.getD m 0 = v := ⟨_, rfl⟩
  have hr : befC (NoteI.core ⟨(m : Int), x1, x2, x3, x4, x5, x6⟩) (NoteI.core ⟨y0, y1, y2, y3, y4, y5, y6⟩) = decide (x1 ≤ v) := by
    show decide (x1 ≤ y5.getD (m : Int).toNat 0) = _
    rw [Int.toNat_natCast, hv]
  rw [hr]
  obtain ⟨b, off, rfl, -, -⟩ := h.at' m hmn
  have m0 : (0 : Int) ≤ (m : Int) := by omega
  have m1 : (m : Int) < (y3 : Int) := by omega
  have HV := Lib.hid hv
  clear hv h hr hu hz hze
  by_cases hle : x1 ≤ v
  · rw [decide_eq_true hle, Bool.true_and]
    go_enter Tryz.func50, Tryz.ntmps50
    go_upto_region 1 with fail
    apply Mem.atWpA
    · exact memA
    clear hM
    intro wst hM
    (try simp only [World.size_alloc, World.size_setCell, World.heap_drewN, heapDrew, Nat.add_assoc, Nat.reduceAdd, sA, List.cons_append, List.nil_append] at hM)
    refine AtT.startA hM hM 15 (by kernel_rfl) ?_
    clear hM
    intro wd hM
    have hS := hM
    refine AtT.tk 0 ?_ 5 ?_ hS ?_
    rotate_left
    · (intro wS hSw; (try dsimp only at hSw); go_simp; (try rw [if_neg (by omega)]); try with_reducible rfl)
    simp only [Act.put, sA]
    refine AtT.tk 1 ?_ 6 ?_ hS ?_
    rotate_left
    · (intro wS hSw; (try dsimp only at hSw); have kr0 := (Mem.row hSw .here).cell; have kr1 := (Mem.row hSw (.there .here)).cell; have g1 := (HI.out.ext hSw.below).cellK hmn; rw [HV.out] at g1; go_simp; (try rw [if_neg (by omega)]); try with_reducible rfl)
    simp only [Act.put, sA]
    refine AtT.tk 2 ?_ 7 ?_ hS ?_
    rotate_left
    · (intro wS hSw; (try dsimp only at hSw); go_simp; (try rw [if_neg (by omega)]); try with_reducible rfl)
    simp only [Act.put, sA]
    refine AtT.tk 3 ?_ 8 ?_ hS ?_
    rotate_left
    · (intro wS hSw; (try dsimp only at hSw); have kr0 := (Mem.row hSw .here).cell; have kr1 := (Mem.row hSw (.there .here)).cell; have g1 := (HI.out.ext hSw.below).cellK hmn; rw [HV.out] at g1; go_simp; (try rw [if_neg (by omega)]); try with_reducible rfl)
    simp only [Act.put, sA]
    refine AtT.tk 4 ?_ 9 ?_ hS ?_
    rotate_left
    · (intro wS hSw; (try dsimp only at hSw); have kr0 := (Mem.row hSw .here).cell; have kr1 := (Mem.row hSw (.there .here)).cell; have g1 := (HI.out.ext hSw.below).cellK hmn; rw [HV.out] at g1; go_simp; (try rw [if_neg (by omega)]); try with_reducible rfl)
    simp only [Act.put, sA]
    refine AtT.tk 5 ?_ 10 ?_ hS ?_
    rotate_left
    · (intro wS hSw; (try dsimp only at hSw); have kr0 := (Mem.row hSw .here).cell; have kr1 := (Mem.row hSw (.there .here)).cell; have g1 := (HI.out.ext hSw.below).cellK hmn; rw [HV.out] at g1; go_simp; (try rw [if_neg (by omega)]); try with_reducible rfl)
    simp only [Act.put, sA]
    refine AtT.tk 6 ?_ 11 ?_ hS ?_
    rotate_left
    · (intro wS hSw; (try dsimp only at hSw); go_simp; (try rw [if_neg (by omega)]); try with_reducible rfl)
    simp only [Act.put, sA]
    refine AtT.tk 7 ?_ 12 ?_ hS ?_
    rotate_left
    · (intro wS hSw; (try dsimp only at hSw); have kr0 := (Mem.row hSw .here).cell; have kr1 := (Mem.row hSw (.there .here)).cell; have g1 := (HI.out.ext hSw.below).cellK hmn; rw [HV.out] at g1; go_simp; (try rw [if_neg (by omega)]); try with_reducible rfl)
    simp only [Act.put, sA]
    refine AtT.tk 8 ?_ 13 ?_ hS ?_
    rotate_left
    · (intro wS hSw; (try dsimp only at hSw); go_simp; (try rw [if_neg (by omega)]); try with_reducible rfl)
    simp only [Act.put, sA]
    refine AtT.tk 9 ?_ 14 ?_ hS ?_
    rotate_left
    · (intro wS hSw; (try dsimp only at hSw); go_simp; (try rw [if_neg (by omega)]); try with_reducible rfl)
    simp only [Act.put, sA]
    refine AtT.tk 10 ?_ 15 ?_ hS ?_
    rotate_left
    · (intro wS hSw; (try dsimp only at hSw); have kr0 := (Mem.row hSw .here).cell; have kr1 := (Mem.row hSw (.there .here)).cell; have g1 := (HI.out.ext hSw.below).cellK hmn; rw [HV.out] at g1; go_simp; (try rw [if_neg (by omega)]); try with_reducible rfl)
    simp only [Act.put, sA]
    refine AtT.tk 11 ?_ 16 ?_ hS ?_
    rotate_left
    · (intro wS hSw; (try dsimp only at hSw); have kr0 := (Mem.row hSw .here).cell; have kr1 := (Mem.row hSw (.there .here)).cell; have g1 := (HI.out.ext hSw.below).cellK hmn; rw [HV.out] at g1; go_simp; (try rw [if_neg (by omega)]); try with_reducible rfl)
    simp only [Act.put, sA]
    refine AtT.only (i := 12) (by kernel_rfl) rfl rfl ?_
    intro K hK
    go_simp
    refine (HORD.out _).mono ?_
    try dsimp only
    rw [HZE.out]
    rintro e w3 ⟨rfl, hb⟩
    replace hM := hM.ext hb
    clear hb
    try dsimp only
    refine hK.out _ _ (hM) ?_
    clear hK K hS
    have hS := hM
    refine AtT.tk 13 ?_ 18 ?_ hS ?_
    rotate_left
    · (intro wS hSw; (try dsimp only at hSw); go_simp; (try rw [if_neg (by omega)]); try with_reducible rfl)
    simp only [Act.put, sA]
    refine AtT.tk 14 ?_ 19 ?_ hS ?_
    rotate_left
    · (intro wS hSw; (try dsimp only at hSw); go_simp; (try rw [if_neg (by omega)]); try with_reducible rfl)
    simp only [Act.put, sA]
    refine AtT.last (by kernel_rfl) rfl (by kernel_rfl) ?_
    intro K hK
    clear hS
    go_simp
    refine hK.out _ _ ?_
    clear hK K
    go_wp2
    go_ret
    exact ⟨rb (by first | exact hz2 | simp [hz2]), (by apply Mem.below; (exact memA))⟩
  · rw [decide_eq_false hle, Bool.false_and]
    go_enter Tryz.func50, Tryz.ntmps50
    go_upto_region 1 with fail
    apply Mem.atWpA
    · exact memA
    clear hM
    intro wst hM
    (try simp only [World.size_alloc, World.size_setCell, World.heap_drewN, heapDrew, Nat.add_assoc, Nat.reduceAdd, sA, List.cons_append, List.nil_append] at hM)
    refine AtT.startA hM hM 15 (by kernel_rfl) ?_
    clear hM
    intro wd hM
    have hS := hM
    refine AtT.tk 0 ?_ 5 ?_ hS ?_
    rotate_left
    · (intro wS hSw; (try dsimp only at hSw); go_simp; (try rw [if_neg (by omega)]); try with_reducible rfl)
    simp only [Act.put, sA]
    refine AtT.tk 1 ?_ 6 ?_ hS ?_
    rotate_left
    · (intro wS hSw; (try dsimp only at hSw); have kr0 := (Mem.row hSw .here).cell; have kr1 := (Mem.row hSw (.there .here)).cell; have g1 := (HI.out.ext hSw.below).cellK hmn; rw [HV.out] at g1; go_simp; (try rw [if_neg (by omega)]); try with_reducible rfl)
    simp only [Act.put, sA]
    refine AtT.tk 2 ?_ 7 ?_ hS ?_
    rotate_left
    · (intro wS hSw; (try dsimp only at hSw); go_simp; (try rw [if_neg (by omega)]); try with_reducible rfl)
    simp only [Act.put, sA]
    refine AtT.tk 3 ?_ 8 ?_ hS ?_
    rotate_left
    · (intro wS hSw; (try dsimp only at hSw); have kr0 := (Mem.row hSw .here).cell; have kr1 := (Mem.row hSw (.there .here)).cell; have g1 := (HI.out.ext hSw.below).cellK hmn; rw [HV.out] at g1; go_simp; (try rw [if_neg (by omega)]); try with_reducible rfl)
    simp only [Act.put, sA]
    refine AtT.tk 4 ?_ 9 ?_ hS ?_
    rotate_left
    · (intro wS hSw; (try dsimp only at hSw); have kr0 := (Mem.row hSw .here).cell; have kr1 := (Mem.row hSw (.there .here)).cell; have g1 := (HI.out.ext hSw.below).cellK hmn; rw [HV.out] at g1; go_simp; (try rw [if_neg (by omega)]); try with_reducible rfl)
    simp only [Act.put, sA]
    refine AtT.tk 5 ?_ 10 ?_ hS ?_
    rotate_left
    · (intro wS hSw; (try dsimp only at hSw); have kr0 := (Mem.row hSw .here).cell; have kr1 := (Mem.row hSw (.there .here)).cell; have g1 := (HI.out.ext hSw.below).cellK hmn; rw [HV.out] at g1; go_simp; (try rw [if_neg (by omega)]); try with_reducible rfl)
    simp only [Act.put, sA]
    refine AtT.tk 6 ?_ 11 ?_ hS ?_
    rotate_left
    · (intro wS hSw; (try dsimp only at hSw); go_simp; (try rw [if_neg (by omega)]); try with_reducible rfl)
    simp only [Act.put, sA]
    refine AtT.tk 7 ?_ 12 ?_ hS ?_
    rotate_left
    · (intro wS hSw; (try dsimp only at hSw); have kr0 := (Mem.row hSw .here).cell; have kr1 := (Mem.row hSw (.there .here)).cell; have g1 := (HI.out.ext hSw.below).cellK hmn; rw [HV.out] at g1; go_simp; (try rw [if_neg (by omega)]); try with_reducible rfl)
    simp only [Act.put, sA]
    refine AtT.tk 8 ?_ 13 ?_ hS ?_
    rotate_left
    · (intro wS hSw; (try dsimp only at hSw); go_simp; (try rw [if_neg (by omega)]); try with_reducible rfl)
    simp only [Act.put, sA]
    refine AtT.tk 9 ?_ 14 ?_ hS ?_
    rotate_left
    · (intro wS hSw; (try dsimp only at hSw); go_simp; (try rw [if_neg (by omega)]); try with_reducible rfl)
    simp only [Act.put, sA]
    refine AtT.tn 10 15 hS ?_
    simp only [Act.put, sA]
    refine AtT.tn 11 16 hS ?_
    simp only [Act.put, sA]
    refine AtT.tn 12 17 hS ?_
    simp only [Act.put, sA]
    refine AtT.tn 13 18 hS ?_
    simp only [Act.put, sA]
    refine AtT.tk 14 ?_ 19 ?_ hS ?_
    rotate_left
    · (intro wS hSw; (try dsimp only at hSw); go_simp; (try rw [if_neg (by omega)]); try with_reducible rfl)
    simp only [Act.put, sA]
    refine AtT.last (by kernel_rfl) rfl (by kernel_rfl) ?_
    intro K hK
    clear hS
    go_simp
    refine hK.out _ _ ?_
    clear hK K
    go_wp2
    go_ret
    exact ⟨rb (by simp [hle]), (by apply Mem.below; (exact memA))⟩
theorem cmp_zero (a b : NoteC) : (orI (cmpI a.un b.un) (cmpI a.sq b.sq) == 0) = sameK a b := by
  unfold orI cmpI sameK
  by_cases h1 : a.un < b.un
  · have h3 : ¬ a.un = b.un := by omega
    simp [h1, h3]
  · by_cases h2 : b.un < a.un
    · have h3 : ¬ a.un = b.un := by omega
      simp [h1, h2, h3]
    · have h3 : a.un = b.un := by omega
      by_cases h4 : a.sq < b.sq
      · have h5 : ¬ a.sq = b.sq := by omega
        simp [h3, h4, h5]
      · by_cases h5 : b.sq < a.sq
        · have h6 : ¬ a.sq = b.sq := by omega
          simp [h3, h4, h5, h6]
        · have h6 : a.sq = b.sq := by omega
          simp [h3, h6]
set_option maxRecDepth 100000 in
set_option maxHeartbeats 4000000 in
theorem compareV_any (x y : NoteI) (w : World) :
    Calls Tryz.prog 33 #[x.val, y.val] w fun e w' => (∃ r : Int, e = .returned (.int .i64 r) ∧ (r == 0) = sameK x.core y.core) ∧ Below w.heap.size w w' := by
  have hM := Mem.start w
  have HF := Lib.hid (cmp_zero x.core y.core)
  obtain ⟨x0, x1, x2, x3, x4, x5, x6⟩ := x
  obtain ⟨y0, y1, y2, y3, y4, y5, y6⟩ := y
  have HF2 := Lib.hid (show (orI (cmpI x0 y0) (cmpI x1 y1) == 0) = _ from HF.out)
  clear HF
  go_enter Tryz.func33, Tryz.ntmps33
  go_upto_region 1 with fail
  apply Mem.atWpA
  · exact memA
  clear hM
  intro wst hM
  (try simp only [World.size_alloc, World.size_setCell, World.heap_drewN, heapDrew, Nat.add_assoc, Nat.reduceAdd, sA, List.cons_append, List.nil_append] at hM)
  refine AtT.startA hM hM 12 (by kernel_rfl) ?_
  clear hM
  intro wd hM
  have hS := hM
  refine AtT.tk 0 ?_ 5 ?_ hS ?_
  rotate_left
  · (intro wS hSw; (try dsimp only at hSw); go_simp; (try rw [if_neg (by omega)]); try with_reducible rfl)
  simp only [Act.put, sA]
  refine AtT.tk 1 ?_ 6 ?_ hS ?_
  rotate_left
  · (intro wS hSw; (try dsimp only at hSw); have kr0 := (Mem.row hSw .here).cell; have kr1 := (Mem.row hSw (.there .here)).cell; go_simp; (try rw [if_neg (by omega)]); try with_reducible rfl)
  simp only [Act.put, sA]
  refine AtT.tk 2 ?_ 7 ?_ hS ?_
  rotate_left
  · (intro wS hSw; (try dsimp only at hSw); go_simp; (try rw [if_neg (by omega)]); try with_reducible rfl)
  simp only [Act.put, sA]
  refine AtT.tk 3 ?_ 8 ?_ hS ?_
  rotate_left
  · (intro wS hSw; (try dsimp only at hSw); have kr0 := (Mem.row hSw .here).cell; have kr1 := (Mem.row hSw (.there .here)).cell; go_simp; (try rw [if_neg (by omega)]); try with_reducible rfl)
  simp only [Act.put, sA]
  refine AtT.tk 5 ?_ 10 ?_ hS ?_
  rotate_left
  · (intro wS hSw; (try dsimp only at hSw); go_simp; (try rw [if_neg (by omega)]); try with_reducible rfl)
  simp only [Act.put, sA]
  refine AtT.tk 6 ?_ 11 ?_ hS ?_
  rotate_left
  · (intro wS hSw; (try dsimp only at hSw); have kr0 := (Mem.row hSw .here).cell; have kr1 := (Mem.row hSw (.there .here)).cell; go_simp; (try rw [if_neg (by omega)]); try with_reducible rfl)
  simp only [Act.put, sA]
  refine AtT.tk 7 ?_ 12 ?_ hS ?_
  rotate_left
  · (intro wS hSw; (try dsimp only at hSw); go_simp; (try rw [if_neg (by omega)]); try with_reducible rfl)
  simp only [Act.put, sA]
  refine AtT.tk 8 ?_ 13 ?_ hS ?_
  rotate_left
  · (intro wS hSw; (try dsimp only at hSw); have kr0 := (Mem.row hSw .here).cell; have kr1 := (Mem.row hSw (.there .here)).cell; go_simp; (try rw [if_neg (by omega)]); try with_reducible rfl)
  simp only [Act.put, sA]
  refine AtT.only (i := 4) (by kernel_rfl) rfl rfl ?_
  intro K hK
  go_simp
  refine (compare_any _ _ _).mono ?_
  rintro e w2 ⟨rfl, rfl⟩
  try dsimp only
  refine hK.out _ _ (hM) ?_
  clear hK K hS
  have hS := hM
  refine AtT.only (i := 9) (by kernel_rfl) rfl rfl ?_
  intro K hK
  go_simp
  refine (compare_any _ _ _).mono ?_
  rintro e w2 ⟨rfl, rfl⟩
  try dsimp only
  refine hK.out _ _ (hM) ?_
  clear hK K hS
  have hS := hM
  refine AtT.only (i := 10) (by kernel_rfl) rfl rfl ?_
  intro K hK
  go_simp
  refine hK.out _ _ (by apply Mem.tail; (exact memA)) ?_
  clear hK K hS
  have hMp := hM
  apply Mem.atT
  · exact memA
  clear hM
  intro hM
  (try simp only [World.size_alloc, World.size_setCell, World.heap_drewN, heapDrew, Nat.add_assoc, Nat.reduceAdd, sA, List.cons_append, List.nil_append] at hM)
  have hS := hM.tail
  refine AtT.only (i := 11) (by kernel_rfl) rfl rfl ?_
  intro K hK
  go_simp
  refine (orTwo_any _ _ _ _ (hM.row .here)).mono ?_
  rintro e w2 ⟨rfl, rfl⟩
  try dsimp only
  refine hK.out _ _ (hM.tail) ?_
  clear hK K hS
  have hS := hM.tail
  refine AtT.last (by kernel_rfl) rfl (by kernel_rfl) ?_
  intro K hK
  clear hS
  go_simp
  refine hK.out _ _ ?_
  clear hK K
  go_wp2
  go_ret
  exact ⟨⟨_, rfl, HF2.out⟩, (by apply Mem.below; (exact memA))⟩
/-- two notes can be compared -/
def cmpB (u : Int) (a b : NoteC) : Bool := inB u 2 4 && noteB u a && noteB u b && !sameK a b
theorem note_place {u : Int} {x y : NoteI} {w : World} (hx : noteB u x.core = true) (hy : noteB u y.core = true) (h : Ints w y.ad y.n y.c y.cl) : 0 ≤ x.un ∧ x.un < (y.n : Int) := by
  have h1 := noteB_true hx
  have h2 := (noteB_true hy).1
  have h3 : 0 ≤ x.un ∧ x.un ≤ u - 1 := h1.2.2.1
  have h4 : (y.cl.length : Int) = u := h2
  rw [h.len] at h4
  omega
set_option maxRecDepth 100000 in
set_option maxHeartbeats 4000000 in
theorem IsBefore_any (u : Int) (x y : NoteI) (w : World) (hu : I64 u) (hkx : x.wd.length ≤ maxLen) (hky : y.wd.length ≤ maxLen) (hx : Ints w x.ad x.n x.c x.cl) (hy : Ints w y.ad y.n y.c y.cl) :
    Calls Tryz.prog 16 #[.int .i64 u, x.val, y.val] w fun e w' => e = .returned (.tuple #[.bool (cmpB u x.core y.core && befC x.core y.core), .bool (cmpB u x.core y.core)]) ∧ Below w.heap.size w w' := by
  have hM := Mem.start w
  have HU := Lib.hid hu
  have HX := Lib.hid (fun (w' : World) (hb : Below w.heap.size w w') => isNote_any u x w' hu hkx (hx.ext hb))
  have HY := Lib.hid (fun (w' : World) (hb : Below w.heap.size w w') => isNote_any u y w' hu hky (hy.ext hb))
  have HC := Lib.hid (compareV_any x y)
  have HP := Lib.hid (fun h1 h2 => note_place (u := u) (x := x) (y := y) h1 h2 hy)
  have HB := Lib.hid (fun (w' : World) (hb : Below w.heap.size w w') h => before_any x y w' (hy.ext hb) h)
  clear hu hkx hky hx hy
  obtain ⟨q0, h0⟩ : ∃ q, inB u 2 4 = q := ⟨_, rfl⟩
  obtain ⟨q1, h1⟩ : ∃ q, noteB u x.core = q := ⟨_, rfl⟩
  obtain ⟨q2, h2⟩ : ∃ q, noteB u y.core = q := ⟨_, rfl⟩
  obtain ⟨q3, h3⟩ : ∃ q, sameK x.core y.core = q := ⟨_, rfl⟩
  obtain ⟨q4, h4⟩ : ∃ q, befC x.core y.core = q := ⟨_, rfl⟩
  have hr : cmpB u x.core y.core = (q0 && q1 && q2 && !q3) := by unfold cmpB; rw [h0, h1, h2, h3]
  rw [hr]
  clear hr
  rw [h1] at HX
  rw [h2] at HY
  rw [h3] at HC
  rw [h4] at HB ⊢
  rw [h1, h2] at HP
  have H0 := Lib.hid h0
  clear h0 h1 h2 h3 h4
  obtain ⟨x0, x1, x2, x3, x4, x5, x6⟩ := x
  obtain ⟨y0, y1, y2, y3, y4, y5, y6⟩ := y
  cases q0
  · skip
    go_enter Tryz.func16, Tryz.ntmps16
    go_upto_region 1 with fail
    apply Mem.atWpA
    · exact memA
    clear hM
    intro wst hM
    (try simp only [World.size_alloc, World.size_setCell, World.heap_drewN, heapDrew, Nat.add_assoc, Nat.reduceAdd, sA, List.cons_append, List.nil_append] at hM)
    obtain ⟨k0, f0, l0⟩ := hM.row .here
    obtain ⟨k1, f1, l1⟩ := hM.row (.there .here)
    go_wp2_with fail
    clear k0 f0 l0 k1 f1 l1
    apply Mem.atA
    · exact memA
    clear hM
    intro wst hM
    (try simp only [World.size_alloc, World.size_setCell, World.heap_drewN, heapDrew, Nat.add_assoc, Nat.reduceAdd, sA, List.cons_append, List.nil_append] at hM)
    (first | refine (in_any _ _ _ _).mono ?_)
    rw [H0.out]
    rintro e wc1 ⟨rfl, rfl⟩
    go_wp2
    go_ret2
    exact ⟨rfl, (by apply Mem.below; (exact memA))⟩
  cases q1
  · skip
    go_enter Tryz.func16, Tryz.ntmps16
    go_upto_region 1 with fail
    apply Mem.atWpA
    · exact memA
    clear hM
    intro wst hM
    (try simp only [World.size_alloc, World.size_setCell, World.heap_drewN, heapDrew, Nat.add_assoc, Nat.reduceAdd, sA, List.cons_append, List.nil_append] at hM)
    obtain ⟨k0, f0, l0⟩ := hM.row .here
    obtain ⟨k1, f1, l1⟩ := hM.row (.there .here)
    go_wp2_with fail
    clear k0 f0 l0 k1 f1 l1
    apply Mem.atA
    · exact memA
    clear hM
    intro wst hM
    (try simp only [World.size_alloc, World.size_setCell, World.heap_drewN, heapDrew, Nat.add_assoc, Nat.reduceAdd, sA, List.cons_append, List.nil_append] at hM)
    (first | refine (in_any _ _ _ _).mono ?_)
    rw [H0.out]
    rintro e wc2 ⟨rfl, rfl⟩
    obtain ⟨k0, f0, l0⟩ := hM.row .here
    obtain ⟨k1, f1, l1⟩ := hM.row (.there .here)
    go_wp2_with fail
    clear k0 f0 l0 k1 f1 l1
    apply Mem.atA
    · exact memA
    clear hM
    intro wst hM
    (try simp only [World.size_alloc, World.size_setCell, World.heap_drewN, heapDrew, Nat.add_assoc, Nat.reduceAdd, sA, List.cons_append, List.nil_append] at hM)
    (first | refine (HX.out _ hM.below).mono ?_)
    rintro e wc3 ⟨rfl, hb⟩
    replace hM := hM.ext hb
    clear hb
    go_wp2
    go_ret2
    exact ⟨rfl, (by apply Mem.below; (exact memA))⟩
  cases q2
  · skip
    go_enter Tryz.func16, Tryz.ntmps16
    go_upto_region 1 with fail
    apply Mem.atWpA
    · exact memA
    clear hM
    intro wst hM
    (try simp only [World.size_alloc, World.size_setCell, World.heap_drewN, heapDrew, Nat.add_assoc, Nat.reduceAdd, sA, List.cons_append, List.nil_append] at hM)
    obtain ⟨k0, f0, l0⟩ := hM.row .here
    obtain ⟨k1, f1, l1⟩ := hM.row (.there .here)
    go_wp2_with fail
    clear k0 f0 l0 k1 f1 l1
    apply Mem.atA
    · exact memA
    clear hM
    intro wst hM
    (try simp only [World.size_alloc, World.size_setCell, World.heap_drewN, heapDrew, Nat.add_assoc, Nat.reduceAdd, sA, List.cons_append, List.nil_append] at hM)
    (first | refine (in_any _ _ _ _).mono ?_)
    rw [H0.out]
    rintro e wc4 ⟨rfl, rfl⟩
    obtain ⟨k0, f0, l0⟩ := hM.row .here
    obtain ⟨k1, f1, l1⟩ := hM.row (.there .here)
    go_wp2_with fail
    clear k0 f0 l0 k1 f1 l1
    apply Mem.atA
    · exact memA
    clear hM
    intro wst hM
    (try simp only [World.size_alloc, World.size_setCell, World.heap_drewN, heapDrew, Nat.add_assoc, Nat.reduceAdd, sA, List.cons_append, List.nil_append] at hM)
    (first | refine (HX.out _ hM.below).mono ?_)
    rintro e wc5 ⟨rfl, hb⟩
    replace hM := hM.ext hb
    clear hb
    obtain ⟨k0, f0, l0⟩ := hM.row .here
    obtain ⟨k1, f1, l1⟩ := hM.row (.there .here)
    go_wp2_with fail
    clear k0 f0 l0 k1 f1 l1
    apply Mem.atA
    · exact memA
    clear hM
    intro wst hM
    (try simp only [World.size_alloc, World.size_setCell, World.heap_drewN, heapDrew, Nat.add_assoc, Nat.reduceAdd, sA, List.cons_append, List.nil_append] at hM)
    (first | refine (HY.out _ hM.below).mono ?_)
    rintro e wc6 ⟨rfl, hb⟩
    replace hM := hM.ext hb
    clear hb
    go_wp2
    go_ret2
    exact ⟨rfl, (by apply Mem.below; (exact memA))⟩
  have HPL := Lib.hid (HP.out rfl rfl)
  clear HP
  cases q3
  all_goals
    go_enter Tryz.func16, Tryz.ntmps16
    go_upto_region 1 with fail
    apply Mem.atWpA
    · exact memA
    clear hM
    intro wst hM
    (try simp only [World.size_alloc, World.size_setCell, World.heap_drewN, heapDrew, Nat.add_assoc, Nat.reduceAdd, sA, List.cons_append, List.nil_append] at hM)
    obtain ⟨k0, f0, l0⟩ := hM.row .here
    obtain ⟨k1, f1, l1⟩ := hM.row (.there .here)
    go_wp2_with fail
    clear k0 f0 l0 k1 f1 l1
    apply Mem.atA
    · exact memA
    clear hM
    intro wst hM
    (try simp only [World.size_alloc, World.size_setCell, World.heap_drewN, heapDrew, Nat.add_assoc, Nat.reduceAdd, sA, List.cons_append, List.nil_append] at hM)
    (first | refine (in_any _ _ _ _).mono ?_)
    rw [H0.out]
    rintro e wc7 ⟨rfl, rfl⟩
    obtain ⟨k0, f0, l0⟩ := hM.row .here
    obtain ⟨k1, f1, l1⟩ := hM.row (.there .here)
    go_wp2_with fail
    clear k0 f0 l0 k1 f1 l1
    apply Mem.atA
    · exact memA
    clear hM
    intro wst hM
    (try simp only [World.size_alloc, World.size_setCell, World.heap_drewN, heapDrew, Nat.add_assoc, Nat.reduceAdd, sA, List.cons_append, List.nil_append] at hM)
    (first | refine (HX.out _ hM.below).mono ?_)
    rintro e wc8 ⟨rfl, hb⟩
    replace hM := hM.ext hb
    clear hb
    obtain ⟨k0, f0, l0⟩ := hM.row .here
    obtain ⟨k1, f1, l1⟩ := hM.row (.there .here)
    go_wp2_with fail
    clear k0 f0 l0 k1 f1 l1
    apply Mem.atA
    · exact memA
    clear hM
    intro wst hM
    (try simp only [World.size_alloc, World.size_setCell, World.heap_drewN, heapDrew, Nat.add_assoc, Nat.reduceAdd, sA, List.cons_append, List.nil_append] at hM)
    (first | refine (HY.out _ hM.below).mono ?_)
    rintro e wc9 ⟨rfl, hb⟩
    replace hM := hM.ext hb
    clear hb
    obtain ⟨k0, f0, l0⟩ := hM.row .here
    obtain ⟨k1, f1, l1⟩ := hM.row (.there .here)
    go_wp2_with fail
    clear k0 f0 l0 k1 f1 l1
    apply Mem.atA
    · exact memA
    clear hM
    intro wst hM
    (try simp only [World.size_alloc, World.size_setCell, World.heap_drewN, heapDrew, Nat.add_assoc, Nat.reduceAdd, sA, List.cons_append, List.nil_append] at hM)
    refine (HC.out _).mono ?_
    rintro e w3 ⟨⟨r, rfl, hr⟩, hb⟩
    replace hM := hM.ext hb
    clear hb
  · skip
    obtain ⟨k0, f0, l0⟩ := hM.row .here
    obtain ⟨k1, f1, l1⟩ := hM.row (.there .here)
    go_wp2_with fail
    clear k0 f0 l0 k1 f1 l1
    apply Mem.atA
    · exact memA
    clear hM
    intro wst hM
    (try simp only [World.size_alloc, World.size_setCell, World.heap_drewN, heapDrew, Nat.add_assoc, Nat.reduceAdd, sA, List.cons_append, List.nil_append] at hM)
    (first | refine (HB.out _ hM.below HPL.out).mono ?_)
    rintro e wc10 ⟨rfl, hb⟩
    replace hM := hM.ext hb
    clear hb
    go_wp2
    go_ret2
    exact ⟨rfl, (by apply Mem.below; (exact memA))⟩
  · go_wp2
    go_ret2
    exact ⟨rfl, (by apply Mem.below; (exact memA))⟩
end Go.Proofs.YtjnbdgldpmmamaaGreat

/-
  Notes: valid ones, both sides; the order of two.
-/
import Derived.Test.YtjnbdgldpmmamaaGreatUNoteP
import Derived.Deep.DeepCutAuto
import Derived.RegionTactic
/-
  Notes: valid ones, both sides; the order of two.
-/
namespace Go.Proofs.YtjnbdgldpmmamaaGreat
set_option linter.unusedSimpArgs false
set_option linter.unusedVariables false
open Go.RowKit

theorem Ints.cellK {w : World} {b off n c k : Nat} {xs : List Int} (h : Ints w (some ⟨b, off, none⟩) n c xs) (hk : k < n) : w.cell? ⟨b, off + k, none⟩ = some (.int .i64 (xs.getD k 0)) := by
  obtain ⟨b', off', e, _, hc⟩ := h.at' k hk
  simp only [Option.some.injEq, Addr.mk.injEq] at e
  obtain ⟨rfl, rfl, _⟩ := e
  exact hc k hk
theorem isNote1_any (x : Int) (w : World) : Calls Tryz.prog 57 #[.int .i64 x] w fun e w' => e = .returned (.bool (clkB x)) ∧ w = w' := by
  go_enter Tryz.func57, Tryz.ntmps57
  go_wp2_with fail
  refine (in_any _ _ _ _).mono ?_
  rintro e w1 ⟨rfl, rfl⟩
  go_wp2
  go_ret
  exact ⟨rfl, rfl⟩
set_option maxRecDepth 100000 in
set_option maxHeartbeats 4000000 in
theorem isNote_any (u : Int) (x : NoteI) (w : World) (hu : I64 u) (hk : x.wd.length ≤ maxLen) (h : Ints w x.ad x.n x.c x.cl) :
    Calls Tryz.prog 32 #[.int .i64 u, x.val] w fun e w' => e = .returned (.bool (noteB u x.core)) ∧ Below w.heap.size w w' := by
  have hM := Mem.start w
  have hrm := h.room
  obtain ⟨un, sq, ad, n, c, cl, wo⟩ := x
  dsimp only at hk h hrm
  unfold maxLen at hk
  unfold I64 at hu
  have hl := h.len
  obtain ⟨q1, h1⟩ : ∃ q, decide ((n : Int) = u) = q := ⟨_, rfl⟩
  obtain ⟨q2, h2⟩ : ∃ q, cl.all clkB = q := ⟨_, rfl⟩
  obtain ⟨q3, h3⟩ : ∃ q, inB un 0 (u - 1) = q := ⟨_, rfl⟩
  obtain ⟨q4, h4⟩ : ∃ q, decide (1 ≤ sq) = q := ⟨_, rfl⟩
  obtain ⟨q5, h5⟩ : ∃ q, (cl.getD un.toNat 0 == sq) = q := ⟨_, rfl⟩
  obtain ⟨q6, h6⟩ : ∃ q, wordB wo = q := ⟨_, rfl⟩
  have HF := Lib.hid (show noteB u ⟨un, sq, cl, wo⟩ = (q1 && q2 && q3 && q4 && q5 && q6) by unfold noteB; dsimp only; rw [hl, h1, h2, h3, h4, h5, h6])
  show Calls Tryz.prog _ _ w fun e w' => e = .returned (.bool (noteB u ⟨un, sq, cl, wo⟩)) ∧ Below w.heap.size w w'
  rw [HF.out]
  have H2 := Lib.hid h2; have H6 := Lib.hid h6
  have HL := Lib.hid hl
  clear h2 h6 HF hl
  have HI := Lib.hid h
  cases q1
  · have hn : ¬ (n : Int) = u := by simpa using h1
    have hne : ((n : Int) == u) = false := by simpa using hn
    clear h1 h3 h4 h5 hn
    go_enter Tryz.func32, Tryz.ntmps32
    go_upto_region 1 with fail
    apply Mem.atWpA
    · exact memA
    clear hM
    intro wst hM
    (try simp only [World.size_alloc, World.size_setCell, World.heap_drewN, heapDrew, Nat.add_assoc, Nat.reduceAdd, sA, List.cons_append, List.nil_append] at hM)
    obtain ⟨k0, f0, l0⟩ := hM.row .here
    go_wp2_with fail
    apply Mem.atWpA
    · exact memA
    clear hM
    intro wst hM
    (try simp only [World.size_alloc, World.size_setCell, World.heap_drewN, heapDrew, Nat.add_assoc, Nat.reduceAdd, sA, List.cons_append, List.nil_append] at hM)
    refine AtT.startA hM hM 29 (by kernel_rfl) ?_
    clear hM
    intro wd hM
    have hS := hM
    refine AtT.tk 0 ?_ 16 ?_ hS ?_
    rotate_left
    · (intro wS hSw; (try dsimp only at hSw); go_simp; (try rw [if_neg (by omega)]); try with_reducible rfl)
    simp only [Act.put, sA]
    refine AtT.tk 1 ?_ 17 ?_ hS ?_
    rotate_left
    · (intro wS hSw; (try dsimp only at hSw); go_simp; (try rw [if_neg (by omega)]); try with_reducible rfl)
    simp only [Act.put, sA]
    refine AtT.tn 2 18 hS ?_
    simp only [Act.put, sA]
    refine AtT.tn 3 19 hS ?_
    simp only [Act.put, sA]
    refine AtT.tn 4 20 hS ?_
    simp only [Act.put, sA]
    refine AtT.tn 5 21 hS ?_
    simp only [Act.put, sA]
    refine AtT.tn 6 22 hS ?_
    simp only [Act.put, sA]
    refine AtT.tk 7 ?_ 23 ?_ hS ?_
    rotate_left
    · (intro wS hSw; (try dsimp only at hSw); go_simp; (try rw [if_neg (by omega)]); try with_reducible rfl)
    simp only [Act.put, sA]
    refine AtT.tk 8 ?_ 24 ?_ hS ?_
    rotate_left
    · (intro wS hSw; (try dsimp only at hSw); go_simp; (try rw [if_neg (by omega)]); try with_reducible rfl)
    simp only [Act.put, sA]
    refine AtT.tn 9 25 hS ?_
    simp only [Act.put, sA]
    refine AtT.tn 10 26 hS ?_
    simp only [Act.put, sA]
    refine AtT.tn 11 27 hS ?_
    simp only [Act.put, sA]
    refine AtT.tk 12 ?_ 28 ?_ hS ?_
    rotate_left
    · (intro wS hSw; (try dsimp only at hSw); go_simp; (try rw [if_neg (by omega)]); try with_reducible rfl)
    simp only [Act.put, sA]
    refine AtT.tk 13 ?_ 29 ?_ hS ?_
    rotate_left
    · (intro wS hSw; (try dsimp only at hSw); go_simp; (try rw [if_neg (by omega)]); try with_reducible rfl)
    simp only [Act.put, sA]
    refine AtT.tn 14 30 hS ?_
    simp only [Act.put, sA]
    refine AtT.tn 15 31 hS ?_
    simp only [Act.put, sA]
    refine AtT.tn 16 32 hS ?_
    simp only [Act.put, sA]
    refine AtT.tn 17 33 hS ?_
    simp only [Act.put, sA]
    refine AtT.tn 18 34 hS ?_
    simp only [Act.put, sA]
    refine AtT.tn 19 35 hS ?_
    simp only [Act.put, sA]
    refine AtT.tn 20 36 hS ?_
    simp only [Act.put, sA]
    refine AtT.tn 21 37 hS ?_
    simp only [Act.put, sA]
    refine AtT.tn 22 38 hS ?_
    simp only [Act.put, sA]
    refine AtT.tk 23 ?_ 39 ?_ hS ?_
    rotate_left
    · (intro wS hSw; (try dsimp only at hSw); go_simp; (try rw [if_neg (by omega)]); try with_reducible rfl)
    simp only [Act.put, sA]
    refine AtT.tk 24 ?_ 40 ?_ hS ?_
    rotate_left
    · (intro wS hSw; (try dsimp only at hSw); go_simp; (try rw [if_neg (by omega)]); try with_reducible rfl)
    simp only [Act.put, sA]
    refine AtT.tn 25 41 hS ?_
    simp only [Act.put, sA]
    refine AtT.tn 26 42 hS ?_
    simp only [Act.put, sA]
    refine AtT.tn 27 43 hS ?_
    simp only [Act.put, sA]
    refine AtT.tk 28 ?_ 44 ?_ hS ?_
    rotate_left
    · (intro wS hSw; (try dsimp only at hSw); go_simp; (try rw [if_neg (by omega)]); try with_reducible rfl)
    simp only [Act.put, sA]
    refine AtT.last (by kernel_rfl) rfl (by kernel_rfl) ?_
    intro K hK
    clear hS
    go_simp
    refine hK.out _ _ ?_
    clear hK K
    go_wp2
    go_ret
    exact ⟨rfl, (by apply Mem.below; (exact memA))⟩
  have hn : (n : Int) = u := by simpa using h1
  subst hn
  have hne : ((n : Int) == (n : Int)) = true := by simp
  clear h1
  have hr1 : IntKind.i64.wrap ((n : Int) - 1) = (n : Int) - 1 := wrap_in (by omega)
  go_enter Tryz.func32, Tryz.ntmps32
  go_upto_region 1 with fail
  apply Mem.atWpA
  · exact memA
  clear hM
  intro wst hM
  (try simp only [World.size_alloc, World.size_setCell, World.heap_drewN, heapDrew, Nat.add_assoc, Nat.reduceAdd, sA, List.cons_append, List.nil_append] at hM)
  obtain ⟨k0, f0, l0⟩ := hM.row .here
  go_wp2_with fail
  refine (all_any 57 #[] clkB ad n c cl _ (HI.out.ext hM.below) (enters Tryz.func57 (by kernel_rfl) rfl) (fun y hy w' hb => (isNote1_any y w').mono (by rintro e w2 ⟨rfl, rfl⟩; exact ⟨rfl, Below.refl _ _⟩))).mono ?_
  rw [H2.out]
  rintro e w1 ⟨rfl, hb⟩
  replace hM := hM.ext hb
  clear hb k0 f0 l0
  cases q2
  · clear h3 h4 h5
    go_upto_region 2 with fail
    apply Mem.atWpA
    · exact memA
    clear hM
    intro wst hM
    (try simp only [World.size_alloc, World.size_setCell, World.heap_drewN, heapDrew, Nat.add_assoc, Nat.reduceAdd, sA, List.cons_append, List.nil_append] at hM)
    refine AtT.startA hM hM 29 (by kernel_rfl) ?_
    clear hM
    intro wd hM
    have hS := hM
    refine AtT.tk 0 ?_ 16 ?_ hS ?_
    rotate_left
    · (intro wS hSw; (try dsimp only at hSw); go_simp; (try rw [if_neg (by omega)]); try with_reducible rfl)
    simp only [Act.put, sA]
    refine AtT.tk 1 ?_ 17 ?_ hS ?_
    rotate_left
    · (intro wS hSw; (try dsimp only at hSw); go_simp; (try rw [if_neg (by omega)]); try with_reducible rfl)
    simp only [Act.put, sA]
    refine AtT.tn 2 18 hS ?_
    simp only [Act.put, sA]
    refine AtT.tn 3 19 hS ?_
    simp only [Act.put, sA]
    refine AtT.tn 4 20 hS ?_
    simp only [Act.put, sA]
    refine AtT.tn 5 21 hS ?_
    simp only [Act.put, sA]
    refine AtT.tn 6 22 hS ?_
    simp only [Act.put, sA]
    refine AtT.tk 7 ?_ 23 ?_ hS ?_
    rotate_left
    · (intro wS hSw; (try dsimp only at hSw); go_simp; (try rw [if_neg (by omega)]); try with_reducible rfl)
    simp only [Act.put, sA]
    refine AtT.tk 8 ?_ 24 ?_ hS ?_
    rotate_left
    · (intro wS hSw; (try dsimp only at hSw); go_simp; (try rw [if_neg (by omega)]); try with_reducible rfl)
    simp only [Act.put, sA]
    refine AtT.tn 9 25 hS ?_
    simp only [Act.put, sA]
    refine AtT.tn 10 26 hS ?_
    simp only [Act.put, sA]
    refine AtT.tn 11 27 hS ?_
    simp only [Act.put, sA]
    refine AtT.tk 12 ?_ 28 ?_ hS ?_
    rotate_left
    · (intro wS hSw; (try dsimp only at hSw); go_simp; (try rw [if_neg (by omega)]); try with_reducible rfl)
    simp only [Act.put, sA]
    refine AtT.tk 13 ?_ 29 ?_ hS ?_
    rotate_left
    · (intro wS hSw; (try dsimp only at hSw); go_simp; (try rw [if_neg (by omega)]); try with_reducible rfl)
    simp only [Act.put, sA]
    refine AtT.tn 14 30 hS ?_
    simp only [Act.put, sA]
    refine AtT.tn 15 31 hS ?_
    simp only [Act.put, sA]
    refine AtT.tn 16 32 hS ?_
    simp only [Act.put, sA]
    refine AtT.tn 17 33 hS ?_
    simp only [Act.put, sA]
    refine AtT.tn 18 34 hS ?_
    simp only [Act.put, sA]
    refine AtT.tn 19 35 hS ?_
    simp only [Act.put, sA]
    refine AtT.tn 20 36 hS ?_
    simp only [Act.put, sA]
    refine AtT.tn 21 37 hS ?_
    simp only [Act.put, sA]
    refine AtT.tn 22 38 hS ?_
    simp only [Act.put, sA]
    refine AtT.tk 23 ?_ 39 ?_ hS ?_
    rotate_left
    · (intro wS hSw; (try dsimp only at hSw); go_simp; (try rw [if_neg (by omega)]); try with_reducible rfl)
    simp only [Act.put, sA]
    refine AtT.tk 24 ?_ 40 ?_ hS ?_
    rotate_left
    · (intro wS hSw; (try dsimp only at hSw); go_simp; (try rw [if_neg (by omega)]); try with_reducible rfl)
    simp only [Act.put, sA]
    refine AtT.tn 25 41 hS ?_
    simp only [Act.put, sA]
    refine AtT.tn 26 42 hS ?_
    simp only [Act.put, sA]
    refine AtT.tn 27 43 hS ?_
    simp only [Act.put, sA]
    refine AtT.tk 28 ?_ 44 ?_ hS ?_
    rotate_left
    · (intro wS hSw; (try dsimp only at hSw); go_simp; (try rw [if_neg (by omega)]); try with_reducible rfl)
    simp only [Act.put, sA]
    refine AtT.last (by kernel_rfl) rfl (by kernel_rfl) ?_
    intro K hK
    clear hS
    go_simp
    refine hK.out _ _ ?_
    clear hK K
    go_wp2
    go_ret
    exact ⟨rfl, (by apply Mem.below; (exact memA))⟩
  have H3 := Lib.hid h3
  cases q3
  · clear h3 h4 h5
    go_upto_region 2 with fail
    apply Mem.atWpA
    · exact memA
    clear hM
    intro wst hM
    (try simp only [World.size_alloc, World.size_setCell, World.heap_drewN, heapDrew, Nat.add_assoc, Nat.reduceAdd, sA, List.cons_append, List.nil_append] at hM)
    refine AtT.startA hM hM 29 (by kernel_rfl) ?_
    clear hM
    intro wd hM
    have hS := hM
    refine AtT.tk 0 ?_ 16 ?_ hS ?_
    rotate_left
    · (intro wS hSw; (try dsimp only at hSw); go_simp; (try rw [if_neg (by omega)]); try with_reducible rfl)
    simp only [Act.put, sA]
    refine AtT.tk 1 ?_ 17 ?_ hS ?_
    rotate_left
    · (intro wS hSw; (try dsimp only at hSw); go_simp; (try rw [if_neg (by omega)]); try with_reducible rfl)
    simp only [Act.put, sA]
    refine AtT.tk 2 ?_ 18 ?_ hS ?_
    rotate_left
    · (intro wS hSw; (try dsimp only at hSw); go_simp; (try rw [if_neg (by omega)]); try with_reducible rfl)
    simp only [Act.put, sA]
    refine AtT.tk 3 ?_ 19 ?_ hS ?_
    rotate_left
    · (intro wS hSw; (try dsimp only at hSw); have kr0 := (Mem.row hSw .here).cell; go_simp; (try rw [if_neg (by omega)]); try with_reducible rfl)
    simp only [Act.put, sA]
    refine AtT.tk 4 ?_ 20 ?_ hS ?_
    rotate_left
    · (intro wS hSw; (try dsimp only at hSw); go_simp; (try rw [if_neg (by omega)]); try with_reducible rfl)
    simp only [Act.put, sA]
    refine AtT.tk 5 ?_ 21 ?_ hS ?_
    rotate_left
    · (intro wS hSw; (try dsimp only at hSw); go_simp; (try rw [if_neg (by omega)]); try with_reducible rfl)
    simp only [Act.put, sA]
    refine AtT.only (i := 6) (by kernel_rfl) rfl rfl ?_
    intro K hK
    go_simp
    refine (in_any _ _ _ _).mono ?_
    rw [H3.out]
    rintro e w3 ⟨rfl, rfl⟩
    try dsimp only
    refine hK.out _ _ (hM) ?_
    clear hK K hS
    have hS := hM
    refine AtT.tk 7 ?_ 23 ?_ hS ?_
    rotate_left
    · (intro wS hSw; (try dsimp only at hSw); go_simp; (try rw [if_neg (by omega)]); try with_reducible rfl)
    simp only [Act.put, sA]
    refine AtT.tk 8 ?_ 24 ?_ hS ?_
    rotate_left
    · (intro wS hSw; (try dsimp only at hSw); go_simp; (try rw [if_neg (by omega)]); try with_reducible rfl)
    simp only [Act.put, sA]
    refine AtT.tn 9 25 hS ?_
    simp only [Act.put, sA]
    refine AtT.tn 10 26 hS ?_
    simp only [Act.put, sA]
    refine AtT.tn 11 27 hS ?_
    simp only [Act.put, sA]
    refine AtT.tk 12 ?_ 28 ?_ hS ?_
    rotate_left
    · (intro wS hSw; (try dsimp only at hSw); go_simp; (try rw [if_neg (by omega)]); try with_reducible rfl)
    simp only [Act.put, sA]
    refine AtT.tk 13 ?_ 29 ?_ hS ?_
    rotate_left
    · (intro wS hSw; (try dsimp only at hSw); go_simp; (try rw [if_neg (by omega)]); try with_reducible rfl)
    simp only [Act.put, sA]
    refine AtT.tn 14 30 hS ?_
    simp only [Act.put, sA]
    refine AtT.tn 15 31 hS ?_
    simp only [Act.put, sA]
    refine AtT.tn 16 32 hS ?_
    simp only [Act.put, sA]
    refine AtT.tn 17 33 hS ?_
    simp only [Act.put, sA]
    refine AtT.tn 18 34 hS ?_
    simp only [Act.put, sA]
    refine AtT.tn 19 35 hS ?_
    simp only [Act.put, sA]
    refine AtT.tn 20 36 hS ?_
    simp only [Act.put, sA]
    refine AtT.tn 21 37 hS ?_
    simp only [Act.put, sA]
    refine AtT.tn 22 38 hS ?_
    simp only [Act.put, sA]
    refine AtT.tk 23 ?_ 39 ?_ hS ?_
    rotate_left
    · (intro wS hSw; (try dsimp only at hSw); go_simp; (try rw [if_neg (by omega)]); try with_reducible rfl)
    simp only [Act.put, sA]
    refine AtT.tk 24 ?_ 40 ?_ hS ?_
    rotate_left
    · (intro wS hSw; (try dsimp only at hSw); go_simp; (try rw [if_neg (by omega)]); try with_reducible rfl)
    simp only [Act.put, sA]
    refine AtT.tn 25 41 hS ?_
    simp only [Act.put, sA]
    refine AtT.tn 26 42 hS ?_
    simp only [Act.put, sA]
    refine AtT.tn 27 43 hS ?_
    simp only [Act.put, sA]
    refine AtT.tk 28 ?_ 44 ?_ hS ?_
    rotate_left
    · (intro wS hSw; (try dsimp only at hSw); go_simp; (try rw [if_neg (by omega)]); try with_reducible rfl)
    simp only [Act.put, sA]
    refine AtT.last (by kernel_rfl) rfl (by kernel_rfl) ?_
    intro K hK
    clear hS
    go_simp
    refine hK.out _ _ ?_
    clear hK K
    go_wp2
    go_ret
    exact ⟨rfl, (by apply Mem.below; (exact memA))⟩
  obtain ⟨u0, u1⟩ := inB_true h3
  clear h3
  obtain ⟨m, rfl⟩ := Int.eq_ofNat_of_zero_le u0
  have hmn : m < n := by omega
  cases q4
  · clear h5
    go_upto_region 2 with fail
    apply Mem.atWpA
    · exact memA
    clear hM
    intro wst hM
    (try simp only [World.size_alloc, World.size_setCell, World.heap_drewN, heapDrew, Nat.add_assoc, Nat.reduceAdd, sA, List.cons_append, List.nil_append] at hM)
    refine AtT.startA hM hM 29 (by kernel_rfl) ?_
    clear hM
    intro wd hM
    have hS := hM
    refine AtT.tk 0 ?_ 16 ?_ hS ?_
    rotate_left
    · (intro wS hSw; (try dsimp only at hSw); go_simp; (try rw [if_neg (by omega)]); try with_reducible rfl)
    simp only [Act.put, sA]
    refine AtT.tk 1 ?_ 17 ?_ hS ?_
    rotate_left
    · (intro wS hSw; (try dsimp only at hSw); go_simp; (try rw [if_neg (by omega)]); try with_reducible rfl)
    simp only [Act.put, sA]
    refine AtT.tk 2 ?_ 18 ?_ hS ?_
    rotate_left
    · (intro wS hSw; (try dsimp only at hSw); go_simp; (try rw [if_neg (by omega)]); try with_reducible rfl)
    simp only [Act.put, sA]
    refine AtT.tk 3 ?_ 19 ?_ hS ?_
    rotate_left
    · (intro wS hSw; (try dsimp only at hSw); have kr0 := (Mem.row hSw .here).cell; go_simp; (try rw [if_neg (by omega)]); try with_reducible rfl)
    simp only [Act.put, sA]
    refine AtT.tk 4 ?_ 20 ?_ hS ?_
    rotate_left
    · (intro wS hSw; (try dsimp only at hSw); go_simp; (try rw [if_neg (by omega)]); try with_reducible rfl)
    simp only [Act.put, sA]
    refine AtT.tk 5 ?_ 21 ?_ hS ?_
    rotate_left
    · (intro wS hSw; (try dsimp only at hSw); go_simp; (try rw [if_neg (by omega)]); try with_reducible rfl)
    simp only [Act.put, sA]
    refine AtT.only (i := 6) (by kernel_rfl) rfl rfl ?_
    intro K hK
    go_simp
    refine (in_any _ _ _ _).mono ?_
    rw [H3.out]
    rintro e w3 ⟨rfl, rfl⟩
    try dsimp only
    refine hK.out _ _ (hM) ?_
    clear hK K hS
    have hS := hM
    refine AtT.tk 7 ?_ 23 ?_ hS ?_
    rotate_left
    · (intro wS hSw; (try dsimp only at hSw); go_simp; (try rw [if_neg (by omega)]); try with_reducible rfl)
    simp only [Act.put, sA]
    refine AtT.tk 8 ?_ 24 ?_ hS ?_
    rotate_left
    · (intro wS hSw; (try dsimp only at hSw); go_simp; (try rw [if_neg (by omega)]); try with_reducible rfl)
    simp only [Act.put, sA]
    refine AtT.tk 9 ?_ 25 ?_ hS ?_
    rotate_left
    · (intro wS hSw; (try dsimp only at hSw); go_simp; (try rw [if_neg (by omega)]); try with_reducible rfl)
    simp only [Act.put, sA]
    refine AtT.tk 10 ?_ 26 ?_ hS ?_
    rotate_left
    · (intro wS hSw; (try dsimp only at hSw); have kr0 := (Mem.row hSw .here).cell; go_simp; (try rw [if_neg (by omega)]); try with_reducible rfl)
    simp only [Act.put, sA]
    refine AtT.tk 11 ?_ 27 ?_ hS ?_
    rotate_left
    · (intro wS hSw; (try dsimp only at hSw); go_simp; (try rw [if_neg (by omega)]); try with_reducible rfl)
    simp only [Act.put, sA]
    refine AtT.tk 12 ?_ 28 ?_ hS ?_
    rotate_left
    · (intro wS hSw; (try dsimp only at hSw); go_simp; (try rw [if_neg (by omega)]); try with_reducible rfl)
    simp only [Act.put, sA]
    refine AtT.tk 13 ?_ 29 ?_ hS ?_
    rotate_left
    · (intro wS hSw; (try dsimp only at hSw); go_simp; (try rw [if_neg (by omega)]); try with_reducible rfl)
    simp only [Act.put, sA]
    refine AtT.tn 14 30 hS ?_
    simp only [Act.put, sA]
    refine AtT.tn 15 31 hS ?_
    simp only [Act.put, sA]
    refine AtT.tn 16 32 hS ?_
    simp only [Act.put, sA]
    refine AtT.tn 17 33 hS ?_
    simp only [Act.put, sA]
    refine AtT.tn 18 34 hS ?_
    simp only [Act.put, sA]
    refine AtT.tn 19 35 hS ?_
    simp only [Act.put, sA]
    refine AtT.tn 20 36 hS ?_
    simp only [Act.put, sA]
    refine AtT.tn 21 37 hS ?_
    simp only [Act.put, sA]
    refine AtT.tn 22 38 hS ?_
    simp only [Act.put, sA]
    refine AtT.tk 23 ?_ 39 ?_ hS ?_
    rotate_left
    · (intro wS hSw; (try dsimp only at hSw); go_simp; (try rw [if_neg (by omega)]); try with_reducible rfl)
    simp only [Act.put, sA]
    refine AtT.tk 24 ?_ 40 ?_ hS ?_
    rotate_left
    · (intro wS hSw; (try dsimp only at hSw); go_simp; (try rw [if_neg (by omega)]); try with_reducible rfl)
    simp only [Act.put, sA]
    refine AtT.tn 25 41 hS ?_
    simp only [Act.put, sA]
    refine AtT.tn 26 42 hS ?_
    simp only [Act.put, sA]
    refine AtT.tn 27 43 hS ?_
    simp only [Act.put, sA]
    refine AtT.tk 28 ?_ 44 ?_ hS ?_
    rotate_left
    · (intro wS hSw; (try dsimp only at hSw); go_simp; (try rw [if_neg (by omega)]); try with_reducible rfl)
    simp only [Act.put, sA]
    refine AtT.last (by kernel_rfl) rfl (by kernel_rfl) ?_
    intro K hK
    clear hS
    go_simp
    refine hK.out _ _ ?_
    clear hK K
    go_wp2
    go_ret
    exact ⟨rfl, (by apply Mem.below; (exact memA))⟩
  rw [Int.toNat_natCast] at h5
  obtain ⟨v, hv⟩ : ∃ v, cl.getD m 0 = v := ⟨_, rfl⟩
  rw [hv] at h5
  have HV := Lib.hid hv
  clear hv
  obtain ⟨b, off, rfl, -, -⟩ := HI.out.at' m hmn
  have m1 : (m : Int) < (n : Int) := by omega
  cases q5
  · clear h
    go_upto_region 2 with fail
    apply Mem.atWpA
    · exact memA
    clear hM
    intro wst hM
    (try simp only [World.size_alloc, World.size_setCell, World.heap_drewN, heapDrew, Nat.add_assoc, Nat.reduceAdd, sA, List.cons_append, List.nil_append] at hM)
    refine AtT.startA hM hM 29 (by kernel_rfl) ?_
    clear hM
    intro wd hM
    have hS := hM
    refine AtT.tk 0 ?_ 16 ?_ hS ?_
    rotate_left
    · (intro wS hSw; (try dsimp only at hSw); go_simp; (try rw [if_neg (by omega)]); try with_reducible rfl)
    simp only [Act.put, sA]
    refine AtT.tk 1 ?_ 17 ?_ hS ?_
    rotate_left
    · (intro wS hSw; (try dsimp only at hSw); go_simp; (try rw [if_neg (by omega)]); try with_reducible rfl)
    simp only [Act.put, sA]
    refine AtT.tk 2 ?_ 18 ?_ hS ?_
    rotate_left
    · (intro wS hSw; (try dsimp only at hSw); go_simp; (try rw [if_neg (by omega)]); try with_reducible rfl)
    simp only [Act.put, sA]
    refine AtT.tk 3 ?_ 19 ?_ hS ?_
    rotate_left
    · (intro wS hSw; (try dsimp only at hSw); have kr0 := (Mem.row hSw .here).cell; have g1 := (HI.out.ext hSw.below).cellK hmn; rw [HV.out] at g1; go_simp; (try rw [if_neg (by omega)]); try with_reducible rfl)
    simp only [Act.put, sA]
    refine AtT.tk 4 ?_ 20 ?_ hS ?_
    rotate_left
    · (intro wS hSw; (try dsimp only at hSw); go_simp; (try rw [if_neg (by omega)]); try with_reducible rfl)
    simp only [Act.put, sA]
    refine AtT.tk 5 ?_ 21 ?_ hS ?_
    rotate_left
    · (intro wS hSw; (try dsimp only at hSw); go_simp; (try rw [if_neg (by omega)]); try with_reducible rfl)
    simp only [Act.put, sA]
    refine AtT.only (i := 6) (by kernel_rfl) rfl rfl ?_
    intro K hK
    go_simp
    refine (in_any _ _ _ _).mono ?_
    rw [H3.out]
    rintro e w3 ⟨rfl, rfl⟩
    try dsimp only
    refine hK.out _ _ (hM) ?_
    clear hK K hS
    have hS := hM
    refine AtT.tk 7 ?_ 23 ?_ hS ?_
    rotate_left
    · (intro wS hSw; (try dsimp only at hSw); go_simp; (try rw [if_neg (by omega)]); try with_reducible rfl)
    simp only [Act.put, sA]
    refine AtT.tk 8 ?_ 24 ?_ hS ?_
    rotate_left
    · (intro wS hSw; (try dsimp only at hSw); go_simp; (try rw [if_neg (by omega)]); try with_reducible rfl)
    simp only [Act.put, sA]
    refine AtT.tk 9 ?_ 25 ?_ hS ?_
    rotate_left
    · (intro wS hSw; (try dsimp only at hSw); go_simp; (try rw [if_neg (by omega)]); try with_reducible rfl)
    simp only [Act.put, sA]
    refine AtT.tk 10 ?_ 26 ?_ hS ?_
    rotate_left
    · (intro wS hSw; (try dsimp only at hSw); have kr0 := (Mem.row hSw .here).cell; have g1 := (HI.out.ext hSw.below).cellK hmn; rw [HV.out] at g1; go_simp; (try rw [if_neg (by omega)]); try with_reducible rfl)
    simp only [Act.put, sA]
    refine AtT.tk 11 ?_ 27 ?_ hS ?_
    rotate_left
    · (intro wS hSw; (try dsimp only at hSw); go_simp; (try rw [if_neg (by omega)]); try with_reducible rfl)
    simp only [Act.put, sA]
    refine AtT.tk 12 ?_ 28 ?_ hS ?_
    rotate_left
    · (intro wS hSw; (try dsimp only at hSw); go_simp; (try rw [if_neg (by omega)]); try with_reducible rfl)
    simp only [Act.put, sA]
    refine AtT.tk 13 ?_ 29 ?_ hS ?_
    rotate_left
    · (intro wS hSw; (try dsimp only at hSw); go_simp; (try rw [if_neg (by omega)]); try with_reducible rfl)
    simp only [Act.put, sA]
    refine AtT.tk 14 ?_ 30 ?_ hS ?_
    rotate_left
    · (intro wS hSw; (try dsimp only at hSw); go_simp; (try rw [if_neg (by omega)]); try with_reducible rfl)
    simp only [Act.put, sA]
    refine AtT.tk 15 ?_ 31 ?_ hS ?_
    rotate_left
    · (intro wS hSw; (try dsimp only at hSw); have kr0 := (Mem.row hSw .here).cell; have g1 := (HI.out.ext hSw.below).cellK hmn; rw [HV.out] at g1; go_simp; (try rw [if_neg (by omega)]); try with_reducible rfl)
    simp only [Act.put, sA]
    refine AtT.tk 16 ?_ 32 ?_ hS ?_
    rotate_left
    · (intro wS hSw; (try dsimp only at hSw); go_simp; (try rw [if_neg (by omega)]); try with_reducible rfl)
    simp only [Act.put, sA]
    refine AtT.tk 17 ?_ 33 ?_ hS ?_
    rotate_left
    · (intro wS hSw; (try dsimp only at hSw); have kr0 := (Mem.row hSw .here).cell; have g1 := (HI.out.ext hSw.below).cellK hmn; rw [HV.out] at g1; go_simp; (try rw [if_neg (by omega)]); try with_reducible rfl)
    simp only [Act.put, sA]
    refine AtT.tk 18 ?_ 34 ?_ hS ?_
    rotate_left
    · (intro wS hSw; (try dsimp only at hSw); have kr0 := (Mem.row hSw .here).cell; have g1 := (HI.out.ext hSw.below).cellK hmn; rw [HV.out] at g1; go_simp; (try rw [if_neg (by omega)]); try with_reducible rfl)
    simp only [Act.put, sA]
    refine AtT.tk 19 ?_ 35 ?_ hS ?_
    rotate_left
    · (intro wS hSw; (try dsimp only at hSw); have kr0 := (Mem.row hSw .here).cell; have g1 := (HI.out.ext hSw.below).cellK hmn; rw [HV.out] at g1; go_simp; (try rw [if_neg (by omega)]); try with_reducible rfl)
    simp only [Act.put, sA]
    refine AtT.tk 20 ?_ 36 ?_ hS ?_
    rotate_left
    · (intro wS hSw; (try dsimp only at hSw); go_simp; (try rw [if_neg (by omega)]); try with_reducible rfl)
    simp only [Act.put, sA]
    refine AtT.tk 21 ?_ 37 ?_ hS ?_
    rotate_left
    · (intro wS hSw; (try dsimp only at hSw); have kr0 := (Mem.row hSw .here).cell; have g1 := (HI.out.ext hSw.below).cellK hmn; rw [HV.out] at g1; go_simp; (try rw [if_neg (by omega)]); try with_reducible rfl)
    simp only [Act.put, sA]
    refine AtT.tk 22 ?_ 38 ?_ hS ?_
    rotate_left
    · (intro wS hSw; (try dsimp only at hSw); go_simp; (try rw [if_neg (by omega)]); try with_reducible rfl)
    simp only [Act.put, sA]
    refine AtT.tk 23 ?_ 39 ?_ hS ?_
    rotate_left
    · (intro wS hSw; (try dsimp only at hSw); go_simp; (try rw [if_neg (by omega)]); try with_reducible rfl)
    simp only [Act.put, sA]
    refine AtT.tk 24 ?_ 40 ?_ hS ?_
    rotate_left
    · (intro wS hSw; (try dsimp only at hSw); go_simp; (try rw [if_neg (by omega)]); try with_reducible rfl)
    simp only [Act.put, sA]
    refine AtT.tn 25 41 hS ?_
    simp only [Act.put, sA]
    refine AtT.tn 26 42 hS ?_
    simp only [Act.put, sA]
    refine AtT.tn 27 43 hS ?_
    simp only [Act.put, sA]
    refine AtT.tk 28 ?_ 44 ?_ hS ?_
    rotate_left
    · (intro wS hSw; (try dsimp only at hSw); go_simp; (try rw [if_neg (by omega)]); try with_reducible rfl)
    simp only [Act.put, sA]
    refine AtT.last (by kernel_rfl) rfl (by kernel_rfl) ?_
    intro K hK
    clear hS
    go_simp
    refine hK.out _ _ ?_
    clear hK K
    go_wp2
    go_ret
    exact ⟨rfl, (by apply Mem.below; (exact memA))⟩
  · clear h
    go_upto_region 2 with fail
    apply Mem.atWpA
    · exact memA
    clear hM
    intro wst hM
    (try simp only [World.size_alloc, World.size_setCell, World.heap_drewN, heapDrew, Nat.add_assoc, Nat.reduceAdd, sA, List.cons_append, List.nil_append] at hM)
    refine AtT.startA hM hM 29 (by kernel_rfl) ?_
    clear hM
    intro wd hM
    have hS := hM
    refine AtT.tk 0 ?_ 16 ?_ hS ?_
    rotate_left
    · (intro wS hSw; (try dsimp only at hSw); go_simp; (try rw [if_neg (by omega)]); try with_reducible rfl)
    simp only [Act.put, sA]
    refine AtT.tk 1 ?_ 17 ?_ hS ?_
    rotate_left
    · (intro wS hSw; (try dsimp only at hSw); go_simp; (try rw [if_neg (by omega)]); try with_reducible rfl)
    simp only [Act.put, sA]
    refine AtT.tk 2 ?_ 18 ?_ hS ?_
    rotate_left
    · (intro wS hSw; (try dsimp only at hSw); go_simp; (try rw [if_neg (by omega)]); try with_reducible rfl)
    simp only [Act.put, sA]
    refine AtT.tk 3 ?_ 19 ?_ hS ?_
    rotate_left
    · (intro wS hSw; (try dsimp only at hSw); have kr0 := (Mem.row hSw .here).cell; have g1 := (HI.out.ext hSw.below).cellK hmn; rw [HV.out] at g1; go_simp; (try rw [if_neg (by omega)]); try with_reducible rfl)
    simp only [Act.put, sA]
    refine AtT.tk 4 ?_ 20 ?_ hS ?_
    rotate_left
    · (intro wS hSw; (try dsimp only at hSw); go_simp; (try rw [if_neg (by omega)]); try with_reducible rfl)
    simp only [Act.put, sA]
    refine AtT.tk 5 ?_ 21 ?_ hS ?_
    rotate_left
    · (intro wS hSw; (try dsimp only at hSw); go_simp; (try rw [if_neg (by omega)]); try with_reducible rfl)
    simp only [Act.put, sA]
    refine AtT.only (i := 6) (by kernel_rfl) rfl rfl ?_
    intro K hK
    go_simp
    refine (in_any _ _ _ _).mono ?_
    rw [H3.out]
    rintro e w3 ⟨rfl, rfl⟩
    try dsimp only
    refine hK.out _ _ (hM) ?_
    clear hK K hS
    have hS := hM
    refine AtT.tk 7 ?_ 23 ?_ hS ?_
    rotate_left
    · (intro wS hSw; (try dsimp only at hSw); go_simp; (try rw [if_neg (by omega)]); try with_reducible rfl)
    simp only [Act.put, sA]
    refine AtT.tk 8 ?_ 24 ?_ hS ?_
    rotate_left
    · (intro wS hSw; (try dsimp only at hSw); go_simp; (try rw [if_neg (by omega)]); try with_reducible rfl)
    simp only [Act.put, sA]
    refine AtT.tk 9 ?_ 25 ?_ hS ?_
    rotate_left
    · (intro wS hSw; (try dsimp only at hSw); go_simp; (try rw [if_neg (by omega)]); try with_reducible rfl)
    simp only [Act.put, sA]
    refine AtT.tk 10 ?_ 26 ?_ hS ?_
    rotate_left
    · (intro wS hSw; (try dsimp only at hSw); have kr0 := (Mem.row hSw .here).cell; have g1 := (HI.out.ext hSw.below).cellK hmn; rw [HV.out] at g1; go_simp; (try rw [if_neg (by omega)]); try with_reducible rfl)
    simp only [Act.put, sA]
    refine AtT.tk 11 ?_ 27 ?_ hS ?_
    rotate_left
    · (intro wS hSw; (try dsimp only at hSw); go_simp; (try rw [if_neg (by omega)]); try with_reducible rfl)
    simp only [Act.put, sA]
    refine AtT.tk 12 ?_ 28 ?_ hS ?_
    rotate_left
    · (intro wS hSw; (try dsimp only at hSw); go_simp; (try rw [if_neg (by omega)]); try with_reducible rfl)
    simp only [Act.put, sA]
    refine AtT.tk 13 ?_ 29 ?_ hS ?_
    rotate_left
    · (intro wS hSw; (try dsimp only at hSw); go_simp; (try rw [if_neg (by omega)]); try with_reducible rfl)
    simp only [Act.put, sA]
    refine AtT.tk 14 ?_ 30 ?_ hS ?_
    rotate_left
    · (intro wS hSw; (try dsimp only at hSw); go_simp; (try rw [if_neg (by omega)]); try with_reducible rfl)
    simp only [Act.put, sA]
    refine AtT.tk 15 ?_ 31 ?_ hS ?_
    rotate_left
    · (intro wS hSw; (try dsimp only at hSw); have kr0 := (Mem.row hSw .here).cell; have g1 := (HI.out.ext hSw.below).cellK hmn; rw [HV.out] at g1; go_simp; (try rw [if_neg (by omega)]); try with_reducible rfl)
    simp only [Act.put, sA]
    refine AtT.tk 16 ?_ 32 ?_ hS ?_
    rotate_left
    · (intro wS hSw; (try dsimp only at hSw); go_simp; (try rw [if_neg (by omega)]); try with_reducible rfl)
    simp only [Act.put, sA]
    refine AtT.tk 17 ?_ 33 ?_ hS ?_
    rotate_left
    · (intro wS hSw; (try dsimp only at hSw); have kr0 := (Mem.row hSw .here).cell; have g1 := (HI.out.ext hSw.below).cellK hmn; rw [HV.out] at g1; go_simp; (try rw [if_neg (by omega)]); try with_reducible rfl)
    simp only [Act.put, sA]
    refine AtT.tk 18 ?_ 34 ?_ hS ?_
    rotate_left
    · (intro wS hSw; (try dsimp only at hSw); have kr0 := (Mem.row hSw .here).cell; have g1 := (HI.out.ext hSw.below).cellK hmn; rw [HV.out] at g1; go_simp; (try rw [if_neg (by omega)]); try with_reducible rfl)
    simp only [Act.put, sA]
    refine AtT.tk 19 ?_ 35 ?_ hS ?_
    rotate_left
    · (intro wS hSw; (try dsimp only at hSw); have kr0 := (Mem.row hSw .here).cell; have g1 := (HI.out.ext hSw.below).cellK hmn; rw [HV.out] at g1; go_simp; (try rw [if_neg (by omega)]); try with_reducible rfl)
    simp only [Act.put, sA]
    refine AtT.tk 20 ?_ 36 ?_ hS ?_
    rotate_left
    · (intro wS hSw; (try dsimp only at hSw); go_simp; (try rw [if_neg (by omega)]); try with_reducible rfl)
    simp only [Act.put, sA]
    refine AtT.tk 21 ?_ 37 ?_ hS ?_
    rotate_left
    · (intro wS hSw; (try dsimp only at hSw); have kr0 := (Mem.row hSw .here).cell; have g1 := (HI.out.ext hSw.below).cellK hmn; rw [HV.out] at g1; go_simp; (try rw [if_neg (by omega)]); try with_reducible rfl)
    simp only [Act.put, sA]
    refine AtT.tk 22 ?_ 38 ?_ hS ?_
    rotate_left
    · (intro wS hSw; (try dsimp only at hSw); go_simp; (try rw [if_neg (by omega)]); try with_reducible rfl)
    simp only [Act.put, sA]
    refine AtT.tk 23 ?_ 39 ?_ hS ?_
    rotate_left
    · (intro wS hSw; (try dsimp only at hSw); go_simp; (try rw [if_neg (by omega)]); try with_reducible rfl)
    simp only [Act.put, sA]
    refine AtT.tk 24 ?_ 40 ?_ hS ?_
    rotate_left
    · (intro wS hSw; (try dsimp only at hSw); go_simp; (try rw [if_neg (by omega)]); try with_reducible rfl)
    simp only [Act.put, sA]
    refine AtT.tk 25 ?_ 41 ?_ hS ?_
    rotate_left
    · (intro wS hSw; (try dsimp only at hSw); go_simp; (try rw [if_neg (by omega)]); try with_reducible rfl)
    simp only [Act.put, sA]
    refine AtT.tk 26 ?_ 42 ?_ hS ?_
    rotate_left
    · (intro wS hSw; (try dsimp only at hSw); have kr0 := (Mem.row hSw .here).cell; have g1 := (HI.out.ext hSw.below).cellK hmn; rw [HV.out] at g1; go_simp; (try rw [if_neg (by omega)]); try with_reducible rfl)
    simp only [Act.put, sA]
    refine AtT.only (i := 27) (by kernel_rfl) rfl rfl ?_
    intro K hK
    go_simp
    refine (isWord_any wo _ (by unfold maxLen; omega)).mono ?_
    rw [H6.out]
    rintro e w4 ⟨rfl, rfl⟩
    try dsimp only
    refine hK.out _ _ (hM) ?_
    clear hK K hS
    have hS := hM
    refine AtT.tk 28 ?_ 44 ?_ hS ?_
    rotate_left
    · (intro wS hSw; (try dsimp only at hSw); go_simp; (try rw [if_neg (by omega)]); try with_reducible rfl)
    simp only [Act.put, sA]
    refine AtT.last (by kernel_rfl) rfl (by kernel_rfl) ?_
    intro K hK
    clear hS
    go_simp
    refine hK.out _ _ ?_
    clear hK K
    go_wp2
    go_ret
    exact ⟨rb (by cases q6 <;> rfl), (by apply Mem.below; (exact memA))⟩
end Go.Proofs.YtjnbdgldpmmamaaGreat

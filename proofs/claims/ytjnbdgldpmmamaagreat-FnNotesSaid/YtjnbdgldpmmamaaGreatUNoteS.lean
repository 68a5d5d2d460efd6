/-
  Two notebooks of the same notes are the same to the laws' comparison.
-/
import Derived.Test.YtjnbdgldpmmamaaGreatUSeason
import Derived.Test.YtjnbdgldpmmamaaGreatULawV
/-
  Two notebooks of the same notes are the same to the laws' comparison.
-/
namespace Go.Proofs.YtjnbdgldpmmamaaGreat
set_option linter.unusedSimpArgs false
set_option linter.unusedVariables false
open Go.RowKit

theorem core_fields {x y : NoteI} (h : x.core = y.core) : y.un = x.un ∧ y.sq = x.sq ∧ y.cl = x.cl ∧ y.wd = x.wd := by
  unfold NoteI.core at h
  injection h with h1 h2 h3 h4
  exact ⟨h1.symm, h2.symm, h3.symm, h4.symm⟩
set_option maxRecDepth 100000 in
set_option maxHeartbeats 8000000 in
theorem vNotes_same (a : Option Addr) (n c : Nat) (xs : List NoteI) (a2 : Option Addr) (n2 c2 : Nat) (ys : List NoteI) (w : World) (h : RdN w a n c xs) (h2 : RdN w a2 n2 c2 ys) (hc : coreN xs = coreN ys) :
    Calls Tryz.prog 20 #[.slice a n c, .slice a2 n2 c2] w fun e w' => e = .returned (.bool true) ∧ Below w.heap.size w w' := by
  have hM := Mem.start w
  have BL := bsA_list
  obtain ⟨e1, e2⟩ := coreN_eq hc
  rw [h.rd.len, h2.rd.len] at e1
  subst e1
  have HE := Lib.hid e2
  have hrm := h.rd.nroom
  clear hc e2
  go_enter Tryz.func20, Tryz.ntmps20
  go_wp2_with fail
  go_loopw [5] (fun i wr => ∃ k : Nat, k ≤ n ∧ i = .int .i64 k ∧ Mem w.heap.size w wr []) (fun i _ => n - (intOf i).toNat)
  case atStart => exact ⟨0, Nat.zero_le _, rfl, hM⟩
  case round =>
    clear hM
    obtain ⟨k, hk, rfl, hM⟩ := hrel
    by_cases hlt : k < n
    · obtain ⟨b, off, rfl, -, -⟩ := h.rd.at' _ hlt
      obtain ⟨b2, off2, rfl, -, -⟩ := h2.rd.at' _ hlt
      have hx := h.get hlt
      have hy := h2.get hlt
      have he := HE.out k
      obtain ⟨x, hxx⟩ : ∃ x, xs.getD k NoteI.zero = x := ⟨_, rfl⟩
      obtain ⟨y, hyy⟩ : ∃ y, ys.getD k NoteI.zero = y := ⟨_, rfl⟩
      rw [hxx] at hx he
      rw [hyy] at hy he
      have HX := Lib.hid hxx; have HY := Lib.hid hyy
      clear hxx hyy
      obtain ⟨xu, xq, xa, xn, xc, xl, xw⟩ := x
      obtain ⟨yu, yq, ya, yn, yc, yl, yw⟩ := y
      obtain ⟨f1, f2, f3, f4⟩ := core_fields he
      clear he
      dsimp only at f1 f2 f3 f4 hx hy
      subst f1 f2 f3 f4
      have HXC := Lib.hid hx; have HYC := Lib.hid hy
      clear hx hy
      have i0 : (0 : Int) ≤ (k : Int) := by omega
      have i1 : (k : Int) < (n : Int) := by omega
      have hb1 : (yw == yw) = true := by simp
      have hb2 : (yw != yw) = false := by simp
      have hb3 : (yu == yu) = true := by simp
      have hb4 : (yq == yq) = true := by simp
      go_upto_region 6 with fail
      apply Mem.atWpA
      · exact memA
      clear hM
      intro wst hM
      (try simp only [World.size_alloc, World.size_setCell, World.heap_drewN, heapDrew, Nat.add_assoc, Nat.reduceAdd, sA, List.cons_append, List.nil_append] at hM)
      refine AtT.startA hM hM 50 (by kernel_rfl) ?_
      clear hM
      intro wd hM
      have hS := hM
      refine AtT.tk 0 ?_ 17 ?_ hS ?_
      rotate_left
      · (intro wS hSw; (try dsimp only at hSw); go_simp; (try rw [if_neg (by omega)]); try with_reducible rfl)
      simp only [Act.put, sA]
      refine AtT.tk 1 ?_ 18 ?_ hS ?_
      rotate_left
      · (intro wS hSw; (try dsimp only at hSw); go_simp; (try rw [if_neg (by omega)]); try with_reducible rfl)
      simp only [Act.put, sA]
      refine AtT.tk 2 ?_ 19 ?_ hS ?_
      rotate_left
      · (intro wS hSw; (try dsimp only at hSw); have hd0 := ((h.rd.ext hSw.below).cellNote hlt).2; have he0 := ((h2.rd.ext hSw.below).cellNote hlt).2; rw [HX.out] at hd0; rw [HY.out] at he0; have g0 := hd0.1; have g1 := hd0.2.1; have g2 := hd0.2.2.1; have g3 := hd0.2.2.2; have g4 := he0.1; have g5 := he0.2.1; have g6 := he0.2.2.1; have g7 := he0.2.2.2; dsimp only at g0 g1 g2 g3 g4 g5 g6 g7; go_simp; (try rw [if_neg (by omega)]); try with_reducible rfl)
      simp only [Act.put, sA]
      refine AtT.tk 3 ?_ 20 ?_ hS ?_
      rotate_left
      · (intro wS hSw; (try dsimp only at hSw); go_simp; (try rw [if_neg (by omega)]); try with_reducible rfl)
      simp only [Act.put, sA]
      refine AtT.tk 4 ?_ 21 ?_ hS ?_
      rotate_left
      · (intro wS hSw; (try dsimp only at hSw); have hd0 := ((h.rd.ext hSw.below).cellNote hlt).2; have he0 := ((h2.rd.ext hSw.below).cellNote hlt).2; rw [HX.out] at hd0; rw [HY.out] at he0; have g0 := hd0.1; have g1 := hd0.2.1; have g2 := hd0.2.2.1; have g3 := hd0.2.2.2; have g4 := he0.1; have g5 := he0.2.1; have g6 := he0.2.2.1; have g7 := he0.2.2.2; dsimp only at g0 g1 g2 g3 g4 g5 g6 g7; go_simp; (try rw [if_neg (by omega)]); try with_reducible rfl)
      simp only [Act.put, sA]
      refine AtT.tk 5 ?_ 22 ?_ hS ?_
      rotate_left
      · (intro wS hSw; (try dsimp only at hSw); go_simp; (try rw [if_neg (by omega)]); try with_reducible rfl)
      simp only [Act.put, sA]
      refine AtT.tk 6 ?_ 23 ?_ hS ?_
      rotate_left
      · (intro wS hSw; (try dsimp only at hSw); go_simp; (try rw [if_neg (by omega)]); try with_reducible rfl)
      simp only [Act.put, sA]
      refine AtT.tk 7 ?_ 24 ?_ hS ?_
      rotate_left
      · (intro wS hSw; (try dsimp only at hSw); have hd0 := ((h.rd.ext hSw.below).cellNote hlt).2; have he0 := ((h2.rd.ext hSw.below).cellNote hlt).2; rw [HX.out] at hd0; rw [HY.out] at he0; have g0 := hd0.1; have g1 := hd0.2.1; have g2 := hd0.2.2.1; have g3 := hd0.2.2.2; have g4 := he0.1; have g5 := he0.2.1; have g6 := he0.2.2.1; have g7 := he0.2.2.2; dsimp only at g0 g1 g2 g3 g4 g5 g6 g7; go_simp; (try rw [if_neg (by omega)]); try with_reducible rfl)
      simp only [Act.put, sA]
      refine AtT.tk 8 ?_ 25 ?_ hS ?_
      rotate_left
      · (intro wS hSw; (try dsimp only at hSw); go_simp; (try rw [if_neg (by omega)]); try with_reducible rfl)
      simp only [Act.put, sA]
      refine AtT.tk 9 ?_ 26 ?_ hS ?_
      rotate_left
      · (intro wS hSw; (try dsimp only at hSw); have hd0 := ((h.rd.ext hSw.below).cellNote hlt).2; have he0 := ((h2.rd.ext hSw.below).cellNote hlt).2; rw [HX.out] at hd0; rw [HY.out] at he0; have g0 := hd0.1; have g1 := hd0.2.1; have g2 := hd0.2.2.1; have g3 := hd0.2.2.2; have g4 := he0.1; have g5 := he0.2.1; have g6 := he0.2.2.1; have g7 := he0.2.2.2; dsimp only at g0 g1 g2 g3 g4 g5 g6 g7; go_simp; (try rw [if_neg (by omega)]); try with_reducible rfl)
      simp only [Act.put, sA]
      refine AtT.tk 10 ?_ 27 ?_ hS ?_
      rotate_left
      · (intro wS hSw; (try dsimp only at hSw); go_simp; (try rw [if_neg (by omega)]); try with_reducible rfl)
      simp only [Act.put, sA]
      refine AtT.tk 11 ?_ 28 ?_ hS ?_
      rotate_left
      · (intro wS hSw; (try dsimp only at hSw); go_simp; (try rw [if_neg (by omega)]); try with_reducible rfl)
      simp only [Act.put, sA]
      refine AtT.tk 12 ?_ 29 ?_ hS ?_
      rotate_left
      · (intro wS hSw; (try dsimp only at hSw); go_simp; (try rw [if_neg (by omega)]); try with_reducible rfl)
      simp only [Act.put, sA]
      refine AtT.tk 13 ?_ 30 ?_ hS ?_
      rotate_left
      · (intro wS hSw; (try dsimp only at hSw); go_simp; (try rw [if_neg (by omega)]); try with_reducible rfl)
      simp only [Act.put, sA]
      refine AtT.tk 14 ?_ 31 ?_ hS ?_
      rotate_left
      · (intro wS hSw; (try dsimp only at hSw); have hd0 := ((h.rd.ext hSw.below).cellNote hlt).2; have he0 := ((h2.rd.ext hSw.below).cellNote hlt).2; rw [HX.out] at hd0; rw [HY.out] at he0; have g0 := hd0.1; have g1 := hd0.2.1; have g2 := hd0.2.2.1; have g3 := hd0.2.2.2; have g4 := he0.1; have g5 := he0.2.1; have g6 := he0.2.2.1; have g7 := he0.2.2.2; dsimp only at g0 g1 g2 g3 g4 g5 g6 g7; go_simp; (try rw [if_neg (by omega)]); try with_reducible rfl)
      simp only [Act.put, sA]
      refine AtT.tk 15 ?_ 32 ?_ hS ?_
      rotate_left
      · (intro wS hSw; (try dsimp only at hSw); go_simp; (try rw [if_neg (by omega)]); try with_reducible rfl)
      simp only [Act.put, sA]
      refine AtT.tk 16 ?_ 33 ?_ hS ?_
      rotate_left
      · (intro wS hSw; (try dsimp only at hSw); have hd0 := ((h.rd.ext hSw.below).cellNote hlt).2; have he0 := ((h2.rd.ext hSw.below).cellNote hlt).2; rw [HX.out] at hd0; rw [HY.out] at he0; have g0 := hd0.1; have g1 := hd0.2.1; have g2 := hd0.2.2.1; have g3 := hd0.2.2.2; have g4 := he0.1; have g5 := he0.2.1; have g6 := he0.2.2.1; have g7 := he0.2.2.2; dsimp only at g0 g1 g2 g3 g4 g5 g6 g7; go_simp; (try rw [if_neg (by omega)]); try with_reducible rfl)
      simp only [Act.put, sA]
      refine AtT.tk 17 ?_ 34 ?_ hS ?_
      rotate_left
      · (intro wS hSw; (try dsimp only at hSw); go_simp; (try rw [if_neg (by omega)]); try with_reducible rfl)
      simp only [Act.put, sA]
      refine AtT.tk 18 ?_ 35 ?_ hS ?_
      rotate_left
      · (intro wS hSw; (try dsimp only at hSw); go_simp; (try rw [if_neg (by omega)]); try with_reducible rfl)
      simp only [Act.put, sA]
      refine AtT.tk 19 ?_ 36 ?_ hS ?_
      rotate_left
      · (intro wS hSw; (try dsimp only at hSw); have hd0 := ((h.rd.ext hSw.below).cellNote hlt).2; have he0 := ((h2.rd.ext hSw.below).cellNote hlt).2; rw [HX.out] at hd0; rw [HY.out] at he0; have g0 := hd0.1; have g1 := hd0.2.1; have g2 := hd0.2.2.1; have g3 := hd0.2.2.2; have g4 := he0.1; have g5 := he0.2.1; have g6 := he0.2.2.1; have g7 := he0.2.2.2; dsimp only at g0 g1 g2 g3 g4 g5 g6 g7; go_simp; (try rw [if_neg (by omega)]); try with_reducible rfl)
      simp only [Act.put, sA]
      refine AtT.tk 20 ?_ 37 ?_ hS ?_
      rotate_left
      · (intro wS hSw; (try dsimp only at hSw); go_simp; (try rw [if_neg (by omega)]); try with_reducible rfl)
      simp only [Act.put, sA]
      refine AtT.tk 21 ?_ 38 ?_ hS ?_
      rotate_left
      · (intro wS hSw; (try dsimp only at hSw); have hd0 := ((h.rd.ext hSw.below).cellNote hlt).2; have he0 := ((h2.rd.ext hSw.below).cellNote hlt).2; rw [HX.out] at hd0; rw [HY.out] at he0; have g0 := hd0.1; have g1 := hd0.2.1; have g2 := hd0.2.2.1; have g3 := hd0.2.2.2; have g4 := he0.1; have g5 := he0.2.1; have g6 := he0.2.2.1; have g7 := he0.2.2.2; dsimp only at g0 g1 g2 g3 g4 g5 g6 g7; go_simp; (try rw [if_neg (by omega)]); try with_reducible rfl)
      simp only [Act.put, sA]
      refine AtT.tk 22 ?_ 39 ?_ hS ?_
      rotate_left
      · (intro wS hSw; (try dsimp only at hSw); go_simp; (try rw [if_neg (by omega)]); try with_reducible rfl)
      simp only [Act.put, sA]
      refine AtT.tk 23 ?_ 40 ?_ hS ?_
      rotate_left
      · (intro wS hSw; (try dsimp only at hSw); go_simp; (try rw [if_neg (by omega)]); try with_reducible rfl)
      simp only [Act.put, sA]
      refine AtT.tk 24 ?_ 41 ?_ hS ?_
      rotate_left
      · (intro wS hSw; (try dsimp only at hSw); go_simp; (try rw [if_neg (by omega)]); try with_reducible rfl)
      simp only [Act.put, sA]
      refine AtT.tk 25 ?_ 42 ?_ hS ?_
      rotate_left
      · (intro wS hSw; (try dsimp only at hSw); go_simp; (try rw [if_neg (by omega)]); try with_reducible rfl)
      simp only [Act.put, sA]
      refine AtT.tk 26 ?_ 43 ?_ hS ?_
      rotate_left
      · (intro wS hSw; (try dsimp only at hSw); go_simp; (try rw [if_neg (by omega)]); try with_reducible rfl)
      simp only [Act.put, sA]
      refine AtT.tk 27 ?_ 44 ?_ hS ?_
      rotate_left
      · (intro wS hSw; (try dsimp only at hSw); have hd0 := ((h.rd.ext hSw.below).cellNote hlt).2; have he0 := ((h2.rd.ext hSw.below).cellNote hlt).2; rw [HX.out] at hd0; rw [HY.out] at he0; have g0 := hd0.1; have g1 := hd0.2.1; have g2 := hd0.2.2.1; have g3 := hd0.2.2.2; have g4 := he0.1; have g5 := he0.2.1; have g6 := he0.2.2.1; have g7 := he0.2.2.2; dsimp only at g0 g1 g2 g3 g4 g5 g6 g7; go_simp; (try rw [if_neg (by omega)]); try with_reducible rfl)
      simp only [Act.put, sA]
      refine AtT.tk 28 ?_ 45 ?_ hS ?_
      rotate_left
      · (intro wS hSw; (try dsimp only at hSw); go_simp; (try rw [if_neg (by omega)]); try with_reducible rfl)
      simp only [Act.put, sA]
      refine AtT.tk 29 ?_ 46 ?_ hS ?_
      rotate_left
      · (intro wS hSw; (try dsimp only at hSw); have hd0 := ((h.rd.ext hSw.below).cellNote hlt).2; have he0 := ((h2.rd.ext hSw.below).cellNote hlt).2; rw [HX.out] at hd0; rw [HY.out] at he0; have g0 := hd0.1; have g1 := hd0.2.1; have g2 := hd0.2.2.1; have g3 := hd0.2.2.2; have g4 := he0.1; have g5 := he0.2.1; have g6 := he0.2.2.1; have g7 := he0.2.2.2; dsimp only at g0 g1 g2 g3 g4 g5 g6 g7; go_simp; (try rw [if_neg (by omega)]); try with_reducible rfl)
      simp only [Act.put, sA]
      refine AtT.tk 30 ?_ 47 ?_ hS ?_
      rotate_left
      · (intro wS hSw; (try dsimp only at hSw); go_simp; (try rw [if_neg (by omega)]); try with_reducible rfl)
      simp only [Act.put, sA]
      refine AtT.tk 31 ?_ 48 ?_ hS ?_
      rotate_left
      · (intro wS hSw; (try dsimp only at hSw); go_simp; (try rw [if_neg (by omega)]); try with_reducible rfl)
      simp only [Act.put, sA]
      refine AtT.tk 32 ?_ 49 ?_ hS ?_
      rotate_left
      · (intro wS hSw; (try dsimp only at hSw); have hd0 := ((h.rd.ext hSw.below).cellNote hlt).2; have he0 := ((h2.rd.ext hSw.below).cellNote hlt).2; rw [HX.out] at hd0; rw [HY.out] at he0; have g0 := hd0.1; have g1 := hd0.2.1; have g2 := hd0.2.2.1; have g3 := hd0.2.2.2; have g4 := he0.1; have g5 := he0.2.1; have g6 := he0.2.2.1; have g7 := he0.2.2.2; dsimp only at g0 g1 g2 g3 g4 g5 g6 g7; go_simp; (try rw [if_neg (by omega)]); try with_reducible rfl)
      simp only [Act.put, sA]
      refine AtT.tk 33 ?_ 50 ?_ hS ?_
      rotate_left
      · (intro wS hSw; (try dsimp only at hSw); go_simp; (try rw [if_neg (by omega)]); try with_reducible rfl)
      simp only [Act.put, sA]
      refine AtT.tk 34 ?_ 51 ?_ hS ?_
      rotate_left
      · (intro wS hSw; (try dsimp only at hSw); have hd0 := ((h.rd.ext hSw.below).cellNote hlt).2; have he0 := ((h2.rd.ext hSw.below).cellNote hlt).2; rw [HX.out] at hd0; rw [HY.out] at he0; have g0 := hd0.1; have g1 := hd0.2.1; have g2 := hd0.2.2.1; have g3 := hd0.2.2.2; have g4 := he0.1; have g5 := he0.2.1; have g6 := he0.2.2.1; have g7 := he0.2.2.2; dsimp only at g0 g1 g2 g3 g4 g5 g6 g7; go_simp; (try rw [if_neg (by omega)]); try with_reducible rfl)
      simp only [Act.put, sA]
      refine AtT.tk 35 ?_ 52 ?_ hS ?_
      rotate_left
      · (intro wS hSw; (try dsimp only at hSw); go_simp; (try rw [if_neg (by omega)]); try with_reducible rfl)
      simp only [Act.put, sA]
      refine AtT.tk 36 ?_ 53 ?_ hS ?_
      rotate_left
      · (intro wS hSw; (try dsimp only at hSw); go_simp; (try rw [if_neg (by omega)]); try with_reducible rfl)
      simp only [Act.put, sA]
      refine AtT.tk 37 ?_ 54 ?_ hS ?_
      rotate_left
      · (intro wS hSw; (try dsimp only at hSw); go_simp; (try rw [if_neg (by omega)]); try with_reducible rfl)
      simp only [Act.put, sA]
      refine AtT.tk 38 ?_ 55 ?_ hS ?_
      rotate_left
      · (intro wS hSw; (try dsimp only at hSw); go_simp; (try rw [if_neg (by omega)]); try with_reducible rfl)
      simp only [Act.put, sA]
      refine AtT.tk 39 ?_ 56 ?_ hS ?_
      rotate_left
      · (intro wS hSw; (try dsimp only at hSw); go_simp; (try rw [if_neg (by omega)]); try with_reducible rfl)
      simp only [Act.put, sA]
      refine AtT.tk 40 ?_ 57 ?_ hS ?_
      rotate_left
      · (intro wS hSw; (try dsimp only at hSw); have hd0 := ((h.rd.ext hSw.below).cellNote hlt).2; have he0 := ((h2.rd.ext hSw.below).cellNote hlt).2; rw [HX.out] at hd0; rw [HY.out] at he0; have g0 := hd0.1; have g1 := hd0.2.1; have g2 := hd0.2.2.1; have g3 := hd0.2.2.2; have g4 := he0.1; have g5 := he0.2.1; have g6 := he0.2.2.1; have g7 := he0.2.2.2; dsimp only at g0 g1 g2 g3 g4 g5 g6 g7; go_simp; (try rw [if_neg (by omega)]); try with_reducible rfl)
      simp only [Act.put, sA]
      refine AtT.tk 41 ?_ 58 ?_ hS ?_
      rotate_left
      · (intro wS hSw; (try dsimp only at hSw); go_simp; (try rw [if_neg (by omega)]); try with_reducible rfl)
      simp only [Act.put, sA]
      refine AtT.tk 42 ?_ 59 ?_ hS ?_
      rotate_left
      · (intro wS hSw; (try dsimp only at hSw); have hd0 := ((h.rd.ext hSw.below).cellNote hlt).2; have he0 := ((h2.rd.ext hSw.below).cellNote hlt).2; rw [HX.out] at hd0; rw [HY.out] at he0; have g0 := hd0.1; have g1 := hd0.2.1; have g2 := hd0.2.2.1; have g3 := hd0.2.2.2; have g4 := he0.1; have g5 := he0.2.1; have g6 := he0.2.2.1; have g7 := he0.2.2.2; dsimp only at g0 g1 g2 g3 g4 g5 g6 g7; go_simp; (try rw [if_neg (by omega)]); try with_reducible rfl)
      simp only [Act.put, sA]
      refine AtT.tk 43 ?_ 60 ?_ hS ?_
      rotate_left
      · (intro wS hSw; (try dsimp only at hSw); go_simp; (try rw [if_neg (by omega)]); try with_reducible rfl)
      simp only [Act.put, sA]
      refine AtT.tk 44 ?_ 61 ?_ hS ?_
      rotate_left
      · (intro wS hSw; (try dsimp only at hSw); go_simp; (try rw [if_neg (by omega)]); try with_reducible rfl)
      simp only [Act.put, sA]
      refine AtT.tk 45 ?_ 62 ?_ hS ?_
      rotate_left
      · (intro wS hSw; (try dsimp only at hSw); have hd0 := ((h.rd.ext hSw.below).cellNote hlt).2; have he0 := ((h2.rd.ext hSw.below).cellNote hlt).2; rw [HX.out] at hd0; rw [HY.out] at he0; have g0 := hd0.1; have g1 := hd0.2.1; have g2 := hd0.2.2.1; have g3 := hd0.2.2.2; have g4 := he0.1; have g5 := he0.2.1; have g6 := he0.2.2.1; have g7 := he0.2.2.2; dsimp only at g0 g1 g2 g3 g4 g5 g6 g7; go_simp; (try rw [if_neg (by omega)]); try with_reducible rfl)
      simp only [Act.put, sA]
      refine AtT.tk 46 ?_ 63 ?_ hS ?_
      rotate_left
      · (intro wS hSw; (try dsimp only at hSw); go_simp; (try rw [if_neg (by omega)]); try with_reducible rfl)
      simp only [Act.put, sA]
      refine AtT.tk 47 ?_ 64 ?_ hS ?_
      rotate_left
      · (intro wS hSw; (try dsimp only at hSw); have hd0 := ((h.rd.ext hSw.below).cellNote hlt).2; have he0 := ((h2.rd.ext hSw.below).cellNote hlt).2; rw [HX.out] at hd0; rw [HY.out] at he0; have g0 := hd0.1; have g1 := hd0.2.1; have g2 := hd0.2.2.1; have g3 := hd0.2.2.2; have g4 := he0.1; have g5 := he0.2.1; have g6 := he0.2.2.1; have g7 := he0.2.2.2; dsimp only at g0 g1 g2 g3 g4 g5 g6 g7; go_simp; (try rw [if_neg (by omega)]); try with_reducible rfl)
      simp only [Act.put, sA]
      refine AtT.only (i := 48) (by kernel_rfl) rfl rfl ?_
      intro K hK
      go_simp
      refine (vInts_any xa xn xc yl ya yn yc yl _ (HXC.out.ext hM.below) (HYC.out.ext hM.below)).mono ?_
      rw [show (yl == yl) = true by simp]
      rintro e w3 ⟨rfl, hb9⟩
      replace hM := hM.ext hb9
      clear hb9
      try dsimp only
      refine hK.out _ _ (hM) ?_
      clear hK K hS
      have hS := hM
      refine AtT.tk 49 ?_ 66 ?_ hS ?_
      rotate_left
      · (intro wS hSw; (try dsimp only at hSw); go_simp; (try rw [if_neg (by omega)]); try with_reducible rfl)
      simp only [Act.put, sA]
      refine AtT.last (by kernel_rfl) rfl (by kernel_rfl) ?_
      intro K hK
      clear hS
      go_simp
      refine hK.out _ _ ?_
      clear hK K
      go_wp2
      go_roundw
      case rel => exact ⟨k + 1, by omega, by go_num, by (exact memA)⟩
      case measure => simp [intOf]; omega
    · obtain rfl : k = n := by omega
      go_wp2
      go_ret
      exact ⟨rfl, (by apply Mem.below; (exact memA))⟩
end Go.Proofs.YtjnbdgldpmmamaaGreat

/-
  The law FnLines, walked.
-/
import Derived.Test.YtbgegmignhghnaaLFlowZ
import Derived.Test.YtbgegmignhghnaaLOpCode
import Derived.Test.YtbgegmignhghnaaLDrawLin2
import Derived.Test.YtbgegmignhghnaaLNearest
import Derived.Test.YtbgegmignhghnaaLFlowQ
import Derived.Test.YtbgegmignhghnaaLRegF
import Derived.Deep.DeepCutAuto
/-
  The law FnLines, walked.
-/
namespace Go.Proofs.Ytbgegmignhghnaa
set_option linter.unusedSimpArgs false
set_option linter.unusedVariables false
open Go.RowKit

set_option maxRecDepth 100000 in
set_option maxHeartbeats 8000000 in
theorem FnLines_walk (a : Option Addr) (n cc : Nat) (l : List UInt8) (w : World) (hI : n ≤ maxLen ∧ (n ≤ 65536 → Rd FByt w a n cc l)) :
    Calls Try.prog 3 #[.slice a n cc] w fun e w' => e = .returned (.bool true) ∧ Below w.heap.size w w' := by
  have hM := Mem.start w
  have HI := Lib.hid hI.2
  clear hI
  go_enter Try.func3, Try.ntmps3
  go_wp2_with fail
  apply Mem.atA
  · (repeat' (first | with_reducible exact hM | with_reducible exact hMp | with_reducible apply Mem.drew | with_reducible apply Mem.drewN | with_reducible apply Mem.alloc | with_reducible apply Mem.set | with_reducible exact Sto.row | ((with_reducible refine Sto.rowEq2 ?_ ?_); omega; rfl) | ((with_reducible refine Sto.rowEq ?_); omega) | with_reducible apply Sto.int | with_reducible apply Sto.there | with_reducible assumption | (unfold I64; omega) | (with_reducible (have hMx := Mem.undrew hM; exact hMx)) | (with_reducible (have hMx := Mem.undrew hMp; exact hMx))))
  clear hM
  intro wst hM
  (try simp only [World.size_alloc, World.size_setCell, World.heap_drewN, heapDrew, Nat.add_assoc, Nat.reduceAdd, List.setIfInBounds_toArray, List.set_cons_zero, List.set_cons_succ, List.cons_append, List.nil_append] at hM)
  (first | refine (vBig_any a n cc _).mono ?_)
  rintro e wc1 ⟨rfl, hb⟩
  replace hM := hM.ext hb
  clear hb
  by_cases hb : 65536 < n
  · go_wp2
    go_ret
    exact ⟨rfl, (by apply Mem.below; (repeat' (first | with_reducible exact hM | with_reducible exact hMp | with_reducible apply Mem.drew | with_reducible apply Mem.drewN | with_reducible apply Mem.alloc | with_reducible apply Mem.set | with_reducible exact Sto.row | ((with_reducible refine Sto.rowEq2 ?_ ?_); omega; rfl) | ((with_reducible refine Sto.rowEq ?_); omega) | with_reducible apply Sto.int | with_reducible apply Sto.there | with_reducible assumption | (unfold I64; omega) | (with_reducible (have hMx := Mem.undrew hM; exact hMx)) | (with_reducible (have hMx := Mem.undrew hMp; exact hMx)))))⟩
  have HC := Lib.hid (HI.out (by omega))
  clear HI
  go_wp2_with fail
  apply Mem.atA
  · (repeat' (first | with_reducible exact hM | with_reducible exact hMp | with_reducible apply Mem.drew | with_reducible apply Mem.drewN | with_reducible apply Mem.alloc | with_reducible apply Mem.set | with_reducible exact Sto.row | ((with_reducible refine Sto.rowEq2 ?_ ?_); omega; rfl) | ((with_reducible refine Sto.rowEq ?_); omega) | with_reducible apply Sto.int | with_reducible apply Sto.there | with_reducible assumption | (unfold I64; omega) | (with_reducible (have hMx := Mem.undrew hM; exact hMx)) | (with_reducible (have hMx := Mem.undrew hMp; exact hMx))))
  clear hM
  intro wst hM
  (try simp only [World.size_alloc, World.size_setCell, World.heap_drewN, heapDrew, Nat.add_assoc, Nat.reduceAdd, List.setIfInBounds_toArray, List.set_cons_zero, List.set_cons_succ, List.cons_append, List.nil_append] at hM)
  (first | refine (drawLin_few (HC.out.ext hM.below)).mono ?_)
  rintro e w1 ⟨W, H, a1, c1, xs, a2, n2, c2, ss, a3, n3, c3, ts, hS, rfl, hm⟩
  replace hM := hM.join hm
  clear hm
  (try simp only [World.size_alloc, World.size_setCell, World.heap_drewN, heapDrew, Nat.add_assoc, Nat.reduceAdd, List.setIfInBounds_toArray, List.set_cons_zero, List.set_cons_succ, List.cons_append, List.nil_append] at hM)
  clear hS
  obtain ⟨⟨v, ok⟩, hq0⟩ : ∃ r, fewestR W H xs ss ts = r := ⟨_, rfl⟩
  obtain ⟨⟨best, fine⟩, hq1⟩ : ∃ r, bestR W H xs ss ts = r := ⟨_, rfl⟩
  obtain ⟨⟨near, known⟩, hq2⟩ : ∃ r, nearestR W H xs ss ts = r := ⟨_, rfl⟩
  have HQ0 := Lib.hid hq0; have HQ1 := Lib.hid hq1; have HQ2 := Lib.hid hq2
  have HFI := Lib.hid (best_few hq0 hq1)
  clear hq0 hq1 hq2
  have hvv : (v != v) = false := by simp
  have hoo : (ok != ok) = false := by cases ok <;> rfl
  have hff : (fine != fine) = false := by cases fine <;> rfl
  have hkk : (known != known) = false := by cases known <;> rfl
  go_wp2_with fail
  apply Mem.atA
  · (repeat' (first | with_reducible exact hM | with_reducible exact hMp | with_reducible apply Mem.drew | with_reducible apply Mem.drewN | with_reducible apply Mem.alloc | with_reducible apply Mem.set | with_reducible exact Sto.row | ((with_reducible refine Sto.rowEq2 ?_ ?_); omega; rfl) | ((with_reducible refine Sto.rowEq ?_); omega) | with_reducible apply Sto.int | with_reducible apply Sto.there | with_reducible assumption | (unfold I64; omega) | (with_reducible (have hMx := Mem.undrew hM; exact hMx)) | (with_reducible (have hMx := Mem.undrew hMp; exact hMx))))
  clear hM
  intro wst hM
  (try simp only [World.size_alloc, World.size_setCell, World.heap_drewN, heapDrew, Nat.add_assoc, Nat.reduceAdd, List.setIfInBounds_toArray, List.set_cons_zero, List.set_cons_succ, List.cons_append, List.nil_append] at hM)
  (first | refine (implFewest_any W H a1 xs.length c1 xs a2 n2 c2 ss a3 n3 c3 ts _ (hM.intsR (.there .here)) (hM.intsR (.there (.there .here))) (hM.intsR (.there (.there (.there .here))))).mono ?_)
  rw [HQ0.out]
  rintro e wc3 ⟨rfl, hb⟩
  replace hM := hM.ext hb
  clear hb
  dsimp only
  obtain ⟨k0, f0, l0⟩ := hM.row .here
  go_wp2_with fail
  clear k0 f0 l0
  apply Mem.atA
  · (repeat' (first | with_reducible exact hM | with_reducible exact hMp | with_reducible apply Mem.drew | with_reducible apply Mem.drewN | with_reducible apply Mem.alloc | with_reducible apply Mem.set | with_reducible exact Sto.row | ((with_reducible refine Sto.rowEq2 ?_ ?_); omega; rfl) | ((with_reducible refine Sto.rowEq ?_); omega) | with_reducible apply Sto.int | with_reducible apply Sto.there | with_reducible assumption | (unfold I64; omega) | (with_reducible (have hMx := Mem.undrew hM; exact hMx)) | (with_reducible (have hMx := Mem.undrew hMp; exact hMx))))
  clear hM
  intro wst hM
  (try simp only [World.size_alloc, World.size_setCell, World.heap_drewN, heapDrew, Nat.add_assoc, Nat.reduceAdd, List.setIfInBounds_toArray, List.set_cons_zero, List.set_cons_succ, List.cons_append, List.nil_append] at hM)
  (first | refine (specFewest_any W H a1 xs.length c1 xs a2 n2 c2 ss a3 n3 c3 ts _ (hM.intsR (.there .here)) (hM.intsR (.there (.there .here))) (hM.intsR (.there (.there (.there .here))))).mono ?_)
  rw [HQ0.out]
  rintro e wc4 ⟨rfl, hb⟩
  replace hM := hM.ext hb
  clear hb
  dsimp only
  obtain ⟨k0, f0, l0⟩ := hM.row .here
  go_wp2_with fail
  clear k0 f0 l0
  apply Mem.atA
  · (repeat' (first | with_reducible exact hM | with_reducible exact hMp | with_reducible apply Mem.drew | with_reducible apply Mem.drewN | with_reducible apply Mem.alloc | with_reducible apply Mem.set | with_reducible exact Sto.row | ((with_reducible refine Sto.rowEq2 ?_ ?_); omega; rfl) | ((with_reducible refine Sto.rowEq ?_); omega) | with_reducible apply Sto.int | with_reducible apply Sto.there | with_reducible assumption | (unfold I64; omega) | (with_reducible (have hMx := Mem.undrew hM; exact hMx)) | (with_reducible (have hMx := Mem.undrew hMp; exact hMx))))
  clear hM
  intro wst hM
  (try simp only [World.size_alloc, World.size_setCell, World.heap_drewN, heapDrew, Nat.add_assoc, Nat.reduceAdd, List.setIfInBounds_toArray, List.set_cons_zero, List.set_cons_succ, List.cons_append, List.nil_append] at hM)
  (first | refine (implWays_any W H a1 xs.length c1 xs a2 n2 c2 ss a3 n3 c3 ts _ (hM.intsR (.there .here)) (hM.intsR (.there (.there .here))) (hM.intsR (.there (.there (.there .here))))).mono ?_)
  rw [HQ0.out]
  rintro e wc5 ⟨rfl, hb⟩
  replace hM := hM.ext hb
  clear hb
  dsimp only
  obtain ⟨k0, f0, l0⟩ := hM.row .here
  go_wp2_with fail
  clear k0 f0 l0
  apply Mem.atA
  · (repeat' (first | with_reducible exact hM | with_reducible exact hMp | with_reducible apply Mem.drew | with_reducible apply Mem.drewN | with_reducible apply Mem.alloc | with_reducible apply Mem.set | with_reducible exact Sto.row | ((with_reducible refine Sto.rowEq2 ?_ ?_); omega; rfl) | ((with_reducible refine Sto.rowEq ?_); omega) | with_reducible apply Sto.int | with_reducible apply Sto.there | with_reducible assumption | (unfold I64; omega) | (with_reducible (have hMx := Mem.undrew hM; exact hMx)) | (with_reducible (have hMx := Mem.undrew hMp; exact hMx))))
  clear hM
  intro wst hM
  (try simp only [World.size_alloc, World.size_setCell, World.heap_drewN, heapDrew, Nat.add_assoc, Nat.reduceAdd, List.setIfInBounds_toArray, List.set_cons_zero, List.set_cons_succ, List.cons_append, List.nil_append] at hM)
  (first | refine (specWays_any W H a1 xs.length c1 xs a2 n2 c2 ss a3 n3 c3 ts _ (hM.intsR (.there .here)) (hM.intsR (.there (.there .here))) (hM.intsR (.there (.there (.there .here))))).mono ?_)
  rw [HQ0.out]
  rintro e wc6 ⟨rfl, hb⟩
  replace hM := hM.ext hb
  clear hb
  dsimp only
  obtain ⟨k0, f0, l0⟩ := hM.row .here
  go_wp2_with fail
  clear k0 f0 l0
  apply Mem.atA
  · (repeat' (first | with_reducible exact hM | with_reducible exact hMp | with_reducible apply Mem.drew | with_reducible apply Mem.drewN | with_reducible apply Mem.alloc | with_reducible apply Mem.set | with_reducible exact Sto.row | ((with_reducible refine Sto.rowEq2 ?_ ?_); omega; rfl) | ((with_reducible refine Sto.rowEq ?_); omega) | with_reducible apply Sto.int | with_reducible apply Sto.there | with_reducible assumption | (unfold I64; omega) | (with_reducible (have hMx := Mem.undrew hM; exact hMx)) | (with_reducible (have hMx := Mem.undrew hMp; exact hMx))))
  clear hM
  intro wst hM
  (try simp only [World.size_alloc, World.size_setCell, World.heap_drewN, heapDrew, Nat.add_assoc, Nat.reduceAdd, List.setIfInBounds_toArray, List.set_cons_zero, List.set_cons_succ, List.cons_append, List.nil_append] at hM)
  (first | refine (implBest_any W H a1 xs.length c1 xs a2 n2 c2 ss a3 n3 c3 ts _ (hM.intsR (.there .here)) (hM.intsR (.there (.there .here))) (hM.intsR (.there (.there (.there .here))))).mono ?_)
  rw [HQ1.out]
  rintro e wc7 ⟨a4, n4, c4, rfl, hm⟩
  replace hM := hM.join hm
  clear hm
  (try simp only [World.size_alloc, World.size_setCell, World.heap_drewN, heapDrew, Nat.add_assoc, Nat.reduceAdd, List.setIfInBounds_toArray, List.set_cons_zero, List.set_cons_succ, List.cons_append, List.nil_append] at hM)
  dsimp only at hM ⊢
  obtain ⟨k1, f1, l1⟩ := hM.row (.there .here)
  go_wp2_with fail
  clear k1 f1 l1
  apply Mem.atA
  · (repeat' (first | with_reducible exact hM | with_reducible exact hMp | with_reducible apply Mem.drew | with_reducible apply Mem.drewN | with_reducible apply Mem.alloc | with_reducible apply Mem.set | with_reducible exact Sto.row | ((with_reducible refine Sto.rowEq2 ?_ ?_); omega; rfl) | ((with_reducible refine Sto.rowEq ?_); omega) | with_reducible apply Sto.int | with_reducible apply Sto.there | with_reducible assumption | (unfold I64; omega) | (with_reducible (have hMx := Mem.undrew hM; exact hMx)) | (with_reducible (have hMx := Mem.undrew hMp; exact hMx))))
  clear hM
  intro wst hM
  (try simp only [World.size_alloc, World.size_setCell, World.heap_drewN, heapDrew, Nat.add_assoc, Nat.reduceAdd, List.setIfInBounds_toArray, List.set_cons_zero, List.set_cons_succ, List.cons_append, List.nil_append] at hM)
  (first | refine (specBest_any W H a1 xs.length c1 xs a2 n2 c2 ss a3 n3 c3 ts _ (hM.intsR (.there (.there .here))) (hM.intsR (.there (.there (.there .here)))) (hM.intsR (.there (.there (.there (.there .here)))))).mono ?_)
  rw [HQ1.out]
  rintro e wc8 ⟨a5, n5, c5, rfl, hm⟩
  replace hM := hM.join hm
  clear hm
  (try simp only [World.size_alloc, World.size_setCell, World.heap_drewN, heapDrew, Nat.add_assoc, Nat.reduceAdd, List.setIfInBounds_toArray, List.set_cons_zero, List.set_cons_succ, List.cons_append, List.nil_append] at hM)
  dsimp only at hM ⊢
  go_upto_region 14 with fail
  apply Mem.atWpA
  · (repeat' (first | with_reducible exact hM | with_reducible exact hMp | with_reducible apply Mem.drew | with_reducible apply Mem.drewN | with_reducible apply Mem.alloc | with_reducible apply Mem.set | with_reducible exact Sto.row | ((with_reducible refine Sto.rowEq2 ?_ ?_); omega; rfl) | ((with_reducible refine Sto.rowEq ?_); omega) | with_reducible apply Sto.int | with_reducible apply Sto.there | with_reducible assumption | (unfold I64; omega) | (with_reducible (have hMx := Mem.undrew hM; exact hMx)) | (with_reducible (have hMx := Mem.undrew hMp; exact hMx))))
  clear hM
  intro wst hM
  (try simp only [World.size_alloc, World.size_setCell, World.heap_drewN, heapDrew, Nat.add_assoc, Nat.reduceAdd, List.setIfInBounds_toArray, List.set_cons_zero, List.set_cons_succ, List.cons_append, List.nil_append] at hM)
  go_cut [121] (fun s wx => s = .bool false ∧ Mem w.heap.size w wx [intE a4 n4 c4 best, rowE w1.heap.size 26 #[.int .i64 W, .int .i64 H, .slice a1 xs.length c1], intE a1 xs.length c1 xs, intE a2 n2 c2 ss, intE a3 n3 c3 ts])
  case first =>
    as_aux_lemma =>
      go_wp2_with fail
      apply Mem.atA
      · (repeat' (first | with_reducible exact hM | with_reducible exact hMp | with_reducible apply Mem.drew | with_reducible apply Mem.drewN | with_reducible apply Mem.alloc | with_reducible apply Mem.set | with_reducible exact Sto.row | ((with_reducible refine Sto.rowEq2 ?_ ?_); omega; rfl) | ((with_reducible refine Sto.rowEq ?_); omega) | with_reducible apply Sto.int | with_reducible apply Sto.there | with_reducible assumption | (unfold I64; omega) | (with_reducible (have hMx := Mem.undrew hM; exact hMx)) | (with_reducible (have hMx := Mem.undrew hMp; exact hMx))))
      clear hM
      intro wst hM
      (try simp only [World.size_alloc, World.size_setCell, World.heap_drewN, heapDrew, Nat.add_assoc, Nat.reduceAdd, List.setIfInBounds_toArray, List.set_cons_zero, List.set_cons_succ, List.cons_append, List.nil_append] at hM)
      (first | refine (vInts_same _ _ _ best _ _ _ _ (hM.intsR (.there .here)) (hM.intsR .here)).mono ?_)
      rintro e wc9 ⟨rfl, hb⟩
      replace hM := hM.ext hb
      clear hb
      cases ok
      · have HE := Lib.hid (show (fine != false) = false by rw [HFI.out]; rfl)
        have he := HE.out
        go_wp2_with fail
        go_meet
        exact ⟨by rw [HFI.out]; rfl, hM.tail⟩
      · by_cases h3 : v ≤ 3
        · have he : (fine != true) = false := by rw [HFI.out, decide_eq_true h3]; rfl
          have h3d : decide (v ≤ 3) = true := decide_eq_true h3
          go_wp2_with fail
          go_meet
          exact ⟨by rw [HFI.out, h3d]; rfl, hM.tail⟩
        · have he : (fine != false) = false := by rw [HFI.out, decide_eq_false h3]; rfl
          have h3d : decide (v ≤ 3) = false := decide_eq_false h3
          go_wp2_with fail
          go_meet
          exact ⟨by rw [HFI.out, h3d]; rfl, hM.tail⟩
  case rest =>
    as_aux_lemma =>
      clear hM
      obtain ⟨rfl, hM⟩ := hcut
      go_upto_if 122 with fail
      go_cut [] (fun wx => Mem w.heap.size w wx [rowE w1.heap.size 26 #[.int .i64 W, .int .i64 H, .slice a1 xs.length c1], intE a1 xs.length c1 xs, intE a2 n2 c2 ss, intE a3 n3 c3 ts])
      case first =>
        as_aux_lemma =>
          cases fine
          · go_wp2_with fail
            go_meet
            exact hM.tail
          obtain ⟨h1, h2, h3⟩ := best_ok HQ0.out HQ1.out
          have hl4 := (hM.ints .here).len
          obtain rfl : v = (n4 : Int) := by rw [← h3, hl4]
          have HL := Lib.hid h1; have HT := Lib.hid h2
          clear h1 h2 h3 hl4
          have hnn : ((n4 : Int) != (n4 : Int)) = false := by simp
          obtain ⟨k1, f1, l1⟩ := hM.row (.there .here)
          go_wp2_with fail
          clear k1 f1 l1
          apply Mem.atA
          · (repeat' (first | with_reducible exact hM | with_reducible exact hMp | with_reducible apply Mem.drew | with_reducible apply Mem.drewN | with_reducible apply Mem.alloc | with_reducible apply Mem.set | with_reducible exact Sto.row | ((with_reducible refine Sto.rowEq2 ?_ ?_); omega; rfl) | ((with_reducible refine Sto.rowEq ?_); omega) | with_reducible apply Sto.int | with_reducible apply Sto.there | with_reducible assumption | (unfold I64; omega) | (with_reducible (have hMx := Mem.undrew hM; exact hMx)) | (with_reducible (have hMx := Mem.undrew hMp; exact hMx))))
          clear hM
          intro wst hM
          (try simp only [World.size_alloc, World.size_setCell, World.heap_drewN, heapDrew, Nat.add_assoc, Nat.reduceAdd, List.setIfInBounds_toArray, List.set_cons_zero, List.set_cons_succ, List.cons_append, List.nil_append] at hM)
          (first | refine (implIsLine_any W H a1 xs.length c1 xs a2 n2 c2 ss a3 n3 c3 ts a4 n4 c4 best _ (hM.intsR (.there (.there .here))) (hM.intsR (.there (.there (.there .here)))) (hM.intsR (.there (.there (.there (.there .here))))) (hM.intsR .here)).mono ?_)
          rw [HL.out]
          rintro e wc10 ⟨rfl, hb⟩
          replace hM := hM.ext hb
          clear hb
          dsimp only
          obtain ⟨k1, f1, l1⟩ := hM.row (.there .here)
          go_wp2_with fail
          clear k1 f1 l1
          apply Mem.atA
          · (repeat' (first | with_reducible exact hM | with_reducible exact hMp | with_reducible apply Mem.drew | with_reducible apply Mem.drewN | with_reducible apply Mem.alloc | with_reducible apply Mem.set | with_reducible exact Sto.row | ((with_reducible refine Sto.rowEq2 ?_ ?_); omega; rfl) | ((with_reducible refine Sto.rowEq ?_); omega) | with_reducible apply Sto.int | with_reducible apply Sto.there | with_reducible assumption | (unfold I64; omega) | (with_reducible (have hMx := Mem.undrew hM; exact hMx)) | (with_reducible (have hMx := Mem.undrew hMp; exact hMx))))
          clear hM
          intro wst hM
          (try simp only [World.size_alloc, World.size_setCell, World.heap_drewN, heapDrew, Nat.add_assoc, Nat.reduceAdd, List.setIfInBounds_toArray, List.set_cons_zero, List.set_cons_succ, List.cons_append, List.nil_append] at hM)
          (first | refine (implTrim_any W H a1 xs.length c1 xs a2 n2 c2 ss a3 n3 c3 ts a4 n4 c4 best _ (hM.intsR (.there (.there .here))) (hM.intsR (.there (.there (.there .here)))) (hM.intsR (.there (.there (.there (.there .here))))) (hM.intsR .here)).mono ?_)
          rw [HT.out]
          rintro e wc11 ⟨a7, n7, c7, rfl, hm⟩
          replace hM := hM.join hm
          clear hm
          (try simp only [World.size_alloc, World.size_setCell, World.heap_drewN, heapDrew, Nat.add_assoc, Nat.reduceAdd, List.setIfInBounds_toArray, List.set_cons_zero, List.set_cons_succ, List.cons_append, List.nil_append] at hM)
          dsimp only at hM ⊢
          go_wp2_with fail
          apply Mem.atA
          · (repeat' (first | with_reducible exact hM | with_reducible exact hMp | with_reducible apply Mem.drew | with_reducible apply Mem.drewN | with_reducible apply Mem.alloc | with_reducible apply Mem.set | with_reducible exact Sto.row | ((with_reducible refine Sto.rowEq2 ?_ ?_); omega; rfl) | ((with_reducible refine Sto.rowEq ?_); omega) | with_reducible apply Sto.int | with_reducible apply Sto.there | with_reducible assumption | (unfold I64; omega) | (with_reducible (have hMx := Mem.undrew hM; exact hMx)) | (with_reducible (have hMx := Mem.undrew hMp; exact hMx))))
          clear hM
          intro wst hM
          (try simp only [World.size_alloc, World.size_setCell, World.heap_drewN, heapDrew, Nat.add_assoc, Nat.reduceAdd, List.setIfInBounds_toArray, List.set_cons_zero, List.set_cons_succ, List.cons_append, List.nil_append] at hM)
          (first | refine (vInts_same _ _ _ best _ _ _ _ (hM.intsR .here) (hM.intsR (.there .here))).mono ?_)
          rintro e wc12 ⟨rfl, hb⟩
          replace hM := hM.ext hb
          clear hb
          go_wp2_with fail
          go_meet
          exact hM.tail.tail
      case rest =>
        as_aux_lemma =>
          clear hM
          have hM := hcut
          clear hcut
          obtain ⟨k0, f0, l0⟩ := hM.row .here
          go_wp2_with fail
          clear k0 f0 l0
          apply Mem.atA
          · (repeat' (first | with_reducible exact hM | with_reducible exact hMp | with_reducible apply Mem.drew | with_reducible apply Mem.drewN | with_reducible apply Mem.alloc | with_reducible apply Mem.set | with_reducible exact Sto.row | ((with_reducible refine Sto.rowEq2 ?_ ?_); omega; rfl) | ((with_reducible refine Sto.rowEq ?_); omega) | with_reducible apply Sto.int | with_reducible apply Sto.there | with_reducible assumption | (unfold I64; omega) | (with_reducible (have hMx := Mem.undrew hM; exact hMx)) | (with_reducible (have hMx := Mem.undrew hMp; exact hMx))))
          clear hM
          intro wst hM
          (try simp only [World.size_alloc, World.size_setCell, World.heap_drewN, heapDrew, Nat.add_assoc, Nat.reduceAdd, List.setIfInBounds_toArray, List.set_cons_zero, List.set_cons_succ, List.cons_append, List.nil_append] at hM)
          (first | refine (implNearest_any W H a1 xs.length c1 xs a2 n2 c2 ss a3 n3 c3 ts _ (hM.intsR (.there .here)) (hM.intsR (.there (.there .here))) (hM.intsR (.there (.there (.there .here))))).mono ?_)
          rw [HQ2.out]
          rintro e wc13 ⟨a4, n4, c4, rfl, hm⟩
          replace hM := hM.join hm
          clear hm
          (try simp only [World.size_alloc, World.size_setCell, World.heap_drewN, heapDrew, Nat.add_assoc, Nat.reduceAdd, List.setIfInBounds_toArray, List.set_cons_zero, List.set_cons_succ, List.cons_append, List.nil_append] at hM)
          dsimp only at hM ⊢
          obtain ⟨k1, f1, l1⟩ := hM.row (.there .here)
          go_wp2_with fail
          clear k1 f1 l1
          apply Mem.atA
          · (repeat' (first | with_reducible exact hM | with_reducible exact hMp | with_reducible apply Mem.drew | with_reducible apply Mem.drewN | with_reducible apply Mem.alloc | with_reducible apply Mem.set | with_reducible exact Sto.row | ((with_reducible refine Sto.rowEq2 ?_ ?_); omega; rfl) | ((with_reducible refine Sto.rowEq ?_); omega) | with_reducible apply Sto.int | with_reducible apply Sto.there | with_reducible assumption | (unfold I64; omega) | (with_reducible (have hMx := Mem.undrew hM; exact hMx)) | (with_reducible (have hMx := Mem.undrew hMp; exact hMx))))
          clear hM
          intro wst hM
          (try simp only [World.size_alloc, World.size_setCell, World.heap_drewN, heapDrew, Nat.add_assoc, Nat.reduceAdd, List.setIfInBounds_toArray, List.set_cons_zero, List.set_cons_succ, List.cons_append, List.nil_append] at hM)
          (first | refine (specNearest_any W H a1 xs.length c1 xs a2 n2 c2 ss a3 n3 c3 ts _ (hM.intsR (.there (.there .here))) (hM.intsR (.there (.there (.there .here)))) (hM.intsR (.there (.there (.there (.there .here)))))).mono ?_)
          rw [HQ2.out]
          rintro e wc14 ⟨a5, n5, c5, rfl, hm⟩
          replace hM := hM.join hm
          clear hm
          (try simp only [World.size_alloc, World.size_setCell, World.heap_drewN, heapDrew, Nat.add_assoc, Nat.reduceAdd, List.setIfInBounds_toArray, List.set_cons_zero, List.set_cons_succ, List.cons_append, List.nil_append] at hM)
          dsimp only at hM ⊢
          go_wp2_with fail
          apply Mem.atA
          · (repeat' (first | with_reducible exact hM | with_reducible exact hMp | with_reducible apply Mem.drew | with_reducible apply Mem.drewN | with_reducible apply Mem.alloc | with_reducible apply Mem.set | with_reducible exact Sto.row | ((with_reducible refine Sto.rowEq2 ?_ ?_); omega; rfl) | ((with_reducible refine Sto.rowEq ?_); omega) | with_reducible apply Sto.int | with_reducible apply Sto.there | with_reducible assumption | (unfold I64; omega) | (with_reducible (have hMx := Mem.undrew hM; exact hMx)) | (with_reducible (have hMx := Mem.undrew hMp; exact hMx))))
          clear hM
          intro wst hM
          (try simp only [World.size_alloc, World.size_setCell, World.heap_drewN, heapDrew, Nat.add_assoc, Nat.reduceAdd, List.setIfInBounds_toArray, List.set_cons_zero, List.set_cons_succ, List.cons_append, List.nil_append] at hM)
          (first | refine (vInts_same _ _ _ near _ _ _ _ (hM.intsR (.there .here)) (hM.intsR .here)).mono ?_)
          rintro e wc15 ⟨rfl, hb⟩
          replace hM := hM.ext hb
          clear hb
          replace hM := hM.tail
          cases known
          · go_wp2
            go_ret
            exact ⟨rfl, (by apply Mem.below; (repeat' (first | with_reducible exact hM | with_reducible exact hMp | with_reducible apply Mem.drew | with_reducible apply Mem.drewN | with_reducible apply Mem.alloc | with_reducible apply Mem.set | with_reducible exact Sto.row | ((with_reducible refine Sto.rowEq2 ?_ ?_); omega; rfl) | ((with_reducible refine Sto.rowEq ?_); omega) | with_reducible apply Sto.int | with_reducible apply Sto.there | with_reducible assumption | (unfold I64; omega) | (with_reducible (have hMx := Mem.undrew hM; exact hMx)) | (with_reducible (have hMx := Mem.undrew hMp; exact hMx)))))⟩
          obtain ⟨h1, h2, h3⟩ := near_ok HQ0.out HQ2.out
          have hl4 := (hM.ints .here).len
          rw [hl4] at h3
          have HL := Lib.hid h1
          subst h2
          clear h1 hl4
          obtain ⟨k1, f1, l1⟩ := hM.row (.there .here)
          go_wp2_with fail
          clear k1 f1 l1
          apply Mem.atA
          · (repeat' (first | with_reducible exact hM | with_reducible exact hMp | with_reducible apply Mem.drew | with_reducible apply Mem.drewN | with_reducible apply Mem.alloc | with_reducible apply Mem.set | with_reducible exact Sto.row | ((with_reducible refine Sto.rowEq2 ?_ ?_); omega; rfl) | ((with_reducible refine Sto.rowEq ?_); omega) | with_reducible apply Sto.int | with_reducible apply Sto.there | with_reducible assumption | (unfold I64; omega) | (with_reducible (have hMx := Mem.undrew hM; exact hMx)) | (with_reducible (have hMx := Mem.undrew hMp; exact hMx))))
          clear hM
          intro wst hM
          (try simp only [World.size_alloc, World.size_setCell, World.heap_drewN, heapDrew, Nat.add_assoc, Nat.reduceAdd, List.setIfInBounds_toArray, List.set_cons_zero, List.set_cons_succ, List.cons_append, List.nil_append] at hM)
          (first | refine (implIsLine_any W H a1 xs.length c1 xs a2 n2 c2 ss a3 n3 c3 ts a4 n4 c4 near _ (hM.intsR (.there (.there .here))) (hM.intsR (.there (.there (.there .here)))) (hM.intsR (.there (.there (.there (.there .here))))) (hM.intsR .here)).mono ?_)
          rw [HL.out]
          rintro e wc16 ⟨rfl, hb⟩
          replace hM := hM.ext hb
          clear hb
          dsimp only
          have h3d : decide ((n4 : Int) ≥ v) = true := decide_eq_true h3
          go_wp2
          go_ret
          exact ⟨rfl, (by apply Mem.below; (repeat' (first | with_reducible exact hM | with_reducible exact hMp | with_reducible apply Mem.drew | with_reducible apply Mem.drewN | with_reducible apply Mem.alloc | with_reducible apply Mem.set | with_reducible exact Sto.row | ((with_reducible refine Sto.rowEq2 ?_ ?_); omega; rfl) | ((with_reducible refine Sto.rowEq ?_); omega) | with_reducible apply Sto.int | with_reducible apply Sto.there | with_reducible assumption | (unfold I64; omega) | (with_reducible (have hMx := Mem.undrew hM; exact hMx)) | (with_reducible (have hMx := Mem.undrew hMp; exact hMx)))))⟩
end Go.Proofs.Ytbgegmignhghnaa

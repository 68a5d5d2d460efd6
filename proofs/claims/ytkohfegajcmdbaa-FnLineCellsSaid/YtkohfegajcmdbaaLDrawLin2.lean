/-
  The reference's draws of the laws on lines, whole.
-/
import Derived.Test.YtkohfegajcmdbaaLDrawLin
/-
  The reference's draws of the laws on lines, whole.
-/
namespace Go.Proofs.Ytkohfegajcmdbaa
set_option linter.unusedSimpArgs false
set_option linter.unusedVariables false
open Go.RowKit

theorem best_len {W H : Int} {xs ss ts : List Int} : (bestR W H xs ss ts).l.length ≤ 3 := by
  unfold bestR
  split
  · rename_i h
    rw [Bool.and_eq_true, decide_eq_true_eq] at h
    dsimp only
    obtain ⟨o, ho⟩ : ∃ o, extL W.toNat xs.length xs ss ts (fewV W.toNat xs.length xs ss ts).toNat [] 0 = o := ⟨_, rfl⟩
    rw [ho]
    cases o with
    | none => simp
    | some r =>
      have := (extL_line _ [] r (setB_iff.2 ⟨List.Pairwise.nil, by simp⟩) ho).2.1
      simp only [Option.getD_some, List.length_nil] at this ⊢
      omega
  · simp
set_option maxRecDepth 100000 in
set_option maxHeartbeats 8000000 in
theorem drawLin_trim {ac : Option Addr} {nc cc : Nat} {l : List UInt8} {w : World} (hC : Rd FByt w ac nc cc l) :
    Calls Try.prog 52 #[.slice ac nc cc] w fun e w' => ∃ (W H : Int) (a1 : Option Addr) (c1 : Nat) (xs : List Int) (a2 : Option Addr) (n2 c2 : Nat) (ss : List Int) (a3 : Option Addr) (n3 c3 : Nat) (ts : List Int) (a4 : Option Addr) (n4 c4 : Nat) (ls : List Int), okT W H xs ∧ e = .returned (.tuple #[.agg #[.int .i64 W, .int .i64 H, .slice a1 xs.length c1], .slice a2 n2 c2, .slice a3 n3 c3, .slice a4 n4 c4]) ∧ Mem w.heap.size w w' [intE a1 xs.length c1 xs, intE a2 n2 c2 ss, intE a3 n3 c3 ts, intE a4 n4 c4 ls] := by
  have hM := Mem.start w
  have HC := Lib.hid hC
  clear hC
  go_enter Try.func52, Try.ntmps52
  go_wp2_with fail
  apply Mem.atA
  · (repeat' (first | with_reducible exact hM | with_reducible exact hMp | with_reducible apply Mem.drew | with_reducible apply Mem.drewN | with_reducible apply Mem.alloc | with_reducible apply Mem.set | with_reducible exact Sto.row | ((with_reducible refine Sto.rowEq2 ?_ ?_); omega; rfl) | ((with_reducible refine Sto.rowEq ?_); omega) | with_reducible apply Sto.int | with_reducible apply Sto.there | with_reducible assumption | (unfold I64; omega) | (with_reducible (have hMx := Mem.undrew hM; exact hMx)) | (with_reducible (have hMx := Mem.undrew hMp; exact hMx))))
  clear hM
  intro wst hM
  (try simp only [World.size_alloc, World.size_setCell, World.heap_drewN, heapDrew, Nat.add_assoc, Nat.reduceAdd, List.setIfInBounds_toArray, List.set_cons_zero, List.set_cons_succ, List.cons_append, List.nil_append] at hM)
  (first | refine (threat_any HC.out hM.curNew .here (by omega)).mono ?_)
  rintro e wc1 ⟨W, H, a1, c1, xs, a2, n2, c2, ss, a3, n3, c3, ts, hS, rfl, hm⟩
  clear hM
  have hM := hm
  clear hm
  try dsimp only at hM
  have hl := hS.2.2.1
  have HS := Lib.hid hS; clear hS
  go_wp2_with fail
  apply Mem.atWpA
  · (repeat' (first | with_reducible exact hM | with_reducible exact hMp | with_reducible apply Mem.drew | with_reducible apply Mem.drewN | with_reducible apply Mem.alloc | with_reducible apply Mem.set | with_reducible exact Sto.row | ((with_reducible refine Sto.rowEq2 ?_ ?_); omega; rfl) | ((with_reducible refine Sto.rowEq ?_); omega) | with_reducible apply Sto.int | with_reducible apply Sto.there | with_reducible assumption | (unfold I64; omega) | (with_reducible (have hMx := Mem.undrew hM; exact hMx)) | (with_reducible (have hMx := Mem.undrew hMp; exact hMx))))
  clear hM
  intro wst hM
  (try simp only [World.size_alloc, World.size_setCell, World.heap_drewN, heapDrew, Nat.add_assoc, Nat.reduceAdd, List.setIfInBounds_toArray, List.set_cons_zero, List.set_cons_succ, List.cons_append, List.nil_append] at hM)
  replace hM := hM.toInts (xs := []) .here rfl (by simp) (by simp)
  go_loopw [10, 11] (fun s10 s11 wr => ∃ (j : Nat) (a4 : Option Addr) (m c4 : Nat) (ls : List Int), j ≤ xs.length ∧ m ≤ j ∧ s11 = .int .i64 j ∧ s10 = .slice a4 m c4 ∧ Mem w.heap.size w wr [intE a4 m c4 ls, rowE wc1.heap.size 26 #[.int .i64 W, .int .i64 H, .slice a1 xs.length c1], intE a1 xs.length c1 xs, intE a2 n2 c2 ss, intE a3 n3 c3 ts, curE (w.heap.size + 1) ac nc cc (400 + 2 * j), rowE w.heap.size 26 #[.int .i64 0, .int .i64 0, .slice none 0 0]]) (fun _ s11 _ => xs.length - (intOf s11).toNat)
  case atStart => exact ⟨0, _, 0, _, [], Nat.zero_le _, Nat.zero_le _, rfl, rfl, hM.curMore (.there (.there (.there (.there (.there .here))))) (by omega)⟩
  case round =>
    clear hM
    obtain ⟨j, a4, m, c4, ls, hj, hm, rfl, rfl, hM⟩ := hrel
    by_cases hlt : j < xs.length
    rotate_left
    · obtain rfl : j = xs.length := by omega
      obtain ⟨k1, f1, l1⟩ := hM.row (.there .here)
      go_upto_region 9 with fail
      clear k1 f1 l1
      apply Mem.atWpA
      · (repeat' (first | with_reducible exact hM | with_reducible exact hMp | with_reducible apply Mem.drew | with_reducible apply Mem.drewN | with_reducible apply Mem.alloc | with_reducible apply Mem.set | with_reducible exact Sto.row | ((with_reducible refine Sto.rowEq2 ?_ ?_); omega; rfl) | ((with_reducible refine Sto.rowEq ?_); omega) | with_reducible apply Sto.int | with_reducible apply Sto.there | with_reducible assumption | (unfold I64; omega) | (with_reducible (have hMx := Mem.undrew hM; exact hMx)) | (with_reducible (have hMx := Mem.undrew hMp; exact hMx))))
      clear hM
      intro wst hM
      (try simp only [World.size_alloc, World.size_setCell, World.heap_drewN, heapDrew, Nat.add_assoc, Nat.reduceAdd, List.setIfInBounds_toArray, List.set_cons_zero, List.set_cons_succ, List.cons_append, List.nil_append] at hM)
      replace hM := hM.pick (is := [6, 2, 3, 4, 0, 1]) (by decide) rfl
      dsimp only [List.filterMap_cons, List.filterMap_nil, List.getElem?_cons_zero, List.getElem?_cons_succ] at hM
      obtain ⟨k0, f0, l0⟩ := hM.row .here
      obtain ⟨k5, f5, l5⟩ := hM.row (.there (.there (.there (.there (.there .here)))))
      go_wp2
      refine bodyPost_ret (v := .tuple #[.agg #[.int .i64 W, .int .i64 H, .slice a1 xs.length c1], .slice a2 n2 c2, .slice a3 n3 c3, .slice a4 m c4]) (by simp [results, Try.results52, go_sem, k0, k5]) rfl ⟨W, H, a1, c1, xs, a2, n2, c2, ss, a3, n3, c3, ts, a4, m, c4, ls, HS.out, rfl, ?_⟩
      apply Mem.pick (is := [1, 2, 3, 4])
      · (repeat' (first | with_reducible exact hM | with_reducible exact hMp | with_reducible apply Mem.drew | with_reducible apply Mem.drewN | with_reducible apply Mem.alloc | with_reducible apply Mem.set | with_reducible exact Sto.row | ((with_reducible refine Sto.rowEq2 ?_ ?_); omega; rfl) | ((with_reducible refine Sto.rowEq ?_); omega) | with_reducible apply Sto.int | with_reducible apply Sto.there | with_reducible assumption | (unfold I64; omega) | (with_reducible (have hMx := Mem.undrew hM; exact hMx)) | (with_reducible (have hMx := Mem.undrew hMp; exact hMx))))
      · decide
      · rfl
    obtain ⟨g1, rfl, -⟩ := (hM.ints (.there (.there .here))).head (by omega)
    have hce := (hM.ints (.there (.there .here))).cellAt hlt
    have hlg := (hM.ints (.there (.there .here))).till _ ⟨_, rfl, rfl⟩
    obtain ⟨v, hv⟩ : ∃ v, xs.getD j 0 = v := ⟨_, rfl⟩
    obtain ⟨q1, hq1⟩ : ∃ q, hasI ss (j : Int) = q := ⟨_, rfl⟩
    obtain ⟨q2, hq2⟩ : ∃ q, hasI ts (j : Int) = q := ⟨_, rfl⟩
    rw [hv] at hce
    have HQ1 := Lib.hid hq1; have HQ2 := Lib.hid hq2
    clear hv hq1 hq2
    have j0 : (0 : Int) ≤ (j : Int) := by omega
    have j1 : (j : Int) < (xs.length : Int) := by omega
    by_cases hv0 : 0 < v
    rotate_left
    · skip
      obtain ⟨k1, f1, l1⟩ := hM.row (.there .here)
      go_wp2
      go_roundw
      case rel => exact ⟨j + 1, a4, m, c4, ls, by omega, by omega, by go_num, rfl, hM.curMore (.there (.there (.there (.there (.there .here))))) (by omega)⟩
      case measure => simp [intOf]; omega
    obtain ⟨k1, f1, l1⟩ := hM.row (.there .here)
    go_wp2_with fail
    clear k1 f1 l1
    apply Mem.atA
    · (repeat' (first | with_reducible exact hM | with_reducible exact hMp | with_reducible apply Mem.drew | with_reducible apply Mem.drewN | with_reducible apply Mem.alloc | with_reducible apply Mem.set | with_reducible exact Sto.row | ((with_reducible refine Sto.rowEq2 ?_ ?_); omega; rfl) | ((with_reducible refine Sto.rowEq ?_); omega) | with_reducible apply Sto.int | with_reducible apply Sto.there | with_reducible assumption | (unfold I64; omega) | (with_reducible (have hMx := Mem.undrew hM; exact hMx)) | (with_reducible (have hMx := Mem.undrew hMp; exact hMx))))
    clear hM
    intro wst hM
    (try simp only [World.size_alloc, World.size_setCell, World.heap_drewN, heapDrew, Nat.add_assoc, Nat.reduceAdd, List.setIfInBounds_toArray, List.set_cons_zero, List.set_cons_succ, List.cons_append, List.nil_append] at hM)
    (first | refine (l1Has_any a2 n2 c2 ss (j : Int) _ (hM.intsR (.there (.there (.there .here))))).mono ?_)
    rw [HQ1.out]
    rintro e wc2 ⟨rfl, rfl⟩
    clear hce hlg
    cases q1
    rotate_left
    · go_wp2
      go_roundw
      case rel => exact ⟨j + 1, a4, m, c4, ls, by omega, by omega, by go_num, rfl, hM.curMore (.there (.there (.there (.there (.there .here))))) (by omega)⟩
      case measure => simp [intOf]; omega
    go_wp2_with fail
    apply Mem.atA
    · (repeat' (first | with_reducible exact hM | with_reducible exact hMp | with_reducible apply Mem.drew | with_reducible apply Mem.drewN | with_reducible apply Mem.alloc | with_reducible apply Mem.set | with_reducible exact Sto.row | ((with_reducible refine Sto.rowEq2 ?_ ?_); omega; rfl) | ((with_reducible refine Sto.rowEq ?_); omega) | with_reducible apply Sto.int | with_reducible apply Sto.there | with_reducible assumption | (unfold I64; omega) | (with_reducible (have hMx := Mem.undrew hM; exact hMx)) | (with_reducible (have hMx := Mem.undrew hMp; exact hMx))))
    clear hM
    intro wst hM
    (try simp only [World.size_alloc, World.size_setCell, World.heap_drewN, heapDrew, Nat.add_assoc, Nat.reduceAdd, List.setIfInBounds_toArray, List.set_cons_zero, List.set_cons_succ, List.cons_append, List.nil_append] at hM)
    (first | refine (l1Has_any a3 n3 c3 ts (j : Int) _ (hM.intsR (.there (.there (.there (.there .here)))))).mono ?_)
    rw [HQ2.out]
    rintro e wc3 ⟨rfl, rfl⟩
    cases q2
    rotate_left
    · go_wp2
      go_roundw
      case rel => exact ⟨j + 1, a4, m, c4, ls, by omega, by omega, by go_num, rfl, hM.curMore (.there (.there (.there (.there (.there .here))))) (by omega)⟩
      case measure => simp [intOf]; omega
    go_wp2_with fail
    apply Mem.atA
    · (repeat' (first | with_reducible exact hM | with_reducible exact hMp | with_reducible apply Mem.drew | with_reducible apply Mem.drewN | with_reducible apply Mem.alloc | with_reducible apply Mem.set | with_reducible exact Sto.row | ((with_reducible refine Sto.rowEq2 ?_ ?_); omega; rfl) | ((with_reducible refine Sto.rowEq ?_); omega) | with_reducible apply Sto.int | with_reducible apply Sto.there | with_reducible assumption | (unfold I64; omega) | (with_reducible (have hMx := Mem.undrew hM; exact hMx)) | (with_reducible (have hMx := Mem.undrew hMp; exact hMx))))
    clear hM
    intro wst hM
    (try simp only [World.size_alloc, World.size_setCell, World.heap_drewN, heapDrew, Nat.add_assoc, Nat.reduceAdd, List.setIfInBounds_toArray, List.set_cons_zero, List.set_cons_succ, List.cons_append, List.nil_append] at hM)
    (first | refine (one_any 6 HC.out hM (.there (.there (.there (.there (.there .here))))) (by omega)).mono ?_)
    rintro e wc4 ⟨b, rfl, hm⟩
    clear hM
    have hM := hm
    clear hm
    try dsimp only at hM
    cases b
    rotate_left
    · go_wp2
      go_roundw
      case rel => exact ⟨j + 1, a4, m, c4, ls, by omega, by omega, by go_num, rfl, hM.curMore (.there (.there (.there (.there (.there .here))))) (by omega)⟩
      case measure => simp [intOf]; omega
    go_wp2_with (at_builtin; apply Mem.atL; (focus ((repeat' (first | with_reducible exact hM | with_reducible exact hMp | with_reducible apply Mem.drew | with_reducible apply Mem.drewN | with_reducible apply Mem.alloc | with_reducible apply Mem.set | with_reducible exact Sto.row | ((with_reducible refine Sto.rowEq2 ?_ ?_); omega; rfl) | ((with_reducible refine Sto.rowEq ?_); omega) | with_reducible apply Sto.int | with_reducible apply Sto.there | with_reducible assumption | (unfold I64; omega) | (with_reducible (have hMx := Mem.undrew hM; exact hMx)) | (with_reducible (have hMx := Mem.undrew hMp; exact hMx)))); done)); clear hM; intro hM; refine wpList_pushI hM (fun _ => .here) (by unfold I64; omega) (by omega) rfl _ _ _ Try.underlying24 rfl rfl rfl ?_)
    intro a6 c6 w6 hM
    go_wp2
    go_roundw
    case rel => exact ⟨j + 1, a6, m + 1, c6, _, by omega, by omega, by go_num, rfl, hM.curMore (.there (.there (.there (.there (.there .here))))) (by omega)⟩
    case measure => simp [intOf]; omega
set_option maxRecDepth 100000 in
set_option maxHeartbeats 8000000 in
theorem drawLin_is {ac : Option Addr} {nc cc : Nat} {l : List UInt8} {w : World} (hC : Rd FByt w ac nc cc l) :
    Calls Try.prog 56 #[.slice ac nc cc] w fun e w' => ∃ (W H : Int) (a1 : Option Addr) (c1 : Nat) (xs : List Int) (a2 : Option Addr) (n2 c2 : Nat) (ss : List Int) (a3 : Option Addr) (n3 c3 : Nat) (ts : List Int) (a4 : Option Addr) (n4 c4 : Nat) (ls : List Int), okT W H xs ∧ e = .returned (.tuple #[.agg #[.int .i64 W, .int .i64 H, .slice a1 xs.length c1], .slice a2 n2 c2, .slice a3 n3 c3, .slice a4 n4 c4]) ∧ Mem w.heap.size w w' [intE a1 xs.length c1 xs, intE a2 n2 c2 ss, intE a3 n3 c3 ts, intE a4 n4 c4 ls] := by
  have hM := Mem.start w
  have HC := Lib.hid hC
  clear hC
  go_enter Try.func56, Try.ntmps56
  go_wp2_with fail
  apply Mem.atA
  · (repeat' (first | with_reducible exact hM | with_reducible exact hMp | with_reducible apply Mem.drew | with_reducible apply Mem.drewN | with_reducible apply Mem.alloc | with_reducible apply Mem.set | with_reducible exact Sto.row | ((with_reducible refine Sto.rowEq2 ?_ ?_); omega; rfl) | ((with_reducible refine Sto.rowEq ?_); omega) | with_reducible apply Sto.int | with_reducible apply Sto.there | with_reducible assumption | (unfold I64; omega) | (with_reducible (have hMx := Mem.undrew hM; exact hMx)) | (with_reducible (have hMx := Mem.undrew hMp; exact hMx))))
  clear hM
  intro wst hM
  (try simp only [World.size_alloc, World.size_setCell, World.heap_drewN, heapDrew, Nat.add_assoc, Nat.reduceAdd, List.setIfInBounds_toArray, List.set_cons_zero, List.set_cons_succ, List.cons_append, List.nil_append] at hM)
  (first | refine (threat_any HC.out hM.curNew .here (by omega)).mono ?_)
  rintro e wc1 ⟨W, H, a1, c1, xs, a2, n2, c2, ss, a3, n3, c3, ts, hS, rfl, hm⟩
  clear hM
  have hM := hm
  clear hm
  try dsimp only at hM
  have hl := hS.2.2.1
  have HS := Lib.hid hS; clear hS
  go_wp2_with fail
  apply Mem.atA
  · (repeat' (first | with_reducible exact hM | with_reducible exact hMp | with_reducible apply Mem.drew | with_reducible apply Mem.drewN | with_reducible apply Mem.alloc | with_reducible apply Mem.set | with_reducible exact Sto.row | ((with_reducible refine Sto.rowEq2 ?_ ?_); omega; rfl) | ((with_reducible refine Sto.rowEq ?_); omega) | with_reducible apply Sto.int | with_reducible apply Sto.there | with_reducible assumption | (unfold I64; omega) | (with_reducible (have hMx := Mem.undrew hM; exact hMx)) | (with_reducible (have hMx := Mem.undrew hMp; exact hMx))))
  clear hM
  intro wst hM
  (try simp only [World.size_alloc, World.size_setCell, World.heap_drewN, heapDrew, Nat.add_assoc, Nat.reduceAdd, List.setIfInBounds_toArray, List.set_cons_zero, List.set_cons_succ, List.cons_append, List.nil_append] at hM)
  (first | refine (cellsOf_any W H a1 xs.length c1 hl.2 HC.out hM (.there (.there (.there (.there .here)))) (by omega)).mono ?_)
  rintro e wc2 ⟨a4, c4, ls, hl4, hct, rfl, hm⟩
  clear hM
  have hM := hm
  clear hm
  try dsimp only at hM
  clear hct hl4
  obtain ⟨⟨bl, ok⟩, hq⟩ : ∃ r, bestR W H xs ss ts = r := ⟨_, rfl⟩
  have hbl := best_len (W := W) (H := H) (xs := xs) (ss := ss) (ts := ts)
  rw [hq] at hbl
  dsimp only at hbl
  have HQ := Lib.hid hq; clear hq
  obtain ⟨k1, f1, l1⟩ := hM.row (.there .here)
  go_wp2_with fail
  clear k1 f1 l1
  apply Mem.atA
  · (repeat' (first | with_reducible exact hM | with_reducible exact hMp | with_reducible apply Mem.drew | with_reducible apply Mem.drewN | with_reducible apply Mem.alloc | with_reducible apply Mem.set | with_reducible exact Sto.row | ((with_reducible refine Sto.rowEq2 ?_ ?_); omega; rfl) | ((with_reducible refine Sto.rowEq ?_); omega) | with_reducible apply Sto.int | with_reducible apply Sto.there | with_reducible assumption | (unfold I64; omega) | (with_reducible (have hMx := Mem.undrew hM; exact hMx)) | (with_reducible (have hMx := Mem.undrew hMp; exact hMx))))
  clear hM
  intro wst hM
  (try simp only [World.size_alloc, World.size_setCell, World.heap_drewN, heapDrew, Nat.add_assoc, Nat.reduceAdd, List.setIfInBounds_toArray, List.set_cons_zero, List.set_cons_succ, List.cons_append, List.nil_append] at hM)
  (first | refine (specBestG_any W H a1 xs.length c1 xs a2 n2 c2 ss a3 n3 c3 ts _ (hM.intsR (.there (.there .here))) (hM.intsR (.there (.there (.there .here)))) (hM.intsR (.there (.there (.there (.there .here)))))).mono ?_)
  rw [HQ.out]
  rintro e wc3 ⟨gb, m, cb, rfl, hm⟩
  replace hM := hM.join hm
  clear hm
  (try simp only [World.size_alloc, World.size_setCell, World.heap_drewN, heapDrew, Nat.add_assoc, Nat.reduceAdd, List.setIfInBounds_toArray, List.set_cons_zero, List.set_cons_succ, List.cons_append, List.nil_append] at hM)
  dsimp only at hM ⊢
  have hmm : m ≤ 3 := by rw [← (hM.ints .here).len]; exact hbl
  clear HQ hbl
  go_upto_region 5 with fail
  go_cut [36] (fun s36 wx => ∃ b : Bool, s36 = .bool b ∧ Mem w.heap.size w wx [intE (some ⟨gb, 0, none⟩) m cb bl, intE a4 ls.length c4 ls, rowE wc1.heap.size 26 #[.int .i64 W, .int .i64 H, .slice a1 xs.length c1], intE a1 xs.length c1 xs, intE a2 n2 c2 ss, intE a3 n3 c3 ts, curE (w.heap.size + 1) ac nc cc 400, rowE w.heap.size 26 #[.int .i64 0, .int .i64 0, .slice none 0 0]])
  case first =>
    cases ok
    · go_wp2_with fail
      go_meet
      exact ⟨false, rfl, hM.curMore (.there (.there (.there (.there (.there (.there .here)))))) (by omega)⟩
    · skip
      go_wp2_with fail
      apply Mem.atA
      · (repeat' (first | with_reducible exact hM | with_reducible exact hMp | with_reducible apply Mem.drew | with_reducible apply Mem.drewN | with_reducible apply Mem.alloc | with_reducible apply Mem.set | with_reducible exact Sto.row | ((with_reducible refine Sto.rowEq2 ?_ ?_); omega; rfl) | ((with_reducible refine Sto.rowEq ?_); omega) | with_reducible apply Sto.int | with_reducible apply Sto.there | with_reducible assumption | (unfold I64; omega) | (with_reducible (have hMx := Mem.undrew hM; exact hMx)) | (with_reducible (have hMx := Mem.undrew hMp; exact hMx))))
      clear hM
      intro wst hM
      (try simp only [World.size_alloc, World.size_setCell, World.heap_drewN, heapDrew, Nat.add_assoc, Nat.reduceAdd, List.setIfInBounds_toArray, List.set_cons_zero, List.set_cons_succ, List.cons_append, List.nil_append] at hM)
      (first | refine (one_any 2 HC.out hM (.there (.there (.there (.there (.there (.there .here)))))) (by omega)).mono ?_)
      rintro e wc8 ⟨b, rfl, hm⟩
      clear hM
      have hM := hm
      clear hm
      try dsimp only at hM
      go_wp2_with fail
      go_meet
      exact ⟨b, rfl, hM.curMore (.there (.there (.there (.there (.there (.there .here)))))) (by omega)⟩
  case rest =>
    clear hM
    obtain ⟨b, rfl, hM⟩ := hcut
    go_upto_if 36 with fail
    go_cut [10] (fun s10 wx => ∃ (a4 : Option Addr) (n4 c4 : Nat) (ls : List Int), s10 = .slice a4 n4 c4 ∧ Mem w.heap.size w wx [intE a4 n4 c4 ls, rowE wc1.heap.size 26 #[.int .i64 W, .int .i64 H, .slice a1 xs.length c1], intE a1 xs.length c1 xs, intE a2 n2 c2 ss, intE a3 n3 c3 ts, curE (w.heap.size + 1) ac nc cc 500, rowE w.heap.size 26 #[.int .i64 0, .int .i64 0, .slice none 0 0]])
    case first =>
      cases b
      · go_wp2_with fail
        go_meet
        exact ⟨a4, ls.length, c4, ls, rfl, hM.tail.curMore (.there (.there (.there (.there (.there .here))))) (by omega)⟩
      · skip
        go_wp2_with fail
        apply Mem.atA
        · (repeat' (first | with_reducible exact hM | with_reducible exact hMp | with_reducible apply Mem.drew | with_reducible apply Mem.drewN | with_reducible apply Mem.alloc | with_reducible apply Mem.set | with_reducible exact Sto.row | ((with_reducible refine Sto.rowEq2 ?_ ?_); omega; rfl) | ((with_reducible refine Sto.rowEq ?_); omega) | with_reducible apply Sto.int | with_reducible apply Sto.there | with_reducible assumption | (unfold I64; omega) | (with_reducible (have hMx := Mem.undrew hM; exact hMx)) | (with_reducible (have hMx := Mem.undrew hMp; exact hMx))))
        clear hM
        intro wst hM
        (try simp only [World.size_alloc, World.size_setCell, World.heap_drewN, heapDrew, Nat.add_assoc, Nat.reduceAdd, List.setIfInBounds_toArray, List.set_cons_zero, List.set_cons_succ, List.cons_append, List.nil_append] at hM)
        (first | refine (one_any 2 HC.out hM (.there (.there (.there (.there (.there (.there .here)))))) (by omega)).mono ?_)
        rintro e wc9 ⟨b, rfl, hm⟩
        clear hM
        have hM := hm
        clear hm
        try dsimp only at hM
        cases b
        · go_wp2_with fail
          go_meet
          refine ⟨some ⟨gb, 0, none⟩, m, cb, bl, rfl, ?_⟩
          apply Mem.curMore (hA := show 400 + 2 ≤ 500 by omega) (p := .there (.there (.there (.there (.there .here)))))
          apply Mem.pick (is := [0, 2, 3, 4, 5, 6, 7])
          · exact hM
          · decide
          · rfl
        · skip
          obtain ⟨k2, f2, l2⟩ := hM.row (.there (.there .here))
          go_wp2_with fail
          clear k2 f2 l2
          apply Mem.atA
          · (repeat' (first | with_reducible exact hM | with_reducible exact hMp | with_reducible apply Mem.drew | with_reducible apply Mem.drewN | with_reducible apply Mem.alloc | with_reducible apply Mem.set | with_reducible exact Sto.row | ((with_reducible refine Sto.rowEq2 ?_ ?_); omega; rfl) | ((with_reducible refine Sto.rowEq ?_); omega) | with_reducible apply Sto.int | with_reducible apply Sto.there | with_reducible assumption | (unfold I64; omega) | (with_reducible (have hMx := Mem.undrew hM; exact hMx)) | (with_reducible (have hMx := Mem.undrew hMp; exact hMx))))
          clear hM
          intro wst hM
          (try simp only [World.size_alloc, World.size_setCell, World.heap_drewN, heapDrew, Nat.add_assoc, Nat.reduceAdd, List.setIfInBounds_toArray, List.set_cons_zero, List.set_cons_succ, List.cons_append, List.nil_append] at hM)
          (first | refine (pick_any (xs.length : Int) HC.out hM (.there (.there (.there (.there (.there (.there .here)))))) (by omega)).mono ?_)
          rintro e wc10 ⟨r, hr, hr2, rfl, hm⟩
          clear hM
          have hM := hm
          clear hm
          try dsimp only at hM
          clear hr
          go_wp2_with fail
          apply Mem.atA
          · (repeat' (first | with_reducible exact hM | with_reducible exact hMp | with_reducible apply Mem.drew | with_reducible apply Mem.drewN | with_reducible apply Mem.alloc | with_reducible apply Mem.set | with_reducible exact Sto.row | ((with_reducible refine Sto.rowEq2 ?_ ?_); omega; rfl) | ((with_reducible refine Sto.rowEq ?_); omega) | with_reducible apply Sto.int | with_reducible apply Sto.there | with_reducible assumption | (unfold I64; omega) | (with_reducible (have hMx := Mem.undrew hM; exact hMx)) | (with_reducible (have hMx := Mem.undrew hMp; exact hMx))))
          clear hM
          intro wst hM
          (try simp only [World.size_alloc, World.size_setCell, World.heap_drewN, heapDrew, Nat.add_assoc, Nat.reduceAdd, List.setIfInBounds_toArray, List.set_cons_zero, List.set_cons_succ, List.cons_append, List.nil_append] at hM)
          (first | refine (putAny gb m cb bl r (by unfold I64; omega) (by omega) .here hM).mono ?_)
          rintro e wc11 ⟨g', n', c', ys, hn', rfl, hm⟩
          clear hM
          have hM := hm
          clear hm
          try dsimp only at hM
          go_wp2_with fail
          go_meet
          refine ⟨some ⟨g', 0, none⟩, n', c', ys, rfl, ?_⟩
          apply Mem.curMore (hA := show 400 + 2 + 2 ≤ 500 by omega) (p := .there (.there (.there (.there (.there .here)))))
          apply Mem.pick (is := [0, 2, 3, 4, 5, 6, 7])
          · exact hM
          · decide
          · rfl
    case rest =>
      clear hM
      obtain ⟨a4, n4, c4, ls, rfl, hM⟩ := hcut
      obtain ⟨k1, f1, l1⟩ := hM.row (.there .here)
      go_upto_region 9 with fail
      clear k1 f1 l1
      apply Mem.atWpA
      · (repeat' (first | with_reducible exact hM | with_reducible exact hMp | with_reducible apply Mem.drew | with_reducible apply Mem.drewN | with_reducible apply Mem.alloc | with_reducible apply Mem.set | with_reducible exact Sto.row | ((with_reducible refine Sto.rowEq2 ?_ ?_); omega; rfl) | ((with_reducible refine Sto.rowEq ?_); omega) | with_reducible apply Sto.int | with_reducible apply Sto.there | with_reducible assumption | (unfold I64; omega) | (with_reducible (have hMx := Mem.undrew hM; exact hMx)) | (with_reducible (have hMx := Mem.undrew hMp; exact hMx))))
      clear hM
      intro wst hM
      (try simp only [World.size_alloc, World.size_setCell, World.heap_drewN, heapDrew, Nat.add_assoc, Nat.reduceAdd, List.setIfInBounds_toArray, List.set_cons_zero, List.set_cons_succ, List.cons_append, List.nil_append] at hM)
      replace hM := hM.pick (is := [6, 2, 3, 4, 0, 1]) (by decide) rfl
      dsimp only [List.filterMap_cons, List.filterMap_nil, List.getElem?_cons_zero, List.getElem?_cons_succ] at hM
      obtain ⟨k0, f0, l0⟩ := hM.row .here
      obtain ⟨k5, f5, l5⟩ := hM.row (.there (.there (.there (.there (.there .here)))))
      go_wp2
      refine bodyPost_ret (v := .tuple #[.agg #[.int .i64 W, .int .i64 H, .slice a1 xs.length c1], .slice a2 n2 c2, .slice a3 n3 c3, .slice a4 n4 c4]) (by simp [results, Try.results56, go_sem, k0, k5]) rfl ⟨W, H, a1, c1, xs, a2, n2, c2, ss, a3, n3, c3, ts, a4, n4, c4, ls, HS.out, rfl, ?_⟩
      apply Mem.pick (is := [1, 2, 3, 4])
      · (repeat' (first | with_reducible exact hM | with_reducible exact hMp | with_reducible apply Mem.drew | with_reducible apply Mem.drewN | with_reducible apply Mem.alloc | with_reducible apply Mem.set | with_reducible exact Sto.row | ((with_reducible refine Sto.rowEq2 ?_ ?_); omega; rfl) | ((with_reducible refine Sto.rowEq ?_); omega) | with_reducible apply Sto.int | with_reducible apply Sto.there | with_reducible assumption | (unfold I64; omega) | (with_reducible (have hMx := Mem.undrew hM; exact hMx)) | (with_reducible (have hMx := Mem.undrew hMp; exact hMx))))
      · decide
      · rfl
set_option maxRecDepth 100000 in
set_option maxHeartbeats 8000000 in
theorem drawLin_saved {ac : Option Addr} {nc cc : Nat} {l : List UInt8} {w : World} (hC : Rd FByt w ac nc cc l) :
    Calls Try.prog 58 #[.slice ac nc cc] w fun e w' => ∃ (W H : Int) (a1 : Option Addr) (c1 : Nat) (xs : List Int) (a2 : Option Addr) (n2 c2 : Nat) (ss : List Int) (a4 : Option Addr) (n4 c4 : Nat) (ls : List Int), okT W H xs ∧ e = .returned (.tuple #[.agg #[.int .i64 W, .int .i64 H, .slice a1 xs.length c1], .slice a2 n2 c2, .slice a4 n4 c4]) ∧ Mem w.heap.size w w' [intE a1 xs.length c1 xs, intE a2 n2 c2 ss, intE a4 n4 c4 ls] := by
  have hM := Mem.start w
  have HC := Lib.hid hC
  clear hC
  go_enter Try.func58, Try.ntmps58
  go_wp2_with fail
  apply Mem.atA
  · (repeat' (first | with_reducible exact hM | with_reducible exact hMp | with_reducible apply Mem.drew | with_reducible apply Mem.drewN | with_reducible apply Mem.alloc | with_reducible apply Mem.set | with_reducible exact Sto.row | ((with_reducible refine Sto.rowEq2 ?_ ?_); omega; rfl) | ((with_reducible refine Sto.rowEq ?_); omega) | with_reducible apply Sto.int | with_reducible apply Sto.there | with_reducible assumption | (unfold I64; omega) | (with_reducible (have hMx := Mem.undrew hM; exact hMx)) | (with_reducible (have hMx := Mem.undrew hMp; exact hMx))))
  clear hM
  intro wst hM
  (try simp only [World.size_alloc, World.size_setCell, World.heap_drewN, heapDrew, Nat.add_assoc, Nat.reduceAdd, List.setIfInBounds_toArray, List.set_cons_zero, List.set_cons_succ, List.cons_append, List.nil_append] at hM)
  (first | refine (drawLin_is (HC.out.ext hM.below)).mono ?_)
  rintro e wc1 ⟨W, H, a1, c1, xs, a2, n2, c2, ss, a3, n3, c3, ts, a4, n4, c4, ls, hS, rfl, hm⟩
  replace hM := hM.join hm
  clear hm
  (try simp only [World.size_alloc, World.size_setCell, World.heap_drewN, heapDrew, Nat.add_assoc, Nat.reduceAdd, List.setIfInBounds_toArray, List.set_cons_zero, List.set_cons_succ, List.cons_append, List.nil_append] at hM)
  have HS := Lib.hid hS; clear hS
  go_upto_region 2 with fail
  apply Mem.atWpA
  · (repeat' (first | with_reducible exact hM | with_reducible exact hMp | with_reducible apply Mem.drew | with_reducible apply Mem.drewN | with_reducible apply Mem.alloc | with_reducible apply Mem.set | with_reducible exact Sto.row | ((with_reducible refine Sto.rowEq2 ?_ ?_); omega; rfl) | ((with_reducible refine Sto.rowEq ?_); omega) | with_reducible apply Sto.int | with_reducible apply Sto.there | with_reducible assumption | (unfold I64; omega) | (with_reducible (have hMx := Mem.undrew hM; exact hMx)) | (with_reducible (have hMx := Mem.undrew hMp; exact hMx))))
  clear hM
  intro wst hM
  (try simp only [World.size_alloc, World.size_setCell, World.heap_drewN, heapDrew, Nat.add_assoc, Nat.reduceAdd, List.setIfInBounds_toArray, List.set_cons_zero, List.set_cons_succ, List.cons_append, List.nil_append] at hM)
  replace hM := hM.pick (is := [5, 1, 2, 4, 0]) (by decide) rfl
  dsimp only [List.filterMap_cons, List.filterMap_nil, List.getElem?_cons_zero, List.getElem?_cons_succ] at hM
  obtain ⟨k0, f0, l0⟩ := hM.row .here
  obtain ⟨k4, f4, l4⟩ := hM.row (.there (.there (.there (.there .here))))
  go_wp2
  refine bodyPost_ret (v := .tuple #[.agg #[.int .i64 W, .int .i64 H, .slice a1 xs.length c1], .slice a2 n2 c2, .slice a4 n4 c4]) (by simp [results, Try.results58, go_sem, k0, k4]) rfl ⟨W, H, a1, c1, xs, a2, n2, c2, ss, a4, n4, c4, ls, HS.out, rfl, ?_⟩
  apply Mem.pick (is := [1, 2, 3])
  · (repeat' (first | with_reducible exact hM | with_reducible exact hMp | with_reducible apply Mem.drew | with_reducible apply Mem.drewN | with_reducible apply Mem.alloc | with_reducible apply Mem.set | with_reducible exact Sto.row | ((with_reducible refine Sto.rowEq2 ?_ ?_); omega; rfl) | ((with_reducible refine Sto.rowEq ?_); omega) | with_reducible apply Sto.int | with_reducible apply Sto.there | with_reducible assumption | (unfold I64; omega) | (with_reducible (have hMx := Mem.undrew hM; exact hMx)) | (with_reducible (have hMx := Mem.undrew hMp; exact hMx))))
  · decide
  · rfl
end Go.Proofs.Ytkohfegajcmdbaa

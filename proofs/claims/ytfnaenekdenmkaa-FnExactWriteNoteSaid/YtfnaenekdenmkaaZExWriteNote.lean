/-
  The law FnExactWriteNote, walked.
-/
import Derived.Test.YtfnaenekdenmkaaZNoteZ
import Derived.Test.YtfnaenekdenmkaaZNoteM
/-
  The law FnExactWriteNote, walked.
-/
namespace Go.Proofs.Ytfnaenekdenmkaa
set_option linter.unusedSimpArgs false
set_option linter.unusedVariables false
open Go.RowKit

theorem clk_few {u : Int} : ∀ {ys : List NoteI}, (∀ y ∈ ys, y.cl.length = y.n) → (∀ y ∈ ys, (y.cl.length : Int) = u) → u ≤ 4 → clkN ys ≤ 4 * ys.length
  | [], _, _, _ => Nat.zero_le _
  | y :: ys, h1, h2, h3 => by
    have := clk_few (fun z hz => h1 z (List.mem_cons_of_mem _ hz)) (fun z hz => h2 z (List.mem_cons_of_mem _ hz)) h3
    have e1 := h1 y (List.mem_cons_self ..)
    have e2 := h2 y (List.mem_cons_self ..)
    rw [clkN, List.length_cons]
    omega
theorem book_clk {u : Int} {ys : List NoteI} (hl : ∀ y ∈ ys, y.cl.length = y.n) (h : bookB u (coreN ys) = true) : clkN ys ≤ 4 * ys.length := by
  refine clk_few (u := u) hl (fun y hy => ?_) (book_u h).2
  obtain ⟨i, hi, rfl⟩ := List.getElem_of_mem hy
  have h1 := (noteB_true (book_note h (k := i) (by rw [coreN_len]; exact hi))).1
  rw [coreN_getD, List.getD_eq_getElem?_getD, List.getElem?_eq_getElem hi] at h1
  exact h1
theorem write_clk {u : Int} {xs : List NoteC} {un : Int} {wd : Bs} {ys : List NoteI} (hl : ∀ y ∈ ys, y.cl.length = y.n) (h : coreN ys = writeR u xs un wd) : ys.length ≤ 12 ∧ clkN ys ≤ 48 := by
  cases hb : writeB u xs un wd
  · have : writeR u xs un wd = [] := by rw [writeR, hb]; rfl
    rw [this] at h
    have h2 : ys = [] := by unfold coreN at h; simpa using h
    subst h2
    exact ⟨by simp, by simp [clkN]⟩
  · have e : writeR u xs un wd = putN (newN u xs un wd) xs := by rw [writeR, hb]; rfl
    unfold writeB at hb
    rw [Bool.and_eq_true] at hb
    rw [e] at h
    rw [← h] at hb
    have h1 := book_len hb.2
    rw [coreN_len] at h1
    have h2 := book_clk hl hb.2
    omega
set_option maxRecDepth 100000 in
set_option maxHeartbeats 16000000 in
theorem FnExactWriteNote_walk (u : Int) (a : Option Addr) (n c : Nat) (xs : List NoteI) (un : Int) (wo : Bs) (w : World) (hu : I64 u) (hun : I64 un) (hwo : wo.length ≤ maxLen) (h : RdN w a n c xs) :
    Calls Try.prog 6 #[.int .i64 u, .slice a n c, .int .i64 un, .string (bsA wo)] w fun e w' => e = .returned (.bool true) ∧ Below w.heap.size w w' := by
  have hM := Mem.start w
  have hrm := h.rd.nroom
  have S1 := bsA_size
  have HWO := Lib.hid hwo
  have HU := Lib.hid hu; have HUN := Lib.hid hun
  unfold maxLen at hwo
  clear hu hun
  by_cases hw20 : 1048576 < wo.length
  · skip
    go_enter Try.func6, Try.ntmps6
    go_wp2
    go_ret
    exact ⟨rfl, (by apply Mem.below; (repeat' (first | with_reducible exact hM | with_reducible exact hMp | with_reducible apply Mem.drew | with_reducible apply Mem.drewN | with_reducible apply Mem.alloc | with_reducible apply Mem.set | with_reducible exact Sto.row | ((with_reducible refine Sto.rowEq2 ?_ ?_); omega; rfl) | ((with_reducible refine Sto.rowEq ?_); omega) | with_reducible apply Sto.int | with_reducible apply Sto.there | with_reducible assumption | (unfold I64; omega) | (with_reducible (have hMx := Mem.undrew hM; exact hMx)) | (with_reducible (have hMx := Mem.undrew hMp; exact hMx)))))⟩
  go_enter Try.func6, Try.ntmps6
  go_wp2_with fail
  apply Mem.at
  · (repeat' (first | with_reducible exact hM | with_reducible exact hMp | with_reducible apply Mem.drew | with_reducible apply Mem.drewN | with_reducible apply Mem.alloc | with_reducible apply Mem.set | with_reducible exact Sto.row | ((with_reducible refine Sto.rowEq2 ?_ ?_); omega; rfl) | ((with_reducible refine Sto.rowEq ?_); omega) | with_reducible apply Sto.int | with_reducible apply Sto.there | with_reducible assumption | (unfold I64; omega) | (with_reducible (have hMx := Mem.undrew hM; exact hMx)) | (with_reducible (have hMx := Mem.undrew hMp; exact hMx))))
  clear hM
  intro hM
  (try simp only [World.size_alloc, World.size_setCell, World.heap_drewN, heapDrew, Nat.add_assoc, Nat.reduceAdd, List.setIfInBounds_toArray, List.set_cons_zero, List.set_cons_succ, List.cons_append, List.nil_append] at hM)
  refine (szNoteS_any _ _ _ xs 1048576 _ h (by omega)).mono ?_
  rintro e w1 ⟨z1, hz1, hn1, rfl, hb⟩
  replace hM := hM.ext hb
  clear hb
  by_cases hzn1 : z1 < 0
  · go_wp2
    go_ret
    exact ⟨rfl, (by apply Mem.below; (repeat' (first | with_reducible exact hM | with_reducible exact hMp | with_reducible apply Mem.drew | with_reducible apply Mem.drewN | with_reducible apply Mem.alloc | with_reducible apply Mem.set | with_reducible exact Sto.row | ((with_reducible refine Sto.rowEq2 ?_ ?_); omega; rfl) | ((with_reducible refine Sto.rowEq ?_); omega) | with_reducible apply Sto.int | with_reducible apply Sto.there | with_reducible assumption | (unfold I64; omega) | (with_reducible (have hMx := Mem.undrew hM; exact hMx)) | (with_reducible (have hMx := Mem.undrew hMp; exact hMx)))))⟩
  replace hn1 := hn1 (by omega)
  replace hzn1 : 0 ≤ z1 := by omega
  have hn6 : n ≤ 1048576 := by omega
  have hck : clkN xs ≤ 1048576 := by omega
  have HLX := Lib.hid h.lens
  go_wp2_with fail
  apply Mem.at
  · (repeat' (first | with_reducible exact hM | with_reducible exact hMp | with_reducible apply Mem.drew | with_reducible apply Mem.drewN | with_reducible apply Mem.alloc | with_reducible apply Mem.set | with_reducible exact Sto.row | ((with_reducible refine Sto.rowEq2 ?_ ?_); omega; rfl) | ((with_reducible refine Sto.rowEq ?_); omega) | with_reducible apply Sto.int | with_reducible apply Sto.there | with_reducible assumption | (unfold I64; omega) | (with_reducible (have hMx := Mem.undrew hM; exact hMx)) | (with_reducible (have hMx := Mem.undrew hMp; exact hMx))))
  clear hM
  intro hM
  (try simp only [World.size_alloc, World.size_setCell, World.heap_drewN, heapDrew, Nat.add_assoc, Nat.reduceAdd, List.setIfInBounds_toArray, List.set_cons_zero, List.set_cons_succ, List.cons_append, List.nil_append] at hM)
  refine (toNoteS_any _ _ _ xs _ (h.ext hM.below) hn6).mono ?_
  rintro e w2 ⟨g1, c1, y1, hc1, rfl, hm⟩
  replace hM := hM.join hm
  have HC1 := Lib.hid hc1; clear hm hc1
  dsimp only [List.cons_append, List.nil_append] at hM
  go_wp2_with fail
  apply Mem.at
  · (repeat' (first | with_reducible exact hM | with_reducible exact hMp | with_reducible apply Mem.drew | with_reducible apply Mem.drewN | with_reducible apply Mem.alloc | with_reducible apply Mem.set | with_reducible exact Sto.row | ((with_reducible refine Sto.rowEq2 ?_ ?_); omega; rfl) | ((with_reducible refine Sto.rowEq ?_); omega) | with_reducible apply Sto.int | with_reducible apply Sto.there | with_reducible assumption | (unfold I64; omega) | (with_reducible (have hMx := Mem.undrew hM; exact hMx)) | (with_reducible (have hMx := Mem.undrew hMp; exact hMx))))
  clear hM
  intro hM
  (try simp only [World.size_alloc, World.size_setCell, World.heap_drewN, heapDrew, Nat.add_assoc, Nat.reduceAdd, List.setIfInBounds_toArray, List.set_cons_zero, List.set_cons_succ, List.cons_append, List.nil_append] at hM)
  obtain ⟨rv, hrv⟩ : ∃ r, writeR u (coreN xs) un wo = r := ⟨_, rfl⟩
  have HRV := Lib.hid hrv; clear hrv
  obtain ⟨bv, hbv⟩ : ∃ r, writeB u (coreN xs) un wo = r := ⟨_, rfl⟩
  have HBV := Lib.hid hbv; clear hbv
  refine (specWriteNote_any u g1 0 _ _ y1 un wo _ HU.out HUN.out HWO.out (hM.notes .here)).mono ?_
  rw [HC1.out, HRV.out, HBV.out]
  rintro e w3 ⟨a2, c2, y2, hc2, rfl, hm⟩
  replace hM := hM.join hm
  have HC2 := Lib.hid hc2; clear hm hc2
  dsimp only [List.cons_append, List.nil_append] at hM
  (try simp only [World.size_alloc, World.size_setCell, World.heap_drewN, heapDrew, Nat.add_assoc, Nat.reduceAdd, List.setIfInBounds_toArray, List.set_cons_zero, List.set_cons_succ, List.cons_append, List.nil_append] at hM)
  go_wp2_with fail
  apply Mem.at
  · (repeat' (first | with_reducible exact hM | with_reducible exact hMp | with_reducible apply Mem.drew | with_reducible apply Mem.drewN | with_reducible apply Mem.alloc | with_reducible apply Mem.set | with_reducible exact Sto.row | ((with_reducible refine Sto.rowEq2 ?_ ?_); omega; rfl) | ((with_reducible refine Sto.rowEq ?_); omega) | with_reducible apply Sto.int | with_reducible apply Sto.there | with_reducible assumption | (unfold I64; omega) | (with_reducible (have hMx := Mem.undrew hM; exact hMx)) | (with_reducible (have hMx := Mem.undrew hMp; exact hMx))))
  clear hM
  intro hM
  (try simp only [World.size_alloc, World.size_setCell, World.heap_drewN, heapDrew, Nat.add_assoc, Nat.reduceAdd, List.setIfInBounds_toArray, List.set_cons_zero, List.set_cons_succ, List.cons_append, List.nil_append] at hM)
  refine (toNoteS_any _ _ _ xs _ (h.ext hM.below) hn6).mono ?_
  rintro e w4 ⟨g3, c3, y3, hc3, rfl, hm⟩
  replace hM := hM.join hm
  have HC3 := Lib.hid hc3; clear hm hc3
  dsimp only [List.cons_append, List.nil_append] at hM
  go_wp2_with fail
  apply Mem.at
  · (repeat' (first | with_reducible exact hM | with_reducible exact hMp | with_reducible apply Mem.drew | with_reducible apply Mem.drewN | with_reducible apply Mem.alloc | with_reducible apply Mem.set | with_reducible exact Sto.row | ((with_reducible refine Sto.rowEq2 ?_ ?_); omega; rfl) | ((with_reducible refine Sto.rowEq ?_); omega) | with_reducible apply Sto.int | with_reducible apply Sto.there | with_reducible assumption | (unfold I64; omega) | (with_reducible (have hMx := Mem.undrew hM; exact hMx)) | (with_reducible (have hMx := Mem.undrew hMp; exact hMx))))
  clear hM
  intro hM
  (try simp only [World.size_alloc, World.size_setCell, World.heap_drewN, heapDrew, Nat.add_assoc, Nat.reduceAdd, List.setIfInBounds_toArray, List.set_cons_zero, List.set_cons_succ, List.cons_append, List.nil_append] at hM)
  refine (implWriteNote_any u _ _ _ y3 un wo _ HU.out HUN.out HWO.out (hM.notes .here)).mono ?_
  rw [HC3.out, HRV.out, HBV.out]
  rintro e w5 ⟨a4, c4, y4, hc4, rfl, hm⟩
  replace hM := hM.join hm
  have HC4 := Lib.hid hc4; clear hm hc4
  dsimp only [List.cons_append, List.nil_append] at hM
  (try simp only [World.size_alloc, World.size_setCell, World.heap_drewN, heapDrew, Nat.add_assoc, Nat.reduceAdd, List.setIfInBounds_toArray, List.set_cons_zero, List.set_cons_succ, List.cons_append, List.nil_append] at hM)
  have hbb1 : (bv != bv) = false := by cases bv <;> rfl
  go_wp2_with fail
  apply Mem.at
  · (repeat' (first | with_reducible exact hM | with_reducible exact hMp | with_reducible apply Mem.drew | with_reducible apply Mem.drewN | with_reducible apply Mem.alloc | with_reducible apply Mem.set | with_reducible exact Sto.row | ((with_reducible refine Sto.rowEq2 ?_ ?_); omega; rfl) | ((with_reducible refine Sto.rowEq ?_); omega) | with_reducible apply Sto.int | with_reducible apply Sto.there | with_reducible assumption | (unfold I64; omega) | (with_reducible (have hMx := Mem.undrew hM; exact hMx)) | (with_reducible (have hMx := Mem.undrew hMp; exact hMx))))
  clear hM
  intro hM
  (try simp only [World.size_alloc, World.size_setCell, World.heap_drewN, heapDrew, Nat.add_assoc, Nat.reduceAdd, List.setIfInBounds_toArray, List.set_cons_zero, List.set_cons_succ, List.cons_append, List.nil_append] at hM)
  refine (eqNoteS_same _ _ _ y4 _ _ _ y2 _ (hM.notes .here) (hM.notes (.there (.there .here))) (HC4.out.trans HC2.out.symm)).mono ?_
  rintro e w6 ⟨rfl, hb⟩
  replace hM := hM.ext hb
  clear hb
  go_wp2_with fail
  apply Mem.at
  · (repeat' (first | with_reducible exact hM | with_reducible exact hMp | with_reducible apply Mem.drew | with_reducible apply Mem.drewN | with_reducible apply Mem.alloc | with_reducible apply Mem.set | with_reducible exact Sto.row | ((with_reducible refine Sto.rowEq2 ?_ ?_); omega; rfl) | ((with_reducible refine Sto.rowEq ?_); omega) | with_reducible apply Sto.int | with_reducible apply Sto.there | with_reducible assumption | (unfold I64; omega) | (with_reducible (have hMx := Mem.undrew hM; exact hMx)) | (with_reducible (have hMx := Mem.undrew hMp; exact hMx))))
  clear hM
  intro hM
  (try simp only [World.size_alloc, World.size_setCell, World.heap_drewN, heapDrew, Nat.add_assoc, Nat.reduceAdd, List.setIfInBounds_toArray, List.set_cons_zero, List.set_cons_succ, List.cons_append, List.nil_append] at hM)
  refine (toNoteS_any _ _ _ xs _ (h.ext hM.below) hn6).mono ?_
  rintro e w7 ⟨g5, c5, y5, hc5, rfl, hm⟩
  replace hM := hM.join hm
  have HC5 := Lib.hid hc5; clear hm hc5
  dsimp only [List.cons_append, List.nil_append] at hM
  go_wp2_with fail
  apply Mem.at
  · (repeat' (first | with_reducible exact hM | with_reducible exact hMp | with_reducible apply Mem.drew | with_reducible apply Mem.drewN | with_reducible apply Mem.alloc | with_reducible apply Mem.set | with_reducible exact Sto.row | ((with_reducible refine Sto.rowEq2 ?_ ?_); omega; rfl) | ((with_reducible refine Sto.rowEq ?_); omega) | with_reducible apply Sto.int | with_reducible apply Sto.there | with_reducible assumption | (unfold I64; omega) | (with_reducible (have hMx := Mem.undrew hM; exact hMx)) | (with_reducible (have hMx := Mem.undrew hMp; exact hMx))))
  clear hM
  intro hM
  (try simp only [World.size_alloc, World.size_setCell, World.heap_drewN, heapDrew, Nat.add_assoc, Nat.reduceAdd, List.setIfInBounds_toArray, List.set_cons_zero, List.set_cons_succ, List.cons_append, List.nil_append] at hM)
  refine (eqNoteS_same _ _ _ y3 _ _ _ y5 _ (hM.notes (.there (.there .here))) (hM.notes .here) (HC3.out.trans HC5.out.symm)).mono ?_
  rintro e w8 ⟨rfl, hb⟩
  replace hM := hM.ext hb
  clear hb
  have hk3 : clkN y3 ≤ 1048576 := by rw [clkN_core (hM.notes (.there (.there .here))).lens HLX.out HC3.out]; exact hck
  have hf4 := write_clk (hM.notes (.there .here)).lens (HC4.out.trans HRV.out.symm)
  have hl4 : y4.length = rv.length := by rw [← HC4.out, coreN_len]
  replace hM := Mem.pick (is := [2, 1, 3]) hM (by decide) rfl
  dsimp only [List.filterMap_cons, List.filterMap_nil, List.getElem?_cons_zero, List.getElem?_cons_succ] at hM
  go_wp2_with fail
  apply Mem.at
  · (repeat' (first | with_reducible exact hM | with_reducible exact hMp | with_reducible apply Mem.drew | with_reducible apply Mem.drewN | with_reducible apply Mem.alloc | with_reducible apply Mem.set | with_reducible exact Sto.row | ((with_reducible refine Sto.rowEq2 ?_ ?_); omega; rfl) | ((with_reducible refine Sto.rowEq ?_); omega) | with_reducible apply Sto.int | with_reducible apply Sto.there | with_reducible assumption | (unfold I64; omega) | (with_reducible (have hMx := Mem.undrew hM; exact hMx)) | (with_reducible (have hMx := Mem.undrew hMp; exact hMx))))
  clear hM
  intro hM
  (try simp only [World.size_alloc, World.size_setCell, World.heap_drewN, heapDrew, Nat.add_assoc, Nat.reduceAdd, List.setIfInBounds_toArray, List.set_cons_zero, List.set_cons_succ, List.cons_append, List.nil_append] at hM)
  refine (markNoteS_any _ _ _ _ _ _ y3 1 _ hM (by omega) (by omega)).mono ?_
  rintro e w9 ⟨rfl, hm⟩
  clear hM
  have hM := hm
  clear hm
  go_wp2_with fail
  apply Mem.at
  · (repeat' (first | with_reducible exact hM | with_reducible exact hMp | with_reducible apply Mem.drew | with_reducible apply Mem.drewN | with_reducible apply Mem.alloc | with_reducible apply Mem.set | with_reducible exact Sto.row | ((with_reducible refine Sto.rowEq2 ?_ ?_); omega; rfl) | ((with_reducible refine Sto.rowEq ?_); omega) | with_reducible apply Sto.int | with_reducible apply Sto.there | with_reducible assumption | (unfold I64; omega) | (with_reducible (have hMx := Mem.undrew hM; exact hMx)) | (with_reducible (have hMx := Mem.undrew hMp; exact hMx))))
  clear hM
  intro hM
  (try simp only [World.size_alloc, World.size_setCell, World.heap_drewN, heapDrew, Nat.add_assoc, Nat.reduceAdd, List.setIfInBounds_toArray, List.set_cons_zero, List.set_cons_succ, List.cons_append, List.nil_append] at hM)
  refine (eqNoteS_same _ _ _ y4 _ _ _ y2 _ (hM.notes (.there .here)) (hM.notes (.there (.there .here))) (HC4.out.trans HC2.out.symm)).mono ?_
  rintro e w10 ⟨rfl, hb⟩
  replace hM := hM.ext hb
  clear hb
  replace hM := Mem.pick (is := [1, 2]) hM (by decide) rfl
  dsimp only [List.filterMap_cons, List.filterMap_nil, List.getElem?_cons_zero, List.getElem?_cons_succ] at hM
  go_wp2_with fail
  apply Mem.at
  · (repeat' (first | with_reducible exact hM | with_reducible exact hMp | with_reducible apply Mem.drew | with_reducible apply Mem.drewN | with_reducible apply Mem.alloc | with_reducible apply Mem.set | with_reducible exact Sto.row | ((with_reducible refine Sto.rowEq2 ?_ ?_); omega; rfl) | ((with_reducible refine Sto.rowEq ?_); omega) | with_reducible apply Sto.int | with_reducible apply Sto.there | with_reducible assumption | (unfold I64; omega) | (with_reducible (have hMx := Mem.undrew hM; exact hMx)) | (with_reducible (have hMx := Mem.undrew hMp; exact hMx))))
  clear hM
  intro hM
  (try simp only [World.size_alloc, World.size_setCell, World.heap_drewN, heapDrew, Nat.add_assoc, Nat.reduceAdd, List.setIfInBounds_toArray, List.set_cons_zero, List.set_cons_succ, List.cons_append, List.nil_append] at hM)
  refine (markNoteS_any _ _ _ _ _ _ y4 1 _ hM (by omega) (by omega)).mono ?_
  rintro e w11 ⟨rfl, hm⟩
  clear hM
  have hM := hm
  clear hm
  go_wp2_with fail
  apply Mem.at
  · (repeat' (first | with_reducible exact hM | with_reducible exact hMp | with_reducible apply Mem.drew | with_reducible apply Mem.drewN | with_reducible apply Mem.alloc | with_reducible apply Mem.set | with_reducible exact Sto.row | ((with_reducible refine Sto.rowEq2 ?_ ?_); omega; rfl) | ((with_reducible refine Sto.rowEq ?_); omega) | with_reducible apply Sto.int | with_reducible apply Sto.there | with_reducible assumption | (unfold I64; omega) | (with_reducible (have hMx := Mem.undrew hM; exact hMx)) | (with_reducible (have hMx := Mem.undrew hMp; exact hMx))))
  clear hM
  intro hM
  (try simp only [World.size_alloc, World.size_setCell, World.heap_drewN, heapDrew, Nat.add_assoc, Nat.reduceAdd, List.setIfInBounds_toArray, List.set_cons_zero, List.set_cons_succ, List.cons_append, List.nil_append] at hM)
  refine (heldNoteS_any _ _ _ y4 1 _ (hM.notes .here) (by omega) (by omega)).mono ?_
  rintro e w12 ⟨rfl, hb⟩
  replace hM := hM.ext hb
  clear hb
  have hmn : (((1 + 3 * rv.length + clkN y4 : Nat) : Int) != ((1 + 3 * rv.length + clkN y4 : Nat) : Int)) = false := by simp
  go_wp2_with fail
  apply Mem.at
  · (repeat' (first | with_reducible exact hM | with_reducible exact hMp | with_reducible apply Mem.drew | with_reducible apply Mem.drewN | with_reducible apply Mem.alloc | with_reducible apply Mem.set | with_reducible exact Sto.row | ((with_reducible refine Sto.rowEq2 ?_ ?_); omega; rfl) | ((with_reducible refine Sto.rowEq ?_); omega) | with_reducible apply Sto.int | with_reducible apply Sto.there | with_reducible assumption | (unfold I64; omega) | (with_reducible (have hMx := Mem.undrew hM; exact hMx)) | (with_reducible (have hMx := Mem.undrew hMp; exact hMx))))
  clear hM
  intro hM
  (try simp only [World.size_alloc, World.size_setCell, World.heap_drewN, heapDrew, Nat.add_assoc, Nat.reduceAdd, List.setIfInBounds_toArray, List.set_cons_zero, List.set_cons_succ, List.cons_append, List.nil_append] at hM)
  refine (toNoteS_any _ _ _ xs _ (h.ext hM.below) hn6).mono ?_
  rintro e w13 ⟨g6, c6, y6, hc6, rfl, hm⟩
  replace hM := hM.join hm
  have HC6 := Lib.hid hc6; clear hm hc6
  dsimp only [List.cons_append, List.nil_append] at hM
  go_wp2_with fail
  apply Mem.at
  · (repeat' (first | with_reducible exact hM | with_reducible exact hMp | with_reducible apply Mem.drew | with_reducible apply Mem.drewN | with_reducible apply Mem.alloc | with_reducible apply Mem.set | with_reducible exact Sto.row | ((with_reducible refine Sto.rowEq2 ?_ ?_); omega; rfl) | ((with_reducible refine Sto.rowEq ?_); omega) | with_reducible apply Sto.int | with_reducible apply Sto.there | with_reducible assumption | (unfold I64; omega) | (with_reducible (have hMx := Mem.undrew hM; exact hMx)) | (with_reducible (have hMx := Mem.undrew hMp; exact hMx))))
  clear hM
  intro hM
  (try simp only [World.size_alloc, World.size_setCell, World.heap_drewN, heapDrew, Nat.add_assoc, Nat.reduceAdd, List.setIfInBounds_toArray, List.set_cons_zero, List.set_cons_succ, List.cons_append, List.nil_append] at hM)
  refine (implWriteNote_any u _ _ _ y6 un wo _ HU.out HUN.out HWO.out (hM.notes .here)).mono ?_
  rw [HC6.out, HRV.out, HBV.out]
  rintro e w14 ⟨a7, c7, y7, hc7, rfl, hm⟩
  replace hM := hM.join hm
  have HC7 := Lib.hid hc7; clear hm hc7
  dsimp only [List.cons_append, List.nil_append] at hM
  (try simp only [World.size_alloc, World.size_setCell, World.heap_drewN, heapDrew, Nat.add_assoc, Nat.reduceAdd, List.setIfInBounds_toArray, List.set_cons_zero, List.set_cons_succ, List.cons_append, List.nil_append] at hM)
  go_wp2_with fail
  apply Mem.at
  · (repeat' (first | with_reducible exact hM | with_reducible exact hMp | with_reducible apply Mem.drew | with_reducible apply Mem.drewN | with_reducible apply Mem.alloc | with_reducible apply Mem.set | with_reducible exact Sto.row | ((with_reducible refine Sto.rowEq2 ?_ ?_); omega; rfl) | ((with_reducible refine Sto.rowEq ?_); omega) | with_reducible apply Sto.int | with_reducible apply Sto.there | with_reducible assumption | (unfold I64; omega) | (with_reducible (have hMx := Mem.undrew hM; exact hMx)) | (with_reducible (have hMx := Mem.undrew hMp; exact hMx))))
  clear hM
  intro hM
  (try simp only [World.size_alloc, World.size_setCell, World.heap_drewN, heapDrew, Nat.add_assoc, Nat.reduceAdd, List.setIfInBounds_toArray, List.set_cons_zero, List.set_cons_succ, List.cons_append, List.nil_append] at hM)
  refine (eqNoteS_same _ _ _ y7 _ _ _ y2 _ (hM.notes .here) (hM.notes (.there (.there (.there .here)))) (HC7.out.trans HC2.out.symm)).mono ?_
  rintro e w15 ⟨rfl, hb⟩
  replace hM := hM.ext hb
  clear hb
  go_wp2_with fail
  apply Mem.at
  · (repeat' (first | with_reducible exact hM | with_reducible exact hMp | with_reducible apply Mem.drew | with_reducible apply Mem.drewN | with_reducible apply Mem.alloc | with_reducible apply Mem.set | with_reducible exact Sto.row | ((with_reducible refine Sto.rowEq2 ?_ ?_); omega; rfl) | ((with_reducible refine Sto.rowEq ?_); omega) | with_reducible apply Sto.int | with_reducible apply Sto.there | with_reducible assumption | (unfold I64; omega) | (with_reducible (have hMx := Mem.undrew hM; exact hMx)) | (with_reducible (have hMx := Mem.undrew hMp; exact hMx))))
  clear hM
  intro hM
  (try simp only [World.size_alloc, World.size_setCell, World.heap_drewN, heapDrew, Nat.add_assoc, Nat.reduceAdd, List.setIfInBounds_toArray, List.set_cons_zero, List.set_cons_succ, List.cons_append, List.nil_append] at hM)
  refine (heldNoteS_any _ _ _ y4 1 _ (hM.notes (.there (.there .here))) (by omega) (by omega)).mono ?_
  rintro e w16 ⟨rfl, hb⟩
  replace hM := hM.ext hb
  clear hb
  go_wp2
  go_ret
  exact ⟨rfl, (by apply Mem.below; (repeat' (first | with_reducible exact hM | with_reducible exact hMp | with_reducible apply Mem.drew | with_reducible apply Mem.drewN | with_reducible apply Mem.alloc | with_reducible apply Mem.set | with_reducible exact Sto.row | ((with_reducible refine Sto.rowEq2 ?_ ?_); omega; rfl) | ((with_reducible refine Sto.rowEq ?_); omega) | with_reducible apply Sto.int | with_reducible apply Sto.there | with_reducible assumption | (unfold I64; omega) | (with_reducible (have hMx := Mem.undrew hM; exact hMx)) | (with_reducible (have hMx := Mem.undrew hMp; exact hMx)))))⟩
end Go.Proofs.Ytfnaenekdenmkaa

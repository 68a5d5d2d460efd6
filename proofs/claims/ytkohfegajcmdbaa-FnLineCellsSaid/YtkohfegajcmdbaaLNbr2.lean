/-
  BurnableCells of the reference; Reachable: both sides.
-/
import Derived.Test.YtkohfegajcmdbaaLNbr
/-
  BurnableCells of the reference; Reachable: both sides.
-/
namespace Go.Proofs.Ytkohfegajcmdbaa
set_option linter.unusedSimpArgs false
set_option linter.unusedVariables false
open Go.RowKit

set_option maxRecDepth 100000 in
set_option maxHeartbeats 30000000 in
theorem implReach_any (W H : Int) (a : Option Addr) (n c : Nat) (xs : List Int) (a2 : Option Addr) (n2 c2 : Nat) (cs : List Int) (w : World) (h : Ints w a n c xs) (h2 : Ints w a2 n2 c2 cs) :
    Calls Try.prog 17 #[.agg #[.int .i64 W, .int .i64 H, .slice a n c], .slice a2 n2 c2] w ((LR2 w (reachR W H xs cs))) := by
  have hM := Mem.start w
  have HL := Lib.hid h.len
  cases hg : goodB 20 W H xs
  · have HF := Lib.hid (show reachR W H xs cs = ([], false) by rw [reachR, hg]; rfl)
    have HG := Lib.hid hg; clear hg
    go_enter Try.func17, Try.ntmps17
    go_wp2_with fail
    apply Mem.atA
    · (repeat' (first | with_reducible exact hM | with_reducible exact hMp | with_reducible apply Mem.drew | with_reducible apply Mem.drewN | with_reducible apply Mem.alloc | with_reducible apply Mem.set | with_reducible exact Sto.row | ((with_reducible refine Sto.rowEq2 ?_ ?_); omega; rfl) | ((with_reducible refine Sto.rowEq ?_); omega) | with_reducible apply Sto.int | with_reducible apply Sto.there | with_reducible assumption | (unfold I64; omega) | (with_reducible (have hMx := Mem.undrew hM; exact hMx)) | (with_reducible (have hMx := Mem.undrew hMp; exact hMx))))
    clear hM
    intro wst hM
    (try simp only [World.size_alloc, World.size_setCell, World.heap_drewN, heapDrew, Nat.add_assoc, Nat.reduceAdd, List.setIfInBounds_toArray, List.set_cons_zero, List.set_cons_succ, List.cons_append, List.nil_append] at hM)
    (first | refine (IsTerrain_any W H a n c xs _ (h.ext hM.below)).mono ?_)
    rw [HG.out]
    rintro e wc3 ⟨rfl, hb⟩
    replace hM := hM.ext hb
    clear hb
    go_wp2
    go_ret2
    exact ⟨_, _, _, by rw [HF.out]; rfl, by rw [HF.out]; exact hM.nilInts⟩
  obtain ⟨Wn, Hn, rfl, rfl, p1, p2, p3, p4, hlen, h25, hall⟩ := goodB_true hg
  have hn25 : n ≤ 25 := by rw [← HL.out]; exact h25
  clear hlen h25 hall
  cases hs : setB n cs
  · have HF := Lib.hid (show reachR Wn Hn xs cs = ([], false) by rw [reachR, hg, HL.out, hs]; rfl)
    have HG := Lib.hid hg; have HD := Lib.hid hs; clear hg hs
    go_enter Try.func17, Try.ntmps17
    go_wp2_with fail
    apply Mem.atA
    · (repeat' (first | with_reducible exact hM | with_reducible exact hMp | with_reducible apply Mem.drew | with_reducible apply Mem.drewN | with_reducible apply Mem.alloc | with_reducible apply Mem.set | with_reducible exact Sto.row | ((with_reducible refine Sto.rowEq2 ?_ ?_); omega; rfl) | ((with_reducible refine Sto.rowEq ?_); omega) | with_reducible apply Sto.int | with_reducible apply Sto.there | with_reducible assumption | (unfold I64; omega) | (with_reducible (have hMx := Mem.undrew hM; exact hMx)) | (with_reducible (have hMx := Mem.undrew hMp; exact hMx))))
    clear hM
    intro wst hM
    (try simp only [World.size_alloc, World.size_setCell, World.heap_drewN, heapDrew, Nat.add_assoc, Nat.reduceAdd, List.setIfInBounds_toArray, List.set_cons_zero, List.set_cons_succ, List.cons_append, List.nil_append] at hM)
    (first | refine (IsTerrain_any Wn Hn a n c xs _ (h.ext hM.below)).mono ?_)
    rw [HG.out]
    rintro e wc4 ⟨rfl, hb⟩
    replace hM := hM.ext hb
    clear hb
    obtain ⟨k0, f0, l0⟩ := hM.row .here
    go_wp2_with fail
    clear k0 f0 l0
    apply Mem.atA
    · (repeat' (first | with_reducible exact hM | with_reducible exact hMp | with_reducible apply Mem.drew | with_reducible apply Mem.drewN | with_reducible apply Mem.alloc | with_reducible apply Mem.set | with_reducible exact Sto.row | ((with_reducible refine Sto.rowEq2 ?_ ?_); omega; rfl) | ((with_reducible refine Sto.rowEq ?_); omega) | with_reducible apply Sto.int | with_reducible apply Sto.there | with_reducible assumption | (unfold I64; omega) | (with_reducible (have hMx := Mem.undrew hM; exact hMx)) | (with_reducible (have hMx := Mem.undrew hMp; exact hMx))))
    clear hM
    intro wst hM
    (try simp only [World.size_alloc, World.size_setCell, World.heap_drewN, heapDrew, Nat.add_assoc, Nat.reduceAdd, List.setIfInBounds_toArray, List.set_cons_zero, List.set_cons_succ, List.cons_append, List.nil_append] at hM)
    (first | refine (isSet_any Wn Hn a n c a2 n2 c2 cs _ (h2.ext hM.below) hn25).mono ?_)
    rw [HD.out]
    rintro e wc5 ⟨rfl, hb⟩
    replace hM := hM.ext hb
    clear hb
    go_wp2
    go_ret2
    exact ⟨_, _, _, by rw [HF.out]; rfl, by rw [HF.out]; exact hM.nilInts⟩
  have HF := Lib.hid (show reachR Wn Hn xs cs = (reachL Wn n xs (fun k => hasI cs k), true) by rw [reachR, hg, HL.out, hs]; rfl)
  have HG := Lib.hid hg; have HD := Lib.hid hs; clear hg hs
  go_enter Try.func17, Try.ntmps17
  go_wp2_with fail
  apply Mem.atA
  · (repeat' (first | with_reducible exact hM | with_reducible exact hMp | with_reducible apply Mem.drew | with_reducible apply Mem.drewN | with_reducible apply Mem.alloc | with_reducible apply Mem.set | with_reducible exact Sto.row | ((with_reducible refine Sto.rowEq2 ?_ ?_); omega; rfl) | ((with_reducible refine Sto.rowEq ?_); omega) | with_reducible apply Sto.int | with_reducible apply Sto.there | with_reducible assumption | (unfold I64; omega) | (with_reducible (have hMx := Mem.undrew hM; exact hMx)) | (with_reducible (have hMx := Mem.undrew hMp; exact hMx))))
  clear hM
  intro wst hM
  (try simp only [World.size_alloc, World.size_setCell, World.heap_drewN, heapDrew, Nat.add_assoc, Nat.reduceAdd, List.setIfInBounds_toArray, List.set_cons_zero, List.set_cons_succ, List.cons_append, List.nil_append] at hM)
  (first | refine (IsTerrain_any Wn Hn a n c xs _ (h.ext hM.below)).mono ?_)
  rw [HG.out]
  rintro e wc6 ⟨rfl, hb⟩
  replace hM := hM.ext hb
  clear hb
  obtain ⟨k0, f0, l0⟩ := hM.row .here
  go_wp2_with fail
  clear k0 f0 l0
  apply Mem.atA
  · (repeat' (first | with_reducible exact hM | with_reducible exact hMp | with_reducible apply Mem.drew | with_reducible apply Mem.drewN | with_reducible apply Mem.alloc | with_reducible apply Mem.set | with_reducible exact Sto.row | ((with_reducible refine Sto.rowEq2 ?_ ?_); omega; rfl) | ((with_reducible refine Sto.rowEq ?_); omega) | with_reducible apply Sto.int | with_reducible apply Sto.there | with_reducible assumption | (unfold I64; omega) | (with_reducible (have hMx := Mem.undrew hM; exact hMx)) | (with_reducible (have hMx := Mem.undrew hMp; exact hMx))))
  clear hM
  intro wst hM
  (try simp only [World.size_alloc, World.size_setCell, World.heap_drewN, heapDrew, Nat.add_assoc, Nat.reduceAdd, List.setIfInBounds_toArray, List.set_cons_zero, List.set_cons_succ, List.cons_append, List.nil_append] at hM)
  (first | refine (isSet_any Wn Hn a n c a2 n2 c2 cs _ (h2.ext hM.below) hn25).mono ?_)
  rw [HD.out]
  rintro e wc7 ⟨rfl, hb⟩
  replace hM := hM.ext hb
  clear hb
  obtain ⟨k0, f0, l0⟩ := hM.row .here
  go_wp2_with fail
  clear k0 f0 l0
  apply Mem.atA
  · (repeat' (first | with_reducible exact hM | with_reducible exact hMp | with_reducible apply Mem.drew | with_reducible apply Mem.drewN | with_reducible apply Mem.alloc | with_reducible apply Mem.set | with_reducible exact Sto.row | ((with_reducible refine Sto.rowEq2 ?_ ?_); omega; rfl) | ((with_reducible refine Sto.rowEq ?_); omega) | with_reducible apply Sto.int | with_reducible apply Sto.there | with_reducible assumption | (unfold I64; omega) | (with_reducible (have hMx := Mem.undrew hM; exact hMx)) | (with_reducible (have hMx := Mem.undrew hMp; exact hMx))))
  clear hM
  intro wst hM
  (try simp only [World.size_alloc, World.size_setCell, World.heap_drewN, heapDrew, Nat.add_assoc, Nat.reduceAdd, List.setIfInBounds_toArray, List.set_cons_zero, List.set_cons_succ, List.cons_append, List.nil_append] at hM)
  (first | refine (reachable_any Wn Hn a n c xs a2 n2 c2 cs _ (h.ext hM.below) (h2.ext hM.below) hn25 ⟨p1, p2⟩ HD.out).mono ?_)
  rintro e wc8 ⟨a', m', c', rfl, hm⟩
  replace hM := hM.join hm
  clear hm
  (try simp only [World.size_alloc, World.size_setCell, World.heap_drewN, heapDrew, Nat.add_assoc, Nat.reduceAdd, List.setIfInBounds_toArray, List.set_cons_zero, List.set_cons_succ, List.cons_append, List.nil_append] at hM)
  go_wp2
  go_ret2
  exact ⟨_, _, _, by rw [HF.out]; rfl, by rw [HF.out]; exact hM.first⟩
end Go.Proofs.Ytkohfegajcmdbaa

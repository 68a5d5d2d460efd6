/-
  NeighborsOf, StepsApart, BurnableCells, Reachable: both sides.
-/
import Derived.Test.YtkohfegajcmdbaaNbrP
import Derived.Test.YtkohfegajcmdbaaNear4
import Derived.Test.YtkohfegajcmdbaaClear2
import Derived.Test.YtkohfegajcmdbaaReachS
namespace Go.Proofs.Ytkohfegajcmdbaa
set_option linter.unusedSimpArgs false
set_option linter.unusedVariables false
open Go.RowKit

def nbrR (W H : Int) (xs : List Int) (d : Int) : List Int × Bool := if goodB 20 W H xs && inB d 0 ((xs.length : Int) - 1) then (cellsN xs.length (nearN W.toNat d.toNat), true) else ([], false)
def stepR (W H : Int) (xs : List Int) (d b : Int) : Int × Bool := if goodB 20 W H xs && inB d 0 ((xs.length : Int) - 1) && inB b 0 ((xs.length : Int) - 1) then (apI W.toNat d.toNat b.toNat, true) else (0, false)
def burnR (W H : Int) (xs : List Int) : List Int × Bool := if goodB 20 W H xs then (cellsN xs.length (brn xs), true) else ([], false)
noncomputable def reachR (W H : Int) (xs cs : List Int) : List Int × Bool := if goodB 20 W H xs && setB xs.length cs then (reachL W.toNat xs.length xs (fun k => hasI cs k), true) else ([], false)
def LR2 (w : World) (r : List Int × Bool) (e : Ending) (w' : World) : Prop := ∃ a' m' c', e = .returned (.tuple #[.slice a' m' c', .bool r.2]) ∧ Mem w.heap.size w w' [intE a' m' c' r.1]
set_option maxRecDepth 100000 in
set_option maxHeartbeats 30000000 in
theorem l2Cell_any (W H : Int) (a : Option Addr) (n c : Nat) (xs : List Int) (d : Int) (w : World) (h : Ints w a n c xs) :
    Calls Try.prog 65 #[.agg #[.int .i64 W, .int .i64 H, .slice a n c], .int .i64 d] w (fun e w' => e = .returned (.bool (goodB 20 W H xs && inB d 0 ((n : Int) - 1))) ∧ Below w.heap.size w w') := by
  have hM := Mem.start w
  have hroom := h.room
  have HL := Lib.hid h.len
  have hwn : IntKind.i64.wrap ((n : Int) - 1) = (n : Int) - 1 := wrap_in (by omega)
  cases hg : goodB 20 W H xs
  · have HG := Lib.hid hg; clear hg
    go_enter Try.func65, Try.ntmps65
    go_wp2_with fail
    apply Mem.atA
    · (repeat' (first | with_reducible exact hM | with_reducible exact hMp | with_reducible apply Mem.drew | with_reducible apply Mem.drewN | with_reducible apply Mem.alloc | with_reducible apply Mem.set | with_reducible exact Sto.row | ((with_reducible refine Sto.rowEq2 ?_ ?_); omega; rfl) | ((with_reducible refine Sto.rowEq ?_); omega) | with_reducible apply Sto.int | with_reducible apply Sto.there | with_reducible assumption | (unfold I64; omega) | (with_reducible (have hMx := Mem.undrew hM; exact hMx)) | (with_reducible (have hMx := Mem.undrew hMp; exact hMx))))
    clear hM
    intro wst hM
    (try simp only [World.size_alloc, World.size_setCell, World.heap_drewN, heapDrew, Nat.add_assoc, Nat.reduceAdd, List.setIfInBounds_toArray, List.set_cons_zero, List.set_cons_succ, List.cons_append, List.nil_append] at hM)
    (first | refine (l2Good_any W H a n c xs _ (h.ext hM.below)).mono ?_)
    rw [HG.out]
    rintro e wc1 ⟨rfl, hb⟩
    replace hM := hM.ext hb
    clear hb
    go_wp2
    go_ret
    exact ⟨rfl, (by apply Mem.below; (repeat' (first | with_reducible exact hM | with_reducible exact hMp | with_reducible apply Mem.drew | with_reducible apply Mem.drewN | with_reducible apply Mem.alloc | with_reducible apply Mem.set | with_reducible exact Sto.row | ((with_reducible refine Sto.rowEq2 ?_ ?_); omega; rfl) | ((with_reducible refine Sto.rowEq ?_); omega) | with_reducible apply Sto.int | with_reducible apply Sto.there | with_reducible assumption | (unfold I64; omega) | (with_reducible (have hMx := Mem.undrew hM; exact hMx)) | (with_reducible (have hMx := Mem.undrew hMp; exact hMx)))))⟩
  · have HG := Lib.hid hg; clear hg
    obtain ⟨b, hb⟩ : ∃ b, inB d 0 ((n : Int) - 1) = b := ⟨_, rfl⟩
    have HB := Lib.hid hb; clear hb
    go_enter Try.func65, Try.ntmps65
    go_wp2_with fail
    apply Mem.atA
    · (repeat' (first | with_reducible exact hM | with_reducible exact hMp | with_reducible apply Mem.drew | with_reducible apply Mem.drewN | with_reducible apply Mem.alloc | with_reducible apply Mem.set | with_reducible exact Sto.row | ((with_reducible refine Sto.rowEq2 ?_ ?_); omega; rfl) | ((with_reducible refine Sto.rowEq ?_); omega) | with_reducible apply Sto.int | with_reducible apply Sto.there | with_reducible assumption | (unfold I64; omega) | (with_reducible (have hMx := Mem.undrew hM; exact hMx)) | (with_reducible (have hMx := Mem.undrew hMp; exact hMx))))
    clear hM
    intro wst hM
    (try simp only [World.size_alloc, World.size_setCell, World.heap_drewN, heapDrew, Nat.add_assoc, Nat.reduceAdd, List.setIfInBounds_toArray, List.set_cons_zero, List.set_cons_succ, List.cons_append, List.nil_append] at hM)
    (first | refine (l2Good_any W H a n c xs _ (h.ext hM.below)).mono ?_)
    rw [HG.out]
    rintro e wc2 ⟨rfl, hb⟩
    replace hM := hM.ext hb
    clear hb
    obtain ⟨k0, f0, l0⟩ := hM.row .here
    go_wp2_with fail
    clear k0 f0 l0
    apply Mem.atA
    · (repeat' (first | with_reducible exact hM | with_reducible exact hMp | with_reducible apply Mem.drew | with_reducible apply Mem.drewN | with_reducible apply Mem.alloc | with_reducible apply Mem.set | with_reducible exact Sto.row | ((with_reducible refine Sto.rowEq2 ?_ ?_); omega; rfl) | ((with_reducible refine Sto.rowEq ?_); omega) | with_reducible apply Sto.int | with_reducible apply Sto.there | with_reducible assumption | (unfold I64; omega) | (with_reducible (have hMx := Mem.undrew hM; exact hMx)) | (with_reducible (have hMx := Mem.undrew hMp; exact hMx))))
    clear hM
    intro wst hM
    (try simp only [World.size_alloc, World.size_setCell, World.heap_drewN, heapDrew, Nat.add_assoc, Nat.reduceAdd, List.setIfInBounds_toArray, List.set_cons_zero, List.set_cons_succ, List.cons_append, List.nil_append] at hM)
    (first | refine (l1In_any d 0 ((n : Int) - 1) _).mono ?_)
    rw [HB.out]
    rintro e wc3 ⟨rfl, rfl⟩
    go_wp2
    go_ret
    exact ⟨rb (by rw [HB.out]; rfl), (by apply Mem.below; (repeat' (first | with_reducible exact hM | with_reducible exact hMp | with_reducible apply Mem.drew | with_reducible apply Mem.drewN | with_reducible apply Mem.alloc | with_reducible apply Mem.set | with_reducible exact Sto.row | ((with_reducible refine Sto.rowEq2 ?_ ?_); omega; rfl) | ((with_reducible refine Sto.rowEq ?_); omega) | with_reducible apply Sto.int | with_reducible apply Sto.there | with_reducible assumption | (unfold I64; omega) | (with_reducible (have hMx := Mem.undrew hM; exact hMx)) | (with_reducible (have hMx := Mem.undrew hMp; exact hMx)))))⟩
set_option maxRecDepth 100000 in
set_option maxHeartbeats 30000000 in
theorem implNbr_any (W H : Int) (a : Option Addr) (n c : Nat) (xs : List Int) (d : Int) (w : World) (h : Ints w a n c xs) :
    Calls Try.prog 9 #[.agg #[.int .i64 W, .int .i64 H, .slice a n c], .int .i64 d] w ((LR2 w (nbrR W H xs d))) := by
  have hM := Mem.start w
  have HL := Lib.hid h.len
  cases hg : goodB 20 W H xs
  · have HF := Lib.hid (show nbrR W H xs d = ([], false) by rw [nbrR, hg]; rfl)
    have HG := Lib.hid hg; clear hg
    go_enter Try.func9, Try.ntmps9
    go_wp2_with fail
    apply Mem.atA
    · (repeat' (first | with_reducible exact hM | with_reducible exact hMp | with_reducible apply Mem.drew | with_reducible apply Mem.drewN | with_reducible apply Mem.alloc | with_reducible apply Mem.set | with_reducible exact Sto.row | ((with_reducible refine Sto.rowEq2 ?_ ?_); omega; rfl) | ((with_reducible refine Sto.rowEq ?_); omega) | with_reducible apply Sto.int | with_reducible apply Sto.there | with_reducible assumption | (unfold I64; omega) | (with_reducible (have hMx := Mem.undrew hM; exact hMx)) | (with_reducible (have hMx := Mem.undrew hMp; exact hMx))))
    clear hM
    intro wst hM
    (try simp only [World.size_alloc, World.size_setCell, World.heap_drewN, heapDrew, Nat.add_assoc, Nat.reduceAdd, List.setIfInBounds_toArray, List.set_cons_zero, List.set_cons_succ, List.cons_append, List.nil_append] at hM)
    (first | refine (IsTerrain_any W H a n c xs _ (h.ext hM.below)).mono ?_)
    rw [HG.out]
    rintro e wc4 ⟨rfl, hb⟩
    replace hM := hM.ext hb
    clear hb
    go_wp2
    go_ret2
    exact ⟨_, _, _, by rw [HF.out]; rfl, by rw [HF.out]; exact hM.nilInts⟩
  obtain ⟨Wn, Hn, rfl, rfl, p1, p2, p3, p4, hlen, h25, hall⟩ := goodB_true hg
  have hn25 : n ≤ 25 := by rw [← HL.out]; exact h25
  clear hlen h25 hall
  cases hd : inB d 0 ((n : Int) - 1)
  · have HF := Lib.hid (show nbrR Wn Hn xs d = ([], false) by rw [nbrR, hg, HL.out, hd]; rfl)
    have HG := Lib.hid hg; have HD := Lib.hid hd; clear hg hd
    go_enter Try.func9, Try.ntmps9
    go_wp2_with fail
    apply Mem.atA
    · (repeat' (first | with_reducible exact hM | with_reducible exact hMp | with_reducible apply Mem.drew | with_reducible apply Mem.drewN | with_reducible apply Mem.alloc | with_reducible apply Mem.set | with_reducible exact Sto.row | ((with_reducible refine Sto.rowEq2 ?_ ?_); omega; rfl) | ((with_reducible refine Sto.rowEq ?_); omega) | with_reducible apply Sto.int | with_reducible apply Sto.there | with_reducible assumption | (unfold I64; omega) | (with_reducible (have hMx := Mem.undrew hM; exact hMx)) | (with_reducible (have hMx := Mem.undrew hMp; exact hMx))))
    clear hM
    intro wst hM
    (try simp only [World.size_alloc, World.size_setCell, World.heap_drewN, heapDrew, Nat.add_assoc, Nat.reduceAdd, List.setIfInBounds_toArray, List.set_cons_zero, List.set_cons_succ, List.cons_append, List.nil_append] at hM)
    (first | refine (IsTerrain_any Wn Hn a n c xs _ (h.ext hM.below)).mono ?_)
    rw [HG.out]
    rintro e wc5 ⟨rfl, hb⟩
    replace hM := hM.ext hb
    clear hb
    obtain ⟨k0, f0, l0⟩ := hM.row .here
    go_wp2_with fail
    clear k0 f0 l0
    apply Mem.atA
    · (repeat' (first | with_reducible exact hM | with_reducible exact hMp | with_reducible apply Mem.drew | with_reducible apply Mem.drewN | with_reducible apply Mem.alloc | with_reducible apply Mem.set | with_reducible exact Sto.row | ((with_reducible refine Sto.rowEq2 ?_ ?_); omega; rfl) | ((with_reducible refine Sto.rowEq ?_); omega) | with_reducible apply Sto.int | with_reducible apply Sto.there | with_reducible assumption | (unfold I64; omega) | (with_reducible (have hMx := Mem.undrew hM; exact hMx)) | (with_reducible (have hMx := Mem.undrew hMp; exact hMx))))
    clear hM
    intro wst hM
    (try simp only [World.size_alloc, World.size_setCell, World.heap_drewN, heapDrew, Nat.add_assoc, Nat.reduceAdd, List.setIfInBounds_toArray, List.set_cons_zero, List.set_cons_succ, List.cons_append, List.nil_append] at hM)
    (first | refine (isCell_any Wn Hn a n c d _ hn25).mono ?_)
    rw [HD.out]
    rintro e wc6 ⟨rfl, hb⟩
    replace hM := hM.ext hb
    clear hb
    go_wp2
    go_ret2
    exact ⟨_, _, _, by rw [HF.out]; rfl, by rw [HF.out]; exact hM.nilInts⟩
  obtain ⟨d0, d1⟩ := inB_true hd
  obtain ⟨dn, rfl⟩ := Int.eq_ofNat_of_zero_le d0
  have HF := Lib.hid (show nbrR Wn Hn xs (dn : Int) = (cellsN n (nearN Wn dn), true) by rw [nbrR, hg, HL.out, hd]; rfl)
  have HG := Lib.hid hg; have HD := Lib.hid hd; clear hg hd
  go_enter Try.func9, Try.ntmps9
  go_wp2_with fail
  apply Mem.atA
  · (repeat' (first | with_reducible exact hM | with_reducible exact hMp | with_reducible apply Mem.drew | with_reducible apply Mem.drewN | with_reducible apply Mem.alloc | with_reducible apply Mem.set | with_reducible exact Sto.row | ((with_reducible refine Sto.rowEq2 ?_ ?_); omega; rfl) | ((with_reducible refine Sto.rowEq ?_); omega) | with_reducible apply Sto.int | with_reducible apply Sto.there | with_reducible assumption | (unfold I64; omega) | (with_reducible (have hMx := Mem.undrew hM; exact hMx)) | (with_reducible (have hMx := Mem.undrew hMp; exact hMx))))
  clear hM
  intro wst hM
  (try simp only [World.size_alloc, World.size_setCell, World.heap_drewN, heapDrew, Nat.add_assoc, Nat.reduceAdd, List.setIfInBounds_toArray, List.set_cons_zero, List.set_cons_succ, List.cons_append, List.nil_append] at hM)
  (first | refine (IsTerrain_any Wn Hn a n c xs _ (h.ext hM.below)).mono ?_)
  rw [HG.out]
  rintro e wc7 ⟨rfl, hb⟩
  replace hM := hM.ext hb
  clear hb
  obtain ⟨k0, f0, l0⟩ := hM.row .here
  go_wp2_with fail
  clear k0 f0 l0
  apply Mem.atA
  · (repeat' (first | with_reducible exact hM | with_reducible exact hMp | with_reducible apply Mem.drew | with_reducible apply Mem.drewN | with_reducible apply Mem.alloc | with_reducible apply Mem.set | with_reducible exact Sto.row | ((with_reducible refine Sto.rowEq2 ?_ ?_); omega; rfl) | ((with_reducible refine Sto.rowEq ?_); omega) | with_reducible apply Sto.int | with_reducible apply Sto.there | with_reducible assumption | (unfold I64; omega) | (with_reducible (have hMx := Mem.undrew hM; exact hMx)) | (with_reducible (have hMx := Mem.undrew hMp; exact hMx))))
  clear hM
  intro wst hM
  (try simp only [World.size_alloc, World.size_setCell, World.heap_drewN, heapDrew, Nat.add_assoc, Nat.reduceAdd, List.setIfInBounds_toArray, List.set_cons_zero, List.set_cons_succ, List.cons_append, List.nil_append] at hM)
  (first | refine (isCell_any Wn Hn a n c dn _ hn25).mono ?_)
  rw [HD.out]
  rintro e wc8 ⟨rfl, hb⟩
  replace hM := hM.ext hb
  clear hb
  obtain ⟨k0, f0, l0⟩ := hM.row .here
  go_wp2_with fail
  clear k0 f0 l0
  apply Mem.atA
  · (repeat' (first | with_reducible exact hM | with_reducible exact hMp | with_reducible apply Mem.drew | with_reducible apply Mem.drewN | with_reducible apply Mem.alloc | with_reducible apply Mem.set | with_reducible exact Sto.row | ((with_reducible refine Sto.rowEq2 ?_ ?_); omega; rfl) | ((with_reducible refine Sto.rowEq ?_); omega) | with_reducible apply Sto.int | with_reducible apply Sto.there | with_reducible assumption | (unfold I64; omega) | (with_reducible (have hMx := Mem.undrew hM; exact hMx)) | (with_reducible (have hMx := Mem.undrew hMp; exact hMx))))
  clear hM
  intro wst hM
  (try simp only [World.size_alloc, World.size_setCell, World.heap_drewN, heapDrew, Nat.add_assoc, Nat.reduceAdd, List.setIfInBounds_toArray, List.set_cons_zero, List.set_cons_succ, List.cons_append, List.nil_append] at hM)
  (first | refine (neighbors_any Wn Hn a n c xs dn _ (h.ext hM.below) hn25 ⟨p1, p2⟩ (by omega)).mono ?_)
  rintro e wc9 ⟨a', m', c', rfl, hm⟩
  replace hM := hM.join hm
  clear hm
  (try simp only [World.size_alloc, World.size_setCell, World.heap_drewN, heapDrew, Nat.add_assoc, Nat.reduceAdd, List.setIfInBounds_toArray, List.set_cons_zero, List.set_cons_succ, List.cons_append, List.nil_append] at hM)
  go_wp2
  go_ret2
  exact ⟨_, _, _, by rw [HF.out]; rfl, by rw [HF.out]; exact hM.first⟩
set_option maxRecDepth 100000 in
set_option maxHeartbeats 30000000 in
theorem specNbr_any (W H : Int) (a : Option Addr) (n c : Nat) (xs : List Int) (d : Int) (w : World) (h : Ints w a n c xs) :
    Calls Try.prog 10 #[.agg #[.int .i64 W, .int .i64 H, .slice a n c], .int .i64 d] w ((LR2 w (nbrR W H xs d))) := by
  have hM := Mem.start w
  have HL := Lib.hid h.len
  obtain ⟨g, hg⟩ : ∃ g, (goodB 20 W H xs && inB d 0 ((n : Int) - 1)) = g := ⟨_, rfl⟩
  have hF : nbrR W H xs d = if g then (cellsN n (nearN W.toNat d.toNat), true) else ([], false) := by rw [nbrR, HL.out, hg]
  cases g
  · have HF := Lib.hid (show nbrR W H xs d = ([], false) from hF)
    have HG := Lib.hid hg; clear hg hF
    go_enter Try.func10, Try.ntmps10
    go_wp2_with fail
    apply Mem.atA
    · (repeat' (first | with_reducible exact hM | with_reducible exact hMp | with_reducible apply Mem.drew | with_reducible apply Mem.drewN | with_reducible apply Mem.alloc | with_reducible apply Mem.set | with_reducible exact Sto.row | ((with_reducible refine Sto.rowEq2 ?_ ?_); omega; rfl) | ((with_reducible refine Sto.rowEq ?_); omega) | with_reducible apply Sto.int | with_reducible apply Sto.there | with_reducible assumption | (unfold I64; omega) | (with_reducible (have hMx := Mem.undrew hM; exact hMx)) | (with_reducible (have hMx := Mem.undrew hMp; exact hMx))))
    clear hM
    intro wst hM
    (try simp only [World.size_alloc, World.size_setCell, World.heap_drewN, heapDrew, Nat.add_assoc, Nat.reduceAdd, List.setIfInBounds_toArray, List.set_cons_zero, List.set_cons_succ, List.cons_append, List.nil_append] at hM)
    (first | refine (l2Cell_any W H a n c xs d _ (h.ext hM.below)).mono ?_)
    rw [HG.out]
    rintro e wc10 ⟨rfl, hb⟩
    replace hM := hM.ext hb
    clear hb
    go_wp2
    go_ret2
    exact ⟨_, _, _, by rw [HF.out]; rfl, by
      rw [HF.out]
      apply Mem.toInts0
      (repeat' (first | with_reducible exact hM | with_reducible exact hMp | with_reducible apply Mem.drew | with_reducible apply Mem.drewN | with_reducible apply Mem.alloc | with_reducible apply Mem.set | with_reducible exact Sto.row | ((with_reducible refine Sto.rowEq2 ?_ ?_); omega; rfl) | ((with_reducible refine Sto.rowEq ?_); omega) | with_reducible apply Sto.int | with_reducible apply Sto.there | with_reducible assumption | (unfold I64; omega) | (with_reducible (have hMx := Mem.undrew hM; exact hMx)) | (with_reducible (have hMx := Mem.undrew hMp; exact hMx))))⟩
  rw [Bool.and_eq_true] at hg
  obtain ⟨Wn, Hn, rfl, rfl, p1, p2, p3, p4, hlen, h25, hall⟩ := goodB_true hg.1
  have hn25 : n ≤ 25 := by rw [← HL.out]; exact h25
  clear hlen h25 hall
  obtain ⟨d0, d1⟩ := inB_true hg.2
  obtain ⟨dn, rfl⟩ := Int.eq_ofNat_of_zero_le d0
  have HF := Lib.hid (show nbrR Wn Hn xs (dn : Int) = (cellsN n (nearN Wn dn), true) from hF)
  have HG := Lib.hid (show (goodB 20 Wn Hn xs && inB dn 0 ((n : Int) - 1)) = true by rw [hg.1, hg.2]; rfl)
  clear hg hF
  go_enter Try.func10, Try.ntmps10
  go_wp2_with fail
  apply Mem.atA
  · (repeat' (first | with_reducible exact hM | with_reducible exact hMp | with_reducible apply Mem.drew | with_reducible apply Mem.drewN | with_reducible apply Mem.alloc | with_reducible apply Mem.set | with_reducible exact Sto.row | ((with_reducible refine Sto.rowEq2 ?_ ?_); omega; rfl) | ((with_reducible refine Sto.rowEq ?_); omega) | with_reducible apply Sto.int | with_reducible apply Sto.there | with_reducible assumption | (unfold I64; omega) | (with_reducible (have hMx := Mem.undrew hM; exact hMx)) | (with_reducible (have hMx := Mem.undrew hMp; exact hMx))))
  clear hM
  intro wst hM
  (try simp only [World.size_alloc, World.size_setCell, World.heap_drewN, heapDrew, Nat.add_assoc, Nat.reduceAdd, List.setIfInBounds_toArray, List.set_cons_zero, List.set_cons_succ, List.cons_append, List.nil_append] at hM)
  (first | refine (l2Cell_any Wn Hn a n c xs dn _ (h.ext hM.below)).mono ?_)
  rw [HG.out]
  rintro e wc11 ⟨rfl, hb⟩
  replace hM := hM.ext hb
  clear hb
  obtain ⟨k0, f0, l0⟩ := hM.row .here
  go_wp2_with fail
  clear k0 f0 l0
  apply Mem.atA
  · (repeat' (first | with_reducible exact hM | with_reducible exact hMp | with_reducible apply Mem.drew | with_reducible apply Mem.drewN | with_reducible apply Mem.alloc | with_reducible apply Mem.set | with_reducible exact Sto.row | ((with_reducible refine Sto.rowEq2 ?_ ?_); omega; rfl) | ((with_reducible refine Sto.rowEq ?_); omega) | with_reducible apply Sto.int | with_reducible apply Sto.there | with_reducible assumption | (unfold I64; omega) | (with_reducible (have hMx := Mem.undrew hM; exact hMx)) | (with_reducible (have hMx := Mem.undrew hMp; exact hMx))))
  clear hM
  intro wst hM
  (try simp only [World.size_alloc, World.size_setCell, World.heap_drewN, heapDrew, Nat.add_assoc, Nat.reduceAdd, List.setIfInBounds_toArray, List.set_cons_zero, List.set_cons_succ, List.cons_append, List.nil_append] at hM)
  (first | refine (l2Near_any Wn Hn a n c xs dn _ (h.ext hM.below) hn25 ⟨p1, p2⟩ (by omega)).mono ?_)
  rintro e wc12 ⟨a', m', c', rfl, hm⟩
  replace hM := hM.join hm
  clear hm
  (try simp only [World.size_alloc, World.size_setCell, World.heap_drewN, heapDrew, Nat.add_assoc, Nat.reduceAdd, List.setIfInBounds_toArray, List.set_cons_zero, List.set_cons_succ, List.cons_append, List.nil_append] at hM)
  go_wp2
  go_ret2
  exact ⟨_, _, _, by rw [HF.out]; rfl, by rw [HF.out]; exact hM.first⟩
set_option maxRecDepth 100000 in
set_option maxHeartbeats 30000000 in
theorem implStep_any (W H : Int) (a : Option Addr) (n c : Nat) (xs : List Int) (d : Int) (b : Int) (w : World) (h : Ints w a n c xs) :
    Calls Try.prog 12 #[.agg #[.int .i64 W, .int .i64 H, .slice a n c], .int .i64 d, .int .i64 b] w ((fun e w' => e = .returned (.tuple #[.int .i64 (stepR W H xs d b).1, .bool (stepR W H xs d b).2]) ∧ Below w.heap.size w w')) := by
  have hM := Mem.start w
  have HL := Lib.hid h.len
  cases hg : goodB 20 W H xs
  · have HF := Lib.hid (show stepR W H xs d b = (0, false) by rw [stepR, hg]; rfl)
    have HG := Lib.hid hg; clear hg
    go_enter Try.func12, Try.ntmps12
    go_wp2_with fail
    apply Mem.atA
    · (repeat' (first | with_reducible exact hM | with_reducible exact hMp | with_reducible apply Mem.drew | with_reducible apply Mem.drewN | with_reducible apply Mem.alloc | with_reducible apply Mem.set | with_reducible exact Sto.row | ((with_reducible refine Sto.rowEq2 ?_ ?_); omega; rfl) | ((with_reducible refine Sto.rowEq ?_); omega) | with_reducible apply Sto.int | with_reducible apply Sto.there | with_reducible assumption | (unfold I64; omega) | (with_reducible (have hMx := Mem.undrew hM; exact hMx)) | (with_reducible (have hMx := Mem.undrew hMp; exact hMx))))
    clear hM
    intro wst hM
    (try simp only [World.size_alloc, World.size_setCell, World.heap_drewN, heapDrew, Nat.add_assoc, Nat.reduceAdd, List.setIfInBounds_toArray, List.set_cons_zero, List.set_cons_succ, List.cons_append, List.nil_append] at hM)
    (first | refine (IsTerrain_any W H a n c xs _ (h.ext hM.below)).mono ?_)
    rw [HG.out]
    rintro e wc13 ⟨rfl, hb⟩
    replace hM := hM.ext hb
    clear hb
    go_wp2
    go_ret2
    exact ⟨by rw [HF.out]; rfl, (by apply Mem.below; (repeat' (first | with_reducible exact hM | with_reducible exact hMp | with_reducible apply Mem.drew | with_reducible apply Mem.drewN | with_reducible apply Mem.alloc | with_reducible apply Mem.set | with_reducible exact Sto.row | ((with_reducible refine Sto.rowEq2 ?_ ?_); omega; rfl) | ((with_reducible refine Sto.rowEq ?_); omega) | with_reducible apply Sto.int | with_reducible apply Sto.there | with_reducible assumption | (unfold I64; omega) | (with_reducible (have hMx := Mem.undrew hM; exact hMx)) | (with_reducible (have hMx := Mem.undrew hMp; exact hMx)))))⟩
  obtain ⟨Wn, Hn, rfl, rfl, p1, p2, p3, p4, hlen, h25, hall⟩ := goodB_true hg
  have hn25 : n ≤ 25 := by rw [← HL.out]; exact h25
  clear hlen h25 hall
  cases hd : inB d 0 ((n : Int) - 1)
  · have HF := Lib.hid (show stepR Wn Hn xs d b = (0, false) by rw [stepR, hg, HL.out, hd]; rfl)
    have HG := Lib.hid hg; have HD := Lib.hid hd; clear hg hd
    go_enter Try.func12, Try.ntmps12
    go_wp2_with fail
    apply Mem.atA
    · (repeat' (first | with_reducible exact hM | with_reducible exact hMp | with_reducible apply Mem.drew | with_reducible apply Mem.drewN | with_reducible apply Mem.alloc | with_reducible apply Mem.set | with_reducible exact Sto.row | ((with_reducible refine Sto.rowEq2 ?_ ?_); omega; rfl) | ((with_reducible refine Sto.rowEq ?_); omega) | with_reducible apply Sto.int | with_reducible apply Sto.there | with_reducible assumption | (unfold I64; omega) | (with_reducible (have hMx := Mem.undrew hM; exact hMx)) | (with_reducible (have hMx := Mem.undrew hMp; exact hMx))))
    clear hM
    intro wst hM
    (try simp only [World.size_alloc, World.size_setCell, World.heap_drewN, heapDrew, Nat.add_assoc, Nat.reduceAdd, List.setIfInBounds_toArray, List.set_cons_zero, List.set_cons_succ, List.cons_append, List.nil_append] at hM)
    (first | refine (IsTerrain_any Wn Hn a n c xs _ (h.ext hM.below)).mono ?_)
    rw [HG.out]
    rintro e wc14 ⟨rfl, hb⟩
    replace hM := hM.ext hb
    clear hb
    obtain ⟨k0, f0, l0⟩ := hM.row .here
    go_wp2_with fail
    clear k0 f0 l0
    apply Mem.atA
    · (repeat' (first | with_reducible exact hM | with_reducible exact hMp | with_reducible apply Mem.drew | with_reducible apply Mem.drewN | with_reducible apply Mem.alloc | with_reducible apply Mem.set | with_reducible exact Sto.row | ((with_reducible refine Sto.rowEq2 ?_ ?_); omega; rfl) | ((with_reducible refine Sto.rowEq ?_); omega) | with_reducible apply Sto.int | with_reducible apply Sto.there | with_reducible assumption | (unfold I64; omega) | (with_reducible (have hMx := Mem.undrew hM; exact hMx)) | (with_reducible (have hMx := Mem.undrew hMp; exact hMx))))
    clear hM
    intro wst hM
    (try simp only [World.size_alloc, World.size_setCell, World.heap_drewN, heapDrew, Nat.add_assoc, Nat.reduceAdd, List.setIfInBounds_toArray, List.set_cons_zero, List.set_cons_succ, List.cons_append, List.nil_append] at hM)
    (first | refine (isCell_any Wn Hn a n c d _ hn25).mono ?_)
    rw [HD.out]
    rintro e wc15 ⟨rfl, hb⟩
    replace hM := hM.ext hb
    clear hb
    go_wp2
    go_ret2
    exact ⟨by rw [HF.out]; rfl, (by apply Mem.below; (repeat' (first | with_reducible exact hM | with_reducible exact hMp | with_reducible apply Mem.drew | with_reducible apply Mem.drewN | with_reducible apply Mem.alloc | with_reducible apply Mem.set | with_reducible exact Sto.row | ((with_reducible refine Sto.rowEq2 ?_ ?_); omega; rfl) | ((with_reducible refine Sto.rowEq ?_); omega) | with_reducible apply Sto.int | with_reducible apply Sto.there | with_reducible assumption | (unfold I64; omega) | (with_reducible (have hMx := Mem.undrew hM; exact hMx)) | (with_reducible (have hMx := Mem.undrew hMp; exact hMx)))))⟩
  cases hb : inB b 0 ((n : Int) - 1)
  · have HF := Lib.hid (show stepR Wn Hn xs d b = (0, false) by rw [stepR, hg, HL.out, hd, hb]; rfl)
    have HG := Lib.hid hg; have HD := Lib.hid hd; have HB := Lib.hid hb; clear hg hd hb
    go_enter Try.func12, Try.ntmps12
    go_wp2_with fail
    apply Mem.atA
    · (repeat' (first | with_reducible exact hM | with_reducible exact hMp | with_reducible apply Mem.drew | with_reducible apply Mem.drewN | with_reducible apply Mem.alloc | with_reducible apply Mem.set | with_reducible exact Sto.row | ((with_reducible refine Sto.rowEq2 ?_ ?_); omega; rfl) | ((with_reducible refine Sto.rowEq ?_); omega) | with_reducible apply Sto.int | with_reducible apply Sto.there | with_reducible assumption | (unfold I64; omega) | (with_reducible (have hMx := Mem.undrew hM; exact hMx)) | (with_reducible (have hMx := Mem.undrew hMp; exact hMx))))
    clear hM
    intro wst hM
    (try simp only [World.size_alloc, World.size_setCell, World.heap_drewN, heapDrew, Nat.add_assoc, Nat.reduceAdd, List.setIfInBounds_toArray, List.set_cons_zero, List.set_cons_succ, List.cons_append, List.nil_append] at hM)
    (first | refine (IsTerrain_any Wn Hn a n c xs _ (h.ext hM.below)).mono ?_)
    rw [HG.out]
    rintro e wc16 ⟨rfl, hb⟩
    replace hM := hM.ext hb
    clear hb
    obtain ⟨k0, f0, l0⟩ := hM.row .here
    go_wp2_with fail
    clear k0 f0 l0
    apply Mem.atA
    · (repeat' (first | with_reducible exact hM | with_reducible exact hMp | with_reducible apply Mem.drew | with_reducible apply Mem.drewN | with_reducible apply Mem.alloc | with_reducible apply Mem.set | with_reducible exact Sto.row | ((with_reducible refine Sto.rowEq2 ?_ ?_); omega; rfl) | ((with_reducible refine Sto.rowEq ?_); omega) | with_reducible apply Sto.int | with_reducible apply Sto.there | with_reducible assumption | (unfold I64; omega) | (with_reducible (have hMx := Mem.undrew hM; exact hMx)) | (with_reducible (have hMx := Mem.undrew hMp; exact hMx))))
    clear hM
    intro wst hM
    (try simp only [World.size_alloc, World.size_setCell, World.heap_drewN, heapDrew, Nat.add_assoc, Nat.reduceAdd, List.setIfInBounds_toArray, List.set_cons_zero, List.set_cons_succ, List.cons_append, List.nil_append] at hM)
    (first | refine (isCell_any Wn Hn a n c d _ hn25).mono ?_)
    rw [HD.out]
    rintro e wc17 ⟨rfl, hb⟩
    replace hM := hM.ext hb
    clear hb
    obtain ⟨k0, f0, l0⟩ := hM.row .here
    go_wp2_with fail
    clear k0 f0 l0
    apply Mem.atA
    · (repeat' (first | with_reducible exact hM | with_reducible exact hMp | with_reducible apply Mem.drew | with_reducible apply Mem.drewN | with_reducible apply Mem.alloc | with_reducible apply Mem.set | with_reducible exact Sto.row | ((with_reducible refine Sto.rowEq2 ?_ ?_); omega; rfl) | ((with_reducible refine Sto.rowEq ?_); omega) | with_reducible apply Sto.int | with_reducible apply Sto.there | with_reducible assumption | (unfold I64; omega) | (with_reducible (have hMx := Mem.undrew hM; exact hMx)) | (with_reducible (have hMx := Mem.undrew hMp; exact hMx))))
    clear hM
    intro wst hM
    (try simp only [World.size_alloc, World.size_setCell, World.heap_drewN, heapDrew, Nat.add_assoc, Nat.reduceAdd, List.setIfInBounds_toArray, List.set_cons_zero, List.set_cons_succ, List.cons_append, List.nil_append] at hM)
    (first | refine (isCell_any Wn Hn a n c b _ hn25).mono ?_)
    rw [HB.out]
    rintro e wc18 ⟨rfl, hb⟩
    replace hM := hM.ext hb
    clear hb
    go_wp2
    go_ret2
    exact ⟨by rw [HF.out]; rfl, (by apply Mem.below; (repeat' (first | with_reducible exact hM | with_reducible exact hMp | with_reducible apply Mem.drew | with_reducible apply Mem.drewN | with_reducible apply Mem.alloc | with_reducible apply Mem.set | with_reducible exact Sto.row | ((with_reducible refine Sto.rowEq2 ?_ ?_); omega; rfl) | ((with_reducible refine Sto.rowEq ?_); omega) | with_reducible apply Sto.int | with_reducible apply Sto.there | with_reducible assumption | (unfold I64; omega) | (with_reducible (have hMx := Mem.undrew hM; exact hMx)) | (with_reducible (have hMx := Mem.undrew hMp; exact hMx)))))⟩
  obtain ⟨d0, d1⟩ := inB_true hd
  obtain ⟨dn, rfl⟩ := Int.eq_ofNat_of_zero_le d0
  obtain ⟨b0, b1⟩ := inB_true hb
  obtain ⟨bn, rfl⟩ := Int.eq_ofNat_of_zero_le b0
  have HF := Lib.hid (show stepR Wn Hn xs (dn : Int) (bn : Int) = (apI Wn dn bn, true) by rw [stepR, hg, HL.out, hd, hb]; rfl)
  have HG := Lib.hid hg; have HD := Lib.hid hd; have HB := Lib.hid hb; clear hg hd hb
  go_enter Try.func12, Try.ntmps12
  go_wp2_with fail
  apply Mem.atA
  · (repeat' (first | with_reducible exact hM | with_reducible exact hMp | with_reducible apply Mem.drew | with_reducible apply Mem.drewN | with_reducible apply Mem.alloc | with_reducible apply Mem.set | with_reducible exact Sto.row | ((with_reducible refine Sto.rowEq2 ?_ ?_); omega; rfl) | ((with_reducible refine Sto.rowEq ?_); omega) | with_reducible apply Sto.int | with_reducible apply Sto.there | with_reducible assumption | (unfold I64; omega) | (with_reducible (have hMx := Mem.undrew hM; exact hMx)) | (with_reducible (have hMx := Mem.undrew hMp; exact hMx))))
  clear hM
  intro wst hM
  (try simp only [World.size_alloc, World.size_setCell, World.heap_drewN, heapDrew, Nat.add_assoc, Nat.reduceAdd, List.setIfInBounds_toArray, List.set_cons_zero, List.set_cons_succ, List.cons_append, List.nil_append] at hM)
  (first | refine (IsTerrain_any Wn Hn a n c xs _ (h.ext hM.below)).mono ?_)
  rw [HG.out]
  rintro e wc19 ⟨rfl, hb⟩
  replace hM := hM.ext hb
  clear hb
  obtain ⟨k0, f0, l0⟩ := hM.row .here
  go_wp2_with fail
  clear k0 f0 l0
  apply Mem.atA
  · (repeat' (first | with_reducible exact hM | with_reducible exact hMp | with_reducible apply Mem.drew | with_reducible apply Mem.drewN | with_reducible apply Mem.alloc | with_reducible apply Mem.set | with_reducible exact Sto.row | ((with_reducible refine Sto.rowEq2 ?_ ?_); omega; rfl) | ((with_reducible refine Sto.rowEq ?_); omega) | with_reducible apply Sto.int | with_reducible apply Sto.there | with_reducible assumption | (unfold I64; omega) | (with_reducible (have hMx := Mem.undrew hM; exact hMx)) | (with_reducible (have hMx := Mem.undrew hMp; exact hMx))))
  clear hM
  intro wst hM
  (try simp only [World.size_alloc, World.size_setCell, World.heap_drewN, heapDrew, Nat.add_assoc, Nat.reduceAdd, List.setIfInBounds_toArray, List.set_cons_zero, List.set_cons_succ, List.cons_append, List.nil_append] at hM)
  (first | refine (isCell_any Wn Hn a n c dn _ hn25).mono ?_)
  rw [HD.out]
  rintro e wc20 ⟨rfl, hb⟩
  replace hM := hM.ext hb
  clear hb
  obtain ⟨k0, f0, l0⟩ := hM.row .here
  go_wp2_with fail
  clear k0 f0 l0
  apply Mem.atA
  · (repeat' (first | with_reducible exact hM | with_reducible exact hMp | with_reducible apply Mem.drew | with_reducible apply Mem.drewN | with_reducible apply Mem.alloc | with_reducible apply Mem.set | with_reducible exact Sto.row | ((with_reducible refine Sto.rowEq2 ?_ ?_); omega; rfl) | ((with_reducible refine Sto.rowEq ?_); omega) | with_reducible apply Sto.int | with_reducible apply Sto.there | with_reducible assumption | (unfold I64; omega) | (with_reducible (have hMx := Mem.undrew hM; exact hMx)) | (with_reducible (have hMx := Mem.undrew hMp; exact hMx))))
  clear hM
  intro wst hM
  (try simp only [World.size_alloc, World.size_setCell, World.heap_drewN, heapDrew, Nat.add_assoc, Nat.reduceAdd, List.setIfInBounds_toArray, List.set_cons_zero, List.set_cons_succ, List.cons_append, List.nil_append] at hM)
  (first | refine (isCell_any Wn Hn a n c bn _ hn25).mono ?_)
  rw [HB.out]
  rintro e wc21 ⟨rfl, hb⟩
  replace hM := hM.ext hb
  clear hb
  obtain ⟨k0, f0, l0⟩ := hM.row .here
  go_wp2_with fail
  clear k0 f0 l0
  apply Mem.atA
  · (repeat' (first | with_reducible exact hM | with_reducible exact hMp | with_reducible apply Mem.drew | with_reducible apply Mem.drewN | with_reducible apply Mem.alloc | with_reducible apply Mem.set | with_reducible exact Sto.row | ((with_reducible refine Sto.rowEq2 ?_ ?_); omega; rfl) | ((with_reducible refine Sto.rowEq ?_); omega) | with_reducible apply Sto.int | with_reducible apply Sto.there | with_reducible assumption | (unfold I64; omega) | (with_reducible (have hMx := Mem.undrew hM; exact hMx)) | (with_reducible (have hMx := Mem.undrew hMp; exact hMx))))
  clear hM
  intro wst hM
  (try simp only [World.size_alloc, World.size_setCell, World.heap_drewN, heapDrew, Nat.add_assoc, Nat.reduceAdd, List.setIfInBounds_toArray, List.set_cons_zero, List.set_cons_succ, List.cons_append, List.nil_append] at hM)
  (first | refine (apart_any Wn Hn _ dn bn _ ⟨p1, p2⟩ (by omega) (by omega)).mono ?_)
  rintro e wc22 ⟨rfl, hb⟩
  replace hM := hM.ext hb
  clear hb
  go_wp2
  go_ret2
  exact ⟨by rw [HF.out]; rfl, (by apply Mem.below; (repeat' (first | with_reducible exact hM | with_reducible exact hMp | with_reducible apply Mem.drew | with_reducible apply Mem.drewN | with_reducible apply Mem.alloc | with_reducible apply Mem.set | with_reducible exact Sto.row | ((with_reducible refine Sto.rowEq2 ?_ ?_); omega; rfl) | ((with_reducible refine Sto.rowEq ?_); omega) | with_reducible apply Sto.int | with_reducible apply Sto.there | with_reducible assumption | (unfold I64; omega) | (with_reducible (have hMx := Mem.undrew hM; exact hMx)) | (with_reducible (have hMx := Mem.undrew hMp; exact hMx)))))⟩
set_option maxRecDepth 100000 in
set_option maxHeartbeats 30000000 in
theorem specStep_any (W H : Int) (a : Option Addr) (n c : Nat) (xs : List Int) (d : Int) (b : Int) (w : World) (h : Ints w a n c xs) :
    Calls Try.prog 15 #[.agg #[.int .i64 W, .int .i64 H, .slice a n c], .int .i64 d, .int .i64 b] w ((fun e w' => e = .returned (.tuple #[.int .i64 (stepR W H xs d b).1, .bool (stepR W H xs d b).2]) ∧ Below w.heap.size w w')) := by
  have hM := Mem.start w
  have HL := Lib.hid h.len
  obtain ⟨g, hg⟩ : ∃ g, (goodB 20 W H xs && inB d 0 ((n : Int) - 1)) = g := ⟨_, rfl⟩
  have hF : stepR W H xs d b = if g && inB b 0 ((n : Int) - 1) then (apI W.toNat d.toNat b.toNat, true) else (0, false) := by rw [stepR, HL.out, hg]
  cases g
  · have HF := Lib.hid (show stepR W H xs d b = (0, false) from hF)
    have HG := Lib.hid hg; clear hg hF
    go_enter Try.func15, Try.ntmps15
    go_wp2_with fail
    apply Mem.atA
    · (repeat' (first | with_reducible exact hM | with_reducible exact hMp | with_reducible apply Mem.drew | with_reducible apply Mem.drewN | with_reducible apply Mem.alloc | with_reducible apply Mem.set | with_reducible exact Sto.row | ((with_reducible refine Sto.rowEq2 ?_ ?_); omega; rfl) | ((with_reducible refine Sto.rowEq ?_); omega) | with_reducible apply Sto.int | with_reducible apply Sto.there | with_reducible assumption | (unfold I64; omega) | (with_reducible (have hMx := Mem.undrew hM; exact hMx)) | (with_reducible (have hMx := Mem.undrew hMp; exact hMx))))
    clear hM
    intro wst hM
    (try simp only [World.size_alloc, World.size_setCell, World.heap_drewN, heapDrew, Nat.add_assoc, Nat.reduceAdd, List.setIfInBounds_toArray, List.set_cons_zero, List.set_cons_succ, List.cons_append, List.nil_append] at hM)
    (first | refine (l2Cell_any W H a n c xs d _ (h.ext hM.below)).mono ?_)
    rw [HG.out]
    rintro e wc23 ⟨rfl, hb⟩
    replace hM := hM.ext hb
    clear hb
    go_wp2
    go_ret2
    exact ⟨by rw [HF.out]; rfl, (by apply Mem.below; (repeat' (first | with_reducible exact hM | with_reducible exact hMp | with_reducible apply Mem.drew | with_reducible apply Mem.drewN | with_reducible apply Mem.alloc | with_reducible apply Mem.set | with_reducible exact Sto.row | ((with_reducible refine Sto.rowEq2 ?_ ?_); omega; rfl) | ((with_reducible refine Sto.rowEq ?_); omega) | with_reducible apply Sto.int | with_reducible apply Sto.there | with_reducible assumption | (unfold I64; omega) | (with_reducible (have hMx := Mem.undrew hM; exact hMx)) | (with_reducible (have hMx := Mem.undrew hMp; exact hMx)))))⟩
  rw [Bool.and_eq_true] at hg
  cases hb : inB b 0 ((n : Int) - 1)
  · have HF := Lib.hid (show stepR W H xs d b = (0, false) by rw [hF, hb]; rfl)
    have HG := Lib.hid (show (goodB 20 W H xs && inB d 0 ((n : Int) - 1)) = true by rw [hg.1, hg.2]; rfl)
    have HB := Lib.hid (show (goodB 20 W H xs && inB b 0 ((n : Int) - 1)) = false by rw [hg.1, hb]; rfl)
    clear hg hF hb
    go_enter Try.func15, Try.ntmps15
    go_wp2_with fail
    apply Mem.atA
    · (repeat' (first | with_reducible exact hM | with_reducible exact hMp | with_reducible apply Mem.drew | with_reducible apply Mem.drewN | with_reducible apply Mem.alloc | with_reducible apply Mem.set | with_reducible exact Sto.row | ((with_reducible refine Sto.rowEq2 ?_ ?_); omega; rfl) | ((with_reducible refine Sto.rowEq ?_); omega) | with_reducible apply Sto.int | with_reducible apply Sto.there | with_reducible assumption | (unfold I64; omega) | (with_reducible (have hMx := Mem.undrew hM; exact hMx)) | (with_reducible (have hMx := Mem.undrew hMp; exact hMx))))
    clear hM
    intro wst hM
    (try simp only [World.size_alloc, World.size_setCell, World.heap_drewN, heapDrew, Nat.add_assoc, Nat.reduceAdd, List.setIfInBounds_toArray, List.set_cons_zero, List.set_cons_succ, List.cons_append, List.nil_append] at hM)
    (first | refine (l2Cell_any W H a n c xs d _ (h.ext hM.below)).mono ?_)
    rw [HG.out]
    rintro e wc24 ⟨rfl, hb⟩
    replace hM := hM.ext hb
    clear hb
    obtain ⟨k0, f0, l0⟩ := hM.row .here
    go_wp2_with fail
    clear k0 f0 l0
    apply Mem.atA
    · (repeat' (first | with_reducible exact hM | with_reducible exact hMp | with_reducible apply Mem.drew | with_reducible apply Mem.drewN | with_reducible apply Mem.alloc | with_reducible apply Mem.set | with_reducible exact Sto.row | ((with_reducible refine Sto.rowEq2 ?_ ?_); omega; rfl) | ((with_reducible refine Sto.rowEq ?_); omega) | with_reducible apply Sto.int | with_reducible apply Sto.there | with_reducible assumption | (unfold I64; omega) | (with_reducible (have hMx := Mem.undrew hM; exact hMx)) | (with_reducible (have hMx := Mem.undrew hMp; exact hMx))))
    clear hM
    intro wst hM
    (try simp only [World.size_alloc, World.size_setCell, World.heap_drewN, heapDrew, Nat.add_assoc, Nat.reduceAdd, List.setIfInBounds_toArray, List.set_cons_zero, List.set_cons_succ, List.cons_append, List.nil_append] at hM)
    (first | refine (l2Cell_any W H a n c xs b _ (h.ext hM.below)).mono ?_)
    rw [HB.out]
    rintro e wc25 ⟨rfl, hb⟩
    replace hM := hM.ext hb
    clear hb
    go_wp2
    go_ret2
    exact ⟨by rw [HF.out]; rfl, (by apply Mem.below; (repeat' (first | with_reducible exact hM | with_reducible exact hMp | with_reducible apply Mem.drew | with_reducible apply Mem.drewN | with_reducible apply Mem.alloc | with_reducible apply Mem.set | with_reducible exact Sto.row | ((with_reducible refine Sto.rowEq2 ?_ ?_); omega; rfl) | ((with_reducible refine Sto.rowEq ?_); omega) | with_reducible apply Sto.int | with_reducible apply Sto.there | with_reducible assumption | (unfold I64; omega) | (with_reducible (have hMx := Mem.undrew hM; exact hMx)) | (with_reducible (have hMx := Mem.undrew hMp; exact hMx)))))⟩
  obtain ⟨Wn, Hn, rfl, rfl, p1, p2, p3, p4, hlen, h25, hall⟩ := goodB_true hg.1
  have hn25 : n ≤ 25 := by rw [← HL.out]; exact h25
  clear hlen h25 hall
  obtain ⟨d0, d1⟩ := inB_true hg.2
  obtain ⟨dn, rfl⟩ := Int.eq_ofNat_of_zero_le d0
  obtain ⟨b0, b1⟩ := inB_true hb
  obtain ⟨bn, rfl⟩ := Int.eq_ofNat_of_zero_le b0
  have HF := Lib.hid (show stepR Wn Hn xs (dn : Int) (bn : Int) = (apI Wn dn bn, true) by rw [hF, hb]; rfl)
  have HG := Lib.hid (show (goodB 20 Wn Hn xs && inB dn 0 ((n : Int) - 1)) = true by rw [hg.1, hg.2]; rfl)
  have HB := Lib.hid (show (goodB 20 Wn Hn xs && inB bn 0 ((n : Int) - 1)) = true by rw [hg.1, hb]; rfl)
  clear hg hF hb
  go_enter Try.func15, Try.ntmps15
  go_wp2_with fail
  apply Mem.atA
  · (repeat' (first | with_reducible exact hM | with_reducible exact hMp | with_reducible apply Mem.drew | with_reducible apply Mem.drewN | with_reducible apply Mem.alloc | with_reducible apply Mem.set | with_reducible exact Sto.row | ((with_reducible refine Sto.rowEq2 ?_ ?_); omega; rfl) | ((with_reducible refine Sto.rowEq ?_); omega) | with_reducible apply Sto.int | with_reducible apply Sto.there | with_reducible assumption | (unfold I64; omega) | (with_reducible (have hMx := Mem.undrew hM; exact hMx)) | (with_reducible (have hMx := Mem.undrew hMp; exact hMx))))
  clear hM
  intro wst hM
  (try simp only [World.size_alloc, World.size_setCell, World.heap_drewN, heapDrew, Nat.add_assoc, Nat.reduceAdd, List.setIfInBounds_toArray, List.set_cons_zero, List.set_cons_succ, List.cons_append, List.nil_append] at hM)
  (first | refine (l2Cell_any Wn Hn a n c xs dn _ (h.ext hM.below)).mono ?_)
  rw [HG.out]
  rintro e wc26 ⟨rfl, hb⟩
  replace hM := hM.ext hb
  clear hb
  obtain ⟨k0, f0, l0⟩ := hM.row .here
  go_wp2_with fail
  clear k0 f0 l0
  apply Mem.atA
  · (repeat' (first | with_reducible exact hM | with_reducible exact hMp | with_reducible apply Mem.drew | with_reducible apply Mem.drewN | with_reducible apply Mem.alloc | with_reducible apply Mem.set | with_reducible exact Sto.row | ((with_reducible refine Sto.rowEq2 ?_ ?_); omega; rfl) | ((with_reducible refine Sto.rowEq ?_); omega) | with_reducible apply Sto.int | with_reducible apply Sto.there | with_reducible assumption | (unfold I64; omega) | (with_reducible (have hMx := Mem.undrew hM; exact hMx)) | (with_reducible (have hMx := Mem.undrew hMp; exact hMx))))
  clear hM
  intro wst hM
  (try simp only [World.size_alloc, World.size_setCell, World.heap_drewN, heapDrew, Nat.add_assoc, Nat.reduceAdd, List.setIfInBounds_toArray, List.set_cons_zero, List.set_cons_succ, List.cons_append, List.nil_append] at hM)
  (first | refine (l2Cell_any Wn Hn a n c xs bn _ (h.ext hM.below)).mono ?_)
  rw [HB.out]
  rintro e wc27 ⟨rfl, hb⟩
  replace hM := hM.ext hb
  clear hb
  obtain ⟨k0, f0, l0⟩ := hM.row .here
  go_wp2_with fail
  clear k0 f0 l0
  apply Mem.atA
  · (repeat' (first | with_reducible exact hM | with_reducible exact hMp | with_reducible apply Mem.drew | with_reducible apply Mem.drewN | with_reducible apply Mem.alloc | with_reducible apply Mem.set | with_reducible exact Sto.row | ((with_reducible refine Sto.rowEq2 ?_ ?_); omega; rfl) | ((with_reducible refine Sto.rowEq ?_); omega) | with_reducible apply Sto.int | with_reducible apply Sto.there | with_reducible assumption | (unfold I64; omega) | (with_reducible (have hMx := Mem.undrew hM; exact hMx)) | (with_reducible (have hMx := Mem.undrew hMp; exact hMx))))
  clear hM
  intro wst hM
  (try simp only [World.size_alloc, World.size_setCell, World.heap_drewN, heapDrew, Nat.add_assoc, Nat.reduceAdd, List.setIfInBounds_toArray, List.set_cons_zero, List.set_cons_succ, List.cons_append, List.nil_append] at hM)
  (first | refine (l2Apart_any Wn Hn _ dn bn _ ⟨p1, p2⟩ (by omega) (by omega)).mono ?_)
  rintro e wc28 ⟨rfl, hb⟩
  replace hM := hM.ext hb
  clear hb
  go_wp2
  go_ret2
  exact ⟨by rw [HF.out]; rfl, (by apply Mem.below; (repeat' (first | with_reducible exact hM | with_reducible exact hMp | with_reducible apply Mem.drew | with_reducible apply Mem.drewN | with_reducible apply Mem.alloc | with_reducible apply Mem.set | with_reducible exact Sto.row | ((with_reducible refine Sto.rowEq2 ?_ ?_); omega; rfl) | ((with_reducible refine Sto.rowEq ?_); omega) | with_reducible apply Sto.int | with_reducible apply Sto.there | with_reducible assumption | (unfold I64; omega) | (with_reducible (have hMx := Mem.undrew hM; exact hMx)) | (with_reducible (have hMx := Mem.undrew hMp; exact hMx)))))⟩
set_option maxRecDepth 100000 in
set_option maxHeartbeats 30000000 in
theorem implBurn_any (W H : Int) (a : Option Addr) (n c : Nat) (xs : List Int) (w : World) (h : Ints w a n c xs) :
    Calls Try.prog 19 #[.agg #[.int .i64 W, .int .i64 H, .slice a n c]] w ((LR2 w (burnR W H xs))) := by
  have hM := Mem.start w
  have HL := Lib.hid h.len
  cases hg : goodB 20 W H xs
  · have HF := Lib.hid (show burnR W H xs = ([], false) by rw [burnR, hg]; rfl)
    have HG := Lib.hid hg; clear hg
    go_enter Try.func19, Try.ntmps19
    go_wp2_with fail
    apply Mem.atA
    · (repeat' (first | with_reducible exact hM | with_reducible exact hMp | with_reducible apply Mem.drew | with_reducible apply Mem.drewN | with_reducible apply Mem.alloc | with_reducible apply Mem.set | with_reducible exact Sto.row | ((with_reducible refine Sto.rowEq2 ?_ ?_); omega; rfl) | ((with_reducible refine Sto.rowEq ?_); omega) | with_reducible apply Sto.int | with_reducible apply Sto.there | with_reducible assumption | (unfold I64; omega) | (with_reducible (have hMx := Mem.undrew hM; exact hMx)) | (with_reducible (have hMx := Mem.undrew hMp; exact hMx))))
    clear hM
    intro wst hM
    (try simp only [World.size_alloc, World.size_setCell, World.heap_drewN, heapDrew, Nat.add_assoc, Nat.reduceAdd, List.setIfInBounds_toArray, List.set_cons_zero, List.set_cons_succ, List.cons_append, List.nil_append] at hM)
    (first | refine (IsTerrain_any W H a n c xs _ (h.ext hM.below)).mono ?_)
    rw [HG.out]
    rintro e wc29 ⟨rfl, hb⟩
    replace hM := hM.ext hb
    clear hb
    go_wp2
    go_ret2
    exact ⟨_, _, _, by rw [HF.out]; rfl, by rw [HF.out]; exact hM.nilInts⟩
  have hn25 : n ≤ 25 := by
    obtain ⟨Wn, Hn, -, -, -, -, -, -, -, h25, -⟩ := goodB_true hg
    rw [← HL.out]; exact h25
  have HF := Lib.hid (show burnR W H xs = (cellsN n (brn xs), true) by rw [burnR, hg, HL.out]; rfl)
  have HG := Lib.hid hg; clear hg
  have hmf : ∀ (fn : Fn) (first cap : Array Value) (w : World), (Instr.makeFunc fn first cap).run Try.prog w = .ok (.func fn first cap) w := fun _ _ _ _ => rfl
  go_enter Try.func19, Try.ntmps19
  go_wp2_with fail
  apply Mem.atA
  · (repeat' (first | with_reducible exact hM | with_reducible exact hMp | with_reducible apply Mem.drew | with_reducible apply Mem.drewN | with_reducible apply Mem.alloc | with_reducible apply Mem.set | with_reducible exact Sto.row | ((with_reducible refine Sto.rowEq2 ?_ ?_); omega; rfl) | ((with_reducible refine Sto.rowEq ?_); omega) | with_reducible apply Sto.int | with_reducible apply Sto.there | with_reducible assumption | (unfold I64; omega) | (with_reducible (have hMx := Mem.undrew hM; exact hMx)) | (with_reducible (have hMx := Mem.undrew hMp; exact hMx))))
  clear hM
  intro wst hM
  (try simp only [World.size_alloc, World.size_setCell, World.heap_drewN, heapDrew, Nat.add_assoc, Nat.reduceAdd, List.setIfInBounds_toArray, List.set_cons_zero, List.set_cons_succ, List.cons_append, List.nil_append] at hM)
  (first | refine (IsTerrain_any W H a n c xs _ (h.ext hM.below)).mono ?_)
  rw [HG.out]
  rintro e wc30 ⟨rfl, hb⟩
  replace hM := hM.ext hb
  clear hb
  obtain ⟨k0, f0, l0⟩ := hM.row .here
  go_wp2_with fail
  clear k0 f0 l0
  apply Mem.atA
  · (repeat' (first | with_reducible exact hM | with_reducible exact hMp | with_reducible apply Mem.drew | with_reducible apply Mem.drewN | with_reducible apply Mem.alloc | with_reducible apply Mem.set | with_reducible exact Sto.row | ((with_reducible refine Sto.rowEq2 ?_ ?_); omega; rfl) | ((with_reducible refine Sto.rowEq ?_); omega) | with_reducible apply Sto.int | with_reducible apply Sto.there | with_reducible assumption | (unfold I64; omega) | (with_reducible (have hMx := Mem.undrew hM; exact hMx)) | (with_reducible (have hMx := Mem.undrew hMp; exact hMx))))
  clear hM
  intro wst hM
  (try simp only [World.size_alloc, World.size_setCell, World.heap_drewN, heapDrew, Nat.add_assoc, Nat.reduceAdd, List.setIfInBounds_toArray, List.set_cons_zero, List.set_cons_succ, List.cons_append, List.nil_append] at hM)
  (first | refine (cellsThat_any _ _ _ (fun k => brn xs k) _ _ a n c xs _ (h.ext hM.below) hn25 (enters Try.func77 (by kernel_rfl) rfl) (fun k hk w' hb => by
      have hM' := hM.ext hb
      exact burns_any W H a n c xs k w' (h.ext hM'.below) hk)).mono ?_)
  rintro e wc31 ⟨a', m', c', rfl, hm⟩
  replace hM := hM.join hm
  clear hm
  (try simp only [World.size_alloc, World.size_setCell, World.heap_drewN, heapDrew, Nat.add_assoc, Nat.reduceAdd, List.setIfInBounds_toArray, List.set_cons_zero, List.set_cons_succ, List.cons_append, List.nil_append] at hM)
  go_wp2
  go_ret2
  exact ⟨_, _, _, by rw [HF.out]; rfl, by rw [HF.out]; exact hM.first⟩
end Go.Proofs.Ytkohfegajcmdbaa

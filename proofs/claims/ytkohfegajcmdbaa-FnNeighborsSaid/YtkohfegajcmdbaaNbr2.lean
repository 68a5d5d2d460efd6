/-
  BurnableCells of the reference; Reachable: both sides.
-/
import Derived.Test.YtkohfegajcmdbaaNbr
namespace Go.Proofs.Ytkohfegajcmdbaa
set_option linter.unusedSimpArgs false
set_option linter.unusedVariables false
open Go.RowKit

theorem cells_yes {xs : List Int} {k : Nat} (h : 0 < xs.getD k 0) : cellsN (k + 1) (brn xs) = cellsN k (brn xs) ++ [(k : Int)] := by rw [cellsN_succ, if_pos (by unfold brn; exact decide_eq_true h)]
theorem cells_no {xs : List Int} {k : Nat} (h : ¬ 0 < xs.getD k 0) : cellsN (k + 1) (brn xs) = cellsN k (brn xs) := by rw [cellsN_succ, if_neg (by unfold brn; simpa using h), List.append_nil]
set_option maxRecDepth 100000 in
set_option maxHeartbeats 4000000 in
theorem specBurn_any (W H : Int) (a : Option Addr) (n c : Nat) (xs : List Int) (w : World) (h : Ints w a n c xs) :
    Calls Try.prog 26 #[.agg #[.int .i64 W, .int .i64 H, .slice a n c]] w (LR2 w (burnR W H xs)) := by
  have hM := Mem.start w
  have HL := Lib.hid h.len
  have hc := h.room
  cases hg : goodB 20 W H xs
  · have HF := Lib.hid (show burnR W H xs = ([], false) by rw [burnR, hg]; rfl)
    have HG := Lib.hid hg; clear hg
    go_enter Try.func26, Try.ntmps26
    go_wp2_with fail
    apply Mem.atA
    · (repeat' (first | with_reducible exact hM | with_reducible exact hMp | with_reducible apply Mem.drew | with_reducible apply Mem.drewN | with_reducible apply Mem.alloc | with_reducible apply Mem.set | with_reducible exact Sto.row | ((with_reducible refine Sto.rowEq2 ?_ ?_); omega; rfl) | ((with_reducible refine Sto.rowEq ?_); omega) | with_reducible apply Sto.int | with_reducible apply Sto.there | with_reducible assumption | (unfold I64; omega) | (with_reducible (have hMx := Mem.undrew hM; exact hMx)) | (with_reducible (have hMx := Mem.undrew hMp; exact hMx))))
    clear hM
    intro wst hM
    (try simp only [World.size_alloc, World.size_setCell, World.heap_drewN, heapDrew, Nat.add_assoc, Nat.reduceAdd, List.setIfInBounds_toArray, List.set_cons_zero, List.set_cons_succ, List.cons_append, List.nil_append] at hM)
    (first | refine (l2Good_any W H a n c xs _ (h.ext hM.below)).mono ?_)
    rw [HG.out]
    rintro e wc1 ⟨rfl, hb⟩
    replace hM := hM.ext hb
    clear hb
    go_wp2
    go_ret2
    exact ⟨_, _, _, by rw [HF.out]; rfl, by rw [HF.out]; exact hM.toInts0⟩
  have HF := Lib.hid (show burnR W H xs = (cellsN n (brn xs), true) by rw [burnR, hg, HL.out]; rfl)
  have HG := Lib.hid hg; clear hg
  go_enter Try.func26, Try.ntmps26
  go_wp2_with fail
  apply Mem.atA
  · (repeat' (first | with_reducible exact hM | with_reducible exact hMp | with_reducible apply Mem.drew | with_reducible apply Mem.drewN | with_reducible apply Mem.alloc | with_reducible apply Mem.set | with_reducible exact Sto.row | ((with_reducible refine Sto.rowEq2 ?_ ?_); omega; rfl) | ((with_reducible refine Sto.rowEq ?_); omega) | with_reducible apply Sto.int | with_reducible apply Sto.there | with_reducible assumption | (unfold I64; omega) | (with_reducible (have hMx := Mem.undrew hM; exact hMx)) | (with_reducible (have hMx := Mem.undrew hMp; exact hMx))))
  clear hM
  intro wst hM
  (try simp only [World.size_alloc, World.size_setCell, World.heap_drewN, heapDrew, Nat.add_assoc, Nat.reduceAdd, List.setIfInBounds_toArray, List.set_cons_zero, List.set_cons_succ, List.cons_append, List.nil_append] at hM)
  (first | refine (l2Good_any W H a n c xs _ (h.ext hM.below)).mono ?_)
  rw [HG.out]
  rintro e wc2 ⟨rfl, hb⟩
  replace hM := hM.ext hb
  clear hb
  replace hM := Mem.toInts (xs := []) hM .here rfl (by simp) (by simp)
  go_wp2_with fail
  go_loopw [4, 5] (fun s6 s7 wr => ∃ (k : Nat) (a' : Option Addr) (c' : Nat), k ≤ n ∧ s7 = .int .i64 k ∧ s6 = .slice a' (cellsN k (brn xs)).length c' ∧ Mem w.heap.size w wr [intE a' (cellsN k (brn xs)).length c' (cellsN k (brn xs)), rowE w.heap.size 26 #[.int .i64 W, .int .i64 H, .slice a n c]]) (fun _ s7 _ => n - (intOf s7).toNat)
  case atStart => exact ⟨0, _, _, Nat.zero_le _, rfl, rfl, hM⟩
  case round =>
    clear hM
    obtain ⟨k, a', c', hk, rfl, rfl, hM⟩ := hrel
    by_cases hlt : k < n
    · obtain ⟨b, off, rfl, -, hcell⟩ := (h.ext hM.below).at' _ hlt
      have hck := hcell k hlt
      clear hcell
      have hl := cellsN_length k (brn xs)
      have hy := fun q => cells_yes (xs := xs) (k := k) q
      have hn := fun q => cells_no (xs := xs) (k := k) q
      obtain ⟨ts, hts⟩ : ∃ ts, cellsN k (brn xs) = ts := ⟨_, rfl⟩
      obtain ⟨x, hx⟩ : ∃ x, xs.getD k 0 = x := ⟨_, rfl⟩
      rw [hts] at hM hl ⊢
      simp only [hts, hx] at hy hn
      rw [hx] at hck
      clear hts hx
      obtain ⟨k1, f1, l1⟩ := hM.row (.there .here)
      by_cases hmx : 0 < x
      · have HY := Lib.hid (hy hmx)
        clear hy hn
        go_wp2_with (at_builtin; apply Mem.atL; (focus ((repeat' (first | with_reducible exact hM | with_reducible exact hMp | with_reducible apply Mem.drew | with_reducible apply Mem.drewN | with_reducible apply Mem.alloc | with_reducible apply Mem.set | with_reducible exact Sto.row | ((with_reducible refine Sto.rowEq2 ?_ ?_); omega; rfl) | ((with_reducible refine Sto.rowEq ?_); omega) | with_reducible apply Sto.int | with_reducible apply Sto.there | with_reducible assumption | (unfold I64; omega) | (with_reducible (have hMx := Mem.undrew hM; exact hMx)) | (with_reducible (have hMx := Mem.undrew hMp; exact hMx)))); done)); clear hM; intro hM; refine wpList_pushI hM (fun _ => .here) (by unfold I64; omega) (by omega) rfl _ _ _ Try.underlying24 rfl rfl rfl ?_)
        clear k1 f1 l1
        intro a6 c6 w6 hM
        go_wp2
        go_roundw
        case rel => exact ⟨k + 1, a6, c6, by omega, by go_num, by rw [HY.out]; simp, by rw [HY.out]; simpa using hM⟩
        case measure => simp [intOf]; omega
      · have HY := Lib.hid (hn hmx)
        clear hy hn
        go_wp2
        go_roundw
        case rel => exact ⟨k + 1, a', c', by omega, by go_num, by rw [HY.out], by rw [HY.out]; exact hM⟩
        case measure => simp [intOf]; omega
    · obtain rfl : k = n := by omega
      obtain ⟨k1, f1, l1⟩ := hM.row (.there .here)
      go_wp2
      go_ret2
      exact ⟨_, _, _, by rw [HF.out]; rfl, by rw [HF.out]; exact hM.first⟩

set_option maxRecDepth 100000 in
set_option maxHeartbeats 30000000 in
theorem implReach_any (W H : Int) (a : Option Addr) (n c : Nat) (xs : List Int) (a2 : Option Addr) (n2 c2 : Nat) (cs : List Int) (w : World) (h : Ints w a n c xs) (h2 : Ints w a2 n2 c2 cs) :
    Calls Try.prog 17 #[.agg #[.int .i64 W, .int .i64 H, .slice a n c], .slice a2 n2 c2] w ((LR2 w (reachR W H xs cs))) := by
  have hM := Mem.start w
  have HL := Lib.hid h.len
  cases hg : goodB 20 W H xs
  · have HF := Lib.hid (show reachR W H xs cs = ([], false) by rw [reachR, hg]; rfl)
    have HG := Lib.hid hg; clear hg
    go_enter Try.func17, Try.ntmps17
    go_wp2_with fail
    apply Mem.atA
    · (repeat' (first | with_reducible exact hM | with_reducible exact hMp | with_reducible apply Mem.drew | with_reducible apply Mem.drewN | with_reducible apply Mem.alloc | with_reducible apply Mem.set | with_reducible exact Sto.row | ((with_reducible refine Sto.rowEq2 ?_ ?_); omega; rfl) | ((with_reducible refine Sto.rowEq ?_); omega) | with_reducible apply Sto.int | with_reducible apply Sto.there | with_reducible assumption | (unfold I64; omega) | (with_reducible (have hMx := Mem.undrew hM; exact hMx)) | (with_reducible (have hMx := Mem.undrew hMp; exact hMx))))
    clear hM
    intro wst hM
    (try simp only [World.size_alloc, World.size_setCell, World.heap_drewN, heapDrew, Nat.add_assoc, Nat.reduceAdd, List.setIfInBounds_toArray, List.set_cons_zero, List.set_cons_succ, List.cons_append, List.nil_append] at hM)
    (first | refine (IsTerrain_any W H a n c xs _ (h.ext hM.below)).mono ?_)
    rw [HG.out]
    rintro e wc3 ⟨rfl, hb⟩
    replace hM := hM.ext hb
    clear hb
    go_wp2
    go_ret2
    exact ⟨_, _, _, by rw [HF.out]; rfl, by rw [HF.out]; exact hM.nilInts⟩
  obtain ⟨Wn, Hn, rfl, rfl, p1, p2, p3, p4, hlen, h25, hall⟩ := goodB_true hg
  have hn25 : n ≤ 25 := by rw [← HL.out]; exact h25
  clear hlen h25 hall
  cases hs : setB n cs
  · have HF := Lib.hid (show reachR Wn Hn xs cs = ([], false) by rw [reachR, hg, HL.out, hs]; rfl)
    have HG := Lib.hid hg; have HD := Lib.hid hs; clear hg hs
    go_enter Try.func17, Try.ntmps17
    go_wp2_with fail
    apply Mem.atA
    · (repeat' (first | with_reducible exact hM | with_reducible exact hMp | with_reducible apply Mem.drew | with_reducible apply Mem.drewN | with_reducible apply Mem.alloc | with_reducible apply Mem.set | with_reducible exact Sto.row | ((with_reducible refine Sto.rowEq2 ?_ ?_); omega; rfl) | ((with_reducible refine Sto.rowEq ?_); omega) | with_reducible apply Sto.int | with_reducible apply Sto.there | with_reducible assumption | (unfold I64; omega) | (with_reducible (have hMx := Mem.undrew hM; exact hMx)) | (with_reducible (have hMx := Mem.undrew hMp; exact hMx))))
    clear hM
    intro wst hM
    (try simp only [World.size_alloc, World.size_setCell, World.heap_drewN, heapDrew, Nat.add_assoc, Nat.reduceAdd, List.setIfInBounds_toArray, List.set_cons_zero, List.set_cons_succ, List.cons_append, List.nil_append] at hM)
    (first | refine (IsTerrain_any Wn Hn a n c xs _ (h.ext hM.below)).mono ?_)
    rw [HG.out]
    rintro e wc4 ⟨rfl, hb⟩
    replace hM := hM.ext hb
    clear hb
    obtain ⟨k0, f0, l0⟩ := hM.row .here
    go_wp2_with fail
    clear k0 f0 l0
    apply Mem.atA
    · (repeat' (first | with_reducible exact hM | with_reducible exact hMp | with_reducible apply Mem.drew | with_reducible apply Mem.drewN | with_reducible apply Mem.alloc | with_reducible apply Mem.set | with_reducible exact Sto.row | ((with_reducible refine Sto.rowEq2 ?_ ?_); omega; rfl) | ((with_reducible refine Sto.rowEq ?_); omega) | with_reducible apply Sto.int | with_reducible apply Sto.there | with_reducible assumption | (unfold I64; omega) | (with_reducible (have hMx := Mem.undrew hM; exact hMx)) | (with_reducible (have hMx := Mem.undrew hMp; exact hMx))))
    clear hM
    intro wst hM
    (try simp only [World.size_alloc, World.size_setCell, World.heap_drewN, heapDrew, Nat.add_assoc, Nat.reduceAdd, List.setIfInBounds_toArray, List.set_cons_zero, List.set_cons_succ, List.cons_append, List.nil_append] at hM)
    (first | refine (isSet_any Wn Hn a n c a2 n2 c2 cs _ (h2.ext hM.below) hn25).mono ?_)
    rw [HD.out]
    rintro e wc5 ⟨rfl, hb⟩
    replace hM := hM.ext hb
    clear hb
    go_wp2
    go_ret2
    exact ⟨_, _, _, by rw [HF.out]; rfl, by rw [HF.out]; exact hM.nilInts⟩
  have HF := Lib.hid (show reachR Wn Hn xs cs = (reachL Wn n xs (fun k => hasI cs k), true) by rw [reachR, hg, HL.out, hs]; rfl)
  have HG := Lib.hid hg; have HD := Lib.hid hs; clear hg hs
  go_enter Try.func17, Try.ntmps17
  go_wp2_with fail
  apply Mem.atA
  · (repeat' (first | with_reducible exact hM | with_reducible exact hMp | with_reducible apply Mem.drew | with_reducible apply Mem.drewN | with_reducible apply Mem.alloc | with_reducible apply Mem.set | with_reducible exact Sto.row | ((with_reducible refine Sto.rowEq2 ?_ ?_); omega; rfl) | ((with_reducible refine Sto.rowEq ?_); omega) | with_reducible apply Sto.int | with_reducible apply Sto.there | with_reducible assumption | (unfold I64; omega) | (with_reducible (have hMx := Mem.undrew hM; exact hMx)) | (with_reducible (have hMx := Mem.undrew hMp; exact hMx))))
  clear hM
  intro wst hM
  (try simp only [World.size_alloc, World.size_setCell, World.heap_drewN, heapDrew, Nat.add_assoc, Nat.reduceAdd, List.setIfInBounds_toArray, List.set_cons_zero, List.set_cons_succ, List.cons_append, List.nil_append] at hM)
  (first | refine (IsTerrain_any Wn Hn a n c xs _ (h.ext hM.below)).mono ?_)
  rw [HG.out]
  rintro e wc6 ⟨rfl, hb⟩
  replace hM := hM.ext hb
  clear hb
  obtain ⟨k0, f0, l0⟩ := hM.row .here
  go_wp2_with fail
  clear k0 f0 l0
  apply Mem.atA
  · (repeat' (first | with_reducible exact hM | with_reducible exact hMp | with_reducible apply Mem.drew | with_reducible apply Mem.drewN | with_reducible apply Mem.alloc | with_reducible apply Mem.set | with_reducible exact Sto.row | ((with_reducible refine Sto.rowEq2 ?_ ?_); omega; rfl) | ((with_reducible refine Sto.rowEq ?_); omega) | with_reducible apply Sto.int | with_reducible apply Sto.there | with_reducible assumption | (unfold I64; omega) | (with_reducible (have hMx := Mem.undrew hM; exact hMx)) | (with_reducible (have hMx := Mem.undrew hMp; exact hMx))))
  clear hM
  intro wst hM
  (try simp only [World.size_alloc, World.size_setCell, World.heap_drewN, heapDrew, Nat.add_assoc, Nat.reduceAdd, List.setIfInBounds_toArray, List.set_cons_zero, List.set_cons_succ, List.cons_append, List.nil_append] at hM)
  (first | refine (isSet_any Wn Hn a n c a2 n2 c2 cs _ (h2.ext hM.below) hn25).mono ?_)
  rw [HD.out]
  rintro e wc7 ⟨rfl, hb⟩
  replace hM := hM.ext hb
  clear hb
  obtain ⟨k0, f0, l0⟩ := hM.row .here
  go_wp2_with fail
  clear k0 f0 l0
  apply Mem.atA
  · (repeat' (first | with_reducible exact hM | with_reducible exact hMp | with_reducible apply Mem.drew | with_reducible apply Mem.drewN | with_reducible apply Mem.alloc | with_reducible apply Mem.set | with_reducible exact Sto.row | ((with_reducible refine Sto.rowEq2 ?_ ?_); omega; rfl) | ((with_reducible refine Sto.rowEq ?_); omega) | with_reducible apply Sto.int | with_reducible apply Sto.there | with_reducible assumption | (unfold I64; omega) | (with_reducible (have hMx := Mem.undrew hM; exact hMx)) | (with_reducible (have hMx := Mem.undrew hMp; exact hMx))))
  clear hM
  intro wst hM
  (try simp only [World.size_alloc, World.size_setCell, World.heap_drewN, heapDrew, Nat.add_assoc, Nat.reduceAdd, List.setIfInBounds_toArray, List.set_cons_zero, List.set_cons_succ, List.cons_append, List.nil_append] at hM)
  (first | refine (reachable_any Wn Hn a n c xs a2 n2 c2 cs _ (h.ext hM.below) (h2.ext hM.below) hn25 ⟨p1, p2⟩ HD.out).mono ?_)
  rintro e wc8 ⟨a', m', c', rfl, hm⟩
  replace hM := hM.join hm
  clear hm
  (try simp only [World.size_alloc, World.size_setCell, World.heap_drewN, heapDrew, Nat.add_assoc, Nat.reduceAdd, List.setIfInBounds_toArray, List.set_cons_zero, List.set_cons_succ, List.cons_append, List.nil_append] at hM)
  go_wp2
  go_ret2
  exact ⟨_, _, _, by rw [HF.out]; rfl, by rw [HF.out]; exact hM.first⟩
set_option maxRecDepth 100000 in
set_option maxHeartbeats 30000000 in
theorem specReach_any (W H : Int) (a : Option Addr) (n c : Nat) (xs : List Int) (a2 : Option Addr) (n2 c2 : Nat) (cs : List Int) (w : World) (h : Ints w a n c xs) (h2 : Ints w a2 n2 c2 cs) :
    Calls Try.prog 18 #[.agg #[.int .i64 W, .int .i64 H, .slice a n c], .slice a2 n2 c2] w ((LR2 w (reachR W H xs cs))) := by
  have hM := Mem.start w
  have HL := Lib.hid h.len
  obtain ⟨g, hg⟩ : ∃ g, (goodB 20 W H xs && setB n cs) = g := ⟨_, rfl⟩
  have hF : reachR W H xs cs = if g then (reachL W.toNat n xs (fun k => hasI cs k), true) else ([], false) := by rw [reachR, HL.out, hg]
  cases g
  · have HF := Lib.hid (show reachR W H xs cs = ([], false) from hF)
    have HG := Lib.hid hg; clear hg hF
    go_enter Try.func18, Try.ntmps18
    go_wp2_with fail
    apply Mem.atA
    · (repeat' (first | with_reducible exact hM | with_reducible exact hMp | with_reducible apply Mem.drew | with_reducible apply Mem.drewN | with_reducible apply Mem.alloc | with_reducible apply Mem.set | with_reducible exact Sto.row | ((with_reducible refine Sto.rowEq2 ?_ ?_); omega; rfl) | ((with_reducible refine Sto.rowEq ?_); omega) | with_reducible apply Sto.int | with_reducible apply Sto.there | with_reducible assumption | (unfold I64; omega) | (with_reducible (have hMx := Mem.undrew hM; exact hMx)) | (with_reducible (have hMx := Mem.undrew hMp; exact hMx))))
    clear hM
    intro wst hM
    (try simp only [World.size_alloc, World.size_setCell, World.heap_drewN, heapDrew, Nat.add_assoc, Nat.reduceAdd, List.setIfInBounds_toArray, List.set_cons_zero, List.set_cons_succ, List.cons_append, List.nil_append] at hM)
    (first | refine (l2Set_any W H a n c xs a2 n2 c2 cs _ (h.ext hM.below) (h2.ext hM.below)).mono ?_)
    rw [HG.out]
    rintro e wc9 ⟨rfl, hb⟩
    replace hM := hM.ext hb
    clear hb
    go_wp2
    go_ret2
    exact ⟨_, _, _, by rw [HF.out]; rfl, by
      rw [HF.out]
      apply Mem.toInts0
      (repeat' (first | with_reducible exact hM | with_reducible exact hMp | with_reducible apply Mem.drew | with_reducible apply Mem.drewN | with_reducible apply Mem.alloc | with_reducible apply Mem.set | with_reducible exact Sto.row | ((with_reducible refine Sto.rowEq2 ?_ ?_); omega; rfl) | ((with_reducible refine Sto.rowEq ?_); omega) | with_reducible apply Sto.int | with_reducible apply Sto.there | with_reducible assumption | (unfold I64; omega) | (with_reducible (have hMx := Mem.undrew hM; exact hMx)) | (with_reducible (have hMx := Mem.undrew hMp; exact hMx))))⟩
  rw [Bool.and_eq_true] at hg
  obtain ⟨Wn, Hn, rfl, rfl, p1, p2, p3, p4, hlen, h25, hall⟩ := goodB_true hg.1
  have hn25 : n ≤ 25 := by rw [← HL.out]; exact h25
  have HA := Lib.hid (fun x hx => (hall x hx).1)
  clear hlen h25 hall
  have HF := Lib.hid (show reachR Wn Hn xs cs = (reachL Wn n xs (fun k => hasI cs k), true) from hF)
  have HG := Lib.hid (show (goodB 20 Wn Hn xs && setB n cs) = true by rw [hg.1, hg.2]; rfl)
  have HD := Lib.hid hg.2
  clear hg hF
  go_enter Try.func18, Try.ntmps18
  go_wp2_with fail
  apply Mem.atA
  · (repeat' (first | with_reducible exact hM | with_reducible exact hMp | with_reducible apply Mem.drew | with_reducible apply Mem.drewN | with_reducible apply Mem.alloc | with_reducible apply Mem.set | with_reducible exact Sto.row | ((with_reducible refine Sto.rowEq2 ?_ ?_); omega; rfl) | ((with_reducible refine Sto.rowEq ?_); omega) | with_reducible apply Sto.int | with_reducible apply Sto.there | with_reducible assumption | (unfold I64; omega) | (with_reducible (have hMx := Mem.undrew hM; exact hMx)) | (with_reducible (have hMx := Mem.undrew hMp; exact hMx))))
  clear hM
  intro wst hM
  (try simp only [World.size_alloc, World.size_setCell, World.heap_drewN, heapDrew, Nat.add_assoc, Nat.reduceAdd, List.setIfInBounds_toArray, List.set_cons_zero, List.set_cons_succ, List.cons_append, List.nil_append] at hM)
  (first | refine (l2Set_any Wn Hn a n c xs a2 n2 c2 cs _ (h.ext hM.below) (h2.ext hM.below)).mono ?_)
  rw [HG.out]
  rintro e wc10 ⟨rfl, hb⟩
  replace hM := hM.ext hb
  clear hb
  obtain ⟨k0, f0, l0⟩ := hM.row .here
  go_wp2_with fail
  clear k0 f0 l0
  apply Mem.atA
  · (repeat' (first | with_reducible exact hM | with_reducible exact hMp | with_reducible apply Mem.drew | with_reducible apply Mem.drewN | with_reducible apply Mem.alloc | with_reducible apply Mem.set | with_reducible exact Sto.row | ((with_reducible refine Sto.rowEq2 ?_ ?_); omega; rfl) | ((with_reducible refine Sto.rowEq ?_); omega) | with_reducible apply Sto.int | with_reducible apply Sto.there | with_reducible assumption | (unfold I64; omega) | (with_reducible (have hMx := Mem.undrew hM; exact hMx)) | (with_reducible (have hMx := Mem.undrew hMp; exact hMx))))
  clear hM
  intro wst hM
  (try simp only [World.size_alloc, World.size_setCell, World.heap_drewN, heapDrew, Nat.add_assoc, Nat.reduceAdd, List.setIfInBounds_toArray, List.set_cons_zero, List.set_cons_succ, List.cons_append, List.nil_append] at hM)
  (first | refine (l2Reach_any Wn Hn a n c xs a2 n2 c2 cs _ (h.ext hM.below) (h2.ext hM.below) hn25 ⟨p1, p2⟩ HD.out HA.out).mono ?_)
  rintro e wc11 ⟨a', m', c', rfl, hm⟩
  replace hM := hM.join hm
  clear hm
  (try simp only [World.size_alloc, World.size_setCell, World.heap_drewN, heapDrew, Nat.add_assoc, Nat.reduceAdd, List.setIfInBounds_toArray, List.set_cons_zero, List.set_cons_succ, List.cons_append, List.nil_append] at hM)
  go_wp2
  go_ret2
  exact ⟨_, _, _, by rw [HF.out]; rfl, by rw [HF.out]; exact hM.first⟩
end Go.Proofs.Ytkohfegajcmdbaa

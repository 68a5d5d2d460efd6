/-
  Missing notes and complete notebooks: the program's.
-/
import Derived.Test.YtjnbdgldpmmamaaGreatUSortPair
import Derived.Test.YtjnbdgldpmmamaaGreatUMrgI
/-
  Missing notes and complete notebooks: the program's.
-/
namespace Go.Proofs.YtjnbdgldpmmamaaGreat
set_option linter.unusedSimpArgs false
set_option linter.unusedVariables false
open Go.RowKit

theorem ltP_cmp (a b : Int × Int) : decide (orI (cmpI a.1 b.1) (cmpI a.2 b.2) < 0) = ltP a b := ltN_cmp (keyN a) (keyN b)
set_option maxRecDepth 100000 in
set_option maxHeartbeats 4000000 in
theorem missing1_any (x y : Int × Int) (w : World) :
    Calls Tryz.prog 62 #[.agg #[.int .i64 x.1, .int .i64 x.2], .agg #[.int .i64 y.1, .int .i64 y.2]] w fun e w' => (∃ r : Int, e = .returned (.int .i64 r) ∧ decide (r < 0) = ltP x y) ∧ Below w.heap.size w w' := by
  have hM := Mem.start w
  have HF := Lib.hid (ltP_cmp x y)
  obtain ⟨x0, x1⟩ := x
  obtain ⟨y0, y1⟩ := y
  have HF2 := Lib.hid (show decide (orI (cmpI x0 y0) (cmpI x1 y1) < 0) = _ from HF.out)
  clear HF
  go_enter Tryz.func62, Tryz.ntmps62
  go_upto_region 1 with fail
  apply Mem.atWpA
  · exact memA
  clear hM
  intro wst hM
  (try simp only [World.size_alloc, World.size_setCell, World.heap_drewN, heapDrew, Nat.add_assoc, Nat.reduceAdd, sA, List.cons_append, List.nil_append] at hM)
  refine AtT.startA hM hM 12 (by kernel_rfl) ?_
  clear hM
  intro wd hM
  have hS := hM
  refine AtT.tk 0 ?_ 5 ?_ hS ?_
  rotate_left
  · (intro wS hSw; (try dsimp only at hSw); have kr0 := (Mem.row hSw .here).cell; have kr1 := (Mem.row hSw (.there .here)).cell; go_simp; (try rw [if_neg (by omega)]); try with_reducible rfl)
  simp only [Act.put, sA]
  refine AtT.tk 1 ?_ 6 ?_ hS ?_
  rotate_left
  · (intro wS hSw; (try dsimp only at hSw); have kr0 := (Mem.row hSw .here).cell; have kr1 := (Mem.row hSw (.there .here)).cell; go_simp; (try rw [if_neg (by omega)]); try with_reducible rfl)
  simp only [Act.put, sA]
  refine AtT.tk 2 ?_ 7 ?_ hS ?_
  rotate_left
  · (intro wS hSw; (try dsimp only at hSw); have kr0 := (Mem.row hSw .here).cell; have kr1 := (Mem.row hSw (.there .here)).cell; go_simp; (try rw [if_neg (by omega)]); try with_reducible rfl)
  simp only [Act.put, sA]
  refine AtT.tk 3 ?_ 8 ?_ hS ?_
  rotate_left
  · (intro wS hSw; (try dsimp only at hSw); have kr0 := (Mem.row hSw .here).cell; have kr1 := (Mem.row hSw (.there .here)).cell; go_simp; (try rw [if_neg (by omega)]); try with_reducible rfl)
  simp only [Act.put, sA]
  refine AtT.tk 5 ?_ 10 ?_ hS ?_
  rotate_left
  · (intro wS hSw; (try dsimp only at hSw); have kr0 := (Mem.row hSw .here).cell; have kr1 := (Mem.row hSw (.there .here)).cell; go_simp; (try rw [if_neg (by omega)]); try with_reducible rfl)
  simp only [Act.put, sA]
  refine AtT.tk 6 ?_ 11 ?_ hS ?_
  rotate_left
  · (intro wS hSw; (try dsimp only at hSw); have kr0 := (Mem.row hSw .here).cell; have kr1 := (Mem.row hSw (.there .here)).cell; go_simp; (try rw [if_neg (by omega)]); try with_reducible rfl)
  simp only [Act.put, sA]
  refine AtT.tk 7 ?_ 12 ?_ hS ?_
  rotate_left
  · (intro wS hSw; (try dsimp only at hSw); have kr0 := (Mem.row hSw .here).cell; have kr1 := (Mem.row hSw (.there .here)).cell; go_simp; (try rw [if_neg (by omega)]); try with_reducible rfl)
  simp only [Act.put, sA]
  refine AtT.tk 8 ?_ 13 ?_ hS ?_
  rotate_left
  · (intro wS hSw; (try dsimp only at hSw); have kr0 := (Mem.row hSw .here).cell; have kr1 := (Mem.row hSw (.there .here)).cell; go_simp; (try rw [if_neg (by omega)]); try with_reducible rfl)
  simp only [Act.put, sA]
  refine AtT.only (i := 4) (by kernel_rfl) rfl rfl ?_
  intro K hK
  go_simp
  refine (compare_any _ _ _).mono ?_
  rintro e w2 ⟨rfl, rfl⟩
  try dsimp only
  refine hK.out _ _ (hM) ?_
  clear hK K hS
  have hS := hM
  refine AtT.only (i := 9) (by kernel_rfl) rfl rfl ?_
  intro K hK
  go_simp
  refine (compare_any _ _ _).mono ?_
  rintro e w2 ⟨rfl, rfl⟩
  try dsimp only
  refine hK.out _ _ (hM) ?_
  clear hK K hS
  have hS := hM
  refine AtT.only (i := 10) (by kernel_rfl) rfl rfl ?_
  intro K hK
  go_simp
  refine hK.out _ _ (by apply Mem.tail; (exact memA)) ?_
  clear hK K hS
  have hMp := hM
  apply Mem.atT
  · exact memA
  clear hM
  intro hM
  (try simp only [World.size_alloc, World.size_setCell, World.heap_drewN, heapDrew, Nat.add_assoc, Nat.reduceAdd, sA, List.cons_append, List.nil_append] at hM)
  have hS := hM.tail
  refine AtT.only (i := 11) (by kernel_rfl) rfl rfl ?_
  intro K hK
  go_simp
  refine (orTwo_any _ _ _ _ (hM.row .here)).mono ?_
  rintro e w2 ⟨rfl, rfl⟩
  try dsimp only
  refine hK.out _ _ (hM.tail) ?_
  clear hK K hS
  have hS := hM.tail
  refine AtT.last (by kernel_rfl) rfl (by kernel_rfl) ?_
  intro K hK
  clear hS
  go_simp
  refine hK.out _ _ ?_
  clear hK K
  go_wp2
  go_ret
  exact ⟨⟨_, rfl, HF2.out⟩, (by apply Mem.below; (exact memA))⟩
theorem compares_pair (B : Nat) (w0 : World) (G : List Ent) (xs : List (Int × Int)) : ComparesPair 62 #[] ltP B w0 G xs := fun x _ y _ w' _ => missing1_any x y w'
def samP (p x : Int × Int) : Bool := p.1 == x.1 && p.2 == x.2
theorem contains_any' (p : Int × Int) (xs : List (Int × Int)) : xs.contains p = xs.any (samP p) := by
  induction xs with
  | nil => rfl
  | cons x xs ih =>
    rw [List.contains_cons, List.any_cons, ih]
    congr 1
set_option maxRecDepth 100000 in
set_option maxHeartbeats 4000000 in
theorem indexPair_any (a : Option Addr) (n c : Nat) (xs : List (Int × Int)) (p : Int × Int) (w : World) (h : Rd FPair w a n c xs) :
    Calls Tryz.prog 86 #[.slice a n c, .agg #[.int .i64 p.1, .int .i64 p.2]] w fun e w' => e = .returned (.int .i64 (idxR (samP p) xs)) ∧ Below w.heap.size w w' := by
  have hM := Mem.start w
  have hrm := h.nroom
  have HH := Lib.hid h
  have HL := Lib.hid h.len
  clear h
  obtain ⟨p0, p1⟩ := p
  dsimp only
  go_enter Tryz.func86, Tryz.ntmps86
  go_upto_region 2 with fail
  apply Mem.atWpA
  · exact memA
  clear hM
  intro wst hM
  (try simp only [World.size_alloc, World.size_setCell, World.heap_drewN, heapDrew, Nat.add_assoc, Nat.reduceAdd, sA, List.cons_append, List.nil_append] at hM)
  go_loopw [8] (fun i wr => ∃ k : Nat, k ≤ n ∧ i = .int .i64 k ∧ (xs.take k).any (samP (p0, p1)) = false ∧ Mem w.heap.size w wr [rowE w.heap.size 58 #[.int .i64 p0, .int .i64 p1]]) (fun i _ => n - (intOf i).toNat)
  case atStart => exact ⟨0, Nat.zero_le _, rfl, by simp, hM⟩
  case round =>
    clear hM
    obtain ⟨k, hk, rfl, hall, hM⟩ := hrel
    have HA := Lib.hid hall; clear hall
    by_cases hlt : k < n
    · obtain ⟨b, off, rfl, -, -⟩ := HH.out.at' _ hlt
      have htk : xs.take (k + 1) = xs.take k ++ [xs.getD k (0, 0)] := take_succV (by rw [HL.out]; exact hlt)
      have HCX := Lib.hid (fun (w' : World) (hb : Below w.heap.size w w') => ((HH.out.ext hb).cellPair hlt).2)
      have hkl : k < xs.length := by rw [HL.out]; exact hlt
      have hmem : xs.getD k (0, 0) ∈ xs := getD_memO hkl
      have hfi : samP (p0, p1) (xs.getD k (0, 0)) = true → xs.findIdx (samP (p0, p1)) = k := by
        intro h2
        have hx : xs[k] = xs.getD k (0, 0) := by simp [List.getD, hkl]
        rw [List.findIdx_eq hkl]
        refine ⟨by rw [hx]; exact h2, fun j hj => ?_⟩
        have h1 := HA.out
        rw [List.any_eq_false] at h1
        have := h1 (xs[j]'(by omega)) (by
          rw [List.mem_take_iff_getElem]
          exact ⟨j, by omega, rfl⟩)
        simpa using this
      obtain ⟨v, hv⟩ : ∃ v, xs.getD k (0, 0) = v := ⟨_, rfl⟩
      simp only [hv] at HCX
      rw [hv] at htk hmem hfi
      obtain ⟨v0, v1⟩ := v
      have HT := Lib.hid htk; have HFI := Lib.hid hfi; have HMEM := Lib.hid hmem
      clear hv htk hkl hfi hmem
      have i0 : (0 : Int) ≤ (k : Int) := by omega
      have i1 : (k : Int) < (n : Int) := by omega
      obtain ⟨q, hq⟩ : ∃ q, samP (p0, p1) (v0, v1) = q := ⟨_, rfl⟩
      have hpe : ∀ w' : World, (Op.equalIn 10000 58 (.agg #[.int .i64 p0, .int .i64 p1]) (.agg #[.int .i64 v0, .int .i64 v1])).run Tryz.prog w' = .ok q w' := fun w' => by rw [pair_eq]; exact congrArg (fun b => Result.ok b w') hq
      have HQ := Lib.hid hq
      clear hq
      go_upto_region 4 with fail
      apply Mem.atWpA
      · exact memA
      clear hM
      intro wst hM
      (try simp only [World.size_alloc, World.size_setCell, World.heap_drewN, heapDrew, Nat.add_assoc, Nat.reduceAdd, sA, List.cons_append, List.nil_append] at hM)
      refine AtT.startA hM hM 5 (by kernel_rfl) ?_
      clear hM
      intro wd hM
      have hS := hM
      refine AtT.tk 0 ?_ 11 ?_ hS ?_
      rotate_left
      · (intro wS hSw; (try dsimp only at hSw); have kr0 := (Mem.row hSw .here).cell; obtain ⟨x0, x1⟩ := HCX.out _ hSw.below; go_simp; (try rw [if_neg (by omega)]); try with_reducible rfl)
      simp only [Act.put, sA]
      refine AtT.tk 1 ?_ 12 ?_ hS ?_
      rotate_left
      · (intro wS hSw; (try dsimp only at hSw); go_simp; (try rw [if_neg (by omega)]); try with_reducible rfl)
      simp only [Act.put, sA]
      refine AtT.tk 2 ?_ 13 ?_ hS ?_
      rotate_left
      · (intro wS hSw; (try dsimp only at hSw); go_simp; (try rw [if_neg (by omega)]); try with_reducible rfl)
      simp only [Act.put, sA]
      refine AtT.tk 3 ?_ 14 ?_ hS ?_
      rotate_left
      · (intro wS hSw; (try dsimp only at hSw); have kr0 := (Mem.row hSw .here).cell; obtain ⟨x0, x1⟩ := HCX.out _ hSw.below; go_simp; (try rw [if_neg (by omega)]); try with_reducible rfl)
      simp only [Act.put, sA]
      refine AtT.tk 4 ?_ 15 ?_ hS ?_
      rotate_left
      · (intro wS hSw; (try dsimp only at hSw); have kr0 := (Mem.row hSw .here).cell; obtain ⟨x0, x1⟩ := HCX.out _ hSw.below; go_simp; (try rw [if_neg (by omega)]); try with_reducible rfl)
      simp only [Act.put, sA]
      refine AtT.last (by kernel_rfl) rfl (by kernel_rfl) ?_
      intro K hK
      clear hS
      go_simp
      refine hK.out _ _ ?_
      clear hK K
      clear hpe
      cases q
      · go_wp2
        go_roundw
        case rel => exact ⟨k + 1, by omega, by go_num, by rw [HT.out, List.any_append, HA.out]; simp [HQ.out], by (exact memA)⟩
        case measure => simp [intOf]; omega
      · go_wp2
        go_ret
        exact ⟨ri (by rw [idxR_pos (List.any_eq_true.2 ⟨_, HMEM.out, HQ.out⟩), HFI.out HQ.out]), (by apply Mem.below; (exact memA))⟩
    · go_wp2
      go_ret
      obtain rfl : k = n := by omega
      have hA := HA.out
      rw [List.take_of_length_le (by rw [HL.out]; exact Nat.le_refl _)] at hA
      exact ⟨ri (by rw [idxR_neg hA]), (by apply Mem.below; (exact memA))⟩
set_option maxRecDepth 100000 in
set_option maxHeartbeats 4000000 in
theorem hasPair_any (a : Option Addr) (n c : Nat) (xs : List (Int × Int)) (p : Int × Int) (w : World) (h : Rd FPair w a n c xs) :
    Calls Tryz.prog 60 #[.slice a n c, .agg #[.int .i64 p.1, .int .i64 p.2]] w fun e w' => e = .returned (.bool (xs.contains p)) ∧ Below w.heap.size w w' := by
  have hC : ∀ w1 : World, Below w.heap.size w w1 → Calls Tryz.prog 80 #[.slice a n c, .agg #[.int .i64 p.1, .int .i64 p.2]] w1 fun e w' => e = .returned (.bool (xs.contains p)) ∧ Below w1.heap.size w1 w' := by
    intro w1 hb1
    have hM := Mem.start w1
    have HI := Lib.hid (fun (w' : World) (hb : Below w1.heap.size w1 w') => indexPair_any a n c xs p w' ((h.ext hb1).ext hb))
    have HS := Lib.hid (idxR_sign (samP p) xs)
    rw [contains_any']
    obtain ⟨z, hz⟩ : ∃ z, idxR (samP p) xs = z := ⟨_, rfl⟩
    rw [hz] at HI HS
    obtain ⟨p0, p1⟩ := p
    clear h
    obtain ⟨q, hq⟩ : ∃ q, xs.any (samP (p0, p1)) = q := ⟨_, rfl⟩
    rw [hq] at HS ⊢
    clear hz hq
    go_enter Tryz.func80, Tryz.ntmps80
    go_upto_region 1 with fail
    apply Mem.atWpA
    · exact memA
    clear hM
    intro wst hM
    (try simp only [World.size_alloc, World.size_setCell, World.heap_drewN, heapDrew, Nat.add_assoc, Nat.reduceAdd, sA, List.cons_append, List.nil_append] at hM)
    obtain ⟨k0, f0, l0⟩ := hM.row .here
    go_wp2_with fail
    clear k0 f0 l0
    apply Mem.atA
    · exact memA
    clear hM
    intro wst hM
    (try simp only [World.size_alloc, World.size_setCell, World.heap_drewN, heapDrew, Nat.add_assoc, Nat.reduceAdd, sA, List.cons_append, List.nil_append] at hM)
    (first | refine (HI.out _ hM.below).mono ?_)
    rintro e wc1 ⟨rfl, hb⟩
    replace hM := hM.ext hb
    clear hb
    go_wp2
    go_ret
    exact ⟨rb HS.out, (by apply Mem.below; (exact memA))⟩
  have hM := Mem.start w
  obtain ⟨q, hq⟩ : ∃ q, xs.contains p = q := ⟨_, rfl⟩
  rw [hq] at hC ⊢
  have HC := Lib.hid hC
  clear hC h hq
  obtain ⟨p0, p1⟩ := p
  go_enter Tryz.func60, Tryz.ntmps60
  go_upto_region 1 with fail
  apply Mem.atWpA
  · exact memA
  clear hM
  intro wst hM
  (try simp only [World.size_alloc, World.size_setCell, World.heap_drewN, heapDrew, Nat.add_assoc, Nat.reduceAdd, sA, List.cons_append, List.nil_append] at hM)
  obtain ⟨k0, f0, l0⟩ := hM.row .here
  go_wp2_with fail
  clear k0 f0 l0
  apply Mem.atA
  · exact memA
  clear hM
  intro wst hM
  (try simp only [World.size_alloc, World.size_setCell, World.heap_drewN, heapDrew, Nat.add_assoc, Nat.reduceAdd, sA, List.cons_append, List.nil_append] at hM)
  (first | refine (HC.out _ hM.below).mono ?_)
  rintro e wc2 ⟨rfl, hb⟩
  replace hM := hM.ext hb
  clear hb
  go_wp2
  go_ret
  exact ⟨rfl, (by apply Mem.below; (exact memA))⟩
set_option maxRecDepth 100000 in
set_option maxHeartbeats 4000000 in
theorem knows_any (x y : NoteI) (w : World) (hx : Ints w x.ad x.n x.c x.cl) (hy : Ints w y.ad y.n y.c y.cl) (hn : x.n = y.n) (hu : 0 ≤ x.un ∧ x.un < (y.n : Int)) :
    Calls Tryz.prog 51 #[x.val, y.val] w fun e w' => e = .returned (.bool (leC y.cl x.cl && decide (y.cl.getD x.un.toNat 0 < x.sq))) ∧ Below w.heap.size w w' := by
  have hM := Mem.start w
  obtain ⟨x0, x1, x2, x3, x4, x5, x6⟩ := x
  obtain ⟨y0, y1, y2, y3, y4, y5, y6⟩ := y
  dsimp only at hx hy hn hu ⊢
  subst hn
  have hrm := hx.room
  obtain ⟨m, rfl⟩ := Int.eq_ofNat_of_zero_le hu.1
  have hmn : m < x3 := by omega
  rw [Int.toNat_natCast]
  have HX := Lib.hid hx; have HY := Lib.hid hy
  have HYL := Lib.hid hy.len
  obtain ⟨v, hv⟩ : ∃ v, y5.getD m 0 = v := ⟨_, rfl⟩
  rw [hv]
  have HV := Lib.hid hv
  obtain ⟨b, off, rfl, -, -⟩ := hx.at' m hmn
  obtain ⟨b2, off2, rfl, -, -⟩ := hy.at' m hmn
  have m0 : (0 : Int) ≤ (m : Int) := by omega
  have m1 : (m : Int) < (x3 : Int) := by omega
  clear hv hx hy hu
  go_enter Tryz.func51, Tryz.ntmps51
  go_upto_region 1 with fail
  apply Mem.atWpA
  · exact memA
  clear hM
  intro wst hM
  (try simp only [World.size_alloc, World.size_setCell, World.heap_drewN, heapDrew, Nat.add_assoc, Nat.reduceAdd, sA, List.cons_append, List.nil_append] at hM)
  obtain ⟨k0, f0, l0⟩ := hM.row .here
  obtain ⟨k1, f1, l1⟩ := hM.row (.there .here)
  go_wp2_with fail
  apply Mem.atWpA
  · exact memA
  clear hM
  intro wst hM
  (try simp only [World.size_alloc, World.size_setCell, World.heap_drewN, heapDrew, Nat.add_assoc, Nat.reduceAdd, sA, List.cons_append, List.nil_append] at hM)
  clear k0 k1 f0 f1 l0 l1
  go_loopw [10] (fun s wr => ∃ k : Nat, k ≤ x3 ∧ s = .int .i64 k ∧ (∀ i, i < k → y5.getD i 0 ≤ x5.getD i 0) ∧ Mem w.heap.size w wr [rowE (w.heap.size + 1) 40 #[.int .i64 y0, .int .i64 y1, .slice (some ⟨b2, off2, none⟩) x3 y4, .string (bsA y6)], rowE w.heap.size 40 #[.int .i64 (m : Int), .int .i64 x1, .slice (some ⟨b, off, none⟩) x3 x4, .string (bsA x6)]]) (fun s _ => x3 - (intOf s).toNat)
  case atStart => exact ⟨0, Nat.zero_le _, rfl, fun i hi => by omega, hM⟩
  case round =>
    clear hM
    obtain ⟨k, hk, rfl, hle, hM⟩ := hrel
    have HLE := Lib.hid hle; clear hle
    by_cases hlt : k < x3
    · have c1 := (HX.out.ext hM.below).cellK hlt
      have c2 := (HY.out.ext hM.below).cellK hlt
      have i0 : (0 : Int) ≤ (k : Int) := by omega
      have i1 : (k : Int) < (x3 : Int) := by omega
      by_cases hc : x5.getD k 0 < y5.getD k 0
      · have hf : leC y5 x5 = false := by
          cases hq : leC y5 x5
          · rfl
          · have := leC_true.1 hq k (by rw [HYL.out]; exact hlt)
            omega
        have HF := Lib.hid hf; clear hf
        generalize x5.getD k 0 = v1 at c1 hc
        generalize y5.getD k 0 = v2 at c2 hc
        obtain ⟨k0, f0, l0⟩ := hM.row .here
        obtain ⟨k1, f1, l1⟩ := hM.row (.there .here)
        go_wp2
        go_ret
        exact ⟨rb (by rw [HF.out, Bool.false_and]), (by apply Mem.below; (exact memA))⟩
      · have HN := Lib.hid (show ∀ i, i < k + 1 → y5.getD i 0 ≤ x5.getD i 0 from no_succ HLE.out (by omega))
        generalize x5.getD k 0 = v1 at c1 hc
        generalize y5.getD k 0 = v2 at c2 hc
        obtain ⟨k0, f0, l0⟩ := hM.row .here
        obtain ⟨k1, f1, l1⟩ := hM.row (.there .here)
        go_wp2
        go_roundw
        case rel => exact ⟨k + 1, by omega, by go_num, HN.out, by (exact memA)⟩
        case measure => simp [intOf]; omega
    · obtain rfl : k = x3 := by omega
      have HF := Lib.hid (show leC y5 x5 = true from leC_true.2 fun i hi => HLE.out i (by rw [← HYL.out]; exact hi))
      go_upto_region 7 with fail
      apply Mem.atWpA
      · exact memA
      clear hM
      intro wst hM
      (try simp only [World.size_alloc, World.size_setCell, World.heap_drewN, heapDrew, Nat.add_assoc, Nat.reduceAdd, sA, List.cons_append, List.nil_append] at hM)
      refine AtT.startA hM hM 9 (by kernel_rfl) ?_
      clear hM
      intro wd hM
      have hS := hM
      refine AtT.tk 0 ?_ 23 ?_ hS ?_
      rotate_left
      · (intro wS hSw; (try dsimp only at hSw); go_simp; (try rw [if_neg (by omega)]); try with_reducible rfl)
      simp only [Act.put, sA]
      refine AtT.tk 1 ?_ 24 ?_ hS ?_
      rotate_left
      · (intro wS hSw; (try dsimp only at hSw); have kr0 := (Mem.row hSw .here).cell; have kr1 := (Mem.row hSw (.there .here)).cell; have g1 := (HY.out.ext hSw.below).cellK hmn; rw [HV.out] at g1; go_simp; (try rw [if_neg (by omega)]); try with_reducible rfl)
      simp only [Act.put, sA]
      refine AtT.tk 2 ?_ 25 ?_ hS ?_
      rotate_left
      · (intro wS hSw; (try dsimp only at hSw); go_simp; (try rw [if_neg (by omega)]); try with_reducible rfl)
      simp only [Act.put, sA]
      refine AtT.tk 3 ?_ 26 ?_ hS ?_
      rotate_left
      · (intro wS hSw; (try dsimp only at hSw); have kr0 := (Mem.row hSw .here).cell; have kr1 := (Mem.row hSw (.there .here)).cell; have g1 := (HY.out.ext hSw.below).cellK hmn; rw [HV.out] at g1; go_simp; (try rw [if_neg (by omega)]); try with_reducible rfl)
      simp only [Act.put, sA]
      refine AtT.tk 4 ?_ 27 ?_ hS ?_
      rotate_left
      · (intro wS hSw; (try dsimp only at hSw); have kr0 := (Mem.row hSw .here).cell; have kr1 := (Mem.row hSw (.there .here)).cell; have g1 := (HY.out.ext hSw.below).cellK hmn; rw [HV.out] at g1; go_simp; (try rw [if_neg (by omega)]); try with_reducible rfl)
      simp only [Act.put, sA]
      refine AtT.tk 5 ?_ 28 ?_ hS ?_
      rotate_left
      · (intro wS hSw; (try dsimp only at hSw); have kr0 := (Mem.row hSw .here).cell; have kr1 := (Mem.row hSw (.there .here)).cell; have g1 := (HY.out.ext hSw.below).cellK hmn; rw [HV.out] at g1; go_simp; (try rw [if_neg (by omega)]); try with_reducible rfl)
      simp only [Act.put, sA]
      refine AtT.tk 6 ?_ 29 ?_ hS ?_
      rotate_left
      · (intro wS hSw; (try dsimp only at hSw); go_simp; (try rw [if_neg (by omega)]); try with_reducible rfl)
      simp only [Act.put, sA]
      refine AtT.tk 7 ?_ 30 ?_ hS ?_
      rotate_left
      · (intro wS hSw; (try dsimp only at hSw); have kr0 := (Mem.row hSw .here).cell; have kr1 := (Mem.row hSw (.there .here)).cell; have g1 := (HY.out.ext hSw.below).cellK hmn; rw [HV.out] at g1; go_simp; (try rw [if_neg (by omega)]); try with_reducible rfl)
      simp only [Act.put, sA]
      refine AtT.tk 8 ?_ 31 ?_ hS ?_
      rotate_left
      · (intro wS hSw; (try dsimp only at hSw); go_simp; (try rw [if_neg (by omega)]); try with_reducible rfl)
      simp only [Act.put, sA]
      refine AtT.last (by kernel_rfl) rfl (by kernel_rfl) ?_
      intro K hK
      clear hS
      go_simp
      refine hK.out _ _ ?_
      clear hK K
      go_wp2
      go_ret
      exact ⟨rb (by rw [HF.out, Bool.true_and]), (by apply Mem.below; (exact memA))⟩

theorem fold_len {l : List NoteC} : ∀ (ps out : List (Int × Int)), out.length ≤ (ps.foldl (addM l) out).length
  | [], out => Nat.le_refl _
  | q :: ps, out => by
    rw [List.foldl_cons]
    refine Nat.le_trans ?_ (fold_len ps _)
    unfold addM
    split
    · exact Nat.le_refl _
    · rw [List.length_append]; omega
theorem toldC_more (cl : List Int) : ∀ (n v : Nat), v ≤ n → ∃ r, toldC cl n = toldC cl v ++ r
  | 0, v, h => ⟨[], by obtain rfl : v = 0 := (by omega); simp⟩
  | n + 1, v, h => by
    by_cases e : v = n + 1
    · subst e; exact ⟨[], by simp⟩
    · obtain ⟨r, hr⟩ := toldC_more cl n v (by omega)
      exact ⟨r ++ toldU n (cl.getD n 0).toNat, by rw [toldC, hr, List.append_assoc]⟩
theorem toldU_more (u : Nat) : ∀ (n v : Nat), v ≤ n → ∃ r, toldU u n = toldU u v ++ r
  | 0, v, h => ⟨[], by obtain rfl : v = 0 := (by omega); simp⟩
  | n + 1, v, h => by
    by_cases e : v = n + 1
    · subst e; exact ⟨[], by simp⟩
    · obtain ⟨r, hr⟩ := toldU_more u n v (by omega)
      exact ⟨r ++ [((u : Int), (n : Int) + 1)], by rw [toldU, hr, List.append_assoc]⟩
theorem rawTo_more (l : List NoteC) : ∀ (n k : Nat), k ≤ n → (rawTo l k).length ≤ (rawTo l n).length
  | 0, k, h => by obtain rfl : k = 0 := (by omega); exact Nat.le_refl _
  | n + 1, k, h => by
    by_cases e : k = n + 1
    · subst e; exact Nat.le_refl _
    · exact Nat.le_trans (rawTo_more l n k (by omega)) (fold_len _ _)
/-- what is there at some point is no more than in the end -/
theorem mid_len {l : List NoteC} {k v s : Nat} (hk : k < l.length) (hv : v < (l.getD k NoteC.zero).cl.length) (hs : s ≤ ((l.getD k NoteC.zero).cl.getD v 0).toNat) : ((toldU v s).foldl (addM l) ((toldC (l.getD k NoteC.zero).cl v).foldl (addM l) (rawTo l k))).length ≤ (rawM l).length := by
  obtain ⟨r1, h1⟩ := toldU_more v _ _ hs
  obtain ⟨r2, h2⟩ := toldC_more (l.getD k NoteC.zero).cl _ (v + 1) hv
  refine Nat.le_trans ?_ (rawTo_more l l.length (k + 1) hk)
  rw [rawTo, toldA, h2, List.foldl_append, toldC, List.foldl_append, h1, List.foldl_append]
  exact Nat.le_trans (fold_len r1 _) (fold_len r2 _)
set_option maxRecDepth 100000 in
set_option maxHeartbeats 16000000 in
theorem missing_any (u : Int) (a : Option Addr) (n c : Nat) (xs : List NoteI) (w : World) (hb : bookB u (coreN xs) = true) (h : RdN w a n c xs) (hf : (rawM (coreN xs)).length ≤ 12) :
    Calls Tryz.prog 35 #[.slice a n c] w fun e w' => ∃ a' c', e = .returned (.slice a' (rawM (coreN xs)).length c') ∧ Mem w.heap.size w w' [pairE a' (rawM (coreN xs)).length c' (isortG ((0 : Int), (0 : Int)) ltP (rawM (coreN xs)))] := by
  have hM := Mem.start w
  have hn12 : n ≤ 12 := by have := book_len hb; rw [coreN_len, h.rd.len] at this; exact this
  have hNL : (coreN xs).length = n := by rw [coreN_len, h.rd.len]
  have hcl : ∀ k, k < n → ((coreN xs).getD k NoteC.zero).cl = (xs.getD k NoteI.zero).cl := fun k hk => by rw [coreN_getD]; rfl
  have HVB := Lib.hid (fun k (hk : k < n) => (noteB_true (book_note hb (k := k) (by rw [hNL]; exact hk))).2.1)
  have HMD := Lib.hid (fun (k v s : Nat) (hk : k < n) (hv : v < (xs.getD k NoteI.zero).cl.length) (hs : s ≤ ((xs.getD k NoteI.zero).cl.getD v 0).toNat) => Nat.le_trans (mid_len (l := coreN xs) (k := k) (v := v) (s := s) (by rw [hNL]; exact hk) (by rw [hcl k hk]; exact hv) (by rw [hcl k hk]; exact hs)) hf)
  have HH := Lib.hid h; have HCL := Lib.hid hcl
  have HNL := Lib.hid hNL; have HF := Lib.hid hf
  clear hb h hcl hNL hf
  obtain ⟨i0, hi, hz0, hz1, hz2⟩ := info_parts Tryz.info58
  go_enter Tryz.func35, Tryz.ntmps35
  go_upto_region 2 with fail
  apply Mem.atWpA
  · exact memA
  clear hM
  intro wst hM
  (try simp only [World.size_alloc, World.size_setCell, World.heap_drewN, heapDrew, Nat.add_assoc, Nat.reduceAdd, sA, List.cons_append, List.nil_append] at hM)
  replace hM := Mem.toOwR (F := FPair) hM
  go_wp2_with fail
  go_loopw [3, 13] (fun s3 s13 wr => ∃ (k m c' g : Nat) (L : List (Int × Int)), k ≤ n ∧ s13 = .int .i64 k ∧ s3 = .slice (some ⟨g, 0, none⟩) m c' ∧ Hid (rawTo (coreN xs) k = L) ∧ Mem w.heap.size w wr [pairE (some ⟨g, 0, none⟩) m c' L]) (fun _ s13 _ => n - (intOf s13).toNat)
  case atStart => exact ⟨0, 0, _, _, [], Nat.zero_le _, rfl, rfl, Lib.hid rfl, hM⟩
  case round =>
    clear hM
    obtain ⟨k, m, c', g, L, hk, rfl, rfl, HLL, hM⟩ := hrel
    by_cases hlt : k < n
    · obtain ⟨b, off, rfl, -, -⟩ := HH.out.rd.at' _ hlt
      obtain ⟨x0, x1, x2, x3⟩ := ((HH.out.rd.ext hM.below).cellNote hlt).2
      have hxi := HH.out.get hlt
      have hvb := HVB.out k hlt
      have hmd := fun v s => HMD.out k v s hlt
      have hst : rawTo (coreN xs) (k + 1) = (toldA ((coreN xs).getD k NoteC.zero).cl).foldl (addM (coreN xs)) (rawTo (coreN xs) k) := rfl
      rw [HCL.out k hlt] at hvb hst
      rw [HLL.out] at hst
      simp only [HCL.out k hlt, HLL.out] at hmd
      obtain ⟨x, hx⟩ : ∃ x, xs.getD k NoteI.zero = x := ⟨_, rfl⟩
      rw [hx] at x0 x1 x2 x3 hxi hvb hst
      simp only [hx] at hmd
      clear hx
      obtain ⟨xu, xq, xa, xn, xc, xl, xw⟩ := x
      dsimp only at x0 x1 x2 x3 hxi hvb hst hmd
      have hxl := hxi.len
      have hst2 : rawTo (coreN xs) (k + 1) = (toldC xl xn).foldl (addM (coreN xs)) L := by rw [hst, toldA, hxl]
      rw [hxl] at hmd
      have HXI := Lib.hid hxi; have HVX := Lib.hid hvb; have HST := Lib.hid hst2; have HMX := Lib.hid hmd; have HXL := Lib.hid hxl
      have hrx := hxi.room
      clear hxi hvb hst hst2 hmd hxl HLL
      have i0' : (0 : Int) ≤ (k : Int) := by omega
      have i1 : (k : Int) < (n : Int) := by omega
      go_upto_region 5 with fail
      apply Mem.atWpA
      · exact memA
      clear hM
      intro wst hM
      (try simp only [World.size_alloc, World.size_setCell, World.heap_drewN, heapDrew, Nat.add_assoc, Nat.reduceAdd, sA, List.cons_append, List.nil_append] at hM)
      clear x0 x1 x2 x3
      generalize wr.heap.size = gb at hM ⊢
      obtain ⟨k0, f0, l0⟩ := hM.row .here
      go_wp2_with fail
      clear k0 f0 l0
      go_loopw [3, 20] (fun s3 s20 wq => ∃ (v m c' g : Nat) (M : List (Int × Int)), v ≤ xn ∧ s20 = .int .i64 v ∧ s3 = .slice (some ⟨g, 0, none⟩) m c' ∧ Hid ((toldC xl v).foldl (addM (coreN xs)) L = M) ∧ Mem w.heap.size w wq [rowE gb 40 #[.int .i64 xu, .int .i64 xq, .slice xa xn xc, .string (bsA xw)], pairE (some ⟨g, 0, none⟩) m c' M]) (fun _ s20 _ => xn - (intOf s20).toNat)
      case atStart => exact ⟨0, m, c', g, L, Nat.zero_le _, rfl, rfl, Lib.hid rfl, hM⟩
      case round =>
        clear hM
        obtain ⟨v, m, c', g, M, hv, rfl, rfl, HLM, hM⟩ := hrel
        by_cases hlv : v < xn
        · obtain ⟨bx, ox, rfl, -, -⟩ := HXI.out.at' _ hlv
          have hcx := (HXI.out.ext hM.below).cellK hlv
          have hvx := HVX.out (xl.getD v 0) (getD_mem (by rw [HXL.out]; exact hlv))
          have hmx := fun s => HMX.out v s hlv
          have hst : (toldC xl (v + 1)).foldl (addM (coreN xs)) L = (toldU v (xl.getD v 0).toNat).foldl (addM (coreN xs)) M := by rw [toldC, List.foldl_append, HLM.out]
          rw [HLM.out] at hmx
          obtain ⟨X, hX⟩ : ∃ X : Nat, xl.getD v 0 = (X : Int) := Int.eq_ofNat_of_zero_le hvx.1
          rw [hX, Int.toNat_natCast] at hst
          rw [hX, Int.toNat_natCast] at hmx
          rw [hX] at hcx hvx
          have hX12 : X ≤ 12 := by omega
          have HS2 := Lib.hid hst; have HM2 := Lib.hid hmx
          clear hX hst hmx hvx HLM
          have v0 : (0 : Int) ≤ (v : Int) := by omega
          have v1 : (v : Int) < (xn : Int) := by omega
          go_wp2_with fail
          go_loopw [3, 8] (fun s3 s8 wq2 => ∃ (s t m c' g : Nat) (N : List (Int × Int)), s ≤ X ∧ Hid (t = s + 1) ∧ s8 = .int .i64 t ∧ s3 = .slice (some ⟨g, 0, none⟩) m c' ∧ Hid ((toldU v s).foldl (addM (coreN xs)) M = N) ∧ Mem w.heap.size w wq2 [rowE gb 40 #[.int .i64 xu, .int .i64 xq, .slice (some ⟨bx, ox, none⟩) xn xc, .string (bsA xw)], pairE (some ⟨g, 0, none⟩) m c' N]) (fun _ s8 _ => X + 1 - (intOf s8).toNat)
          case atStart => exact ⟨0, 1, m, c', g, M, Nat.zero_le _, Lib.hid rfl, rfl, rfl, Lib.hid rfl, by (exact memA)⟩
          case round =>
            clear hM hcx
            obtain ⟨s, t, m, c', g, N, hs, HTS, rfl, rfl, HLN, hM⟩ := hrel
            have hml := (hM.ow (.there .here)).len
            have hm12 : m ≤ 12 := by have := HM2.out s hs; rw [HLN.out] at this; omega
            by_cases hls : s < X
            · have htX : t ≤ X := by have := HTS.out; omega
              have hst : (toldU v (s + 1)).foldl (addM (coreN xs)) M = addM (coreN xs) N ((v : Int), (t : Int)) := by
                rw [toldU, List.foldl_append, HLN.out, show ((s : Int) + 1) = (t : Int) by have := HTS.out; omega]
                rfl
              have hfd : fndN (coreN xs) (keyN ((v : Int), (t : Int))) = if hasP (coreN xs) ((v : Int), (t : Int)) then ((plN (coreN xs) (keyN ((v : Int), (t : Int))) : Nat) : Int) else -1 := rfl
              cases hh : hasP (coreN xs) ((v : Int), (t : Int))
              · rw [hh] at hfd
                cases hcn : N.contains ((v : Int), (t : Int))
                · have HS3 := Lib.hid (show (toldU v (s + 1)).foldl (addM (coreN xs)) M = N ++ [((v : Int), (t : Int))] by rw [hst, addM, hh, hcn]; rfl)
                  have HFD := Lib.hid (show fndN (coreN xs) (keyN ((v : Int), (t : Int))) = -1 from hfd)
                  have HCN := Lib.hid hcn
                  clear hst hfd hh hcn hml
                  go_upto_region 12 with fail
                  apply Mem.atWpA
                  · exact memA
                  clear hM
                  intro wst hM
                  (try simp only [World.size_alloc, World.size_setCell, World.heap_drewN, heapDrew, Nat.add_assoc, Nat.reduceAdd, sA, List.cons_append, List.nil_append] at hM)
                  obtain ⟨k0, f0, l0⟩ := hM.row .here
                  go_wp2_with fail
                  clear k0 f0 l0
                  apply Mem.atA
                  · exact memA
                  clear hM
                  intro wst hM
                  (try simp only [World.size_alloc, World.size_setCell, World.heap_drewN, heapDrew, Nat.add_assoc, Nat.reduceAdd, sA, List.cons_append, List.nil_append] at hM)
                  (first | refine (find_any _ n c xs (keyN ((v : Int), (t : Int))) _ (HH.out.ext hM.below)).mono ?_)
                  rw [HFD.out]
                  rintro e wc3 ⟨rfl, hb⟩
                  replace hM := hM.ext hb
                  clear hb
                  obtain ⟨k0, f0, l0⟩ := hM.row .here
                  go_wp2_with fail
                  clear k0 f0 l0
                  apply Mem.atA
                  · exact memA
                  clear hM
                  intro wst hM
                  (try simp only [World.size_alloc, World.size_setCell, World.heap_drewN, heapDrew, Nat.add_assoc, Nat.reduceAdd, sA, List.cons_append, List.nil_append] at hM)
                  (first | refine (hasPair_any _ m c' N ((v : Int), (t : Int)) _ (hM.ow (.there (.there .here))).rd).mono ?_)
                  rw [HCN.out]
                  rintro e wc4 ⟨rfl, hb⟩
                  replace hM := hM.ext hb
                  clear hb
                  obtain ⟨k0, f0, l0⟩ := hM.row .here
                  go_wp2_with (at_builtin; apply Mem.atL; (focus ((repeat' (first | with_reducible exact hM | with_reducible exact hMp | with_reducible apply Mem.drew | with_reducible apply Mem.drewN | with_reducible apply Mem.alloc | with_reducible apply Mem.set | with_reducible exact Sto.row | ((with_reducible refine Sto.rowEq2 ?_ ?_); omega; rfl) | ((with_reducible refine Sto.rowEq ?_); omega) | with_reducible apply Sto.int | with_reducible apply Sto.there | with_reducible assumption | (unfold I64; omega) | (with_reducible (have hMx := Mem.undrew hM; exact hMx)) | (with_reducible (have hMx := Mem.undrew hMp; exact hMx)))); done)); clear hM; intro hM; refine wpList_pushR (F := FPair) ((v : Int), (t : Int)) hM (fun _ => .there (.there .here)) rfl (by refine ⟨?_, ?_⟩ <;> (unfold I64; dsimp only; omega)) (by decide) (by show (m + 1) * 2 ≤ _; omega) i0 (.agg #[.int .i64 0, .int .i64 0]) 16 hi hz0 hz1 hz2 rfl (by omega) rfl _ _ _ Tryz.underlying34 rfl rfl rfl ?_)
                  intro a7 c7 w7 hM
                  obtain ⟨g7, rfl, -⟩ := (hM.ow (.there (.there .here))).head (by omega)
                  go_wp2
                  go_roundw
                  case rel => exact ⟨s + 1, t + 1, m + 1, c7, g7, _, by omega, Lib.hid (by rw [HTS.out]), by go_num, rfl, HS3, by apply Mem.pick (is := [1, 2]) hM (by decide) rfl⟩
                  case measure => simp [intOf]; omega
                · have HS3 := Lib.hid (show (toldU v (s + 1)).foldl (addM (coreN xs)) M = N by rw [hst, addM, hh, hcn]; rfl)
                  have HFD := Lib.hid (show fndN (coreN xs) (keyN ((v : Int), (t : Int))) = -1 from hfd)
                  have HCN := Lib.hid hcn
                  clear hst hfd hh hcn hml
                  go_upto_region 12 with fail
                  apply Mem.atWpA
                  · exact memA
                  clear hM
                  intro wst hM
                  (try simp only [World.size_alloc, World.size_setCell, World.heap_drewN, heapDrew, Nat.add_assoc, Nat.reduceAdd, sA, List.cons_append, List.nil_append] at hM)
                  obtain ⟨k0, f0, l0⟩ := hM.row .here
                  go_wp2_with fail
                  clear k0 f0 l0
                  apply Mem.atA
                  · exact memA
                  clear hM
                  intro wst hM
                  (try simp only [World.size_alloc, World.size_setCell, World.heap_drewN, heapDrew, Nat.add_assoc, Nat.reduceAdd, sA, List.cons_append, List.nil_append] at hM)
                  (first | refine (find_any _ n c xs (keyN ((v : Int), (t : Int))) _ (HH.out.ext hM.below)).mono ?_)
                  rw [HFD.out]
                  rintro e wc5 ⟨rfl, hb⟩
                  replace hM := hM.ext hb
                  clear hb
                  obtain ⟨k0, f0, l0⟩ := hM.row .here
                  go_wp2_with fail
                  clear k0 f0 l0
                  apply Mem.atA
                  · exact memA
                  clear hM
                  intro wst hM
                  (try simp only [World.size_alloc, World.size_setCell, World.heap_drewN, heapDrew, Nat.add_assoc, Nat.reduceAdd, sA, List.cons_append, List.nil_append] at hM)
                  (first | refine (hasPair_any _ m c' N ((v : Int), (t : Int)) _ (hM.ow (.there (.there .here))).rd).mono ?_)
                  rw [HCN.out]
                  rintro e wc6 ⟨rfl, hb⟩
                  replace hM := hM.ext hb
                  clear hb
                  go_wp2
                  go_roundw
                  case rel => exact ⟨s + 1, t + 1, m, c', g, N, by omega, Lib.hid (by rw [HTS.out]), by go_num, rfl, HS3, by apply Mem.pick (is := [1, 2]) hM (by decide) rfl⟩
                  case measure => simp [intOf]; omega
              · rw [hh] at hfd
                have HS3 := Lib.hid (show (toldU v (s + 1)).foldl (addM (coreN xs)) M = N by rw [hst, addM, hh]; rfl)
                obtain ⟨z, hz⟩ : ∃ z : Nat, plN (coreN xs) (keyN ((v : Int), (t : Int))) = z := ⟨_, rfl⟩
                rw [hz] at hfd
                have HFD := Lib.hid (show fndN (coreN xs) (keyN ((v : Int), (t : Int))) = (z : Int) from hfd)
                clear hst hfd hh hml hz
                have hz0' : ¬ ((z : Int) < 0) := by omega
                go_upto_region 12 with fail
                apply Mem.atWpA
                · exact memA
                clear hM
                intro wst hM
                (try simp only [World.size_alloc, World.size_setCell, World.heap_drewN, heapDrew, Nat.add_assoc, Nat.reduceAdd, sA, List.cons_append, List.nil_append] at hM)
                obtain ⟨k0, f0, l0⟩ := hM.row .here
                go_wp2_with fail
                clear k0 f0 l0
                apply Mem.atA
                · exact memA
                clear hM
                intro wst hM
                (try simp only [World.size_alloc, World.size_setCell, World.heap_drewN, heapDrew, Nat.add_assoc, Nat.reduceAdd, sA, List.cons_append, List.nil_append] at hM)
                (first | refine (find_any _ n c xs (keyN ((v : Int), (t : Int))) _ (HH.out.ext hM.below)).mono ?_)
                rw [HFD.out]
                rintro e wc7 ⟨rfl, hb⟩
                replace hM := hM.ext hb
                clear hb
                go_wp2
                go_roundw
                case rel => exact ⟨s + 1, t + 1, m, c', g, N, by omega, Lib.hid (by rw [HTS.out]), by go_num, rfl, HS3, by apply Mem.pick (is := [1, 2]) hM (by decide) rfl⟩
                case measure => simp [intOf]; omega
            · obtain rfl : s = X := by omega
              have htX : ¬ t ≤ s := by have := HTS.out; omega
              have HS3 := Lib.hid (HS2.out.trans HLN.out)
              clear HLN hml
              go_wp2
              go_roundw
              case rel => exact ⟨v + 1, m, c', g, N, by omega, by go_num, rfl, HS3, hM⟩
              case measure => simp [intOf]; omega
        · obtain rfl : v = xn := by omega
          have HS3 := Lib.hid (HST.out.trans HLM.out)
          clear HLM
          go_wp2
          go_roundw
          case rel => exact ⟨k + 1, m, c', g, M, by omega, by go_num, rfl, HS3, hM.tail⟩
          case measure => simp [intOf]; omega
    · obtain rfl : k = n := by omega
      have hL : rawM (coreN xs) = L := by rw [rawM, HNL.out]; exact HLL.out
      have hml := (hM.ow .here).len
      rw [hL] at HF
      have hm12 : m ≤ 12 := by rw [← hml]; exact HF.out
      have HLQ := Lib.hid hL
      have HMQ := Lib.hid hml
      clear HLL hL hml HMD HNL
      go_wp2_with fail
      refine (sortPair_any w.heap.size w [] g m c' L 62 _ ltP _ hM hm12 (enters Tryz.func62 (by kernel_rfl) rfl) (compares_pair _ _ _ _)).mono ?_
      clear hM
      rintro e w3 ⟨rfl, hM⟩
      go_wp2
      go_ret
      exact ⟨_, _, by rw [HLQ.out, HMQ.out]; rfl, by rw [HLQ.out, HMQ.out]; exact hM⟩
end Go.Proofs.YtjnbdgldpmmamaaGreat

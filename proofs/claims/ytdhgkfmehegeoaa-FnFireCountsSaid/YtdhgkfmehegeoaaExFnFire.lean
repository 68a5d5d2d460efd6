/-
  The law FnFireCounts, walked.
-/
import Derived.Test.YtdhgkfmehegeoaaFireP
import Derived.Test.YtdhgkfmehegeoaaDrawSea3
import Derived.Test.YtdhgkfmehegeoaaLawV
import Derived.Test.YtdhgkfmehegeoaaQuiet
import Derived.Test.YtdhgkfmehegeoaaHalf2
import Derived.Deep.DeepCutAuto
namespace Go.Proofs.Ytdhgkfmehegeoaa
set_option linter.unusedSimpArgs false
set_option linter.unusedVariables false
open Go.RowKit

set_option maxRecDepth 100000 in
set_option maxHeartbeats 8000000 in
theorem FnFireCounts_walk (a : Option Addr) (n cc : Nat) (l : List UInt8) (w : World) (hI : n ≤ maxLen ∧ (n ≤ 65536 → Rd FByt w a n cc l)) :
    Calls Try.prog 6 #[.slice a n cc] w fun e w' => e = .returned (.bool true) ∧ Below w.heap.size w w' := by
  have hM := Mem.start w
  have HI := Lib.hid hI.2
  clear hI
  go_enter Try.func6, Try.ntmps6
  go_wp2_with fail
  apply Mem.atA
  · (repeat' (first | with_reducible exact hM | with_reducible exact hMp | with_reducible apply Mem.drew | with_reducible apply Mem.drewN | with_reducible apply Mem.alloc | with_reducible apply Mem.set | with_reducible exact Sto.row | ((with_reducible refine Sto.rowEq2 ?_ ?_); omega; rfl) | ((with_reducible refine Sto.rowEq ?_); omega) | with_reducible apply Sto.int | with_reducible apply Sto.there | with_reducible assumption | (unfold I64; omega) | (with_reducible (have hMx := Mem.undrew hM; exact hMx)) | (with_reducible (have hMx := Mem.undrew hMp; exact hMx))))
  clear hM
  intro wst hM
  (try simp only [World.size_alloc, World.size_setCell, World.heap_drewN, heapDrew, Nat.add_assoc, Nat.reduceAdd, List.setIfInBounds_toArray, List.set_cons_zero, List.set_cons_succ, List.cons_append, List.nil_append] at hM)
  refine (rBig_any a n cc _).mono ?_
  rintro e wc1 ⟨rfl, hb⟩
  replace hM := hM.ext hb
  clear hb
  by_cases hb : 65536 < n
  · go_wp2
    go_ret
    exact ⟨rfl, (by apply Mem.below; (repeat' (first | with_reducible exact hM | with_reducible exact hMp | with_reducible apply Mem.drew | with_reducible apply Mem.drewN | with_reducible apply Mem.alloc | with_reducible apply Mem.set | with_reducible exact Sto.row | ((with_reducible refine Sto.rowEq2 ?_ ?_); omega; rfl) | ((with_reducible refine Sto.rowEq ?_); omega) | with_reducible apply Sto.int | with_reducible apply Sto.there | with_reducible assumption | (unfold I64; omega) | (with_reducible (have hMx := Mem.undrew hM; exact hMx)) | (with_reducible (have hMx := Mem.undrew hMp; exact hMx)))))⟩
  have HC := Lib.hid (HI.out (by omega))
  clear HI
  go_wp2_with fail
  apply Mem.atA
  · (repeat' (first | with_reducible exact hM | with_reducible exact hMp | with_reducible apply Mem.drew | with_reducible apply Mem.drewN | with_reducible apply Mem.alloc | with_reducible apply Mem.set | with_reducible exact Sto.row | ((with_reducible refine Sto.rowEq2 ?_ ?_); omega; rfl) | ((with_reducible refine Sto.rowEq ?_); omega) | with_reducible apply Sto.int | with_reducible apply Sto.there | with_reducible assumption | (unfold I64; omega) | (with_reducible (have hMx := Mem.undrew hM; exact hMx)) | (with_reducible (have hMx := Mem.undrew hMp; exact hMx))))
  clear hM
  intro wst hM
  (try simp only [World.size_alloc, World.size_setCell, World.heap_drewN, heapDrew, Nat.add_assoc, Nat.reduceAdd, List.setIfInBounds_toArray, List.set_cons_zero, List.set_cons_succ, List.cons_append, List.nil_append] at hM)
  refine (drawSea_fewest (HC.out.ext hM.below)).mono ?_
  rintro e w1 ⟨a1, c1, xs, p, hl, hx, hp, rfl, hm⟩
  replace hM := hM.join hm
  clear hm
  (try simp only [World.size_alloc, World.size_setCell, World.heap_drewN, heapDrew, Nat.add_assoc, Nat.reduceAdd, List.setIfInBounds_toArray, List.set_cons_zero, List.set_cons_succ, List.cons_append, List.nil_append] at hM)
  obtain ⟨p0, p1⟩ := hp
  clear hx
  have hpI : I64 p := by unfold I64; omega
  obtain ⟨⟨v0, v1⟩, hq0⟩ : ∃ r, fewestR xs p = r := ⟨_, rfl⟩
  have HQ0 := Lib.hid hq0; clear hq0
  have hbb0 : (v0 != v0) = false := by simp
  have hbb1 : (v1 != v1) = false := by cases v1 <;> rfl
  go_wp2_with fail
  apply Mem.atA
  · (repeat' (first | with_reducible exact hM | with_reducible exact hMp | with_reducible apply Mem.drew | with_reducible apply Mem.drewN | with_reducible apply Mem.alloc | with_reducible apply Mem.set | with_reducible exact Sto.row | ((with_reducible refine Sto.rowEq2 ?_ ?_); omega; rfl) | ((with_reducible refine Sto.rowEq ?_); omega) | with_reducible apply Sto.int | with_reducible apply Sto.there | with_reducible assumption | (unfold I64; omega) | (with_reducible (have hMx := Mem.undrew hM; exact hMx)) | (with_reducible (have hMx := Mem.undrew hMp; exact hMx))))
  clear hM
  intro wst hM
  (try simp only [World.size_alloc, World.size_setCell, World.heap_drewN, heapDrew, Nat.add_assoc, Nat.reduceAdd, List.setIfInBounds_toArray, List.set_cons_zero, List.set_cons_succ, List.cons_append, List.nil_append] at hM)
  refine (implFewest_any _ _ _ xs p _ (hM.ow .here).rd hpI).mono ?_
  rw [HQ0.out]
  rintro e wc3 ⟨rfl, hb⟩
  replace hM := hM.ext hb
  clear hb
  dsimp only
  go_wp2_with fail
  apply Mem.atA
  · (repeat' (first | with_reducible exact hM | with_reducible exact hMp | with_reducible apply Mem.drew | with_reducible apply Mem.drewN | with_reducible apply Mem.alloc | with_reducible apply Mem.set | with_reducible exact Sto.row | ((with_reducible refine Sto.rowEq2 ?_ ?_); omega; rfl) | ((with_reducible refine Sto.rowEq ?_); omega) | with_reducible apply Sto.int | with_reducible apply Sto.there | with_reducible assumption | (unfold I64; omega) | (with_reducible (have hMx := Mem.undrew hM; exact hMx)) | (with_reducible (have hMx := Mem.undrew hMp; exact hMx))))
  clear hM
  intro wst hM
  (try simp only [World.size_alloc, World.size_setCell, World.heap_drewN, heapDrew, Nat.add_assoc, Nat.reduceAdd, List.setIfInBounds_toArray, List.set_cons_zero, List.set_cons_succ, List.cons_append, List.nil_append] at hM)
  refine (specFewest_any _ _ _ xs p _ (hM.ow .here).rd hpI).mono ?_
  rw [HQ0.out]
  rintro e wc4 ⟨rfl, hb⟩
  replace hM := hM.ext hb
  clear hb
  dsimp only
  go_upto_if 67 with fail
  go_cut [] (fun wx => Mem w.heap.size w wx [])
  case first =>
    cases v1
    · go_wp2_with fail
      go_meet
      exact hM.tail
    obtain ⟨k, rfl, hk, h15, hall, hlg, he1, he2, q0, q1⟩ := few_ok HQ0.out
    clear HQ0 hbb0 hbb1
    have HE1 := Lib.hid he1; have HE2 := Lib.hid he2; have HLG := Lib.hid hlg; have HA := Lib.hid hall
    clear he1 he2 hlg hall
    go_wp2_with fail
    apply Mem.atA
    · (repeat' (first | with_reducible exact hM | with_reducible exact hMp | with_reducible apply Mem.drew | with_reducible apply Mem.drewN | with_reducible apply Mem.alloc | with_reducible apply Mem.set | with_reducible exact Sto.row | ((with_reducible refine Sto.rowEq2 ?_ ?_); omega; rfl) | ((with_reducible refine Sto.rowEq ?_); omega) | with_reducible apply Sto.int | with_reducible apply Sto.there | with_reducible assumption | (unfold I64; omega) | (with_reducible (have hMx := Mem.undrew hM; exact hMx)) | (with_reducible (have hMx := Mem.undrew hMp; exact hMx))))
    clear hM
    intro wst hM
    (try simp only [World.size_alloc, World.size_setCell, World.heap_drewN, heapDrew, Nat.add_assoc, Nat.reduceAdd, List.setIfInBounds_toArray, List.set_cons_zero, List.set_cons_succ, List.cons_append, List.nil_append] at hM)
    refine (implLargF_any _ _ _ xs k _ (hM.ow .here).rd (by unfold I64; omega)).mono ?_
    rw [HLG.out]
    rintro e w2 ⟨a2, n2, c2, rfl, hm⟩
    replace hM := hM.join hm
    clear hm
    (try simp only [World.size_alloc, World.size_setCell, World.heap_drewN, heapDrew, Nat.add_assoc, Nat.reduceAdd, List.setIfInBounds_toArray, List.set_cons_zero, List.set_cons_succ, List.cons_append, List.nil_append] at hM)
    dsimp only at hM ⊢
    have hn2 : n2 = k := by
      have := (hM.ints .here).len
      rw [List.length_take, largeL_length] at this
      omega
    subst hn2
    have hO := (hM.ints .here)
    have hR := (hM.ow (.there .here)).rd
    have hcap := hR.cap
    have hcap2 := hO.ints.cap
    go_wp2_with fail
    go_loop [11, 14] (fun t i => ∃ j : Nat, j ≤ xs.length ∧ i = .int .i64 j ∧ t = .int .i64 (sumH (xs.take j))) (fun _ i => xs.length - (intOf i).toNat)
    case atStart => exact ⟨0, Nat.zero_le _, rfl, rfl⟩
    case round =>
      obtain ⟨j, hj, rfl, rfl⟩ := hrel
      have hb2 := sumH_bound (xs := xs.take j) (fun x hx => HA.out x (List.mem_of_mem_take hx))
      have hlk : (xs.take j).length ≤ 15 := by rw [List.length_take]; omega
      have hs := fun h => sumH_succ (xs := xs) (k := j) h
      obtain ⟨t, ht⟩ : ∃ t, sumH (xs.take j) = t := ⟨_, rfl⟩
      rw [ht] at hb2 ⊢
      simp only [ht] at hs
      have HT := Lib.hid ht; clear ht
      have HS := Lib.hid hs; clear hs
      obtain ⟨t0, t1⟩ := hb2
      by_cases hlt : j < xs.length
      · obtain ⟨b, off, rfl, _⟩ := hR.at' _ hlt
        obtain ⟨hbl, hc0, hc1, hc2, hc3⟩ := hR.cellFire hlt
        have hmem : xs.getD j FireI.zero ∈ xs := by rw [List.getD_eq_getElem?_getD, List.getElem?_eq_getElem hlt]; exact List.getElem_mem _
        obtain ⟨y0, y1⟩ := (fireB_true (HA.out _ hmem)).2.2.1
        have HS2 := Lib.hid (HS.out hlt)
        clear hmem HS
        obtain ⟨v, hv⟩ : ∃ v, (xs.getD j FireI.zero).hect = v := ⟨_, rfl⟩
        rw [hv] at hc2 y0 y1 HS2
        clear hv hc0 hc1 hc3
        go_wp2
        go_round
        case rel => exact ⟨j + 1, by omega, by go_num, by rw [HS2.out]⟩
        case measure => simp [intOf]; omega
      · obtain rfl : j = xs.length := by omega
        have hta : sumH xs = t := by rw [← HT.out, List.take_of_length_le (Nat.le_refl _)]
        have HTA := Lib.hid hta; clear hta HT HS hlt
        go_wp2_with fail
        go_loop [12, 13, 15] (fun s u i => ∃ j : Nat, j ≤ n2 ∧ i = .int .i64 j ∧ s = .int .i64 (prefH xs j) ∧ u = .int .i64 (lastH xs j)) (fun _ _ i => n2 - (intOf i).toNat)
        case atStart => exact ⟨0, Nat.zero_le _, rfl, rfl, rfl⟩
        case round =>
          obtain ⟨j, hj, rfl, rfl, rfl⟩ := hrel
          have hpb := prefH_bound HA.out (m := j) (by omega)
          have hps := fun h => prefH_succ (xs := xs) (k := j) h
          obtain ⟨s, hs⟩ : ∃ s, prefH xs j = s := ⟨_, rfl⟩
          rw [hs] at hpb ⊢
          simp only [hs] at hps
          have HSS := Lib.hid hs; clear hs
          have HPS := Lib.hid hps; clear hps
          by_cases hlt : j < n2
          · obtain ⟨v, hv, hvl, hlast⟩ := large_at (xs := xs) (m := j) hlt hk
            obtain ⟨b2, off2, rfl, _, hcell⟩ := hO.ints.at' _ hlt
            have hck := hcell j hlt
            clear hcell
            rw [hv] at hck
            obtain ⟨b, off, rfl, _⟩ := hR.at' _ hvl
            obtain ⟨hbl, hc0, hc1, hc2, hc3⟩ := hR.cellFire hvl
            have hmem : xs.getD v FireI.zero ∈ xs := by rw [List.getD_eq_getElem?_getD, List.getElem?_eq_getElem hvl]; exact List.getElem_mem _
            obtain ⟨y0, y1⟩ := (fireB_true (HA.out _ hmem)).2.2.1
            have HP2 := Lib.hid (HPS.out (by omega))
            have HLT := Lib.hid hlast
            clear hmem HPS hv hlast hc0 hc1 hc3
            obtain ⟨y, hy⟩ : ∃ y, (xs.getD v FireI.zero).hect = y := ⟨_, rfl⟩
            rw [hy] at hc2 y0 y1 HLT
            clear hy
            have HP3 : Hid (prefH xs (j + 1) = s + y) := Lib.hid (by rw [HP2.out]; exact congrArg (s + ·) HLT.out)
            clear HP2
            obtain ⟨u, hu⟩ : ∃ u, lastH xs j = u := ⟨_, rfl⟩
            rw [hu]
            clear hu
            have v0' : (0 : Int) ≤ (v : Int) := by omega
            have v1' : (v : Int) < (xs.length : Int) := by omega
            go_wp2
            go_round
            case rel => exact ⟨j + 1, by omega, by go_num, by rw [HP3.out], by rw [HLT.out]⟩
            case measure => simp [intOf]; omega
          · obtain rfl : j = n2 := by omega
            have hge : p * t ≤ 100 * s := by have := HE1.out; rwa [HTA.out, HSS.out] at this
            have hpos : 0 < j → 100 * (s - lastH xs j) < p * t := by have := HE2.out; rwa [HTA.out, HSS.out] at this
            have hlb : -100000 ≤ lastH xs j ∧ lastH xs j ≤ 100000 := by
              cases j with
              | zero => simp [lastH]
              | succ m =>
                obtain ⟨v, hv, hvl, hlast⟩ := large_at (xs := xs) (m := m) (Nat.lt_succ_self m) hk
                have hmem : xs.getD v FireI.zero ∈ xs := by rw [List.getD_eq_getElem?_getD, List.getElem?_eq_getElem hvl]; exact List.getElem_mem _
                obtain ⟨y0, y1⟩ := (fireB_true (HA.out _ hmem)).2.2.1
                rw [hlast]
                omega
            obtain ⟨u, hu⟩ : ∃ u, lastH xs j = u := ⟨_, rfl⟩
            rw [hu] at hpos hlb ⊢
            clear hu HPS HSS HE1 HE2 HTA HA HLG
            obtain ⟨m0, m1⟩ := mul_bound (a := 100) (b := 1500000) q0 (by omega) t0 (by omega)
            obtain ⟨z, hz⟩ : ∃ z, p * t = z := ⟨_, rfl⟩
            rw [hz] at hge hpos m0 m1
            have hw1 : IntKind.i64.wrap (p * t) = z := by rw [hz]; exact wrap_in (by omega)
            have hw2 : IntKind.i64.wrap (100 * s) = 100 * s := wrap_in (by omega)
            have hw3 : IntKind.i64.wrap (s - u) = s - u := wrap_in (by omega)
            have hw4 : IntKind.i64.wrap (100 * (s - u)) = 100 * (s - u) := wrap_in (by omega)
            clear hz
            have hjj : ((j : Int) != (j : Int)) = false := by simp
            have hn1 : ¬ (100 * s < z) := by omega
            by_cases hj0 : 0 < j
            · have hn2 := hpos hj0
              have hn3 : ¬ (z ≤ 100 * (s - u)) := by omega
              go_wp2_with fail
              go_meet
              exact hM.sub (by simp)
            · have hn3 : decide (0 < j) = false := by simpa using hj0
              go_wp2_with fail
              go_meet
              exact hM.sub (by simp)
  case rest =>
    clear hM HQ0 hbb0 hbb1 hpI p0 p1 hl
    have hM := hcut
    clear hcut
    go_wp2_with fail
    apply Mem.atA
    · (repeat' (first | with_reducible exact hM | with_reducible exact hMp | with_reducible apply Mem.drew | with_reducible apply Mem.drewN | with_reducible apply Mem.alloc | with_reducible apply Mem.set | with_reducible exact Sto.row | ((with_reducible refine Sto.rowEq2 ?_ ?_); omega; rfl) | ((with_reducible refine Sto.rowEq ?_); omega) | with_reducible apply Sto.int | with_reducible apply Sto.there | with_reducible assumption | (unfold I64; omega) | (with_reducible (have hMx := Mem.undrew hM; exact hMx)) | (with_reducible (have hMx := Mem.undrew hMp; exact hMx))))
    clear hM
    intro wst hM
    (try simp only [World.size_alloc, World.size_setCell, World.heap_drewN, heapDrew, Nat.add_assoc, Nat.reduceAdd, List.setIfInBounds_toArray, List.set_cons_zero, List.set_cons_succ, List.cons_append, List.nil_append] at hM)
    refine (drawSea_largest (HC.out.ext hM.below)).mono ?_
    rintro e w3 ⟨a3, c3, ys, q, hl3, hx3, hq3, rfl, hm⟩
    replace hM := hM.join hm
    clear hm
    (try simp only [World.size_alloc, World.size_setCell, World.heap_drewN, heapDrew, Nat.add_assoc, Nat.reduceAdd, List.setIfInBounds_toArray, List.set_cons_zero, List.set_cons_succ, List.cons_append, List.nil_append] at hM)
    clear hx3
    have hqI : I64 q := by unfold I64; omega
    obtain ⟨⟨zs, v2⟩, hq1⟩ : ∃ r, largestR ys q = r := ⟨_, rfl⟩
    have HQ1 := Lib.hid hq1; clear hq1
    have hbb2 : (v2 != v2) = false := by cases v2 <;> rfl
    go_wp2_with fail
    apply Mem.atA
    · (repeat' (first | with_reducible exact hM | with_reducible exact hMp | with_reducible apply Mem.drew | with_reducible apply Mem.drewN | with_reducible apply Mem.alloc | with_reducible apply Mem.set | with_reducible exact Sto.row | ((with_reducible refine Sto.rowEq2 ?_ ?_); omega; rfl) | ((with_reducible refine Sto.rowEq ?_); omega) | with_reducible apply Sto.int | with_reducible apply Sto.there | with_reducible assumption | (unfold I64; omega) | (with_reducible (have hMx := Mem.undrew hM; exact hMx)) | (with_reducible (have hMx := Mem.undrew hMp; exact hMx))))
    clear hM
    intro wst hM
    (try simp only [World.size_alloc, World.size_setCell, World.heap_drewN, heapDrew, Nat.add_assoc, Nat.reduceAdd, List.setIfInBounds_toArray, List.set_cons_zero, List.set_cons_succ, List.cons_append, List.nil_append] at hM)
    refine (implLargF_any _ _ _ ys q _ (hM.ow .here).rd hqI).mono ?_
    rw [HQ1.out]
    rintro e w4 ⟨a4, n4, c4, rfl, hm⟩
    replace hM := hM.join hm
    clear hm
    (try simp only [World.size_alloc, World.size_setCell, World.heap_drewN, heapDrew, Nat.add_assoc, Nat.reduceAdd, List.setIfInBounds_toArray, List.set_cons_zero, List.set_cons_succ, List.cons_append, List.nil_append] at hM)
    dsimp only at hM ⊢
    go_wp2_with fail
    apply Mem.atA
    · (repeat' (first | with_reducible exact hM | with_reducible exact hMp | with_reducible apply Mem.drew | with_reducible apply Mem.drewN | with_reducible apply Mem.alloc | with_reducible apply Mem.set | with_reducible exact Sto.row | ((with_reducible refine Sto.rowEq2 ?_ ?_); omega; rfl) | ((with_reducible refine Sto.rowEq ?_); omega) | with_reducible apply Sto.int | with_reducible apply Sto.there | with_reducible assumption | (unfold I64; omega) | (with_reducible (have hMx := Mem.undrew hM; exact hMx)) | (with_reducible (have hMx := Mem.undrew hMp; exact hMx))))
    clear hM
    intro wst hM
    (try simp only [World.size_alloc, World.size_setCell, World.heap_drewN, heapDrew, Nat.add_assoc, Nat.reduceAdd, List.setIfInBounds_toArray, List.set_cons_zero, List.set_cons_succ, List.cons_append, List.nil_append] at hM)
    refine (specLargF_any _ _ _ ys q _ (hM.ow (.there .here)).rd hqI).mono ?_
    rw [HQ1.out]
    rintro e w5 ⟨a5, n5, c5, rfl, hm⟩
    replace hM := hM.join hm
    clear hm
    (try simp only [World.size_alloc, World.size_setCell, World.heap_drewN, heapDrew, Nat.add_assoc, Nat.reduceAdd, List.setIfInBounds_toArray, List.set_cons_zero, List.set_cons_succ, List.cons_append, List.nil_append] at hM)
    dsimp only at hM ⊢
    go_wp2_with fail
    apply Mem.atA
    · (repeat' (first | with_reducible exact hM | with_reducible exact hMp | with_reducible apply Mem.drew | with_reducible apply Mem.drewN | with_reducible apply Mem.alloc | with_reducible apply Mem.set | with_reducible exact Sto.row | ((with_reducible refine Sto.rowEq2 ?_ ?_); omega; rfl) | ((with_reducible refine Sto.rowEq ?_); omega) | with_reducible apply Sto.int | with_reducible apply Sto.there | with_reducible assumption | (unfold I64; omega) | (with_reducible (have hMx := Mem.undrew hM; exact hMx)) | (with_reducible (have hMx := Mem.undrew hMp; exact hMx))))
    clear hM
    intro wst hM
    (try simp only [World.size_alloc, World.size_setCell, World.heap_drewN, heapDrew, Nat.add_assoc, Nat.reduceAdd, List.setIfInBounds_toArray, List.set_cons_zero, List.set_cons_succ, List.cons_append, List.nil_append] at hM)
    refine (rInts_same _ _ _ zs _ _ _ _ (hM.intsR (.there .here)) (hM.intsR .here)).mono ?_
    rintro e wc9 ⟨rfl, hb⟩
    replace hM := hM.ext hb
    clear hb
    replace hM := hM.sub (G' := []) (by simp)
    go_wp2_with fail
    apply Mem.atA
    · (repeat' (first | with_reducible exact hM | with_reducible exact hMp | with_reducible apply Mem.drew | with_reducible apply Mem.drewN | with_reducible apply Mem.alloc | with_reducible apply Mem.set | with_reducible exact Sto.row | ((with_reducible refine Sto.rowEq2 ?_ ?_); omega; rfl) | ((with_reducible refine Sto.rowEq ?_); omega) | with_reducible apply Sto.int | with_reducible apply Sto.there | with_reducible assumption | (unfold I64; omega) | (with_reducible (have hMx := Mem.undrew hM; exact hMx)) | (with_reducible (have hMx := Mem.undrew hMp; exact hMx))))
    clear hM
    intro wst hM
    (try simp only [World.size_alloc, World.size_setCell, World.heap_drewN, heapDrew, Nat.add_assoc, Nat.reduceAdd, List.setIfInBounds_toArray, List.set_cons_zero, List.set_cons_succ, List.cons_append, List.nil_append] at hM)
    refine (drawSea_busy (HC.out.ext hM.below)).mono ?_
    rintro e w6 ⟨a6, c6, us, hl6, hx6, rfl, hm⟩
    replace hM := hM.join hm
    clear hm
    (try simp only [World.size_alloc, World.size_setCell, World.heap_drewN, heapDrew, Nat.add_assoc, Nat.reduceAdd, List.setIfInBounds_toArray, List.set_cons_zero, List.set_cons_succ, List.cons_append, List.nil_append] at hM)
    clear hx6
    obtain ⟨⟨d, m, v3⟩, hq2⟩ : ∃ r, busyR us = r := ⟨_, rfl⟩
    have HQ2 := Lib.hid hq2; clear hq2
    have hbd : (d != d) = false := by simp
    have hbm : (m != m) = false := by simp
    have hbb3 : (v3 != v3) = false := by cases v3 <;> rfl
    go_wp2_with fail
    apply Mem.atA
    · (repeat' (first | with_reducible exact hM | with_reducible exact hMp | with_reducible apply Mem.drew | with_reducible apply Mem.drewN | with_reducible apply Mem.alloc | with_reducible apply Mem.set | with_reducible exact Sto.row | ((with_reducible refine Sto.rowEq2 ?_ ?_); omega; rfl) | ((with_reducible refine Sto.rowEq ?_); omega) | with_reducible apply Sto.int | with_reducible apply Sto.there | with_reducible assumption | (unfold I64; omega) | (with_reducible (have hMx := Mem.undrew hM; exact hMx)) | (with_reducible (have hMx := Mem.undrew hMp; exact hMx))))
    clear hM
    intro wst hM
    (try simp only [World.size_alloc, World.size_setCell, World.heap_drewN, heapDrew, Nat.add_assoc, Nat.reduceAdd, List.setIfInBounds_toArray, List.set_cons_zero, List.set_cons_succ, List.cons_append, List.nil_append] at hM)
    refine (implBusy_any _ _ _ us _ (hM.ow .here).rd).mono ?_
    rw [HQ2.out]
    rintro e wc11 ⟨rfl, hb⟩
    replace hM := hM.ext hb
    clear hb
    dsimp only
    go_wp2_with fail
    apply Mem.atA
    · (repeat' (first | with_reducible exact hM | with_reducible exact hMp | with_reducible apply Mem.drew | with_reducible apply Mem.drewN | with_reducible apply Mem.alloc | with_reducible apply Mem.set | with_reducible exact Sto.row | ((with_reducible refine Sto.rowEq2 ?_ ?_); omega; rfl) | ((with_reducible refine Sto.rowEq ?_); omega) | with_reducible apply Sto.int | with_reducible apply Sto.there | with_reducible assumption | (unfold I64; omega) | (with_reducible (have hMx := Mem.undrew hM; exact hMx)) | (with_reducible (have hMx := Mem.undrew hMp; exact hMx))))
    clear hM
    intro wst hM
    (try simp only [World.size_alloc, World.size_setCell, World.heap_drewN, heapDrew, Nat.add_assoc, Nat.reduceAdd, List.setIfInBounds_toArray, List.set_cons_zero, List.set_cons_succ, List.cons_append, List.nil_append] at hM)
    refine (specBusy_any _ _ _ us _ (hM.ow .here).rd).mono ?_
    rw [HQ2.out]
    rintro e wc12 ⟨rfl, hb⟩
    replace hM := hM.ext hb
    clear hb
    dsimp only
    go_upto_if 187 with fail
    go_cut [] (fun wx => Mem w.heap.size w wx [owE FFire 70 a6 us.length c6 us])
    case first =>
      cases v3
      · go_wp2_with fail
        go_meet
        exact hM
      obtain ⟨hm1, hcnt, d0, d1, hm15, h15, hall⟩ := busy_ok HQ2.out
      have HA := Lib.hid hall; have HCN := Lib.hid hcnt
      clear hall hcnt HQ2
      have hR := (hM.ow .here).rd
      have hcap := hR.cap
      have hw7 : IntKind.i64.wrap (d + 7) = d + 7 := wrap_in (by omega)
      go_wp2_with fail
      go_loop [29, 30] (fun s i => ∃ j : Nat, j ≤ us.length ∧ i = .int .i64 j ∧ s = .int .i64 (((us.take j).filter (inWk d)).length : Nat)) (fun _ i => us.length - (intOf i).toNat)
      case atStart => exact ⟨0, Nat.zero_le _, rfl, rfl⟩
      case round =>
        obtain ⟨j, hj, rfl, rfl⟩ := hrel
        have hfl : ((us.take j).filter (inWk d)).length ≤ j := Nat.le_trans (List.length_filter_le _ _) (by rw [List.length_take]; omega)
        have hfs := fun h => filter_succ (xs := us) (inWk d) (k := j) h
        obtain ⟨s, hs⟩ : ∃ s, ((us.take j).filter (inWk d)).length = s := ⟨_, rfl⟩
        rw [hs] at hfl ⊢
        simp only [hs] at hfs
        have HS := Lib.hid hs; have HFS := Lib.hid hfs
        clear hs hfs
        by_cases hlt : j < us.length
        · obtain ⟨b, off, rfl, _⟩ := hR.at' _ hlt
          obtain ⟨hbl, hc0, hc1, hc2, hc3⟩ := hR.cellFire hlt
          have HF := Lib.hid (HFS.out hlt)
          clear HFS hc1 hc2 hc3
          obtain ⟨x, hx⟩ : ∃ x, us.getD j FireI.zero = x := ⟨_, rfl⟩
          rw [hx] at hc0 HF
          clear hx
          by_cases x0 : d ≤ x.day
          · by_cases x1 : x.day < d + 7
            · have HG := Lib.hid (show ((us.take (j + 1)).filter (inWk d)).length = s + 1 by rw [HF.out, if_pos (by unfold inWk; exact decide_eq_true ⟨x0, x1⟩)])
              go_wp2
              go_round
              case rel => exact ⟨j + 1, by omega, by go_num, by rw [HG.out]; go_num⟩
              case measure => simp [intOf]; omega
            · have HG := Lib.hid (show ((us.take (j + 1)).filter (inWk d)).length = s by rw [HF.out, if_neg (by unfold inWk; simp; omega)]; rfl)
              go_wp2
              go_round
              case rel => exact ⟨j + 1, by omega, by go_num, by rw [HG.out]⟩
              case measure => simp [intOf]; omega
          · have HG := Lib.hid (show ((us.take (j + 1)).filter (inWk d)).length = s by rw [HF.out, if_neg (by unfold inWk; simp; omega)]; rfl)
            go_wp2
            go_round
            case rel => exact ⟨j + 1, by omega, by go_num, by rw [HG.out]⟩
            case measure => simp [intOf]; omega
        · obtain rfl : j = us.length := by omega
          have hsm : (s : Int) = m := by rw [← HCN.out, ← HS.out, List.take_of_length_le (Nat.le_refl _)]
          subst hsm
          have hn1 : ¬ ((s : Int) < 1) := by omega
          go_wp2_with fail
          go_meet
          exact hM
    case rest =>
      clear hM
      have hM := hcut
      clear hcut hbd hbm hbb3 HQ2 hbb2 HQ1
      obtain ⟨⟨u0, u1⟩, hq5⟩ : ∃ r, quietR us = r := ⟨_, rfl⟩
      have HQ5 := Lib.hid hq5; clear hq5
      have hb5 : (u0 != u0) = false := by simp
      have hb6 : (u1 != u1) = false := by cases u1 <;> rfl
      go_wp2_with fail
      apply Mem.atA
      · (repeat' (first | with_reducible exact hM | with_reducible exact hMp | with_reducible apply Mem.drew | with_reducible apply Mem.drewN | with_reducible apply Mem.alloc | with_reducible apply Mem.set | with_reducible exact Sto.row | ((with_reducible refine Sto.rowEq2 ?_ ?_); omega; rfl) | ((with_reducible refine Sto.rowEq ?_); omega) | with_reducible apply Sto.int | with_reducible apply Sto.there | with_reducible assumption | (unfold I64; omega) | (with_reducible (have hMx := Mem.undrew hM; exact hMx)) | (with_reducible (have hMx := Mem.undrew hMp; exact hMx))))
      clear hM
      intro wst hM
      (try simp only [World.size_alloc, World.size_setCell, World.heap_drewN, heapDrew, Nat.add_assoc, Nat.reduceAdd, List.setIfInBounds_toArray, List.set_cons_zero, List.set_cons_succ, List.cons_append, List.nil_append] at hM)
      refine (implQuiet_any _ _ _ us _ (hM.ow .here).rd).mono ?_
      rw [HQ5.out]
      rintro e wc13 ⟨rfl, hb⟩
      replace hM := hM.ext hb
      clear hb
      dsimp only
      go_wp2_with fail
      apply Mem.atA
      · (repeat' (first | with_reducible exact hM | with_reducible exact hMp | with_reducible apply Mem.drew | with_reducible apply Mem.drewN | with_reducible apply Mem.alloc | with_reducible apply Mem.set | with_reducible exact Sto.row | ((with_reducible refine Sto.rowEq2 ?_ ?_); omega; rfl) | ((with_reducible refine Sto.rowEq ?_); omega) | with_reducible apply Sto.int | with_reducible apply Sto.there | with_reducible assumption | (unfold I64; omega) | (with_reducible (have hMx := Mem.undrew hM; exact hMx)) | (with_reducible (have hMx := Mem.undrew hMp; exact hMx))))
      clear hM
      intro wst hM
      (try simp only [World.size_alloc, World.size_setCell, World.heap_drewN, heapDrew, Nat.add_assoc, Nat.reduceAdd, List.setIfInBounds_toArray, List.set_cons_zero, List.set_cons_succ, List.cons_append, List.nil_append] at hM)
      refine (specQuiet_any _ _ _ us _ (hM.ow .here).rd).mono ?_
      rw [HQ5.out]
      rintro e wc14 ⟨rfl, hb⟩
      replace hM := hM.ext hb
      clear hb
      dsimp only
      replace hM := hM.tail
      go_wp2_with fail
      apply Mem.atA
      · (repeat' (first | with_reducible exact hM | with_reducible exact hMp | with_reducible apply Mem.drew | with_reducible apply Mem.drewN | with_reducible apply Mem.alloc | with_reducible apply Mem.set | with_reducible exact Sto.row | ((with_reducible refine Sto.rowEq2 ?_ ?_); omega; rfl) | ((with_reducible refine Sto.rowEq ?_); omega) | with_reducible apply Sto.int | with_reducible apply Sto.there | with_reducible assumption | (unfold I64; omega) | (with_reducible (have hMx := Mem.undrew hM; exact hMx)) | (with_reducible (have hMx := Mem.undrew hMp; exact hMx))))
      clear hM
      intro wst hM
      (try simp only [World.size_alloc, World.size_setCell, World.heap_drewN, heapDrew, Nat.add_assoc, Nat.reduceAdd, List.setIfInBounds_toArray, List.set_cons_zero, List.set_cons_succ, List.cons_append, List.nil_append] at hM)
      refine (drawSea_half (HC.out.ext hM.below)).mono ?_
      rintro e w7 ⟨a7, c7, vs, hl7, hx7, rfl, hm⟩
      replace hM := hM.join hm
      clear hm
      (try simp only [World.size_alloc, World.size_setCell, World.heap_drewN, heapDrew, Nat.add_assoc, Nat.reduceAdd, List.setIfInBounds_toArray, List.set_cons_zero, List.set_cons_succ, List.cons_append, List.nil_append] at hM)
      have HX7 := Lib.hid (allF_hect hx7); clear hx7
      obtain ⟨⟨t0, t1⟩, hq6⟩ : ∃ r, halfR vs = r := ⟨_, rfl⟩
      have HQ6 := Lib.hid hq6; clear hq6
      go_wp2_with fail
      apply Mem.atA
      · (repeat' (first | with_reducible exact hM | with_reducible exact hMp | with_reducible apply Mem.drew | with_reducible apply Mem.drewN | with_reducible apply Mem.alloc | with_reducible apply Mem.set | with_reducible exact Sto.row | ((with_reducible refine Sto.rowEq2 ?_ ?_); omega; rfl) | ((with_reducible refine Sto.rowEq ?_); omega) | with_reducible apply Sto.int | with_reducible apply Sto.there | with_reducible assumption | (unfold I64; omega) | (with_reducible (have hMx := Mem.undrew hM; exact hMx)) | (with_reducible (have hMx := Mem.undrew hMp; exact hMx))))
      clear hM
      intro wst hM
      (try simp only [World.size_alloc, World.size_setCell, World.heap_drewN, heapDrew, Nat.add_assoc, Nat.reduceAdd, List.setIfInBounds_toArray, List.set_cons_zero, List.set_cons_succ, List.cons_append, List.nil_append] at hM)
      refine (implHalf_any _ _ _ vs _ (hM.ow .here).rd).mono ?_
      rw [HQ6.out]
      rintro e wc16 ⟨rfl, hb⟩
      replace hM := hM.ext hb
      clear hb
      dsimp only
      go_wp2_with fail
      apply Mem.atA
      · (repeat' (first | with_reducible exact hM | with_reducible exact hMp | with_reducible apply Mem.drew | with_reducible apply Mem.drewN | with_reducible apply Mem.alloc | with_reducible apply Mem.set | with_reducible exact Sto.row | ((with_reducible refine Sto.rowEq2 ?_ ?_); omega; rfl) | ((with_reducible refine Sto.rowEq ?_); omega) | with_reducible apply Sto.int | with_reducible apply Sto.there | with_reducible assumption | (unfold I64; omega) | (with_reducible (have hMx := Mem.undrew hM; exact hMx)) | (with_reducible (have hMx := Mem.undrew hMp; exact hMx))))
      clear hM
      intro wst hM
      (try simp only [World.size_alloc, World.size_setCell, World.heap_drewN, heapDrew, Nat.add_assoc, Nat.reduceAdd, List.setIfInBounds_toArray, List.set_cons_zero, List.set_cons_succ, List.cons_append, List.nil_append] at hM)
      refine (specHalf_any _ _ _ vs _ (hM.ow .here).rd (by omega) HX7.out).mono ?_
      rw [HQ6.out]
      rintro e wc17 ⟨rfl, hb⟩
      replace hM := hM.ext hb
      clear hb
      dsimp only
      have hb7 : (t0 == t0) = true := by simp
      have hb8 : (t1 == t1) = true := by cases t1 <;> rfl
      go_wp2
      go_ret
      exact ⟨rfl, (by apply Mem.below; (repeat' (first | with_reducible exact hM | with_reducible exact hMp | with_reducible apply Mem.drew | with_reducible apply Mem.drewN | with_reducible apply Mem.alloc | with_reducible apply Mem.set | with_reducible exact Sto.row | ((with_reducible refine Sto.rowEq2 ?_ ?_); omega; rfl) | ((with_reducible refine Sto.rowEq ?_); omega) | with_reducible apply Sto.int | with_reducible apply Sto.there | with_reducible assumption | (unfold I64; omega) | (with_reducible (have hMx := Mem.undrew hM; exact hMx)) | (with_reducible (have hMx := Mem.undrew hMp; exact hMx)))))⟩
end Go.Proofs.Ytdhgkfmehegeoaa

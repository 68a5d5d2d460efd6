/-
  The law FnSeasons, walked.
-/
import Derived.Test.YtpoabdmapbdmfaaDoorPSeaQ
import Derived.Test.YtpoabdmapbdmfaaDoorPDrawSea4
import Derived.Test.YtpoabdmapbdmfaaDoorPMedI
import Derived.Test.YtpoabdmapbdmfaaDoorPMedS
import Derived.Test.YtpoabdmapbdmfaaDoorPSeaText
import Derived.Test.YtpoabdmapbdmfaaDoorPLawV
import Derived.Test.YtpoabdmapbdmfaaDoorPOpCode
import Derived.Test.YtpoabdmapbdmfaaDoorPRecN
import Derived.Test.YtpoabdmapbdmfaaDoorPPush
import Derived.Test.YtpoabdmapbdmfaaDoorPLogP
import Derived.Test.YtpoabdmapbdmfaaDoorPStr
import Derived.Test.YtpoabdmapbdmfaaDoorPLst
import Derived.Test.YtpoabdmapbdmfaaDoorPWrap
import Derived.Test.YtpoabdmapbdmfaaDoorPRd
import Derived.Deep.Slices
import Derived.Deep.DeepCutAuto
import Derived.Deep.CutBlock
/-
  The law FnSeasons, walked.
-/
namespace Go.Proofs.YtpoabdmapbdmfaaDoor
set_option linter.unusedSimpArgs false
set_option linter.unusedVariables false
open Go.RowKit

theorem sea_form2 (xs : List FireI) : ∃ s, seaV xs = .tuple #[.string (bsA s), .bool (seasonB xs)] := by
  unfold seaV
  cases seasonB xs
  · exact ⟨[], rfl⟩
  · simp only [if_true]
    split
    · exact ⟨_, rfl⟩
    · exact ⟨_, rfl⟩
theorem med_ok {xs : List FireI} {a b : Int} (h : medR xs = ⟨a, b, true⟩) : MedF xs a b ∧ seasonB xs = true := by
  have h2 : (seasonB xs && !(xs.length == 0)) = true := by
    cases h3 : (seasonB xs && !(xs.length == 0))
    · rw [medR, h3] at h
      cases h
    · rfl
  rw [Bool.and_eq_true] at h2
  have h4 : 0 < xs.length := by
    have := h2.2
    simp at this
    exact List.length_pos_iff.2 this
  obtain ⟨a', b', e, hf⟩ := med_facts h2.1 h4
  rw [h] at e
  injection e with e1 e2
  subst e1 e2
  exact ⟨hf, h2.1⟩
def allH (xs : List FireI) (q : Bool) : Int := if q then sumH xs else 0
theorem specIsFire_any (x : FireI) (w : World) : Calls Tryd.prog 21 #[x.val] w fun o w' => o = .returned (.bool (fireB x)) ∧ Below w.heap.size w w' := by
  have hM := Mem.start w
  obtain ⟨x0, x1, x2, x3⟩ := x
  go_enter Tryd.func21, Tryd.ntmps21
  go_upto_region 1 with fail
  apply Mem.atWpA
  · (repeat' (first | with_reducible exact hM | with_reducible exact hMp | with_reducible apply Mem.drew | with_reducible apply Mem.drewN | with_reducible apply Mem.alloc | with_reducible apply Mem.set | with_reducible exact Sto.row | ((with_reducible refine Sto.rowEq2 ?_ ?_); omega; rfl) | ((with_reducible refine Sto.rowEq ?_); omega) | with_reducible apply Sto.int | with_reducible apply Sto.there | with_reducible assumption | (unfold I64; omega) | (with_reducible (have hMx := Mem.undrew hM; exact hMx)) | (with_reducible (have hMx := Mem.undrew hMp; exact hMx))))
  clear hM
  intro wst hM
  (try simp only [World.size_alloc, World.size_setCell, World.heap_drewN, heapDrew, Nat.add_assoc, Nat.reduceAdd, List.setIfInBounds_toArray, List.set_cons_zero, List.set_cons_succ, List.cons_append, List.nil_append] at hM)
  obtain ⟨k0, f0, l0⟩ := hM.row .here
  obtain ⟨k0, f0, l0⟩ := hM.row .here
  go_wp2_with fail
  clear k0 f0 l0
  apply Mem.atA
  · (repeat' (first | with_reducible exact hM | with_reducible exact hMp | with_reducible apply Mem.drew | with_reducible apply Mem.drewN | with_reducible apply Mem.alloc | with_reducible apply Mem.set | with_reducible exact Sto.row | ((with_reducible refine Sto.rowEq2 ?_ ?_); omega; rfl) | ((with_reducible refine Sto.rowEq ?_); omega) | with_reducible apply Sto.int | with_reducible apply Sto.there | with_reducible assumption | (unfold I64; omega) | (with_reducible (have hMx := Mem.undrew hM; exact hMx)) | (with_reducible (have hMx := Mem.undrew hMp; exact hMx))))
  clear hM
  intro wst hM
  (try simp only [World.size_alloc, World.size_setCell, World.heap_drewN, heapDrew, Nat.add_assoc, Nat.reduceAdd, List.setIfInBounds_toArray, List.set_cons_zero, List.set_cons_succ, List.cons_append, List.nil_append] at hM)
  (first | refine (l26One_any ⟨x0, x1, x2, x3⟩ _).mono ?_)
  rintro e wc1 ⟨rfl, hb⟩
  replace hM := hM.ext hb
  clear hb
  go_wp2
  go_ret
  exact ⟨rfl, (by apply Mem.below; (repeat' (first | with_reducible exact hM | with_reducible exact hMp | with_reducible apply Mem.drew | with_reducible apply Mem.drewN | with_reducible apply Mem.alloc | with_reducible apply Mem.set | with_reducible exact Sto.row | ((with_reducible refine Sto.rowEq2 ?_ ?_); omega; rfl) | ((with_reducible refine Sto.rowEq ?_); omega) | with_reducible apply Sto.int | with_reducible apply Sto.there | with_reducible assumption | (unfold I64; omega) | (with_reducible (have hMx := Mem.undrew hM; exact hMx)) | (with_reducible (have hMx := Mem.undrew hMp; exact hMx)))))⟩
set_option maxRecDepth 100000 in
set_option maxHeartbeats 16000000 in
theorem FnSeasons_walk (a : Option Addr) (n cc : Nat) (l : List UInt8) (w : World) (ht : Tab w) (hI : n ≤ maxLen ∧ (n ≤ 65536 → Rd FByt w a n cc l)) :
    Calls Tryd.prog 3 #[.slice a n cc] w fun e w' => e = .returned (.bool true) ∧ Below w.heap.size w w' := by
  have hM := Mem.start w
  have HT := Lib.hid ht; clear ht
  have HI := Lib.hid hI.2
  clear hI
  go_enter Tryd.func3, Tryd.ntmps3
  go_wp2_with fail
  apply Mem.atA
  · (repeat' (first | with_reducible exact hM | with_reducible exact hMp | with_reducible apply Mem.drew | with_reducible apply Mem.drewN | with_reducible apply Mem.alloc | with_reducible apply Mem.set | with_reducible exact Sto.row | ((with_reducible refine Sto.rowEq2 ?_ ?_); omega; rfl) | ((with_reducible refine Sto.rowEq ?_); omega) | with_reducible apply Sto.int | with_reducible apply Sto.there | with_reducible assumption | (unfold I64; omega) | (with_reducible (have hMx := Mem.undrew hM; exact hMx)) | (with_reducible (have hMx := Mem.undrew hMp; exact hMx))))
  clear hM
  intro wst hM
  (try simp only [World.size_alloc, World.size_setCell, World.heap_drewN, heapDrew, Nat.add_assoc, Nat.reduceAdd, List.setIfInBounds_toArray, List.set_cons_zero, List.set_cons_succ, List.cons_append, List.nil_append] at hM)
  (first | refine (rBig_any a n cc _).mono ?_)
  rintro e wc2 ⟨rfl, hb⟩
  replace hM := hM.ext hb
  clear hb
  by_cases hb : 65536 < n
  · go_wp2
    go_ret
    exact ⟨rfl, (by apply Mem.below; (repeat' (first | with_reducible exact hM | with_reducible exact hMp | with_reducible apply Mem.drew | with_reducible apply Mem.drewN | with_reducible apply Mem.alloc | with_reducible apply Mem.set | with_reducible exact Sto.row | ((with_reducible refine Sto.rowEq2 ?_ ?_); omega; rfl) | ((with_reducible refine Sto.rowEq ?_); omega) | with_reducible apply Sto.int | with_reducible apply Sto.there | with_reducible assumption | (unfold I64; omega) | (with_reducible (have hMx := Mem.undrew hM; exact hMx)) | (with_reducible (have hMx := Mem.undrew hMp; exact hMx)))))⟩
  have HC := Lib.hid (HI.out (by omega))
  clear HI
  go_wp2_with fail
  apply Mem.atA
  · (repeat' (first | with_reducible exact hM | with_reducible exact hMp | with_reducible apply Mem.drew | with_reducible apply Mem.drewN | with_reducible apply Mem.alloc | with_reducible apply Mem.set | with_reducible exact Sto.row | ((with_reducible refine Sto.rowEq2 ?_ ?_); omega; rfl) | ((with_reducible refine Sto.rowEq ?_); omega) | with_reducible apply Sto.int | with_reducible apply Sto.there | with_reducible assumption | (unfold I64; omega) | (with_reducible (have hMx := Mem.undrew hM; exact hMx)) | (with_reducible (have hMx := Mem.undrew hMp; exact hMx))))
  clear hM
  intro wst hM
  (try simp only [World.size_alloc, World.size_setCell, World.heap_drewN, heapDrew, Nat.add_assoc, Nat.reduceAdd, List.setIfInBounds_toArray, List.set_cons_zero, List.set_cons_succ, List.cons_append, List.nil_append] at hM)
  (first | refine (drawSea_size (HC.out.ext hM.below)).mono ?_)
  rintro e w1 ⟨a1, c1, xs, hl, hx, rfl, hm⟩
  replace hM := hM.join hm
  clear hm
  (try simp only [World.size_alloc, World.size_setCell, World.heap_drewN, heapDrew, Nat.add_assoc, Nat.reduceAdd, List.setIfInBounds_toArray, List.set_cons_zero, List.set_cons_succ, List.cons_append, List.nil_append] at hM)
  clear hx
  obtain ⟨q, hq⟩ : ∃ q, seasonB xs = q := ⟨_, rfl⟩
  have HQ := Lib.hid hq; clear hq
  have hqq : (q != q) = false := by cases q <;> rfl
  have HZS := Lib.hid (show sizesR xs = ⟨if q then sizesF xs else [], q⟩ by rw [sizesR, HQ.out]; cases q <;> rfl)
  obtain ⟨zs, hzs⟩ : ∃ z, (if q then sizesF xs else []) = z := ⟨_, rfl⟩
  rw [hzs] at HZS
  have HZ := Lib.hid hzs; clear hzs
  go_wp2_with fail
  apply Mem.atA
  · (repeat' (first | with_reducible exact hM | with_reducible exact hMp | with_reducible apply Mem.drew | with_reducible apply Mem.drewN | with_reducible apply Mem.alloc | with_reducible apply Mem.set | with_reducible exact Sto.row | ((with_reducible refine Sto.rowEq2 ?_ ?_); omega; rfl) | ((with_reducible refine Sto.rowEq ?_); omega) | with_reducible apply Sto.int | with_reducible apply Sto.there | with_reducible assumption | (unfold I64; omega) | (with_reducible (have hMx := Mem.undrew hM; exact hMx)) | (with_reducible (have hMx := Mem.undrew hMp; exact hMx))))
  clear hM
  intro wst hM
  (try simp only [World.size_alloc, World.size_setCell, World.heap_drewN, heapDrew, Nat.add_assoc, Nat.reduceAdd, List.setIfInBounds_toArray, List.set_cons_zero, List.set_cons_succ, List.cons_append, List.nil_append] at hM)
  (first | refine (implSizes_any _ _ _ xs _ (hM.ow .here).rd).mono ?_)
  rw [HZS.out]
  rintro e w2 ⟨a2, n2, c2, rfl, hm⟩
  replace hM := hM.join hm
  clear hm
  (try simp only [World.size_alloc, World.size_setCell, World.heap_drewN, heapDrew, Nat.add_assoc, Nat.reduceAdd, List.setIfInBounds_toArray, List.set_cons_zero, List.set_cons_succ, List.cons_append, List.nil_append] at hM)
  dsimp only at hM ⊢
  go_wp2_with fail
  apply Mem.atA
  · (repeat' (first | with_reducible exact hM | with_reducible exact hMp | with_reducible apply Mem.drew | with_reducible apply Mem.drewN | with_reducible apply Mem.alloc | with_reducible apply Mem.set | with_reducible exact Sto.row | ((with_reducible refine Sto.rowEq2 ?_ ?_); omega; rfl) | ((with_reducible refine Sto.rowEq ?_); omega) | with_reducible apply Sto.int | with_reducible apply Sto.there | with_reducible assumption | (unfold I64; omega) | (with_reducible (have hMx := Mem.undrew hM; exact hMx)) | (with_reducible (have hMx := Mem.undrew hMp; exact hMx))))
  clear hM
  intro wst hM
  (try simp only [World.size_alloc, World.size_setCell, World.heap_drewN, heapDrew, Nat.add_assoc, Nat.reduceAdd, List.setIfInBounds_toArray, List.set_cons_zero, List.set_cons_succ, List.cons_append, List.nil_append] at hM)
  (first | refine (specSizes_any _ _ _ xs _ (hM.ow (.there .here)).rd).mono ?_)
  rw [HZS.out]
  rintro e w3 ⟨a3, n3, c3, rfl, hm⟩
  replace hM := hM.join hm
  clear hm
  (try simp only [World.size_alloc, World.size_setCell, World.heap_drewN, heapDrew, Nat.add_assoc, Nat.reduceAdd, List.setIfInBounds_toArray, List.set_cons_zero, List.set_cons_succ, List.cons_append, List.nil_append] at hM)
  dsimp only at hM ⊢
  go_upto_region 6 with fail
  apply Mem.atWpA
  · (repeat' (first | with_reducible exact hM | with_reducible exact hMp | with_reducible apply Mem.drew | with_reducible apply Mem.drewN | with_reducible apply Mem.alloc | with_reducible apply Mem.set | with_reducible exact Sto.row | ((with_reducible refine Sto.rowEq2 ?_ ?_); omega; rfl) | ((with_reducible refine Sto.rowEq ?_); omega) | with_reducible apply Sto.int | with_reducible apply Sto.there | with_reducible assumption | (unfold I64; omega) | (with_reducible (have hMx := Mem.undrew hM; exact hMx)) | (with_reducible (have hMx := Mem.undrew hMp; exact hMx))))
  clear hM
  intro wst hM
  (try simp only [World.size_alloc, World.size_setCell, World.heap_drewN, heapDrew, Nat.add_assoc, Nat.reduceAdd, List.setIfInBounds_toArray, List.set_cons_zero, List.set_cons_succ, List.cons_append, List.nil_append] at hM)
  go_cut [75] (fun s wx => s = .bool false ∧ Mem w.heap.size w wx [owE FFire 33 a1 xs.length c1 xs])
  case first => as_aux_lemma =>
    have h2 : n2 = zs.length := (hM.ints (.there .here)).len.symm
    have h3 : n3 = zs.length := (hM.ints .here).len.symm
    subst h2 h3
    go_wp2_with fail
    apply Mem.atA
    · (repeat' (first | with_reducible exact hM | with_reducible exact hMp | with_reducible apply Mem.drew | with_reducible apply Mem.drewN | with_reducible apply Mem.alloc | with_reducible apply Mem.set | with_reducible exact Sto.row | ((with_reducible refine Sto.rowEq2 ?_ ?_); omega; rfl) | ((with_reducible refine Sto.rowEq ?_); omega) | with_reducible apply Sto.int | with_reducible apply Sto.there | with_reducible assumption | (unfold I64; omega) | (with_reducible (have hMx := Mem.undrew hM; exact hMx)) | (with_reducible (have hMx := Mem.undrew hMp; exact hMx))))
    clear hM
    intro wst hM
    (try simp only [World.size_alloc, World.size_setCell, World.heap_drewN, heapDrew, Nat.add_assoc, Nat.reduceAdd, List.setIfInBounds_toArray, List.set_cons_zero, List.set_cons_succ, List.cons_append, List.nil_append] at hM)
    (first | refine (rInts_same _ _ _ zs _ _ _ _ (hM.intsR (.there .here)) (hM.intsR .here)).mono ?_)
    rintro e wc6 ⟨rfl, hb⟩
    replace hM := hM.ext hb
    clear hb
    go_wp2_with fail
    apply Mem.atA
    · (repeat' (first | with_reducible exact hM | with_reducible exact hMp | with_reducible apply Mem.drew | with_reducible apply Mem.drewN | with_reducible apply Mem.alloc | with_reducible apply Mem.set | with_reducible exact Sto.row | ((with_reducible refine Sto.rowEq2 ?_ ?_); omega; rfl) | ((with_reducible refine Sto.rowEq ?_); omega) | with_reducible apply Sto.int | with_reducible apply Sto.there | with_reducible assumption | (unfold I64; omega) | (with_reducible (have hMx := Mem.undrew hM; exact hMx)) | (with_reducible (have hMx := Mem.undrew hMp; exact hMx))))
    clear hM
    intro wst hM
    (try simp only [World.size_alloc, World.size_setCell, World.heap_drewN, heapDrew, Nat.add_assoc, Nat.reduceAdd, List.setIfInBounds_toArray, List.set_cons_zero, List.set_cons_succ, List.cons_append, List.nil_append] at hM)
    (first | refine (isSeason_any _ _ _ xs _ (hM.ow (.there (.there .here))).rd).mono ?_)
    rw [HQ.out]
    rintro e wc7 ⟨rfl, hb⟩
    replace hM := hM.ext hb
    clear hb
    cases q
    · go_wp2_with fail
      go_meet
      exact ⟨rfl, hM.pick (is := [2]) (by decide) rfl⟩
    · have hsum : zs.sum = (xs.length : Int) := by rw [← HZ.out]; exact sizes_sum xs
      have hzl : zs.length = 5 := by rw [← HZ.out]; exact sizesF_length xs
      have hzb : ∀ x ∈ zs, 0 ≤ x ∧ x ≤ 100 := by
        intro x hx
        rw [← HZ.out] at hx
        obtain ⟨i, hi, rfl⟩ := List.getElem_of_mem hx
        have := sizesF_bound xs i
        simp only [if_true] at hi ⊢
        rw [List.getD_eq_getElem?_getD, List.getElem?_eq_getElem hi] at this
        simp only [Option.getD_some] at this
        omega
      have HSUM := Lib.hid hsum
      have hzl5 : zs.length ≤ 20 := by omega
      clear hsum hzl
      have hne : ((xs.length : Int) != (xs.length : Int)) = false := by simp
      go_wp2_with fail
      (first | refine (rSum_any _ _ _ zs _ (hM.intsR (.there .here)) hzl5 hzb).mono ?_)
      rw [HSUM.out]
      rintro e wc8 ⟨rfl, rfl⟩
      go_wp2_with fail
      go_meet
      exact ⟨rfl, hM.pick (is := [2]) (by decide) rfl⟩
  case rest => as_aux_lemma =>
    clear hM HZS HZ
    obtain ⟨rfl, hM⟩ := hcut
    obtain ⟨A, hA⟩ : ∃ A, allH xs q = A := ⟨_, rfl⟩
    have hA0 : 0 ≤ A ∧ A ≤ 1500000 := by
      rw [← hA]
      cases q
      · exact ⟨Int.le_refl _, (show (0 : Int) ≤ 1500000 by decide)⟩
      · have h1 := seasonB_true HQ.out
        have := sumH_bound h1.2
        show 0 ≤ sumH xs ∧ sumH xs ≤ 1500000
        omega
    have HA := Lib.hid hA; clear hA
    go_upto_block 0 with fail
    go_cut [8] (fun s8 wx => s8 = .int .i64 A ∧ Mem w.heap.size w wx [owE FFire 33 a1 xs.length c1 xs])
    case first => as_aux_lemma =>
      have hR := (hM.ow .here).rd
      have hcap := hR.cap
      have hrm := hR.nroom
      cases q
      · obtain rfl : A = 0 := by rw [← HA.out]; rfl
        go_wp2_with fail
        go_loop [8, 10] (fun t i => t = .int .i64 0 ∧ i = .int .i64 0) (fun _ _ => 0)
        case atStart => exact ⟨rfl, rfl⟩
        case round =>
          obtain ⟨rfl, rfl⟩ := hrel
          by_cases h0 : (0 : Int) < (xs.length : Int)
          · go_wp2_with fail
            go_meet
            exact ⟨rfl, hM⟩
          · go_wp2_with fail
            go_meet
            exact ⟨rfl, hM⟩
      · have hall := (seasonB_true HQ.out).2
        have HALL := Lib.hid hall; clear hall
        have HAS := Lib.hid (show sumH xs = A from HA.out)
        have hl15 := (seasonB_true HQ.out).1
        go_wp2_with fail
        go_loop [8, 10] (fun t i => ∃ j : Nat, j ≤ xs.length ∧ i = .int .i64 j ∧ t = .int .i64 (sumH (xs.take j))) (fun _ i => xs.length - (intOf i).toNat)
        case atStart => exact ⟨0, Nat.zero_le _, rfl, rfl⟩
        case round =>
          obtain ⟨j, hj, rfl, rfl⟩ := hrel
          have hb2 := sumH_bound (xs := xs.take j) (fun x hx => HALL.out x (List.mem_of_mem_take hx))
          have hlk : (xs.take j).length ≤ 15 := by rw [List.length_take]; omega
          have hs := fun h => sumH_succ (xs := xs) (k := j) h
          obtain ⟨t, ht⟩ : ∃ t, sumH (xs.take j) = t := ⟨_, rfl⟩
          rw [ht] at hb2 ⊢
          simp only [ht] at hs
          have HTT := Lib.hid ht; clear ht
          have HS := Lib.hid hs; clear hs
          obtain ⟨t0, t1⟩ := hb2
          by_cases hlt : j < xs.length
          · obtain ⟨b, off, rfl, _⟩ := hR.at' _ hlt
            obtain ⟨hbl, hc0, hc1, hc2, hc3⟩ := hR.cellFire hlt
            have hmem : xs.getD j FireI.zero ∈ xs := by rw [List.getD_eq_getElem?_getD, List.getElem?_eq_getElem hlt]; exact List.getElem_mem _
            obtain ⟨y0, y1⟩ := (fireB_true (HALL.out _ hmem)).2.2.1
            have HS2 := Lib.hid (HS.out hlt)
            clear hmem HS
            obtain ⟨v, hv⟩ : ∃ v, (xs.getD j FireI.zero).hect = v := ⟨_, rfl⟩
            rw [hv] at hc2 y0 y1 HS2
            clear hv hc0 hc1 hc3
            go_wp2
            go_round
            case rel => exact ⟨j + 1, by omega, by go_num, by rw [HS2.out]⟩
            case measure => simp [intOf]; omega
          · obtain rfl : j = xs.length := by omega
            obtain rfl : t = A := by rw [← HTT.out, ← HAS.out, List.take_of_length_le (Nat.le_refl _)]
            go_wp2_with fail
            go_meet
            exact ⟨rfl, hM⟩
    case rest => as_aux_lemma =>
      clear hM
      obtain ⟨rfl, hM⟩ := hcut
      go_upto_block 2 with fail
      go_cut [9] (fun s9 wx => s9 = .int .i64 A ∧ Mem w.heap.size w wx [owE FFire 33 a1 xs.length c1 xs])
      case first => as_aux_lemma =>
        by_cases hA1 : 0 < A
        · cases q
          · have : A = 0 := by rw [← HA.out]; rfl
            omega
          have HAS := Lib.hid (show sumH xs = A from HA.out)
          go_wp2_with fail
          go_loopw [9, 11] (fun s9 s11 wr => ∃ k : Nat, k ≤ 5 ∧ s11 = .int .i64 k ∧ s9 = .int .i64 (wholeC xs k) ∧ Mem w.heap.size w wr [owE FFire 33 a1 xs.length c1 xs]) (fun _ s11 _ => 5 - (intOf s11).toNat)
          case atStart => exact ⟨0, by omega, rfl, rfl, hM⟩
          case round =>
            clear hM
            obtain ⟨k, hk, rfl, rfl, hM⟩ := hrel
            have hwb := wholeC_bound HQ.out k
            by_cases hk4 : k ≤ 4
            · obtain ⟨x, y, g, hsh, hf⟩ := share_facts HQ.out (by rw [HAS.out]; exact hA1) hk4
              obtain ⟨f0, f1, f2, f3, f4, f5, f6, f7, f8, f9, f10⟩ := hf
              rw [HAS.out] at f4 f5
              obtain ⟨s, hs⟩ : ∃ s, wholeC xs k = s := ⟨_, rfl⟩
              rw [hs] at hwb f8 ⊢
              obtain ⟨z, hz⟩ : ∃ z, x * g = z := ⟨_, rfl⟩
              rw [hz] at f8 f9 f10
              have hw1 : IntKind.i64.wrap (x * g) = z := by rw [hz]; exact wrap_in (by omega)
              have hw2 : IntKind.i64.wrap (s + z) = s + z := wrap_in (by omega)
              have HSH := Lib.hid hsh; have HW := Lib.hid f8
              clear hsh f8 hs hz
              have y0 : y ≠ 0 := by omega
              have hne : (y != 0) = true := by simp; omega
              have hk40 : (k : Int) ≤ 4 := by omega
              have h00 : ((0 : Int) != 0) = false := by simp
              go_wp2_with fail
              apply Mem.atA
              · (repeat' (first | with_reducible exact hM | with_reducible exact hMp | with_reducible apply Mem.drew | with_reducible apply Mem.drewN | with_reducible apply Mem.alloc | with_reducible apply Mem.set | with_reducible exact Sto.row | ((with_reducible refine Sto.rowEq2 ?_ ?_); omega; rfl) | ((with_reducible refine Sto.rowEq ?_); omega) | with_reducible apply Sto.int | with_reducible apply Sto.there | with_reducible assumption | (unfold I64; omega) | (with_reducible (have hMx := Mem.undrew hM; exact hMx)) | (with_reducible (have hMx := Mem.undrew hMp; exact hMx))))
              clear hM
              intro wst hM
              (try simp only [World.size_alloc, World.size_setCell, World.heap_drewN, heapDrew, Nat.add_assoc, Nat.reduceAdd, List.setIfInBounds_toArray, List.set_cons_zero, List.set_cons_succ, List.cons_append, List.nil_append] at hM)
              (first | refine (implShare_any _ _ _ xs (k : Int) _ (hM.ow .here).rd (by unfold I64; omega)).mono ?_)
              rw [HSH.out]
              rintro e wc9 ⟨rfl, hb⟩
              replace hM := hM.ext hb
              clear hb
              dsimp only
              go_wp2
              go_roundw
              case rel => exact ⟨k + 1, by omega, by go_num, by rw [HW.out], hM⟩
              case measure => simp [intOf]; omega
            · obtain rfl : k = 5 := by omega
              have hww : wholeC xs 5 = A := by rw [wholeC_all (seasonB_true HQ.out).2, HAS.out]
              rw [hww]
              go_wp2_with fail
              go_meet
              exact ⟨rfl, hM⟩
        · obtain rfl : A = 0 := by omega
          go_wp2_with fail
          go_loop [9, 11] (fun t i => t = .int .i64 0 ∧ i = .int .i64 0) (fun _ _ => 0)
          case atStart => exact ⟨rfl, rfl⟩
          case round =>
            obtain ⟨rfl, rfl⟩ := hrel
            go_wp2_with fail
            go_meet
            exact ⟨rfl, hM⟩
      case rest => as_aux_lemma =>
        clear hM
        obtain ⟨rfl, hM⟩ := hcut
        have hAA : (A != A) = false := by simp
        obtain ⟨⟨m, d, f⟩, hmed⟩ : ∃ r, medR xs = r := ⟨_, rfl⟩
        have HMD := Lib.hid hmed; clear hmed
        have hmm : (m != m) = false := by simp
        have hdd : (d != d) = false := by simp
        have hff : (f != f) = false := by cases f <;> rfl
        go_wp2_with fail
        apply Mem.atA
        · (repeat' (first | with_reducible exact hM | with_reducible exact hMp | with_reducible apply Mem.drew | with_reducible apply Mem.drewN | with_reducible apply Mem.alloc | with_reducible apply Mem.set | with_reducible exact Sto.row | ((with_reducible refine Sto.rowEq2 ?_ ?_); omega; rfl) | ((with_reducible refine Sto.rowEq ?_); omega) | with_reducible apply Sto.int | with_reducible apply Sto.there | with_reducible assumption | (unfold I64; omega) | (with_reducible (have hMx := Mem.undrew hM; exact hMx)) | (with_reducible (have hMx := Mem.undrew hMp; exact hMx))))
        clear hM
        intro wst hM
        (try simp only [World.size_alloc, World.size_setCell, World.heap_drewN, heapDrew, Nat.add_assoc, Nat.reduceAdd, List.setIfInBounds_toArray, List.set_cons_zero, List.set_cons_succ, List.cons_append, List.nil_append] at hM)
        (first | refine (implMed_any _ _ _ xs _ (hM.ow .here).rd).mono ?_)
        rw [HMD.out]
        rintro e wc10 ⟨rfl, hb⟩
        replace hM := hM.ext hb
        clear hb
        dsimp only
        go_wp2_with fail
        apply Mem.atA
        · (repeat' (first | with_reducible exact hM | with_reducible exact hMp | with_reducible apply Mem.drew | with_reducible apply Mem.drewN | with_reducible apply Mem.alloc | with_reducible apply Mem.set | with_reducible exact Sto.row | ((with_reducible refine Sto.rowEq2 ?_ ?_); omega; rfl) | ((with_reducible refine Sto.rowEq ?_); omega) | with_reducible apply Sto.int | with_reducible apply Sto.there | with_reducible assumption | (unfold I64; omega) | (with_reducible (have hMx := Mem.undrew hM; exact hMx)) | (with_reducible (have hMx := Mem.undrew hMp; exact hMx))))
        clear hM
        intro wst hM
        (try simp only [World.size_alloc, World.size_setCell, World.heap_drewN, heapDrew, Nat.add_assoc, Nat.reduceAdd, List.setIfInBounds_toArray, List.set_cons_zero, List.set_cons_succ, List.cons_append, List.nil_append] at hM)
        (first | refine (specMed_any _ _ _ xs _ (hM.ow .here).rd).mono ?_)
        rw [HMD.out]
        rintro e wc11 ⟨rfl, hb⟩
        replace hM := hM.ext hb
        clear hb
        dsimp only
        go_upto_block 4 with fail
        go_cut [21, 22] (fun s21 s22 wx => ∃ B C : Nat, s21 = .int .i64 B ∧ s22 = .int .i64 C ∧ (2 * B ≤ xs.length ∧ 2 * C ≤ xs.length) ∧ Mem w.heap.size w wx [owE FFire 33 a1 xs.length c1 xs])
        case first => as_aux_lemma =>
          have hR := (hM.ow .here).rd
          have hcap := hR.cap
          have hrm := hR.nroom
          cases f
          · go_wp2_with fail
            go_loop [21, 22, 23] (fun s t i => s = .int .i64 0 ∧ t = .int .i64 0 ∧ i = .int .i64 0) (fun _ _ _ => 0)
            case atStart => exact ⟨rfl, rfl, rfl⟩
            case round =>
              obtain ⟨rfl, rfl, rfl⟩ := hrel
              by_cases h0 : (0 : Int) < (xs.length : Int)
              · go_wp2_with fail
                go_meet
                exact ⟨0, 0, rfl, rfl, ⟨by omega, by omega⟩, hM⟩
              · go_wp2_with fail
                go_meet
                exact ⟨0, 0, rfl, rfl, ⟨by omega, by omega⟩, hM⟩
          · obtain ⟨⟨m0, m1, d0, d1, hlo, hhi⟩, hsea⟩ := med_ok HMD.out
            have HLO := Lib.hid hlo; have HHI := Lib.hid hhi
            have HALL := Lib.hid (seasonB_true hsea).2
            have hl15 := (seasonB_true hsea).1
            clear hlo hhi hsea
            go_wp2_with fail
            go_loop [21, 22, 23] (fun s t i => ∃ j : Nat, j ≤ xs.length ∧ i = .int .i64 j ∧ s = .int .i64 (belowK xs m d j : Nat) ∧ t = .int .i64 (aboveK xs m d j : Nat)) (fun _ _ i => xs.length - (intOf i).toNat)
            case atStart => exact ⟨0, Nat.zero_le _, rfl, rfl, rfl⟩
            case round =>
              obtain ⟨j, hj, rfl, rfl, rfl⟩ := hrel
              have hb1 := belowK_le xs m d j
              have hb2 := aboveK_le xs m d j
              have hs1 := fun h => belowK_succ (xs := xs) (a := m) (b := d) (k := j) h
              have hs2 := fun h => aboveK_succ (xs := xs) (a := m) (b := d) (k := j) h
              by_cases hlt : j < xs.length
              · have e1 := hs1 hlt
                have e2 := hs2 hlt
                clear hs1 hs2
                obtain ⟨b, off, rfl, _⟩ := hR.at' _ hlt
                obtain ⟨hbl, hc0, hc1, hc2, hc3⟩ := hR.cellFire hlt
                have hmem : xs.getD j FireI.zero ∈ xs := by rw [List.getD_eq_getElem?_getD, List.getElem?_eq_getElem hlt]; exact List.getElem_mem _
                obtain ⟨y0, y1⟩ := (fireB_true (HALL.out _ hmem)).2.2.2
                clear hmem
                obtain ⟨h, hh⟩ : ∃ v, (xs.getD j FireI.zero).hours = v := ⟨_, rfl⟩
                rw [hh] at hc3 y0 y1 e1 e2
                clear hh hc0 hc1 hc2
                obtain ⟨v, hv⟩ : ∃ v, h * d = v := ⟨_, rfl⟩
                rw [hv] at e1 e2
                have hvb : 1 ≤ v ∧ v ≤ 4000 := by
                  rcases (by omega : d = 1 ∨ d = 2) with rfl | rfl
                  · omega
                  · omega
                obtain ⟨v0, v1⟩ := hvb
                have hw1 : IntKind.i64.wrap (h * d) = v := by rw [hv]; exact wrap_in (by omega)
                clear hv
                obtain ⟨B, hB⟩ : ∃ B, belowK xs m d j = B := ⟨_, rfl⟩
                obtain ⟨C, hCC⟩ : ∃ C, aboveK xs m d j = C := ⟨_, rfl⟩
                rw [hB] at hb1 e1 ⊢
                rw [hCC] at hb2 e2 ⊢
                clear hB hCC
                by_cases q1 : v < m
                · rw [if_pos q1] at e1
                  have q2 : ¬ (m < v) := by omega
                  rw [if_neg q2] at e2
                  have HE1 := Lib.hid e1; have HE2 := Lib.hid e2
                  clear e1 e2
                  go_wp2
                  go_round
                  case rel => exact ⟨j + 1, by omega, by go_num, by rw [HE1.out]; go_num, by rw [HE2.out]; rfl⟩
                  case measure => simp [intOf]; omega
                · rw [if_neg q1] at e1
                  by_cases q2 : m < v
                  · rw [if_pos q2] at e2
                    have HE1 := Lib.hid e1; have HE2 := Lib.hid e2
                    clear e1 e2
                    go_wp2
                    go_round
                    case rel => exact ⟨j + 1, by omega, by go_num, by rw [HE1.out]; rfl, by rw [HE2.out]; go_num⟩
                    case measure => simp [intOf]; omega
                  · rw [if_neg q2] at e2
                    have HE1 := Lib.hid e1; have HE2 := Lib.hid e2
                    clear e1 e2
                    go_wp2
                    go_round
                    case rel => exact ⟨j + 1, by omega, by go_num, by rw [HE1.out]; rfl, by rw [HE2.out]; rfl⟩
                    case measure => simp [intOf]; omega
              · obtain rfl : j = xs.length := by omega
                go_wp2_with fail
                go_meet
                exact ⟨_, _, rfl, rfl, ⟨HLO.out, HHI.out⟩, hM⟩
        case rest => as_aux_lemma =>
          clear hM hmm hdd hff HMD HA hA0
          obtain ⟨B, C, rfl, rfl, ⟨hB, hCC⟩, hM⟩ := hcut
          have S3 := bsA_list
          obtain ⟨s, hsv⟩ := sea_form2 xs
          rw [HQ.out] at hsv
          have HSV := Lib.hid hsv; clear hsv
          have hss : (s != s) = false := by simp
          have hw1 : IntKind.i64.wrap (2 * (B : Int)) = 2 * (B : Int) := wrap_in (by omega)
          have hw2 : IntKind.i64.wrap (2 * (C : Int)) = 2 * (C : Int) := wrap_in (by omega)
          have n1 : ¬ ((xs.length : Int) < 2 * (B : Int)) := by omega
          have n2 : ¬ ((xs.length : Int) < 2 * (C : Int)) := by omega
          go_wp2_with fail
          apply Mem.atA
          · (repeat' (first | with_reducible exact hM | with_reducible exact hMp | with_reducible apply Mem.drew | with_reducible apply Mem.drewN | with_reducible apply Mem.alloc | with_reducible apply Mem.set | with_reducible exact Sto.row | ((with_reducible refine Sto.rowEq2 ?_ ?_); omega; rfl) | ((with_reducible refine Sto.rowEq ?_); omega) | with_reducible apply Sto.int | with_reducible apply Sto.there | with_reducible assumption | (unfold I64; omega) | (with_reducible (have hMx := Mem.undrew hM; exact hMx)) | (with_reducible (have hMx := Mem.undrew hMp; exact hMx))))
          clear hM
          intro wst hM
          (try simp only [World.size_alloc, World.size_setCell, World.heap_drewN, heapDrew, Nat.add_assoc, Nat.reduceAdd, List.setIfInBounds_toArray, List.set_cons_zero, List.set_cons_succ, List.cons_append, List.nil_append] at hM)
          (first | refine (implSea_any _ _ _ xs _ (hM.ow .here).rd (HT.out.ext hM.below)).mono ?_)
          rw [HSV.out]
          rintro e wc12 ⟨rfl, hb⟩
          replace hM := hM.ext hb
          clear hb
          go_wp2_with fail
          apply Mem.atA
          · (repeat' (first | with_reducible exact hM | with_reducible exact hMp | with_reducible apply Mem.drew | with_reducible apply Mem.drewN | with_reducible apply Mem.alloc | with_reducible apply Mem.set | with_reducible exact Sto.row | ((with_reducible refine Sto.rowEq2 ?_ ?_); omega; rfl) | ((with_reducible refine Sto.rowEq ?_); omega) | with_reducible apply Sto.int | with_reducible apply Sto.there | with_reducible assumption | (unfold I64; omega) | (with_reducible (have hMx := Mem.undrew hM; exact hMx)) | (with_reducible (have hMx := Mem.undrew hMp; exact hMx))))
          clear hM
          intro wst hM
          (try simp only [World.size_alloc, World.size_setCell, World.heap_drewN, heapDrew, Nat.add_assoc, Nat.reduceAdd, List.setIfInBounds_toArray, List.set_cons_zero, List.set_cons_succ, List.cons_append, List.nil_append] at hM)
          (first | refine (specSea_any _ _ _ xs _ (hM.ow .here).rd).mono ?_)
          rw [HSV.out]
          rintro e wc13 ⟨rfl, hb⟩
          replace hM := hM.ext hb
          clear hb
          clear hw1 hw2
          go_wp2_with fail
          apply Mem.atA
          · (repeat' (first | with_reducible exact hM | with_reducible exact hMp | with_reducible apply Mem.drew | with_reducible apply Mem.drewN | with_reducible apply Mem.alloc | with_reducible apply Mem.set | with_reducible exact Sto.row | ((with_reducible refine Sto.rowEq2 ?_ ?_); omega; rfl) | ((with_reducible refine Sto.rowEq ?_); omega) | with_reducible apply Sto.int | with_reducible apply Sto.there | with_reducible assumption | (unfold I64; omega) | (with_reducible (have hMx := Mem.undrew hM; exact hMx)) | (with_reducible (have hMx := Mem.undrew hMp; exact hMx))))
          clear hM
          intro wst hM
          (try simp only [World.size_alloc, World.size_setCell, World.heap_drewN, heapDrew, Nat.add_assoc, Nat.reduceAdd, List.setIfInBounds_toArray, List.set_cons_zero, List.set_cons_succ, List.cons_append, List.nil_append] at hM)
          (first | refine (drawSea_cause (HC.out.ext hM.below)).mono ?_)
          rintro e w4 ⟨a4, c4, ys, p, hl4, hx4, hp, rfl, hm⟩
          replace hM := hM.join hm
          clear hm
          (try simp only [World.size_alloc, World.size_setCell, World.heap_drewN, heapDrew, Nat.add_assoc, Nat.reduceAdd, List.setIfInBounds_toArray, List.set_cons_zero, List.set_cons_succ, List.cons_append, List.nil_append] at hM)
          clear hx4 hss S3
          obtain ⟨p0, p1⟩ := hp
          have hpI : I64 p := by unfold I64; omega
          obtain ⟨⟨u0, u1, u2⟩, hsh⟩ : ∃ r, shareR ys p = r := ⟨_, rfl⟩
          have HSH := Lib.hid hsh; clear hsh
          have h0 : (u0 != u0) = false := by simp
          have h1 : (u1 != u1) = false := by simp
          have h2 : (u2 != u2) = false := by cases u2 <;> rfl
          go_wp2_with fail
          apply Mem.atA
          · (repeat' (first | with_reducible exact hM | with_reducible exact hMp | with_reducible apply Mem.drew | with_reducible apply Mem.drewN | with_reducible apply Mem.alloc | with_reducible apply Mem.set | with_reducible exact Sto.row | ((with_reducible refine Sto.rowEq2 ?_ ?_); omega; rfl) | ((with_reducible refine Sto.rowEq ?_); omega) | with_reducible apply Sto.int | with_reducible apply Sto.there | with_reducible assumption | (unfold I64; omega) | (with_reducible (have hMx := Mem.undrew hM; exact hMx)) | (with_reducible (have hMx := Mem.undrew hMp; exact hMx))))
          clear hM
          intro wst hM
          (try simp only [World.size_alloc, World.size_setCell, World.heap_drewN, heapDrew, Nat.add_assoc, Nat.reduceAdd, List.setIfInBounds_toArray, List.set_cons_zero, List.set_cons_succ, List.cons_append, List.nil_append] at hM)
          (first | refine (implShare_any _ _ _ ys p _ (hM.ow .here).rd hpI).mono ?_)
          rw [HSH.out]
          rintro e wc15 ⟨rfl, hb⟩
          replace hM := hM.ext hb
          clear hb
          dsimp only
          go_wp2_with fail
          apply Mem.atA
          · (repeat' (first | with_reducible exact hM | with_reducible exact hMp | with_reducible apply Mem.drew | with_reducible apply Mem.drewN | with_reducible apply Mem.alloc | with_reducible apply Mem.set | with_reducible exact Sto.row | ((with_reducible refine Sto.rowEq2 ?_ ?_); omega; rfl) | ((with_reducible refine Sto.rowEq ?_); omega) | with_reducible apply Sto.int | with_reducible apply Sto.there | with_reducible assumption | (unfold I64; omega) | (with_reducible (have hMx := Mem.undrew hM; exact hMx)) | (with_reducible (have hMx := Mem.undrew hMp; exact hMx))))
          clear hM
          intro wst hM
          (try simp only [World.size_alloc, World.size_setCell, World.heap_drewN, heapDrew, Nat.add_assoc, Nat.reduceAdd, List.setIfInBounds_toArray, List.set_cons_zero, List.set_cons_succ, List.cons_append, List.nil_append] at hM)
          (first | refine (specShare_any _ _ _ ys p _ (hM.ow .here).rd hpI).mono ?_)
          rw [HSH.out]
          rintro e wc16 ⟨rfl, hb⟩
          replace hM := hM.ext hb
          clear hb
          dsimp only
          go_wp2_with fail
          apply Mem.atA
          · (repeat' (first | with_reducible exact hM | with_reducible exact hMp | with_reducible apply Mem.drew | with_reducible apply Mem.drewN | with_reducible apply Mem.alloc | with_reducible apply Mem.set | with_reducible exact Sto.row | ((with_reducible refine Sto.rowEq2 ?_ ?_); omega; rfl) | ((with_reducible refine Sto.rowEq ?_); omega) | with_reducible apply Sto.int | with_reducible apply Sto.there | with_reducible assumption | (unfold I64; omega) | (with_reducible (have hMx := Mem.undrew hM; exact hMx)) | (with_reducible (have hMx := Mem.undrew hMp; exact hMx))))
          clear hM
          intro wst hM
          (try simp only [World.size_alloc, World.size_setCell, World.heap_drewN, heapDrew, Nat.add_assoc, Nat.reduceAdd, List.setIfInBounds_toArray, List.set_cons_zero, List.set_cons_succ, List.cons_append, List.nil_append] at hM)
          (first | refine (drawSea_fire (HC.out.ext hM.below)).mono ?_)
          rintro e w5 ⟨x, hx, rfl, hm⟩
          replace hM := hM.join hm
          clear hm
          (try simp only [World.size_alloc, World.size_setCell, World.heap_drewN, heapDrew, Nat.add_assoc, Nat.reduceAdd, List.setIfInBounds_toArray, List.set_cons_zero, List.set_cons_succ, List.cons_append, List.nil_append] at hM)
          clear h0 h1 h2 hx
          obtain ⟨v, hv⟩ : ∃ v, fireB x = v := ⟨_, rfl⟩
          have HV := Lib.hid hv; clear hv
          have hvv : (v == v) = true := by simp
          obtain ⟨x0, x1, x2, x3⟩ := x
          go_upto_region 46 with fail
          apply Mem.atWpA
          · (repeat' (first | with_reducible exact hM | with_reducible exact hMp | with_reducible apply Mem.drew | with_reducible apply Mem.drewN | with_reducible apply Mem.alloc | with_reducible apply Mem.set | with_reducible exact Sto.row | ((with_reducible refine Sto.rowEq2 ?_ ?_); omega; rfl) | ((with_reducible refine Sto.rowEq ?_); omega) | with_reducible apply Sto.int | with_reducible apply Sto.there | with_reducible assumption | (unfold I64; omega) | (with_reducible (have hMx := Mem.undrew hM; exact hMx)) | (with_reducible (have hMx := Mem.undrew hMp; exact hMx))))
          clear hM
          intro wst hM
          (try simp only [World.size_alloc, World.size_setCell, World.heap_drewN, heapDrew, Nat.add_assoc, Nat.reduceAdd, List.setIfInBounds_toArray, List.set_cons_zero, List.set_cons_succ, List.cons_append, List.nil_append] at hM)
          refine AtT.startA hM hM 5 (by kernel_rfl) ?_
          clear hM
          intro wd hM
          have hS := hM
          refine AtT.taked (i := 0) (v := ?_) (some 250) rfl rfl (by kernel_rfl) (by kernel_rfl) (by kernel_rfl) (by kernel_rfl) (fun _ _ _ h => h) (Or.inl ⟨by kernel_rfl, ?_⟩) hS ?_
          rotate_left
          · (intro wS hSw; (try dsimp only at hSw); have ks := (Mem.row hSw .here).cell; go_simp; (try rw [if_neg (by omega)]); try with_reducible rfl)
          simp only [Act.put, List.setIfInBounds_toArray, List.set_cons_zero, List.set_cons_succ]
          refine AtT.taked (i := 2) (v := ?_) (some 252) rfl rfl (by kernel_rfl) (by kernel_rfl) (by kernel_rfl) (by kernel_rfl) (fun _ _ _ h => h) (Or.inl ⟨by kernel_rfl, ?_⟩) hS ?_
          rotate_left
          · (intro wS hSw; (try dsimp only at hSw); have ks := (Mem.row hSw .here).cell; go_simp; (try rw [if_neg (by omega)]); try with_reducible rfl)
          simp only [Act.put, List.setIfInBounds_toArray, List.set_cons_zero, List.set_cons_succ]
          refine AtT.only (i := 1) (by kernel_rfl) rfl rfl ?_
          intro K hK
          go_simp
          refine (isFire_any ⟨x0, x1, x2, x3⟩ _).mono ?_
          rw [HV.out]
          rintro e w7 ⟨rfl, hb⟩
          replace hM := hM.ext hb
          clear hb
          try dsimp only
          refine hK.out _ _ (hM) ?_
          clear hK K hS
          have hS := hM
          refine AtT.only (i := 3) (by kernel_rfl) rfl rfl ?_
          intro K hK
          go_simp
          refine (specIsFire_any ⟨x0, x1, x2, x3⟩ _).mono ?_
          rw [HV.out]
          rintro e w7 ⟨rfl, hb⟩
          replace hM := hM.ext hb
          clear hb
          try dsimp only
          refine hK.out _ _ (hM) ?_
          clear hK K hS
          have hS := hM
          refine AtT.taked (i := 4) (v := ?_) (some 254) rfl rfl (by kernel_rfl) (by kernel_rfl) (by kernel_rfl) (by kernel_rfl) (fun _ _ _ h => h) (Or.inl ⟨by kernel_rfl, ?_⟩) hS ?_
          rotate_left
          · (intro wS hSw; (try dsimp only at hSw); go_simp; (try rw [if_neg (by omega)]); try with_reducible rfl)
          simp only [Act.put, List.setIfInBounds_toArray, List.set_cons_zero, List.set_cons_succ]
          refine AtT.last (by kernel_rfl) rfl (by kernel_rfl) ?_
          intro K hK
          clear hS
          go_simp
          refine hK.out _ _ ?_
          clear hK K
          go_wp2
          go_ret
          exact ⟨rfl, (by apply Mem.below; (repeat' (first | with_reducible exact hM | with_reducible exact hMp | with_reducible apply Mem.drew | with_reducible apply Mem.drewN | with_reducible apply Mem.alloc | with_reducible apply Mem.set | with_reducible exact Sto.row | ((with_reducible refine Sto.rowEq2 ?_ ?_); omega; rfl) | ((with_reducible refine Sto.rowEq ?_); omega) | with_reducible apply Sto.int | with_reducible apply Sto.there | with_reducible assumption | (unfold I64; omega) | (with_reducible (have hMx := Mem.undrew hM; exact hMx)) | (with_reducible (have hMx := Mem.undrew hMp; exact hMx)))))⟩
end Go.Proofs.YtpoabdmapbdmfaaDoor

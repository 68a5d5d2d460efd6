/-
  HalfBurnedBy: the reference's.
-/
import Derived.Test.YtdhgkfmehegeoaaHalf
namespace Go.Proofs.Ytdhgkfmehegeoaa
set_option linter.unusedSimpArgs false
set_option linter.unusedVariables false
open Go.RowKit

theorem sumH_boundG {xs : List FireI} (h : ∀ x ∈ xs, -1 ≤ x.hect ∧ x.hect ≤ 100001) : -(xs.length : Int) ≤ sumH xs ∧ sumH xs ≤ 100001 * xs.length := by
  induction xs with
  | nil => simp [sumH]
  | cons x xs ih =>
    have h1 := ih (fun y hy => h y (by simp [hy]))
    have h2 := h x (by simp)
    simp only [sumH, List.map_cons, List.sum_cons, List.length_cons] at *
    omega
set_option maxRecDepth 100000 in
set_option maxHeartbeats 1000000 in
theorem l26SumG_any (a : Option Addr) (n c : Nat) (xs : List FireI) (w : World) (h : Rd FFire w a n c xs) (h20 : n ≤ 20) (hv : ∀ x ∈ xs, -1 ≤ x.hect ∧ x.hect ≤ 100001) :
    Calls Try.prog 96 #[.slice a n c] w fun e w' => e = .returned (.int .i64 (sumH xs)) ∧ w = w' := by
  have hn := h.cap
  have hc := h.nroom
  have HL := Lib.hid h.len
  have HV := Lib.hid hv; clear hv
  go_enter Try.func96, Try.ntmps96
  go_wp2
  go_loop [3, 4] (fun t i => ∃ k : Nat, k ≤ n ∧ i = .int .i64 k ∧ t = .int .i64 (sumH (xs.take k))) (fun _ i => n - (intOf i).toNat)
  case atStart => exact ⟨0, Nat.zero_le _, rfl, rfl⟩
  case round =>
    obtain ⟨k, hk, rfl, rfl⟩ := hrel
    have hb2 := sumH_boundG (xs := xs.take k) (fun x hx => HV.out x (List.mem_of_mem_take hx))
    have hlk : (xs.take k).length ≤ 20 := by rw [List.length_take]; omega
    obtain ⟨t, ht⟩ : ∃ t, sumH (xs.take k) = t := ⟨_, rfl⟩
    rw [ht] at hb2
    rw [ht]
    have HT := Lib.hid ht; clear ht
    obtain ⟨t0, t1⟩ := hb2
    by_cases hlt : k < n
    · obtain ⟨b, off, rfl, _⟩ := h.at' _ hlt
      obtain ⟨hb, hc0, hc1, hc2, hc3⟩ := h.cellFire hlt
      have hkl : k < xs.length := by rw [HL.out]; exact hlt
      have hmem : xs.getD k FireI.zero ∈ xs := by rw [List.getD_eq_getElem?_getD, List.getElem?_eq_getElem hkl]; exact List.getElem_mem _
      have hs := sumH_succ hkl
      obtain ⟨v, hvx⟩ : ∃ v, xs.getD k FireI.zero = v := ⟨_, rfl⟩
      rw [hvx] at hc0 hc1 hc2 hc3 hmem hs
      obtain ⟨v0, v1⟩ := HV.out v hmem
      have HS := Lib.hid hs
      clear hvx hs hkl
      go_wp2
      go_round
      case rel => exact ⟨k + 1, by omega, by go_num, by rw [HS.out, HT.out]⟩
      case measure => simp [intOf]; omega
    · obtain rfl : k = n := by omega
      go_wp2
      go_ret
      exact ⟨ri (by rw [← HT.out, List.take_of_length_le (by rw [HL.out]; exact Nat.le_refl _)]), rfl⟩

set_option maxRecDepth 100000 in
set_option maxHeartbeats 4000000 in
theorem specHalf_any (a : Option Addr) (n c : Nat) (xs : List FireI) (w : World) (h : Rd FFire w a n c xs) (h20 : n ≤ 20) (hv : ∀ x ∈ xs, -1 ≤ x.hect ∧ x.hect ≤ 100001) :
    Calls Try.prog 59 #[.slice a n c] w fun e w' => e = .returned (.tuple #[.int .i64 (halfR xs).1, .bool (halfR xs).2]) ∧ Below w.heap.size w w' := by
  have hc := h.nroom
  have HL := Lib.hid h.len
  have hM := Mem.start w
  have HU := Lib.hid (fun w h => l26SumG_any a n c xs w h h20 hv)
  have hbg := sumH_boundG hv
  rw [h.len] at hbg
  cases hs : seasonB xs
  · have HF := Lib.hid (show halfR xs = (0, false) by rw [halfR, hs]; rfl)
    have HS := Lib.hid hs; clear hs hv
    generalize sumH xs = t at HU hbg
    go_enter Try.func59, Try.ntmps59
    go_wp2_with fail
    apply Mem.atA
    · (repeat' (first | with_reducible exact hM | with_reducible exact hMp | with_reducible apply Mem.drew | with_reducible apply Mem.drewN | with_reducible apply Mem.alloc | with_reducible apply Mem.set | with_reducible exact Sto.row | ((with_reducible refine Sto.rowEq2 ?_ ?_); omega; rfl) | ((with_reducible refine Sto.rowEq ?_); omega) | with_reducible apply Sto.int | with_reducible apply Sto.there | with_reducible assumption | (unfold I64; omega) | (with_reducible (have hMx := Mem.undrew hM; exact hMx)) | (with_reducible (have hMx := Mem.undrew hMp; exact hMx))))
    clear hM
    intro wst hM
    (try simp only [World.size_alloc, World.size_setCell, World.heap_drewN, heapDrew, Nat.add_assoc, Nat.reduceAdd, List.setIfInBounds_toArray, List.set_cons_zero, List.set_cons_succ, List.cons_append, List.nil_append] at hM)
    refine (HU.out _ (h.ext hM.below)).mono ?_
    rintro e wc1 ⟨rfl, rfl⟩
    go_wp2_with fail
    apply Mem.atA
    · (repeat' (first | with_reducible exact hM | with_reducible exact hMp | with_reducible apply Mem.drew | with_reducible apply Mem.drewN | with_reducible apply Mem.alloc | with_reducible apply Mem.set | with_reducible exact Sto.row | ((with_reducible refine Sto.rowEq2 ?_ ?_); omega; rfl) | ((with_reducible refine Sto.rowEq ?_); omega) | with_reducible apply Sto.int | with_reducible apply Sto.there | with_reducible assumption | (unfold I64; omega) | (with_reducible (have hMx := Mem.undrew hM; exact hMx)) | (with_reducible (have hMx := Mem.undrew hMp; exact hMx))))
    clear hM
    intro wst hM
    (try simp only [World.size_alloc, World.size_setCell, World.heap_drewN, heapDrew, Nat.add_assoc, Nat.reduceAdd, List.setIfInBounds_toArray, List.set_cons_zero, List.set_cons_succ, List.cons_append, List.nil_append] at hM)
    refine (l26Good_any a n c xs _ (h.ext hM.below)).mono ?_
    rw [HS.out]
    rintro e wc2 ⟨rfl, hb⟩
    replace hM := hM.ext hb
    clear hb
    go_wp2
    go_ret2
    exact ⟨by rw [HF.out]; rfl, (by apply Mem.below; (repeat' (first | with_reducible exact hM | with_reducible exact hMp | with_reducible apply Mem.drew | with_reducible apply Mem.drewN | with_reducible apply Mem.alloc | with_reducible apply Mem.set | with_reducible exact Sto.row | ((with_reducible refine Sto.rowEq2 ?_ ?_); omega; rfl) | ((with_reducible refine Sto.rowEq ?_); omega) | with_reducible apply Sto.int | with_reducible apply Sto.there | with_reducible assumption | (unfold I64; omega) | (with_reducible (have hMx := Mem.undrew hM; exact hMx)) | (with_reducible (have hMx := Mem.undrew hMp; exact hMx)))))⟩
  obtain ⟨v15, vall⟩ := seasonB_true hs
  rw [h.len] at v15
  have hsb := sumH_bound vall
  have HA := Lib.hid (halfB_all (xs := xs) hsb.1)
  obtain ⟨t, ht⟩ : ∃ t, sumH xs = t := ⟨_, rfl⟩
  rw [ht] at hbg HU hsb
  have ht0 := hsb.1
  clear hsb
  by_cases h0 : t = 0
  · have HF := Lib.hid (show halfR xs = (0, false) by rw [halfR, hs, ht, h0]; rfl)
    subst h0
    have HS := Lib.hid hs; clear hs hv ht
    go_enter Try.func59, Try.ntmps59
    go_wp2_with fail
    apply Mem.atA
    · (repeat' (first | with_reducible exact hM | with_reducible exact hMp | with_reducible apply Mem.drew | with_reducible apply Mem.drewN | with_reducible apply Mem.alloc | with_reducible apply Mem.set | with_reducible exact Sto.row | ((with_reducible refine Sto.rowEq2 ?_ ?_); omega; rfl) | ((with_reducible refine Sto.rowEq ?_); omega) | with_reducible apply Sto.int | with_reducible apply Sto.there | with_reducible assumption | (unfold I64; omega) | (with_reducible (have hMx := Mem.undrew hM; exact hMx)) | (with_reducible (have hMx := Mem.undrew hMp; exact hMx))))
    clear hM
    intro wst hM
    (try simp only [World.size_alloc, World.size_setCell, World.heap_drewN, heapDrew, Nat.add_assoc, Nat.reduceAdd, List.setIfInBounds_toArray, List.set_cons_zero, List.set_cons_succ, List.cons_append, List.nil_append] at hM)
    refine (HU.out _ (h.ext hM.below)).mono ?_
    rintro e wc3 ⟨rfl, rfl⟩
    go_wp2_with fail
    apply Mem.atA
    · (repeat' (first | with_reducible exact hM | with_reducible exact hMp | with_reducible apply Mem.drew | with_reducible apply Mem.drewN | with_reducible apply Mem.alloc | with_reducible apply Mem.set | with_reducible exact Sto.row | ((with_reducible refine Sto.rowEq2 ?_ ?_); omega; rfl) | ((with_reducible refine Sto.rowEq ?_); omega) | with_reducible apply Sto.int | with_reducible apply Sto.there | with_reducible assumption | (unfold I64; omega) | (with_reducible (have hMx := Mem.undrew hM; exact hMx)) | (with_reducible (have hMx := Mem.undrew hMp; exact hMx))))
    clear hM
    intro wst hM
    (try simp only [World.size_alloc, World.size_setCell, World.heap_drewN, heapDrew, Nat.add_assoc, Nat.reduceAdd, List.setIfInBounds_toArray, List.set_cons_zero, List.set_cons_succ, List.cons_append, List.nil_append] at hM)
    refine (l26Good_any a n c xs _ (h.ext hM.below)).mono ?_
    rw [HS.out]
    rintro e wc4 ⟨rfl, hb⟩
    replace hM := hM.ext hb
    clear hb
    go_wp2
    go_ret2
    exact ⟨by rw [HF.out]; rfl, (by apply Mem.below; (repeat' (first | with_reducible exact hM | with_reducible exact hMp | with_reducible apply Mem.drew | with_reducible apply Mem.drewN | with_reducible apply Mem.alloc | with_reducible apply Mem.set | with_reducible exact Sto.row | ((with_reducible refine Sto.rowEq2 ?_ ?_); omega; rfl) | ((with_reducible refine Sto.rowEq ?_); omega) | with_reducible apply Sto.int | with_reducible apply Sto.there | with_reducible assumption | (unfold I64; omega) | (with_reducible (have hMx := Mem.undrew hM; exact hMx)) | (with_reducible (have hMx := Mem.undrew hMp; exact hMx)))))⟩
  have hz : (t == 0) = false := by simpa using h0
  have HF := Lib.hid (show halfR xs = (dayAt xs (halfN xs - 1), true) by rw [halfR, hs, ht, hz]; rfl)
  have HT := Lib.hid ht; clear ht
  have HS := Lib.hid hs; clear hs
  have HV := Lib.hid vall; clear vall hv
  go_enter Try.func59, Try.ntmps59
  go_wp2_with fail
  apply Mem.atA
  · (repeat' (first | with_reducible exact hM | with_reducible exact hMp | with_reducible apply Mem.drew | with_reducible apply Mem.drewN | with_reducible apply Mem.alloc | with_reducible apply Mem.set | with_reducible exact Sto.row | ((with_reducible refine Sto.rowEq2 ?_ ?_); omega; rfl) | ((with_reducible refine Sto.rowEq ?_); omega) | with_reducible apply Sto.int | with_reducible apply Sto.there | with_reducible assumption | (unfold I64; omega) | (with_reducible (have hMx := Mem.undrew hM; exact hMx)) | (with_reducible (have hMx := Mem.undrew hMp; exact hMx))))
  clear hM
  intro wst hM
  (try simp only [World.size_alloc, World.size_setCell, World.heap_drewN, heapDrew, Nat.add_assoc, Nat.reduceAdd, List.setIfInBounds_toArray, List.set_cons_zero, List.set_cons_succ, List.cons_append, List.nil_append] at hM)
  refine (HU.out _ (h.ext hM.below)).mono ?_
  rintro e wc5 ⟨rfl, rfl⟩
  go_wp2_with fail
  apply Mem.atA
  · (repeat' (first | with_reducible exact hM | with_reducible exact hMp | with_reducible apply Mem.drew | with_reducible apply Mem.drewN | with_reducible apply Mem.alloc | with_reducible apply Mem.set | with_reducible exact Sto.row | ((with_reducible refine Sto.rowEq2 ?_ ?_); omega; rfl) | ((with_reducible refine Sto.rowEq ?_); omega) | with_reducible apply Sto.int | with_reducible apply Sto.there | with_reducible assumption | (unfold I64; omega) | (with_reducible (have hMx := Mem.undrew hM; exact hMx)) | (with_reducible (have hMx := Mem.undrew hMp; exact hMx))))
  clear hM
  intro wst hM
  (try simp only [World.size_alloc, World.size_setCell, World.heap_drewN, heapDrew, Nat.add_assoc, Nat.reduceAdd, List.setIfInBounds_toArray, List.set_cons_zero, List.set_cons_succ, List.cons_append, List.nil_append] at hM)
  refine (l26Good_any a n c xs _ (h.ext hM.below)).mono ?_
  rw [HS.out]
  rintro e wc6 ⟨rfl, hb⟩
  replace hM := hM.ext hb
  clear hb
  go_wp2
  go_loopw [5, 6] (fun s i wr => ∃ k : Nat, k ≤ n ∧ i = .int .i64 k ∧ s = .int .i64 (sumH (xs.take k)) ∧ Hid (∀ m, m < k → halfB xs m = false) ∧ Mem w.heap.size w wr []) (fun _ i _ => n - (intOf i).toNat)
  case atStart => exact ⟨0, Nat.zero_le _, rfl, rfl, Lib.hid (fun m hm => by omega), hM⟩
  case round =>
    clear hM
    obtain ⟨k, hk, rfl, rfl, HN, hM⟩ := hrel
    have htk : ∀ x ∈ xs.take k, fireB x = true := fun x hx => HV.out x (List.mem_of_mem_take hx)
    have hsk := sumH_bound htk
    have hlk : (xs.take k).length ≤ 15 := by rw [List.length_take]; omega
    clear htk
    have hhb : halfB xs k = decide (t ≤ 2 * sumH (xs.take k)) := by rw [halfB, HT.out]
    have hss : k < n → sumH (xs.take (k + 1)) = _ := fun hlt => sumH_succ (by rw [HL.out]; exact hlt)
    have hk0 : k = 0 → sumH (xs.take k) = 0 := fun e => by rw [e]; rfl
    obtain ⟨u, hu⟩ : ∃ u, sumH (xs.take k) = u := ⟨_, rfl⟩
    rw [hu] at hsk hhb hk0
    simp only [hu] at hss
    rw [hu]
    have HHB := Lib.hid hhb; clear hhb hu
    have hw2 : IntKind.i64.wrap (2 * u) = 2 * u := wrap_in (by omega)
    by_cases hx : 2 * u < t
    · have hno : halfB xs k = false := by rw [HHB.out]; simp; omega
      have hlt : k < n := by
        rcases Nat.lt_or_ge k n with e | e
        · exact e
        · obtain rfl : k = n := by omega
          have := HA.out
          rw [HL.out, hno] at this
          cases this
      have hst := hss hlt
      have HNN := Lib.hid (show ∀ m, m < k + 1 → halfB xs m = false from fun m hm => by
        by_cases e : m = k
        · rw [e]; exact hno
        · exact HN.out m (by omega))
      clear hss hk0 hno
      obtain ⟨bb, off, rfl, _⟩ := (h.ext hM.below).at' _ hlt
      obtain ⟨hbl, hc0, hc1, hc2, hc3⟩ := (h.ext hM.below).cellFire hlt
      have hmem : xs.getD k FireI.zero ∈ xs := by rw [List.getD_eq_getElem?_getD, List.getElem?_eq_getElem (by rw [HL.out]; exact hlt)]; exact List.getElem_mem _
      obtain ⟨v0, v1⟩ := (fireB_true (HV.out _ hmem)).2.2.1
      clear hmem
      generalize xs.getD k FireI.zero = y at hc0 hc1 hc2 hc3 hst v0 v1
      obtain ⟨y0, y1, y2, y3⟩ := y
      dsimp only at hc0 hc1 hc2 hc3 hst v0 v1
      have HST := Lib.hid hst; clear hst
      have hw3 : IntKind.i64.wrap (u + y2) = u + y2 := wrap_in (by omega)
      have i0 : (0 : Int) ≤ (k : Int) := by omega
      have i1 : (k : Int) < (n : Int) := by omega
      go_wp2
      go_roundw
      case rel => exact ⟨k + 1, by omega, by go_num, by rw [HST.out], HNN, by (repeat' (first | with_reducible exact hM | with_reducible exact hMp | with_reducible apply Mem.drew | with_reducible apply Mem.drewN | with_reducible apply Mem.alloc | with_reducible apply Mem.set | with_reducible exact Sto.row | ((with_reducible refine Sto.rowEq2 ?_ ?_); omega; rfl) | ((with_reducible refine Sto.rowEq ?_); omega) | with_reducible apply Sto.int | with_reducible apply Sto.there | with_reducible assumption | (unfold I64; omega) | (with_reducible (have hMx := Mem.undrew hM; exact hMx)) | (with_reducible (have hMx := Mem.undrew hMp; exact hMx))))⟩
      case measure => simp [intOf]; omega
    · have hkp : 0 < k := by
        rcases Nat.eq_zero_or_pos k with e | e
        · have := hk0 e; omega
        · exact e
      have HNN := Lib.hid (show halfN xs = k from halfN_at (by rw [HL.out]; exact hk) HN.out (by rw [HHB.out]; simp; omega))
      clear hss hk0
      obtain ⟨j, rfl⟩ : ∃ j, k = j + 1 := ⟨k - 1, by omega⟩
      have hjn : j < n := by omega
      obtain ⟨bb, off, rfl, _⟩ := (h.ext hM.below).at' _ hjn
      obtain ⟨hbl, hc0, hc1, hc2, hc3⟩ := (h.ext hM.below).cellFire hjn
      have hdy : dayAt xs j = (xs.getD j FireI.zero).day := rfl
      rw [← hdy] at hc0
      clear hdy hc1 hc2 hc3
      have hw3 : IntKind.i64.wrap (((j + 1 : Nat) : Int) - 1) = (j : Int) := by rw [wrap_in (by omega)]; omega
      have hw4 : IntKind.i64.wrap ((j : Int) + 1 - 1) = (j : Int) := by rw [wrap_in (by omega)]; omega
      have i0 : (0 : Int) ≤ (j : Int) := by omega
      have i1 : (j : Int) < (n : Int) := by omega
      go_wp2
      go_ret2
      exact ⟨by rw [HF.out, HNN.out]; rfl, (by apply Mem.below; (repeat' (first | with_reducible exact hM | with_reducible exact hMp | with_reducible apply Mem.drew | with_reducible apply Mem.drewN | with_reducible apply Mem.alloc | with_reducible apply Mem.set | with_reducible exact Sto.row | ((with_reducible refine Sto.rowEq2 ?_ ?_); omega; rfl) | ((with_reducible refine Sto.rowEq ?_); omega) | with_reducible apply Sto.int | with_reducible apply Sto.there | with_reducible assumption | (unfold I64; omega) | (with_reducible (have hMx := Mem.undrew hM; exact hMx)) | (with_reducible (have hMx := Mem.undrew hMp; exact hMx)))))⟩
end Go.Proofs.Ytdhgkfmehegeoaa

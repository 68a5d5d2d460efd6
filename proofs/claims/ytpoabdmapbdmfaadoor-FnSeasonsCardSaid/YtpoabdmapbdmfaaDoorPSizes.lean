/- Lemmas. -/
import Derived.Test.YtpoabdmapbdmfaaDoorPShare
namespace Go.Proofs.YtpoabdmapbdmfaaDoor
set_option linter.unusedSimpArgs false
set_option linter.unusedVariables false
open Go.RowKit

/-- the class of a size -/
def classK (h : Int) : Nat := if h < 1 then 0 else if h < 10 then 1 else if h < 100 then 2 else if h < 1000 then 3 else 4
def limK : Nat → Int
  | 0 => 1
  | 1 => 10
  | 2 => 100
  | 3 => 1000
  | _ => 10000
theorem classK_le (h : Int) : classK h ≤ 4 := by unfold classK; (repeat' split) <;> omega
theorem limK_pos (k : Nat) : 1 ≤ limK k ∧ limK k ≤ 10000 := by unfold limK; split <;> omega
theorem limK_succ {k : Nat} (hk : k < 4) : limK (k + 1) = 10 * limK k := by
  rcases (by omega : k = 0 ∨ k = 1 ∨ k = 2 ∨ k = 3) with rfl | rfl | rfl | rfl <;> rfl
theorem classK_lt {h : Int} {k : Nat} (hk : k < 4) (h1 : k ≤ classK h) (h2 : h < limK k) : classK h = k := by
  rcases (by omega : k = 0 ∨ k = 1 ∨ k = 2 ∨ k = 3) with rfl | rfl | rfl | rfl <;> simp only [limK] at h2 <;> unfold classK at h1 ⊢ <;> (repeat' split at h1) <;> (repeat' split) <;> omega
theorem classK_ge {h : Int} {k : Nat} (hk : k < 4) (h1 : k ≤ classK h) (h2 : limK k ≤ h) : k + 1 ≤ classK h := by
  rcases (by omega : k = 0 ∨ k = 1 ∨ k = 2 ∨ k = 3) with rfl | rfl | rfl | rfl <;> simp only [limK] at h2 <;> unfold classK at h1 ⊢ <;> (repeat' split at h1) <;> (repeat' split) <;> omega

def bump (l : List Int) (i : Nat) : List Int := l.set i (l.getD i 0 + 1)
def sizesF (xs : List FireI) : List Int := xs.foldl (fun l x => bump l (classK x.hect)) (List.replicate 5 0)
structure Sizes where
  zs : List Int
  ok : Bool
def sizesR (xs : List FireI) : Sizes := if seasonB xs then ⟨sizesF xs, true⟩ else ⟨[], false⟩
theorem sizesF_snoc (xs : List FireI) (x : FireI) : sizesF (xs ++ [x]) = bump (sizesF xs) (classK x.hect) := by simp [sizesF, List.foldl_append]
theorem sizesF_length (xs : List FireI) : (sizesF xs).length = 5 := by
  have : ∀ (l : List Int), (xs.foldl (fun l x => bump l (classK x.hect)) l).length = l.length := by
    induction xs with
    | nil => intro l; rfl
    | cons x xs ih => intro l; rw [List.foldl_cons, ih]; simp [bump]
  unfold sizesF
  rw [this]
  simp
theorem sizesF_bound (xs : List FireI) : ∀ i, 0 ≤ (sizesF xs).getD i 0 ∧ (sizesF xs).getD i 0 ≤ xs.length := by
  have : ∀ (l : List Int) (m : Int), (∀ i, 0 ≤ l.getD i 0 ∧ l.getD i 0 ≤ m) → ∀ i, 0 ≤ (xs.foldl (fun l x => bump l (classK x.hect)) l).getD i 0 ∧ (xs.foldl (fun l x => bump l (classK x.hect)) l).getD i 0 ≤ m + xs.length := by
    induction xs with
    | nil => intro l m h i; have := h i; simp only [List.foldl_nil, List.length_nil]; omega
    | cons x xs ih =>
      intro l m h i
      rw [List.foldl_cons]
      have := ih (bump l (classK x.hect)) (m + 1) (fun j => by
        have h1 := h j
        have h2 := h (classK x.hect)
        unfold bump
        rw [List.getD_eq_getElem?_getD, List.getElem?_set]
        split
        · split
          · rename_i e _; subst e; simp only [Option.getD_some]; omega
          · simp only [Option.getD_none]; omega
        · rw [← List.getD_eq_getElem?_getD]; omega) i
      simp only [List.length_cons]
      omega
  have h0 : ∀ i, 0 ≤ (List.replicate 5 (0 : Int)).getD i 0 ∧ (List.replicate 5 (0 : Int)).getD i 0 ≤ 0 := by
    intro i
    rw [List.getD_eq_getElem?_getD, List.getElem?_replicate]
    split <;> simp
  intro i
  have := this (List.replicate 5 0) 0 h0 i
  unfold sizesF
  omega

set_option maxHeartbeats 1000000 in
theorem l26Class_any (h : Int) (w : World) (hh : I64 h) :
    Calls Tryd.prog 43 #[.int .i64 h] w fun e w' => e = .returned (.int .i64 (classK h)) ∧ w = w' := by
  obtain ⟨g0, g1⟩ := hh
  have HC := Lib.hid (classK_le h)
  go_enter Tryd.func43, Tryd.ntmps43
  go_wp2
  go_loop [3, 4] (fun n l => ∃ k : Nat, k ≤ 4 ∧ n = .int .i64 k ∧ l = .int .i64 (limK k) ∧ k ≤ classK h) (fun n _ => 4 - (intOf n).toNat)
  case atStart => exact ⟨0, by omega, rfl, rfl, by omega⟩
  case round =>
    obtain ⟨k, hk, rfl, rfl, hc⟩ := hrel
    have hlp := limK_pos k
    have hls := fun e => limK_succ (k := k) e
    obtain ⟨l, hl⟩ : ∃ l, limK k = l := ⟨_, rfl⟩
    rw [hl] at hlp ⊢
    have HS := Lib.hid hls; clear hls
    have HL := Lib.hid hl; clear hl
    have HK := Lib.hid hc; clear hc
    obtain ⟨l0, l1⟩ := hlp
    by_cases hlt : k < 4
    · by_cases hge : l ≤ h
      · go_wp2
        go_round
        case rel => exact ⟨k + 1, by omega, by go_num, by rw [HS.out hlt, HL.out], classK_ge hlt HK.out (by rw [HL.out]; exact hge)⟩
        case measure => simp [intOf]; omega
      · go_wp2
        go_ret
        exact ⟨ri (by rw [classK_lt hlt HK.out (by rw [HL.out]; omega)]), rfl⟩
    · obtain rfl : k = 4 := by omega
      go_wp2
      go_ret
      exact ⟨ri (by have := HC.out; have := HK.out; omega), rfl⟩

theorem hect64 {x : FireI} (h : fireB x = true) : I64 x.hect := by
  have := (fireB_true h).2.2.1
  unfold I64; omega

set_option maxRecDepth 100000 in
set_option maxHeartbeats 2000000 in
theorem specSizes_any (a : Option Addr) (n c : Nat) (xs : List FireI) (w : World) (h : Rd FFire w a n c xs) :
    Calls Tryd.prog 8 #[.slice a n c] w fun e w' => ∃ a' n' c', e = .returned (.tuple #[.slice a' n' c', .bool (sizesR xs).ok]) ∧ Mem w.heap.size w w' [intE a' n' c' (sizesR xs).zs] := by
  have hn := h.cap
  have hc := h.nroom
  have HL := Lib.hid h.len
  have hM := Mem.start w
  obtain ⟨i0, hi, hz0, hz1, hz2⟩ := info_parts Tryd.info3
  cases hs : seasonB xs
  · have HF := Lib.hid (show sizesR xs = ⟨[], false⟩ by simp [sizesR, hs])
    go_enter Tryd.func8, Tryd.ntmps8
    go_wp2_with fail
    apply Mem.at
    · (repeat' (first | with_reducible exact hM | with_reducible exact hMp | with_reducible apply Mem.drew | with_reducible apply Mem.drewN | with_reducible apply Mem.alloc | with_reducible apply Mem.set | with_reducible exact Sto.row | ((with_reducible refine Sto.rowEq2 ?_ ?_); omega; rfl) | ((with_reducible refine Sto.rowEq ?_); omega) | with_reducible apply Sto.int | with_reducible apply Sto.there | with_reducible assumption | (unfold I64; omega) | (with_reducible (have hMx := Mem.undrew hM; exact hMx)) | (with_reducible (have hMx := Mem.undrew hMp; exact hMx))))
    clear hM
    intro hM
    (try simp only [World.size_alloc, World.size_setCell, World.heap_drewN, heapDrew, Nat.add_assoc, Nat.reduceAdd, List.setIfInBounds_toArray, List.set_cons_zero, List.set_cons_succ, List.cons_append, List.nil_append] at hM)
    refine (l26Good_any a n c xs _ (h.ext hM.below)).mono ?_
    rw [hs]
    rintro e w1 ⟨rfl, hb⟩
    replace hM := hM.ext hb
    clear hb
    go_wp2
    go_ret2
    exact ⟨_, _, _, by rw [HF.out]; rfl, by
      rw [HF.out]
      apply Mem.toInts0
      (repeat' (first | with_reducible exact hM | with_reducible exact hMp | with_reducible apply Mem.drew | with_reducible apply Mem.drewN | with_reducible apply Mem.alloc | with_reducible apply Mem.set | with_reducible exact Sto.row | ((with_reducible refine Sto.rowEq2 ?_ ?_); omega; rfl) | ((with_reducible refine Sto.rowEq ?_); omega) | with_reducible apply Sto.int | with_reducible apply Sto.there | with_reducible assumption | (unfold I64; omega) | (with_reducible (have hMx := Mem.undrew hM; exact hMx)) | (with_reducible (have hMx := Mem.undrew hMp; exact hMx))))⟩
  have HF := Lib.hid (show sizesR xs = ⟨sizesF xs, true⟩ by simp [sizesR, hs])
  obtain ⟨v15, vall⟩ := seasonB_true hs
  rw [h.len] at v15
  have HV := Lib.hid vall; clear vall
  have HS := Lib.hid hs; clear hs
  go_enter Tryd.func8, Tryd.ntmps8
  go_wp2_with fail
  apply Mem.at
  · (repeat' (first | with_reducible exact hM | with_reducible exact hMp | with_reducible apply Mem.drew | with_reducible apply Mem.drewN | with_reducible apply Mem.alloc | with_reducible apply Mem.set | with_reducible exact Sto.row | ((with_reducible refine Sto.rowEq2 ?_ ?_); omega; rfl) | ((with_reducible refine Sto.rowEq ?_); omega) | with_reducible apply Sto.int | with_reducible apply Sto.there | with_reducible assumption | (unfold I64; omega) | (with_reducible (have hMx := Mem.undrew hM; exact hMx)) | (with_reducible (have hMx := Mem.undrew hMp; exact hMx))))
  clear hM
  intro hM
  (try simp only [World.size_alloc, World.size_setCell, World.heap_drewN, heapDrew, Nat.add_assoc, Nat.reduceAdd, List.setIfInBounds_toArray, List.set_cons_zero, List.set_cons_succ, List.cons_append, List.nil_append] at hM)
  refine (l26Good_any a n c xs _ (h.ext hM.below)).mono ?_
  rw [HS.out]
  rintro e w1 ⟨rfl, hb⟩
  replace hM := hM.ext hb
  clear hb
  go_wp2_with (at_make; apply Mem.atL; (focus ((repeat' (first | with_reducible exact hM | with_reducible exact hMp | with_reducible apply Mem.drew | with_reducible apply Mem.drewN | with_reducible apply Mem.alloc | with_reducible apply Mem.set | with_reducible exact Sto.row | ((with_reducible refine Sto.rowEq2 ?_ ?_); omega; rfl) | ((with_reducible refine Sto.rowEq ?_); omega) | with_reducible apply Sto.int | with_reducible apply Sto.there | with_reducible assumption | (unfold I64; omega) | (with_reducible (have hMx := Mem.undrew hM; exact hMx)) | (with_reducible (have hMx := Mem.undrew hMp; exact hMx)))); done)); clear hM; intro hM; refine wpList_make_full _ rfl _ _ 26 rfl _ 3 i0 (.int .i64 0) 1 Tryd.underlying26 hi hz0 hz1 .i64 .i64 5 5 5 rfl rfl rfl rfl ?b1 ?b2 (Nat.le_refl _) ?_)
  case b1 => rw [hz2]; omega
  case b2 => unfold maxLen; omega
  intro wm hown hg
  replace hM := hM.own ((Below.refl _ _).grown hg (Nat.le_refl _) (by intro k hk; cases hk)) (own_made hown (by omega))
  clear hown hg
  go_wp2
  go_loopw [5] (fun i wr => ∃ k : Nat, k ≤ n ∧ i = .int .i64 k ∧ Mem w.heap.size w wr [intE (some ⟨w1.heap.size, 0, none⟩) 5 5 (sizesF (xs.take k))]) (fun i _ => n - (intOf i).toNat)
  case atStart => exact ⟨0, Nat.zero_le _, rfl, hM⟩
  case round =>
    clear hM
    obtain ⟨k, hk, rfl, hM⟩ := hrel
    by_cases hlt : k < n
    · obtain ⟨b, off, rfl, _⟩ := (h.ext hM.below).at' _ hlt
      obtain ⟨hb, hc0, hc1, hc2, hc3⟩ := (h.ext hM.below).cellFire hlt
      have hkl : k < xs.length := by rw [HL.out]; exact hlt
      have hmem : xs.getD k FireI.zero ∈ xs := by rw [List.getD_eq_getElem?_getD, List.getElem?_eq_getElem hkl]; exact List.getElem_mem _
      have htk := take_succV hkl (z := FireI.zero)
      obtain ⟨v, hvx⟩ : ∃ v, xs.getD k FireI.zero = v := ⟨_, rfl⟩
      rw [hvx] at hc2 htk hmem
      have HTK := Lib.hid htk
      clear hvx htk hkl hc0 hc1 hc3
      have hb2 := sizesF_bound (xs.take k) (classK v.hect)
      have hlk : (xs.take k).length ≤ k := List.length_take_le _ _
      have hcl := classK_le v.hect
      have hdk := (hM.ints .here).cellAt (k := classK v.hect) (by omega)
      have hfk := (hM.ints .here).freeAt (classK v.hect)
      obtain ⟨t, ht⟩ : ∃ t, (sizesF (xs.take k)).getD (classK v.hect) 0 = t := ⟨_, rfl⟩
      rw [ht] at hdk hb2
      have HT := Lib.hid ht; clear ht
      obtain ⟨t0, t1⟩ := hb2
      obtain ⟨q, hq⟩ : ∃ q, classK v.hect = q := ⟨_, rfl⟩
      rw [hq] at hdk hfk hcl
      have HQ := Lib.hid hq; clear hq
      go_wp2_with fail
      refine (l26Class_any v.hect _ (hect64 (HV.out v hmem))).mono ?_
      rw [HQ.out]
      rintro e w4 ⟨rfl, rfl⟩
      go_wp2
      go_roundw
      case rel =>
        refine ⟨k + 1, by omega, by go_num, ?_⟩
        rw [HTK.out, sizesF_snoc, bump, HQ.out, show (sizesF (xs.take k)).getD q 0 = t by rw [← HQ.out]; exact HT.out]
        (repeat' (first | with_reducible exact hM | with_reducible exact hMp | with_reducible apply Mem.drew | with_reducible apply Mem.drewN | with_reducible apply Mem.alloc | with_reducible apply Mem.set | with_reducible exact Sto.row | ((with_reducible refine Sto.rowEq2 ?_ ?_); omega; rfl) | ((with_reducible refine Sto.rowEq ?_); omega) | with_reducible apply Sto.int | with_reducible apply Sto.there | with_reducible assumption | (unfold I64; omega) | (with_reducible (have hMx := Mem.undrew hM; exact hMx)) | (with_reducible (have hMx := Mem.undrew hMp; exact hMx))))
      case measure => simp [intOf]; omega
    · obtain rfl : k = n := by omega
      rw [List.take_of_length_le (by rw [HL.out]; exact Nat.le_refl _)] at hM
      go_wp2
      go_ret2
      exact ⟨_, _, _, by rw [HF.out]; rfl, by rw [HF.out]; exact hM⟩

set_option maxRecDepth 100000 in
set_option maxHeartbeats 4000000 in
theorem implSizes_any (a : Option Addr) (n c : Nat) (xs : List FireI) (w : World) (h : Rd FFire w a n c xs) :
    Calls Tryd.prog 7 #[.slice a n c] w fun e w' => ∃ a' n' c', e = .returned (.tuple #[.slice a' n' c', .bool (sizesR xs).ok]) ∧ Mem w.heap.size w w' [intE a' n' c' (sizesR xs).zs] := by
  have hn := h.cap
  have hc := h.nroom
  have HL := Lib.hid h.len
  have hM := Mem.start w
  obtain ⟨i0, hi, hz0, hz1, hz2⟩ := info_parts Tryd.info3
  cases hs : seasonB xs
  · have HF := Lib.hid (show sizesR xs = ⟨[], false⟩ by simp [sizesR, hs])
    go_enter Tryd.func7, Tryd.ntmps7
    go_wp2_with fail
    apply Mem.at
    · (repeat' (first | with_reducible exact hM | with_reducible exact hMp | with_reducible apply Mem.drew | with_reducible apply Mem.drewN | with_reducible apply Mem.alloc | with_reducible apply Mem.set | with_reducible exact Sto.row | ((with_reducible refine Sto.rowEq2 ?_ ?_); omega; rfl) | ((with_reducible refine Sto.rowEq ?_); omega) | with_reducible apply Sto.int | with_reducible apply Sto.there | with_reducible assumption | (unfold I64; omega) | (with_reducible (have hMx := Mem.undrew hM; exact hMx)) | (with_reducible (have hMx := Mem.undrew hMp; exact hMx))))
    clear hM
    intro hM
    (try simp only [World.size_alloc, World.size_setCell, World.heap_drewN, heapDrew, Nat.add_assoc, Nat.reduceAdd, List.setIfInBounds_toArray, List.set_cons_zero, List.set_cons_succ, List.cons_append, List.nil_append] at hM)
    refine (isSeason_any a n c xs _ (h.ext hM.below)).mono ?_
    rw [hs]
    rintro e w1 ⟨rfl, hb⟩
    replace hM := hM.ext hb
    clear hb
    go_wp2
    go_ret2
    exact ⟨_, _, _, by rw [HF.out]; rfl, by
      rw [HF.out]
      exact hM.nilInts⟩
  have HF := Lib.hid (show sizesR xs = ⟨sizesF xs, true⟩ by simp [sizesR, hs])
  obtain ⟨v15, vall⟩ := seasonB_true hs
  rw [h.len] at v15
  have HV := Lib.hid vall; clear vall
  have HS := Lib.hid hs; clear hs
  go_enter Tryd.func7, Tryd.ntmps7
  go_wp2_with fail
  apply Mem.at
  · (repeat' (first | with_reducible exact hM | with_reducible exact hMp | with_reducible apply Mem.drew | with_reducible apply Mem.drewN | with_reducible apply Mem.alloc | with_reducible apply Mem.set | with_reducible exact Sto.row | ((with_reducible refine Sto.rowEq2 ?_ ?_); omega; rfl) | ((with_reducible refine Sto.rowEq ?_); omega) | with_reducible apply Sto.int | with_reducible apply Sto.there | with_reducible assumption | (unfold I64; omega) | (with_reducible (have hMx := Mem.undrew hM; exact hMx)) | (with_reducible (have hMx := Mem.undrew hMp; exact hMx))))
  clear hM
  intro hM
  (try simp only [World.size_alloc, World.size_setCell, World.heap_drewN, heapDrew, Nat.add_assoc, Nat.reduceAdd, List.setIfInBounds_toArray, List.set_cons_zero, List.set_cons_succ, List.cons_append, List.nil_append] at hM)
  refine (isSeason_any a n c xs _ (h.ext hM.below)).mono ?_
  rw [HS.out]
  rintro e w1 ⟨rfl, hb⟩
  replace hM := hM.ext hb
  clear hb
  go_wp2_with (at_make; apply Mem.atL; (focus ((repeat' (first | with_reducible exact hM | with_reducible exact hMp | with_reducible apply Mem.drew | with_reducible apply Mem.drewN | with_reducible apply Mem.alloc | with_reducible apply Mem.set | with_reducible exact Sto.row | ((with_reducible refine Sto.rowEq2 ?_ ?_); omega; rfl) | ((with_reducible refine Sto.rowEq ?_); omega) | with_reducible apply Sto.int | with_reducible apply Sto.there | with_reducible assumption | (unfold I64; omega) | (with_reducible (have hMx := Mem.undrew hM; exact hMx)) | (with_reducible (have hMx := Mem.undrew hMp; exact hMx)))); done)); clear hM; intro hM; refine wpList_make_full _ rfl _ _ 26 rfl _ 3 i0 (.int .i64 0) 1 Tryd.underlying26 hi hz0 hz1 .i64 .i64 5 5 5 rfl rfl rfl rfl ?b1 ?b2 (Nat.le_refl _) ?_)
  case b1 => rw [hz2]; omega
  case b2 => unfold maxLen; omega
  intro wm hown hg
  replace hM := hM.own ((Below.refl _ _).grown hg (Nat.le_refl _) (by intro k hk; cases hk)) (own_made hown (by omega))
  clear hown hg
  go_wp2
  go_loopw [15] (fun i wr => ∃ k : Nat, k ≤ n ∧ i = .int .i64 k ∧ Mem w.heap.size w wr [intE (some ⟨w1.heap.size, 0, none⟩) 5 5 (sizesF (xs.take k))]) (fun i _ => n - (intOf i).toNat)
  case atStart => exact ⟨0, Nat.zero_le _, rfl, hM⟩
  case round =>
    clear hM
    obtain ⟨k, hk, rfl, hM⟩ := hrel
    by_cases hlt : k < n
    · obtain ⟨b, off, rfl, _⟩ := (h.ext hM.below).at' _ hlt
      obtain ⟨hb, hc0, hc1, hc2, hc3⟩ := (h.ext hM.below).cellFire hlt
      have hkl : k < xs.length := by rw [HL.out]; exact hlt
      have hmem : xs.getD k FireI.zero ∈ xs := by rw [List.getD_eq_getElem?_getD, List.getElem?_eq_getElem hkl]; exact List.getElem_mem _
      have htk := take_succV hkl (z := FireI.zero)
      obtain ⟨v, hvx⟩ : ∃ v, xs.getD k FireI.zero = v := ⟨_, rfl⟩
      rw [hvx] at hc0 hc1 hc2 hc3 htk hmem
      have HTK := Lib.hid htk
      clear hvx htk hkl
      obtain ⟨g0, g1⟩ := hect64 (HV.out v hmem)
      have hlk : (xs.take k).length ≤ k := List.length_take_le _ _
      have HSB := Lib.hid (sizesF_bound (xs.take k))
      have HCL := Lib.hid (classK_le v.hect)
      have hg : w1.heap.size < wr.heap.size := (hM.ints .here).till _ ⟨_, rfl, rfl⟩
      go_wp2
      obtain ⟨wo, hwo⟩ : ∃ wo, (wr.alloc (.cells #[.int .i64 v.day, .int .i64 v.cause, .int .i64 v.hect, .int .i64 v.hours] 33)) = wo := ⟨_, rfl⟩
      have hMo : Mem w.heap.size w wo [rowE wr.heap.size 33 #[.int .i64 v.day, .int .i64 v.cause, .int .i64 v.hect, .int .i64 v.hours], intE (some ⟨w1.heap.size, 0, none⟩) 5 5 (sizesF (xs.take k))] := by
        rw [← hwo]
        (repeat' (first | with_reducible exact hM | with_reducible exact hMp | with_reducible apply Mem.drew | with_reducible apply Mem.drewN | with_reducible apply Mem.alloc | with_reducible apply Mem.set | with_reducible exact Sto.row | ((with_reducible refine Sto.rowEq2 ?_ ?_); omega; rfl) | ((with_reducible refine Sto.rowEq ?_); omega) | with_reducible apply Sto.int | with_reducible apply Sto.there | with_reducible assumption | (unfold I64; omega) | (with_reducible (have hMx := Mem.undrew hM; exact hMx)) | (with_reducible (have hMx := Mem.undrew hMp; exact hMx))))
      rw [hwo]
      clear hwo hc0 hc1 hc2 hc3 hM
      obtain ⟨k0, f0, l0⟩ := hMo.row .here
      go_loop [7, 8] (fun cls bd => ∃ q : Nat, q ≤ 4 ∧ cls = .int .i64 q ∧ bd = .int .i64 (limK q) ∧ q ≤ classK v.hect) (fun cls _ => 4 - (intOf cls).toNat)
      case atStart => exact ⟨0, by omega, rfl, rfl, by omega⟩
      case round =>
        obtain ⟨q, hq, rfl, rfl, hcq⟩ := hrel
        have hlp := limK_pos q
        have hls := fun e => limK_succ (k := q) e
        have hcs := fun e1 e2 => classK_lt (h := v.hect) (k := q) e1 hcq e2
        have hce := fun e1 e2 => classK_ge (h := v.hect) (k := q) e1 hcq e2
        obtain ⟨l, hl⟩ : ∃ l, limK q = l := ⟨_, rfl⟩
        rw [hl] at hlp hls hcs hce ⊢
        have HS := Lib.hid hls; clear hls
        have HC1 := Lib.hid hcs; clear hcs
        have HC2 := Lib.hid hce; clear hce
        have HCQ := Lib.hid hcq; clear hcq
        clear hl
        obtain ⟨l0', l1⟩ := hlp
        by_cases hin : q < 4 ∧ l ≤ v.hect
        · obtain ⟨hq4, hge⟩ := hin
          go_wp2
          go_round
          case rel => exact ⟨q + 1, by omega, by go_num, by rw [HS.out hq4, Int.mul_comm], HC2.out hq4 hge⟩
          case measure => simp [intOf]; omega
        · have HQ : Hid (classK v.hect = q) := by
            show _ = _
            by_cases hq4 : q < 4
            · exact HC1.out hq4 (by omega)
            · have := HCL.out; have := HCQ.out; omega
          have hb2 := HSB.out q
          have hdk := (hMo.ints (.there .here)).cellAt (k := q) (by omega)
          have hfk := (hMo.ints (.there .here)).freeAt q
          obtain ⟨t, ht⟩ : ∃ t, (sizesF (xs.take k)).getD q 0 = t := ⟨_, rfl⟩
          rw [ht] at hdk hb2
          have HT := Lib.hid ht; clear ht
          obtain ⟨t0, t1⟩ := hb2
          have fin : ∀ W : World, Mem w.heap.size w W [rowE wr.heap.size 33 #[.int .i64 v.day, .int .i64 v.cause, .int .i64 v.hect, .int .i64 v.hours], intE (some ⟨w1.heap.size, 0, none⟩) 5 5 ((sizesF (xs.take k)).set q (t + 1))] → Mem w.heap.size w W [intE (some ⟨w1.heap.size, 0, none⟩) 5 5 (sizesF (xs.take (k + 1)))] := by
            intro W hW
            rw [HTK.out, sizesF_snoc, bump, HQ.out, HT.out]
            exact hW.tail
          have FIN := Lib.hid fin; clear fin
          by_cases hq4 : q < 4
          · have hlt2 : v.hect < l := by omega
            clear hin
            go_wp2
            go_roundw
            case rel =>
              refine ⟨k + 1, by omega, by go_num, FIN.out _ ?_⟩
              (repeat' (first | with_reducible exact hMo | with_reducible exact hMp | with_reducible apply Mem.drew | with_reducible apply Mem.drewN | with_reducible apply Mem.alloc | with_reducible apply Mem.set | with_reducible exact Sto.row | ((with_reducible refine Sto.rowEq2 ?_ ?_); omega; rfl) | ((with_reducible refine Sto.rowEq ?_); omega) | with_reducible apply Sto.int | with_reducible apply Sto.there | with_reducible assumption | (unfold I64; omega) | (with_reducible (have hMx := Mem.undrew hMo; exact hMx)) | (with_reducible (have hMx := Mem.undrew hMp; exact hMx))))
            case measure => simp [intOf]; omega
          · clear hin
            go_wp2
            go_roundw
            case rel =>
              refine ⟨k + 1, by omega, by go_num, FIN.out _ ?_⟩
              (repeat' (first | with_reducible exact hMo | with_reducible exact hMp | with_reducible apply Mem.drew | with_reducible apply Mem.drewN | with_reducible apply Mem.alloc | with_reducible apply Mem.set | with_reducible exact Sto.row | ((with_reducible refine Sto.rowEq2 ?_ ?_); omega; rfl) | ((with_reducible refine Sto.rowEq ?_); omega) | with_reducible apply Sto.int | with_reducible apply Sto.there | with_reducible assumption | (unfold I64; omega) | (with_reducible (have hMx := Mem.undrew hMo; exact hMx)) | (with_reducible (have hMx := Mem.undrew hMp; exact hMx))))
            case measure => simp [intOf]; omega
    · obtain rfl : k = n := by omega
      rw [List.take_of_length_le (by rw [HL.out]; exact Nat.le_refl _)] at hM
      go_wp2
      go_ret2
      exact ⟨_, _, _, by rw [HF.out]; rfl, by rw [HF.out]; exact hM⟩
end Go.Proofs.YtpoabdmapbdmfaaDoor

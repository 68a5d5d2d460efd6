/-
  The text of a season: both sides.
-/
import Derived.Test.YtpoabdmapbdmfaaDoorPRecN
import Derived.Test.YtpoabdmapbdmfaaDoorPLargestS
/-
  The text of a season: both sides.
-/
namespace Go.Proofs.YtpoabdmapbdmfaaDoor
set_option linter.unusedSimpArgs false
set_option linter.unusedVariables false
open Go.RowKit

def countB (n : Nat) (o m : Bs) : Bs := if n = 1 then [49, 32] ++ o else Lib.decDigits n ++ [32] ++ m
theorem countB_len {n : Nat} {o m : Bs} (hn : n ≤ 99999999) (ho : o.length ≤ 20) (hm : m.length ≤ 20) : (countB n o m).length ≤ 60 := by
  have := digits_len (n := n) (by omega)
  unfold countB
  split
  · simp; omega
  · simp; omega
def fireW : Bs := [102, 105, 114, 101]
def firesW : Bs := [102, 105, 114, 101, 115]
def hectW : Bs := [104, 101, 99, 116, 97, 114, 101]
def hectsW : Bs := [104, 101, 99, 116, 97, 114, 101, 115]
def commaW : Bs := [44, 32]
def largeW : Bs := [44, 32, 116, 104, 101, 32, 108, 97, 114, 103, 101, 115, 116, 32, 111, 110, 32, 100, 97, 121, 32]
def dotW : Bs := [46]
def noneW : Bs := [78, 111, 32, 102, 105, 114, 101, 115, 46]
theorem fireW_eq : (⟨#[102, 105, 114, 101]⟩ : ByteArray) = bsA fireW := rfl
theorem firesW_eq : (⟨#[102, 105, 114, 101, 115]⟩ : ByteArray) = bsA firesW := rfl
theorem hectW_eq : (⟨#[104, 101, 99, 116, 97, 114, 101]⟩ : ByteArray) = bsA hectW := rfl
theorem hectsW_eq : (⟨#[104, 101, 99, 116, 97, 114, 101, 115]⟩ : ByteArray) = bsA hectsW := rfl
theorem commaW_eq : (⟨#[44, 32]⟩ : ByteArray) = bsA commaW := rfl
theorem largeW_eq : (⟨#[44, 32, 116, 104, 101, 32, 108, 97, 114, 103, 101, 115, 116, 32, 111, 110, 32, 100, 97, 121, 32]⟩ : ByteArray) = bsA largeW := rfl
theorem dotW_eq : (⟨#[46]⟩ : ByteArray) = bsA dotW := rfl
def oneW : Bs := [49, 32]
def blankW : Bs := [32]
theorem oneW_eq : (⟨#[49, 32]⟩ : ByteArray) = bsA oneW := rfl
theorem blankW_eq : (⟨#[32]⟩ : ByteArray) = bsA blankW := rfl

theorem itoaI_any (n : Nat) (w : World) (ht : Tab w) (hn : n ≤ 9223372036854775807) : Calls Tryd.prog 56 #[.int .i64 n] w fun e w' => e = .returned (.string (bsA (Lib.decDigits n))) ∧ Below w.heap.size w w' := by
  have hM := Mem.start w
  have HT := Lib.hid ht; clear ht
  go_enter Tryd.func56, Tryd.ntmps56
  go_wp2_with fail
  apply Mem.atA
  · (repeat' (first | with_reducible exact hM | with_reducible exact hMp | with_reducible apply Mem.drew | with_reducible apply Mem.drewN | with_reducible apply Mem.alloc | with_reducible apply Mem.set | with_reducible exact Sto.row | ((with_reducible refine Sto.rowEq2 ?_ ?_); omega; rfl) | ((with_reducible refine Sto.rowEq ?_); omega) | with_reducible apply Sto.int | with_reducible apply Sto.there | with_reducible assumption | (unfold I64; omega) | (with_reducible (have hMx := Mem.undrew hM; exact hMx)) | (with_reducible (have hMx := Mem.undrew hMp; exact hMx))))
  clear hM
  intro wst hM
  (try simp only [World.size_alloc, World.size_setCell, World.heap_drewN, heapDrew, Nat.add_assoc, Nat.reduceAdd, List.setIfInBounds_toArray, List.set_cons_zero, List.set_cons_succ, List.cons_append, List.nil_append] at hM)
  (first | refine (itoa_any n _ (HT.out.ext hM.below) (by omega)).mono ?_)
  rintro e wc1 ⟨rfl, hb⟩
  replace hM := hM.ext hb
  clear hb
  go_wp2
  go_ret
  exact ⟨rfl, (by apply Mem.below; (repeat' (first | with_reducible exact hM | with_reducible exact hMp | with_reducible apply Mem.drew | with_reducible apply Mem.drewN | with_reducible apply Mem.alloc | with_reducible apply Mem.set | with_reducible exact Sto.row | ((with_reducible refine Sto.rowEq2 ?_ ?_); omega; rfl) | ((with_reducible refine Sto.rowEq ?_); omega) | with_reducible apply Sto.int | with_reducible apply Sto.there | with_reducible assumption | (unfold I64; omega) | (with_reducible (have hMx := Mem.undrew hM; exact hMx)) | (with_reducible (have hMx := Mem.undrew hMp; exact hMx)))))⟩

set_option maxRecDepth 100000 in
set_option maxHeartbeats 4000000 in
theorem counted_any (n : Nat) (o m : Bs) (w : World) (ht : Tab w) (hn : n ≤ 99999999) (ho : o.length ≤ 20) (hm : m.length ≤ 20) :
    Calls Tryd.prog 55 #[.int .i64 n, .string (bsA o), .string (bsA m)] w fun e w' => e = .returned (.string (bsA (countB n o m))) ∧ Below w.heap.size w w' := by
  have hM := Mem.start w
  have HT := Lib.hid ht; clear ht
  have S1 := bsA_size
  have S2 := bsA_app
  have C1 := oneW_eq
  have C2 := blankW_eq
  have L1 : oneW.length = 2 := rfl
  have L2 : blankW.length = 1 := rfl
  by_cases h1 : n = 1
  · subst h1
    have HR := Lib.hid (show countB 1 o m = oneW ++ o from rfl)
    have hcat : ¬ 9223372036854775807 < oneW.length + o.length := by omega
    go_enter Tryd.func55, Tryd.ntmps55
    go_wp2
    go_ret
    exact ⟨by rw [HR.out]; rfl, (by apply Mem.below; (repeat' (first | with_reducible exact hM | with_reducible exact hMp | with_reducible apply Mem.drew | with_reducible apply Mem.drewN | with_reducible apply Mem.alloc | with_reducible apply Mem.set | with_reducible exact Sto.row | ((with_reducible refine Sto.rowEq2 ?_ ?_); omega; rfl) | ((with_reducible refine Sto.rowEq ?_); omega) | with_reducible apply Sto.int | with_reducible apply Sto.there | with_reducible assumption | (unfold I64; omega) | (with_reducible (have hMx := Mem.undrew hM; exact hMx)) | (with_reducible (have hMx := Mem.undrew hMp; exact hMx)))))⟩
  · have HR := Lib.hid (show countB n o m = Lib.decDigits n ++ (blankW ++ m) by rw [countB, if_neg h1, List.append_assoc]; rfl)
    have hd := digits_len (n := n) (by omega)
    have hn1 : ¬ ((n : Int) = 1) := by omega
    have HI := Lib.hid (fun w ht => itoaI_any n w ht (by omega))
    generalize Lib.decDigits n = d at hd HR HI
    have hcat : ¬ 9223372036854775807 < d.length + blankW.length := by omega
    have hcat2 : ¬ 9223372036854775807 < (d ++ blankW).length + m.length := by rw [List.length_append]; omega
    go_enter Tryd.func55, Tryd.ntmps55
    go_wp2_with fail
    apply Mem.atA
    · (repeat' (first | with_reducible exact hM | with_reducible exact hMp | with_reducible apply Mem.drew | with_reducible apply Mem.drewN | with_reducible apply Mem.alloc | with_reducible apply Mem.set | with_reducible exact Sto.row | ((with_reducible refine Sto.rowEq2 ?_ ?_); omega; rfl) | ((with_reducible refine Sto.rowEq ?_); omega) | with_reducible apply Sto.int | with_reducible apply Sto.there | with_reducible assumption | (unfold I64; omega) | (with_reducible (have hMx := Mem.undrew hM; exact hMx)) | (with_reducible (have hMx := Mem.undrew hMp; exact hMx))))
    clear hM
    intro wst hM
    (try simp only [World.size_alloc, World.size_setCell, World.heap_drewN, heapDrew, Nat.add_assoc, Nat.reduceAdd, List.setIfInBounds_toArray, List.set_cons_zero, List.set_cons_succ, List.cons_append, List.nil_append] at hM)
    (first | refine (HI.out _ (HT.out.ext hM.below)).mono ?_)
    rintro e wc2 ⟨rfl, hb⟩
    replace hM := hM.ext hb
    clear hb
    go_wp2
    go_ret
    exact ⟨by rw [HR.out]; rfl, (by apply Mem.below; (repeat' (first | with_reducible exact hM | with_reducible exact hMp | with_reducible apply Mem.drew | with_reducible apply Mem.drewN | with_reducible apply Mem.alloc | with_reducible apply Mem.set | with_reducible exact Sto.row | ((with_reducible refine Sto.rowEq2 ?_ ?_); omega; rfl) | ((with_reducible refine Sto.rowEq ?_); omega) | with_reducible apply Sto.int | with_reducible apply Sto.there | with_reducible assumption | (unfold I64; omega) | (with_reducible (have hMx := Mem.undrew hM; exact hMx)) | (with_reducible (have hMx := Mem.undrew hMp; exact hMx)))))⟩
set_option maxRecDepth 100000 in
set_option maxHeartbeats 4000000 in
theorem l18Count_any (n : Nat) (o m : Bs) (w : World) (hn : n ≤ 99999999) (ho : o.length ≤ 20) (hm : m.length ≤ 20) :
    Calls Tryd.prog 59 #[.int .i64 n, .string (bsA o), .string (bsA m)] w fun e w' => e = .returned (.string (bsA (countB n o m))) ∧ Below w.heap.size w w' := by
  have hM := Mem.start w
  have S1 := bsA_size
  have S2 := bsA_app
  have C1 := oneW_eq
  have C2 := blankW_eq
  have L1 : oneW.length = 2 := rfl
  have L2 : blankW.length = 1 := rfl
  by_cases h1 : n = 1
  · subst h1
    have HR := Lib.hid (show countB 1 o m = oneW ++ o from rfl)
    have hcat : ¬ 9223372036854775807 < oneW.length + o.length := by omega
    go_enter Tryd.func59, Tryd.ntmps59
    go_wp2
    go_ret
    exact ⟨by rw [HR.out]; rfl, (by apply Mem.below; (repeat' (first | with_reducible exact hM | with_reducible exact hMp | with_reducible apply Mem.drew | with_reducible apply Mem.drewN | with_reducible apply Mem.alloc | with_reducible apply Mem.set | with_reducible exact Sto.row | ((with_reducible refine Sto.rowEq2 ?_ ?_); omega; rfl) | ((with_reducible refine Sto.rowEq ?_); omega) | with_reducible apply Sto.int | with_reducible apply Sto.there | with_reducible assumption | (unfold I64; omega) | (with_reducible (have hMx := Mem.undrew hM; exact hMx)) | (with_reducible (have hMx := Mem.undrew hMp; exact hMx)))))⟩
  · have HR := Lib.hid (show countB n o m = Lib.decDigits n ++ (blankW ++ m) by rw [countB, if_neg h1, List.append_assoc]; rfl)
    have hd := digits_len (n := n) (by omega)
    have hn1 : ¬ ((n : Int) = 1) := by omega
    have HI := Lib.hid (fun w => l1Num_any n w (by omega))
    generalize Lib.decDigits n = d at hd HR HI
    have hcat : ¬ 9223372036854775807 < d.length + blankW.length := by omega
    have hcat2 : ¬ 9223372036854775807 < (d ++ blankW).length + m.length := by rw [List.length_append]; omega
    go_enter Tryd.func59, Tryd.ntmps59
    go_wp2_with fail
    apply Mem.atA
    · (repeat' (first | with_reducible exact hM | with_reducible exact hMp | with_reducible apply Mem.drew | with_reducible apply Mem.drewN | with_reducible apply Mem.alloc | with_reducible apply Mem.set | with_reducible exact Sto.row | ((with_reducible refine Sto.rowEq2 ?_ ?_); omega; rfl) | ((with_reducible refine Sto.rowEq ?_); omega) | with_reducible apply Sto.int | with_reducible apply Sto.there | with_reducible assumption | (unfold I64; omega) | (with_reducible (have hMx := Mem.undrew hM; exact hMx)) | (with_reducible (have hMx := Mem.undrew hMp; exact hMx))))
    clear hM
    intro wst hM
    (try simp only [World.size_alloc, World.size_setCell, World.heap_drewN, heapDrew, Nat.add_assoc, Nat.reduceAdd, List.setIfInBounds_toArray, List.set_cons_zero, List.set_cons_succ, List.cons_append, List.nil_append] at hM)
    (first | refine (HI.out _).mono ?_)
    rintro e wc3 ⟨rfl, hb⟩
    replace hM := hM.ext hb
    clear hb
    go_wp2
    go_ret
    exact ⟨by rw [HR.out]; rfl, (by apply Mem.below; (repeat' (first | with_reducible exact hM | with_reducible exact hMp | with_reducible apply Mem.drew | with_reducible apply Mem.drewN | with_reducible apply Mem.alloc | with_reducible apply Mem.set | with_reducible exact Sto.row | ((with_reducible refine Sto.rowEq2 ?_ ?_); omega; rfl) | ((with_reducible refine Sto.rowEq ?_); omega) | with_reducible apply Sto.int | with_reducible apply Sto.there | with_reducible assumption | (unfold I64; omega) | (with_reducible (have hMx := Mem.undrew hM; exact hMx)) | (with_reducible (have hMx := Mem.undrew hMp; exact hMx)))))⟩

/-- the day of the first of the greatest -/
def topDay (xs : List FireI) : Int := (xs.getD ((largeL xs).getD 0 0).toNat FireI.zero).day
def seaB (xs : List FireI) : Bs := countB xs.length fireW firesW ++ commaW ++ countB (sumH xs).toNat hectW hectsW ++ largeW ++ Lib.decDigits (topDay xs).toNat ++ dotW
def seaV (xs : List FireI) : Value := if seasonB xs then (if xs.length = 0 then .tuple #[.string (bsA noneW), .bool true] else .tuple #[.string (bsA (seaB xs)), .bool true]) else .tuple #[.string (bsA []), .bool false]

set_option maxRecDepth 100000 in
set_option maxHeartbeats 8000000 in
theorem implSea_any (a : Option Addr) (n c : Nat) (xs : List FireI) (w : World) (h : Rd FFire w a n c xs) (ht : Tab w) :
    Calls Tryd.prog 15 #[.slice a n c] w fun e w' => e = .returned (seaV xs) ∧ Below w.heap.size w w' := by
  have hM := Mem.start w
  have HT := Lib.hid ht; clear ht
  have hr := h.nroom
  have HL := Lib.hid h.len
  have S1 := bsA_size
  have S2 := bsA_app
  cases hs : seasonB xs
  · have HV := Lib.hid (show seaV xs = .tuple #[.string (bsA []), .bool false] by rw [seaV, hs]; rfl)
    have HS := Lib.hid hs; clear hs
    go_enter Tryd.func15, Tryd.ntmps15
    go_wp2_with fail
    apply Mem.atA
    · (repeat' (first | with_reducible exact hM | with_reducible exact hMp | with_reducible apply Mem.drew | with_reducible apply Mem.drewN | with_reducible apply Mem.alloc | with_reducible apply Mem.set | with_reducible exact Sto.row | ((with_reducible refine Sto.rowEq2 ?_ ?_); omega; rfl) | ((with_reducible refine Sto.rowEq ?_); omega) | with_reducible apply Sto.int | with_reducible apply Sto.there | with_reducible assumption | (unfold I64; omega) | (with_reducible (have hMx := Mem.undrew hM; exact hMx)) | (with_reducible (have hMx := Mem.undrew hMp; exact hMx))))
    clear hM
    intro wst hM
    (try simp only [World.size_alloc, World.size_setCell, World.heap_drewN, heapDrew, Nat.add_assoc, Nat.reduceAdd, List.setIfInBounds_toArray, List.set_cons_zero, List.set_cons_succ, List.cons_append, List.nil_append] at hM)
    (first | refine (isSeason_any a n c xs _ (h.ext hM.below)).mono ?_)
    rw [HS.out]
    rintro e wc4 ⟨rfl, hb⟩
    replace hM := hM.ext hb
    clear hb
    go_wp2
    go_ret2
    exact ⟨by rw [HV.out]; rfl, (by apply Mem.below; (repeat' (first | with_reducible exact hM | with_reducible exact hMp | with_reducible apply Mem.drew | with_reducible apply Mem.drewN | with_reducible apply Mem.alloc | with_reducible apply Mem.set | with_reducible exact Sto.row | ((with_reducible refine Sto.rowEq2 ?_ ?_); omega; rfl) | ((with_reducible refine Sto.rowEq ?_); omega) | with_reducible apply Sto.int | with_reducible apply Sto.there | with_reducible assumption | (unfold I64; omega) | (with_reducible (have hMx := Mem.undrew hM; exact hMx)) | (with_reducible (have hMx := Mem.undrew hMp; exact hMx)))))⟩
  obtain ⟨h15, hv⟩ := seasonB_true hs
  have HS := Lib.hid hs
  have hn15 : n ≤ 15 := by rw [HL.out] at h15; exact h15
  by_cases h0 : n = 0
  · have HV := Lib.hid (show seaV xs = .tuple #[.string (bsA noneW), .bool true] by rw [seaV, hs, if_pos rfl, if_pos (by rw [HL.out]; exact h0)])
    clear hs hv
    subst h0
    go_enter Tryd.func15, Tryd.ntmps15
    go_wp2_with fail
    apply Mem.atA
    · (repeat' (first | with_reducible exact hM | with_reducible exact hMp | with_reducible apply Mem.drew | with_reducible apply Mem.drewN | with_reducible apply Mem.alloc | with_reducible apply Mem.set | with_reducible exact Sto.row | ((with_reducible refine Sto.rowEq2 ?_ ?_); omega; rfl) | ((with_reducible refine Sto.rowEq ?_); omega) | with_reducible apply Sto.int | with_reducible apply Sto.there | with_reducible assumption | (unfold I64; omega) | (with_reducible (have hMx := Mem.undrew hM; exact hMx)) | (with_reducible (have hMx := Mem.undrew hMp; exact hMx))))
    clear hM
    intro wst hM
    (try simp only [World.size_alloc, World.size_setCell, World.heap_drewN, heapDrew, Nat.add_assoc, Nat.reduceAdd, List.setIfInBounds_toArray, List.set_cons_zero, List.set_cons_succ, List.cons_append, List.nil_append] at hM)
    (first | refine (isSeason_any a 0 c xs _ (h.ext hM.below)).mono ?_)
    rw [HS.out]
    rintro e wc5 ⟨rfl, hb⟩
    replace hM := hM.ext hb
    clear hb
    go_wp2
    go_ret2
    exact ⟨by rw [HV.out]; rfl, (by apply Mem.below; (repeat' (first | with_reducible exact hM | with_reducible exact hMp | with_reducible apply Mem.drew | with_reducible apply Mem.drewN | with_reducible apply Mem.alloc | with_reducible apply Mem.set | with_reducible exact Sto.row | ((with_reducible refine Sto.rowEq2 ?_ ?_); omega; rfl) | ((with_reducible refine Sto.rowEq ?_); omega) | with_reducible apply Sto.int | with_reducible apply Sto.there | with_reducible assumption | (unfold I64; omega) | (with_reducible (have hMx := Mem.undrew hM; exact hMx)) | (with_reducible (have hMx := Mem.undrew hMp; exact hMx)))))⟩
  have HV := Lib.hid (show seaV xs = .tuple #[.string (bsA (seaB xs)), .bool true] by rw [seaV, hs, if_pos rfl, if_neg (by rw [HL.out]; exact h0)])
  clear hs
  obtain ⟨t0, t1⟩ := sumH_bound hv
  obtain ⟨t, ht⟩ := Int.eq_ofNat_of_zero_le t0
  have HH := Lib.hid (fun w (h : Rd FFire w a n c xs) => hectares_any a n c xs w h hn15 hv)
  have hlg : (largeL xs).length = n := by rw [largeL_length, HL.out]
  have hpos : 0 < (largeL xs).length := by omega
  have hmem := outS_mem (gtH xs) xs.length ((largeL xs).getD 0 0) (by rw [List.getD_eq_getElem?_getD, List.getElem?_eq_getElem hpos]; exact List.getElem_mem _)
  obtain ⟨j, hj⟩ := Int.eq_ofNat_of_zero_le hmem.1
  have hjn : j < n := by have := hmem.2; rw [hj, HL.out] at this; omega
  have hfj : xs.getD j FireI.zero ∈ xs := by rw [List.getD_eq_getElem?_getD, List.getElem?_eq_getElem (by rw [HL.out]; exact hjn)]; exact List.getElem_mem _
  obtain ⟨d0, d1⟩ := (fireB_true (hv _ hfj)).1
  obtain ⟨d, hd⟩ := Int.eq_ofNat_of_zero_le d0
  have HB := Lib.hid (show seaB xs = countB n fireW firesW ++ (commaW ++ (countB t hectW hectsW ++ (largeW ++ (Lib.decDigits d ++ dotW)))) by
    rw [seaB, topDay, hj, Int.toNat_natCast, hd, Int.toNat_natCast, ht, Int.toNat_natCast, HL.out]
    simp only [List.append_assoc])
  rw [ht] at HH t1
  have hl15 : (100000 : Int) * xs.length ≤ 1500000 := by omega
  have ht8 : t ≤ 99999999 := by omega
  rw [hd] at d1
  have hdd := digits_len (n := d) (by omega)
  have HJ := Lib.hid hj
  have HD := Lib.hid hd
  clear hj hd ht t0 t1 hmem hfj hv hl15 d0
  have hA := countB_len (n := n) (o := fireW) (m := firesW) (by omega) (by decide) (by decide)
  have hB := countB_len (n := t) (o := hectW) (m := hectsW) (by omega) (by decide) (by decide)
  have HA := Lib.hid (fun w ht => counted_any n fireW firesW w ht (by omega) (by decide) (by decide))
  have HB2 := Lib.hid (fun w ht => counted_any t hectW hectsW w ht (by omega) (by decide) (by decide))
  have HI := Lib.hid (fun w ht => itoaI_any d w ht (by omega))
  generalize countB n fireW firesW = x at hA HA HB
  generalize countB t hectW hectsW = y at hB HB2 HB
  generalize Lib.decDigits d = z at hdd HI HB
  have C1 := fireW_eq
  have C2 := firesW_eq
  have C3 := hectW_eq
  have C4 := hectsW_eq
  have C5 := commaW_eq
  have C6 := largeW_eq
  have C7 := dotW_eq
  have L1 : commaW.length = 2 := rfl
  have L2 : largeW.length = 21 := rfl
  have L3 : dotW.length = 1 := rfl
  have k1 : ¬ 9223372036854775807 < x.length + commaW.length := by omega
  have k2 : ¬ 9223372036854775807 < (x ++ commaW).length + y.length := by simp only [List.length_append]; omega
  have k3 : ¬ 9223372036854775807 < (x ++ commaW ++ y).length + largeW.length := by simp only [List.length_append]; omega
  have k4 : ¬ 9223372036854775807 < (x ++ commaW ++ y ++ largeW).length + z.length := by simp only [List.length_append]; omega
  have k5 : ¬ 9223372036854775807 < (x ++ commaW ++ y ++ largeW ++ z).length + dotW.length := by simp only [List.length_append]; omega
  have hn0 : ¬ ((n : Int) = 0) := by omega
  go_enter Tryd.func15, Tryd.ntmps15
  go_wp2_with fail
  apply Mem.atA
  · (repeat' (first | with_reducible exact hM | with_reducible exact hMp | with_reducible apply Mem.drew | with_reducible apply Mem.drewN | with_reducible apply Mem.alloc | with_reducible apply Mem.set | with_reducible exact Sto.row | ((with_reducible refine Sto.rowEq2 ?_ ?_); omega; rfl) | ((with_reducible refine Sto.rowEq ?_); omega) | with_reducible apply Sto.int | with_reducible apply Sto.there | with_reducible assumption | (unfold I64; omega) | (with_reducible (have hMx := Mem.undrew hM; exact hMx)) | (with_reducible (have hMx := Mem.undrew hMp; exact hMx))))
  clear hM
  intro wst hM
  (try simp only [World.size_alloc, World.size_setCell, World.heap_drewN, heapDrew, Nat.add_assoc, Nat.reduceAdd, List.setIfInBounds_toArray, List.set_cons_zero, List.set_cons_succ, List.cons_append, List.nil_append] at hM)
  (first | refine (isSeason_any a n c xs _ (h.ext hM.below)).mono ?_)
  rw [HS.out]
  rintro e wc6 ⟨rfl, hb⟩
  replace hM := hM.ext hb
  clear hb
  go_wp2_with fail
  apply Mem.atA
  · (repeat' (first | with_reducible exact hM | with_reducible exact hMp | with_reducible apply Mem.drew | with_reducible apply Mem.drewN | with_reducible apply Mem.alloc | with_reducible apply Mem.set | with_reducible exact Sto.row | ((with_reducible refine Sto.rowEq2 ?_ ?_); omega; rfl) | ((with_reducible refine Sto.rowEq ?_); omega) | with_reducible apply Sto.int | with_reducible apply Sto.there | with_reducible assumption | (unfold I64; omega) | (with_reducible (have hMx := Mem.undrew hM; exact hMx)) | (with_reducible (have hMx := Mem.undrew hMp; exact hMx))))
  clear hM
  intro wst hM
  (try simp only [World.size_alloc, World.size_setCell, World.heap_drewN, heapDrew, Nat.add_assoc, Nat.reduceAdd, List.setIfInBounds_toArray, List.set_cons_zero, List.set_cons_succ, List.cons_append, List.nil_append] at hM)
  (first | refine (HA.out _ (HT.out.ext hM.below)).mono ?_)
  rintro e wc7 ⟨rfl, hb⟩
  replace hM := hM.ext hb
  clear hb
  go_wp2_with fail
  apply Mem.atA
  · (repeat' (first | with_reducible exact hM | with_reducible exact hMp | with_reducible apply Mem.drew | with_reducible apply Mem.drewN | with_reducible apply Mem.alloc | with_reducible apply Mem.set | with_reducible exact Sto.row | ((with_reducible refine Sto.rowEq2 ?_ ?_); omega; rfl) | ((with_reducible refine Sto.rowEq ?_); omega) | with_reducible apply Sto.int | with_reducible apply Sto.there | with_reducible assumption | (unfold I64; omega) | (with_reducible (have hMx := Mem.undrew hM; exact hMx)) | (with_reducible (have hMx := Mem.undrew hMp; exact hMx))))
  clear hM
  intro wst hM
  (try simp only [World.size_alloc, World.size_setCell, World.heap_drewN, heapDrew, Nat.add_assoc, Nat.reduceAdd, List.setIfInBounds_toArray, List.set_cons_zero, List.set_cons_succ, List.cons_append, List.nil_append] at hM)
  (first | refine (HH.out _ (h.ext hM.below)).mono ?_)
  rintro e wc8 ⟨rfl, hb⟩
  replace hM := hM.ext hb
  clear hb
  go_wp2_with fail
  apply Mem.atA
  · (repeat' (first | with_reducible exact hM | with_reducible exact hMp | with_reducible apply Mem.drew | with_reducible apply Mem.drewN | with_reducible apply Mem.alloc | with_reducible apply Mem.set | with_reducible exact Sto.row | ((with_reducible refine Sto.rowEq2 ?_ ?_); omega; rfl) | ((with_reducible refine Sto.rowEq ?_); omega) | with_reducible apply Sto.int | with_reducible apply Sto.there | with_reducible assumption | (unfold I64; omega) | (with_reducible (have hMx := Mem.undrew hM; exact hMx)) | (with_reducible (have hMx := Mem.undrew hMp; exact hMx))))
  clear hM
  intro wst hM
  (try simp only [World.size_alloc, World.size_setCell, World.heap_drewN, heapDrew, Nat.add_assoc, Nat.reduceAdd, List.setIfInBounds_toArray, List.set_cons_zero, List.set_cons_succ, List.cons_append, List.nil_append] at hM)
  (first | refine (HB2.out _ (HT.out.ext hM.below)).mono ?_)
  rintro e wc9 ⟨rfl, hb⟩
  replace hM := hM.ext hb
  clear hb
  go_wp2_with fail
  apply Mem.atA
  · (repeat' (first | with_reducible exact hM | with_reducible exact hMp | with_reducible apply Mem.drew | with_reducible apply Mem.drewN | with_reducible apply Mem.alloc | with_reducible apply Mem.set | with_reducible exact Sto.row | ((with_reducible refine Sto.rowEq2 ?_ ?_); omega; rfl) | ((with_reducible refine Sto.rowEq ?_); omega) | with_reducible apply Sto.int | with_reducible apply Sto.there | with_reducible assumption | (unfold I64; omega) | (with_reducible (have hMx := Mem.undrew hM; exact hMx)) | (with_reducible (have hMx := Mem.undrew hMp; exact hMx))))
  clear hM
  intro wst hM
  (try simp only [World.size_alloc, World.size_setCell, World.heap_drewN, heapDrew, Nat.add_assoc, Nat.reduceAdd, List.setIfInBounds_toArray, List.set_cons_zero, List.set_cons_succ, List.cons_append, List.nil_append] at hM)
  (first | refine (implLargest_any a n c xs _ (h.ext hM.below) hn15).mono ?_)
  rintro e wz ⟨a1, c1, rfl, hm⟩
  replace hM := hM.join hm
  clear hm
  (try simp only [World.size_alloc, World.size_setCell, World.heap_drewN, heapDrew, Nat.add_assoc, Nat.reduceAdd, List.setIfInBounds_toArray, List.set_cons_zero, List.set_cons_succ, List.cons_append, List.nil_append] at hM)
  obtain ⟨g1, o1, rfl, hg1, hcell⟩ := ((hM.ints .here).ints).at' 0 (by omega)
  have hc0 := hcell 0 (by omega)
  rw [HJ.out] at hc0
  replace hc0 : wz.cell? ⟨g1, o1, none⟩ = some (.int .i64 j) := hc0
  clear hcell
  obtain ⟨b2, o2, rfl, _⟩ := (h.ext hM.below).at' _ hjn
  obtain ⟨hb2, hd0, -, -, -⟩ := (h.ext hM.below).cellFire hjn
  rw [HD.out] at hd0
  have i0 : (0 : Int) < (n : Int) := by omega
  have i1 : (j : Int) < (n : Int) := by omega
  go_wp2_with fail
  apply Mem.atA
  · (repeat' (first | with_reducible exact hM | with_reducible exact hMp | with_reducible apply Mem.drew | with_reducible apply Mem.drewN | with_reducible apply Mem.alloc | with_reducible apply Mem.set | with_reducible exact Sto.row | ((with_reducible refine Sto.rowEq2 ?_ ?_); omega; rfl) | ((with_reducible refine Sto.rowEq ?_); omega) | with_reducible apply Sto.int | with_reducible apply Sto.there | with_reducible assumption | (unfold I64; omega) | (with_reducible (have hMx := Mem.undrew hM; exact hMx)) | (with_reducible (have hMx := Mem.undrew hMp; exact hMx))))
  clear hM
  intro wst hM
  (try simp only [World.size_alloc, World.size_setCell, World.heap_drewN, heapDrew, Nat.add_assoc, Nat.reduceAdd, List.setIfInBounds_toArray, List.set_cons_zero, List.set_cons_succ, List.cons_append, List.nil_append] at hM)
  (first | refine (HI.out _ (HT.out.ext hM.below)).mono ?_)
  rintro e wc11 ⟨rfl, hb⟩
  replace hM := hM.ext hb
  clear hb
  go_wp2
  go_ret2
  exact ⟨by rw [HV.out, HB.out]; rfl, (by apply Mem.below; (repeat' (first | with_reducible exact hM | with_reducible exact hMp | with_reducible apply Mem.drew | with_reducible apply Mem.drewN | with_reducible apply Mem.alloc | with_reducible apply Mem.set | with_reducible exact Sto.row | ((with_reducible refine Sto.rowEq2 ?_ ?_); omega; rfl) | ((with_reducible refine Sto.rowEq ?_); omega) | with_reducible apply Sto.int | with_reducible apply Sto.there | with_reducible assumption | (unfold I64; omega) | (with_reducible (have hMx := Mem.undrew hM; exact hMx)) | (with_reducible (have hMx := Mem.undrew hMp; exact hMx)))))⟩

set_option maxRecDepth 100000 in
set_option maxHeartbeats 8000000 in
theorem specSea_any (a : Option Addr) (n c : Nat) (xs : List FireI) (w : World) (h : Rd FFire w a n c xs) :
    Calls Tryd.prog 16 #[.slice a n c] w fun e w' => e = .returned (seaV xs) ∧ Below w.heap.size w w' := by
  have hM := Mem.start w
  have hr := h.nroom
  have HL := Lib.hid h.len
  have S1 := bsA_size
  have S2 := bsA_app
  cases hs : seasonB xs
  · have HV := Lib.hid (show seaV xs = .tuple #[.string (bsA []), .bool false] by rw [seaV, hs]; rfl)
    have HS := Lib.hid hs; clear hs
    go_enter Tryd.func16, Tryd.ntmps16
    go_wp2_with fail
    apply Mem.atA
    · (repeat' (first | with_reducible exact hM | with_reducible exact hMp | with_reducible apply Mem.drew | with_reducible apply Mem.drewN | with_reducible apply Mem.alloc | with_reducible apply Mem.set | with_reducible exact Sto.row | ((with_reducible refine Sto.rowEq2 ?_ ?_); omega; rfl) | ((with_reducible refine Sto.rowEq ?_); omega) | with_reducible apply Sto.int | with_reducible apply Sto.there | with_reducible assumption | (unfold I64; omega) | (with_reducible (have hMx := Mem.undrew hM; exact hMx)) | (with_reducible (have hMx := Mem.undrew hMp; exact hMx))))
    clear hM
    intro wst hM
    (try simp only [World.size_alloc, World.size_setCell, World.heap_drewN, heapDrew, Nat.add_assoc, Nat.reduceAdd, List.setIfInBounds_toArray, List.set_cons_zero, List.set_cons_succ, List.cons_append, List.nil_append] at hM)
    (first | refine (l26Good_any a n c xs _ (h.ext hM.below)).mono ?_)
    rw [HS.out]
    rintro e wc12 ⟨rfl, hb⟩
    replace hM := hM.ext hb
    clear hb
    go_wp2
    go_ret2
    exact ⟨by rw [HV.out]; rfl, (by apply Mem.below; (repeat' (first | with_reducible exact hM | with_reducible exact hMp | with_reducible apply Mem.drew | with_reducible apply Mem.drewN | with_reducible apply Mem.alloc | with_reducible apply Mem.set | with_reducible exact Sto.row | ((with_reducible refine Sto.rowEq2 ?_ ?_); omega; rfl) | ((with_reducible refine Sto.rowEq ?_); omega) | with_reducible apply Sto.int | with_reducible apply Sto.there | with_reducible assumption | (unfold I64; omega) | (with_reducible (have hMx := Mem.undrew hM; exact hMx)) | (with_reducible (have hMx := Mem.undrew hMp; exact hMx)))))⟩
  obtain ⟨h15, hv⟩ := seasonB_true hs
  have HS := Lib.hid hs
  have hn15 : n ≤ 15 := by rw [HL.out] at h15; exact h15
  by_cases h0 : n = 0
  · have HV := Lib.hid (show seaV xs = .tuple #[.string (bsA noneW), .bool true] by rw [seaV, hs, if_pos rfl, if_pos (by rw [HL.out]; exact h0)])
    clear hs hv
    subst h0
    go_enter Tryd.func16, Tryd.ntmps16
    go_wp2_with fail
    apply Mem.atA
    · (repeat' (first | with_reducible exact hM | with_reducible exact hMp | with_reducible apply Mem.drew | with_reducible apply Mem.drewN | with_reducible apply Mem.alloc | with_reducible apply Mem.set | with_reducible exact Sto.row | ((with_reducible refine Sto.rowEq2 ?_ ?_); omega; rfl) | ((with_reducible refine Sto.rowEq ?_); omega) | with_reducible apply Sto.int | with_reducible apply Sto.there | with_reducible assumption | (unfold I64; omega) | (with_reducible (have hMx := Mem.undrew hM; exact hMx)) | (with_reducible (have hMx := Mem.undrew hMp; exact hMx))))
    clear hM
    intro wst hM
    (try simp only [World.size_alloc, World.size_setCell, World.heap_drewN, heapDrew, Nat.add_assoc, Nat.reduceAdd, List.setIfInBounds_toArray, List.set_cons_zero, List.set_cons_succ, List.cons_append, List.nil_append] at hM)
    (first | refine (l26Good_any a 0 c xs _ (h.ext hM.below)).mono ?_)
    rw [HS.out]
    rintro e wc13 ⟨rfl, hb⟩
    replace hM := hM.ext hb
    clear hb
    go_wp2
    go_ret2
    exact ⟨by rw [HV.out]; rfl, (by apply Mem.below; (repeat' (first | with_reducible exact hM | with_reducible exact hMp | with_reducible apply Mem.drew | with_reducible apply Mem.drewN | with_reducible apply Mem.alloc | with_reducible apply Mem.set | with_reducible exact Sto.row | ((with_reducible refine Sto.rowEq2 ?_ ?_); omega; rfl) | ((with_reducible refine Sto.rowEq ?_); omega) | with_reducible apply Sto.int | with_reducible apply Sto.there | with_reducible assumption | (unfold I64; omega) | (with_reducible (have hMx := Mem.undrew hM; exact hMx)) | (with_reducible (have hMx := Mem.undrew hMp; exact hMx)))))⟩
  have HV := Lib.hid (show seaV xs = .tuple #[.string (bsA (seaB xs)), .bool true] by rw [seaV, hs, if_pos rfl, if_neg (by rw [HL.out]; exact h0)])
  clear hs
  obtain ⟨t0, t1⟩ := sumH_bound hv
  obtain ⟨t, ht⟩ := Int.eq_ofNat_of_zero_le t0
  have HH := Lib.hid (fun w (h : Rd FFire w a n c xs) => l26Sum_any a n c xs w h hn15 hv)
  have hlg : (largeL xs).length = n := by rw [largeL_length, HL.out]
  have hpos : 0 < (largeL xs).length := by omega
  have hmem := outS_mem (gtH xs) xs.length ((largeL xs).getD 0 0) (by rw [List.getD_eq_getElem?_getD, List.getElem?_eq_getElem hpos]; exact List.getElem_mem _)
  obtain ⟨j, hj⟩ := Int.eq_ofNat_of_zero_le hmem.1
  have hjn : j < n := by have := hmem.2; rw [hj, HL.out] at this; omega
  have hfj : xs.getD j FireI.zero ∈ xs := by rw [List.getD_eq_getElem?_getD, List.getElem?_eq_getElem (by rw [HL.out]; exact hjn)]; exact List.getElem_mem _
  obtain ⟨d0, d1⟩ := (fireB_true (hv _ hfj)).1
  obtain ⟨d, hd⟩ := Int.eq_ofNat_of_zero_le d0
  have HB := Lib.hid (show seaB xs = countB n fireW firesW ++ (commaW ++ (countB t hectW hectsW ++ (largeW ++ (Lib.decDigits d ++ dotW)))) by
    rw [seaB, topDay, hj, Int.toNat_natCast, hd, Int.toNat_natCast, ht, Int.toNat_natCast, HL.out]
    simp only [List.append_assoc])
  rw [ht] at HH t1
  have hl15 : (100000 : Int) * xs.length ≤ 1500000 := by omega
  have ht8 : t ≤ 99999999 := by omega
  rw [hd] at d1
  have hdd := digits_len (n := d) (by omega)
  have HJ := Lib.hid hj
  have HD := Lib.hid hd
  clear hj hd ht t0 t1 hmem hfj hv hl15 d0
  have hA := countB_len (n := n) (o := fireW) (m := firesW) (by omega) (by decide) (by decide)
  have hB := countB_len (n := t) (o := hectW) (m := hectsW) (by omega) (by decide) (by decide)
  have HA := Lib.hid (fun w => l18Count_any n fireW firesW w (by omega) (by decide) (by decide))
  have HB2 := Lib.hid (fun w => l18Count_any t hectW hectsW w (by omega) (by decide) (by decide))
  have HI := Lib.hid (fun w => l1Num_any d w (by omega))
  generalize countB n fireW firesW = x at hA HA HB
  generalize countB t hectW hectsW = y at hB HB2 HB
  generalize Lib.decDigits d = z at hdd HI HB
  have C1 := fireW_eq
  have C2 := firesW_eq
  have C3 := hectW_eq
  have C4 := hectsW_eq
  have C5 := commaW_eq
  have C6 := largeW_eq
  have C7 := dotW_eq
  have L1 : commaW.length = 2 := rfl
  have L2 : largeW.length = 21 := rfl
  have L3 : dotW.length = 1 := rfl
  have k1 : ¬ 9223372036854775807 < x.length + commaW.length := by omega
  have k2 : ¬ 9223372036854775807 < (x ++ commaW).length + y.length := by simp only [List.length_append]; omega
  have k3 : ¬ 9223372036854775807 < (x ++ commaW ++ y).length + largeW.length := by simp only [List.length_append]; omega
  have k4 : ¬ 9223372036854775807 < (x ++ commaW ++ y ++ largeW).length + z.length := by simp only [List.length_append]; omega
  have k5 : ¬ 9223372036854775807 < (x ++ commaW ++ y ++ largeW ++ z).length + dotW.length := by simp only [List.length_append]; omega
  have hn0 : ¬ ((n : Int) = 0) := by omega
  go_enter Tryd.func16, Tryd.ntmps16
  go_wp2_with fail
  apply Mem.atA
  · (repeat' (first | with_reducible exact hM | with_reducible exact hMp | with_reducible apply Mem.drew | with_reducible apply Mem.drewN | with_reducible apply Mem.alloc | with_reducible apply Mem.set | with_reducible exact Sto.row | ((with_reducible refine Sto.rowEq2 ?_ ?_); omega; rfl) | ((with_reducible refine Sto.rowEq ?_); omega) | with_reducible apply Sto.int | with_reducible apply Sto.there | with_reducible assumption | (unfold I64; omega) | (with_reducible (have hMx := Mem.undrew hM; exact hMx)) | (with_reducible (have hMx := Mem.undrew hMp; exact hMx))))
  clear hM
  intro wst hM
  (try simp only [World.size_alloc, World.size_setCell, World.heap_drewN, heapDrew, Nat.add_assoc, Nat.reduceAdd, List.setIfInBounds_toArray, List.set_cons_zero, List.set_cons_succ, List.cons_append, List.nil_append] at hM)
  (first | refine (l26Good_any a n c xs _ (h.ext hM.below)).mono ?_)
  rw [HS.out]
  rintro e wc14 ⟨rfl, hb⟩
  replace hM := hM.ext hb
  clear hb
  go_wp2_with fail
  apply Mem.atA
  · (repeat' (first | with_reducible exact hM | with_reducible exact hMp | with_reducible apply Mem.drew | with_reducible apply Mem.drewN | with_reducible apply Mem.alloc | with_reducible apply Mem.set | with_reducible exact Sto.row | ((with_reducible refine Sto.rowEq2 ?_ ?_); omega; rfl) | ((with_reducible refine Sto.rowEq ?_); omega) | with_reducible apply Sto.int | with_reducible apply Sto.there | with_reducible assumption | (unfold I64; omega) | (with_reducible (have hMx := Mem.undrew hM; exact hMx)) | (with_reducible (have hMx := Mem.undrew hMp; exact hMx))))
  clear hM
  intro wst hM
  (try simp only [World.size_alloc, World.size_setCell, World.heap_drewN, heapDrew, Nat.add_assoc, Nat.reduceAdd, List.setIfInBounds_toArray, List.set_cons_zero, List.set_cons_succ, List.cons_append, List.nil_append] at hM)
  (first | refine (specLargest_any a n c xs _ (h.ext hM.below) hn15).mono ?_)
  rintro e wz ⟨a1, c1, rfl, hm⟩
  replace hM := hM.join hm
  clear hm
  (try simp only [World.size_alloc, World.size_setCell, World.heap_drewN, heapDrew, Nat.add_assoc, Nat.reduceAdd, List.setIfInBounds_toArray, List.set_cons_zero, List.set_cons_succ, List.cons_append, List.nil_append] at hM)
  obtain ⟨g1, o1, rfl, hg1, hcell⟩ := ((hM.ints .here).ints).at' 0 (by omega)
  have hc0 := hcell 0 (by omega)
  rw [HJ.out] at hc0
  replace hc0 : wz.cell? ⟨g1, o1, none⟩ = some (.int .i64 j) := hc0
  clear hcell
  obtain ⟨b2, o2, rfl, _⟩ := (h.ext hM.below).at' _ hjn
  obtain ⟨hb2, hd0, -, -, -⟩ := (h.ext hM.below).cellFire hjn
  rw [HD.out] at hd0
  have i0 : (0 : Int) < (n : Int) := by omega
  have i1 : (j : Int) < (n : Int) := by omega
  go_wp2_with fail
  apply Mem.atA
  · (repeat' (first | with_reducible exact hM | with_reducible exact hMp | with_reducible apply Mem.drew | with_reducible apply Mem.drewN | with_reducible apply Mem.alloc | with_reducible apply Mem.set | with_reducible exact Sto.row | ((with_reducible refine Sto.rowEq2 ?_ ?_); omega; rfl) | ((with_reducible refine Sto.rowEq ?_); omega) | with_reducible apply Sto.int | with_reducible apply Sto.there | with_reducible assumption | (unfold I64; omega) | (with_reducible (have hMx := Mem.undrew hM; exact hMx)) | (with_reducible (have hMx := Mem.undrew hMp; exact hMx))))
  clear hM
  intro wst hM
  (try simp only [World.size_alloc, World.size_setCell, World.heap_drewN, heapDrew, Nat.add_assoc, Nat.reduceAdd, List.setIfInBounds_toArray, List.set_cons_zero, List.set_cons_succ, List.cons_append, List.nil_append] at hM)
  (first | refine (HA.out _).mono ?_)
  rintro e wc16 ⟨rfl, hb⟩
  replace hM := hM.ext hb
  clear hb
  go_wp2_with fail
  apply Mem.atA
  · (repeat' (first | with_reducible exact hM | with_reducible exact hMp | with_reducible apply Mem.drew | with_reducible apply Mem.drewN | with_reducible apply Mem.alloc | with_reducible apply Mem.set | with_reducible exact Sto.row | ((with_reducible refine Sto.rowEq2 ?_ ?_); omega; rfl) | ((with_reducible refine Sto.rowEq ?_); omega) | with_reducible apply Sto.int | with_reducible apply Sto.there | with_reducible assumption | (unfold I64; omega) | (with_reducible (have hMx := Mem.undrew hM; exact hMx)) | (with_reducible (have hMx := Mem.undrew hMp; exact hMx))))
  clear hM
  intro wst hM
  (try simp only [World.size_alloc, World.size_setCell, World.heap_drewN, heapDrew, Nat.add_assoc, Nat.reduceAdd, List.setIfInBounds_toArray, List.set_cons_zero, List.set_cons_succ, List.cons_append, List.nil_append] at hM)
  (first | refine (HH.out _ (h.ext hM.below)).mono ?_)
  rintro e wc17 ⟨rfl, rfl⟩
  go_wp2_with fail
  apply Mem.atA
  · (repeat' (first | with_reducible exact hM | with_reducible exact hMp | with_reducible apply Mem.drew | with_reducible apply Mem.drewN | with_reducible apply Mem.alloc | with_reducible apply Mem.set | with_reducible exact Sto.row | ((with_reducible refine Sto.rowEq2 ?_ ?_); omega; rfl) | ((with_reducible refine Sto.rowEq ?_); omega) | with_reducible apply Sto.int | with_reducible apply Sto.there | with_reducible assumption | (unfold I64; omega) | (with_reducible (have hMx := Mem.undrew hM; exact hMx)) | (with_reducible (have hMx := Mem.undrew hMp; exact hMx))))
  clear hM
  intro wst hM
  (try simp only [World.size_alloc, World.size_setCell, World.heap_drewN, heapDrew, Nat.add_assoc, Nat.reduceAdd, List.setIfInBounds_toArray, List.set_cons_zero, List.set_cons_succ, List.cons_append, List.nil_append] at hM)
  (first | refine (HB2.out _).mono ?_)
  rintro e wc18 ⟨rfl, hb⟩
  replace hM := hM.ext hb
  clear hb
  go_wp2_with fail
  apply Mem.atA
  · (repeat' (first | with_reducible exact hM | with_reducible exact hMp | with_reducible apply Mem.drew | with_reducible apply Mem.drewN | with_reducible apply Mem.alloc | with_reducible apply Mem.set | with_reducible exact Sto.row | ((with_reducible refine Sto.rowEq2 ?_ ?_); omega; rfl) | ((with_reducible refine Sto.rowEq ?_); omega) | with_reducible apply Sto.int | with_reducible apply Sto.there | with_reducible assumption | (unfold I64; omega) | (with_reducible (have hMx := Mem.undrew hM; exact hMx)) | (with_reducible (have hMx := Mem.undrew hMp; exact hMx))))
  clear hM
  intro wst hM
  (try simp only [World.size_alloc, World.size_setCell, World.heap_drewN, heapDrew, Nat.add_assoc, Nat.reduceAdd, List.setIfInBounds_toArray, List.set_cons_zero, List.set_cons_succ, List.cons_append, List.nil_append] at hM)
  (first | refine (HI.out _).mono ?_)
  rintro e wc19 ⟨rfl, hb⟩
  replace hM := hM.ext hb
  clear hb
  go_wp2
  go_ret2
  exact ⟨by rw [HV.out, HB.out]; rfl, (by apply Mem.below; (repeat' (first | with_reducible exact hM | with_reducible exact hMp | with_reducible apply Mem.drew | with_reducible apply Mem.drewN | with_reducible apply Mem.alloc | with_reducible apply Mem.set | with_reducible exact Sto.row | ((with_reducible refine Sto.rowEq2 ?_ ?_); omega; rfl) | ((with_reducible refine Sto.rowEq ?_); omega) | with_reducible apply Sto.int | with_reducible apply Sto.there | with_reducible assumption | (unfold I64; omega) | (with_reducible (have hMx := Mem.undrew hM; exact hMx)) | (with_reducible (have hMx := Mem.undrew hMp; exact hMx)))))⟩
end Go.Proofs.YtpoabdmapbdmfaaDoor

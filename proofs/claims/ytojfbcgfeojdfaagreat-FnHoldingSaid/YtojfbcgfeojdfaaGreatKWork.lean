/-
  The work to pass from a cell to another one.
-/
import Derived.Test.YtojfbcgfeojdfaaGreatKSpeedW
/-
  The work to pass from a cell to another one.
-/
namespace Go.Proofs.YtojfbcgfeojdfaaGreat
set_option linter.unusedSimpArgs false
set_option linter.unusedVariables false
open Go.RowKit

def wkI (W : Nat) (xs : List Int) (a b : Nat) : Int := (if a % W = b % W ∨ a / W = b / W then 2 else 3) * (xs.getD a 0 + xs.getD b 0)
theorem wkI_bound {W : Nat} {xs : List Int} {a b : Nat} (hx : ∀ x ∈ xs, 0 ≤ x ∧ x ≤ 20) (ha : a < xs.length) (hb : b < xs.length) : 0 ≤ wkI W xs a b ∧ wkI W xs a b ≤ 120 := by
  have h1 := hx _ (getD_mem ha)
  have h2 := hx _ (getD_mem hb)
  unfold wkI
  split <;> omega

set_option maxRecDepth 100000 in
set_option maxHeartbeats 30000000 in
theorem work_any (W Hn : Nat) (a : Option Addr) (n c : Nat) (xs : List Int) (ka : Nat) (kb : Nat) (w : World) (h : Ints w a n c xs) (hW : 1 ≤ W ∧ W ≤ 5) (hx : ∀ x ∈ xs, 0 ≤ x ∧ x ≤ 20) (hka : ka < n) (hkb : kb < n) (hn25 : n ≤ 25) :
    Calls Tryz.prog 96 #[.agg #[.int .i64 W, .int .i64 Hn, .slice a n c], .int .i64 ka, .int .i64 kb] w (fun e w' => e = .returned (.int .i64 (wkI W xs ka kb)) ∧ Below w.heap.size w w') := by
  have hM := Mem.start w
  have HL := Lib.hid h.len
  have hva := hx _ (getD_mem (xs := xs) (k := ka) (by rw [HL.out]; exact hka))
  have hvb := hx _ (getD_mem (xs := xs) (k := kb) (by rw [HL.out]; exact hkb))
  obtain ⟨bx, offx, rfl, -, -⟩ := h.at' _ hka
  have h1 := Nat.mod_le ka W
  have h2 := Nat.mod_le kb W
  have h3 := Nat.div_le_self ka W
  have h4 := Nat.div_le_self kb W
  obtain ⟨w1, w2⟩ := hW
  obtain ⟨va, hva'⟩ : ∃ v, xs.getD ka 0 = v := ⟨_, rfl⟩
  obtain ⟨vb, hvb'⟩ : ∃ v, xs.getD kb 0 = v := ⟨_, rfl⟩
  rw [hva'] at hva
  rw [hvb'] at hvb
  obtain ⟨qa, hqa⟩ : ∃ q, ka % W = q := ⟨_, rfl⟩
  obtain ⟨qb, hqb⟩ : ∃ q, kb % W = q := ⟨_, rfl⟩
  obtain ⟨ra, hra⟩ : ∃ q, ka / W = q := ⟨_, rfl⟩
  obtain ⟨rb, hrb⟩ : ∃ q, kb / W = q := ⟨_, rfl⟩
  have e1 : ((ka : Int) % (W : Int)) = qa := by rw [← hqa]; rfl
  have e2 : ((kb : Int) % (W : Int)) = qb := by rw [← hqb]; rfl
  have e3 : ((ka : Int) / (W : Int)) = ra := by rw [← hra]; rfl
  have e4 : ((kb : Int) / (W : Int)) = rb := by rw [← hrb]; rfl
  have HF := Lib.hid (show wkI W xs ka kb = (if qa = qb ∨ ra = rb then 2 else 3) * (va + vb) by rw [wkI, hva', hvb', hqa, hqb, hra, hrb])
  rw [hqa] at h1; rw [hqb] at h2; rw [hra] at h3; rw [hrb] at h4
  have E1 := Lib.hid e1; have E2 := Lib.hid e2; have E3 := Lib.hid e3; have E4 := Lib.hid e4
  have HA := Lib.hid hva'; have HB := Lib.hid hvb'
  have hw0 : ¬ W = 0 := by omega
  have t1 : (ka : Int).tmod (W : Int) = qa := by rw [← e1]; exact Int.tmod_eq_emod_of_nonneg (by omega)
  have t2 : (kb : Int).tmod (W : Int) = qb := by rw [← e2]; exact Int.tmod_eq_emod_of_nonneg (by omega)
  have r1 : IntKind.i64.wrap (ra : Int) = ra := wrap_in (by omega)
  have r2 : IntKind.i64.wrap (rb : Int) = rb := wrap_in (by omega)
  have s1 : IntKind.i64.wrap (va + vb) = va + vb := wrap_in (by omega)
  have s2 : IntKind.i64.wrap (2 * (va + vb)) = 2 * (va + vb) := wrap_in (by omega)
  have s3 : IntKind.i64.wrap (3 * (va + vb)) = 3 * (va + vb) := wrap_in (by omega)
  have i0 : (0 : Int) ≤ (ka : Int) := by omega
  have i1 : (ka : Int) < (n : Int) := by omega
  have j0 : (0 : Int) ≤ (kb : Int) := by omega
  have j1 : (kb : Int) < (n : Int) := by omega
  clear hqa hqb hra hrb e1 e2 hva' hvb'
  go_enter Tryz.func96, Tryz.ntmps96
  go_wp2_with fail
  apply Mem.atWpA
  · exact memA
  clear hM
  intro wst hM
  (try simp only [World.size_alloc, World.size_setCell, World.heap_drewN, heapDrew, Nat.add_assoc, Nat.reduceAdd, sA, List.cons_append, List.nil_append] at hM)
  refine AtT.startA hM hM 11 (by kernel_rfl) ?_
  clear hM
  intro wd hM
  have hS := hM
  refine AtT.tk 0 ?_ 8 ?_ hS ?_
  rotate_left
  · (intro wS hSw; (try dsimp only at hSw); go_simp; (try rw [if_neg (by omega)]); try with_reducible rfl)
  simp only [Act.put, sA]
  refine AtT.tk 1 ?_ 9 ?_ hS ?_
  rotate_left
  · (intro wS hSw; (try dsimp only at hSw); have kr0 := (Mem.row hSw .here).cell; have hca := (h.ext hSw.below).get hka; rw [HA.out] at hca; have hcb := (h.ext hSw.below).get hkb; rw [HB.out] at hcb; go_simp; (try rw [if_neg (by omega)]); try with_reducible rfl)
  simp only [Act.put, sA]
  refine AtT.tk 2 ?_ 10 ?_ hS ?_
  rotate_left
  · (intro wS hSw; (try dsimp only at hSw); go_simp; (try rw [if_neg (by omega)]); try with_reducible rfl)
  simp only [Act.put, sA]
  refine AtT.tk 3 ?_ 11 ?_ hS ?_
  rotate_left
  · (intro wS hSw; (try dsimp only at hSw); have kr0 := (Mem.row hSw .here).cell; have hca := (h.ext hSw.below).get hka; rw [HA.out] at hca; have hcb := (h.ext hSw.below).get hkb; rw [HB.out] at hcb; go_simp; (try rw [if_neg (by omega)]); try with_reducible rfl)
  simp only [Act.put, sA]
  refine AtT.tk 4 ?_ 12 ?_ hS ?_
  rotate_left
  · (intro wS hSw; (try dsimp only at hSw); have kr0 := (Mem.row hSw .here).cell; have hca := (h.ext hSw.below).get hka; rw [HA.out] at hca; have hcb := (h.ext hSw.below).get hkb; rw [HB.out] at hcb; go_simp; (try rw [if_neg (by omega)]); try with_reducible rfl)
  simp only [Act.put, sA]
  refine AtT.tk 5 ?_ 13 ?_ hS ?_
  rotate_left
  · (intro wS hSw; (try dsimp only at hSw); go_simp; (try rw [if_neg (by omega)]); try with_reducible rfl)
  simp only [Act.put, sA]
  refine AtT.tk 6 ?_ 14 ?_ hS ?_
  rotate_left
  · (intro wS hSw; (try dsimp only at hSw); have kr0 := (Mem.row hSw .here).cell; have hca := (h.ext hSw.below).get hka; rw [HA.out] at hca; have hcb := (h.ext hSw.below).get hkb; rw [HB.out] at hcb; go_simp; (try rw [if_neg (by omega)]); try with_reducible rfl)
  simp only [Act.put, sA]
  refine AtT.tk 7 ?_ 15 ?_ hS ?_
  rotate_left
  · (intro wS hSw; (try dsimp only at hSw); go_simp; (try rw [if_neg (by omega)]); try with_reducible rfl)
  simp only [Act.put, sA]
  refine AtT.tk 8 ?_ 16 ?_ hS ?_
  rotate_left
  · (intro wS hSw; (try dsimp only at hSw); have kr0 := (Mem.row hSw .here).cell; have hca := (h.ext hSw.below).get hka; rw [HA.out] at hca; have hcb := (h.ext hSw.below).get hkb; rw [HB.out] at hcb; go_simp; (try rw [if_neg (by omega)]); try with_reducible rfl)
  simp only [Act.put, sA]
  refine AtT.tk 9 ?_ 17 ?_ hS ?_
  rotate_left
  · (intro wS hSw; (try dsimp only at hSw); have kr0 := (Mem.row hSw .here).cell; have hca := (h.ext hSw.below).get hka; rw [HA.out] at hca; have hcb := (h.ext hSw.below).get hkb; rw [HB.out] at hcb; go_simp; (try rw [if_neg (by omega)]); try with_reducible rfl)
  simp only [Act.put, sA]
  refine AtT.tk 10 ?_ 18 ?_ hS ?_
  rotate_left
  · (intro wS hSw; (try dsimp only at hSw); go_simp; (try rw [if_neg (by omega)]); try with_reducible rfl)
  simp only [Act.put, sA]
  refine AtT.last (by kernel_rfl) rfl (by kernel_rfl) ?_
  intro K hK
  clear hS
  go_simp
  refine hK.out _ _ ?_
  clear hK K
  by_cases hq : qa = qb
  · have hqe : ((qa : Int) == (qb : Int)) = true := by rw [hq]; simp
    have HG := Lib.hid (show wkI W xs ka kb = 2 * (va + vb) by rw [HF.out, if_pos (.inl hq)])
    go_wp2_with fail
    refine AtT.startA hM hM 15 (by kernel_rfl) ?_
    clear hM
    intro wd hM
    have hS := hM
    refine AtT.tk 0 ?_ 19 ?_ hS ?_
    rotate_left
    · (intro wS hSw; (try dsimp only at hSw); have kr0 := (Mem.row hSw .here).cell; go_simp; (try rw [if_neg (by omega)]); try with_reducible rfl)
    simp only [Act.put, sA]
    refine AtT.tk 1 ?_ 20 ?_ hS ?_
    rotate_left
    · (intro wS hSw; (try dsimp only at hSw); go_simp; (try rw [if_neg (by omega)]); try with_reducible rfl)
    simp only [Act.put, sA]
    refine AtT.tk 3 ?_ 22 ?_ hS ?_
    rotate_left
    · (intro wS hSw; (try dsimp only at hSw); have kr0 := (Mem.row hSw .here).cell; go_simp; (try rw [if_neg (by omega)]); try with_reducible rfl)
    simp only [Act.put, sA]
    refine AtT.tk 4 ?_ 23 ?_ hS ?_
    rotate_left
    · (intro wS hSw; (try dsimp only at hSw); go_simp; (try rw [if_neg (by omega)]); try with_reducible rfl)
    simp only [Act.put, sA]
    refine AtT.only (i := 2) (by kernel_rfl) rfl rfl ?_
    intro K hK
    go_simp
    refine (column_any _ _ _ _ _ (by omega) (by omega)).mono ?_
    rw [E1.out]
    rintro e w1 ⟨rfl, hb⟩
    replace hM := hM.ext hb
    clear hb
    try dsimp only
    refine hK.out _ _ (hM) ?_
    clear hK K hS
    have hS := hM
    refine AtT.only (i := 5) (by kernel_rfl) rfl rfl ?_
    intro K hK
    go_simp
    refine (column_any _ _ _ _ _ (by omega) (by omega)).mono ?_
    rw [E2.out]
    rintro e w1 ⟨rfl, hb⟩
    replace hM := hM.ext hb
    clear hb
    try dsimp only
    refine hK.out _ _ (hM) ?_
    clear hK K hS
    have hS := hM
    refine AtT.tk 6 ?_ 25 ?_ hS ?_
    rotate_left
    · (intro wS hSw; (try dsimp only at hSw); go_simp; (try rw [if_neg (by omega)]); try with_reducible rfl)
    simp only [Act.put, sA]
    refine AtT.tk 7 ?_ 26 ?_ hS ?_
    rotate_left
    · (intro wS hSw; (try dsimp only at hSw); go_simp; (try rw [if_neg (by omega)]); try with_reducible rfl)
    simp only [Act.put, sA]
    refine AtT.tn 8 27 hS ?_
    simp only [Act.put, sA]
    refine AtT.tn 9 28 hS ?_
    simp only [Act.put, sA]
    refine AtT.tn 10 29 hS ?_
    simp only [Act.put, sA]
    refine AtT.tn 11 30 hS ?_
    simp only [Act.put, sA]
    refine AtT.tn 12 31 hS ?_
    simp only [Act.put, sA]
    refine AtT.tn 13 32 hS ?_
    simp only [Act.put, sA]
    refine AtT.tn 14 33 hS ?_
    simp only [Act.put, sA]
    refine AtT.last (by kernel_rfl) rfl (by kernel_rfl) ?_
    intro K hK
    clear hS
    go_simp
    refine hK.out _ _ ?_
    clear hK K
    go_wp2
    go_ret
    exact ⟨ri (by rw [HG.out]), (by apply Mem.below; (exact memA))⟩
  have hqe : ((qa : Int) == (qb : Int)) = false := by simp; omega
  by_cases hr : ra = rb
  · have hre : ((ra : Int) == (rb : Int)) = true := by rw [hr]; simp
    have HG := Lib.hid (show wkI W xs ka kb = 2 * (va + vb) by rw [HF.out, if_pos (.inr hr)])
    go_wp2_with fail
    refine AtT.startA hM hM 15 (by kernel_rfl) ?_
    clear hM
    intro wd hM
    have hS := hM
    refine AtT.tk 0 ?_ 19 ?_ hS ?_
    rotate_left
    · (intro wS hSw; (try dsimp only at hSw); have kr0 := (Mem.row hSw .here).cell; go_simp; (try rw [if_neg (by omega)]); try with_reducible rfl)
    simp only [Act.put, sA]
    refine AtT.tk 1 ?_ 20 ?_ hS ?_
    rotate_left
    · (intro wS hSw; (try dsimp only at hSw); go_simp; (try rw [if_neg (by omega)]); try with_reducible rfl)
    simp only [Act.put, sA]
    refine AtT.tk 3 ?_ 22 ?_ hS ?_
    rotate_left
    · (intro wS hSw; (try dsimp only at hSw); have kr0 := (Mem.row hSw .here).cell; go_simp; (try rw [if_neg (by omega)]); try with_reducible rfl)
    simp only [Act.put, sA]
    refine AtT.tk 4 ?_ 23 ?_ hS ?_
    rotate_left
    · (intro wS hSw; (try dsimp only at hSw); go_simp; (try rw [if_neg (by omega)]); try with_reducible rfl)
    simp only [Act.put, sA]
    refine AtT.only (i := 2) (by kernel_rfl) rfl rfl ?_
    intro K hK
    go_simp
    refine (column_any _ _ _ _ _ (by omega) (by omega)).mono ?_
    rw [E1.out]
    rintro e w1 ⟨rfl, hb⟩
    replace hM := hM.ext hb
    clear hb
    try dsimp only
    refine hK.out _ _ (hM) ?_
    clear hK K hS
    have hS := hM
    refine AtT.only (i := 5) (by kernel_rfl) rfl rfl ?_
    intro K hK
    go_simp
    refine (column_any _ _ _ _ _ (by omega) (by omega)).mono ?_
    rw [E2.out]
    rintro e w1 ⟨rfl, hb⟩
    replace hM := hM.ext hb
    clear hb
    try dsimp only
    refine hK.out _ _ (hM) ?_
    clear hK K hS
    have hS := hM
    refine AtT.tk 6 ?_ 25 ?_ hS ?_
    rotate_left
    · (intro wS hSw; (try dsimp only at hSw); go_simp; (try rw [if_neg (by omega)]); try with_reducible rfl)
    simp only [Act.put, sA]
    refine AtT.tk 7 ?_ 26 ?_ hS ?_
    rotate_left
    · (intro wS hSw; (try dsimp only at hSw); go_simp; (try rw [if_neg (by omega)]); try with_reducible rfl)
    simp only [Act.put, sA]
    refine AtT.tk 8 ?_ 27 ?_ hS ?_
    rotate_left
    · (intro wS hSw; (try dsimp only at hSw); have kr0 := (Mem.row hSw .here).cell; go_simp; (try rw [if_neg (by omega)]); try with_reducible rfl)
    simp only [Act.put, sA]
    refine AtT.tk 9 ?_ 28 ?_ hS ?_
    rotate_left
    · (intro wS hSw; (try dsimp only at hSw); go_simp; (try rw [if_neg (by omega)]); try with_reducible rfl)
    simp only [Act.put, sA]
    refine AtT.tk 11 ?_ 30 ?_ hS ?_
    rotate_left
    · (intro wS hSw; (try dsimp only at hSw); have kr0 := (Mem.row hSw .here).cell; go_simp; (try rw [if_neg (by omega)]); try with_reducible rfl)
    simp only [Act.put, sA]
    refine AtT.tk 12 ?_ 31 ?_ hS ?_
    rotate_left
    · (intro wS hSw; (try dsimp only at hSw); go_simp; (try rw [if_neg (by omega)]); try with_reducible rfl)
    simp only [Act.put, sA]
    refine AtT.only (i := 10) (by kernel_rfl) rfl rfl ?_
    intro K hK
    go_simp
    refine (row_any _ _ _ _ _ (by omega) (by omega)).mono ?_
    rw [E3.out]
    rintro e w1 ⟨rfl, hb⟩
    replace hM := hM.ext hb
    clear hb
    try dsimp only
    refine hK.out _ _ (hM) ?_
    clear hK K hS
    have hS := hM
    refine AtT.only (i := 13) (by kernel_rfl) rfl rfl ?_
    intro K hK
    go_simp
    refine (row_any _ _ _ _ _ (by omega) (by omega)).mono ?_
    rw [E4.out]
    rintro e w1 ⟨rfl, hb⟩
    replace hM := hM.ext hb
    clear hb
    try dsimp only
    refine hK.out _ _ (hM) ?_
    clear hK K hS
    have hS := hM
    refine AtT.tk 14 ?_ 33 ?_ hS ?_
    rotate_left
    · (intro wS hSw; (try dsimp only at hSw); go_simp; (try rw [if_neg (by omega)]); try with_reducible rfl)
    simp only [Act.put, sA]
    refine AtT.last (by kernel_rfl) rfl (by kernel_rfl) ?_
    intro K hK
    clear hS
    go_simp
    refine hK.out _ _ ?_
    clear hK K
    go_wp2
    go_ret
    exact ⟨ri (by rw [HG.out]), (by apply Mem.below; (exact memA))⟩
  · have hre : ((ra : Int) == (rb : Int)) = false := by simp; omega
    have HG := Lib.hid (show wkI W xs ka kb = 3 * (va + vb) by rw [HF.out, if_neg (fun h => h.elim hq hr)])
    go_wp2_with fail
    refine AtT.startA hM hM 15 (by kernel_rfl) ?_
    clear hM
    intro wd hM
    have hS := hM
    refine AtT.tk 0 ?_ 19 ?_ hS ?_
    rotate_left
    · (intro wS hSw; (try dsimp only at hSw); have kr0 := (Mem.row hSw .here).cell; go_simp; (try rw [if_neg (by omega)]); try with_reducible rfl)
    simp only [Act.put, sA]
    refine AtT.tk 1 ?_ 20 ?_ hS ?_
    rotate_left
    · (intro wS hSw; (try dsimp only at hSw); go_simp; (try rw [if_neg (by omega)]); try with_reducible rfl)
    simp only [Act.put, sA]
    refine AtT.tk 3 ?_ 22 ?_ hS ?_
    rotate_left
    · (intro wS hSw; (try dsimp only at hSw); have kr0 := (Mem.row hSw .here).cell; go_simp; (try rw [if_neg (by omega)]); try with_reducible rfl)
    simp only [Act.put, sA]
    refine AtT.tk 4 ?_ 23 ?_ hS ?_
    rotate_left
    · (intro wS hSw; (try dsimp only at hSw); go_simp; (try rw [if_neg (by omega)]); try with_reducible rfl)
    simp only [Act.put, sA]
    refine AtT.only (i := 2) (by kernel_rfl) rfl rfl ?_
    intro K hK
    go_simp
    refine (column_any _ _ _ _ _ (by omega) (by omega)).mono ?_
    rw [E1.out]
    rintro e w1 ⟨rfl, hb⟩
    replace hM := hM.ext hb
    clear hb
    try dsimp only
    refine hK.out _ _ (hM) ?_
    clear hK K hS
    have hS := hM
    refine AtT.only (i := 5) (by kernel_rfl) rfl rfl ?_
    intro K hK
    go_simp
    refine (column_any _ _ _ _ _ (by omega) (by omega)).mono ?_
    rw [E2.out]
    rintro e w1 ⟨rfl, hb⟩
    replace hM := hM.ext hb
    clear hb
    try dsimp only
    refine hK.out _ _ (hM) ?_
    clear hK K hS
    have hS := hM
    refine AtT.tk 6 ?_ 25 ?_ hS ?_
    rotate_left
    · (intro wS hSw; (try dsimp only at hSw); go_simp; (try rw [if_neg (by omega)]); try with_reducible rfl)
    simp only [Act.put, sA]
    refine AtT.tk 7 ?_ 26 ?_ hS ?_
    rotate_left
    · (intro wS hSw; (try dsimp only at hSw); go_simp; (try rw [if_neg (by omega)]); try with_reducible rfl)
    simp only [Act.put, sA]
    refine AtT.tk 8 ?_ 27 ?_ hS ?_
    rotate_left
    · (intro wS hSw; (try dsimp only at hSw); have kr0 := (Mem.row hSw .here).cell; go_simp; (try rw [if_neg (by omega)]); try with_reducible rfl)
    simp only [Act.put, sA]
    refine AtT.tk 9 ?_ 28 ?_ hS ?_
    rotate_left
    · (intro wS hSw; (try dsimp only at hSw); go_simp; (try rw [if_neg (by omega)]); try with_reducible rfl)
    simp only [Act.put, sA]
    refine AtT.tk 11 ?_ 30 ?_ hS ?_
    rotate_left
    · (intro wS hSw; (try dsimp only at hSw); have kr0 := (Mem.row hSw .here).cell; go_simp; (try rw [if_neg (by omega)]); try with_reducible rfl)
    simp only [Act.put, sA]
    refine AtT.tk 12 ?_ 31 ?_ hS ?_
    rotate_left
    · (intro wS hSw; (try dsimp only at hSw); go_simp; (try rw [if_neg (by omega)]); try with_reducible rfl)
    simp only [Act.put, sA]
    refine AtT.only (i := 10) (by kernel_rfl) rfl rfl ?_
    intro K hK
    go_simp
    refine (row_any _ _ _ _ _ (by omega) (by omega)).mono ?_
    rw [E3.out]
    rintro e w1 ⟨rfl, hb⟩
    replace hM := hM.ext hb
    clear hb
    try dsimp only
    refine hK.out _ _ (hM) ?_
    clear hK K hS
    have hS := hM
    refine AtT.only (i := 13) (by kernel_rfl) rfl rfl ?_
    intro K hK
    go_simp
    refine (row_any _ _ _ _ _ (by omega) (by omega)).mono ?_
    rw [E4.out]
    rintro e w1 ⟨rfl, hb⟩
    replace hM := hM.ext hb
    clear hb
    try dsimp only
    refine hK.out _ _ (hM) ?_
    clear hK K hS
    have hS := hM
    refine AtT.tk 14 ?_ 33 ?_ hS ?_
    rotate_left
    · (intro wS hSw; (try dsimp only at hSw); go_simp; (try rw [if_neg (by omega)]); try with_reducible rfl)
    simp only [Act.put, sA]
    refine AtT.last (by kernel_rfl) rfl (by kernel_rfl) ?_
    intro K hK
    clear hS
    go_simp
    refine hK.out _ _ ?_
    clear hK K
    go_wp2
    go_ret
    exact ⟨ri (by rw [HG.out]), (by apply Mem.below; (exact memA))⟩

set_option maxRecDepth 100000 in
set_option maxHeartbeats 30000000 in
theorem l4Work_any (W Hn : Nat) (a : Option Addr) (n c : Nat) (xs : List Int) (ka : Nat) (kb : Nat) (w : World) (h : Ints w a n c xs) (hW : 1 ≤ W ∧ W ≤ 5) (hx : ∀ x ∈ xs, 0 ≤ x ∧ x ≤ 20) (hka : ka < n) (hkb : kb < n) (hn25 : n ≤ 25) :
    Calls Tryz.prog 100 #[.agg #[.int .i64 W, .int .i64 Hn, .slice a n c], .int .i64 ka, .int .i64 kb] w (fun e w' => e = .returned (.int .i64 (wkI W xs ka kb)) ∧ Below w.heap.size w w') := by
  have hM := Mem.start w
  have HL := Lib.hid h.len
  have hva := hx _ (getD_mem (xs := xs) (k := ka) (by rw [HL.out]; exact hka))
  have hvb := hx _ (getD_mem (xs := xs) (k := kb) (by rw [HL.out]; exact hkb))
  obtain ⟨bx, offx, rfl, -, -⟩ := h.at' _ hka
  have h1 := Nat.mod_le ka W
  have h2 := Nat.mod_le kb W
  have h3 := Nat.div_le_self ka W
  have h4 := Nat.div_le_self kb W
  obtain ⟨w1, w2⟩ := hW
  obtain ⟨va, hva'⟩ : ∃ v, xs.getD ka 0 = v := ⟨_, rfl⟩
  obtain ⟨vb, hvb'⟩ : ∃ v, xs.getD kb 0 = v := ⟨_, rfl⟩
  rw [hva'] at hva
  rw [hvb'] at hvb
  obtain ⟨qa, hqa⟩ : ∃ q, ka % W = q := ⟨_, rfl⟩
  obtain ⟨qb, hqb⟩ : ∃ q, kb % W = q := ⟨_, rfl⟩
  obtain ⟨ra, hra⟩ : ∃ q, ka / W = q := ⟨_, rfl⟩
  obtain ⟨rb, hrb⟩ : ∃ q, kb / W = q := ⟨_, rfl⟩
  have e1 : ((ka : Int) % (W : Int)) = qa := by rw [← hqa]; rfl
  have e2 : ((kb : Int) % (W : Int)) = qb := by rw [← hqb]; rfl
  have e3 : ((ka : Int) / (W : Int)) = ra := by rw [← hra]; rfl
  have e4 : ((kb : Int) / (W : Int)) = rb := by rw [← hrb]; rfl
  have HF := Lib.hid (show wkI W xs ka kb = (if qa = qb ∨ ra = rb then 2 else 3) * (va + vb) by rw [wkI, hva', hvb', hqa, hqb, hra, hrb])
  rw [hqa] at h1; rw [hqb] at h2; rw [hra] at h3; rw [hrb] at h4
  have E1 := Lib.hid e1; have E2 := Lib.hid e2; have E3 := Lib.hid e3; have E4 := Lib.hid e4
  have HA := Lib.hid hva'; have HB := Lib.hid hvb'
  have hw0 : ¬ W = 0 := by omega
  have t1 : (ka : Int).tmod (W : Int) = qa := by rw [← e1]; exact Int.tmod_eq_emod_of_nonneg (by omega)
  have t2 : (kb : Int).tmod (W : Int) = qb := by rw [← e2]; exact Int.tmod_eq_emod_of_nonneg (by omega)
  have r1 : IntKind.i64.wrap (ra : Int) = ra := wrap_in (by omega)
  have r2 : IntKind.i64.wrap (rb : Int) = rb := wrap_in (by omega)
  have s1 : IntKind.i64.wrap (va + vb) = va + vb := wrap_in (by omega)
  have s2 : IntKind.i64.wrap (2 * (va + vb)) = 2 * (va + vb) := wrap_in (by omega)
  have s3 : IntKind.i64.wrap (3 * (va + vb)) = 3 * (va + vb) := wrap_in (by omega)
  have i0 : (0 : Int) ≤ (ka : Int) := by omega
  have i1 : (ka : Int) < (n : Int) := by omega
  have j0 : (0 : Int) ≤ (kb : Int) := by omega
  have j1 : (kb : Int) < (n : Int) := by omega
  clear hqa hqb hra hrb e1 e2 hva' hvb'
  go_enter Tryz.func100, Tryz.ntmps100
  go_wp2_with fail
  apply Mem.atWpA
  · exact memA
  clear hM
  intro wst hM
  (try simp only [World.size_alloc, World.size_setCell, World.heap_drewN, heapDrew, Nat.add_assoc, Nat.reduceAdd, sA, List.cons_append, List.nil_append] at hM)
  refine AtT.startA hM hM 11 (by kernel_rfl) ?_
  clear hM
  intro wd hM
  have hS := hM
  refine AtT.tk 0 ?_ 8 ?_ hS ?_
  rotate_left
  · (intro wS hSw; (try dsimp only at hSw); go_simp; (try rw [if_neg (by omega)]); try with_reducible rfl)
  simp only [Act.put, sA]
  refine AtT.tk 1 ?_ 9 ?_ hS ?_
  rotate_left
  · (intro wS hSw; (try dsimp only at hSw); have kr0 := (Mem.row hSw .here).cell; have hca := (h.ext hSw.below).get hka; rw [HA.out] at hca; have hcb := (h.ext hSw.below).get hkb; rw [HB.out] at hcb; go_simp; (try rw [if_neg (by omega)]); try with_reducible rfl)
  simp only [Act.put, sA]
  refine AtT.tk 2 ?_ 10 ?_ hS ?_
  rotate_left
  · (intro wS hSw; (try dsimp only at hSw); go_simp; (try rw [if_neg (by omega)]); try with_reducible rfl)
  simp only [Act.put, sA]
  refine AtT.tk 3 ?_ 11 ?_ hS ?_
  rotate_left
  · (intro wS hSw; (try dsimp only at hSw); have kr0 := (Mem.row hSw .here).cell; have hca := (h.ext hSw.below).get hka; rw [HA.out] at hca; have hcb := (h.ext hSw.below).get hkb; rw [HB.out] at hcb; go_simp; (try rw [if_neg (by omega)]); try with_reducible rfl)
  simp only [Act.put, sA]
  refine AtT.tk 4 ?_ 12 ?_ hS ?_
  rotate_left
  · (intro wS hSw; (try dsimp only at hSw); have kr0 := (Mem.row hSw .here).cell; have hca := (h.ext hSw.below).get hka; rw [HA.out] at hca; have hcb := (h.ext hSw.below).get hkb; rw [HB.out] at hcb; go_simp; (try rw [if_neg (by omega)]); try with_reducible rfl)
  simp only [Act.put, sA]
  refine AtT.tk 5 ?_ 13 ?_ hS ?_
  rotate_left
  · (intro wS hSw; (try dsimp only at hSw); go_simp; (try rw [if_neg (by omega)]); try with_reducible rfl)
  simp only [Act.put, sA]
  refine AtT.tk 6 ?_ 14 ?_ hS ?_
  rotate_left
  · (intro wS hSw; (try dsimp only at hSw); have kr0 := (Mem.row hSw .here).cell; have hca := (h.ext hSw.below).get hka; rw [HA.out] at hca; have hcb := (h.ext hSw.below).get hkb; rw [HB.out] at hcb; go_simp; (try rw [if_neg (by omega)]); try with_reducible rfl)
  simp only [Act.put, sA]
  refine AtT.tk 7 ?_ 15 ?_ hS ?_
  rotate_left
  · (intro wS hSw; (try dsimp only at hSw); go_simp; (try rw [if_neg (by omega)]); try with_reducible rfl)
  simp only [Act.put, sA]
  refine AtT.tk 8 ?_ 16 ?_ hS ?_
  rotate_left
  · (intro wS hSw; (try dsimp only at hSw); have kr0 := (Mem.row hSw .here).cell; have hca := (h.ext hSw.below).get hka; rw [HA.out] at hca; have hcb := (h.ext hSw.below).get hkb; rw [HB.out] at hcb; go_simp; (try rw [if_neg (by omega)]); try with_reducible rfl)
  simp only [Act.put, sA]
  refine AtT.tk 9 ?_ 17 ?_ hS ?_
  rotate_left
  · (intro wS hSw; (try dsimp only at hSw); have kr0 := (Mem.row hSw .here).cell; have hca := (h.ext hSw.below).get hka; rw [HA.out] at hca; have hcb := (h.ext hSw.below).get hkb; rw [HB.out] at hcb; go_simp; (try rw [if_neg (by omega)]); try with_reducible rfl)
  simp only [Act.put, sA]
  refine AtT.tk 10 ?_ 18 ?_ hS ?_
  rotate_left
  · (intro wS hSw; (try dsimp only at hSw); go_simp; (try rw [if_neg (by omega)]); try with_reducible rfl)
  simp only [Act.put, sA]
  refine AtT.last (by kernel_rfl) rfl (by kernel_rfl) ?_
  intro K hK
  clear hS
  go_simp
  refine hK.out _ _ ?_
  clear hK K
  by_cases hq : qa = qb
  · have hqe : ((qa : Int) == (qb : Int)) = true := by rw [hq]; simp
    have HG := Lib.hid (show wkI W xs ka kb = 2 * (va + vb) by rw [HF.out, if_pos (.inl hq)])
    go_wp2_with fail
    refine AtT.startA hM hM 19 (by kernel_rfl) ?_
    clear hM
    intro wd hM
    have hS := hM
    refine AtT.tk 0 ?_ 19 ?_ hS ?_
    rotate_left
    · (intro wS hSw; (try dsimp only at hSw); go_simp; (try rw [if_neg (by omega)]); try with_reducible rfl)
    simp only [Act.put, sA]
    refine AtT.tk 1 ?_ 20 ?_ hS ?_
    rotate_left
    · (intro wS hSw; (try dsimp only at hSw); go_simp; (try rw [if_neg (by omega)]); try with_reducible rfl)
    simp only [Act.put, sA]
    refine AtT.tk 2 ?_ 21 ?_ hS ?_
    rotate_left
    · (intro wS hSw; (try dsimp only at hSw); have kr0 := (Mem.row hSw .here).cell; go_simp; (try rw [if_neg (by omega)]); try with_reducible rfl)
    simp only [Act.put, sA]
    refine AtT.tk 3 ?_ 22 ?_ hS ?_
    rotate_left
    · (intro wS hSw; (try dsimp only at hSw); go_simp; (try rw [if_neg (by omega)]); try with_reducible rfl)
    simp only [Act.put, sA]
    refine AtT.tk 4 ?_ 23 ?_ hS ?_
    rotate_left
    · (intro wS hSw; (try dsimp only at hSw); go_simp; (try rw [if_neg (by omega)]); try with_reducible rfl)
    simp only [Act.put, sA]
    refine AtT.tk 5 ?_ 24 ?_ hS ?_
    rotate_left
    · (intro wS hSw; (try dsimp only at hSw); go_simp; (try rw [if_neg (by omega)]); try with_reducible rfl)
    simp only [Act.put, sA]
    refine AtT.tk 6 ?_ 25 ?_ hS ?_
    rotate_left
    · (intro wS hSw; (try dsimp only at hSw); have kr0 := (Mem.row hSw .here).cell; go_simp; (try rw [if_neg (by omega)]); try with_reducible rfl)
    simp only [Act.put, sA]
    refine AtT.tk 7 ?_ 26 ?_ hS ?_
    rotate_left
    · (intro wS hSw; (try dsimp only at hSw); go_simp; (try rw [if_neg (by omega)]); try with_reducible rfl)
    simp only [Act.put, sA]
    refine AtT.tk 8 ?_ 27 ?_ hS ?_
    rotate_left
    · (intro wS hSw; (try dsimp only at hSw); go_simp; (try rw [if_neg (by omega)]); try with_reducible rfl)
    simp only [Act.put, sA]
    refine AtT.tk 9 ?_ 28 ?_ hS ?_
    rotate_left
    · (intro wS hSw; (try dsimp only at hSw); go_simp; (try rw [if_neg (by omega)]); try with_reducible rfl)
    simp only [Act.put, sA]
    refine AtT.tn 10 29 hS ?_
    simp only [Act.put, sA]
    refine AtT.tn 11 30 hS ?_
    simp only [Act.put, sA]
    refine AtT.tn 12 31 hS ?_
    simp only [Act.put, sA]
    refine AtT.tn 13 32 hS ?_
    simp only [Act.put, sA]
    refine AtT.tn 14 33 hS ?_
    simp only [Act.put, sA]
    refine AtT.tn 15 34 hS ?_
    simp only [Act.put, sA]
    refine AtT.tn 16 35 hS ?_
    simp only [Act.put, sA]
    refine AtT.tn 17 36 hS ?_
    simp only [Act.put, sA]
    refine AtT.tn 18 37 hS ?_
    simp only [Act.put, sA]
    refine AtT.last (by kernel_rfl) rfl (by kernel_rfl) ?_
    intro K hK
    clear hS
    go_simp
    refine hK.out _ _ ?_
    clear hK K
    go_wp2
    go_ret
    exact ⟨ri (by rw [HG.out]), (by apply Mem.below; (exact memA))⟩
  have hqe : ((qa : Int) == (qb : Int)) = false := by simp; omega
  by_cases hr : ra = rb
  · have hre : ((ra : Int) == (rb : Int)) = true := by rw [hr]; simp
    have HG := Lib.hid (show wkI W xs ka kb = 2 * (va + vb) by rw [HF.out, if_pos (.inr hr)])
    go_wp2_with fail
    refine AtT.startA hM hM 19 (by kernel_rfl) ?_
    clear hM
    intro wd hM
    have hS := hM
    refine AtT.tk 0 ?_ 19 ?_ hS ?_
    rotate_left
    · (intro wS hSw; (try dsimp only at hSw); go_simp; (try rw [if_neg (by omega)]); try with_reducible rfl)
    simp only [Act.put, sA]
    refine AtT.tk 1 ?_ 20 ?_ hS ?_
    rotate_left
    · (intro wS hSw; (try dsimp only at hSw); go_simp; (try rw [if_neg (by omega)]); try with_reducible rfl)
    simp only [Act.put, sA]
    refine AtT.tk 2 ?_ 21 ?_ hS ?_
    rotate_left
    · (intro wS hSw; (try dsimp only at hSw); have kr0 := (Mem.row hSw .here).cell; go_simp; (try rw [if_neg (by omega)]); try with_reducible rfl)
    simp only [Act.put, sA]
    refine AtT.tk 3 ?_ 22 ?_ hS ?_
    rotate_left
    · (intro wS hSw; (try dsimp only at hSw); go_simp; (try rw [if_neg (by omega)]); try with_reducible rfl)
    simp only [Act.put, sA]
    refine AtT.tk 4 ?_ 23 ?_ hS ?_
    rotate_left
    · (intro wS hSw; (try dsimp only at hSw); go_simp; (try rw [if_neg (by omega)]); try with_reducible rfl)
    simp only [Act.put, sA]
    refine AtT.tk 5 ?_ 24 ?_ hS ?_
    rotate_left
    · (intro wS hSw; (try dsimp only at hSw); go_simp; (try rw [if_neg (by omega)]); try with_reducible rfl)
    simp only [Act.put, sA]
    refine AtT.tk 6 ?_ 25 ?_ hS ?_
    rotate_left
    · (intro wS hSw; (try dsimp only at hSw); have kr0 := (Mem.row hSw .here).cell; go_simp; (try rw [if_neg (by omega)]); try with_reducible rfl)
    simp only [Act.put, sA]
    refine AtT.tk 7 ?_ 26 ?_ hS ?_
    rotate_left
    · (intro wS hSw; (try dsimp only at hSw); go_simp; (try rw [if_neg (by omega)]); try with_reducible rfl)
    simp only [Act.put, sA]
    refine AtT.tk 8 ?_ 27 ?_ hS ?_
    rotate_left
    · (intro wS hSw; (try dsimp only at hSw); go_simp; (try rw [if_neg (by omega)]); try with_reducible rfl)
    simp only [Act.put, sA]
    refine AtT.tk 9 ?_ 28 ?_ hS ?_
    rotate_left
    · (intro wS hSw; (try dsimp only at hSw); go_simp; (try rw [if_neg (by omega)]); try with_reducible rfl)
    simp only [Act.put, sA]
    refine AtT.tk 10 ?_ 29 ?_ hS ?_
    rotate_left
    · (intro wS hSw; (try dsimp only at hSw); go_simp; (try rw [if_neg (by omega)]); try with_reducible rfl)
    simp only [Act.put, sA]
    refine AtT.tk 11 ?_ 30 ?_ hS ?_
    rotate_left
    · (intro wS hSw; (try dsimp only at hSw); go_simp; (try rw [if_neg (by omega)]); try with_reducible rfl)
    simp only [Act.put, sA]
    refine AtT.tk 12 ?_ 31 ?_ hS ?_
    rotate_left
    · (intro wS hSw; (try dsimp only at hSw); have kr0 := (Mem.row hSw .here).cell; go_simp; (try rw [if_neg (by omega)]); try with_reducible rfl)
    simp only [Act.put, sA]
    refine AtT.tk 13 ?_ 32 ?_ hS ?_
    rotate_left
    · (intro wS hSw; (try dsimp only at hSw); go_simp; (try rw [if_neg (by omega)]); try with_reducible rfl)
    simp only [Act.put, sA]
    refine AtT.tk 14 ?_ 33 ?_ hS ?_
    rotate_left
    · (intro wS hSw; (try dsimp only at hSw); go_simp; (try rw [if_neg (by omega)]); try with_reducible rfl)
    simp only [Act.put, sA]
    refine AtT.tk 15 ?_ 34 ?_ hS ?_
    rotate_left
    · (intro wS hSw; (try dsimp only at hSw); go_simp; (try rw [if_neg (by omega)]); try with_reducible rfl)
    simp only [Act.put, sA]
    refine AtT.tk 16 ?_ 35 ?_ hS ?_
    rotate_left
    · (intro wS hSw; (try dsimp only at hSw); have kr0 := (Mem.row hSw .here).cell; go_simp; (try rw [if_neg (by omega)]); try with_reducible rfl)
    simp only [Act.put, sA]
    refine AtT.tk 17 ?_ 36 ?_ hS ?_
    rotate_left
    · (intro wS hSw; (try dsimp only at hSw); go_simp; (try rw [if_neg (by omega)]); try with_reducible rfl)
    simp only [Act.put, sA]
    refine AtT.tk 18 ?_ 37 ?_ hS ?_
    rotate_left
    · (intro wS hSw; (try dsimp only at hSw); go_simp; (try rw [if_neg (by omega)]); try with_reducible rfl)
    simp only [Act.put, sA]
    refine AtT.last (by kernel_rfl) rfl (by kernel_rfl) ?_
    intro K hK
    clear hS
    go_simp
    refine hK.out _ _ ?_
    clear hK K
    go_wp2
    go_ret
    exact ⟨ri (by rw [HG.out]), (by apply Mem.below; (exact memA))⟩
  · have hre : ((ra : Int) == (rb : Int)) = false := by simp; omega
    have HG := Lib.hid (show wkI W xs ka kb = 3 * (va + vb) by rw [HF.out, if_neg (fun h => h.elim hq hr)])
    go_wp2_with fail
    refine AtT.startA hM hM 19 (by kernel_rfl) ?_
    clear hM
    intro wd hM
    have hS := hM
    refine AtT.tk 0 ?_ 19 ?_ hS ?_
    rotate_left
    · (intro wS hSw; (try dsimp only at hSw); go_simp; (try rw [if_neg (by omega)]); try with_reducible rfl)
    simp only [Act.put, sA]
    refine AtT.tk 1 ?_ 20 ?_ hS ?_
    rotate_left
    · (intro wS hSw; (try dsimp only at hSw); go_simp; (try rw [if_neg (by omega)]); try with_reducible rfl)
    simp only [Act.put, sA]
    refine AtT.tk 2 ?_ 21 ?_ hS ?_
    rotate_left
    · (intro wS hSw; (try dsimp only at hSw); have kr0 := (Mem.row hSw .here).cell; go_simp; (try rw [if_neg (by omega)]); try with_reducible rfl)
    simp only [Act.put, sA]
    refine AtT.tk 3 ?_ 22 ?_ hS ?_
    rotate_left
    · (intro wS hSw; (try dsimp only at hSw); go_simp; (try rw [if_neg (by omega)]); try with_reducible rfl)
    simp only [Act.put, sA]
    refine AtT.tk 4 ?_ 23 ?_ hS ?_
    rotate_left
    · (intro wS hSw; (try dsimp only at hSw); go_simp; (try rw [if_neg (by omega)]); try with_reducible rfl)
    simp only [Act.put, sA]
    refine AtT.tk 5 ?_ 24 ?_ hS ?_
    rotate_left
    · (intro wS hSw; (try dsimp only at hSw); go_simp; (try rw [if_neg (by omega)]); try with_reducible rfl)
    simp only [Act.put, sA]
    refine AtT.tk 6 ?_ 25 ?_ hS ?_
    rotate_left
    · (intro wS hSw; (try dsimp only at hSw); have kr0 := (Mem.row hSw .here).cell; go_simp; (try rw [if_neg (by omega)]); try with_reducible rfl)
    simp only [Act.put, sA]
    refine AtT.tk 7 ?_ 26 ?_ hS ?_
    rotate_left
    · (intro wS hSw; (try dsimp only at hSw); go_simp; (try rw [if_neg (by omega)]); try with_reducible rfl)
    simp only [Act.put, sA]
    refine AtT.tk 8 ?_ 27 ?_ hS ?_
    rotate_left
    · (intro wS hSw; (try dsimp only at hSw); go_simp; (try rw [if_neg (by omega)]); try with_reducible rfl)
    simp only [Act.put, sA]
    refine AtT.tk 9 ?_ 28 ?_ hS ?_
    rotate_left
    · (intro wS hSw; (try dsimp only at hSw); go_simp; (try rw [if_neg (by omega)]); try with_reducible rfl)
    simp only [Act.put, sA]
    refine AtT.tk 10 ?_ 29 ?_ hS ?_
    rotate_left
    · (intro wS hSw; (try dsimp only at hSw); go_simp; (try rw [if_neg (by omega)]); try with_reducible rfl)
    simp only [Act.put, sA]
    refine AtT.tk 11 ?_ 30 ?_ hS ?_
    rotate_left
    · (intro wS hSw; (try dsimp only at hSw); go_simp; (try rw [if_neg (by omega)]); try with_reducible rfl)
    simp only [Act.put, sA]
    refine AtT.tk 12 ?_ 31 ?_ hS ?_
    rotate_left
    · (intro wS hSw; (try dsimp only at hSw); have kr0 := (Mem.row hSw .here).cell; go_simp; (try rw [if_neg (by omega)]); try with_reducible rfl)
    simp only [Act.put, sA]
    refine AtT.tk 13 ?_ 32 ?_ hS ?_
    rotate_left
    · (intro wS hSw; (try dsimp only at hSw); go_simp; (try rw [if_neg (by omega)]); try with_reducible rfl)
    simp only [Act.put, sA]
    refine AtT.tk 14 ?_ 33 ?_ hS ?_
    rotate_left
    · (intro wS hSw; (try dsimp only at hSw); go_simp; (try rw [if_neg (by omega)]); try with_reducible rfl)
    simp only [Act.put, sA]
    refine AtT.tk 15 ?_ 34 ?_ hS ?_
    rotate_left
    · (intro wS hSw; (try dsimp only at hSw); go_simp; (try rw [if_neg (by omega)]); try with_reducible rfl)
    simp only [Act.put, sA]
    refine AtT.tk 16 ?_ 35 ?_ hS ?_
    rotate_left
    · (intro wS hSw; (try dsimp only at hSw); have kr0 := (Mem.row hSw .here).cell; go_simp; (try rw [if_neg (by omega)]); try with_reducible rfl)
    simp only [Act.put, sA]
    refine AtT.tk 17 ?_ 36 ?_ hS ?_
    rotate_left
    · (intro wS hSw; (try dsimp only at hSw); go_simp; (try rw [if_neg (by omega)]); try with_reducible rfl)
    simp only [Act.put, sA]
    refine AtT.tk 18 ?_ 37 ?_ hS ?_
    rotate_left
    · (intro wS hSw; (try dsimp only at hSw); go_simp; (try rw [if_neg (by omega)]); try with_reducible rfl)
    simp only [Act.put, sA]
    refine AtT.last (by kernel_rfl) rfl (by kernel_rfl) ?_
    intro K hK
    clear hS
    go_simp
    refine hK.out _ _ ?_
    clear hK K
    go_wp2
    go_ret
    exact ⟨ri (by rw [HG.out]), (by apply Mem.below; (exact memA))⟩
end Go.Proofs.YtojfbcgfeojdfaaGreat

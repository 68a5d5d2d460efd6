/-
  Distances and neighbors; cells that fulfil a condition; lists filtered.
-/
import Derived.Test.YtojfbcgfeojdfaaGreatCReach
import Derived.Test.YtojfbcgfeojdfaaGreatCMkr
/-
  Distances and neighbors; cells that fulfil a condition; lists filtered.
-/
namespace Go.Proofs.YtojfbcgfeojdfaaGreat
set_option linter.unusedSimpArgs false
set_option linter.unusedVariables false
open Go.RowKit

def dI (a b : Int) : Int := max (a - b) (b - a)
/-- steps between two cells -/
def apI (W a b : Nat) : Int := max (dI (a % W : Nat) (b % W : Nat)) (dI (a / W : Nat) (b / W : Nat))
theorem apI_symm (W a b : Nat) : apI W a b = apI W b a := by unfold apI dI; omega
theorem apI_bound {W a b : Nat} (ha : a ≤ 1000) (hb : b ≤ 1000) : 0 ≤ apI W a b ∧ apI W a b ≤ 1000 := by
  have h1 := Nat.mod_le a W
  have h2 := Nat.mod_le b W
  have h3 := Nat.div_le_self a W
  have h4 := Nat.div_le_self b W
  unfold apI dI
  generalize a % W = q1 at *
  generalize b % W = q2 at *
  generalize a / W = q3 at *
  generalize b / W = q4 at *
  omega
def nearN (W a b : Nat) : Bool := apI W a b == 1
theorem nearN_symm (W a b : Nat) : nearN W a b = nearN W b a := by unfold nearN; rw [apI_symm]
/-- the cells below n with p, as numbers -/
def cellsN (n : Nat) (p : Nat → Bool) : List Int := ((List.range n).filter p).map Int.ofNat
theorem cellsN_succ (n : Nat) (p : Nat → Bool) : cellsN (n + 1) p = cellsN n p ++ if p n then [(n : Int)] else [] := by
  unfold cellsN
  rw [List.range_succ, List.filter_append, List.map_append]
  cases h : p n <;> simp [h]
theorem cellsN_length (n : Nat) (p : Nat → Bool) : (cellsN n p).length ≤ n := by
  unfold cellsN
  rw [List.length_map]
  exact Nat.le_trans (List.length_filter_le _ _) (by simp)
theorem cellsN_mem {n : Nat} {p : Nat → Bool} {x : Int} : x ∈ cellsN n p ↔ ∃ c : Nat, x = c ∧ c < n ∧ p c = true := by
  unfold cellsN
  simp only [List.mem_map, List.mem_filter, List.mem_range]
  constructor
  · rintro ⟨c, ⟨h1, h2⟩, rfl⟩; exact ⟨c, rfl, h1, h2⟩
  · rintro ⟨c, rfl, h1, h2⟩; exact ⟨c, ⟨h1, h2⟩, rfl⟩
theorem cellsN_asc (n : Nat) (p : Nat → Bool) : (cellsN n p).Pairwise (· < ·) := by
  unfold cellsN
  rw [List.pairwise_map]
  refine List.Pairwise.imp ?_ (List.Pairwise.filter _ List.pairwise_lt_range)
  intro a b h
  exact Int.ofNat_lt.2 h
theorem cellsN_congr {n : Nat} {p q : Nat → Bool} (h : ∀ c, c < n → p c = q c) : cellsN n p = cellsN n q := by
  unfold cellsN
  rw [List.filter_congr (fun c hc => h c (List.mem_range.1 hc))]

theorem distance_any (a b : Int) (w : World) (ha : 0 ≤ a ∧ a ≤ 1000000) (hb : 0 ≤ b ∧ b ≤ 1000000) :
    Calls Tryz.prog 154 #[.int .i64 a, .int .i64 b] w fun e w' => e = .returned (.int .i64 (dI a b)) ∧ w = w' := by
  obtain ⟨a0, a1⟩ := ha
  obtain ⟨b0, b1⟩ := hb
  go_enter Tryz.func154, Tryz.ntmps154
  go_wp2
  all_goals
    go_ret
    exact ⟨ri (by unfold dI; omega), rfl⟩

theorem l1Most_any (a b : Int) (w : World) :
    Calls Tryz.prog 116 #[.int .i64 a, .int .i64 b] w fun e w' => e = .returned (.int .i64 (max a b)) ∧ w = w' := by
  by_cases h : b < a
  all_goals
    go_enter Tryz.func116, Tryz.ntmps116
    go_wp2
    go_ret
    exact ⟨ri (by omega), rfl⟩

set_option maxRecDepth 100000 in
set_option maxHeartbeats 1000000 in
theorem apart_any (W : Nat) (H : Int) (s : Value) (a b : Nat) (w : World) (hW : 1 ≤ W ∧ W ≤ 5) (ha : a ≤ 1000) (hb : b ≤ 1000) :
    Calls Tryz.prog 132 #[.agg #[.int .i64 W, .int .i64 H, s], .int .i64 a, .int .i64 b] w fun e w' => e = .returned (.int .i64 (apI W a b)) ∧ Below w.heap.size w w' := by
  have hM := Mem.start w
  have h1 := Nat.mod_le a W
  have h2 := Nat.mod_le b W
  have h3 := Nat.div_le_self a W
  have h4 := Nat.div_le_self b W
  obtain ⟨w1, w2⟩ := hW
  obtain ⟨qa, hqa⟩ : ∃ q, a % W = q := ⟨_, rfl⟩
  obtain ⟨qb, hqb⟩ : ∃ q, b % W = q := ⟨_, rfl⟩
  obtain ⟨ra, hra⟩ : ∃ q, a / W = q := ⟨_, rfl⟩
  obtain ⟨rb, hrb⟩ : ∃ q, b / W = q := ⟨_, rfl⟩
  have e1 : ((a : Int) % (W : Int)) = qa := by rw [← hqa]; rfl
  have e2 : ((b : Int) % (W : Int)) = qb := by rw [← hqb]; rfl
  have e3 : ((a : Int) / (W : Int)) = ra := by rw [← hra]; rfl
  have e4 : ((b : Int) / (W : Int)) = rb := by rw [← hrb]; rfl
  have HF := Lib.hid (show apI W a b = max (dI qa qb) (dI ra rb) by unfold apI; rw [hqa, hqb, hra, hrb])
  rw [hqa] at h1; rw [hqb] at h2; rw [hra] at h3; rw [hrb] at h4
  have E1 := Lib.hid e1; have E2 := Lib.hid e2; have E3 := Lib.hid e3; have E4 := Lib.hid e4
  clear hqa hqb hra hrb e1 e2 e3 e4
  have b1 : 0 ≤ dI qa qb ∧ dI qa qb ≤ 1000 := by unfold dI; omega
  have b2 : 0 ≤ dI ra rb ∧ dI ra rb ≤ 1000 := by unfold dI; omega
  obtain ⟨x, hx⟩ : ∃ x, dI qa qb = x := ⟨_, rfl⟩
  obtain ⟨y, hy⟩ : ∃ y, dI ra rb = y := ⟨_, rfl⟩
  rw [hx] at b1
  rw [hy] at b2
  have HX := Lib.hid hx; have HY := Lib.hid hy
  clear hx hy
  go_enter Tryz.func132, Tryz.ntmps132
  go_wp2_with fail
  apply Mem.atWp
  · (repeat' (first | with_reducible exact hM | with_reducible exact hMp | with_reducible apply Mem.drew | with_reducible apply Mem.drewN | with_reducible apply Mem.alloc | with_reducible apply Mem.set | with_reducible exact Sto.row | ((with_reducible refine Sto.rowEq2 ?_ ?_); omega; rfl) | ((with_reducible refine Sto.rowEq ?_); omega) | with_reducible apply Sto.int | with_reducible apply Sto.there | with_reducible assumption | (unfold I64; omega) | (with_reducible (have hMx := Mem.undrew hM; exact hMx)) | (with_reducible (have hMx := Mem.undrew hMp; exact hMx))))
  clear hM
  intro hM
  refine AtT.startA hM hM 15 (by kernel_rfl) ?_
  clear hM
  intro wd hM
  have hS := hM
  refine AtT.taked (i := 0) (v := ?_) (some 7) rfl rfl (by kernel_rfl) (by kernel_rfl) (by kernel_rfl) (by kernel_rfl) (fun _ _ _ h => h) (Or.inl ⟨by kernel_rfl, ?_⟩) hS ?_
  rotate_left
  · (intro wS hSw; (try dsimp only at hSw); have kr0 := (Mem.row hSw .here).cell; go_simp; (try rw [if_neg (by omega)]); try with_reducible rfl)
  simp only [Act.put, List.setIfInBounds_toArray, List.set_cons_zero, List.set_cons_succ]
  refine AtT.taked (i := 1) (v := ?_) (some 8) rfl rfl (by kernel_rfl) (by kernel_rfl) (by kernel_rfl) (by kernel_rfl) (fun _ _ _ h => h) (Or.inl ⟨by kernel_rfl, ?_⟩) hS ?_
  rotate_left
  · (intro wS hSw; (try dsimp only at hSw); go_simp; (try rw [if_neg (by omega)]); try with_reducible rfl)
  simp only [Act.put, List.setIfInBounds_toArray, List.set_cons_zero, List.set_cons_succ]
  refine AtT.taked (i := 3) (v := ?_) (some 10) rfl rfl (by kernel_rfl) (by kernel_rfl) (by kernel_rfl) (by kernel_rfl) (fun _ _ _ h => h) (Or.inl ⟨by kernel_rfl, ?_⟩) hS ?_
  rotate_left
  · (intro wS hSw; (try dsimp only at hSw); have kr0 := (Mem.row hSw .here).cell; go_simp; (try rw [if_neg (by omega)]); try with_reducible rfl)
  simp only [Act.put, List.setIfInBounds_toArray, List.set_cons_zero, List.set_cons_succ]
  refine AtT.taked (i := 4) (v := ?_) (some 11) rfl rfl (by kernel_rfl) (by kernel_rfl) (by kernel_rfl) (by kernel_rfl) (fun _ _ _ h => h) (Or.inl ⟨by kernel_rfl, ?_⟩) hS ?_
  rotate_left
  · (intro wS hSw; (try dsimp only at hSw); go_simp; (try rw [if_neg (by omega)]); try with_reducible rfl)
  simp only [Act.put, List.setIfInBounds_toArray, List.set_cons_zero, List.set_cons_succ]
  refine AtT.taked (i := 7) (v := ?_) (some 14) rfl rfl (by kernel_rfl) (by kernel_rfl) (by kernel_rfl) (by kernel_rfl) (fun _ _ _ h => h) (Or.inl ⟨by kernel_rfl, ?_⟩) hS ?_
  rotate_left
  · (intro wS hSw; (try dsimp only at hSw); have kr0 := (Mem.row hSw .here).cell; go_simp; (try rw [if_neg (by omega)]); try with_reducible rfl)
  simp only [Act.put, List.setIfInBounds_toArray, List.set_cons_zero, List.set_cons_succ]
  refine AtT.taked (i := 8) (v := ?_) (some 15) rfl rfl (by kernel_rfl) (by kernel_rfl) (by kernel_rfl) (by kernel_rfl) (fun _ _ _ h => h) (Or.inl ⟨by kernel_rfl, ?_⟩) hS ?_
  rotate_left
  · (intro wS hSw; (try dsimp only at hSw); go_simp; (try rw [if_neg (by omega)]); try with_reducible rfl)
  simp only [Act.put, List.setIfInBounds_toArray, List.set_cons_zero, List.set_cons_succ]
  refine AtT.taked (i := 10) (v := ?_) (some 17) rfl rfl (by kernel_rfl) (by kernel_rfl) (by kernel_rfl) (by kernel_rfl) (fun _ _ _ h => h) (Or.inl ⟨by kernel_rfl, ?_⟩) hS ?_
  rotate_left
  · (intro wS hSw; (try dsimp only at hSw); have kr0 := (Mem.row hSw .here).cell; go_simp; (try rw [if_neg (by omega)]); try with_reducible rfl)
  simp only [Act.put, List.setIfInBounds_toArray, List.set_cons_zero, List.set_cons_succ]
  refine AtT.taked (i := 11) (v := ?_) (some 18) rfl rfl (by kernel_rfl) (by kernel_rfl) (by kernel_rfl) (by kernel_rfl) (fun _ _ _ h => h) (Or.inl ⟨by kernel_rfl, ?_⟩) hS ?_
  rotate_left
  · (intro wS hSw; (try dsimp only at hSw); go_simp; (try rw [if_neg (by omega)]); try with_reducible rfl)
  simp only [Act.put, List.setIfInBounds_toArray, List.set_cons_zero, List.set_cons_succ]
  refine AtT.only (i := 2) (by kernel_rfl) rfl rfl ?_
  intro K hK
  go_simp
  refine (column_any _ _ _ _ _ (by omega) (by omega)).mono ?_
  rw [E1.out]
  rintro e w1 ⟨rfl, hb⟩
  replace hM := hM.ext hb
  clear hb
  try dsimp only
  refine hK.out _ _ (hM) ?_
  clear hK K hS
  have hS := hM
  refine AtT.only (i := 5) (by kernel_rfl) rfl rfl ?_
  intro K hK
  go_simp
  refine (column_any _ _ _ _ _ (by omega) (by omega)).mono ?_
  rw [E2.out]
  rintro e w1 ⟨rfl, hb⟩
  replace hM := hM.ext hb
  clear hb
  try dsimp only
  refine hK.out _ _ (hM) ?_
  clear hK K hS
  have hS := hM
  refine AtT.only (i := 6) (by kernel_rfl) rfl rfl ?_
  intro K hK
  go_simp
  refine (distance_any _ _ _ (by omega) (by omega)).mono ?_
  rw [HX.out]
  rintro e w1 ⟨rfl, rfl⟩
  try dsimp only
  refine hK.out _ _ (hM) ?_
  clear hK K hS
  have hS := hM
  refine AtT.only (i := 9) (by kernel_rfl) rfl rfl ?_
  intro K hK
  go_simp
  refine (row_any _ _ _ _ _ (by omega) (by omega)).mono ?_
  rw [E3.out]
  rintro e w1 ⟨rfl, hb⟩
  replace hM := hM.ext hb
  clear hb
  try dsimp only
  refine hK.out _ _ (hM) ?_
  clear hK K hS
  have hS := hM
  refine AtT.only (i := 12) (by kernel_rfl) rfl rfl ?_
  intro K hK
  go_simp
  refine (row_any _ _ _ _ _ (by omega) (by omega)).mono ?_
  rw [E4.out]
  rintro e w1 ⟨rfl, hb⟩
  replace hM := hM.ext hb
  clear hb
  try dsimp only
  refine hK.out _ _ (hM) ?_
  clear hK K hS
  have hS := hM
  refine AtT.only (i := 13) (by kernel_rfl) rfl rfl ?_
  intro K hK
  go_simp
  refine (distance_any _ _ _ (by omega) (by omega)).mono ?_
  rw [HY.out]
  rintro e w1 ⟨rfl, rfl⟩
  try dsimp only
  refine hK.out _ _ (hM) ?_
  clear hK K hS
  have hS := hM
  refine AtT.taked (i := 14) (v := ?_) (some 21) rfl rfl (by kernel_rfl) (by kernel_rfl) (by kernel_rfl) (by kernel_rfl) (fun _ _ _ h => h) (Or.inl ⟨by kernel_rfl, ?_⟩) hS ?_
  rotate_left
  · (intro wS hSw; (try dsimp only at hSw); go_simp; (try rw [if_neg (by omega)]); try with_reducible rfl)
  simp only [Act.put, List.setIfInBounds_toArray, List.set_cons_zero, List.set_cons_succ]
  refine AtT.last (by kernel_rfl) rfl (by kernel_rfl) ?_
  intro K hK
  clear hS
  go_simp
  refine hK.out _ _ ?_
  clear hK K
  go_wp2
  all_goals
    go_ret
    exact ⟨ri (by rw [HF.out, HX.out, HY.out]; omega), (by apply Mem.below; (repeat' (first | with_reducible exact hM | with_reducible exact hMp | with_reducible apply Mem.drew | with_reducible apply Mem.drewN | with_reducible apply Mem.alloc | with_reducible apply Mem.set | with_reducible exact Sto.row | ((with_reducible refine Sto.rowEq2 ?_ ?_); omega; rfl) | ((with_reducible refine Sto.rowEq ?_); omega) | with_reducible apply Sto.int | with_reducible apply Sto.there | with_reducible assumption | (unfold I64; omega) | (with_reducible (have hMx := Mem.undrew hM; exact hMx)) | (with_reducible (have hMx := Mem.undrew hMp; exact hMx)))))⟩
end Go.Proofs.YtojfbcgfeojdfaaGreat

/-
  Orders: the order in which they are served, the program's.
-/
import Derived.Test.YtfnaenekdenmkaaYOrdL
import Derived.Test.YtfnaenekdenmkaaYLargest
/-
  Orders: the order in which they are served, the program's.
-/
namespace Go.Proofs.Ytfnaenekdenmkaa
set_option linter.unusedSimpArgs false
set_option linter.unusedVariables false
open Go.RowKit

def urAt (os : List OrderI) (i : Int) : Int := (os.getD i.toNat OrderI.zero).ur
def tkAt (os : List OrderI) (i : Int) : Int := (os.getD i.toNat OrderI.zero).tk
/-- the first number that is not 0 -/
def orI (x y : Int) : Int := if x = 0 then y else x
theorem befO_eq (os : List OrderI) (i k : Int) : decide (orI (cmpI (urAt os k) (urAt os i)) (cmpI (tkAt os i) (tkAt os k)) < 0) = befO os i k := by
  unfold befO orI
  show _ = (decide (urAt os k < urAt os i) || (decide (urAt os k = urAt os i) && decide (tkAt os i < tkAt os k)))
  generalize urAt os k = a
  generalize urAt os i = b
  generalize tkAt os i = c
  generalize tkAt os k = d
  unfold cmpI
  by_cases h1 : a < b
  · simp [h1]
  · by_cases h2 : b < a
    · have h3 : ¬ a = b := by omega
      simp [h1, h2, h3]
    · have h3 : a = b := by omega
      by_cases h4 : c < d
      · simp [h3, h4]
      · by_cases h5 : d < c
        · simp [h3, h4, h5]
        · simp [h3, h4, h5]

set_option maxRecDepth 100000 in
set_option maxHeartbeats 1000000 in
theorem orTwo_any (b : Nat) (x y : Int) (w : World) (hr : Row w b #[.int .i64 x, .int .i64 y]) :
    Calls Try.prog 129 #[.slice (some ⟨b, 0, none⟩) 2 2] w fun e w' => e = .returned (.int .i64 (orI x y)) ∧ w = w' := by
  have c0 := hr.cell 0
  have c1 := hr.cell 1
  by_cases h1 : x = 0
  · subst h1
    have HF := Lib.hid (show orI 0 y = y from rfl)
    by_cases h2 : y = 0
    · subst h2
      go_enter Try.func129, Try.ntmps129
      go_wp2
      go_loop [8] (fun i => i = .int .i64 0 ∨ i = .int .i64 1 ∨ i = .int .i64 2) (fun i => 2 - (intOf i).toNat)
      case atStart => exact .inl rfl
      case round =>
        rcases hrel with rfl | rfl | rfl
        · go_wp2
          go_round
          case rel => exact .inr (.inl rfl)
          case measure => decide
        · go_wp2
          go_round
          case rel => exact .inr (.inr rfl)
          case measure => decide
        · go_wp2
          go_ret
          exact ⟨ri HF.out.symm, rfl⟩
    · have hy : (y != 0) = true := by simpa using h2
      go_enter Try.func129, Try.ntmps129
      go_wp2
      go_loop [8] (fun i => i = .int .i64 0 ∨ i = .int .i64 1) (fun i => 2 - (intOf i).toNat)
      case atStart => exact .inl rfl
      case round =>
        rcases hrel with rfl | rfl
        · go_wp2
          go_round
          case rel => exact .inr rfl
          case measure => decide
        · go_wp2
          go_ret
          exact ⟨ri HF.out.symm, rfl⟩
  · have hx : (x != 0) = true := by simpa using h1
    have HF := Lib.hid (show orI x y = x from if_neg h1)
    go_enter Try.func129, Try.ntmps129
    go_wp2
    go_loop [8] (fun i => i = .int .i64 0) (fun i => 2 - (intOf i).toNat)
    case atStart => rfl
    case round =>
      obtain rfl := hrel
      go_wp2
      go_ret
      exact ⟨ri HF.out.symm, rfl⟩

set_option maxRecDepth 100000 in
set_option maxHeartbeats 4000000 in
theorem serving1_any (a : Option Addr) (n c : Nat) (os : List OrderI) (i k : Nat) (b : Nat) (w : World) (h : Rd FOrder w a n c os) (hi : i < n) (hk : k < n) (hr : Row w b #[.slice a n c]) :
    Calls Try.prog 128 #[.int .i64 i, .int .i64 k, .pointer (some ⟨b, 0, none⟩)] w fun e w' => e = .returned (.int .i64 (orI (cmpI (urAt os k) (urAt os i)) (cmpI (tkAt os i) (tkAt os k)))) ∧ Below w.heap.size w w' := by
  have hn := h.cap
  have hc := h.nroom
  have hM := Mem.start w
  obtain ⟨bb, off, rfl, _⟩ := h.at' _ hi
  have hxi := h.cellOrder hi
  have hxk := h.cellOrder hk
  obtain ⟨x, hx⟩ : ∃ x, (os.getD i OrderI.zero).ur = x := ⟨_, rfl⟩
  obtain ⟨y, hy⟩ : ∃ y, (os.getD k OrderI.zero).ur = y := ⟨_, rfl⟩
  obtain ⟨p, hp⟩ : ∃ p, (os.getD i OrderI.zero).tk = p := ⟨_, rfl⟩
  obtain ⟨q, hq⟩ : ∃ q, (os.getD k OrderI.zero).tk = q := ⟨_, rfl⟩
  have HF := Lib.hid (show orI (cmpI (urAt os k) (urAt os i)) (cmpI (tkAt os i) (tkAt os k)) = orI (cmpI y x) (cmpI p q) by simp only [urAt, tkAt, Int.toNat_natCast, hx, hy, hp, hq])
  rw [hx, hp] at hxi
  rw [hy, hq] at hxk
  have hb := hxi.1
  have e1 := hxi.2.2.2.2.1
  have e2 := hxi.2.2.2.2.2
  have e3 := hxk.2.2.2.2.1
  have e4 := hxk.2.2.2.2.2
  clear hx hy hp hq hxi hxk
  have hcap := hr.cell 0
  have HS : Hid (∀ w1 : World, Mem w.heap.size w w1 [] → w1.cell? ⟨b, 0, none⟩ = some (.slice (some ⟨bb, off, none⟩) n c) ∧ w1.cell? ⟨bb, off + i * 5 + 3, none⟩ = some (.int .i64 x) ∧ w1.cell? ⟨bb, off + k * 5 + 3, none⟩ = some (.int .i64 y) ∧ w1.cell? ⟨bb, off + i * 5 + 4, none⟩ = some (.int .i64 p) ∧ w1.cell? ⟨bb, off + k * 5 + 4, none⟩ = some (.int .i64 q)) := by
    intro w1 h1
    refine ⟨?_, ?_, ?_, ?_, ?_⟩
    · rw [h1.below.cell (p := ⟨b, 0, none⟩) hr.lt]; exact hcap
    · rw [h1.below.cell (p := ⟨bb, off + i * 5 + 3, none⟩) hb]; exact e1
    · rw [h1.below.cell (p := ⟨bb, off + k * 5 + 3, none⟩) hb]; exact e3
    · rw [h1.below.cell (p := ⟨bb, off + i * 5 + 4, none⟩) hb]; exact e2
    · rw [h1.below.cell (p := ⟨bb, off + k * 5 + 4, none⟩) hb]; exact e4
  clear hcap e1 e2 e3 e4
  have i0 : (0 : Int) ≤ (i : Int) := by omega
  have i1 : (i : Int) < (n : Int) := by omega
  have j0 : (0 : Int) ≤ (k : Int) := by omega
  have j1 : (k : Int) < (n : Int) := by omega
  go_enter Try.func128, Try.ntmps128
  go_wp2_with fail
  refine AtT.startA hM hM 24 (by kernel_rfl) ?_
  clear hM
  intro wd hM
  have hS := hM
  refine AtT.taked (i := 0) (v := ?_) (some 6) rfl rfl (by kernel_rfl) (by kernel_rfl) (by kernel_rfl) (by kernel_rfl) (fun _ _ _ h => h) (Or.inl ⟨by kernel_rfl, ?_⟩) hS ?_
  rotate_left
  · (intro wS hSw; (try dsimp only at hSw); have q1 := (HS.out _ hSw).1; have q2 := (HS.out _ hSw).2.1; have q3 := (HS.out _ hSw).2.2.1; have q4 := (HS.out _ hSw).2.2.2.1; have q5 := (HS.out _ hSw).2.2.2.2; go_simp; (try rw [if_neg (by omega)]); try with_reducible rfl)
  simp only [Act.put, List.setIfInBounds_toArray, List.set_cons_zero, List.set_cons_succ]
  refine AtT.taked (i := 1) (v := ?_) (some 7) rfl rfl (by kernel_rfl) (by kernel_rfl) (by kernel_rfl) (by kernel_rfl) (fun _ _ _ h => h) (Or.inl ⟨by kernel_rfl, ?_⟩) hS ?_
  rotate_left
  · (intro wS hSw; (try dsimp only at hSw); go_simp; (try rw [if_neg (by omega)]); try with_reducible rfl)
  simp only [Act.put, List.setIfInBounds_toArray, List.set_cons_zero, List.set_cons_succ]
  refine AtT.taked (i := 2) (v := ?_) (some 8) rfl rfl (by kernel_rfl) (by kernel_rfl) (by kernel_rfl) (by kernel_rfl) (fun _ _ _ h => h) (Or.inl ⟨by kernel_rfl, ?_⟩) hS ?_
  rotate_left
  · (intro wS hSw; (try dsimp only at hSw); have q1 := (HS.out _ hSw).1; have q2 := (HS.out _ hSw).2.1; have q3 := (HS.out _ hSw).2.2.1; have q4 := (HS.out _ hSw).2.2.2.1; have q5 := (HS.out _ hSw).2.2.2.2; go_simp; (try rw [if_neg (by omega)]); try with_reducible rfl)
  simp only [Act.put, List.setIfInBounds_toArray, List.set_cons_zero, List.set_cons_succ]
  refine AtT.taked (i := 3) (v := ?_) (some 9) rfl rfl (by kernel_rfl) (by kernel_rfl) (by kernel_rfl) (by kernel_rfl) (fun _ _ _ h => h) (Or.inl ⟨by kernel_rfl, ?_⟩) hS ?_
  rotate_left
  · (intro wS hSw; (try dsimp only at hSw); go_simp; (try rw [if_neg (by omega)]); try with_reducible rfl)
  simp only [Act.put, List.setIfInBounds_toArray, List.set_cons_zero, List.set_cons_succ]
  refine AtT.taked (i := 4) (v := ?_) (some 10) rfl rfl (by kernel_rfl) (by kernel_rfl) (by kernel_rfl) (by kernel_rfl) (fun _ _ _ h => h) (Or.inl ⟨by kernel_rfl, ?_⟩) hS ?_
  rotate_left
  · (intro wS hSw; (try dsimp only at hSw); have q1 := (HS.out _ hSw).1; have q2 := (HS.out _ hSw).2.1; have q3 := (HS.out _ hSw).2.2.1; have q4 := (HS.out _ hSw).2.2.2.1; have q5 := (HS.out _ hSw).2.2.2.2; go_simp; (try rw [if_neg (by omega)]); try with_reducible rfl)
  simp only [Act.put, List.setIfInBounds_toArray, List.set_cons_zero, List.set_cons_succ]
  refine AtT.taked (i := 5) (v := ?_) (some 11) rfl rfl (by kernel_rfl) (by kernel_rfl) (by kernel_rfl) (by kernel_rfl) (fun _ _ _ h => h) (Or.inl ⟨by kernel_rfl, ?_⟩) hS ?_
  rotate_left
  · (intro wS hSw; (try dsimp only at hSw); have q1 := (HS.out _ hSw).1; have q2 := (HS.out _ hSw).2.1; have q3 := (HS.out _ hSw).2.2.1; have q4 := (HS.out _ hSw).2.2.2.1; have q5 := (HS.out _ hSw).2.2.2.2; go_simp; (try rw [if_neg (by omega)]); try with_reducible rfl)
  simp only [Act.put, List.setIfInBounds_toArray, List.set_cons_zero, List.set_cons_succ]
  refine AtT.taked (i := 6) (v := ?_) (some 12) rfl rfl (by kernel_rfl) (by kernel_rfl) (by kernel_rfl) (by kernel_rfl) (fun _ _ _ h => h) (Or.inl ⟨by kernel_rfl, ?_⟩) hS ?_
  rotate_left
  · (intro wS hSw; (try dsimp only at hSw); go_simp; (try rw [if_neg (by omega)]); try with_reducible rfl)
  simp only [Act.put, List.setIfInBounds_toArray, List.set_cons_zero, List.set_cons_succ]
  refine AtT.taked (i := 7) (v := ?_) (some 13) rfl rfl (by kernel_rfl) (by kernel_rfl) (by kernel_rfl) (by kernel_rfl) (fun _ _ _ h => h) (Or.inl ⟨by kernel_rfl, ?_⟩) hS ?_
  rotate_left
  · (intro wS hSw; (try dsimp only at hSw); have q1 := (HS.out _ hSw).1; have q2 := (HS.out _ hSw).2.1; have q3 := (HS.out _ hSw).2.2.1; have q4 := (HS.out _ hSw).2.2.2.1; have q5 := (HS.out _ hSw).2.2.2.2; go_simp; (try rw [if_neg (by omega)]); try with_reducible rfl)
  simp only [Act.put, List.setIfInBounds_toArray, List.set_cons_zero, List.set_cons_succ]
  refine AtT.taked (i := 8) (v := ?_) (some 14) rfl rfl (by kernel_rfl) (by kernel_rfl) (by kernel_rfl) (by kernel_rfl) (fun _ _ _ h => h) (Or.inl ⟨by kernel_rfl, ?_⟩) hS ?_
  rotate_left
  · (intro wS hSw; (try dsimp only at hSw); go_simp; (try rw [if_neg (by omega)]); try with_reducible rfl)
  simp only [Act.put, List.setIfInBounds_toArray, List.set_cons_zero, List.set_cons_succ]
  refine AtT.taked (i := 9) (v := ?_) (some 15) rfl rfl (by kernel_rfl) (by kernel_rfl) (by kernel_rfl) (by kernel_rfl) (fun _ _ _ h => h) (Or.inl ⟨by kernel_rfl, ?_⟩) hS ?_
  rotate_left
  · (intro wS hSw; (try dsimp only at hSw); have q1 := (HS.out _ hSw).1; have q2 := (HS.out _ hSw).2.1; have q3 := (HS.out _ hSw).2.2.1; have q4 := (HS.out _ hSw).2.2.2.1; have q5 := (HS.out _ hSw).2.2.2.2; go_simp; (try rw [if_neg (by omega)]); try with_reducible rfl)
  simp only [Act.put, List.setIfInBounds_toArray, List.set_cons_zero, List.set_cons_succ]
  refine AtT.taked (i := 11) (v := ?_) (some 17) rfl rfl (by kernel_rfl) (by kernel_rfl) (by kernel_rfl) (by kernel_rfl) (fun _ _ _ h => h) (Or.inl ⟨by kernel_rfl, ?_⟩) hS ?_
  rotate_left
  · (intro wS hSw; (try dsimp only at hSw); have q1 := (HS.out _ hSw).1; have q2 := (HS.out _ hSw).2.1; have q3 := (HS.out _ hSw).2.2.1; have q4 := (HS.out _ hSw).2.2.2.1; have q5 := (HS.out _ hSw).2.2.2.2; go_simp; (try rw [if_neg (by omega)]); try with_reducible rfl)
  simp only [Act.put, List.setIfInBounds_toArray, List.set_cons_zero, List.set_cons_succ]
  refine AtT.taked (i := 12) (v := ?_) (some 18) rfl rfl (by kernel_rfl) (by kernel_rfl) (by kernel_rfl) (by kernel_rfl) (fun _ _ _ h => h) (Or.inl ⟨by kernel_rfl, ?_⟩) hS ?_
  rotate_left
  · (intro wS hSw; (try dsimp only at hSw); go_simp; (try rw [if_neg (by omega)]); try with_reducible rfl)
  simp only [Act.put, List.setIfInBounds_toArray, List.set_cons_zero, List.set_cons_succ]
  refine AtT.taked (i := 13) (v := ?_) (some 19) rfl rfl (by kernel_rfl) (by kernel_rfl) (by kernel_rfl) (by kernel_rfl) (fun _ _ _ h => h) (Or.inl ⟨by kernel_rfl, ?_⟩) hS ?_
  rotate_left
  · (intro wS hSw; (try dsimp only at hSw); have q1 := (HS.out _ hSw).1; have q2 := (HS.out _ hSw).2.1; have q3 := (HS.out _ hSw).2.2.1; have q4 := (HS.out _ hSw).2.2.2.1; have q5 := (HS.out _ hSw).2.2.2.2; go_simp; (try rw [if_neg (by omega)]); try with_reducible rfl)
  simp only [Act.put, List.setIfInBounds_toArray, List.set_cons_zero, List.set_cons_succ]
  refine AtT.taked (i := 14) (v := ?_) (some 20) rfl rfl (by kernel_rfl) (by kernel_rfl) (by kernel_rfl) (by kernel_rfl) (fun _ _ _ h => h) (Or.inl ⟨by kernel_rfl, ?_⟩) hS ?_
  rotate_left
  · (intro wS hSw; (try dsimp only at hSw); go_simp; (try rw [if_neg (by omega)]); try with_reducible rfl)
  simp only [Act.put, List.setIfInBounds_toArray, List.set_cons_zero, List.set_cons_succ]
  refine AtT.taked (i := 15) (v := ?_) (some 21) rfl rfl (by kernel_rfl) (by kernel_rfl) (by kernel_rfl) (by kernel_rfl) (fun _ _ _ h => h) (Or.inl ⟨by kernel_rfl, ?_⟩) hS ?_
  rotate_left
  · (intro wS hSw; (try dsimp only at hSw); have q1 := (HS.out _ hSw).1; have q2 := (HS.out _ hSw).2.1; have q3 := (HS.out _ hSw).2.2.1; have q4 := (HS.out _ hSw).2.2.2.1; have q5 := (HS.out _ hSw).2.2.2.2; go_simp; (try rw [if_neg (by omega)]); try with_reducible rfl)
  simp only [Act.put, List.setIfInBounds_toArray, List.set_cons_zero, List.set_cons_succ]
  refine AtT.taked (i := 16) (v := ?_) (some 22) rfl rfl (by kernel_rfl) (by kernel_rfl) (by kernel_rfl) (by kernel_rfl) (fun _ _ _ h => h) (Or.inl ⟨by kernel_rfl, ?_⟩) hS ?_
  rotate_left
  · (intro wS hSw; (try dsimp only at hSw); have q1 := (HS.out _ hSw).1; have q2 := (HS.out _ hSw).2.1; have q3 := (HS.out _ hSw).2.2.1; have q4 := (HS.out _ hSw).2.2.2.1; have q5 := (HS.out _ hSw).2.2.2.2; go_simp; (try rw [if_neg (by omega)]); try with_reducible rfl)
  simp only [Act.put, List.setIfInBounds_toArray, List.set_cons_zero, List.set_cons_succ]
  refine AtT.taked (i := 17) (v := ?_) (some 23) rfl rfl (by kernel_rfl) (by kernel_rfl) (by kernel_rfl) (by kernel_rfl) (fun _ _ _ h => h) (Or.inl ⟨by kernel_rfl, ?_⟩) hS ?_
  rotate_left
  · (intro wS hSw; (try dsimp only at hSw); go_simp; (try rw [if_neg (by omega)]); try with_reducible rfl)
  simp only [Act.put, List.setIfInBounds_toArray, List.set_cons_zero, List.set_cons_succ]
  refine AtT.taked (i := 18) (v := ?_) (some 24) rfl rfl (by kernel_rfl) (by kernel_rfl) (by kernel_rfl) (by kernel_rfl) (fun _ _ _ h => h) (Or.inl ⟨by kernel_rfl, ?_⟩) hS ?_
  rotate_left
  · (intro wS hSw; (try dsimp only at hSw); have q1 := (HS.out _ hSw).1; have q2 := (HS.out _ hSw).2.1; have q3 := (HS.out _ hSw).2.2.1; have q4 := (HS.out _ hSw).2.2.2.1; have q5 := (HS.out _ hSw).2.2.2.2; go_simp; (try rw [if_neg (by omega)]); try with_reducible rfl)
  simp only [Act.put, List.setIfInBounds_toArray, List.set_cons_zero, List.set_cons_succ]
  refine AtT.taked (i := 19) (v := ?_) (some 25) rfl rfl (by kernel_rfl) (by kernel_rfl) (by kernel_rfl) (by kernel_rfl) (fun _ _ _ h => h) (Or.inl ⟨by kernel_rfl, ?_⟩) hS ?_
  rotate_left
  · (intro wS hSw; (try dsimp only at hSw); go_simp; (try rw [if_neg (by omega)]); try with_reducible rfl)
  simp only [Act.put, List.setIfInBounds_toArray, List.set_cons_zero, List.set_cons_succ]
  refine AtT.taked (i := 20) (v := ?_) (some 26) rfl rfl (by kernel_rfl) (by kernel_rfl) (by kernel_rfl) (by kernel_rfl) (fun _ _ _ h => h) (Or.inl ⟨by kernel_rfl, ?_⟩) hS ?_
  rotate_left
  · (intro wS hSw; (try dsimp only at hSw); have q1 := (HS.out _ hSw).1; have q2 := (HS.out _ hSw).2.1; have q3 := (HS.out _ hSw).2.2.1; have q4 := (HS.out _ hSw).2.2.2.1; have q5 := (HS.out _ hSw).2.2.2.2; go_simp; (try rw [if_neg (by omega)]); try with_reducible rfl)
  simp only [Act.put, List.setIfInBounds_toArray, List.set_cons_zero, List.set_cons_succ]
  refine AtT.only (i := 10) (by kernel_rfl) rfl rfl ?_
  intro K hK
  go_simp
  refine (compare_any _ _ _).mono ?_
  rintro e w2 ⟨rfl, rfl⟩
  try dsimp only
  refine hK.out _ _ (hM) ?_
  clear hK K hS
  have hS := hM
  refine AtT.only (i := 21) (by kernel_rfl) rfl rfl ?_
  intro K hK
  go_simp
  refine (compare_any _ _ _).mono ?_
  rintro e w2 ⟨rfl, rfl⟩
  try dsimp only
  refine hK.out _ _ (hM) ?_
  clear hK K hS
  have hS := hM
  refine AtT.only (i := 22) (by kernel_rfl) rfl rfl ?_
  intro K hK
  go_simp
  refine hK.out _ _ (by apply Mem.tail; (repeat' (first | with_reducible exact hM | with_reducible exact hMp | with_reducible apply Mem.drew | with_reducible apply Mem.drewN | with_reducible apply Mem.alloc | with_reducible apply Mem.set | with_reducible exact Sto.row | ((with_reducible refine Sto.rowEq2 ?_ ?_); omega; rfl) | ((with_reducible refine Sto.rowEq ?_); omega) | with_reducible apply Sto.int | with_reducible apply Sto.there | with_reducible assumption | (unfold I64; omega) | (with_reducible (have hMx := Mem.undrew hM; exact hMx)) | (with_reducible (have hMx := Mem.undrew hMp; exact hMx))))) ?_
  clear hK K hS
  have hMp := hM
  apply Mem.atT
  · (repeat' (first | with_reducible exact hM | with_reducible exact hMp | with_reducible apply Mem.drew | with_reducible apply Mem.drewN | with_reducible apply Mem.alloc | with_reducible apply Mem.set | with_reducible exact Sto.row | ((with_reducible refine Sto.rowEq2 ?_ ?_); omega; rfl) | ((with_reducible refine Sto.rowEq ?_); omega) | with_reducible apply Sto.int | with_reducible apply Sto.there | with_reducible assumption | (unfold I64; omega) | (with_reducible (have hMx := Mem.undrew hM; exact hMx)) | (with_reducible (have hMx := Mem.undrew hMp; exact hMx))))
  clear hM
  intro hM
  (try simp only [World.size_alloc, World.size_setCell, World.heap_drewN, heapDrew, Nat.add_assoc, Nat.reduceAdd, List.setIfInBounds_toArray, List.set_cons_zero, List.set_cons_succ, List.cons_append, List.nil_append] at hM)
  have hS := hM.tail
  refine AtT.only (i := 23) (by kernel_rfl) rfl rfl ?_
  intro K hK
  go_simp
  refine (orTwo_any _ _ _ _ (hM.row .here)).mono ?_
  rintro e w2 ⟨rfl, rfl⟩
  try dsimp only
  refine hK.out _ _ (hM.tail) ?_
  clear hK K hS
  have hS := hM.tail
  refine AtT.last (by kernel_rfl) rfl (by kernel_rfl) ?_
  intro K hK
  clear hS
  go_simp
  refine hK.out _ _ ?_
  clear hK K
  go_wp2
  go_ret
  exact ⟨ri HF.out.symm, (by apply Mem.below; (repeat' (first | with_reducible exact hM | with_reducible exact hMp | with_reducible apply Mem.drew | with_reducible apply Mem.drewN | with_reducible apply Mem.alloc | with_reducible apply Mem.set | with_reducible exact Sto.row | ((with_reducible refine Sto.rowEq2 ?_ ?_); omega; rfl) | ((with_reducible refine Sto.rowEq ?_); omega) | with_reducible apply Sto.int | with_reducible apply Sto.there | with_reducible assumption | (unfold I64; omega) | (with_reducible (have hMx := Mem.undrew hM; exact hMx)) | (with_reducible (have hMx := Mem.undrew hMp; exact hMx)))))⟩

/-- the numbers of the orders, in the order in which they are served -/
def servL (os : List OrderI) : List Int := outS (befO os) os.length
set_option maxRecDepth 100000 in
set_option maxHeartbeats 4000000 in
theorem implServing_any (a : Option Addr) (n c : Nat) (xs : List OrderI) (w : World) (h : Rd FOrder w a n c xs) (h15 : n ≤ 15) :
    Calls Try.prog 82 #[.slice a n c] w fun e w' => ∃ a' c', e = .returned (.slice a' n c') ∧ Mem w.heap.size w w' [intE a' n c' (servL xs)] := by
  have hn := h.cap
  have hc := h.nroom
  have HL := Lib.hid h.len
  have hM := Mem.start w
  have hmf : ∀ (fn : Fn) (first cap : Array Value) (w : World), (Instr.makeFunc fn first cap).run Try.prog w = .ok (.func fn first cap) w := fun _ _ _ _ => rfl
  obtain ⟨i0, hi, hz0, hz1, hz2⟩ := info_parts Try.info3
  go_enter Try.func82, Try.ntmps82
  go_wp2
  go_loopw [3, 8] (fun s i wr => ∃ (k g c' : Nat), k ≤ n ∧ i = .int .i64 k ∧ s = .slice (some ⟨g, 0, none⟩) k c' ∧ Mem w.heap.size w wr [intE (some ⟨g, 0, none⟩) k c' (idxL k), rowE w.heap.size 26 #[.slice a n c]]) (fun _ i _ => n - (intOf i).toNat)
  case atStart =>
    refine ⟨0, _, _, Nat.zero_le _, rfl, rfl, ?_⟩
    refine Mem.toInts (b := w.heap.size + 1) (cs := #[]) (xs := []) (G := [rowE (w.heap.size + 1) 3 #[], rowE w.heap.size 26 #[.slice a n c]]) ?_ .here rfl (by simp) (by simp)
    apply Mem.cast
    · (repeat' (first | with_reducible exact hM | with_reducible exact hMp | with_reducible apply Mem.drew | with_reducible apply Mem.drewN | with_reducible apply Mem.alloc | with_reducible apply Mem.set | with_reducible exact Sto.row | ((with_reducible refine Sto.rowEq2 ?_ ?_); omega; rfl) | ((with_reducible refine Sto.rowEq ?_); omega) | with_reducible apply Sto.int | with_reducible apply Sto.there | with_reducible assumption | (unfold I64; omega) | (with_reducible (have hMx := Mem.undrew hM; exact hMx)) | (with_reducible (have hMx := Mem.undrew hMp; exact hMx))))
    · simp only [World.size_alloc]
  case round =>
    clear hM
    obtain ⟨k, g, c', hk, rfl, rfl, hM⟩ := hrel
    by_cases hlt : k < n
    · go_wp2_with (at_builtin; apply Mem.atL; (focus ((repeat' (first | with_reducible exact hM | with_reducible exact hMp | with_reducible apply Mem.drew | with_reducible apply Mem.drewN | with_reducible apply Mem.alloc | with_reducible apply Mem.set | with_reducible exact Sto.row | ((with_reducible refine Sto.rowEq2 ?_ ?_); omega; rfl) | ((with_reducible refine Sto.rowEq ?_); omega) | with_reducible apply Sto.int | with_reducible apply Sto.there | with_reducible assumption | (unfold I64; omega) | (with_reducible (have hMx := Mem.undrew hM; exact hMx)) | (with_reducible (have hMx := Mem.undrew hMp; exact hMx)))); done)); clear hM; intro hM; refine wpList_appendI rfl (.tmp 11) (.tmp 13) 41 rfl 3 i0 Try.underlying41 hi hz0 hz1 hz2 w.heap.size (some ⟨g, 0, none⟩) k c' (idxL k) rfl (hM.ints (.there .here)).row (some ⟨wr.heap.size, 0, none⟩) 1 1 [(k : Int)] rfl (hM.oneInt .here (by unfold I64; omega)) ?c2 hM.size ?_)
      case c2 => omega
      intro a2 c2 w2 hrow hg hbl
      have hO := own_of hrow (by simp [idxL_length]) (by omega) (by rw [← idxL_succ]; exact idxL_wf (by omega))
      rw [← idxL_succ] at hO
      replace hM := hM.appended (.there .here) hO hg (fun k hk => by simpa using hbl k hk)
      obtain ⟨g2, rfl, _⟩ := hO.head (by omega)
      clear hO hrow hg hbl
      go_wp2
      go_roundw
      case rel => exact ⟨k + 1, g2, c2, by omega, by go_num, rfl, hM.tail⟩
      case measure => simp [intOf]; omega
    · obtain rfl : k = n := by omega
      obtain ⟨k1, f1, l1⟩ := hM.row (.there .here)
      go_wp2_with fail
      clear k1 f1 l1
      apply Mem.at
      · (repeat' (first | with_reducible exact hM | with_reducible exact hMp | with_reducible apply Mem.drew | with_reducible apply Mem.drewN | with_reducible apply Mem.alloc | with_reducible apply Mem.set | with_reducible exact Sto.row | ((with_reducible refine Sto.rowEq2 ?_ ?_); omega; rfl) | ((with_reducible refine Sto.rowEq ?_); omega) | with_reducible apply Sto.int | with_reducible apply Sto.there | with_reducible assumption | (unfold I64; omega) | (with_reducible (have hMx := Mem.undrew hM; exact hMx)) | (with_reducible (have hMx := Mem.undrew hMp; exact hMx))))
      clear hM
      intro hM
      (try simp only [World.size_alloc, World.size_setCell, World.heap_drewN, heapDrew, Nat.add_assoc, Nat.reduceAdd, List.setIfInBounds_toArray, List.set_cons_zero, List.set_cons_succ, List.cons_append, List.nil_append] at hM)
      refine (sortStable_any w.heap.size w _ g k c' (idxL k) _ _ (befO xs) _ hM (by omega) (enters Try.func128 (by kernel_rfl) rfl) ?_).mono ?_
      · intro x hx y hy w' hM'
        obtain ⟨i, hi', rfl⟩ := List.mem_map.1 hx
        obtain ⟨j, hj', rfl⟩ := List.mem_map.1 hy
        refine (serving1_any a k c xs i j w.heap.size w' (h.ext hM'.below) (List.mem_range.1 hi') (List.mem_range.1 hj') (hM'.row .here)).mono ?_
        rintro e w'' ⟨rfl, hb⟩
        exact ⟨⟨_, rfl, befO_eq xs i j⟩, hb⟩
      rintro e w3 ⟨rfl, hM3⟩
      clear hM
      rw [isortL_idx] at hM3
      go_wp2
      go_ret
      exact ⟨_, _, rfl, by rw [servL, HL.out]; exact hM3.first⟩
end Go.Proofs.Ytfnaenekdenmkaa

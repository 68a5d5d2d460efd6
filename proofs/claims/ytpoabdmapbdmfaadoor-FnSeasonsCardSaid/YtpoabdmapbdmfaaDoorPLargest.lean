/- Lemmas. -/
import Derived.Test.YtpoabdmapbdmfaaDoorPSortI
import Derived.Test.YtpoabdmapbdmfaaDoorPShare
import Derived.Deep.DeepCutAuto
namespace Go.Proofs.YtpoabdmapbdmfaaDoor
set_option linter.unusedSimpArgs false
set_option linter.unusedVariables false
open Go.RowKit

/-- where x comes to stand among the first j of A -/
def scanK (lt : Int → Int → Bool) (x : Int) (A : List Int) : Nat → Nat
  | 0 => 0
  | j + 1 => if lt x (A.getD j 0) then scanK lt x A j else j + 1
theorem scanK_le (lt : Int → Int → Bool) (x : Int) (A : List Int) : ∀ j, scanK lt x A j ≤ j
  | 0 => Nat.le_refl _
  | j + 1 => by
    rw [scanK]
    split
    · have := scanK_le lt x A j; omega
    · omega
theorem scanK_append (lt : Int → Int → Bool) (x : Int) (A C : List Int) : ∀ j, j ≤ A.length → scanK lt x (A ++ C) j = scanK lt x A j
  | 0, _ => rfl
  | j + 1, h => by
    rw [scanK, scanK, scanK_append lt x A C j (by omega)]
    rw [List.getD_eq_getElem?_getD, List.getElem?_append_left (by omega), ← List.getD_eq_getElem?_getD]
theorem sink_scan (lt : Int → Int → Bool) (x : Int) : ∀ (j : Nat) (A R : List Int), A.length = j → sinkL lt j (A ++ x :: R) = A.take (scanK lt x A j) ++ x :: (A.drop (scanK lt x A j) ++ R)
  | 0, A, R, h => by
    obtain rfl := List.eq_nil_of_length_eq_zero h
    rfl
  | j + 1, A, R, h => by
    obtain ⟨C, y, rfl⟩ : ∃ C y, A = C ++ [y] := by
      rcases List.eq_nil_or_concat A with rfl | ⟨C, y, rfl⟩
      · simp at h
      · exact ⟨C, y, by simp⟩
    have hC : C.length = j := by simpa using h
    have e1 : (C ++ [y] ++ x :: R).getD (j + 1) 0 = x := by
      rw [List.getD_eq_getElem?_getD, List.getElem?_append_right (by simp [hC])]
      simp [hC]
    have e2 : (C ++ [y] ++ x :: R).getD j 0 = y := by
      rw [List.append_assoc, List.getD_eq_getElem?_getD, List.getElem?_append_right (by omega)]
      simp [hC]
    have e3 : (C ++ [y]).getD j 0 = y := by
      rw [List.getD_eq_getElem?_getD, List.getElem?_append_right (by omega)]
      simp [hC]
    rw [sinkL, scanK, e1, e2, e3]
    split
    · have e4 : ((C ++ [y] ++ x :: R).set (j + 1) y).set j x = C ++ x :: (y :: R) := by
        rw [List.append_assoc, List.set_append_right _ _ (by omega), hC, List.set_append_right _ _ (by omega), hC]
        have : j + 1 - j = 1 := by omega
        rw [this, Nat.sub_self]
        rfl
      have hk := scanK_le lt x C j
      rw [e4, sink_scan lt x j C (y :: R) hC, scanK_append lt x C [y] j (by omega), List.take_append_of_le_length (by omega), List.drop_append_of_le_length (by omega)]
      simp
    · rw [List.take_of_length_le (by omega), List.drop_of_length_le (by omega)]
      simp
/-- 0, 1, .. -/
def idxL (n : Nat) : List Int := (List.range n).map fun (i : Nat) => (i : Int)
theorem idxL_length (n : Nat) : (idxL n).length = n := by simp [idxL]
theorem idxL_succ (n : Nat) : idxL (n + 1) = idxL n ++ [(n : Int)] := by simp [idxL, List.range_succ]
theorem idxL_drop {n k : Nat} (h : k < n) : (idxL n).drop k = (k : Int) :: (idxL n).drop (k + 1) := by
  rw [List.drop_eq_getElem_cons (by rw [idxL_length]; exact h)]
  simp [idxL]
/-- the first k numbers, each put to its place -/
def outS (lt : Int → Int → Bool) : Nat → List Int
  | 0 => []
  | k + 1 => (outS lt k).take (scanK lt k (outS lt k) k) ++ (k : Int) :: (outS lt k).drop (scanK lt k (outS lt k) k)
theorem outS_length (lt : Int → Int → Bool) : ∀ k, (outS lt k).length = k
  | 0 => rfl
  | k + 1 => by
    have h1 := outS_length lt k
    have h2 := scanK_le lt k (outS lt k) k
    rw [outS, List.length_append, List.length_take, List.length_cons, List.length_drop, h1]
    omega
theorem isortK_idx (lt : Int → Int → Bool) (n : Nat) : ∀ k, k ≤ n → isortK lt k (idxL n) = outS lt k ++ (idxL n).drop k
  | 0, _ => by simp [isortK, outS]
  | k + 1, h => by
    rw [isortK, isortK_idx lt n k (by omega), idxL_drop (show k < n by omega), sink_scan lt k k _ _ (outS_length lt k), outS]
    simp
theorem isortL_idx (lt : Int → Int → Bool) (n : Nat) : isortL lt (idxL n) = outS lt n := by
  rw [isortL, idxL_length, isortK_idx lt n n (Nat.le_refl _), List.drop_of_length_le (by rw [idxL_length]; exact Nat.le_refl _), List.append_nil]
theorem outS_mem (lt : Int → Int → Bool) : ∀ k, ∀ x ∈ outS lt k, 0 ≤ x ∧ x < k
  | 0 => by simp [outS]
  | k + 1 => by
    intro x hx
    rw [outS] at hx
    have h := outS_mem lt k
    rcases List.mem_append.1 hx with hx | hx
    · have := h x (List.mem_of_mem_take hx); omega
    · rcases List.mem_cons.1 hx with rfl | hx
      · omega
      · have := h x (List.mem_of_mem_drop hx); omega

/-- the hectares of the fire with a number -/
def hAt (xs : List FireI) (i : Int) : Int := (xs.getD i.toNat FireI.zero).hect
def gtH (xs : List FireI) (x y : Int) : Bool := decide (hAt xs y < hAt xs x)
/-- the numbers of the fires, those with more hectares first -/
def largeL (xs : List FireI) : List Int := outS (gtH xs) xs.length
theorem largeL_length (xs : List FireI) : (largeL xs).length = xs.length := outS_length _ _
theorem cmpI_neg (x y : Int) : decide (cmpI x y < 0) = decide (x < y) := by
  unfold cmpI
  by_cases h1 : x < y
  · rw [if_pos h1]; simp [h1]
  · rw [if_neg h1]
    by_cases h2 : y < x
    · rw [if_pos h2]; simp [h1]
    · rw [if_neg h2]; simp [h1]

set_option maxRecDepth 100000 in
set_option maxHeartbeats 4000000 in
theorem largest1_any (a : Option Addr) (n c : Nat) (xs : List FireI) (i k : Nat) (b : Nat) (w : World) (h : Rd FFire w a n c xs) (hi : i < n) (hk : k < n) (hr : Row w b #[.slice a n c]) :
    Calls Tryd.prog 100 #[.int .i64 i, .int .i64 k, .pointer (some ⟨b, 0, none⟩)] w fun e w' => e = .returned (.int .i64 (cmpI (hAt xs k) (hAt xs i))) ∧ Below w.heap.size w w' := by
  have hn := h.cap
  have hc := h.nroom
  have hM := Mem.start w
  obtain ⟨bb, off, rfl, _⟩ := h.at' _ hi
  obtain ⟨hb, hc0, hc1, hc2, hc3⟩ := h.cellFire hi
  obtain ⟨_, hd0, hd1, hd2, hd3⟩ := h.cellFire hk
  obtain ⟨x, hx⟩ : ∃ x, (xs.getD i FireI.zero).hect = x := ⟨_, rfl⟩
  obtain ⟨y, hy⟩ : ∃ y, (xs.getD k FireI.zero).hect = y := ⟨_, rfl⟩
  have HF := Lib.hid (show cmpI (hAt xs k) (hAt xs i) = cmpI y x by simp only [hAt, Int.toNat_natCast, hx, hy])
  rw [hx] at hc2
  rw [hy] at hd2
  clear hx hy hc0 hc1 hc3 hd0 hd1 hd3
  have hcap := hr.cell 0
  have HS : Hid (∀ w1 : World, Mem w.heap.size w w1 [] → w1.cell? ⟨b, 0, none⟩ = some (.slice (some ⟨bb, off, none⟩) n c) ∧ w1.cell? ⟨bb, off + i * 4 + 2, none⟩ = some (.int .i64 x) ∧ w1.cell? ⟨bb, off + k * 4 + 2, none⟩ = some (.int .i64 y)) := by
    intro w1 h1
    refine ⟨?_, ?_, ?_⟩
    · rw [h1.below.cell (p := ⟨b, 0, none⟩) hr.lt]; exact hcap
    · rw [h1.below.cell (p := ⟨bb, off + i * 4 + 2, none⟩) hb]; exact hc2
    · rw [h1.below.cell (p := ⟨bb, off + k * 4 + 2, none⟩) hb]; exact hd2
  clear hcap hc2 hd2
  have i0 : (0 : Int) ≤ (i : Int) := by omega
  have i1 : (i : Int) < (n : Int) := by omega
  have j0 : (0 : Int) ≤ (k : Int) := by omega
  have j1 : (k : Int) < (n : Int) := by omega
  go_enter Tryd.func100, Tryd.ntmps100
  go_wp2_with fail
  refine AtT.startA hM hM 11 (by kernel_rfl) ?_
  clear hM
  intro wd hM
  have hS := hM
  refine AtT.taked (i := 0) (v := ?_) (some 6) rfl rfl (by kernel_rfl) (by kernel_rfl) (by kernel_rfl) (by kernel_rfl) (fun _ _ _ h => h) (Or.inl ⟨by kernel_rfl, ?_⟩) hS ?_
  rotate_left
  · (intro wS hSw; (try dsimp only at hSw); have q1 := (HS.out _ hSw).1; have q2 := (HS.out _ hSw).2.1; have q3 := (HS.out _ hSw).2.2; go_simp; (try rw [if_neg (by omega)]); try with_reducible rfl)
  simp only [Act.put, List.setIfInBounds_toArray, List.set_cons_zero, List.set_cons_succ]
  refine AtT.taked (i := 1) (v := ?_) (some 7) rfl rfl (by kernel_rfl) (by kernel_rfl) (by kernel_rfl) (by kernel_rfl) (fun _ _ _ h => h) (Or.inl ⟨by kernel_rfl, ?_⟩) hS ?_
  rotate_left
  · (intro wS hSw; (try dsimp only at hSw); go_simp; (try rw [if_neg (by omega)]); try with_reducible rfl)
  simp only [Act.put, List.setIfInBounds_toArray, List.set_cons_zero, List.set_cons_succ]
  refine AtT.taked (i := 2) (v := ?_) (some 8) rfl rfl (by kernel_rfl) (by kernel_rfl) (by kernel_rfl) (by kernel_rfl) (fun _ _ _ h => h) (Or.inl ⟨by kernel_rfl, ?_⟩) hS ?_
  rotate_left
  · (intro wS hSw; (try dsimp only at hSw); have q1 := (HS.out _ hSw).1; have q2 := (HS.out _ hSw).2.1; have q3 := (HS.out _ hSw).2.2; go_simp; (try rw [if_neg (by omega)]); try with_reducible rfl)
  simp only [Act.put, List.setIfInBounds_toArray, List.set_cons_zero, List.set_cons_succ]
  refine AtT.taked (i := 3) (v := ?_) (some 9) rfl rfl (by kernel_rfl) (by kernel_rfl) (by kernel_rfl) (by kernel_rfl) (fun _ _ _ h => h) (Or.inl ⟨by kernel_rfl, ?_⟩) hS ?_
  rotate_left
  · (intro wS hSw; (try dsimp only at hSw); go_simp; (try rw [if_neg (by omega)]); try with_reducible rfl)
  simp only [Act.put, List.setIfInBounds_toArray, List.set_cons_zero, List.set_cons_succ]
  refine AtT.taked (i := 4) (v := ?_) (some 10) rfl rfl (by kernel_rfl) (by kernel_rfl) (by kernel_rfl) (by kernel_rfl) (fun _ _ _ h => h) (Or.inl ⟨by kernel_rfl, ?_⟩) hS ?_
  rotate_left
  · (intro wS hSw; (try dsimp only at hSw); have q1 := (HS.out _ hSw).1; have q2 := (HS.out _ hSw).2.1; have q3 := (HS.out _ hSw).2.2; go_simp; (try rw [if_neg (by omega)]); try with_reducible rfl)
  simp only [Act.put, List.setIfInBounds_toArray, List.set_cons_zero, List.set_cons_succ]
  refine AtT.taked (i := 5) (v := ?_) (some 11) rfl rfl (by kernel_rfl) (by kernel_rfl) (by kernel_rfl) (by kernel_rfl) (fun _ _ _ h => h) (Or.inl ⟨by kernel_rfl, ?_⟩) hS ?_
  rotate_left
  · (intro wS hSw; (try dsimp only at hSw); have q1 := (HS.out _ hSw).1; have q2 := (HS.out _ hSw).2.1; have q3 := (HS.out _ hSw).2.2; go_simp; (try rw [if_neg (by omega)]); try with_reducible rfl)
  simp only [Act.put, List.setIfInBounds_toArray, List.set_cons_zero, List.set_cons_succ]
  refine AtT.taked (i := 6) (v := ?_) (some 12) rfl rfl (by kernel_rfl) (by kernel_rfl) (by kernel_rfl) (by kernel_rfl) (fun _ _ _ h => h) (Or.inl ⟨by kernel_rfl, ?_⟩) hS ?_
  rotate_left
  · (intro wS hSw; (try dsimp only at hSw); go_simp; (try rw [if_neg (by omega)]); try with_reducible rfl)
  simp only [Act.put, List.setIfInBounds_toArray, List.set_cons_zero, List.set_cons_succ]
  refine AtT.taked (i := 7) (v := ?_) (some 13) rfl rfl (by kernel_rfl) (by kernel_rfl) (by kernel_rfl) (by kernel_rfl) (fun _ _ _ h => h) (Or.inl ⟨by kernel_rfl, ?_⟩) hS ?_
  rotate_left
  · (intro wS hSw; (try dsimp only at hSw); have q1 := (HS.out _ hSw).1; have q2 := (HS.out _ hSw).2.1; have q3 := (HS.out _ hSw).2.2; go_simp; (try rw [if_neg (by omega)]); try with_reducible rfl)
  simp only [Act.put, List.setIfInBounds_toArray, List.set_cons_zero, List.set_cons_succ]
  refine AtT.taked (i := 8) (v := ?_) (some 14) rfl rfl (by kernel_rfl) (by kernel_rfl) (by kernel_rfl) (by kernel_rfl) (fun _ _ _ h => h) (Or.inl ⟨by kernel_rfl, ?_⟩) hS ?_
  rotate_left
  · (intro wS hSw; (try dsimp only at hSw); go_simp; (try rw [if_neg (by omega)]); try with_reducible rfl)
  simp only [Act.put, List.setIfInBounds_toArray, List.set_cons_zero, List.set_cons_succ]
  refine AtT.taked (i := 9) (v := ?_) (some 15) rfl rfl (by kernel_rfl) (by kernel_rfl) (by kernel_rfl) (by kernel_rfl) (fun _ _ _ h => h) (Or.inl ⟨by kernel_rfl, ?_⟩) hS ?_
  rotate_left
  · (intro wS hSw; (try dsimp only at hSw); have q1 := (HS.out _ hSw).1; have q2 := (HS.out _ hSw).2.1; have q3 := (HS.out _ hSw).2.2; go_simp; (try rw [if_neg (by omega)]); try with_reducible rfl)
  simp only [Act.put, List.setIfInBounds_toArray, List.set_cons_zero, List.set_cons_succ]
  refine AtT.only (i := 10) (by kernel_rfl) rfl rfl ?_
  intro K hK
  go_simp
  refine (compare_any _ _ _).mono ?_
  rintro e w2 ⟨rfl, rfl⟩
  try dsimp only
  refine hK.out _ _ (hM) ?_
  clear hK K hS
  have hS := hM
  refine AtT.last (by kernel_rfl) rfl (by kernel_rfl) ?_
  intro K hK
  clear hS
  go_simp
  refine hK.out _ _ ?_
  clear hK K
  go_wp2
  go_ret
  exact ⟨ri HF.out.symm, (by apply Mem.below; (repeat' (first | with_reducible exact hM | with_reducible exact hMp | with_reducible apply Mem.drew | with_reducible apply Mem.drewN | with_reducible apply Mem.alloc | with_reducible apply Mem.set | with_reducible exact Sto.row | ((with_reducible refine Sto.rowEq2 ?_ ?_); omega; rfl) | ((with_reducible refine Sto.rowEq ?_); omega) | with_reducible apply Sto.int | with_reducible apply Sto.there | with_reducible assumption | (unfold I64; omega) | (with_reducible (have hMx := Mem.undrew hM; exact hMx)) | (with_reducible (have hMx := Mem.undrew hMp; exact hMx)))))⟩

set_option maxHeartbeats 1000000 in
theorem stable_any (B : Nat) (w0 : World) (G : List Ent) (g n c : Nat) (xs : List Int) (f : FuncId) (caps : Array Value) (lt : Int → Int → Bool) (w : World) (hM : Mem B w0 w (intE (some ⟨g, 0, none⟩) n c xs :: G)) (hn : n ≤ 19)
    (hcf : ∀ args w, (callFunc f args).run Tryd.prog w = .ok (.enter f args) w) (hc : Compares f caps lt B w0 G xs) :
    Calls Tryd.prog 120 #[.slice (some ⟨g, 0, none⟩) n c, .int .i64 n, .func (.func f) #[] caps] w fun e w' => e = .returned (.tuple #[]) ∧ Mem B w0 w' (intE (some ⟨g, 0, none⟩) n c (isortL lt xs) :: G) := by
  have HC := Lib.hid hc; clear hc
  go_enter Tryd.func120, Tryd.ntmps120
  go_wp2
  go_loopw [7, 8] (fun a b wr => a = .int .i64 0 ∧ b = .int .i64 20 ∧ wr = w) (fun _ _ _ => 0)
  case atStart => exact ⟨rfl, rfl, rfl⟩
  case round =>
    obtain ⟨rfl, rfl, rfl⟩ := hrel
    go_wp2_with fail
    refine (insertion_any B w0 G g n c xs f caps lt _ hM (by omega) hcf HC.out).mono ?_
    rintro e w2 ⟨rfl, hM2⟩
    go_wp2
    go_loopw [6] (fun a wr => a = .int .i64 20 ∧ wr = w2) (fun _ _ => 0)
    case atStart => exact ⟨rfl, rfl⟩
    case round =>
      obtain ⟨rfl, rfl⟩ := hrel
      go_wp2
      go_end0
      exact ⟨rfl, hM2⟩
theorem sortStable_any (B : Nat) (w0 : World) (G : List Ent) (g n c : Nat) (xs : List Int) (f : FuncId) (caps : Array Value) (lt : Int → Int → Bool) (w : World) (hM : Mem B w0 w (intE (some ⟨g, 0, none⟩) n c xs :: G)) (hn : n ≤ 19)
    (hcf : ∀ args w, (callFunc f args).run Tryd.prog w = .ok (.enter f args) w) (hc : Compares f caps lt B w0 G xs) :
    Calls Tryd.prog 99 #[.slice (some ⟨g, 0, none⟩) n c, .func (.func f) #[] caps] w fun e w' => e = .returned (.tuple #[]) ∧ Mem B w0 w' (intE (some ⟨g, 0, none⟩) n c (isortL lt xs) :: G) := by
  have HC := Lib.hid hc; clear hc
  go_enter Tryd.func99, Tryd.ntmps99
  go_wp2_with fail
  refine (stable_any B w0 G g n c xs f caps lt _ hM hn hcf HC.out).mono ?_
  rintro e w2 ⟨rfl, hM2⟩
  go_wp2
  go_end0
  exact ⟨rfl, hM2⟩

theorem Mem.cast {B : Nat} {w0 w : World} {G G' : List Ent} (h : Mem B w0 w G) (e : G = G') : Mem B w0 w G' := e ▸ h
/-- one number in a block of its own -/
theorem Mem.oneInt {B : Nat} {w0 w : World} {G : List Ent} {b : Nat} {x : Int} (h : Mem B w0 w G) (i : In G (rowE b 3 #[.int .i64 x])) (hx : I64 x) : Ints w (some ⟨b, 0, none⟩) 1 1 [x] := by
  have hr := h.row i
  refine ⟨rfl, Nat.le_refl _, by unfold maxLen; omega, by simp, by omega, by simpa using hx, fun k hk => ⟨b, 0, rfl, hr.lt, fun j hj => ?_⟩⟩
  obtain rfl : j = 0 := by omega
  rw [hr.cell]
  rfl
theorem own_of {B : Nat} {w : World} {a : Option Addr} {n c : Nat} {xs : List Int} (hr : w.ownsRow B 3 1 (.slice a n c) n (cellsI xs)) (hl : xs.length = n) (hn : n ≤ 17592186044416) (hw : ∀ x ∈ xs, I64 x) : Own B w a n c xs := ⟨hl, hn, hw, hr⟩
theorem idxL_wf {n : Nat} (h : n ≤ 1000) : ∀ x ∈ idxL n, I64 x := by
  intro x hx
  obtain ⟨i, hi, rfl⟩ := List.mem_map.1 hx
  have := List.mem_range.1 hi
  unfold I64; omega

set_option maxRecDepth 100000 in
set_option maxHeartbeats 4000000 in
theorem implLargest_any (a : Option Addr) (n c : Nat) (xs : List FireI) (w : World) (h : Rd FFire w a n c xs) (h15 : n ≤ 15) :
    Calls Tryd.prog 57 #[.slice a n c] w fun e w' => ∃ a' c', e = .returned (.slice a' n c') ∧ Mem w.heap.size w w' [intE a' n c' (largeL xs)] := by
  have hn := h.cap
  have hc := h.nroom
  have HL := Lib.hid h.len
  have hM := Mem.start w
  have hmf : ∀ (fn : Fn) (first cap : Array Value) (w : World), (Instr.makeFunc fn first cap).run Tryd.prog w = .ok (.func fn first cap) w := fun _ _ _ _ => rfl
  obtain ⟨i0, hi, hz0, hz1, hz2⟩ := info_parts Tryd.info3
  go_enter Tryd.func57, Tryd.ntmps57
  go_wp2
  go_loopw [3, 8] (fun s i wr => ∃ (k g c' : Nat), k ≤ n ∧ i = .int .i64 k ∧ s = .slice (some ⟨g, 0, none⟩) k c' ∧ Mem w.heap.size w wr [intE (some ⟨g, 0, none⟩) k c' (idxL k), rowE w.heap.size 24 #[.slice a n c]]) (fun _ i _ => n - (intOf i).toNat)
  case atStart =>
    refine ⟨0, _, _, Nat.zero_le _, rfl, rfl, ?_⟩
    refine Mem.toInts (b := w.heap.size + 1) (cs := #[]) (xs := []) (G := [rowE (w.heap.size + 1) 3 #[], rowE w.heap.size 24 #[.slice a n c]]) ?_ .here rfl (by simp) (by simp)
    apply Mem.cast
    · (repeat' (first | with_reducible exact hM | with_reducible exact hMp | with_reducible apply Mem.drew | with_reducible apply Mem.drewN | with_reducible apply Mem.alloc | with_reducible apply Mem.set | with_reducible exact Sto.row | ((with_reducible refine Sto.rowEq2 ?_ ?_); omega; rfl) | ((with_reducible refine Sto.rowEq ?_); omega) | with_reducible apply Sto.int | with_reducible apply Sto.there | with_reducible assumption | (unfold I64; omega) | (with_reducible (have hMx := Mem.undrew hM; exact hMx)) | (with_reducible (have hMx := Mem.undrew hMp; exact hMx))))
    · simp only [World.size_alloc]
  case round =>
    clear hM
    obtain ⟨k, g, c', hk, rfl, rfl, hM⟩ := hrel
    by_cases hlt : k < n
    · go_wp2_with (at_builtin; apply Mem.atL; (focus ((repeat' (first | with_reducible exact hM | with_reducible exact hMp | with_reducible apply Mem.drew | with_reducible apply Mem.drewN | with_reducible apply Mem.alloc | with_reducible apply Mem.set | with_reducible exact Sto.row | ((with_reducible refine Sto.rowEq2 ?_ ?_); omega; rfl) | ((with_reducible refine Sto.rowEq ?_); omega) | with_reducible apply Sto.int | with_reducible apply Sto.there | with_reducible assumption | (unfold I64; omega) | (with_reducible (have hMx := Mem.undrew hM; exact hMx)) | (with_reducible (have hMx := Mem.undrew hMp; exact hMx)))); done)); clear hM; intro hM; refine wpList_appendI rfl (.tmp 11) (.tmp 13) 26 rfl 3 i0 Tryd.underlying26 hi hz0 hz1 hz2 w.heap.size (some ⟨g, 0, none⟩) k c' (idxL k) rfl (hM.ints (.there .here)).row (some ⟨wr.heap.size, 0, none⟩) 1 1 [(k : Int)] rfl (hM.oneInt .here (by unfold I64; omega)) ?c2 hM.size ?_)
      case c2 => omega
      intro a2 c2 w2 hrow hg hbl
      have hO := own_of hrow (by simp [idxL_length]) (by omega) (by rw [← idxL_succ]; exact idxL_wf (by omega))
      rw [← idxL_succ] at hO
      replace hM := hM.appended (.there .here) hO hg (fun k hk => by simpa using hbl k hk)
      obtain ⟨g2, rfl, _⟩ := hO.head (by omega)
      clear hO hrow hg hbl
      go_wp2
      go_roundw
      case rel => exact ⟨k + 1, g2, c2, by omega, by go_num, rfl, hM.tail⟩
      case measure => simp [intOf]; omega
    · obtain rfl : k = n := by omega
      obtain ⟨k1, f1, l1⟩ := hM.row (.there .here)
      go_wp2_with fail
      clear k1 f1 l1
      apply Mem.at
      · (repeat' (first | with_reducible exact hM | with_reducible exact hMp | with_reducible apply Mem.drew | with_reducible apply Mem.drewN | with_reducible apply Mem.alloc | with_reducible apply Mem.set | with_reducible exact Sto.row | ((with_reducible refine Sto.rowEq2 ?_ ?_); omega; rfl) | ((with_reducible refine Sto.rowEq ?_); omega) | with_reducible apply Sto.int | with_reducible apply Sto.there | with_reducible assumption | (unfold I64; omega) | (with_reducible (have hMx := Mem.undrew hM; exact hMx)) | (with_reducible (have hMx := Mem.undrew hMp; exact hMx))))
      clear hM
      intro hM
      (try simp only [World.size_alloc, World.size_setCell, World.heap_drewN, heapDrew, Nat.add_assoc, Nat.reduceAdd, List.setIfInBounds_toArray, List.set_cons_zero, List.set_cons_succ, List.cons_append, List.nil_append] at hM)
      refine (sortStable_any w.heap.size w _ g k c' (idxL k) _ _ (gtH xs) _ hM (by omega) (enters Tryd.func100 (by kernel_rfl) rfl) ?_).mono ?_
      · intro x hx y hy w' hM'
        obtain ⟨i, hi', rfl⟩ := List.mem_map.1 hx
        obtain ⟨j, hj', rfl⟩ := List.mem_map.1 hy
        refine (largest1_any a k c xs i j w.heap.size w' (h.ext hM'.below) (List.mem_range.1 hi') (List.mem_range.1 hj') (hM'.row .here)).mono ?_
        rintro e w'' ⟨rfl, hb⟩
        exact ⟨⟨_, rfl, by rw [cmpI_neg]; rfl⟩, hb⟩
      rintro e w3 ⟨rfl, hM3⟩
      clear hM
      rw [isortL_idx] at hM3
      go_wp2
      go_ret
      exact ⟨_, _, rfl, by rw [largeL, HL.out]; exact hM3.first⟩
end Go.Proofs.YtpoabdmapbdmfaaDoor

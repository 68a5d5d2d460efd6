/-
  Thick cells, the center of smoke, where smoke comes from: both sides.
-/
import Derived.Test.YtdhgkfmehegeoaaPlmP
import Derived.Test.YtdhgkfmehegeoaaSmkT
import Derived.Test.YtdhgkfmehegeoaaRegF
namespace Go.Proofs.Ytdhgkfmehegeoaa
set_option linter.unusedSimpArgs false
set_option linter.unusedVariables false
open Go.RowKit

def thickR (W H : Int) (xs : List Int) (m : Int) : List Int × Bool := if goodB 10000 W H xs then (thickT xs m xs.length, true) else ([], false)
theorem thickT_len (xs : List Int) (m : Int) : ∀ k, (thickT xs m k).length ≤ k
  | 0 => Nat.le_refl _
  | k + 1 => by
    have := thickT_len xs m k
    unfold thickT
    split
    · rw [List.length_append, List.length_singleton]; omega
    · omega
theorem thickT_yes {xs : List Int} {m : Int} {k : Nat} (h : m < xs.getD k 0) : thickT xs m (k + 1) = thickT xs m k ++ [(k : Int)] := by rw [thickT, if_pos h]
theorem thickT_no {xs : List Int} {m : Int} {k : Nat} (h : ¬ m < xs.getD k 0) : thickT xs m (k + 1) = thickT xs m k := by rw [thickT, if_neg h]
set_option maxRecDepth 100000 in
set_option maxHeartbeats 4000000 in
theorem implThick_any (W H : Int) (a : Option Addr) (n c : Nat) (xs : List Int) (m : Int) (w : World) (h : Ints w a n c xs) :
    Calls Try.prog 27 #[.agg #[.int .i64 W, .int .i64 H, .slice a n c], .int .i64 m] w fun o w' => ∃ a' m' c', o = .returned (.tuple #[.slice a' m' c', .bool (thickR W H xs m).2]) ∧ Mem w.heap.size w w' [intE a' m' c' (thickR W H xs m).1] := by
  have hM := Mem.start w
  have HL := Lib.hid h.len
  have hc := h.room
  cases hg : goodB 10000 W H xs
  · have HF := Lib.hid (show thickR W H xs m = ([], false) by rw [thickR, hg]; rfl)
    have HG := Lib.hid hg; clear hg
    go_enter Try.func27, Try.ntmps27
    go_wp2_with fail
    apply Mem.atA
    · (repeat' (first | with_reducible exact hM | with_reducible exact hMp | with_reducible apply Mem.drew | with_reducible apply Mem.drewN | with_reducible apply Mem.alloc | with_reducible apply Mem.set | with_reducible exact Sto.row | ((with_reducible refine Sto.rowEq2 ?_ ?_); omega; rfl) | ((with_reducible refine Sto.rowEq ?_); omega) | with_reducible apply Sto.int | with_reducible apply Sto.there | with_reducible assumption | (unfold I64; omega) | (with_reducible (have hMx := Mem.undrew hM; exact hMx)) | (with_reducible (have hMx := Mem.undrew hMp; exact hMx))))
    clear hM
    intro wst hM
    (try simp only [World.size_alloc, World.size_setCell, World.heap_drewN, heapDrew, Nat.add_assoc, Nat.reduceAdd, List.setIfInBounds_toArray, List.set_cons_zero, List.set_cons_succ, List.cons_append, List.nil_append] at hM)
    refine (IsSmoke_any W H a n c xs _ (h.ext hM.below)).mono ?_
    rw [HG.out]
    rintro e wc1 ⟨rfl, hb⟩
    replace hM := hM.ext hb
    clear hb
    go_wp2
    go_ret2
    exact ⟨_, _, _, by rw [HF.out]; rfl, by rw [HF.out]; exact hM.nilInts⟩
  have HF := Lib.hid (show thickR W H xs m = (thickT xs m n, true) by rw [thickR, hg, HL.out]; rfl)
  have HG := Lib.hid hg; clear hg
  go_enter Try.func27, Try.ntmps27
  go_wp2_with fail
  apply Mem.atA
  · (repeat' (first | with_reducible exact hM | with_reducible exact hMp | with_reducible apply Mem.drew | with_reducible apply Mem.drewN | with_reducible apply Mem.alloc | with_reducible apply Mem.set | with_reducible exact Sto.row | ((with_reducible refine Sto.rowEq2 ?_ ?_); omega; rfl) | ((with_reducible refine Sto.rowEq ?_); omega) | with_reducible apply Sto.int | with_reducible apply Sto.there | with_reducible assumption | (unfold I64; omega) | (with_reducible (have hMx := Mem.undrew hM; exact hMx)) | (with_reducible (have hMx := Mem.undrew hMp; exact hMx))))
  clear hM
  intro wst hM
  (try simp only [World.size_alloc, World.size_setCell, World.heap_drewN, heapDrew, Nat.add_assoc, Nat.reduceAdd, List.setIfInBounds_toArray, List.set_cons_zero, List.set_cons_succ, List.cons_append, List.nil_append] at hM)
  refine (IsSmoke_any W H a n c xs _ (h.ext hM.below)).mono ?_
  rw [HG.out]
  rintro e wc2 ⟨rfl, hb⟩
  replace hM := hM.ext hb
  clear hb
  obtain ⟨k0, f0, l0⟩ := hM.row .here
  go_wp2_with fail
  clear k0 f0 l0
  apply Mem.atWpA
  · (repeat' (first | with_reducible exact hM | with_reducible exact hMp | with_reducible apply Mem.drew | with_reducible apply Mem.drewN | with_reducible apply Mem.alloc | with_reducible apply Mem.set | with_reducible exact Sto.row | ((with_reducible refine Sto.rowEq2 ?_ ?_); omega; rfl) | ((with_reducible refine Sto.rowEq ?_); omega) | with_reducible apply Sto.int | with_reducible apply Sto.there | with_reducible assumption | (unfold I64; omega) | (with_reducible (have hMx := Mem.undrew hM; exact hMx)) | (with_reducible (have hMx := Mem.undrew hMp; exact hMx))))
  clear hM
  intro wst hM
  (try simp only [World.size_alloc, World.size_setCell, World.heap_drewN, heapDrew, Nat.add_assoc, Nat.reduceAdd, List.setIfInBounds_toArray, List.set_cons_zero, List.set_cons_succ, List.cons_append, List.nil_append] at hM)
  replace hM := Mem.toInts (xs := []) hM .here rfl (by simp) (by simp)
  go_loopw [6, 16] (fun s6 s16 wr => ∃ (k : Nat) (a' : Option Addr) (c' : Nat), k ≤ n ∧ s16 = .int .i64 k ∧ s6 = .slice a' (thickT xs m k).length c' ∧ Mem w.heap.size w wr [intE a' (thickT xs m k).length c' (thickT xs m k)]) (fun _ s16 _ => n - (intOf s16).toNat)
  case atStart => exact ⟨0, _, _, Nat.zero_le _, rfl, rfl, hM.first⟩
  case round =>
    clear hM
    obtain ⟨k, a', c', hk, rfl, rfl, hM⟩ := hrel
    by_cases hlt : k < n
    · obtain ⟨b, off, rfl, -, hcell⟩ := (h.ext hM.below).at' _ hlt
      have hck := hcell k hlt
      clear hcell
      have hl := thickT_len xs m k
      have hy := fun q => thickT_yes (xs := xs) (m := m) (k := k) q
      have hn := fun q => thickT_no (xs := xs) (m := m) (k := k) q
      obtain ⟨ts, hts⟩ : ∃ ts, thickT xs m k = ts := ⟨_, rfl⟩
      obtain ⟨x, hx⟩ : ∃ x, xs.getD k 0 = x := ⟨_, rfl⟩
      rw [hts] at hM hl ⊢
      simp only [hts, hx] at hy hn
      rw [hx] at hck
      clear hts hx
      by_cases hmx : m < x
      · have HY := Lib.hid (hy hmx)
        clear hy hn
        go_wp2_with (at_builtin; apply Mem.atL; (focus ((repeat' (first | with_reducible exact hM | with_reducible exact hMp | with_reducible apply Mem.drew | with_reducible apply Mem.drewN | with_reducible apply Mem.alloc | with_reducible apply Mem.set | with_reducible exact Sto.row | ((with_reducible refine Sto.rowEq2 ?_ ?_); omega; rfl) | ((with_reducible refine Sto.rowEq ?_); omega) | with_reducible apply Sto.int | with_reducible apply Sto.there | with_reducible assumption | (unfold I64; omega) | (with_reducible (have hMx := Mem.undrew hM; exact hMx)) | (with_reducible (have hMx := Mem.undrew hMp; exact hMx)))); done)); clear hM; intro hM; refine wpList_pushI hM (fun _ => .here) (by unfold I64; omega) (by omega) rfl _ _ _ Try.underlying24 rfl rfl rfl ?_)
        intro a6 c6 w6 hM
        go_wp2
        go_roundw
        case rel => exact ⟨k + 1, a6, c6, by omega, by go_num, by rw [HY.out]; simp, by rw [HY.out]; simpa using hM⟩
        case measure => simp [intOf]; omega
      · have HY := Lib.hid (hn hmx)
        clear hy hn
        go_wp2
        go_roundw
        case rel => exact ⟨k + 1, a', c', by omega, by go_num, by rw [HY.out], by rw [HY.out]; exact hM⟩
        case measure => simp [intOf]; omega
    · obtain rfl : k = n := by omega
      go_wp2
      go_ret2
      exact ⟨_, _, _, by rw [HF.out]; rfl, by rw [HF.out]; exact hM⟩
set_option maxRecDepth 100000 in
set_option maxHeartbeats 4000000 in
theorem specThick_any (W H : Int) (a : Option Addr) (n c : Nat) (xs : List Int) (m : Int) (w : World) (h : Ints w a n c xs) :
    Calls Try.prog 30 #[.agg #[.int .i64 W, .int .i64 H, .slice a n c], .int .i64 m] w fun o w' => ∃ a' m' c', o = .returned (.tuple #[.slice a' m' c', .bool (thickR W H xs m).2]) ∧ Mem w.heap.size w w' [intE a' m' c' (thickR W H xs m).1] := by
  have hM := Mem.start w
  have HL := Lib.hid h.len
  have hc := h.room
  cases hg : goodB 10000 W H xs
  · have HF := Lib.hid (show thickR W H xs m = ([], false) by rw [thickR, hg]; rfl)
    have HG := Lib.hid hg; clear hg
    go_enter Try.func30, Try.ntmps30
    go_wp2_with fail
    apply Mem.atA
    · (repeat' (first | with_reducible exact hM | with_reducible exact hMp | with_reducible apply Mem.drew | with_reducible apply Mem.drewN | with_reducible apply Mem.alloc | with_reducible apply Mem.set | with_reducible exact Sto.row | ((with_reducible refine Sto.rowEq2 ?_ ?_); omega; rfl) | ((with_reducible refine Sto.rowEq ?_); omega) | with_reducible apply Sto.int | with_reducible apply Sto.there | with_reducible assumption | (unfold I64; omega) | (with_reducible (have hMx := Mem.undrew hM; exact hMx)) | (with_reducible (have hMx := Mem.undrew hMp; exact hMx))))
    clear hM
    intro wst hM
    (try simp only [World.size_alloc, World.size_setCell, World.heap_drewN, heapDrew, Nat.add_assoc, Nat.reduceAdd, List.setIfInBounds_toArray, List.set_cons_zero, List.set_cons_succ, List.cons_append, List.nil_append] at hM)
    refine (l19Good_any W H a n c xs _ (h.ext hM.below)).mono ?_
    rw [HG.out]
    rintro e wc3 ⟨rfl, hb⟩
    replace hM := hM.ext hb
    clear hb
    go_wp2
    go_ret2
    exact ⟨_, _, _, by rw [HF.out]; rfl, by rw [HF.out]; exact hM.toInts0⟩
  have HF := Lib.hid (show thickR W H xs m = (thickT xs m n, true) by rw [thickR, hg, HL.out]; rfl)
  have HG := Lib.hid hg; clear hg
  go_enter Try.func30, Try.ntmps30
  go_wp2_with fail
  apply Mem.atA
  · (repeat' (first | with_reducible exact hM | with_reducible exact hMp | with_reducible apply Mem.drew | with_reducible apply Mem.drewN | with_reducible apply Mem.alloc | with_reducible apply Mem.set | with_reducible exact Sto.row | ((with_reducible refine Sto.rowEq2 ?_ ?_); omega; rfl) | ((with_reducible refine Sto.rowEq ?_); omega) | with_reducible apply Sto.int | with_reducible apply Sto.there | with_reducible assumption | (unfold I64; omega) | (with_reducible (have hMx := Mem.undrew hM; exact hMx)) | (with_reducible (have hMx := Mem.undrew hMp; exact hMx))))
  clear hM
  intro wst hM
  (try simp only [World.size_alloc, World.size_setCell, World.heap_drewN, heapDrew, Nat.add_assoc, Nat.reduceAdd, List.setIfInBounds_toArray, List.set_cons_zero, List.set_cons_succ, List.cons_append, List.nil_append] at hM)
  refine (l19Good_any W H a n c xs _ (h.ext hM.below)).mono ?_
  rw [HG.out]
  rintro e wc4 ⟨rfl, hb⟩
  replace hM := hM.ext hb
  clear hb
  replace hM := Mem.toInts (xs := []) hM .here rfl (by simp) (by simp)
  go_wp2_with fail
  go_loopw [6, 7] (fun s6 s7 wr => ∃ (k : Nat) (a' : Option Addr) (c' : Nat), k ≤ n ∧ s7 = .int .i64 k ∧ s6 = .slice a' (thickT xs m k).length c' ∧ Mem w.heap.size w wr [intE a' (thickT xs m k).length c' (thickT xs m k), rowE w.heap.size 26 #[.int .i64 W, .int .i64 H, .slice a n c]]) (fun _ s7 _ => n - (intOf s7).toNat)
  case atStart => exact ⟨0, _, _, Nat.zero_le _, rfl, rfl, hM⟩
  case round =>
    clear hM
    obtain ⟨k, a', c', hk, rfl, rfl, hM⟩ := hrel
    by_cases hlt : k < n
    · obtain ⟨b, off, rfl, -, hcell⟩ := (h.ext hM.below).at' _ hlt
      have hck := hcell k hlt
      clear hcell
      have hl := thickT_len xs m k
      have hy := fun q => thickT_yes (xs := xs) (m := m) (k := k) q
      have hn := fun q => thickT_no (xs := xs) (m := m) (k := k) q
      obtain ⟨ts, hts⟩ : ∃ ts, thickT xs m k = ts := ⟨_, rfl⟩
      obtain ⟨x, hx⟩ : ∃ x, xs.getD k 0 = x := ⟨_, rfl⟩
      rw [hts] at hM hl ⊢
      simp only [hts, hx] at hy hn
      rw [hx] at hck
      clear hts hx
      obtain ⟨k1, f1, l1⟩ := hM.row (.there .here)
      by_cases hmx : m < x
      · have HY := Lib.hid (hy hmx)
        clear hy hn
        go_wp2_with (at_builtin; apply Mem.atL; (focus ((repeat' (first | with_reducible exact hM | with_reducible exact hMp | with_reducible apply Mem.drew | with_reducible apply Mem.drewN | with_reducible apply Mem.alloc | with_reducible apply Mem.set | with_reducible exact Sto.row | ((with_reducible refine Sto.rowEq2 ?_ ?_); omega; rfl) | ((with_reducible refine Sto.rowEq ?_); omega) | with_reducible apply Sto.int | with_reducible apply Sto.there | with_reducible assumption | (unfold I64; omega) | (with_reducible (have hMx := Mem.undrew hM; exact hMx)) | (with_reducible (have hMx := Mem.undrew hMp; exact hMx)))); done)); clear hM; intro hM; refine wpList_pushI hM (fun _ => .here) (by unfold I64; omega) (by omega) rfl _ _ _ Try.underlying24 rfl rfl rfl ?_)
        clear k1 f1 l1
        intro a6 c6 w6 hM
        go_wp2
        go_roundw
        case rel => exact ⟨k + 1, a6, c6, by omega, by go_num, by rw [HY.out]; simp, by rw [HY.out]; simpa using hM⟩
        case measure => simp [intOf]; omega
      · have HY := Lib.hid (hn hmx)
        clear hy hn
        go_wp2
        go_roundw
        case rel => exact ⟨k + 1, a', c', by omega, by go_num, by rw [HY.out], by rw [HY.out]; exact hM⟩
        case measure => simp [intOf]; omega
    · obtain rfl : k = n := by omega
      obtain ⟨k1, f1, l1⟩ := hM.row (.there .here)
      go_wp2
      go_ret2
      exact ⟨_, _, _, by rw [HF.out]; rfl, by rw [HF.out]; exact hM.first⟩
theorem cen_steps {k Wn : Nat} (hW : 1 ≤ Wn) (hk : k < 25) : ∃ q r : Nat, k / Wn = q ∧ k % Wn = r ∧ (k : Int).tdiv Wn = q ∧ (k : Int).tmod Wn = r ∧ (k : Int) / (Wn : Int) = q ∧ (k : Int) % (Wn : Int) = r ∧ q ≤ 25 ∧ r ≤ 25 ∧ IntKind.i64.wrap ((k : Int).tdiv Wn) = q ∧ IntKind.i64.wrap ((k : Int) / (Wn : Int)) = q ∧ ¬ (Wn : Int) = 0 := by
  have e1 : (k : Int) / (Wn : Int) = ((k / Wn : Nat) : Int) := by push_cast; rfl
  have e2 : (k : Int) % (Wn : Int) = ((k % Wn : Nat) : Int) := by push_cast; rfl
  have e3 : (k : Int).tdiv Wn = ((k / Wn : Nat) : Int) := by rw [Int.tdiv_eq_ediv_of_nonneg (by omega), e1]
  have e4 : (k : Int).tmod Wn = ((k % Wn : Nat) : Int) := by rw [Int.tmod_eq_emod_of_nonneg (by omega), e2]
  have b1 : k / Wn ≤ k := Nat.div_le_self _ _
  have b2 : k % Wn ≤ k := Nat.mod_le _ _
  rw [e3, e1, e2, e4]
  refine ⟨k / Wn, k % Wn, rfl, rfl, rfl, rfl, rfl, rfl, by omega, by omega, ?_, ?_, by omega⟩ <;> (generalize k / Wn = z at b1; exact wrap_in (by omega))
theorem cen_small {W : Nat} {xs : List Int} (hx : ∀ x ∈ xs, 0 ≤ x ∧ x ≤ 10000) : ∀ k, k ≤ xs.length → k ≤ 25 → (0 ≤ cenX W xs k ∧ cenX W xs k ≤ 250000 * k) ∧ (0 ≤ cenY W xs k ∧ cenY W xs k ≤ 250000 * k)
  | 0, _, _ => by simp [cenX, cenY]
  | k + 1, hk, h25 => by
    have ih := cen_small (W := W) hx k (by omega) (by omega)
    have hv := hx _ (getD_mem (xs := xs) (k := k) (by omega))
    have b1 : k / W ≤ k := Nat.div_le_self _ _
    have b2 : k % W ≤ k := Nat.mod_le _ _
    simp only [cenX, cenY]
    generalize k % W = km at b2 ⊢
    generalize k / W = kd at b1 ⊢
    obtain ⟨v, hv'⟩ : ∃ v, xs.getD k 0 = v := ⟨_, rfl⟩
    rw [hv'] at hv ⊢
    have m1 := mul_bound (a := 10000) (b := 25) hv.1 hv.2 (show (0 : Int) ≤ (km : Int) by omega) (by omega)
    have m2 := mul_bound (a := 10000) (b := 25) hv.1 hv.2 (show (0 : Int) ≤ (kd : Int) by omega) (by omega)
    omega
end Go.Proofs.Ytdhgkfmehegeoaa

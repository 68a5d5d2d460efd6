/-
  LongestQuiet: both sides.
-/
import Derived.Test.YtdhgkfmehegeoaaQuietP
import Derived.Test.YtdhgkfmehegeoaaBusy
namespace Go.Proofs.Ytdhgkfmehegeoaa
set_option linter.unusedSimpArgs false
set_option linter.unusedVariables false
open Go.RowKit

theorem quI_bound {xs : List FireI} (h : ∀ i, i < xs.length → 0 ≤ dayAt xs i ∧ dayAt xs i ≤ 364) : ∀ k, k ≤ xs.length → 0 ≤ (quI xs k).1 ∧ (quI xs k).1 ≤ 365 ∧ -1 ≤ (quI xs k).2 ∧ (quI xs k).2 ≤ 364
  | 0, _ => by simp [quI]
  | k + 1, hk => by
    have := quI_bound h k (by omega)
    have := h k (by omega)
    simp only [quI]
    omega
theorem quS_bound (xs : List FireI) : ∀ d : Nat, 0 ≤ (quS xs d).1 ∧ (quS xs d).1 ≤ d ∧ 0 ≤ (quS xs d).2 ∧ (quS xs d).2 ≤ d
  | 0 => by simp [quS]
  | d + 1 => by
    have := quS_bound xs d
    simp only [quS]
    split <;> omega
theorem cntE_has (xs : List FireI) (d : Int) : hasDay xs d = decide (0 < cntE xs d) := by
  have h : (0 < cntE xs d) ↔ hasDay xs d = true := by
    unfold cntE hasDay
    rw [List.any_eq_true]
    constructor
    · intro h
      have h1 : 0 < (xs.filter fun x => x.day == d).length := by omega
      obtain ⟨x, hx⟩ := List.exists_mem_of_length_pos h1
      exact ⟨x, (List.mem_filter.1 hx).1, (List.mem_filter.1 hx).2⟩
    · rintro ⟨x, hx, he⟩
      have hm : x ∈ xs.filter fun x => x.day == d := List.mem_filter.2 ⟨hx, he⟩
      have := List.length_pos_of_mem hm
      omega
  rw [Bool.eq_iff_iff, decide_eq_true_iff]
  exact h.symm

set_option maxRecDepth 100000 in
set_option maxHeartbeats 4000000 in
theorem implQuiet_any (a : Option Addr) (n c : Nat) (xs : List FireI) (w : World) (h : Rd FFire w a n c xs) :
    Calls Try.prog 55 #[.slice a n c] w fun e w' => e = .returned (.tuple #[.int .i64 (quietR xs).1, .bool (quietR xs).2]) ∧ Below w.heap.size w w' := by
  have hc := h.nroom
  have HL := Lib.hid h.len
  have hM := Mem.start w
  cases hs : seasonB xs
  · have HF := Lib.hid (show quietR xs = (0, false) by rw [quietR, hs]; rfl)
    have HS := Lib.hid hs; clear hs
    go_enter Try.func55, Try.ntmps55
    go_wp2_with fail
    apply Mem.atA
    · (repeat' (first | with_reducible exact hM | with_reducible exact hMp | with_reducible apply Mem.drew | with_reducible apply Mem.drewN | with_reducible apply Mem.alloc | with_reducible apply Mem.set | with_reducible exact Sto.row | ((with_reducible refine Sto.rowEq2 ?_ ?_); omega; rfl) | ((with_reducible refine Sto.rowEq ?_); omega) | with_reducible apply Sto.int | with_reducible apply Sto.there | with_reducible assumption | (unfold I64; omega) | (with_reducible (have hMx := Mem.undrew hM; exact hMx)) | (with_reducible (have hMx := Mem.undrew hMp; exact hMx))))
    clear hM
    intro wst hM
    (try simp only [World.size_alloc, World.size_setCell, World.heap_drewN, heapDrew, Nat.add_assoc, Nat.reduceAdd, List.setIfInBounds_toArray, List.set_cons_zero, List.set_cons_succ, List.cons_append, List.nil_append] at hM)
    refine (isSeason_any a n c xs _ (h.ext hM.below)).mono ?_
    rw [HS.out]
    rintro e wc1 ⟨rfl, hb⟩
    replace hM := hM.ext hb
    clear hb
    go_wp2
    go_ret2
    exact ⟨by rw [HF.out]; rfl, (by apply Mem.below; (repeat' (first | with_reducible exact hM | with_reducible exact hMp | with_reducible apply Mem.drew | with_reducible apply Mem.drewN | with_reducible apply Mem.alloc | with_reducible apply Mem.set | with_reducible exact Sto.row | ((with_reducible refine Sto.rowEq2 ?_ ?_); omega; rfl) | ((with_reducible refine Sto.rowEq ?_); omega) | with_reducible apply Sto.int | with_reducible apply Sto.there | with_reducible assumption | (unfold I64; omega) | (with_reducible (have hMx := Mem.undrew hM; exact hMx)) | (with_reducible (have hMx := Mem.undrew hMp; exact hMx)))))⟩
  have hb := quI_bound (season_days hs).2
  rw [h.len] at hb
  have HB := Lib.hid hb; clear hb
  have HF := Lib.hid (show quietR xs = (max (quI xs n).1 (364 - (quI xs n).2), true) by rw [quietR, hs, if_pos rfl, HL.out])
  have HS := Lib.hid hs; clear hs
  go_enter Try.func55, Try.ntmps55
  go_wp2_with fail
  apply Mem.atA
  · (repeat' (first | with_reducible exact hM | with_reducible exact hMp | with_reducible apply Mem.drew | with_reducible apply Mem.drewN | with_reducible apply Mem.alloc | with_reducible apply Mem.set | with_reducible exact Sto.row | ((with_reducible refine Sto.rowEq2 ?_ ?_); omega; rfl) | ((with_reducible refine Sto.rowEq ?_); omega) | with_reducible apply Sto.int | with_reducible apply Sto.there | with_reducible assumption | (unfold I64; omega) | (with_reducible (have hMx := Mem.undrew hM; exact hMx)) | (with_reducible (have hMx := Mem.undrew hMp; exact hMx))))
  clear hM
  intro wst hM
  (try simp only [World.size_alloc, World.size_setCell, World.heap_drewN, heapDrew, Nat.add_assoc, Nat.reduceAdd, List.setIfInBounds_toArray, List.set_cons_zero, List.set_cons_succ, List.cons_append, List.nil_append] at hM)
  refine (isSeason_any a n c xs _ (h.ext hM.below)).mono ?_
  rw [HS.out]
  rintro e wc2 ⟨rfl, hb⟩
  replace hM := hM.ext hb
  clear hb
  go_wp2
  go_loopw [4, 5, 13] (fun s4 s5 i wr => ∃ k : Nat, k ≤ n ∧ i = .int .i64 k ∧ s4 = .int .i64 (quI xs k).1 ∧ s5 = .int .i64 (quI xs k).2 ∧ Mem w.heap.size w wr []) (fun _ _ i _ => n - (intOf i).toNat)
  case atStart => exact ⟨0, Nat.zero_le _, rfl, rfl, rfl, hM⟩
  case round =>
    clear hM
    obtain ⟨k, hk, rfl, rfl, rfl, hM⟩ := hrel
    have hb := HB.out k hk
    by_cases hlt : k < n
    · obtain ⟨bb, off, rfl, _⟩ := (h.ext hM.below).at' _ hlt
      obtain ⟨hbl, hc0, hc1, hc2, hc3⟩ := (h.ext hM.below).cellFire hlt
      have hst : quI xs (k + 1) = (max (quI xs k).1 (dayAt xs k - (quI xs k).2 - 1), dayAt xs k) := rfl
      have hb1 := HB.out (k + 1) (by omega)
      rw [hst] at hb1
      have hd : dayAt xs k = (xs.getD k FireI.zero).day := rfl
      rw [hd] at hst hb1
      generalize xs.getD k FireI.zero = y at hc0 hc1 hc2 hc3 hst hb1
      obtain ⟨y0, y1, y2, y3⟩ := y
      dsimp only at hc0 hc1 hc2 hc3 hst hb1
      have HST := Lib.hid hst
      clear hst hd
      generalize quI xs k = p at hb hb1 HST ⊢
      obtain ⟨m, l⟩ := p
      dsimp only at hb hb1 HST ⊢
      obtain ⟨u0, u1, u2, u3⟩ := hb
      obtain ⟨-, -, v2, v3⟩ := hb1
      have hw1 : IntKind.i64.wrap (y0 - l) = y0 - l := wrap_in (by omega)
      have hw2 : IntKind.i64.wrap (y0 - l - 1) = y0 - l - 1 := wrap_in (by omega)
      by_cases hx : m < y0 - l - 1
      all_goals
        go_wp2
        go_roundw
        case rel => exact ⟨k + 1, by omega, by go_num, by rw [HST.out]; exact congrArg (Value.int .i64) (by dsimp only; omega), by rw [HST.out], (Mem.alloc hM _ _).tail⟩
        case measure => simp [intOf]; omega
    · obtain rfl : k = n := by omega
      generalize quI xs k = p at hb HF ⊢
      obtain ⟨m, l⟩ := p
      dsimp only at hb HF ⊢
      obtain ⟨u0, u1, u2, u3⟩ := hb
      have hw1 : IntKind.i64.wrap (364 - l) = 364 - l := wrap_in (by omega)
      by_cases hx : m < 364 - l
      all_goals
        go_wp2
        go_ret2
        exact ⟨by rw [HF.out]; first | (rw [show max m (364 - l) = m by omega]; rfl) | (rw [show max m (364 - l) = 364 - l by omega]; rfl), (by apply Mem.below; (repeat' (first | with_reducible exact hM | with_reducible exact hMp | with_reducible apply Mem.drew | with_reducible apply Mem.drewN | with_reducible apply Mem.alloc | with_reducible apply Mem.set | with_reducible exact Sto.row | ((with_reducible refine Sto.rowEq2 ?_ ?_); omega; rfl) | ((with_reducible refine Sto.rowEq ?_); omega) | with_reducible apply Sto.int | with_reducible apply Sto.there | with_reducible assumption | (unfold I64; omega) | (with_reducible (have hMx := Mem.undrew hM; exact hMx)) | (with_reducible (have hMx := Mem.undrew hMp; exact hMx)))))⟩

theorem l1MostI_any (x y : Int) (w : World) : Calls Try.prog 101 #[.int .i64 x, .int .i64 y] w fun e w' => e = .returned (.int .i64 (max x y)) ∧ w = w' := by
  rcases Int.lt_trichotomy x y with h | h | h
  · have hm : max x y = y := by omega
    go_enter Try.func101, Try.ntmps101
    go_wp2
    go_ret
    exact ⟨by first | rfl | (rw [hm]; rfl), rfl⟩
  · subst h
    have hm : max x x = x := by omega
    go_enter Try.func101, Try.ntmps101
    go_wp2
    go_ret
    exact ⟨by first | rfl | (rw [hm]; rfl), rfl⟩
  · have hm : max x y = x := by omega
    have hlt : ¬ x < y := by omega
    go_enter Try.func101, Try.ntmps101
    go_wp2
    go_ret
    exact ⟨by first | rfl | (rw [hm]; rfl), rfl⟩

set_option maxRecDepth 100000 in
set_option maxHeartbeats 4000000 in
theorem specQuiet_any (a : Option Addr) (n c : Nat) (xs : List FireI) (w : World) (h : Rd FFire w a n c xs) :
    Calls Try.prog 56 #[.slice a n c] w fun e w' => e = .returned (.tuple #[.int .i64 (quietR xs).1, .bool (quietR xs).2]) ∧ Below w.heap.size w w' := by
  have hc := h.nroom
  have hM := Mem.start w
  cases hs : seasonB xs
  · have HF := Lib.hid (show quietR xs = (0, false) by rw [quietR, hs]; rfl)
    have HS := Lib.hid hs; clear hs
    go_enter Try.func56, Try.ntmps56
    go_wp2_with fail
    apply Mem.atA
    · (repeat' (first | with_reducible exact hM | with_reducible exact hMp | with_reducible apply Mem.drew | with_reducible apply Mem.drewN | with_reducible apply Mem.alloc | with_reducible apply Mem.set | with_reducible exact Sto.row | ((with_reducible refine Sto.rowEq2 ?_ ?_); omega; rfl) | ((with_reducible refine Sto.rowEq ?_); omega) | with_reducible apply Sto.int | with_reducible apply Sto.there | with_reducible assumption | (unfold I64; omega) | (with_reducible (have hMx := Mem.undrew hM; exact hMx)) | (with_reducible (have hMx := Mem.undrew hMp; exact hMx))))
    clear hM
    intro wst hM
    (try simp only [World.size_alloc, World.size_setCell, World.heap_drewN, heapDrew, Nat.add_assoc, Nat.reduceAdd, List.setIfInBounds_toArray, List.set_cons_zero, List.set_cons_succ, List.cons_append, List.nil_append] at hM)
    refine (l26Good_any a n c xs _ (h.ext hM.below)).mono ?_
    rw [HS.out]
    rintro e wc3 ⟨rfl, hb⟩
    replace hM := hM.ext hb
    clear hb
    go_wp2
    go_ret2
    exact ⟨by rw [HF.out]; rfl, (by apply Mem.below; (repeat' (first | with_reducible exact hM | with_reducible exact hMp | with_reducible apply Mem.drew | with_reducible apply Mem.drewN | with_reducible apply Mem.alloc | with_reducible apply Mem.set | with_reducible exact Sto.row | ((with_reducible refine Sto.rowEq2 ?_ ?_); omega; rfl) | ((with_reducible refine Sto.rowEq ?_); omega) | with_reducible apply Sto.int | with_reducible apply Sto.there | with_reducible assumption | (unfold I64; omega) | (with_reducible (have hMx := Mem.undrew hM; exact hMx)) | (with_reducible (have hMx := Mem.undrew hMp; exact hMx)))))⟩
  have v15 := (seasonB_true hs).1
  rw [h.len] at v15
  have HF := Lib.hid (quietR_spec hs)
  have HS := Lib.hid hs; clear hs
  go_enter Try.func56, Try.ntmps56
  go_wp2_with fail
  apply Mem.atA
  · (repeat' (first | with_reducible exact hM | with_reducible exact hMp | with_reducible apply Mem.drew | with_reducible apply Mem.drewN | with_reducible apply Mem.alloc | with_reducible apply Mem.set | with_reducible exact Sto.row | ((with_reducible refine Sto.rowEq2 ?_ ?_); omega; rfl) | ((with_reducible refine Sto.rowEq ?_); omega) | with_reducible apply Sto.int | with_reducible apply Sto.there | with_reducible assumption | (unfold I64; omega) | (with_reducible (have hMx := Mem.undrew hM; exact hMx)) | (with_reducible (have hMx := Mem.undrew hMp; exact hMx))))
  clear hM
  intro wst hM
  (try simp only [World.size_alloc, World.size_setCell, World.heap_drewN, heapDrew, Nat.add_assoc, Nat.reduceAdd, List.setIfInBounds_toArray, List.set_cons_zero, List.set_cons_succ, List.cons_append, List.nil_append] at hM)
  refine (l26Good_any a n c xs _ (h.ext hM.below)).mono ?_
  rw [HS.out]
  rintro e wc4 ⟨rfl, hb⟩
  replace hM := hM.ext hb
  clear hb
  go_wp2
  go_loopw [4, 5, 6] (fun s4 s5 s6 wr => ∃ d : Nat, d ≤ 365 ∧ s6 = .int .i64 d ∧ s4 = .int .i64 (quS xs d).1 ∧ s5 = .int .i64 (quS xs d).2 ∧ Mem w.heap.size w wr []) (fun _ _ s6 _ => 365 - (intOf s6).toNat)
  case atStart => exact ⟨0, Nat.zero_le _, rfl, rfl, rfl, hM⟩
  case round =>
    clear hM
    obtain ⟨d, hd, rfl, rfl, rfl, hM⟩ := hrel
    have hb := quS_bound xs d
    have hst : quS xs (d + 1) = (max (quS xs d).1 (if hasDay xs d then 0 else (quS xs d).2 + 1), if hasDay xs d then 0 else (quS xs d).2 + 1) := rfl
    by_cases hlt : d < 365
    · have hce := cntE_has xs d
      have hbd := cntE_bound xs d
      generalize quS xs d = p at hb hst ⊢
      obtain ⟨m, r⟩ := p
      dsimp only at hb hst ⊢
      obtain ⟨u0, u1, u2, u3⟩ := hb
      have hw1 : IntKind.i64.wrap (r + 1) = r + 1 := wrap_in (by omega)
      have hd364 : (d : Int) ≤ 364 := by omega
      have HBG := Lib.hid (fun w h => l26Began_any a n c xs d w h v15)
      cases hh : hasDay xs d
      · rw [hh] at hst hce
        have hz : ¬ 0 < cntE xs d := by simpa using hce.symm
        have HST := Lib.hid hst; clear hst hce hh
        generalize cntE xs d = q at hz HBG hbd
        go_wp2_with fail
        refine (HBG.out _ (h.ext hM.below)).mono ?_
        rintro e w3 ⟨rfl, rfl⟩
        go_wp2_with fail
        refine (l1MostI_any _ _ _).mono ?_
        rintro e w4 ⟨rfl, rfl⟩
        go_wp2
        go_roundw
        case rel => exact ⟨d + 1, by omega, by go_num, by rw [HST.out]; rfl, by rw [HST.out]; rfl, by (repeat' (first | with_reducible exact hM | with_reducible exact hMp | with_reducible apply Mem.drew | with_reducible apply Mem.drewN | with_reducible apply Mem.alloc | with_reducible apply Mem.set | with_reducible exact Sto.row | ((with_reducible refine Sto.rowEq2 ?_ ?_); omega; rfl) | ((with_reducible refine Sto.rowEq ?_); omega) | with_reducible apply Sto.int | with_reducible apply Sto.there | with_reducible assumption | (unfold I64; omega) | (with_reducible (have hMx := Mem.undrew hM; exact hMx)) | (with_reducible (have hMx := Mem.undrew hMp; exact hMx))))⟩
        case measure => simp [intOf]; omega
      · rw [hh] at hst hce
        have hz : 0 < cntE xs d := by simpa using hce.symm
        have HST := Lib.hid hst; clear hst hce hh
        generalize cntE xs d = q at hz HBG hbd
        go_wp2_with fail
        refine (HBG.out _ (h.ext hM.below)).mono ?_
        rintro e w3 ⟨rfl, rfl⟩
        go_wp2_with fail
        refine (l1MostI_any _ _ _).mono ?_
        rintro e w4 ⟨rfl, rfl⟩
        go_wp2
        go_roundw
        case rel => exact ⟨d + 1, by omega, by go_num, by rw [HST.out]; rfl, by rw [HST.out]; rfl, by (repeat' (first | with_reducible exact hM | with_reducible exact hMp | with_reducible apply Mem.drew | with_reducible apply Mem.drewN | with_reducible apply Mem.alloc | with_reducible apply Mem.set | with_reducible exact Sto.row | ((with_reducible refine Sto.rowEq2 ?_ ?_); omega; rfl) | ((with_reducible refine Sto.rowEq ?_); omega) | with_reducible apply Sto.int | with_reducible apply Sto.there | with_reducible assumption | (unfold I64; omega) | (with_reducible (have hMx := Mem.undrew hM; exact hMx)) | (with_reducible (have hMx := Mem.undrew hMp; exact hMx))))⟩
        case measure => simp [intOf]; omega
    · obtain rfl : d = 365 := by omega
      go_wp2
      go_ret2
      exact ⟨by rw [HF.out]; rfl, (by apply Mem.below; (repeat' (first | with_reducible exact hM | with_reducible exact hMp | with_reducible apply Mem.drew | with_reducible apply Mem.drewN | with_reducible apply Mem.alloc | with_reducible apply Mem.set | with_reducible exact Sto.row | ((with_reducible refine Sto.rowEq2 ?_ ?_); omega; rfl) | ((with_reducible refine Sto.rowEq ?_); omega) | with_reducible apply Sto.int | with_reducible apply Sto.there | with_reducible assumption | (unfold I64; omega) | (with_reducible (have hMx := Mem.undrew hM; exact hMx)) | (with_reducible (have hMx := Mem.undrew hMp; exact hMx)))))⟩
end Go.Proofs.Ytdhgkfmehegeoaa

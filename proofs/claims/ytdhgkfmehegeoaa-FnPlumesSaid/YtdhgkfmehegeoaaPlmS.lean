/-
  The center of smoke: both sides; where smoke comes from: the reference's.
-/
import Derived.Test.YtdhgkfmehegeoaaPlmT
import Derived.Test.YtdhgkfmehegeoaaRegF
namespace Go.Proofs.Ytdhgkfmehegeoaa
set_option linter.unusedSimpArgs false
set_option linter.unusedVariables false
open Go.RowKit

theorem results_tmp4 {fn : Func} {t u v x : Tmp} (h : fn.results = #[.tmp t, .tmp u, .tmp v, .tmp x]) (tmps : Array Value) (P : Program) (w : World) :
    (results fn tmps).run P w = .ok (.tuple #[tmps.getD t undef, tmps.getD u undef, tmps.getD v undef, tmps.getD x undef]) w := by
  simp [results, h]
set_option maxRecDepth 100000 in
set_option maxHeartbeats 4000000 in
theorem implCen_any (W H : Int) (a : Option Addr) (n c : Nat) (xs : List Int) (w : World) (h : Ints w a n c xs) :
    Calls Try.prog 33 #[.agg #[.int .i64 W, .int .i64 H, .slice a n c]] w fun o w' => o = .returned (.tuple #[.int .i64 (cenR W H xs).a, .int .i64 (cenR W H xs).b, .int .i64 (cenR W H xs).t, .bool (cenR W H xs).ok]) ∧ Below w.heap.size w w' := by
  have hM := Mem.start w
  have HL := Lib.hid h.len
  have hc := h.room
  cases hg : goodB 10000 W H xs
  · have HF := Lib.hid (show cenR W H xs = ⟨0, 0, 0, false⟩ by rw [cenR, hg]; simp)
    have HG := Lib.hid hg; clear hg
    go_enter Try.func33, Try.ntmps33
    go_wp2_with fail
    apply Mem.atA
    · (repeat' (first | with_reducible exact hM | with_reducible exact hMp | with_reducible apply Mem.drew | with_reducible apply Mem.drewN | with_reducible apply Mem.alloc | with_reducible apply Mem.set | with_reducible exact Sto.row | ((with_reducible refine Sto.rowEq2 ?_ ?_); omega; rfl) | ((with_reducible refine Sto.rowEq ?_); omega) | with_reducible apply Sto.int | with_reducible apply Sto.there | with_reducible assumption | (unfold I64; omega) | (with_reducible (have hMx := Mem.undrew hM; exact hMx)) | (with_reducible (have hMx := Mem.undrew hMp; exact hMx))))
    clear hM
    intro wst hM
    (try simp only [World.size_alloc, World.size_setCell, World.heap_drewN, heapDrew, Nat.add_assoc, Nat.reduceAdd, List.setIfInBounds_toArray, List.set_cons_zero, List.set_cons_succ, List.cons_append, List.nil_append] at hM)
    refine (IsSmoke_any _ H a n c xs _ (h.ext hM.below)).mono ?_
    rw [HG.out]
    rintro e wc1 ⟨rfl, hb⟩
    replace hM := hM.ext hb
    clear hb
    go_wp2
    ((try simp only [Exit.inBlock, Exit.then]); refine bodyPost_ret (results_tmp4 rfl _ _ _) rfl ?_)
    exact ⟨by rw [HF.out]; rfl, (by apply Mem.below; (repeat' (first | with_reducible exact hM | with_reducible exact hMp | with_reducible apply Mem.drew | with_reducible apply Mem.drewN | with_reducible apply Mem.alloc | with_reducible apply Mem.set | with_reducible exact Sto.row | ((with_reducible refine Sto.rowEq2 ?_ ?_); omega; rfl) | ((with_reducible refine Sto.rowEq ?_); omega) | with_reducible apply Sto.int | with_reducible apply Sto.there | with_reducible assumption | (unfold I64; omega) | (with_reducible (have hMx := Mem.undrew hM; exact hMx)) | (with_reducible (have hMx := Mem.undrew hMp; exact hMx)))))⟩
  obtain ⟨Wn, Hn, hW, hH, p1, p2, p3, p4, hlen, h25, hall⟩ := goodB_true hg
  have hn25 : n ≤ 25 := by rw [← HL.out]; exact h25
  have HA := Lib.hid hall
  have hsb : 0 ≤ xs.sum ∧ xs.sum ≤ 250000 := by have := sum_bound hall; omega
  have HCS := Lib.hid (fun k hk h25 => cen_small (W := Wn) hall k hk h25)
  obtain ⟨S, hS⟩ : ∃ S, xs.sum = S := ⟨_, rfl⟩
  rw [hS] at hsb
  have HS := Lib.hid hS
  by_cases h0 : S = 0
  · have HF := Lib.hid (show cenR W H xs = ⟨0, 0, 0, false⟩ by rw [cenR, hg, hS, h0]; simp)
    subst h0
    have HG := Lib.hid hg; clear hg hall h25 hlen hS hW hH hsb p1 p2 p3 p4
    go_enter Try.func33, Try.ntmps33
    go_wp2_with fail
    apply Mem.atA
    · (repeat' (first | with_reducible exact hM | with_reducible exact hMp | with_reducible apply Mem.drew | with_reducible apply Mem.drewN | with_reducible apply Mem.alloc | with_reducible apply Mem.set | with_reducible exact Sto.row | ((with_reducible refine Sto.rowEq2 ?_ ?_); omega; rfl) | ((with_reducible refine Sto.rowEq ?_); omega) | with_reducible apply Sto.int | with_reducible apply Sto.there | with_reducible assumption | (unfold I64; omega) | (with_reducible (have hMx := Mem.undrew hM; exact hMx)) | (with_reducible (have hMx := Mem.undrew hMp; exact hMx))))
    clear hM
    intro wst hM
    (try simp only [World.size_alloc, World.size_setCell, World.heap_drewN, heapDrew, Nat.add_assoc, Nat.reduceAdd, List.setIfInBounds_toArray, List.set_cons_zero, List.set_cons_succ, List.cons_append, List.nil_append] at hM)
    refine (IsSmoke_any _ H a n c xs _ (h.ext hM.below)).mono ?_
    rw [HG.out]
    rintro e wc2 ⟨rfl, hb⟩
    replace hM := hM.ext hb
    clear hb
    obtain ⟨k0, f0, l0⟩ := hM.row .here
    go_wp2_with fail
    clear k0 f0 l0
    apply Mem.atA
    · (repeat' (first | with_reducible exact hM | with_reducible exact hMp | with_reducible apply Mem.drew | with_reducible apply Mem.drewN | with_reducible apply Mem.alloc | with_reducible apply Mem.set | with_reducible exact Sto.row | ((with_reducible refine Sto.rowEq2 ?_ ?_); omega; rfl) | ((with_reducible refine Sto.rowEq ?_); omega) | with_reducible apply Sto.int | with_reducible apply Sto.there | with_reducible assumption | (unfold I64; omega) | (with_reducible (have hMx := Mem.undrew hM; exact hMx)) | (with_reducible (have hMx := Mem.undrew hMp; exact hMx))))
    clear hM
    intro wst hM
    (try simp only [World.size_alloc, World.size_setCell, World.heap_drewN, heapDrew, Nat.add_assoc, Nat.reduceAdd, List.setIfInBounds_toArray, List.set_cons_zero, List.set_cons_succ, List.cons_append, List.nil_append] at hM)
    refine (sum_any _ _ _ xs _ (h.ext hM.below) hn25 HA.out).mono ?_
    rw [HS.out]
    rintro e wc3 ⟨rfl, rfl⟩
    go_wp2
    ((try simp only [Exit.inBlock, Exit.then]); refine bodyPost_ret (results_tmp4 rfl _ _ _) rfl ?_)
    exact ⟨by rw [HF.out]; rfl, (by apply Mem.below; (repeat' (first | with_reducible exact hM | with_reducible exact hMp | with_reducible apply Mem.drew | with_reducible apply Mem.drewN | with_reducible apply Mem.alloc | with_reducible apply Mem.set | with_reducible exact Sto.row | ((with_reducible refine Sto.rowEq2 ?_ ?_); omega; rfl) | ((with_reducible refine Sto.rowEq ?_); omega) | with_reducible apply Sto.int | with_reducible apply Sto.there | with_reducible assumption | (unfold I64; omega) | (with_reducible (have hMx := Mem.undrew hM; exact hMx)) | (with_reducible (have hMx := Mem.undrew hMp; exact hMx)))))⟩
  have h00 : (S == 0) = false := by simpa using h0
  have HF := Lib.hid (show cenR W H xs = ⟨cenX Wn xs n, cenY Wn xs n, S, true⟩ by rw [cenR, hg, hS, h00, hW, Int.toNat_natCast, HL.out]; simp)
  have HG := Lib.hid hg; clear hg hall h25 hlen hS h0
  have HWE := Lib.hid hW
  clear hH hW
  go_enter Try.func33, Try.ntmps33
  go_wp2_with fail
  apply Mem.atA
  · (repeat' (first | with_reducible exact hM | with_reducible exact hMp | with_reducible apply Mem.drew | with_reducible apply Mem.drewN | with_reducible apply Mem.alloc | with_reducible apply Mem.set | with_reducible exact Sto.row | ((with_reducible refine Sto.rowEq2 ?_ ?_); omega; rfl) | ((with_reducible refine Sto.rowEq ?_); omega) | with_reducible apply Sto.int | with_reducible apply Sto.there | with_reducible assumption | (unfold I64; omega) | (with_reducible (have hMx := Mem.undrew hM; exact hMx)) | (with_reducible (have hMx := Mem.undrew hMp; exact hMx))))
  clear hM
  intro wst hM
  (try simp only [World.size_alloc, World.size_setCell, World.heap_drewN, heapDrew, Nat.add_assoc, Nat.reduceAdd, List.setIfInBounds_toArray, List.set_cons_zero, List.set_cons_succ, List.cons_append, List.nil_append] at hM)
  refine (IsSmoke_any _ H a n c xs _ (h.ext hM.below)).mono ?_
  rw [HG.out]
  rintro e wc4 ⟨rfl, hb⟩
  replace hM := hM.ext hb
  clear hb
  obtain ⟨k0, f0, l0⟩ := hM.row .here
  go_wp2_with fail
  clear k0 f0 l0
  apply Mem.atA
  · (repeat' (first | with_reducible exact hM | with_reducible exact hMp | with_reducible apply Mem.drew | with_reducible apply Mem.drewN | with_reducible apply Mem.alloc | with_reducible apply Mem.set | with_reducible exact Sto.row | ((with_reducible refine Sto.rowEq2 ?_ ?_); omega; rfl) | ((with_reducible refine Sto.rowEq ?_); omega) | with_reducible apply Sto.int | with_reducible apply Sto.there | with_reducible assumption | (unfold I64; omega) | (with_reducible (have hMx := Mem.undrew hM; exact hMx)) | (with_reducible (have hMx := Mem.undrew hMp; exact hMx))))
  clear hM
  intro wst hM
  (try simp only [World.size_alloc, World.size_setCell, World.heap_drewN, heapDrew, Nat.add_assoc, Nat.reduceAdd, List.setIfInBounds_toArray, List.set_cons_zero, List.set_cons_succ, List.cons_append, List.nil_append] at hM)
  refine (sum_any _ _ _ xs _ (h.ext hM.below) hn25 HA.out).mono ?_
  rw [HS.out]
  rintro e wc5 ⟨rfl, rfl⟩
  go_upto_region 4 with fail
  apply Mem.atWpA
  · (repeat' (first | with_reducible exact hM | with_reducible exact hMp | with_reducible apply Mem.drew | with_reducible apply Mem.drewN | with_reducible apply Mem.alloc | with_reducible apply Mem.set | with_reducible exact Sto.row | ((with_reducible refine Sto.rowEq2 ?_ ?_); omega; rfl) | ((with_reducible refine Sto.rowEq ?_); omega) | with_reducible apply Sto.int | with_reducible apply Sto.there | with_reducible assumption | (unfold I64; omega) | (with_reducible (have hMx := Mem.undrew hM; exact hMx)) | (with_reducible (have hMx := Mem.undrew hMp; exact hMx))))
  clear hM
  intro wst hM
  (try simp only [World.size_alloc, World.size_setCell, World.heap_drewN, heapDrew, Nat.add_assoc, Nat.reduceAdd, List.setIfInBounds_toArray, List.set_cons_zero, List.set_cons_succ, List.cons_append, List.nil_append] at hM)
  obtain ⟨k0, f0, l0⟩ := hM.row .here
  have hI := h.ext hM.below
  have HW2 := Lib.hid (show W = (Wn : Int) from HWE.out)
  obtain rfl := HWE.out
  go_wp2
  go_loopw [6, 7, 22] (fun s6 s7 s8 wr => ∃ k : Nat, k ≤ n ∧ s8 = .int .i64 k ∧ s6 = .int .i64 (cenX Wn xs k) ∧ s7 = .int .i64 (cenY Wn xs k) ∧ Mem w.heap.size w wr [rowE w.heap.size 26 #[.int .i64 Wn, .int .i64 H, .slice a n c]]) (fun _ _ s8 _ => n - (intOf s8).toNat)
  case atStart => exact ⟨0, Nat.zero_le _, rfl, rfl, rfl, hM⟩
  case round =>
    clear hM k0 f0 l0 hI
    obtain ⟨k, hk, rfl, rfl, rfl, hM⟩ := hrel
    have hcb := HCS.out k (by rw [HL.out]; exact hk) (by omega)
    by_cases hlt : k < n
    · obtain ⟨b, off, rfl, -, hcell⟩ := (h.ext hM.below).at' _ hlt
      have hck := hcell k hlt
      clear hcell
      have hcs := HCS.out (k + 1) (by rw [HL.out]; exact hlt) (by omega)
      have hva := HA.out _ (getD_mem (xs := xs) (k := k) (by rw [HL.out]; exact hlt))
      obtain ⟨q, r, u1, u2, u3, u4, u5, u6, u7, u8, u9, u10, u11⟩ := cen_steps (k := k) (Wn := Wn) p1 (by omega)
      have HX1 := Lib.hid (show cenX Wn xs (k + 1) = cenX Wn xs k + xs.getD k 0 * (r : Int) by rw [cenX, u2])
      have HY1 := Lib.hid (show cenY Wn xs (k + 1) = cenY Wn xs k + xs.getD k 0 * (q : Int) by rw [cenY, u1])
      rw [HX1.out, HY1.out] at hcs
      obtain ⟨v, hv⟩ : ∃ v, xs.getD k 0 = v := ⟨_, rfl⟩
      rw [hv] at hck hva HX1 HY1 hcs
      have HV := Lib.hid hv
      clear hv u1 u2
      obtain ⟨⟨x0, x1⟩, y0, y1⟩ := hcb
      obtain ⟨⟨x2, x3⟩, y2, y3⟩ := hcs
      obtain ⟨X, hX⟩ : ∃ X, cenX Wn xs k = X := ⟨_, rfl⟩
      obtain ⟨Y, hY⟩ : ∃ Y, cenY Wn xs k = Y := ⟨_, rfl⟩
      rw [hX] at x0 x1 x2 x3 HX1 ⊢
      rw [hY] at y0 y1 y2 y3 HY1 ⊢
      clear hX hY
      obtain ⟨m0, m1⟩ := mul_bound (a := 10000) (b := 25) hva.1 hva.2 (show (0 : Int) ≤ (r : Int) by omega) (by omega)
      obtain ⟨m2, m3⟩ := mul_bound (a := 10000) (b := 25) hva.1 hva.2 (show (0 : Int) ≤ (q : Int) by omega) (by omega)
      have g1 : IntKind.i64.wrap (v * (r : Int)) = v * (r : Int) := wrap_in (by omega)
      have g2 : IntKind.i64.wrap (v * (q : Int)) = v * (q : Int) := wrap_in (by omega)
      have g3 : IntKind.i64.wrap (X + v * (r : Int)) = X + v * (r : Int) := wrap_in (by omega)
      have g4 : IntKind.i64.wrap (Y + v * (q : Int)) = Y + v * (q : Int) := wrap_in (by omega)
      have i0 : (0 : Int) ≤ (k : Int) := by omega
      have i1 : (k : Int) < (n : Int) := by omega
      obtain ⟨k0, f0, l0⟩ := hM.row .here
      go_upto_region 7 with fail
      clear k0 f0 l0
      apply Mem.atWpA
      · (repeat' (first | with_reducible exact hM | with_reducible exact hMp | with_reducible apply Mem.drew | with_reducible apply Mem.drewN | with_reducible apply Mem.alloc | with_reducible apply Mem.set | with_reducible exact Sto.row | ((with_reducible refine Sto.rowEq2 ?_ ?_); omega; rfl) | ((with_reducible refine Sto.rowEq ?_); omega) | with_reducible apply Sto.int | with_reducible apply Sto.there | with_reducible assumption | (unfold I64; omega) | (with_reducible (have hMx := Mem.undrew hM; exact hMx)) | (with_reducible (have hMx := Mem.undrew hMp; exact hMx))))
      clear hM
      intro wst hM
      (try simp only [World.size_alloc, World.size_setCell, World.heap_drewN, heapDrew, Nat.add_assoc, Nat.reduceAdd, List.setIfInBounds_toArray, List.set_cons_zero, List.set_cons_succ, List.cons_append, List.nil_append] at hM)
      obtain ⟨k0, f0, l0⟩ := hM.row .here
      have hck2 := (h.ext hM.below).get hlt
      rw [HV.out] at hck2
      go_quiet (fail)
      skip
      apply Mem.atEx
      · (repeat' (first | with_reducible exact hM | with_reducible exact hMp | with_reducible apply Mem.drew | with_reducible apply Mem.drewN | with_reducible apply Mem.alloc | with_reducible apply Mem.set | with_reducible exact Sto.row | ((with_reducible refine Sto.rowEq2 ?_ ?_); omega; rfl) | ((with_reducible refine Sto.rowEq ?_); omega) | with_reducible apply Sto.int | with_reducible apply Sto.there | with_reducible assumption | (unfold I64; omega) | (with_reducible (have hMx := Mem.undrew hM; exact hMx)) | (with_reducible (have hMx := Mem.undrew hMp; exact hMx))))
      clear hM
      intro wst hM
      (try simp only [World.size_alloc, World.size_setCell, World.heap_drewN, heapDrew, Nat.add_assoc, Nat.reduceAdd, List.setIfInBounds_toArray, List.set_cons_zero, List.set_cons_succ, List.cons_append, List.nil_append] at hM)
      go_wp2
      go_roundw
      case rel => exact ⟨k + 1, by omega, by go_num, by rw [HX1.out], by rw [HY1.out], hM⟩
      case measure => simp [intOf]; omega
    · obtain rfl : k = n := by omega
      clear hcb hk hlt hsb
      obtain ⟨k0, f0, l0⟩ := hM.row .here
      go_wp2_with fail
      clear k0 f0 l0
      apply Mem.atA
      · (repeat' (first | with_reducible exact hM | with_reducible exact hMp | with_reducible apply Mem.drew | with_reducible apply Mem.drewN | with_reducible apply Mem.alloc | with_reducible apply Mem.set | with_reducible exact Sto.row | ((with_reducible refine Sto.rowEq2 ?_ ?_); omega; rfl) | ((with_reducible refine Sto.rowEq ?_); omega) | with_reducible apply Sto.int | with_reducible apply Sto.there | with_reducible assumption | (unfold I64; omega) | (with_reducible (have hMx := Mem.undrew hM; exact hMx)) | (with_reducible (have hMx := Mem.undrew hMp; exact hMx))))
      clear hM
      intro wst hM
      (try simp only [World.size_alloc, World.size_setCell, World.heap_drewN, heapDrew, Nat.add_assoc, Nat.reduceAdd, List.setIfInBounds_toArray, List.set_cons_zero, List.set_cons_succ, List.cons_append, List.nil_append] at hM)
      refine (sum_any _ _ _ xs _ (h.ext hM.below) hn25 HA.out).mono ?_
      rw [HS.out]
      rintro e wc6 ⟨rfl, rfl⟩
      go_wp2
      ((try simp only [Exit.inBlock, Exit.then]); refine bodyPost_ret (results_tmp4 rfl _ _ _) rfl ?_)
      exact ⟨by rw [HF.out]; rfl, (by apply Mem.below; (repeat' (first | with_reducible exact hM | with_reducible exact hMp | with_reducible apply Mem.drew | with_reducible apply Mem.drewN | with_reducible apply Mem.alloc | with_reducible apply Mem.set | with_reducible exact Sto.row | ((with_reducible refine Sto.rowEq2 ?_ ?_); omega; rfl) | ((with_reducible refine Sto.rowEq ?_); omega) | with_reducible apply Sto.int | with_reducible apply Sto.there | with_reducible assumption | (unfold I64; omega) | (with_reducible (have hMx := Mem.undrew hM; exact hMx)) | (with_reducible (have hMx := Mem.undrew hMp; exact hMx)))))⟩
set_option maxRecDepth 100000 in
set_option maxHeartbeats 4000000 in
theorem specCen_any (W H : Int) (a : Option Addr) (n c : Nat) (xs : List Int) (w : World) (h : Ints w a n c xs) :
    Calls Try.prog 34 #[.agg #[.int .i64 W, .int .i64 H, .slice a n c]] w fun o w' => o = .returned (.tuple #[.int .i64 (cenR W H xs).a, .int .i64 (cenR W H xs).b, .int .i64 (cenR W H xs).t, .bool (cenR W H xs).ok]) ∧ Below w.heap.size w w' := by
  have hM := Mem.start w
  have HL := Lib.hid h.len
  have hc := h.room
  cases hg : goodB 10000 W H xs
  · have HF := Lib.hid (show cenR W H xs = ⟨0, 0, 0, false⟩ by rw [cenR, hg]; simp)
    have HG := Lib.hid hg; clear hg
    go_enter Try.func34, Try.ntmps34
    go_wp2_with fail
    apply Mem.atA
    · (repeat' (first | with_reducible exact hM | with_reducible exact hMp | with_reducible apply Mem.drew | with_reducible apply Mem.drewN | with_reducible apply Mem.alloc | with_reducible apply Mem.set | with_reducible exact Sto.row | ((with_reducible refine Sto.rowEq2 ?_ ?_); omega; rfl) | ((with_reducible refine Sto.rowEq ?_); omega) | with_reducible apply Sto.int | with_reducible apply Sto.there | with_reducible assumption | (unfold I64; omega) | (with_reducible (have hMx := Mem.undrew hM; exact hMx)) | (with_reducible (have hMx := Mem.undrew hMp; exact hMx))))
    clear hM
    intro wst hM
    (try simp only [World.size_alloc, World.size_setCell, World.heap_drewN, heapDrew, Nat.add_assoc, Nat.reduceAdd, List.setIfInBounds_toArray, List.set_cons_zero, List.set_cons_succ, List.cons_append, List.nil_append] at hM)
    refine (l19Good_any _ H a n c xs _ (h.ext hM.below)).mono ?_
    rw [HG.out]
    rintro e wc7 ⟨rfl, hb⟩
    replace hM := hM.ext hb
    clear hb
    go_wp2
    ((try simp only [Exit.inBlock, Exit.then]); refine bodyPost_ret (results_tmp4 rfl _ _ _) rfl ?_)
    exact ⟨by rw [HF.out]; rfl, (by apply Mem.below; (repeat' (first | with_reducible exact hM | with_reducible exact hMp | with_reducible apply Mem.drew | with_reducible apply Mem.drewN | with_reducible apply Mem.alloc | with_reducible apply Mem.set | with_reducible exact Sto.row | ((with_reducible refine Sto.rowEq2 ?_ ?_); omega; rfl) | ((with_reducible refine Sto.rowEq ?_); omega) | with_reducible apply Sto.int | with_reducible apply Sto.there | with_reducible assumption | (unfold I64; omega) | (with_reducible (have hMx := Mem.undrew hM; exact hMx)) | (with_reducible (have hMx := Mem.undrew hMp; exact hMx)))))⟩
  obtain ⟨Wn, Hn, hW, hH, p1, p2, p3, p4, hlen, h25, hall⟩ := goodB_true hg
  have hn25 : n ≤ 25 := by rw [← HL.out]; exact h25
  have HA := Lib.hid hall
  have hsb : 0 ≤ xs.sum ∧ xs.sum ≤ 250000 := by have := sum_bound hall; omega
  have HCS := Lib.hid (fun k hk h25 => cen_small (W := Wn) hall k hk h25)
  obtain ⟨S, hS⟩ : ∃ S, xs.sum = S := ⟨_, rfl⟩
  rw [hS] at hsb
  have HS := Lib.hid hS
  by_cases h0 : S = 0
  · have HF := Lib.hid (show cenR W H xs = ⟨0, 0, 0, false⟩ by rw [cenR, hg, hS, h0]; simp)
    subst h0
    have HG := Lib.hid hg; clear hg hall h25 hlen hS hW hH hsb p1 p2 p3 p4
    go_enter Try.func34, Try.ntmps34
    go_wp2_with fail
    apply Mem.atA
    · (repeat' (first | with_reducible exact hM | with_reducible exact hMp | with_reducible apply Mem.drew | with_reducible apply Mem.drewN | with_reducible apply Mem.alloc | with_reducible apply Mem.set | with_reducible exact Sto.row | ((with_reducible refine Sto.rowEq2 ?_ ?_); omega; rfl) | ((with_reducible refine Sto.rowEq ?_); omega) | with_reducible apply Sto.int | with_reducible apply Sto.there | with_reducible assumption | (unfold I64; omega) | (with_reducible (have hMx := Mem.undrew hM; exact hMx)) | (with_reducible (have hMx := Mem.undrew hMp; exact hMx))))
    clear hM
    intro wst hM
    (try simp only [World.size_alloc, World.size_setCell, World.heap_drewN, heapDrew, Nat.add_assoc, Nat.reduceAdd, List.setIfInBounds_toArray, List.set_cons_zero, List.set_cons_succ, List.cons_append, List.nil_append] at hM)
    refine (l19Good_any _ H a n c xs _ (h.ext hM.below)).mono ?_
    rw [HG.out]
    rintro e wc8 ⟨rfl, hb⟩
    replace hM := hM.ext hb
    clear hb
    obtain ⟨k0, f0, l0⟩ := hM.row .here
    go_wp2_with fail
    clear k0 f0 l0
    apply Mem.atA
    · (repeat' (first | with_reducible exact hM | with_reducible exact hMp | with_reducible apply Mem.drew | with_reducible apply Mem.drewN | with_reducible apply Mem.alloc | with_reducible apply Mem.set | with_reducible exact Sto.row | ((with_reducible refine Sto.rowEq2 ?_ ?_); omega; rfl) | ((with_reducible refine Sto.rowEq ?_); omega) | with_reducible apply Sto.int | with_reducible apply Sto.there | with_reducible assumption | (unfold I64; omega) | (with_reducible (have hMx := Mem.undrew hM; exact hMx)) | (with_reducible (have hMx := Mem.undrew hMp; exact hMx))))
    clear hM
    intro wst hM
    (try simp only [World.size_alloc, World.size_setCell, World.heap_drewN, heapDrew, Nat.add_assoc, Nat.reduceAdd, List.setIfInBounds_toArray, List.set_cons_zero, List.set_cons_succ, List.cons_append, List.nil_append] at hM)
    refine (l19Total_any _ H _ _ _ xs _ (h.ext hM.below) hn25 HA.out).mono ?_
    rw [HS.out]
    rintro e wc9 ⟨rfl, hb⟩
    replace hM := hM.ext hb
    clear hb
    go_wp2
    ((try simp only [Exit.inBlock, Exit.then]); refine bodyPost_ret (results_tmp4 rfl _ _ _) rfl ?_)
    exact ⟨by rw [HF.out]; rfl, (by apply Mem.below; (repeat' (first | with_reducible exact hM | with_reducible exact hMp | with_reducible apply Mem.drew | with_reducible apply Mem.drewN | with_reducible apply Mem.alloc | with_reducible apply Mem.set | with_reducible exact Sto.row | ((with_reducible refine Sto.rowEq2 ?_ ?_); omega; rfl) | ((with_reducible refine Sto.rowEq ?_); omega) | with_reducible apply Sto.int | with_reducible apply Sto.there | with_reducible assumption | (unfold I64; omega) | (with_reducible (have hMx := Mem.undrew hM; exact hMx)) | (with_reducible (have hMx := Mem.undrew hMp; exact hMx)))))⟩
  have h00 : (S == 0) = false := by simpa using h0
  have HF := Lib.hid (show cenR W H xs = ⟨cenX Wn xs n, cenY Wn xs n, S, true⟩ by rw [cenR, hg, hS, h00, hW, Int.toNat_natCast, HL.out]; simp)
  have HG := Lib.hid hg; clear hg hall h25 hlen hS h0
  have HWE := Lib.hid hW
  clear hH hW
  go_enter Try.func34, Try.ntmps34
  go_wp2_with fail
  apply Mem.atA
  · (repeat' (first | with_reducible exact hM | with_reducible exact hMp | with_reducible apply Mem.drew | with_reducible apply Mem.drewN | with_reducible apply Mem.alloc | with_reducible apply Mem.set | with_reducible exact Sto.row | ((with_reducible refine Sto.rowEq2 ?_ ?_); omega; rfl) | ((with_reducible refine Sto.rowEq ?_); omega) | with_reducible apply Sto.int | with_reducible apply Sto.there | with_reducible assumption | (unfold I64; omega) | (with_reducible (have hMx := Mem.undrew hM; exact hMx)) | (with_reducible (have hMx := Mem.undrew hMp; exact hMx))))
  clear hM
  intro wst hM
  (try simp only [World.size_alloc, World.size_setCell, World.heap_drewN, heapDrew, Nat.add_assoc, Nat.reduceAdd, List.setIfInBounds_toArray, List.set_cons_zero, List.set_cons_succ, List.cons_append, List.nil_append] at hM)
  refine (l19Good_any _ H a n c xs _ (h.ext hM.below)).mono ?_
  rw [HG.out]
  rintro e wc10 ⟨rfl, hb⟩
  replace hM := hM.ext hb
  clear hb
  obtain ⟨k0, f0, l0⟩ := hM.row .here
  go_wp2_with fail
  clear k0 f0 l0
  apply Mem.atA
  · (repeat' (first | with_reducible exact hM | with_reducible exact hMp | with_reducible apply Mem.drew | with_reducible apply Mem.drewN | with_reducible apply Mem.alloc | with_reducible apply Mem.set | with_reducible exact Sto.row | ((with_reducible refine Sto.rowEq2 ?_ ?_); omega; rfl) | ((with_reducible refine Sto.rowEq ?_); omega) | with_reducible apply Sto.int | with_reducible apply Sto.there | with_reducible assumption | (unfold I64; omega) | (with_reducible (have hMx := Mem.undrew hM; exact hMx)) | (with_reducible (have hMx := Mem.undrew hMp; exact hMx))))
  clear hM
  intro wst hM
  (try simp only [World.size_alloc, World.size_setCell, World.heap_drewN, heapDrew, Nat.add_assoc, Nat.reduceAdd, List.setIfInBounds_toArray, List.set_cons_zero, List.set_cons_succ, List.cons_append, List.nil_append] at hM)
  refine (l19Total_any _ H _ _ _ xs _ (h.ext hM.below) hn25 HA.out).mono ?_
  rw [HS.out]
  rintro e wc11 ⟨rfl, hb⟩
  replace hM := hM.ext hb
  clear hb
  go_upto_region 4 with fail
  apply Mem.atWpA
  · (repeat' (first | with_reducible exact hM | with_reducible exact hMp | with_reducible apply Mem.drew | with_reducible apply Mem.drewN | with_reducible apply Mem.alloc | with_reducible apply Mem.set | with_reducible exact Sto.row | ((with_reducible refine Sto.rowEq2 ?_ ?_); omega; rfl) | ((with_reducible refine Sto.rowEq ?_); omega) | with_reducible apply Sto.int | with_reducible apply Sto.there | with_reducible assumption | (unfold I64; omega) | (with_reducible (have hMx := Mem.undrew hM; exact hMx)) | (with_reducible (have hMx := Mem.undrew hMp; exact hMx))))
  clear hM
  intro wst hM
  (try simp only [World.size_alloc, World.size_setCell, World.heap_drewN, heapDrew, Nat.add_assoc, Nat.reduceAdd, List.setIfInBounds_toArray, List.set_cons_zero, List.set_cons_succ, List.cons_append, List.nil_append] at hM)
  obtain ⟨k0, f0, l0⟩ := hM.row .here
  have hI := h.ext hM.below
  have HW2 := Lib.hid (show W = (Wn : Int) from HWE.out)
  obtain rfl := HWE.out
  go_wp2
  go_loopw [6, 7, 8] (fun s6 s7 s8 wr => ∃ k : Nat, k ≤ n ∧ s8 = .int .i64 k ∧ s6 = .int .i64 (cenX Wn xs k) ∧ s7 = .int .i64 (cenY Wn xs k) ∧ Mem w.heap.size w wr [rowE w.heap.size 26 #[.int .i64 Wn, .int .i64 H, .slice a n c]]) (fun _ _ s8 _ => n - (intOf s8).toNat)
  case atStart => exact ⟨0, Nat.zero_le _, rfl, rfl, rfl, hM⟩
  case round =>
    clear hM k0 f0 l0 hI
    obtain ⟨k, hk, rfl, rfl, rfl, hM⟩ := hrel
    have hcb := HCS.out k (by rw [HL.out]; exact hk) (by omega)
    by_cases hlt : k < n
    · obtain ⟨b, off, rfl, -, hcell⟩ := (h.ext hM.below).at' _ hlt
      have hck := hcell k hlt
      clear hcell
      have hcs := HCS.out (k + 1) (by rw [HL.out]; exact hlt) (by omega)
      have hva := HA.out _ (getD_mem (xs := xs) (k := k) (by rw [HL.out]; exact hlt))
      obtain ⟨q, r, u1, u2, u3, u4, u5, u6, u7, u8, u9, u10, u11⟩ := cen_steps (k := k) (Wn := Wn) p1 (by omega)
      have HX1 := Lib.hid (show cenX Wn xs (k + 1) = cenX Wn xs k + xs.getD k 0 * (r : Int) by rw [cenX, u2])
      have HY1 := Lib.hid (show cenY Wn xs (k + 1) = cenY Wn xs k + xs.getD k 0 * (q : Int) by rw [cenY, u1])
      rw [HX1.out, HY1.out] at hcs
      obtain ⟨v, hv⟩ : ∃ v, xs.getD k 0 = v := ⟨_, rfl⟩
      rw [hv] at hck hva HX1 HY1 hcs
      have HV := Lib.hid hv
      clear hv u1 u2
      obtain ⟨⟨x0, x1⟩, y0, y1⟩ := hcb
      obtain ⟨⟨x2, x3⟩, y2, y3⟩ := hcs
      obtain ⟨X, hX⟩ : ∃ X, cenX Wn xs k = X := ⟨_, rfl⟩
      obtain ⟨Y, hY⟩ : ∃ Y, cenY Wn xs k = Y := ⟨_, rfl⟩
      rw [hX] at x0 x1 x2 x3 HX1 ⊢
      rw [hY] at y0 y1 y2 y3 HY1 ⊢
      clear hX hY
      obtain ⟨m0, m1⟩ := mul_bound (a := 10000) (b := 25) hva.1 hva.2 (show (0 : Int) ≤ (r : Int) by omega) (by omega)
      obtain ⟨m2, m3⟩ := mul_bound (a := 10000) (b := 25) hva.1 hva.2 (show (0 : Int) ≤ (q : Int) by omega) (by omega)
      have g1 : IntKind.i64.wrap (v * (r : Int)) = v * (r : Int) := wrap_in (by omega)
      have g2 : IntKind.i64.wrap (v * (q : Int)) = v * (q : Int) := wrap_in (by omega)
      have g3 : IntKind.i64.wrap (X + v * (r : Int)) = X + v * (r : Int) := wrap_in (by omega)
      have g4 : IntKind.i64.wrap (Y + v * (q : Int)) = Y + v * (q : Int) := wrap_in (by omega)
      have i0 : (0 : Int) ≤ (k : Int) := by omega
      have i1 : (k : Int) < (n : Int) := by omega
      obtain ⟨k0, f0, l0⟩ := hM.row .here
      go_upto_region 7 with fail
      clear k0 f0 l0
      apply Mem.atWpA
      · (repeat' (first | with_reducible exact hM | with_reducible exact hMp | with_reducible apply Mem.drew | with_reducible apply Mem.drewN | with_reducible apply Mem.alloc | with_reducible apply Mem.set | with_reducible exact Sto.row | ((with_reducible refine Sto.rowEq2 ?_ ?_); omega; rfl) | ((with_reducible refine Sto.rowEq ?_); omega) | with_reducible apply Sto.int | with_reducible apply Sto.there | with_reducible assumption | (unfold I64; omega) | (with_reducible (have hMx := Mem.undrew hM; exact hMx)) | (with_reducible (have hMx := Mem.undrew hMp; exact hMx))))
      clear hM
      intro wst hM
      (try simp only [World.size_alloc, World.size_setCell, World.heap_drewN, heapDrew, Nat.add_assoc, Nat.reduceAdd, List.setIfInBounds_toArray, List.set_cons_zero, List.set_cons_succ, List.cons_append, List.nil_append] at hM)
      obtain ⟨k0, f0, l0⟩ := hM.row .here
      have hck2 := (h.ext hM.below).get hlt
      rw [HV.out] at hck2
      go_quiet (fail)
      (go_upto_region 8 with fail; go_quiet (fail))
      apply Mem.atEx
      · (repeat' (first | with_reducible exact hM | with_reducible exact hMp | with_reducible apply Mem.drew | with_reducible apply Mem.drewN | with_reducible apply Mem.alloc | with_reducible apply Mem.set | with_reducible exact Sto.row | ((with_reducible refine Sto.rowEq2 ?_ ?_); omega; rfl) | ((with_reducible refine Sto.rowEq ?_); omega) | with_reducible apply Sto.int | with_reducible apply Sto.there | with_reducible assumption | (unfold I64; omega) | (with_reducible (have hMx := Mem.undrew hM; exact hMx)) | (with_reducible (have hMx := Mem.undrew hMp; exact hMx))))
      clear hM
      intro wst hM
      (try simp only [World.size_alloc, World.size_setCell, World.heap_drewN, heapDrew, Nat.add_assoc, Nat.reduceAdd, List.setIfInBounds_toArray, List.set_cons_zero, List.set_cons_succ, List.cons_append, List.nil_append] at hM)
      go_wp2
      go_roundw
      case rel => exact ⟨k + 1, by omega, by go_num, by rw [HX1.out], by rw [HY1.out], hM⟩
      case measure => simp [intOf]; omega
    · obtain rfl : k = n := by omega
      clear hcb hk hlt hsb
      obtain ⟨k0, f0, l0⟩ := hM.row .here
      go_wp2_with fail
      clear k0 f0 l0
      apply Mem.atA
      · (repeat' (first | with_reducible exact hM | with_reducible exact hMp | with_reducible apply Mem.drew | with_reducible apply Mem.drewN | with_reducible apply Mem.alloc | with_reducible apply Mem.set | with_reducible exact Sto.row | ((with_reducible refine Sto.rowEq2 ?_ ?_); omega; rfl) | ((with_reducible refine Sto.rowEq ?_); omega) | with_reducible apply Sto.int | with_reducible apply Sto.there | with_reducible assumption | (unfold I64; omega) | (with_reducible (have hMx := Mem.undrew hM; exact hMx)) | (with_reducible (have hMx := Mem.undrew hMp; exact hMx))))
      clear hM
      intro wst hM
      (try simp only [World.size_alloc, World.size_setCell, World.heap_drewN, heapDrew, Nat.add_assoc, Nat.reduceAdd, List.setIfInBounds_toArray, List.set_cons_zero, List.set_cons_succ, List.cons_append, List.nil_append] at hM)
      refine (l19Total_any _ H _ _ _ xs _ (h.ext hM.below) hn25 HA.out).mono ?_
      rw [HS.out]
      rintro e wc12 ⟨rfl, hb⟩
      replace hM := hM.ext hb
      clear hb
      go_wp2
      ((try simp only [Exit.inBlock, Exit.then]); refine bodyPost_ret (results_tmp4 rfl _ _ _) rfl ?_)
      exact ⟨by rw [HF.out]; rfl, (by apply Mem.below; (repeat' (first | with_reducible exact hM | with_reducible exact hMp | with_reducible apply Mem.drew | with_reducible apply Mem.drewN | with_reducible apply Mem.alloc | with_reducible apply Mem.set | with_reducible exact Sto.row | ((with_reducible refine Sto.rowEq2 ?_ ?_); omega; rfl) | ((with_reducible refine Sto.rowEq ?_); omega) | with_reducible apply Sto.int | with_reducible apply Sto.there | with_reducible assumption | (unfold I64; omega) | (with_reducible (have hMx := Mem.undrew hM; exact hMx)) | (with_reducible (have hMx := Mem.undrew hMp; exact hMx)))))⟩
end Go.Proofs.Ytdhgkfmehegeoaa

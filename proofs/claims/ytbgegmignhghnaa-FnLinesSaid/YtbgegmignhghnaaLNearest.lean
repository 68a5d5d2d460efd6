/-
  NearestLine.
-/
import Derived.Test.YtbgegmignhghnaaLTrim
import Derived.Test.YtbgegmignhghnaaLTouch
/-
  NearestLine.
-/
namespace Go.Proofs.Ytbgegmignhghnaa
set_option linter.unusedSimpArgs false
set_option linter.unusedVariables false
open Go.RowKit

theorem cellsN_filter {n : Nat} {p : Nat → Bool} {q : Int → Bool} : (cellsN n p).filter q = cellsN n (fun c => p c && q c) := by
  induction n with
  | zero => rfl
  | succ n ih =>
    rw [cellsN_succ, cellsN_succ, List.filter_append, ih]
    congr 1
    cases h : p n
    · rfl
    · cases h2 : q n <;> simp [h2]
theorem apI_zero {W a b : Nat} (h : apI W a b = 0) : a = b := by
  have h1 : a % W = b % W := by unfold apI dI at h; omega
  have h2 : a / W = b / W := by
    unfold apI dI at h
    generalize a / W = x at h ⊢
    generalize b / W = y at h ⊢
    omega
  rw [← Nat.div_add_mod a W, ← Nat.div_add_mod b W, h1, h2]
def farS (W : Nat) (xs : List Int) (c : Nat) (s : Int) : Bool := !brn xs s.toNat || decide (1 < apI W c s.toNat)
theorem touch_far {W n : Nat} {xs ss : List Int} {c : Nat} (hs : setB n ss = true) (hc : hasI ss c = false) (hn : c ≤ 1000) (hn25 : n ≤ 1000) : (!ss.all (farS W xs c)) = touchN W n xs ss c := by
  have hsm := (setB_iff.1 hs).2
  rw [Bool.eq_iff_iff, Bool.not_eq_true', List.all_eq_false]
  unfold touchN
  rw [List.any_eq_true]
  constructor
  · rintro ⟨s, hs1, hs2⟩
    obtain ⟨h0, h1⟩ := hsm s hs1
    unfold farS at hs2
    simp only [Bool.or_eq_true, Bool.not_eq_true', decide_eq_true_eq, not_or, Bool.not_eq_false] at hs2
    obtain ⟨h2, h3⟩ := hs2
    have hne : c ≠ s.toNat := by
      rintro rfl
      rw [Int.toNat_of_nonneg h0, hasI_iff.2 hs1] at hc
      cases hc
    have hb := apI_bound (W := W) (a := c) (b := s.toNat) hn (by omega)
    have h4 : apI W c s.toNat ≠ 0 := fun e => hne (apI_zero e)
    refine ⟨s, cellsN_mem.2 ⟨s.toNat, by omega, by omega, ?_⟩, ?_⟩
    · unfold nearN
      simp only [beq_iff_eq]
      omega
    · rw [h2, hasI_iff.2 hs1]; rfl
  · rintro ⟨d, hd, hd2⟩
    obtain ⟨e, rfl, he, hn2⟩ := cellsN_mem.1 hd
    rw [Bool.and_eq_true, hasI_iff] at hd2
    refine ⟨_, hd2.2, ?_⟩
    unfold nearN at hn2
    simp only [beq_iff_eq] at hn2
    unfold farS
    rw [hd2.1]
    simp [hn2]
def nearL (W n : Nat) (xs ss ts : List Int) : List Int := cellsN n (fun c => freeN xs ss ts c && touchN W n xs ss c)
theorem nearL_filter {W n : Nat} {xs ss ts : List Int} (hs : setB n ss = true) (hn25 : n ≤ 25) : (cellsN n (freeN xs ss ts)).filter (fun c => !ss.all (farS W xs c.toNat)) = nearL W n xs ss ts := by
  rw [cellsN_filter, nearL]
  refine cellsN_congr fun c hc => ?_
  cases hf : freeN xs ss ts c
  · rfl
  · have : hasI ss c = false := by
      unfold freeN at hf
      simp only [Bool.and_eq_true, Bool.not_eq_true'] at hf
      exact hf.1.2
    rw [Int.toNat_natCast, touch_far hs this (by omega) (by omega)]
noncomputable def nearestR (W H : Int) (xs ss ts : List Int) : LB := if caseB W H xs xs.length ss ts && lineB W.toNat xs.length xs ss ts (nearL W.toNat xs.length xs ss ts) then ⟨trimTo W.toNat xs.length xs ss ts (nearL W.toNat xs.length xs ss ts) (nearL W.toNat xs.length xs ss ts), true⟩ else ⟨[], false⟩

set_option maxRecDepth 100000 in
set_option maxHeartbeats 30000000 in
theorem near2_any (s : Nat) (b1 : Nat) (b2 : Nat) (w : World) (W Hn : Nat) (a : Option Addr) (n c : Nat) (xs : List Int) (k : Nat) (h : Ints w a n c xs) (hr1 : Row w b1 #[.int .i64 W, .int .i64 Hn, .slice a n c]) (hr2 : Row w b2 #[.int .i64 k]) (hn25 : n ≤ 25) (hW : 1 ≤ W ∧ W ≤ 5) (hk : k < n) (hs : s < n) :
    Calls Try.prog 45 #[.int .i64 s, .pointer (some ⟨b1, 0, none⟩), .pointer (some ⟨b2, 0, none⟩)] w (fun e w' => e = .returned (.bool (farS W xs k s)) ∧ Below w.heap.size w w') := by
  have hM := Mem.start w
  obtain ⟨x, hx⟩ : ∃ x, brn xs s = x := ⟨_, rfl⟩
  obtain ⟨y, hy⟩ : ∃ y, apI W k s = y := ⟨_, rfl⟩
  have HF := Lib.hid (show farS W xs k s = (!x || decide (1 < y)) by rw [farS, Int.toNat_natCast, hx, hy])
  have HX := Lib.hid hx; have HY := Lib.hid hy
  clear hx hy
  have k1 := hr1.cell
  go_enter Try.func45, Try.ntmps45
  go_wp2_with fail
  apply Mem.atA
  · (repeat' (first | with_reducible exact hM | with_reducible exact hMp | with_reducible apply Mem.drew | with_reducible apply Mem.drewN | with_reducible apply Mem.alloc | with_reducible apply Mem.set | with_reducible exact Sto.row | ((with_reducible refine Sto.rowEq2 ?_ ?_); omega; rfl) | ((with_reducible refine Sto.rowEq ?_); omega) | with_reducible apply Sto.int | with_reducible apply Sto.there | with_reducible assumption | (unfold I64; omega) | (with_reducible (have hMx := Mem.undrew hM; exact hMx)) | (with_reducible (have hMx := Mem.undrew hMp; exact hMx))))
  clear hM
  intro wst hM
  (try simp only [World.size_alloc, World.size_setCell, World.heap_drewN, heapDrew, Nat.add_assoc, Nat.reduceAdd, List.setIfInBounds_toArray, List.set_cons_zero, List.set_cons_succ, List.cons_append, List.nil_append] at hM)
  apply Calls.mono
  · (apply burns_any) <;> (first | (show (_ : Prop); with_reducible assumption) | (apply Hid.out; with_reducible assumption) | (apply Mem.intsR hM; (repeat' (first | with_reducible exact In.here | with_reducible apply In.there)); done) | (apply Ints.ext (hb := hM.below); with_reducible assumption) | (apply Rd.ext (hb := hM.below); with_reducible assumption) | (apply Mem.row hM; (repeat' (first | with_reducible exact In.here | with_reducible apply In.there)); done) | (apply Row.ext (hb := hM.below); with_reducible assumption) | exact ⟨by omega, by omega⟩ | omega | (trace_state; fail))
  rw [HX.out]
  rintro e wc1 ⟨rfl, hb⟩
  replace hM := hM.ext hb
  clear hb
  cases x
  · go_wp2
    go_ret
    exact ⟨rb (by rw [HF.out]; rfl), (by apply Mem.below; (repeat' (first | with_reducible exact hM | with_reducible exact hMp | with_reducible apply Mem.drew | with_reducible apply Mem.drewN | with_reducible apply Mem.alloc | with_reducible apply Mem.set | with_reducible exact Sto.row | ((with_reducible refine Sto.rowEq2 ?_ ?_); omega; rfl) | ((with_reducible refine Sto.rowEq ?_); omega) | with_reducible apply Sto.int | with_reducible apply Sto.there | with_reducible assumption | (unfold I64; omega) | (with_reducible (have hMx := Mem.undrew hM; exact hMx)) | (with_reducible (have hMx := Mem.undrew hMp; exact hMx)))))⟩
  clear k1
  have k1 := (hr1.ext hM.below).cell
  have k2 := (hr2.ext hM.below).cell
  go_wp2_with fail
  apply Mem.atA
  · (repeat' (first | with_reducible exact hM | with_reducible exact hMp | with_reducible apply Mem.drew | with_reducible apply Mem.drewN | with_reducible apply Mem.alloc | with_reducible apply Mem.set | with_reducible exact Sto.row | ((with_reducible refine Sto.rowEq2 ?_ ?_); omega; rfl) | ((with_reducible refine Sto.rowEq ?_); omega) | with_reducible apply Sto.int | with_reducible apply Sto.there | with_reducible assumption | (unfold I64; omega) | (with_reducible (have hMx := Mem.undrew hM; exact hMx)) | (with_reducible (have hMx := Mem.undrew hMp; exact hMx))))
  clear hM
  intro wst hM
  (try simp only [World.size_alloc, World.size_setCell, World.heap_drewN, heapDrew, Nat.add_assoc, Nat.reduceAdd, List.setIfInBounds_toArray, List.set_cons_zero, List.set_cons_succ, List.cons_append, List.nil_append] at hM)
  apply Calls.mono
  · (apply apart_any) <;> (first | (show (_ : Prop); with_reducible assumption) | (apply Hid.out; with_reducible assumption) | (apply Mem.intsR hM; (repeat' (first | with_reducible exact In.here | with_reducible apply In.there)); done) | (apply Ints.ext (hb := hM.below); with_reducible assumption) | (apply Rd.ext (hb := hM.below); with_reducible assumption) | (apply Mem.row hM; (repeat' (first | with_reducible exact In.here | with_reducible apply In.there)); done) | (apply Row.ext (hb := hM.below); with_reducible assumption) | exact ⟨by omega, by omega⟩ | omega | (trace_state; fail))
  rw [HY.out]
  rintro e wc2 ⟨rfl, hb⟩
  replace hM := hM.ext hb
  clear hb
  go_wp2
  go_ret
  exact ⟨rb (by rw [HF.out]; rfl), (by apply Mem.below; (repeat' (first | with_reducible exact hM | with_reducible exact hMp | with_reducible apply Mem.drew | with_reducible apply Mem.drewN | with_reducible apply Mem.alloc | with_reducible apply Mem.set | with_reducible exact Sto.row | ((with_reducible refine Sto.rowEq2 ?_ ?_); omega; rfl) | ((with_reducible refine Sto.rowEq ?_); omega) | with_reducible apply Sto.int | with_reducible apply Sto.there | with_reducible assumption | (unfold I64; omega) | (with_reducible (have hMx := Mem.undrew hM; exact hMx)) | (with_reducible (have hMx := Mem.undrew hMp; exact hMx)))))⟩

set_option maxRecDepth 100000 in
set_option maxHeartbeats 30000000 in
theorem near1_any (k : Nat) (b1 : Nat) (b2 : Nat) (w : World) (W Hn : Nat) (a : Option Addr) (n c : Nat) (xs : List Int) (a1 : Option Addr) (n1 c1 : Nat) (ss : List Int) (h : Ints w a n c xs) (h1 : Ints w a1 n1 c1 ss) (hr1 : Row w b1 #[.slice a1 n1 c1]) (hr2 : Row w b2 #[.int .i64 W, .int .i64 Hn, .slice a n c]) (hn25 : n ≤ 25) (hW : 1 ≤ W ∧ W ≤ 5) (hk : k < n) (hs : setB n ss = true) :
    Calls Try.prog 43 #[.int .i64 k, .pointer (some ⟨b1, 0, none⟩), .pointer (some ⟨b2, 0, none⟩)] w (fun e w' => e = .returned (.bool (!ss.all (farS W xs k))) ∧ Below w.heap.size w w') := by
  have hM := Mem.start w
  have hmf : ∀ (fn : Fn) (first cap : Array Value) (w : World), (Instr.makeFunc fn first cap).run Try.prog w = .ok (.func fn first cap) w := fun _ _ _ _ => rfl
  have HSM := Lib.hid (setB_iff.1 hs).2
  clear hs
  go_enter Try.func43, Try.ntmps43
  go_upto_region 1 with fail
  apply Mem.atWpA
  · (repeat' (first | with_reducible exact hM | with_reducible exact hMp | with_reducible apply Mem.drew | with_reducible apply Mem.drewN | with_reducible apply Mem.alloc | with_reducible apply Mem.set | with_reducible exact Sto.row | ((with_reducible refine Sto.rowEq2 ?_ ?_); omega; rfl) | ((with_reducible refine Sto.rowEq ?_); omega) | with_reducible apply Sto.int | with_reducible apply Sto.there | with_reducible assumption | (unfold I64; omega) | (with_reducible (have hMx := Mem.undrew hM; exact hMx)) | (with_reducible (have hMx := Mem.undrew hMp; exact hMx))))
  clear hM
  intro wst hM
  (try simp only [World.size_alloc, World.size_setCell, World.heap_drewN, heapDrew, Nat.add_assoc, Nat.reduceAdd, List.setIfInBounds_toArray, List.set_cons_zero, List.set_cons_succ, List.cons_append, List.nil_append] at hM)
  have k1 := (hr1.ext hM.below).cell
  go_wp2_with fail
  apply Mem.atA
  · (repeat' (first | with_reducible exact hM | with_reducible exact hMp | with_reducible apply Mem.drew | with_reducible apply Mem.drewN | with_reducible apply Mem.alloc | with_reducible apply Mem.set | with_reducible exact Sto.row | ((with_reducible refine Sto.rowEq2 ?_ ?_); omega; rfl) | ((with_reducible refine Sto.rowEq ?_); omega) | with_reducible apply Sto.int | with_reducible apply Sto.there | with_reducible assumption | (unfold I64; omega) | (with_reducible (have hMx := Mem.undrew hM; exact hMx)) | (with_reducible (have hMx := Mem.undrew hMp; exact hMx))))
  clear hM
  intro wst hM
  (try simp only [World.size_alloc, World.size_setCell, World.heap_drewN, heapDrew, Nat.add_assoc, Nat.reduceAdd, List.setIfInBounds_toArray, List.set_cons_zero, List.set_cons_succ, List.cons_append, List.nil_append] at hM)
  (first | refine ((all_any _ _ (farS W xs k) a1 n1 c1 ss _ (h1.ext hM.below) (enters Try.func45 (by kernel_rfl) rfl) (fun x hx w' hb => by
      have hM' := hM.ext hb
      obtain ⟨m, rfl⟩ := Int.eq_ofNat_of_zero_le (HSM.out x hx).1
      exact near2_any m _ _ w' W Hn a n c xs k (h.ext hM'.below) (hr2.ext hM'.below) (hM'.row .here) hn25 hW hk (by have := (HSM.out _ hx).2; omega)))).mono ?_)
  rintro e wc3 ⟨rfl, hb⟩
  replace hM := hM.ext hb
  clear hb
  go_wp2
  go_ret
  exact ⟨rfl, (by apply Mem.below; (repeat' (first | with_reducible exact hM | with_reducible exact hMp | with_reducible apply Mem.drew | with_reducible apply Mem.drewN | with_reducible apply Mem.alloc | with_reducible apply Mem.set | with_reducible exact Sto.row | ((with_reducible refine Sto.rowEq2 ?_ ?_); omega; rfl) | ((with_reducible refine Sto.rowEq ?_); omega) | with_reducible apply Sto.int | with_reducible apply Sto.there | with_reducible assumption | (unfold I64; omega) | (with_reducible (have hMx := Mem.undrew hM; exact hMx)) | (with_reducible (have hMx := Mem.undrew hMp; exact hMx)))))⟩

set_option maxRecDepth 100000 in
set_option maxHeartbeats 30000000 in
theorem implNearest_any (W H : Int) (a : Option Addr) (n c : Nat) (xs : List Int) (a1 : Option Addr) (n1 c1 : Nat) (ss : List Int) (a2 : Option Addr) (n2 c2 : Nat) (ts : List Int) (w : World) (h : Ints w a n c xs) (h1 : Ints w a1 n1 c1 ss) (h2 : Ints w a2 n2 c2 ts) :
    Calls Try.prog 16 #[.agg #[.int .i64 W, .int .i64 H, .slice a n c], .slice a1 n1 c1, .slice a2 n2 c2] w ((LRes w (nearestR W H xs ss ts))) := by
  have hM := Mem.start w
  have hmf : ∀ (fn : Fn) (first cap : Array Value) (w : World), (Instr.makeFunc fn first cap).run Try.prog w = .ok (.func fn first cap) w := fun _ _ _ _ => rfl
  have HL := Lib.hid h.len
  cases hc : caseB W H xs n ss ts
  · have HF := Lib.hid (show nearestR W H xs ss ts = ⟨[], false⟩ by rw [nearestR, h.len, hc]; rfl)
    go_enter Try.func16, Try.ntmps16
    go_wp2_with fail
    apply Mem.atA
    · (repeat' (first | with_reducible exact hM | with_reducible exact hMp | with_reducible apply Mem.drew | with_reducible apply Mem.drewN | with_reducible apply Mem.alloc | with_reducible apply Mem.set | with_reducible exact Sto.row | ((with_reducible refine Sto.rowEq2 ?_ ?_); omega; rfl) | ((with_reducible refine Sto.rowEq ?_); omega) | with_reducible apply Sto.int | with_reducible apply Sto.there | with_reducible assumption | (unfold I64; omega) | (with_reducible (have hMx := Mem.undrew hM; exact hMx)) | (with_reducible (have hMx := Mem.undrew hMp; exact hMx))))
    clear hM
    intro wst hM
    (try simp only [World.size_alloc, World.size_setCell, World.heap_drewN, heapDrew, Nat.add_assoc, Nat.reduceAdd, List.setIfInBounds_toArray, List.set_cons_zero, List.set_cons_succ, List.cons_append, List.nil_append] at hM)
    apply Calls.mono
    · (apply isCase_any W H a n c xs a1 n1 c1 ss a2 n2 c2 ts) <;> (first | (show (_ : Prop); with_reducible assumption) | (apply Hid.out; with_reducible assumption) | (apply Mem.intsR hM; (repeat' (first | with_reducible exact In.here | with_reducible apply In.there)); done) | (apply Ints.ext (hb := hM.below); with_reducible assumption) | (apply Rd.ext (hb := hM.below); with_reducible assumption) | (apply Mem.row hM; (repeat' (first | with_reducible exact In.here | with_reducible apply In.there)); done) | (apply Row.ext (hb := hM.below); with_reducible assumption) | exact ⟨by omega, by omega⟩ | omega | (trace_state; fail))
    rw [hc]
    rintro e wc4 ⟨rfl, hb⟩
    replace hM := hM.ext hb
    clear hb
    go_wp2
    go_ret2
    rw [HF.out]
    exact ⟨none, 0, 0, rfl, hM.nilInts⟩
  have HC := Lib.hid hc
  obtain ⟨hg, hs1, hs2, -⟩ := caseB_true hc
  obtain ⟨Wn, Hn, rfl, rfl, p1, p2, p3, p4, hlen, h25, hall⟩ := goodB_true hg
  have hn25 : n ≤ 25 := by rw [← HL.out]; exact h25
  have hnp : 0 < n := by rw [← HL.out, hlen]; exact Nat.mul_pos p1 p3
  have hpx : ∀ x ∈ xs, 0 ≤ x := fun x hx => (hall x hx).1
  obtain ⟨ls, hls⟩ : ∃ l, nearL Wn n xs ss ts = l := ⟨_, rfl⟩
  have hfl := nearL_filter (W := Wn) (xs := xs) (ts := ts) hs1 hn25
  have hsl : setB n ls = true := by rw [← hls]; exact setB_cells _ _
  rw [hls] at hfl
  have HFL := Lib.hid hfl
  have HFN := Lib.hid (show ∀ x ∈ cellsN n (freeN xs ss ts), ∃ m : Nat, x = m ∧ m < n from fun x hx => by obtain ⟨m, e, h1, -⟩ := cellsN_mem.1 hx; exact ⟨m, e, h1⟩)
  obtain ⟨q, hq⟩ : ∃ q, lineB Wn n xs ss ts ls = q := ⟨_, rfl⟩
  have HF := Lib.hid (show nearestR Wn Hn xs ss ts = if q then ⟨trimTo Wn n xs ss ts ls ls, true⟩ else ⟨[], false⟩ by rw [nearestR, h.len, hc, Int.toNat_natCast, hls, hq]; rfl)
  have HP := Lib.hid hpx; have HS1 := Lib.hid hs1; have HSL := Lib.hid hsl; have HQ := Lib.hid hq
  clear hc hg hs1 hs2 h25 hlen hall hpx hls hfl hsl hq
  go_enter Try.func16, Try.ntmps16
  go_wp2_with fail
  apply Mem.atA
  · (repeat' (first | with_reducible exact hM | with_reducible exact hMp | with_reducible apply Mem.drew | with_reducible apply Mem.drewN | with_reducible apply Mem.alloc | with_reducible apply Mem.set | with_reducible exact Sto.row | ((with_reducible refine Sto.rowEq2 ?_ ?_); omega; rfl) | ((with_reducible refine Sto.rowEq ?_); omega) | with_reducible apply Sto.int | with_reducible apply Sto.there | with_reducible assumption | (unfold I64; omega) | (with_reducible (have hMx := Mem.undrew hM; exact hMx)) | (with_reducible (have hMx := Mem.undrew hMp; exact hMx))))
  clear hM
  intro wst hM
  (try simp only [World.size_alloc, World.size_setCell, World.heap_drewN, heapDrew, Nat.add_assoc, Nat.reduceAdd, List.setIfInBounds_toArray, List.set_cons_zero, List.set_cons_succ, List.cons_append, List.nil_append] at hM)
  apply Calls.mono
  · (apply isCase_any Wn Hn a n c xs a1 n1 c1 ss a2 n2 c2 ts) <;> (first | (show (_ : Prop); with_reducible assumption) | (apply Hid.out; with_reducible assumption) | (apply Mem.intsR hM; (repeat' (first | with_reducible exact In.here | with_reducible apply In.there)); done) | (apply Ints.ext (hb := hM.below); with_reducible assumption) | (apply Rd.ext (hb := hM.below); with_reducible assumption) | (apply Mem.row hM; (repeat' (first | with_reducible exact In.here | with_reducible apply In.there)); done) | (apply Row.ext (hb := hM.below); with_reducible assumption) | exact ⟨by omega, by omega⟩ | omega | (trace_state; fail))
  rw [HC.out]
  rintro e wc5 ⟨rfl, hb⟩
  replace hM := hM.ext hb
  clear hb
  obtain ⟨k0, f0, l0⟩ := hM.row .here
  obtain ⟨k1, f1, l1⟩ := hM.row (.there .here)
  go_wp2_with fail
  clear k0 f0 l0 k1 f1 l1
  apply Mem.atA
  · (repeat' (first | with_reducible exact hM | with_reducible exact hMp | with_reducible apply Mem.drew | with_reducible apply Mem.drewN | with_reducible apply Mem.alloc | with_reducible apply Mem.set | with_reducible exact Sto.row | ((with_reducible refine Sto.rowEq2 ?_ ?_); omega; rfl) | ((with_reducible refine Sto.rowEq ?_); omega) | with_reducible apply Sto.int | with_reducible apply Sto.there | with_reducible assumption | (unfold I64; omega) | (with_reducible (have hMx := Mem.undrew hM; exact hMx)) | (with_reducible (have hMx := Mem.undrew hMp; exact hMx))))
  clear hM
  intro wst hM
  (try simp only [World.size_alloc, World.size_setCell, World.heap_drewN, heapDrew, Nat.add_assoc, Nat.reduceAdd, List.setIfInBounds_toArray, List.set_cons_zero, List.set_cons_succ, List.cons_append, List.nil_append] at hM)
  apply Calls.mono
  · (apply free_any Wn Hn a n c xs a1 n1 c1 ss a2 n2 c2 ts) <;> (first | (show (_ : Prop); with_reducible assumption) | (apply Hid.out; with_reducible assumption) | (apply Mem.intsR hM; (repeat' (first | with_reducible exact In.here | with_reducible apply In.there)); done) | (apply Ints.ext (hb := hM.below); with_reducible assumption) | (apply Rd.ext (hb := hM.below); with_reducible assumption) | (apply Mem.row hM; (repeat' (first | with_reducible exact In.here | with_reducible apply In.there)); done) | (apply Row.ext (hb := hM.below); with_reducible assumption) | exact ⟨by omega, by omega⟩ | omega | (trace_state; fail))
  rintro e wc6 ⟨a3, n3, c3, rfl, hm⟩
  replace hM := hM.join hm
  clear hm
  (try simp only [World.size_alloc, World.size_setCell, World.heap_drewN, heapDrew, Nat.add_assoc, Nat.reduceAdd, List.setIfInBounds_toArray, List.set_cons_zero, List.set_cons_succ, List.cons_append, List.nil_append] at hM)
  go_wp2_with fail
  apply Mem.atA
  · (repeat' (first | with_reducible exact hM | with_reducible exact hMp | with_reducible apply Mem.drew | with_reducible apply Mem.drewN | with_reducible apply Mem.alloc | with_reducible apply Mem.set | with_reducible exact Sto.row | ((with_reducible refine Sto.rowEq2 ?_ ?_); omega; rfl) | ((with_reducible refine Sto.rowEq ?_); omega) | with_reducible apply Sto.int | with_reducible apply Sto.there | with_reducible assumption | (unfold I64; omega) | (with_reducible (have hMx := Mem.undrew hM; exact hMx)) | (with_reducible (have hMx := Mem.undrew hMp; exact hMx))))
  clear hM
  intro wst hM
  (try simp only [World.size_alloc, World.size_setCell, World.heap_drewN, heapDrew, Nat.add_assoc, Nat.reduceAdd, List.setIfInBounds_toArray, List.set_cons_zero, List.set_cons_succ, List.cons_append, List.nil_append] at hM)
  (first | refine ((filterI_any _ _ _ (fun c => !ss.all (farS Wn xs c.toNat)) _ _ _ _ _ (hM.ints .here).ints (enters Try.func43 (by kernel_rfl) rfl) (fun x hx w' hb => by
      have hM' := hM.ext hb
      obtain ⟨m, rfl, hm⟩ := HFN.out x hx
      exact near1_any m _ _ w' Wn Hn a n c xs a1 n1 c1 ss (h.ext hM'.below) (h1.ext hM'.below) (hM'.row (.there .here)) (hM'.row (.there (.there .here))) hn25 ⟨p1, p2⟩ hm HS1.out))).mono ?_)
  rw [HFL.out]
  rintro e wc7 ⟨a4, n4, c4, rfl, hm⟩
  replace hM := hM.join hm
  clear hm
  (try simp only [World.size_alloc, World.size_setCell, World.heap_drewN, heapDrew, Nat.add_assoc, Nat.reduceAdd, List.setIfInBounds_toArray, List.set_cons_zero, List.set_cons_succ, List.cons_append, List.nil_append] at hM)
  obtain ⟨k2, f2, l2⟩ := hM.row (.there (.there .here))
  obtain ⟨k3, f3, l3⟩ := hM.row (.there (.there (.there .here)))
  go_wp2_with fail
  clear k2 f2 l2 k3 f3 l3
  apply Mem.atA
  · (repeat' (first | with_reducible exact hM | with_reducible exact hMp | with_reducible apply Mem.drew | with_reducible apply Mem.drewN | with_reducible apply Mem.alloc | with_reducible apply Mem.set | with_reducible exact Sto.row | ((with_reducible refine Sto.rowEq2 ?_ ?_); omega; rfl) | ((with_reducible refine Sto.rowEq ?_); omega) | with_reducible apply Sto.int | with_reducible apply Sto.there | with_reducible assumption | (unfold I64; omega) | (with_reducible (have hMx := Mem.undrew hM; exact hMx)) | (with_reducible (have hMx := Mem.undrew hMp; exact hMx))))
  clear hM
  intro wst hM
  (try simp only [World.size_alloc, World.size_setCell, World.heap_drewN, heapDrew, Nat.add_assoc, Nat.reduceAdd, List.setIfInBounds_toArray, List.set_cons_zero, List.set_cons_succ, List.cons_append, List.nil_append] at hM)
  apply Calls.mono
  · (apply isLine_any Wn Hn a n c xs a1 n1 c1 ss a2 n2 c2 ts _ _ _ ls) <;> (first | (show (_ : Prop); with_reducible assumption) | (apply Hid.out; with_reducible assumption) | (apply Mem.intsR hM; (repeat' (first | with_reducible exact In.here | with_reducible apply In.there)); done) | (apply Ints.ext (hb := hM.below); with_reducible assumption) | (apply Rd.ext (hb := hM.below); with_reducible assumption) | (apply Mem.row hM; (repeat' (first | with_reducible exact In.here | with_reducible apply In.there)); done) | (apply Row.ext (hb := hM.below); with_reducible assumption) | exact ⟨by omega, by omega⟩ | omega | (trace_state; fail))
  rw [HQ.out]
  rintro e wc8 ⟨rfl, hb⟩
  replace hM := hM.ext hb
  clear hb
  cases q
  · go_wp2
    go_ret2
    rw [HF.out]
    exact ⟨none, 0, 0, rfl, hM.nilInts⟩
  obtain ⟨k2, f2, l2⟩ := hM.row (.there (.there .here))
  obtain ⟨k3, f3, l3⟩ := hM.row (.there (.there (.there .here)))
  go_wp2_with fail
  clear k2 f2 l2 k3 f3 l3
  apply Mem.atA
  · (repeat' (first | with_reducible exact hM | with_reducible exact hMp | with_reducible apply Mem.drew | with_reducible apply Mem.drewN | with_reducible apply Mem.alloc | with_reducible apply Mem.set | with_reducible exact Sto.row | ((with_reducible refine Sto.rowEq2 ?_ ?_); omega; rfl) | ((with_reducible refine Sto.rowEq ?_); omega) | with_reducible apply Sto.int | with_reducible apply Sto.there | with_reducible assumption | (unfold I64; omega) | (with_reducible (have hMx := Mem.undrew hM; exact hMx)) | (with_reducible (have hMx := Mem.undrew hMp; exact hMx))))
  clear hM
  intro wst hM
  (try simp only [World.size_alloc, World.size_setCell, World.heap_drewN, heapDrew, Nat.add_assoc, Nat.reduceAdd, List.setIfInBounds_toArray, List.set_cons_zero, List.set_cons_succ, List.cons_append, List.nil_append] at hM)
  apply Calls.mono
  · (apply trim_any Wn Hn a n c xs a1 n1 c1 ss a2 n2 c2 ts _ _ _ ls) <;> (first | (show (_ : Prop); with_reducible assumption) | (apply Hid.out; with_reducible assumption) | (apply Mem.intsR hM; (repeat' (first | with_reducible exact In.here | with_reducible apply In.there)); done) | (apply Ints.ext (hb := hM.below); with_reducible assumption) | (apply Rd.ext (hb := hM.below); with_reducible assumption) | (apply Mem.row hM; (repeat' (first | with_reducible exact In.here | with_reducible apply In.there)); done) | (apply Row.ext (hb := hM.below); with_reducible assumption) | exact ⟨by omega, by omega⟩ | omega | (trace_state; fail))
  rintro e wc9 ⟨a5, n5, c5, rfl, hm⟩
  replace hM := hM.join hm
  clear hm
  (try simp only [World.size_alloc, World.size_setCell, World.heap_drewN, heapDrew, Nat.add_assoc, Nat.reduceAdd, List.setIfInBounds_toArray, List.set_cons_zero, List.set_cons_succ, List.cons_append, List.nil_append] at hM)
  go_wp2
  go_ret2
  rw [HF.out]
  exact ⟨a5, n5, c5, rfl, hM.first⟩

set_option maxRecDepth 100000 in
set_option maxHeartbeats 30000000 in
theorem specNearest_any (W H : Int) (a : Option Addr) (n c : Nat) (xs : List Int) (a1 : Option Addr) (n1 c1 : Nat) (ss : List Int) (a2 : Option Addr) (n2 c2 : Nat) (ts : List Int) (w : World) (h : Ints w a n c xs) (h1 : Ints w a1 n1 c1 ss) (h2 : Ints w a2 n2 c2 ts) :
    Calls Try.prog 17 #[.agg #[.int .i64 W, .int .i64 H, .slice a n c], .slice a1 n1 c1, .slice a2 n2 c2] w ((LRes w (nearestR W H xs ss ts))) := by
  have hM := Mem.start w
  have HL := Lib.hid h.len
  cases hc : caseB W H xs n ss ts
  · have HF := Lib.hid (show nearestR W H xs ss ts = ⟨[], false⟩ by rw [nearestR, h.len, hc]; rfl)
    go_enter Try.func17, Try.ntmps17
    go_wp2_with fail
    apply Mem.atA
    · (repeat' (first | with_reducible exact hM | with_reducible exact hMp | with_reducible apply Mem.drew | with_reducible apply Mem.drewN | with_reducible apply Mem.alloc | with_reducible apply Mem.set | with_reducible exact Sto.row | ((with_reducible refine Sto.rowEq2 ?_ ?_); omega; rfl) | ((with_reducible refine Sto.rowEq ?_); omega) | with_reducible apply Sto.int | with_reducible apply Sto.there | with_reducible assumption | (unfold I64; omega) | (with_reducible (have hMx := Mem.undrew hM; exact hMx)) | (with_reducible (have hMx := Mem.undrew hMp; exact hMx))))
    clear hM
    intro wst hM
    (try simp only [World.size_alloc, World.size_setCell, World.heap_drewN, heapDrew, Nat.add_assoc, Nat.reduceAdd, List.setIfInBounds_toArray, List.set_cons_zero, List.set_cons_succ, List.cons_append, List.nil_append] at hM)
    apply Calls.mono
    · (apply l9Asked_any W H a n c xs a1 n1 c1 ss a2 n2 c2 ts) <;> (first | (show (_ : Prop); with_reducible assumption) | (apply Hid.out; with_reducible assumption) | (apply Mem.intsR hM; (repeat' (first | with_reducible exact In.here | with_reducible apply In.there)); done) | (apply Ints.ext (hb := hM.below); with_reducible assumption) | (apply Rd.ext (hb := hM.below); with_reducible assumption) | (apply Mem.row hM; (repeat' (first | with_reducible exact In.here | with_reducible apply In.there)); done) | (apply Row.ext (hb := hM.below); with_reducible assumption) | exact ⟨by omega, by omega⟩ | omega | (trace_state; fail))
    rw [hc]
    rintro e wc10 ⟨rfl, hb⟩
    replace hM := hM.ext hb
    clear hb
    replace hM := hM.toInts (xs := []) .here rfl (by simp) (by simp)
    go_wp2
    go_ret2
    rw [HF.out]
    exact ⟨_, 0, 0, rfl, hM.first⟩
  have HC := Lib.hid hc
  obtain ⟨hg, hs1, hs2, -⟩ := caseB_true hc
  obtain ⟨Wn, Hn, rfl, rfl, p1, p2, p3, p4, hlen, h25, hall⟩ := goodB_true hg
  have hn25 : n ≤ 25 := by rw [← HL.out]; exact h25
  have hnp : 0 < n := by rw [← HL.out, hlen]; exact Nat.mul_pos p1 p3
  have hpx : ∀ x ∈ xs, 0 ≤ x := fun x hx => (hall x hx).1
  obtain ⟨ls, hls⟩ : ∃ l, nearL Wn n xs ss ts = l := ⟨_, rfl⟩
  have hsl : setB n ls = true := by rw [← hls]; exact setB_cells _ _
  obtain ⟨q, hq⟩ : ∃ q, lineB Wn n xs ss ts ls = q := ⟨_, rfl⟩
  have HF := Lib.hid (show nearestR Wn Hn xs ss ts = if q then ⟨trimTo Wn n xs ss ts ls ls, true⟩ else ⟨[], false⟩ by rw [nearestR, h.len, hc, Int.toNat_natCast, hls, hq]; rfl)
  have HLS := Lib.hid (show cellsN n (fun c => freeN xs ss ts c && touchN Wn n xs ss c) = ls from hls)
  have HP := Lib.hid hpx; have HS1 := Lib.hid hs1; have HSL := Lib.hid hsl; have HQ := Lib.hid hq
  clear hc hg hs1 hs2 h25 hlen hall hpx hls hsl hq
  go_enter Try.func17, Try.ntmps17
  go_wp2_with fail
  apply Mem.atA
  · (repeat' (first | with_reducible exact hM | with_reducible exact hMp | with_reducible apply Mem.drew | with_reducible apply Mem.drewN | with_reducible apply Mem.alloc | with_reducible apply Mem.set | with_reducible exact Sto.row | ((with_reducible refine Sto.rowEq2 ?_ ?_); omega; rfl) | ((with_reducible refine Sto.rowEq ?_); omega) | with_reducible apply Sto.int | with_reducible apply Sto.there | with_reducible assumption | (unfold I64; omega) | (with_reducible (have hMx := Mem.undrew hM; exact hMx)) | (with_reducible (have hMx := Mem.undrew hMp; exact hMx))))
  clear hM
  intro wst hM
  (try simp only [World.size_alloc, World.size_setCell, World.heap_drewN, heapDrew, Nat.add_assoc, Nat.reduceAdd, List.setIfInBounds_toArray, List.set_cons_zero, List.set_cons_succ, List.cons_append, List.nil_append] at hM)
  apply Calls.mono
  · (apply l9Asked_any Wn Hn a n c xs a1 n1 c1 ss a2 n2 c2 ts) <;> (first | (show (_ : Prop); with_reducible assumption) | (apply Hid.out; with_reducible assumption) | (apply Mem.intsR hM; (repeat' (first | with_reducible exact In.here | with_reducible apply In.there)); done) | (apply Ints.ext (hb := hM.below); with_reducible assumption) | (apply Rd.ext (hb := hM.below); with_reducible assumption) | (apply Mem.row hM; (repeat' (first | with_reducible exact In.here | with_reducible apply In.there)); done) | (apply Row.ext (hb := hM.below); with_reducible assumption) | exact ⟨by omega, by omega⟩ | omega | (trace_state; fail))
  rw [HC.out]
  rintro e wc11 ⟨rfl, hb⟩
  replace hM := hM.ext hb
  clear hb
  replace hM := hM.toInts (xs := []) .here rfl (by simp) (by simp)
  go_wp2_with fail
  go_loopw [8, 9] (fun s8 s9 wr => ∃ (k : Nat) (a' : Option Addr) (m c' : Nat), k ≤ n ∧ s9 = .int .i64 k ∧ s8 = .slice a' m c' ∧ Mem w.heap.size w wr [intE a' m c' (cellsN k (fun c => freeN xs ss ts c && touchN Wn n xs ss c)), rowE w.heap.size 26 #[.int .i64 Wn, .int .i64 Hn, .slice a n c]]) (fun _ s9 _ => n - (intOf s9).toNat)
  case atStart => exact ⟨0, _, 0, _, Nat.zero_le _, rfl, rfl, hM⟩
  case round =>
    clear hM
    obtain ⟨k, a', m, c', hk, rfl, rfl, hM⟩ := hrel
    by_cases hlt : k < n
    · have hm := (hM.ints .here).len
      have hl := cellsN_length k (fun c => freeN xs ss ts c && touchN Wn n xs ss c)
      have hm25 : m ≤ 25 := by omega
      clear hm hl
      have hsu := cellsN_succ k (fun c => freeN xs ss ts c && touchN Wn n xs ss c)
      obtain ⟨x, hx⟩ : ∃ x, freeN xs ss ts k = x := ⟨_, rfl⟩
      obtain ⟨y, hy⟩ : ∃ x, touchN Wn n xs ss k = x := ⟨_, rfl⟩
      rw [hx, hy] at hsu
      have HSU := Lib.hid hsu; have HX := Lib.hid hx; have HY := Lib.hid hy
      clear hx hy hsu
      obtain ⟨k1, f1, l1⟩ := hM.row (.there .here)
      go_wp2_with fail
      apply Mem.atA
      · (repeat' (first | with_reducible exact hM | with_reducible exact hMp | with_reducible apply Mem.drew | with_reducible apply Mem.drewN | with_reducible apply Mem.alloc | with_reducible apply Mem.set | with_reducible exact Sto.row | ((with_reducible refine Sto.rowEq2 ?_ ?_); omega; rfl) | ((with_reducible refine Sto.rowEq ?_); omega) | with_reducible apply Sto.int | with_reducible apply Sto.there | with_reducible assumption | (unfold I64; omega) | (with_reducible (have hMx := Mem.undrew hM; exact hMx)) | (with_reducible (have hMx := Mem.undrew hMp; exact hMx))))
      clear hM
      intro wst hM
      (try simp only [World.size_alloc, World.size_setCell, World.heap_drewN, heapDrew, Nat.add_assoc, Nat.reduceAdd, List.setIfInBounds_toArray, List.set_cons_zero, List.set_cons_succ, List.cons_append, List.nil_append] at hM)
      apply Calls.mono
      · (apply l9Free_any) <;> (first | (show (_ : Prop); with_reducible assumption) | (apply Hid.out; with_reducible assumption) | (apply Mem.intsR hM; (repeat' (first | with_reducible exact In.here | with_reducible apply In.there)); done) | (apply Ints.ext (hb := hM.below); with_reducible assumption) | (apply Rd.ext (hb := hM.below); with_reducible assumption) | (apply Mem.row hM; (repeat' (first | with_reducible exact In.here | with_reducible apply In.there)); done) | (apply Row.ext (hb := hM.below); with_reducible assumption) | exact ⟨by omega, by omega⟩ | omega | (trace_state; fail))
      rw [HX.out]
      rintro e wc12 ⟨rfl, hb⟩
      replace hM := hM.ext hb
      clear hb
      clear k1 f1 l1
      obtain ⟨k1, f1, l1⟩ := hM.row (.there .here)
      cases x
      · go_wp2
        go_roundw
        case rel =>
          refine ⟨k + 1, a', m, c', by omega, by go_num, rfl, ?_⟩
          rw [HSU.out]
          simp only [Bool.false_and, Bool.false_eq_true, if_false, List.append_nil]
          (repeat' (first | with_reducible exact hM | with_reducible exact hMp | with_reducible apply Mem.drew | with_reducible apply Mem.drewN | with_reducible apply Mem.alloc | with_reducible apply Mem.set | with_reducible exact Sto.row | ((with_reducible refine Sto.rowEq2 ?_ ?_); omega; rfl) | ((with_reducible refine Sto.rowEq ?_); omega) | with_reducible apply Sto.int | with_reducible apply Sto.there | with_reducible assumption | (unfold I64; omega) | (with_reducible (have hMx := Mem.undrew hM; exact hMx)) | (with_reducible (have hMx := Mem.undrew hMp; exact hMx))))
        case measure => simp [intOf]; omega
      go_wp2_with fail
      apply Mem.atA
      · (repeat' (first | with_reducible exact hM | with_reducible exact hMp | with_reducible apply Mem.drew | with_reducible apply Mem.drewN | with_reducible apply Mem.alloc | with_reducible apply Mem.set | with_reducible exact Sto.row | ((with_reducible refine Sto.rowEq2 ?_ ?_); omega; rfl) | ((with_reducible refine Sto.rowEq ?_); omega) | with_reducible apply Sto.int | with_reducible apply Sto.there | with_reducible assumption | (unfold I64; omega) | (with_reducible (have hMx := Mem.undrew hM; exact hMx)) | (with_reducible (have hMx := Mem.undrew hMp; exact hMx))))
      clear hM
      intro wst hM
      (try simp only [World.size_alloc, World.size_setCell, World.heap_drewN, heapDrew, Nat.add_assoc, Nat.reduceAdd, List.setIfInBounds_toArray, List.set_cons_zero, List.set_cons_succ, List.cons_append, List.nil_append] at hM)
      apply Calls.mono
      · (apply l9Touch_any) <;> (first | (show (_ : Prop); with_reducible assumption) | (apply Hid.out; with_reducible assumption) | (apply Mem.intsR hM; (repeat' (first | with_reducible exact In.here | with_reducible apply In.there)); done) | (apply Ints.ext (hb := hM.below); with_reducible assumption) | (apply Rd.ext (hb := hM.below); with_reducible assumption) | (apply Mem.row hM; (repeat' (first | with_reducible exact In.here | with_reducible apply In.there)); done) | (apply Row.ext (hb := hM.below); with_reducible assumption) | exact ⟨by omega, by omega⟩ | omega | (trace_state; fail))
      rw [HY.out]
      rintro e wc13 ⟨rfl, hb⟩
      replace hM := hM.ext hb
      clear hb
      clear k1 f1 l1
      cases y
      · go_wp2
        go_roundw
        case rel =>
          refine ⟨k + 1, a', m, c', by omega, by go_num, rfl, ?_⟩
          rw [HSU.out]
          simp only [Bool.and_false, Bool.false_eq_true, if_false, List.append_nil]
          (repeat' (first | with_reducible exact hM | with_reducible exact hMp | with_reducible apply Mem.drew | with_reducible apply Mem.drewN | with_reducible apply Mem.alloc | with_reducible apply Mem.set | with_reducible exact Sto.row | ((with_reducible refine Sto.rowEq2 ?_ ?_); omega; rfl) | ((with_reducible refine Sto.rowEq ?_); omega) | with_reducible apply Sto.int | with_reducible apply Sto.there | with_reducible assumption | (unfold I64; omega) | (with_reducible (have hMx := Mem.undrew hM; exact hMx)) | (with_reducible (have hMx := Mem.undrew hMp; exact hMx))))
        case measure => simp [intOf]; omega
      go_wp2_with (at_builtin; apply Mem.atL; (focus ((repeat' (first | with_reducible exact hM | with_reducible exact hMp | with_reducible apply Mem.drew | with_reducible apply Mem.drewN | with_reducible apply Mem.alloc | with_reducible apply Mem.set | with_reducible exact Sto.row | ((with_reducible refine Sto.rowEq2 ?_ ?_); omega; rfl) | ((with_reducible refine Sto.rowEq ?_); omega) | with_reducible apply Sto.int | with_reducible apply Sto.there | with_reducible assumption | (unfold I64; omega) | (with_reducible (have hMx := Mem.undrew hM; exact hMx)) | (with_reducible (have hMx := Mem.undrew hMp; exact hMx)))); done)); clear hM; intro hM; (try simp only [World.size_alloc, World.size_setCell, World.heap_drewN, heapDrew, Nat.add_assoc, Nat.reduceAdd, List.setIfInBounds_toArray, List.set_cons_zero, List.set_cons_succ, List.cons_append, List.nil_append] at hM); refine wpList_pushI hM (fun _ => .here) (i64_nat (by omega)) (by omega) rfl _ _ _ Try.underlying24 rfl rfl rfl ?_)
      intro a6 c6 w6 hM
      go_wp2
      go_roundw
      case rel =>
        refine ⟨k + 1, a6, m + 1, c6, by omega, by go_num, rfl, ?_⟩
        rw [HSU.out]
        exact hM
      case measure => simp [intOf]; omega
    · obtain rfl : k = n := by omega
      rw [HLS.out] at hM
      obtain ⟨k1, f1, l1⟩ := hM.row (.there .here)
      go_wp2_with fail
      clear k1 f1 l1
      apply Mem.atA
      · (repeat' (first | with_reducible exact hM | with_reducible exact hMp | with_reducible apply Mem.drew | with_reducible apply Mem.drewN | with_reducible apply Mem.alloc | with_reducible apply Mem.set | with_reducible exact Sto.row | ((with_reducible refine Sto.rowEq2 ?_ ?_); omega; rfl) | ((with_reducible refine Sto.rowEq ?_); omega) | with_reducible apply Sto.int | with_reducible apply Sto.there | with_reducible assumption | (unfold I64; omega) | (with_reducible (have hMx := Mem.undrew hM; exact hMx)) | (with_reducible (have hMx := Mem.undrew hMp; exact hMx))))
      clear hM
      intro wst hM
      (try simp only [World.size_alloc, World.size_setCell, World.heap_drewN, heapDrew, Nat.add_assoc, Nat.reduceAdd, List.setIfInBounds_toArray, List.set_cons_zero, List.set_cons_succ, List.cons_append, List.nil_append] at hM)
      apply Calls.mono
      · (apply l9Line_any Wn Hn a k c xs a1 n1 c1 ss a2 n2 c2 ts _ _ _ ls) <;> (first | (show (_ : Prop); with_reducible assumption) | (apply Hid.out; with_reducible assumption) | (apply Mem.intsR hM; (repeat' (first | with_reducible exact In.here | with_reducible apply In.there)); done) | (apply Ints.ext (hb := hM.below); with_reducible assumption) | (apply Rd.ext (hb := hM.below); with_reducible assumption) | (apply Mem.row hM; (repeat' (first | with_reducible exact In.here | with_reducible apply In.there)); done) | (apply Row.ext (hb := hM.below); with_reducible assumption) | exact ⟨by omega, by omega⟩ | omega | (trace_state; fail))
      rw [HQ.out]
      rintro e wc14 ⟨rfl, hb⟩
      replace hM := hM.ext hb
      clear hb
      cases q
      · go_wp2
        go_ret2
        rw [HF.out]
        exact ⟨_, 0, 0, rfl, hM.empty.first⟩
      obtain ⟨k1, f1, l1⟩ := hM.row (.there .here)
      go_wp2_with fail
      clear k1 f1 l1
      apply Mem.atA
      · (repeat' (first | with_reducible exact hM | with_reducible exact hMp | with_reducible apply Mem.drew | with_reducible apply Mem.drewN | with_reducible apply Mem.alloc | with_reducible apply Mem.set | with_reducible exact Sto.row | ((with_reducible refine Sto.rowEq2 ?_ ?_); omega; rfl) | ((with_reducible refine Sto.rowEq ?_); omega) | with_reducible apply Sto.int | with_reducible apply Sto.there | with_reducible assumption | (unfold I64; omega) | (with_reducible (have hMx := Mem.undrew hM; exact hMx)) | (with_reducible (have hMx := Mem.undrew hMp; exact hMx))))
      clear hM
      intro wst hM
      (try simp only [World.size_alloc, World.size_setCell, World.heap_drewN, heapDrew, Nat.add_assoc, Nat.reduceAdd, List.setIfInBounds_toArray, List.set_cons_zero, List.set_cons_succ, List.cons_append, List.nil_append] at hM)
      apply Calls.mono
      · (apply l9Trim_any Wn Hn a k c xs a1 n1 c1 ss a2 n2 c2 ts _ _ _ ls) <;> (first | (show (_ : Prop); with_reducible assumption) | (apply Hid.out; with_reducible assumption) | (apply Mem.intsR hM; (repeat' (first | with_reducible exact In.here | with_reducible apply In.there)); done) | (apply Ints.ext (hb := hM.below); with_reducible assumption) | (apply Rd.ext (hb := hM.below); with_reducible assumption) | (apply Mem.row hM; (repeat' (first | with_reducible exact In.here | with_reducible apply In.there)); done) | (apply Row.ext (hb := hM.below); with_reducible assumption) | exact ⟨by omega, by omega⟩ | omega | (trace_state; fail))
      rintro e wc15 ⟨a5, n5, c5, rfl, hm⟩
      replace hM := hM.join hm
      clear hm
      (try simp only [World.size_alloc, World.size_setCell, World.heap_drewN, heapDrew, Nat.add_assoc, Nat.reduceAdd, List.setIfInBounds_toArray, List.set_cons_zero, List.set_cons_succ, List.cons_append, List.nil_append] at hM)
      go_wp2
      go_ret2
      rw [HF.out]
      exact ⟨a5, n5, c5, rfl, hM.first⟩
end Go.Proofs.Ytbgegmignhghnaa

/- Lemmas. -/
import Derived.Test.YtpflnmejbialjaaGreatDoorVGood
namespace Go.Proofs.YtpflnmejbialjaaGreatDoor
set_option linter.unusedSimpArgs false
set_option linter.unusedVariables false
open Go.RowKit

/-- strictly ascending, as far as place k -/
def risesTo (xs : List Int) : Nat → Bool
  | 0 => true
  | k + 1 => risesTo xs k && (k == 0 || decide (xs.getD (k - 1) 0 < xs.getD k 0))
def risingB (xs : List Int) : Bool := risesTo xs xs.length
theorem risesTo_le {xs : List Int} {n : Nat} (h : risesTo xs n = true) : ∀ {k : Nat}, k ≤ n → risesTo xs k = true := by
  induction n with
  | zero => intro k hk; obtain rfl : k = 0 := (by omega); exact h
  | succ n ih =>
    intro k hk
    by_cases e : k = n + 1
    · subst e; exact h
    · simp only [risesTo, Bool.and_eq_true] at h
      exact ih h.1 (by omega)
theorem rising_false {xs : List Int} {k j : Nat} (hk : k < xs.length) (hj : k = j + 1) (h : ¬ xs.getD j 0 < xs.getD k 0) : risingB xs = false := by
  cases hr : risingB xs with
  | false => rfl
  | true =>
    have h1 := risesTo_le hr (show k + 1 ≤ xs.length by omega)
    subst hj
    simp only [risesTo, Bool.and_eq_true, Bool.or_eq_true, decide_eq_true_eq, beq_iff_eq] at h1
    rcases h1.2 with h2 | h2
    · omega
    · exact absurd h2 h
theorem risesTo_succ {xs : List Int} {k j : Nat} (hj : k = j + 1) (h0 : risesTo xs k = true) (h : xs.getD j 0 < xs.getD k 0) : risesTo xs (k + 1) = true := by
  subst hj
  simp only [risesTo, Bool.and_eq_true, Bool.or_eq_true, decide_eq_true_eq]
  simp only [risesTo, Bool.and_eq_true, Bool.or_eq_true, decide_eq_true_eq] at h0
  exact ⟨h0, .inr h⟩
/-- a set of the numbers below m -/
def setB (m : Nat) (xs : List Int) : Bool := risingB xs && xs.all fun x => inB x 0 ((m : Int) - 1)
set_option maxRecDepth 100000 in
set_option maxHeartbeats 4000000 in
theorem isRising_any (a : Option Addr) (n c : Nat) (xs : List Int) (w : World) (h : Ints w a n c xs) :
    Calls Tryz.prog 53 #[.slice a n c] w fun e w' => e = .returned (.bool (risingB xs)) ∧ Below w.heap.size w w' := by
  have hn := h.cap
  have hc := h.room
  have HL := Lib.hid h.len
  go_enter Tryz.func53, Tryz.ntmps53
  go_wp2
  go_loopw [3] (fun i wr => ∃ j : Nat, (j + 1 ≤ n ∨ j = 0) ∧ i = .int .i64 ((j : Int) + 1) ∧ (j < n → risesTo xs (j + 1) = true) ∧ Below w.heap.size w wr) (fun i _ => n + 1 - (intOf i).toNat)
  case atStart => exact ⟨0, .inr rfl, rfl, fun _ => by simp [risesTo], Below.refl _ _⟩
  case round =>
    obtain ⟨j, hk, rfl, hris, hbr⟩ := hrel
    have HA := Lib.hid hris; clear hris
    by_cases hlt : j + 1 < n
    · obtain ⟨b, off, rfl, hb, hcell⟩ := (h.below hbr).at' _ hlt
      have hck := hcell (j + 1) hlt
      have hcj := hcell j (by omega)
      clear hcell
      obtain ⟨x, hx⟩ : ∃ x, xs.getD (j + 1) 0 = x := ⟨_, rfl⟩
      obtain ⟨y, hy⟩ : ∃ y, xs.getD j 0 = y := ⟨_, rfl⟩
      rw [hx] at hck
      rw [hy] at hcj
      have HX := Lib.hid hx; clear hx
      have HY := Lib.hid hy; clear hy
      obtain ⟨k, hkj⟩ : ∃ k, k = j + 1 := ⟨_, rfl⟩
      have hkI : ((j : Int) + 1) = (k : Int) := by omega
      rw [hkI]
      rw [← hkj] at hck hlt
      have hjI : IntKind.i64.wrap ((k : Int) - 1) = (j : Int) := by rw [wrap_in (by omega)]; omega
      have i0 : (0 : Int) ≤ (k : Int) := by omega
      have i1 : (k : Int) < (n : Int) := by omega
      have j0 : (0 : Int) ≤ (j : Int) := by omega
      have j1 : (j : Int) < (n : Int) := by omega
      have HK := Lib.hid hkj
      clear hkI hkj
      by_cases hle : x ≤ y
      · go_wp2_with fail
        go_quiet (fail)
        go_wp2_with fail
        go_ret
        exact ⟨rb (rising_false (k := k) (j := j) (by rw [HL.out]; exact hlt) HK.out (by rw [HY.out, HK.out, HX.out]; omega)).symm, by (repeat' (first | exact Below.refl _ _ | with_reducible refine Below.setCell ?_ (by first | omega | (simp; done) | (simp; omega)) _ | with_reducible refine Below.alloc ?_ (by first | omega | (simp; done) | (simp; omega)) _ | with_reducible refine Below.drew ?_ | with_reducible refine bdrewN ?_ _ | with_reducible refine Below.trans ?_ (Below.mono hbr (by first | omega | (simp; done) | (simp; omega)))))⟩
      · go_wp2_with fail
        go_quiet (fail)
        go_wp2_with fail
        go_roundw
        case rel =>
          have e := HK.out
          subst e
          refine ⟨j + 1, .inl (by omega), by go_num, fun _ => ?_, by (repeat' (first | exact Below.refl _ _ | with_reducible refine Below.setCell ?_ (by first | omega | (simp; done) | (simp; omega)) _ | with_reducible refine Below.alloc ?_ (by first | omega | (simp; done) | (simp; omega)) _ | with_reducible refine Below.drew ?_ | with_reducible refine bdrewN ?_ _ | with_reducible refine Below.trans ?_ (Below.mono hbr (by first | omega | (simp; done) | (simp; omega)))))⟩
          exact risesTo_succ (j := j) rfl (HA.out (by omega)) (by rw [HY.out, HX.out]; omega)
        case measure => simp [intOf]; omega
    · go_wp2
      go_ret
      refine ⟨rb ?_, hbr⟩
      by_cases h0 : n = 0
      · rw [risingB, HL.out, h0]; rfl
      · obtain rfl : n = j + 1 := by omega
        rw [risingB, HL.out]; exact (HA.out (by omega)).symm

set_option maxRecDepth 100000 in
set_option maxHeartbeats 4000000 in
theorem l1Rising_any (a : Option Addr) (n c : Nat) (xs : List Int) (lo hi : Int) (w : World) (h : Ints w a n c xs) :
    Calls Tryz.prog 48 #[.slice a n c, .int .i64 lo, .int .i64 hi] w fun e w' => e = .returned (.bool (risingB xs && xs.all fun x => inB x lo hi)) ∧ Below w.heap.size w w' := by
  have hn := h.cap
  have hc := h.room
  have HL := Lib.hid h.len
  go_enter Tryz.func48, Tryz.ntmps48
  go_wp2
  go_loopw [7] (fun i wr => ∃ k : Nat, k ≤ n ∧ i = .int .i64 k ∧ (risesTo xs k && (xs.take k).all fun x => inB x lo hi) = true ∧ Below w.heap.size w wr) (fun i _ => n - (intOf i).toNat)
  case atStart => exact ⟨0, Nat.zero_le _, rfl, by simp [risesTo], Below.refl _ _⟩
  case round =>
    obtain ⟨k, hk, rfl, hris, hbr⟩ := hrel
    have HA := Lib.hid hris; clear hris
    by_cases hlt : k < n
    · obtain ⟨b, off, rfl, hb, hcell⟩ := (h.below hbr).at' _ hlt
      have hck := hcell k hlt
      obtain ⟨x, hx⟩ : ∃ x, xs.getD k 0 = x := ⟨_, rfl⟩
      rw [hx] at hck
      have HX := Lib.hid hx; clear hx
      have i0 : (0 : Int) ≤ (k : Int) := by omega
      have i1 : (k : Int) < (n : Int) := by omega
      cases hin : inB x lo hi
      · clear hcell
        go_wp2_with fail
        go_quiet ((go_at_call 47; exact Calls.quiet_of_same ((l1In_any _ _ _ _).mono fun _ _ h => ⟨h.1, h.2.symm⟩)))
        go_wp2_with fail
        go_ret
        refine ⟨rb ?_, by (repeat' (first | exact Below.refl _ _ | with_reducible refine Below.setCell ?_ (by first | omega | (simp; done) | (simp; omega)) _ | with_reducible refine Below.alloc ?_ (by first | omega | (simp; done) | (simp; omega)) _ | with_reducible refine Below.drew ?_ | with_reducible refine bdrewN ?_ _ | with_reducible refine Below.trans ?_ (Below.mono hbr (by first | omega | (simp; done) | (simp; omega)))))⟩
        rw [all_false_of (k := k) (by rw [HL.out]; exact hlt) (by rw [HX.out]; exact hin), Bool.and_false]
      by_cases h0 : k = 0
      · have kz : decide (0 < k) = false := decide_eq_false (by omega)
        have H0 := Lib.hid h0
        clear hcell h0
        go_wp2_with fail
        go_quiet ((go_at_call 47; exact Calls.quiet_of_same ((l1In_any _ _ _ _).mono fun _ _ h => ⟨h.1, h.2.symm⟩)))
        go_wp2_with fail
        go_roundw
        case rel =>
          refine ⟨k + 1, by omega, by go_num, ?_, by (repeat' (first | exact Below.refl _ _ | with_reducible refine Below.setCell ?_ (by first | omega | (simp; done) | (simp; omega)) _ | with_reducible refine Below.alloc ?_ (by first | omega | (simp; done) | (simp; omega)) _ | with_reducible refine Below.drew ?_ | with_reducible refine bdrewN ?_ _ | with_reducible refine Below.trans ?_ (Below.mono hbr (by first | omega | (simp; done) | (simp; omega)))))⟩
          rw [all_take_succ (by rw [HL.out]; exact hlt), HX.out, hin, H0.out]
          simp [risesTo]
        case measure => simp [intOf]; omega
      obtain ⟨j, hj⟩ : ∃ j, k = j + 1 := ⟨k - 1, by omega⟩
      have hcj := hcell j (by omega)
      clear hcell
      obtain ⟨y, hy⟩ : ∃ y, xs.getD j 0 = y := ⟨_, rfl⟩
      rw [hy] at hcj
      have HY := Lib.hid hy; clear hy
      have hjI : IntKind.i64.wrap ((k : Int) - 1) = (j : Int) := by rw [wrap_in (by omega)]; omega
      have j0 : (0 : Int) ≤ (j : Int) := by omega
      have j1 : (j : Int) < (n : Int) := by omega
      have kp : decide (0 < k) = true := decide_eq_true (by omega)
      have HK := Lib.hid hj
      clear hj h0
      by_cases hle : x ≤ y
      · go_wp2_with fail
        go_quiet ((go_at_call 47; exact Calls.quiet_of_same ((l1In_any _ _ _ _).mono fun _ _ h => ⟨h.1, h.2.symm⟩)))
        go_wp2_with fail
        go_ret
        refine ⟨rb ?_, by (repeat' (first | exact Below.refl _ _ | with_reducible refine Below.setCell ?_ (by first | omega | (simp; done) | (simp; omega)) _ | with_reducible refine Below.alloc ?_ (by first | omega | (simp; done) | (simp; omega)) _ | with_reducible refine Below.drew ?_ | with_reducible refine bdrewN ?_ _ | with_reducible refine Below.trans ?_ (Below.mono hbr (by first | omega | (simp; done) | (simp; omega)))))⟩
        rw [rising_false (k := k) (j := j) (by rw [HL.out]; exact hlt) HK.out (by rw [HY.out, HX.out]; omega), Bool.false_and]
      · go_wp2_with fail
        go_quiet ((go_at_call 47; exact Calls.quiet_of_same ((l1In_any _ _ _ _).mono fun _ _ h => ⟨h.1, h.2.symm⟩)))
        go_wp2_with fail
        go_roundw
        case rel =>
          have hA := HA.out
          rw [Bool.and_eq_true] at hA
          refine ⟨k + 1, by omega, by go_num, ?_, by (repeat' (first | exact Below.refl _ _ | with_reducible refine Below.setCell ?_ (by first | omega | (simp; done) | (simp; omega)) _ | with_reducible refine Below.alloc ?_ (by first | omega | (simp; done) | (simp; omega)) _ | with_reducible refine Below.drew ?_ | with_reducible refine bdrewN ?_ _ | with_reducible refine Below.trans ?_ (Below.mono hbr (by first | omega | (simp; done) | (simp; omega)))))⟩
          rw [all_take_succ (by rw [HL.out]; exact hlt), HX.out, hin, hA.2, risesTo_succ HK.out hA.1 (by rw [HY.out, HX.out]; omega)]
          rfl
        case measure => simp [intOf]; omega
    · go_wp2
      go_ret
      obtain rfl : k = n := by omega
      refine ⟨rb ?_, hbr⟩
      have hA := HA.out
      rw [List.take_of_length_le (by rw [HL.out]; exact Nat.le_refl _)] at hA
      rw [risingB, HL.out, hA]

end Go.Proofs.YtpflnmejbialjaaGreatDoor

/-
  Fractions in lowest terms: both sides.
-/
import Derived.Test.YtpoabdmapbdmfaaDoorPRd
import Derived.Test.YtpoabdmapbdmfaaDoorPLst
import Derived.Deep.QuietTactic
/-
  Fractions in lowest terms: both sides.
-/
namespace Go.Proofs.YtpoabdmapbdmfaaDoor
set_option linter.unusedSimpArgs false
set_option linter.unusedVariables false
open Go.RowKit

/-- the greatest common divisor of numbers that are not negative -/
def gcdI (a b : Int) : Int := (Nat.gcd a.toNat b.toNat : Nat)
theorem gcdI_step (a b : Nat) (h : 0 < b) : gcdI a b = gcdI b ((a % b : Nat) : Int) := by
  simp only [gcdI, Int.toNat_natCast]
  rw [Nat.gcd_comm a b, Nat.gcd_rec b a, Nat.gcd_comm]
theorem gcdI_zero (a : Nat) : gcdI a 0 = a := by simp [gcdI]
theorem gcdI_pos {a b : Int} (hb : 0 < b) : 1 ≤ gcdI a b := by
  unfold gcdI
  have := Nat.gcd_pos_of_pos_right a.toNat (show 0 < b.toNat by omega)
  omega

set_option maxHeartbeats 1000000 in
theorem l20Common_any (a b : Int) (w : World) (ha : 0 ≤ a ∧ a ≤ 1000000000) (hb : 0 ≤ b ∧ b ≤ 1000000000) :
    Calls Tryd.prog 97 #[.int .i64 a, .int .i64 b] w fun e w' => e = .returned (.int .i64 (gcdI a b)) ∧ w = w' := by
  obtain ⟨a0, a1⟩ := ha
  obtain ⟨b0, b1⟩ := hb
  go_enter Tryd.func97, Tryd.ntmps97
  go_wp2
  go_loop [0, 1] (fun x y => ∃ p q : Nat, x = .int .i64 p ∧ y = .int .i64 q ∧ p ≤ 1000000000 ∧ q ≤ 1000000000 ∧ gcdI a b = gcdI p q) (fun _ y => (intOf y).toNat)
  case atStart => exact ⟨a.toNat, b.toNat, by rw [Int.toNat_of_nonneg a0], by rw [Int.toNat_of_nonneg b0], by omega, by omega, by rw [Int.toNat_of_nonneg a0, Int.toNat_of_nonneg b0]⟩
  case round =>
    obtain ⟨p, q, rfl, rfl, hp, hq, hg⟩ := hrel
    have HG := Lib.hid hg; clear hg
    by_cases h : 0 < q
    · have hm : ((p : Int) % (q : Int)) = ((p % q : Nat) : Int) := (Int.natCast_emod _ _).symm
      have hml := Nat.mod_lt p h
      have HM := Lib.hid hm
      have hst := gcdI_step p q h
      obtain ⟨r, hr⟩ : ∃ r, p % q = r := ⟨_, rfl⟩
      rw [hr] at hm hml hst
      have HST := Lib.hid hst; clear hst hr HM
      go_wp2
      go_round
      case rel => exact ⟨q, r, rfl, by rw [hm], hq, by omega, by rw [HG.out, HST.out]⟩
      case measure => simp [intOf]; omega
    · obtain rfl : q = 0 := by omega
      go_wp2
      go_ret
      exact ⟨ri (by rw [HG.out]; exact (gcdI_zero p).symm), rfl⟩

set_option maxHeartbeats 1000000 in
theorem gcd_any (a b : Int) (w : World) (ha : 0 ≤ a ∧ a ≤ 1000000000) (hb : 0 ≤ b ∧ b ≤ 1000000000) :
    Calls Tryd.prog 94 #[.int .i64 a, .int .i64 b] w fun e w' => e = .returned (.int .i64 (gcdI a b)) ∧ Below w.heap.size w w' := by
  obtain ⟨a0, a1⟩ := ha
  obtain ⟨b0, b1⟩ := hb
  go_enter Tryd.func94, Tryd.ntmps94
  go_wp2
  go_loopw [0, 1] (fun x y wr => ∃ p q : Nat, x = .int .i64 p ∧ y = .int .i64 q ∧ p ≤ 1000000000 ∧ q ≤ 1000000000 ∧ gcdI a b = gcdI p q ∧ Below w.heap.size w wr) (fun _ y _ => (intOf y).toNat)
  case atStart => exact ⟨a.toNat, b.toNat, by rw [Int.toNat_of_nonneg a0], by rw [Int.toNat_of_nonneg b0], by omega, by omega, by rw [Int.toNat_of_nonneg a0, Int.toNat_of_nonneg b0], Below.refl _ _⟩
  case round =>
    obtain ⟨p, q, rfl, rfl, hp, hq, hg, hbr⟩ := hrel
    have HG := Lib.hid hg; clear hg
    by_cases h : 0 < q
    · have hm : ((p : Int) % (q : Int)) = ((p % q : Nat) : Int) := (Int.natCast_emod _ _).symm
      have hml := Nat.mod_lt p h
      have hst := gcdI_step p q h
      obtain ⟨r, hr⟩ : ∃ r, p % q = r := ⟨_, rfl⟩
      rw [hr] at hm hml hst
      have HST := Lib.hid hst; clear hst hr
      have hne : ((q : Int) != 0) = true := by simp; omega
      have hmt : (p : Int).tmod (q : Int) = (r : Int) := by rw [Int.tmod_eq_emod_of_nonneg (by omega)]; exact hm
      have HM := Lib.hid hm
      have q0 : (q : Int) ≠ 0 := by omega
      go_wp2
      go_quiet (fail)
      go_wp2
      go_roundw
      case rel => exact ⟨q, r, rfl, by first | rfl | rw [HM.out], hq, by omega, by rw [HG.out, HST.out], bdrewN hbr _⟩
      case measure => simp [intOf]; omega
    · obtain rfl : q = 0 := by omega
      go_wp2
      go_ret
      exact ⟨ri (by rw [HG.out, show (((0 : Nat) : Int)) = 0 from rfl, gcdI_zero p]; try omega), hbr⟩

/-- a fraction in lowest terms -/
def redA (a b : Int) : Int := a / gcdI a b
def redB (a b : Int) : Int := b / gcdI a b

set_option maxHeartbeats 1000000 in
theorem l24Reduce_any (a b : Int) (w : World) (ha : 0 ≤ a ∧ a ≤ 1000000000) (hb : 0 < b ∧ b ≤ 1000000000) :
    Calls Tryd.prog 54 #[.int .i64 a, .int .i64 b] w fun e w' => e = .returned (.tuple #[.int .i64 (redA a b), .int .i64 (redB a b)]) ∧ Below w.heap.size w w' := by
  obtain ⟨a0, a1⟩ := ha
  obtain ⟨b0, b1⟩ := hb
  have hg := gcdI_pos (a := a) b0
  obtain ⟨g, eg⟩ : ∃ g, gcdI a b = g := ⟨_, rfl⟩
  rw [eg] at hg
  have HA := Lib.hid (show redA a b = a / g by rw [redA, eg])
  have HB := Lib.hid (show redB a b = b / g by rw [redB, eg])
  have EG := Lib.hid eg; clear eg
  have d0 : 0 ≤ a / g := Int.ediv_nonneg a0 (by omega)
  have d1 : a / g ≤ a := Int.ediv_le_self _ a0
  have e0 : 0 ≤ b / g := Int.ediv_nonneg (by omega) (by omega)
  have e1 : b / g ≤ b := Int.ediv_le_self _ (by omega)
  have t0 : a.tdiv g = a / g := Int.tdiv_eq_ediv_of_nonneg a0
  have t1 : b.tdiv g = b / g := Int.tdiv_eq_ediv_of_nonneg (by omega)
  have g0 : g ≠ 0 := by omega
  go_enter Tryd.func54, Tryd.ntmps54
  go_wp2_with fail
  refine (l20Common_any _ _ _ ⟨a0, a1⟩ ⟨by omega, b1⟩).mono ?_
  rw [EG.out]
  rintro e w1 h1
  obtain ⟨rfl, hb1⟩ : e = .returned (.int .i64 g) ∧ Below w.heap.size w w1 := by first | exact h1 | exact ⟨h1.1, h1.2 ▸ Below.refl _ _⟩
  clear h1
  go_wp2
  go_quiet (fail)
  go_wp2
  go_ret2
  exact ⟨by rw [HA.out, HB.out]; rfl, bdrewN hb1 _⟩
set_option maxHeartbeats 1000000 in
theorem fraction_any (a b : Int) (w : World) (ha : 0 ≤ a ∧ a ≤ 1000000000) (hb : 0 < b ∧ b ≤ 1000000000) :
    Calls Tryd.prog 50 #[.int .i64 a, .int .i64 b] w fun e w' => e = .returned (.tuple #[.int .i64 (redA a b), .int .i64 (redB a b)]) ∧ Below w.heap.size w w' := by
  obtain ⟨a0, a1⟩ := ha
  obtain ⟨b0, b1⟩ := hb
  have hg := gcdI_pos (a := a) b0
  obtain ⟨g, eg⟩ : ∃ g, gcdI a b = g := ⟨_, rfl⟩
  rw [eg] at hg
  have HA := Lib.hid (show redA a b = a / g by rw [redA, eg])
  have HB := Lib.hid (show redB a b = b / g by rw [redB, eg])
  have EG := Lib.hid eg; clear eg
  have d0 : 0 ≤ a / g := Int.ediv_nonneg a0 (by omega)
  have d1 : a / g ≤ a := Int.ediv_le_self _ a0
  have e0 : 0 ≤ b / g := Int.ediv_nonneg (by omega) (by omega)
  have e1 : b / g ≤ b := Int.ediv_le_self _ (by omega)
  have t0 : a.tdiv g = a / g := Int.tdiv_eq_ediv_of_nonneg a0
  have t1 : b.tdiv g = b / g := Int.tdiv_eq_ediv_of_nonneg (by omega)
  have g0 : g ≠ 0 := by omega
  go_enter Tryd.func50, Tryd.ntmps50
  go_wp2_with fail
  refine (gcd_any _ _ _ ⟨a0, a1⟩ ⟨by omega, b1⟩).mono ?_
  rw [EG.out]
  rintro e w1 h1
  obtain ⟨rfl, hb1⟩ : e = .returned (.int .i64 g) ∧ Below w.heap.size w w1 := by first | exact h1 | exact ⟨h1.1, h1.2 ▸ Below.refl _ _⟩
  clear h1
  go_wp2
  go_quiet (fail)
  go_wp2
  go_ret2
  exact ⟨by rw [HA.out, HB.out]; rfl, bdrewN hb1 _⟩

end Go.Proofs.YtpoabdmapbdmfaaDoor

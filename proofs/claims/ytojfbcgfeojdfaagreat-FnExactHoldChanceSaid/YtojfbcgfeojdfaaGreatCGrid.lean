/- Lemmas. -/
import Derived.Test.YtojfbcgfeojdfaaGreatCRd
import Derived.Test.YtojfbcgfeojdfaaGreatCLaw
import Derived.Deep.QuietTactic
/-
  Fractions in lowest terms: both sides.
-/
namespace Go.Proofs.YtojfbcgfeojdfaaGreat
set_option linter.unusedSimpArgs false
set_option linter.unusedVariables false
open Go.RowKit

/-- the greatest common divisor of numbers that are not negative -/
def gcdI (a b : Int) : Int := (Nat.gcd a.toNat b.toNat : Nat)
theorem gcdI_step (a b : Nat) (h : 0 < b) : gcdI a b = gcdI b ((a % b : Nat) : Int) := by
  simp only [gcdI, Int.toNat_natCast]
  rw [Nat.gcd_comm a b, Nat.gcd_rec b a, Nat.gcd_comm]
theorem gcdI_zero (a : Nat) : gcdI a 0 = a := by simp [gcdI]
theorem gcdI_pos {a b : Int} (hb : 0 < b) : 1 ≤ gcdI a b := by
  unfold gcdI
  have := Nat.gcd_pos_of_pos_right a.toNat (show 0 < b.toNat by omega)
  omega

set_option maxHeartbeats 1000000 in
theorem gcd_any (a b : Int) (w : World) (ha : 0 ≤ a ∧ a ≤ 1000000000) (hb : 0 ≤ b ∧ b ≤ 1000000000) :
    Calls Tryz.prog 139 #[.int .i64 a, .int .i64 b] w fun e w' => e = .returned (.int .i64 (gcdI a b)) ∧ Below w.heap.size w w' := by
  obtain ⟨a0, a1⟩ := ha
  obtain ⟨b0, b1⟩ := hb
  go_enter Tryz.func139, Tryz.ntmps139
  go_wp2
  go_loopw [0, 1] (fun x y wr => ∃ p q : Nat, x = .int .i64 p ∧ y = .int .i64 q ∧ p ≤ 1000000000 ∧ q ≤ 1000000000 ∧ gcdI a b = gcdI p q ∧ Below w.heap.size w wr) (fun _ y _ => (intOf y).toNat)
  case atStart => exact ⟨a.toNat, b.toNat, by rw [Int.toNat_of_nonneg a0], by rw [Int.toNat_of_nonneg b0], by omega, by omega, by rw [Int.toNat_of_nonneg a0, Int.toNat_of_nonneg b0], Below.refl _ _⟩
  case round =>
    obtain ⟨p, q, rfl, rfl, hp, hq, hg, hbr⟩ := hrel
    have HG := Lib.hid hg; clear hg
    by_cases h : 0 < q
    · have hm : ((p : Int) % (q : Int)) = ((p % q : Nat) : Int) := (Int.natCast_emod _ _).symm
      have hml := Nat.mod_lt p h
      have hst := gcdI_step p q h
      obtain ⟨r, hr⟩ : ∃ r, p % q = r := ⟨_, rfl⟩
      rw [hr] at hm hml hst
      have HST := Lib.hid hst; clear hst hr
      have hne : ((q : Int) != 0) = true := by simp; omega
      have hmt : (p : Int).tmod (q : Int) = (r : Int) := by rw [Int.tmod_eq_emod_of_nonneg (by omega)]; exact hm
      have HM := Lib.hid hm
      have q0 : (q : Int) ≠ 0 := by omega
      go_wp2
      go_quiet (fail)
      go_wp2
      go_roundw
      case rel => exact ⟨q, r, rfl, by first | rfl | rw [HM.out], hq, by omega, by rw [HG.out, HST.out], bdrewN hbr _⟩
      case measure => simp [intOf]; omega
    · obtain rfl : q = 0 := by omega
      go_wp2
      go_ret
      exact ⟨ri (by rw [HG.out, show (((0 : Nat) : Int)) = 0 from rfl, gcdI_zero p]; try omega), hbr⟩

/-- a fraction in lowest terms -/
def redA (a b : Int) : Int := a / gcdI a b
def redB (a b : Int) : Int := b / gcdI a b

set_option maxHeartbeats 1000000 in
theorem fraction_any (a b : Int) (w : World) (ha : 0 ≤ a ∧ a ≤ 1000000000) (hb : 0 < b ∧ b ≤ 1000000000) :
    Calls Tryz.prog 104 #[.int .i64 a, .int .i64 b] w fun e w' => e = .returned (.tuple #[.int .i64 (redA a b), .int .i64 (redB a b)]) ∧ Below w.heap.size w w' := by
  obtain ⟨a0, a1⟩ := ha
  obtain ⟨b0, b1⟩ := hb
  have hg := gcdI_pos (a := a) b0
  obtain ⟨g, eg⟩ : ∃ g, gcdI a b = g := ⟨_, rfl⟩
  rw [eg] at hg
  have HA := Lib.hid (show redA a b = a / g by rw [redA, eg])
  have HB := Lib.hid (show redB a b = b / g by rw [redB, eg])
  have EG := Lib.hid eg; clear eg
  have d0 : 0 ≤ a / g := Int.ediv_nonneg a0 (by omega)
  have d1 : a / g ≤ a := Int.ediv_le_self _ a0
  have e0 : 0 ≤ b / g := Int.ediv_nonneg (by omega) (by omega)
  have e1 : b / g ≤ b := Int.ediv_le_self _ (by omega)
  have t0 : a.tdiv g = a / g := Int.tdiv_eq_ediv_of_nonneg a0
  have t1 : b.tdiv g = b / g := Int.tdiv_eq_ediv_of_nonneg (by omega)
  have g0 : g ≠ 0 := by omega
  go_enter Tryz.func104, Tryz.ntmps104
  go_wp2_with fail
  refine (gcd_any _ _ _ ⟨a0, a1⟩ ⟨by omega, b1⟩).mono ?_
  rw [EG.out]
  rintro e w1 h1
  obtain ⟨rfl, hb1⟩ : e = .returned (.int .i64 g) ∧ Below w.heap.size w w1 := by first | exact h1 | exact ⟨h1.1, h1.2 ▸ Below.refl _ _⟩
  clear h1
  go_wp2
  go_quiet (fail)
  go_wp2
  go_ret2
  exact ⟨by rw [HA.out, HB.out]; rfl, bdrewN hb1 _⟩

set_option maxHeartbeats 1000000 in
theorem l8Reduce_any (a b : Int) (w : World) (ha : 0 ≤ a ∧ a ≤ 1000000000) (hb : 0 < b ∧ b ≤ 1000000000) :
    Calls Tryz.prog 58 #[.int .i64 a, .int .i64 b] w fun e w' => e = .returned (.tuple #[.int .i64 (redA a b), .int .i64 (redB a b)]) ∧ Below w.heap.size w w' := by
  obtain ⟨a0, a1⟩ := ha
  obtain ⟨b0, b1⟩ := hb
  have hg := gcdI_pos (a := a) b0
  obtain ⟨g, eg⟩ : ∃ g, gcdI a b = g := ⟨_, rfl⟩
  rw [eg] at hg
  have HA := Lib.hid (show redA a b = a / g by rw [redA, eg])
  have HB := Lib.hid (show redB a b = b / g by rw [redB, eg])
  have EG := Lib.hid eg; clear eg
  have d0 : 0 ≤ a / g := Int.ediv_nonneg a0 (by omega)
  have d1 : a / g ≤ a := Int.ediv_le_self _ a0
  have e0 : 0 ≤ b / g := Int.ediv_nonneg (by omega) (by omega)
  have e1 : b / g ≤ b := Int.ediv_le_self _ (by omega)
  have t0 : a.tdiv g = a / g := Int.tdiv_eq_ediv_of_nonneg a0
  have t1 : b.tdiv g = b / g := Int.tdiv_eq_ediv_of_nonneg (by omega)
  have g0 : g ≠ 0 := by omega
  go_enter Tryz.func58, Tryz.ntmps58
  go_wp2
  go_loopw [6, 7] (fun x y wr => ∃ p q : Nat, x = .int .i64 p ∧ y = .int .i64 q ∧ p ≤ 1000000000 ∧ q ≤ 1000000000 ∧ gcdI a b = gcdI p q ∧ Below w.heap.size w wr) (fun _ y _ => (intOf y).toNat)
  case atStart => exact ⟨a.toNat, b.toNat, by rw [Int.toNat_of_nonneg a0], by rw [Int.toNat_of_nonneg (by omega)], by omega, by omega, by rw [Int.toNat_of_nonneg a0, Int.toNat_of_nonneg (by omega)], Below.refl _ _⟩
  case round =>
    obtain ⟨p, q, rfl, rfl, hp, hq, hgg, hbr⟩ := hrel
    have HG := Lib.hid hgg; clear hgg
    by_cases h : 0 < q
    · have hm : ((p : Int) % (q : Int)) = ((p % q : Nat) : Int) := (Int.natCast_emod _ _).symm
      have hml := Nat.mod_lt p h
      have hst := gcdI_step p q h
      obtain ⟨r, hr⟩ : ∃ r, p % q = r := ⟨_, rfl⟩
      rw [hr] at hm hml hst
      have HST := Lib.hid hst; clear hst hr
      have hne : ((q : Int) != 0) = true := by simp; omega
      have hmt : (p : Int).tmod (q : Int) = (r : Int) := by rw [Int.tmod_eq_emod_of_nonneg (by omega)]; exact hm
      have HM := Lib.hid hm
      have q0 : (q : Int) ≠ 0 := by omega
      go_wp2
      go_roundw
      case rel => exact ⟨q, r, rfl, by first | rfl | rw [HM.out], hq, by omega, by rw [HG.out, HST.out], by first | exact hbr | exact bdrewN hbr _⟩
      case measure => simp [intOf]; omega
    · obtain rfl : q = 0 := by omega
      have hpg : (p : Int) = g := by rw [← EG.out, HG.out]; exact (gcdI_zero p).symm
      obtain rfl := hpg
      go_wp2
      go_quiet (fail)
      go_wp2
      go_ret2
      exact ⟨by rw [HA.out, HB.out]; rfl, by first | exact hbr | exact bdrewN hbr _⟩
end Go.Proofs.YtojfbcgfeojdfaaGreat

namespace Go.Proofs.YtojfbcgfeojdfaaGreat
set_option linter.unusedSimpArgs false
set_option linter.unusedVariables false
open Go.RowKit

set_option maxRecDepth 100000 in
set_option maxHeartbeats 400000 in
theorem szTerrain_any (W H : Int) (a : Option Addr) (n c : Nat) (l : Int) (w : World) (hc : n ≤ 17592186044416) (hl : -1 ≤ l ∧ l ≤ 1048576) :
    Calls Tryz.prog 19 #[.agg #[.int .i64 W, .int .i64 H, .slice a n c], .int .i64 l] w fun e w' => e = .returned (.int .i64 (szF n l)) ∧ Below w.heap.size w w' := by
  obtain ⟨z, hz⟩ : ∃ z, szF n l = z := ⟨_, rfl⟩
  have HZ := Lib.hid hz; clear hz
  have hzb : -1 ≤ z := by rw [← HZ.out]; unfold szF; split <;> omega
  have HB := Lib.hid hzb; clear hzb
  by_cases h0 : z < 0
  · obtain rfl : z = -1 := by have := HB.out; omega
    go_enter Tryz.func19, Tryz.ntmps19
    go_wp2_with (go_at_call 60; refine (szIntS_any _ _ _ _ _ hc hl).mono ?_; rw [HZ.out]; rintro e w' ⟨rfl, rfl⟩)
    go_ret
    exact ⟨ri HZ.out.symm, (Below.refl _ _).alloc (Nat.le_refl _) _⟩
  · skip
    go_enter Tryz.func19, Tryz.ntmps19
    go_wp2_with (go_at_call 60; refine (szIntS_any _ _ _ _ _ hc hl).mono ?_; rw [HZ.out]; rintro e w' ⟨rfl, rfl⟩)
    go_ret
    exact ⟨ri HZ.out.symm, (Below.refl _ _).alloc (Nat.le_refl _) _⟩

set_option maxRecDepth 100000 in
set_option maxHeartbeats 400000 in
theorem toTerrain_any (W H : Int) (a : Option Addr) (n c : Nat) (xs : List Int) (w : World) (h : Ints w a n c xs) :
    Calls Tryz.prog 22 #[.agg #[.int .i64 W, .int .i64 H, .slice a n c]] w fun e w' => ∃ a' c', e = .returned (.agg #[.int .i64 W, .int .i64 H, .slice a' n c']) ∧ Own w.heap.size w' a' n c' xs ∧ Below w.heap.size w w' := by
  go_enter Tryz.func22, Tryz.ntmps22
  go_wp2_with fail
  refine (toIntS_any a n c xs _ ?_).mono ?_
  · exact ((h.alloc _).alloc _).alloc _
  rintro e w1 ⟨a', c', rfl, hO, hb⟩
  obtain ⟨c1, f1, l1⟩ := (((Row.new _ (w.heap.size + 1) (by simp) _ _).alloc _).below hb)
  obtain ⟨c2, f2, l2⟩ := ((Row.new _ (w.heap.size + 2) (by simp) _ _).below hb)
  go_wp2
  refine bodyPost_ret (v := .agg #[.int .i64 W, .int .i64 H, .slice a' n c']) (by simp [results, Tryz.results22, go_sem, c1]) rfl ⟨a', c', rfl, ?_, ?_⟩
  · ((repeat with_reducible refine Own.setCell_far ?_ (hO.apart (by first | omega | (simp; done) | (simp; omega))) _); exact hO.mono (by first | omega | (simp; done) | (simp; omega)))
  · (repeat' (first | exact Below.refl _ _ | with_reducible refine Below.setCell ?_ (by first | omega | (simp; done) | (simp; omega)) _ | with_reducible refine Below.alloc ?_ (by first | omega | (simp; done) | (simp; omega)) _ | with_reducible refine Below.drew ?_ | with_reducible refine bdrewN ?_ _ | with_reducible refine Below.trans ?_ (Below.mono hb (by first | omega | (simp; done) | (simp; omega)))))

set_option maxRecDepth 100000 in
set_option maxHeartbeats 400000 in
theorem eqTerrain_any (W H : Int) (a : Option Addr) (n c : Nat) (xs : List Int) (W2 H2 : Int) (a2 : Option Addr) (n2 c2 : Nat) (ys : List Int) (w : World) (h : Ints w a n c xs) (h2 : Ints w a2 n2 c2 ys) :
    Calls Tryz.prog 26 #[.agg #[.int .i64 W, .int .i64 H, .slice a n c], .agg #[.int .i64 W2, .int .i64 H2, .slice a2 n2 c2]] w fun e w' => e = .returned (.bool (eqG W H xs W2 H2 ys)) ∧ Below w.heap.size w w' := by
  by_cases hW : W = W2
  · subst hW
    by_cases hH : H = H2
    · subst hH
      have HF := Lib.hid (show eqG W H xs W H ys = (xs == ys) by simp [eqG])
      go_enter Tryz.func26, Tryz.ntmps26
      go_wp2_with fail
      refine (eqIntS_any a n c xs a2 n2 c2 ys _ ((h.alloc _).alloc _) ((h2.alloc _).alloc _)).mono ?_
      rintro e w1 ⟨rfl, hb⟩
      cases hxy : (xs == ys)
      all_goals
        go_wp2
        go_ret
        exact ⟨rb (by rw [HF.out, hxy]), by (repeat' (first | exact Below.refl _ _ | with_reducible refine Below.setCell ?_ (by first | omega | (simp; done) | (simp; omega)) _ | with_reducible refine Below.alloc ?_ (by first | omega | (simp; done) | (simp; omega)) _ | with_reducible refine Below.drew ?_ | with_reducible refine bdrewN ?_ _ | with_reducible refine Below.trans ?_ (Below.mono hb (by first | omega | (simp; done) | (simp; omega)))))⟩
    · have HF := Lib.hid (show eqG W H xs W H2 ys = false by simp [eqG, hH])
      go_enter Tryz.func26, Tryz.ntmps26
      go_wp2_with fail
      go_ret
      exact ⟨rb HF.out.symm, by (repeat' (first | exact Below.refl _ _ | with_reducible refine Below.setCell ?_ (by first | omega | (simp; done) | (simp; omega)) _ | with_reducible refine Below.alloc ?_ (by first | omega | (simp; done) | (simp; omega)) _ | with_reducible refine Below.drew ?_ | with_reducible refine bdrewN ?_ _))⟩
  · have HF := Lib.hid (show eqG W H xs W2 H2 ys = false by simp [eqG, hW])
    go_enter Tryz.func26, Tryz.ntmps26
    go_wp2_with fail
    go_ret
    exact ⟨rb HF.out.symm, by (repeat' (first | exact Below.refl _ _ | with_reducible refine Below.setCell ?_ (by first | omega | (simp; done) | (simp; omega)) _ | with_reducible refine Below.alloc ?_ (by first | omega | (simp; done) | (simp; omega)) _ | with_reducible refine Below.drew ?_ | with_reducible refine bdrewN ?_ _))⟩

end Go.Proofs.YtojfbcgfeojdfaaGreat

import Derived.Test.YtcneblfjhjbnhaaSeason
import Derived.Deep.QuietTactic
namespace Go.Proofs.Ytcneblfjhjbnhaa
set_option linter.unusedSimpArgs false
set_option linter.unusedVariables false
open Go.RowKit

set_option maxRecDepth 100000 in
set_option maxHeartbeats 1000000 in
theorem hectares_any (a : Option Addr) (n c : Nat) (xs : List FireI) (w : World) (h : Rd FFire w a n c xs) (h15 : n ≤ 15) (hv : ∀ x ∈ xs, fireB x = true) :
    Calls Try.prog 171 #[.slice a n c] w fun e w' => e = .returned (.int .i64 (sumH xs)) ∧ Below w.heap.size w w' := by
  have hn := h.cap
  have hc := h.nroom
  have HL := Lib.hid h.len
  have HV := Lib.hid hv; clear hv
  go_enter Try.func171, Try.ntmps171
  go_wp2
  go_loopw [3, 8] (fun t i wr => ∃ k : Nat, k ≤ n ∧ i = .int .i64 k ∧ t = .int .i64 (sumH (xs.take k)) ∧ Below w.heap.size w wr) (fun _ i _ => n - (intOf i).toNat)
  case atStart => exact ⟨0, Nat.zero_le _, rfl, rfl, Below.refl _ _⟩
  case round =>
    obtain ⟨k, hk, rfl, rfl, hbr⟩ := hrel
    have hb2 := sumH_bound (xs := xs.take k) (fun x hx => HV.out x (List.mem_of_mem_take hx))
    have hlk : (xs.take k).length ≤ 15 := by rw [List.length_take]; omega
    obtain ⟨t, ht⟩ : ∃ t, sumH (xs.take k) = t := ⟨_, rfl⟩
    rw [ht] at hb2
    rw [ht]
    have HT := Lib.hid ht; clear ht
    obtain ⟨t0, t1⟩ := hb2
    by_cases hlt : k < n
    · obtain ⟨b, off, rfl, _⟩ := (h.ext hbr).at' _ hlt
      obtain ⟨hb, hc0, hc1, hc2, hc3⟩ := (h.ext hbr).cellFire hlt
      have hkl : k < xs.length := by rw [HL.out]; exact hlt
      have hmem : xs.getD k FireI.zero ∈ xs := by rw [List.getD_eq_getElem?_getD, List.getElem?_eq_getElem hkl]; exact List.getElem_mem _
      have hs := sumH_succ hkl
      obtain ⟨v, hvx⟩ : ∃ v, xs.getD k FireI.zero = v := ⟨_, rfl⟩
      rw [hvx] at hc0 hc1 hc2 hc3 hmem hs
      obtain ⟨v0, v1⟩ := (fireB_true (HV.out v hmem)).2.2.1
      have HS := Lib.hid hs
      clear hvx hs hkl
      go_wp2
      go_roundw
      case rel => exact ⟨k + 1, by omega, by go_num, by rw [HS.out, HT.out], hbr.alloc hbr.size _⟩
      case measure => simp [intOf]; omega
    · obtain rfl : k = n := by omega
      go_wp2
      go_ret
      exact ⟨ri (by rw [← HT.out, List.take_of_length_le (by rw [HL.out]; exact Nat.le_refl _)]), hbr⟩

set_option maxRecDepth 100000 in
set_option maxHeartbeats 1000000 in
theorem l26Sum_any (a : Option Addr) (n c : Nat) (xs : List FireI) (w : World) (h : Rd FFire w a n c xs) (h15 : n ≤ 15) (hv : ∀ x ∈ xs, fireB x = true) :
    Calls Try.prog 174 #[.slice a n c] w fun e w' => e = .returned (.int .i64 (sumH xs)) ∧ w = w' := by
  have hn := h.cap
  have hc := h.nroom
  have HL := Lib.hid h.len
  have HV := Lib.hid hv; clear hv
  go_enter Try.func174, Try.ntmps174
  go_wp2
  go_loop [3, 4] (fun t i => ∃ k : Nat, k ≤ n ∧ i = .int .i64 k ∧ t = .int .i64 (sumH (xs.take k))) (fun _ i => n - (intOf i).toNat)
  case atStart => exact ⟨0, Nat.zero_le _, rfl, rfl⟩
  case round =>
    obtain ⟨k, hk, rfl, rfl⟩ := hrel
    have hb2 := sumH_bound (xs := xs.take k) (fun x hx => HV.out x (List.mem_of_mem_take hx))
    have hlk : (xs.take k).length ≤ 15 := by rw [List.length_take]; omega
    obtain ⟨t, ht⟩ : ∃ t, sumH (xs.take k) = t := ⟨_, rfl⟩
    rw [ht] at hb2
    rw [ht]
    have HT := Lib.hid ht; clear ht
    obtain ⟨t0, t1⟩ := hb2
    by_cases hlt : k < n
    · obtain ⟨b, off, rfl, _⟩ := h.at' _ hlt
      obtain ⟨hb, hc0, hc1, hc2, hc3⟩ := h.cellFire hlt
      have hkl : k < xs.length := by rw [HL.out]; exact hlt
      have hmem : xs.getD k FireI.zero ∈ xs := by rw [List.getD_eq_getElem?_getD, List.getElem?_eq_getElem hkl]; exact List.getElem_mem _
      have hs := sumH_succ hkl
      obtain ⟨v, hvx⟩ : ∃ v, xs.getD k FireI.zero = v := ⟨_, rfl⟩
      rw [hvx] at hc0 hc1 hc2 hc3 hmem hs
      obtain ⟨v0, v1⟩ := (fireB_true (HV.out v hmem)).2.2.1
      have HS := Lib.hid hs
      clear hvx hs hkl
      go_wp2
      go_round
      case rel => exact ⟨k + 1, by omega, by go_num, by rw [HS.out, HT.out]⟩
      case measure => simp [intOf]; omega
    · obtain rfl : k = n := by omega
      go_wp2
      go_ret
      exact ⟨ri (by rw [← HT.out, List.take_of_length_le (by rw [HL.out]; exact Nat.le_refl _)]), rfl⟩

/-- the greatest common divisor of numbers that are not negative -/
def gcdI (a b : Int) : Int := (Nat.gcd a.toNat b.toNat : Nat)
theorem gcdI_step (a b : Nat) (h : 0 < b) : gcdI a b = gcdI b ((a % b : Nat) : Int) := by
  simp only [gcdI, Int.toNat_natCast]
  rw [Nat.gcd_comm a b, Nat.gcd_rec b a, Nat.gcd_comm]
theorem gcdI_zero (a : Nat) : gcdI a 0 = a := by simp [gcdI]
theorem gcdI_pos {a b : Int} (hb : 0 < b) : 1 ≤ gcdI a b := by
  unfold gcdI
  have := Nat.gcd_pos_of_pos_right a.toNat (show 0 < b.toNat by omega)
  omega

set_option maxHeartbeats 1000000 in
theorem l20Common_any (a b : Int) (w : World) (ha : 0 ≤ a ∧ a ≤ 1000000000) (hb : 0 ≤ b ∧ b ≤ 1000000000) :
    Calls Try.prog 284 #[.int .i64 a, .int .i64 b] w fun e w' => e = .returned (.int .i64 (gcdI a b)) ∧ w = w' := by
  obtain ⟨a0, a1⟩ := ha
  obtain ⟨b0, b1⟩ := hb
  go_enter Try.func284, Try.ntmps284
  go_wp2
  go_loop [0, 1] (fun x y => ∃ p q : Nat, x = .int .i64 p ∧ y = .int .i64 q ∧ p ≤ 1000000000 ∧ q ≤ 1000000000 ∧ gcdI a b = gcdI p q) (fun _ y => (intOf y).toNat)
  case atStart => exact ⟨a.toNat, b.toNat, by rw [Int.toNat_of_nonneg a0], by rw [Int.toNat_of_nonneg b0], by omega, by omega, by rw [Int.toNat_of_nonneg a0, Int.toNat_of_nonneg b0]⟩
  case round =>
    obtain ⟨p, q, rfl, rfl, hp, hq, hg⟩ := hrel
    have HG := Lib.hid hg; clear hg
    by_cases h : 0 < q
    · have hm : ((p : Int) % (q : Int)) = ((p % q : Nat) : Int) := (Int.natCast_emod _ _).symm
      have hml := Nat.mod_lt p h
      have HM := Lib.hid hm
      have hst := gcdI_step p q h
      obtain ⟨r, hr⟩ : ∃ r, p % q = r := ⟨_, rfl⟩
      rw [hr] at hm hml hst
      have HST := Lib.hid hst; clear hst hr HM
      go_wp2
      go_round
      case rel => exact ⟨q, r, rfl, by rw [hm], hq, by omega, by rw [HG.out, HST.out]⟩
      case measure => simp [intOf]; omega
    · obtain rfl : q = 0 := by omega
      go_wp2
      go_ret
      exact ⟨ri (by rw [HG.out]; exact (gcdI_zero p).symm), rfl⟩

set_option maxHeartbeats 1000000 in
theorem gcd_any (a b : Int) (w : World) (ha : 0 ≤ a ∧ a ≤ 1000000000) (hb : 0 ≤ b ∧ b ≤ 1000000000) :
    Calls Try.prog 287 #[.int .i64 a, .int .i64 b] w fun e w' => e = .returned (.int .i64 (gcdI a b)) ∧ Below w.heap.size w w' := by
  obtain ⟨a0, a1⟩ := ha
  obtain ⟨b0, b1⟩ := hb
  go_enter Try.func287, Try.ntmps287
  go_wp2
  go_loopw [0, 1] (fun x y wr => ∃ p q : Nat, x = .int .i64 p ∧ y = .int .i64 q ∧ p ≤ 1000000000 ∧ q ≤ 1000000000 ∧ gcdI a b = gcdI p q ∧ Below w.heap.size w wr) (fun _ y _ => (intOf y).toNat)
  case atStart => exact ⟨a.toNat, b.toNat, by rw [Int.toNat_of_nonneg a0], by rw [Int.toNat_of_nonneg b0], by omega, by omega, by rw [Int.toNat_of_nonneg a0, Int.toNat_of_nonneg b0], Below.refl _ _⟩
  case round =>
    obtain ⟨p, q, rfl, rfl, hp, hq, hg, hbr⟩ := hrel
    have HG := Lib.hid hg; clear hg
    by_cases h : 0 < q
    · have hm : ((p : Int) % (q : Int)) = ((p % q : Nat) : Int) := (Int.natCast_emod _ _).symm
      have hml := Nat.mod_lt p h
      have hst := gcdI_step p q h
      obtain ⟨r, hr⟩ : ∃ r, p % q = r := ⟨_, rfl⟩
      rw [hr] at hm hml hst
      have HST := Lib.hid hst; clear hst hr
      have hne : ((q : Int) != 0) = true := by simp; omega
      have hmt : (p : Int).tmod (q : Int) = (r : Int) := by rw [Int.tmod_eq_emod_of_nonneg (by omega)]; exact hm
      have HM := Lib.hid hm
      have q0 : (q : Int) ≠ 0 := by omega
      go_wp2
      go_quiet (fail)
      go_wp2
      go_roundw
      case rel => exact ⟨q, r, rfl, by first | rfl | rw [HM.out], hq, by omega, by rw [HG.out, HST.out], bdrewN hbr _⟩
      case measure => simp [intOf]; omega
    · obtain rfl : q = 0 := by omega
      go_wp2
      go_ret
      exact ⟨ri (by rw [HG.out, show (((0 : Nat) : Int)) = 0 from rfl, gcdI_zero p]; try omega), hbr⟩

/-- a fraction in lowest terms -/
def redA (a b : Int) : Int := a / gcdI a b
def redB (a b : Int) : Int := b / gcdI a b

set_option maxHeartbeats 1000000 in
theorem l24Reduce_any (a b : Int) (w : World) (ha : 0 ≤ a ∧ a ≤ 1000000000) (hb : 0 < b ∧ b ≤ 1000000000) :
    Calls Try.prog 181 #[.int .i64 a, .int .i64 b] w fun e w' => e = .returned (.tuple #[.int .i64 (redA a b), .int .i64 (redB a b)]) ∧ Below w.heap.size w w' := by
  obtain ⟨a0, a1⟩ := ha
  obtain ⟨b0, b1⟩ := hb
  have hg := gcdI_pos (a := a) b0
  obtain ⟨g, eg⟩ : ∃ g, gcdI a b = g := ⟨_, rfl⟩
  rw [eg] at hg
  have HA := Lib.hid (show redA a b = a / g by rw [redA, eg])
  have HB := Lib.hid (show redB a b = b / g by rw [redB, eg])
  have EG := Lib.hid eg; clear eg
  have d0 : 0 ≤ a / g := Int.ediv_nonneg a0 (by omega)
  have d1 : a / g ≤ a := Int.ediv_le_self _ a0
  have e0 : 0 ≤ b / g := Int.ediv_nonneg (by omega) (by omega)
  have e1 : b / g ≤ b := Int.ediv_le_self _ (by omega)
  have t0 : a.tdiv g = a / g := Int.tdiv_eq_ediv_of_nonneg a0
  have t1 : b.tdiv g = b / g := Int.tdiv_eq_ediv_of_nonneg (by omega)
  have g0 : g ≠ 0 := by omega
  go_enter Try.func181, Try.ntmps181
  go_wp2_with fail
  refine (l20Common_any _ _ _ ⟨a0, a1⟩ ⟨by omega, b1⟩).mono ?_
  rw [EG.out]
  rintro e w1 h1
  obtain ⟨rfl, hb1⟩ : e = .returned (.int .i64 g) ∧ Below w.heap.size w w1 := by first | exact h1 | exact ⟨h1.1, h1.2 ▸ Below.refl _ _⟩
  clear h1
  go_wp2
  go_quiet (fail)
  go_wp2
  go_ret2
  exact ⟨by rw [HA.out, HB.out]; rfl, bdrewN hb1 _⟩
set_option maxHeartbeats 1000000 in
theorem fraction_any (a b : Int) (w : World) (ha : 0 ≤ a ∧ a ≤ 1000000000) (hb : 0 < b ∧ b ≤ 1000000000) :
    Calls Try.prog 184 #[.int .i64 a, .int .i64 b] w fun e w' => e = .returned (.tuple #[.int .i64 (redA a b), .int .i64 (redB a b)]) ∧ Below w.heap.size w w' := by
  obtain ⟨a0, a1⟩ := ha
  obtain ⟨b0, b1⟩ := hb
  have hg := gcdI_pos (a := a) b0
  obtain ⟨g, eg⟩ : ∃ g, gcdI a b = g := ⟨_, rfl⟩
  rw [eg] at hg
  have HA := Lib.hid (show redA a b = a / g by rw [redA, eg])
  have HB := Lib.hid (show redB a b = b / g by rw [redB, eg])
  have EG := Lib.hid eg; clear eg
  have d0 : 0 ≤ a / g := Int.ediv_nonneg a0 (by omega)
  have d1 : a / g ≤ a := Int.ediv_le_self _ a0
  have e0 : 0 ≤ b / g := Int.ediv_nonneg (by omega) (by omega)
  have e1 : b / g ≤ b := Int.ediv_le_self _ (by omega)
  have t0 : a.tdiv g = a / g := Int.tdiv_eq_ediv_of_nonneg a0
  have t1 : b.tdiv g = b / g := Int.tdiv_eq_ediv_of_nonneg (by omega)
  have g0 : g ≠ 0 := by omega
  go_enter Try.func184, Try.ntmps184
  go_wp2_with fail
  refine (gcd_any _ _ _ ⟨a0, a1⟩ ⟨by omega, b1⟩).mono ?_
  rw [EG.out]
  rintro e w1 h1
  obtain ⟨rfl, hb1⟩ : e = .returned (.int .i64 g) ∧ Below w.heap.size w w1 := by first | exact h1 | exact ⟨h1.1, h1.2 ▸ Below.refl _ _⟩
  clear h1
  go_wp2
  go_quiet (fail)
  go_wp2
  go_ret2
  exact ⟨by rw [HA.out, HB.out]; rfl, bdrewN hb1 _⟩

structure Share3 where
  a : Int
  b : Int
  ok : Bool
def ofCause (p : Int) (x : FireI) : Bool := x.cause == p
def shareR (xs : List FireI) (p : Int) : Share3 := if seasonB xs && inB p 0 4 && !(sumH xs == 0) then ⟨redA (sumH (xs.filter (ofCause p))) (sumH xs), redB (sumH (xs.filter (ofCause p))) (sumH xs), true⟩ else ⟨0, 0, false⟩

theorem sumH_filter {xs : List FireI} (p : FireI → Bool) (h : seasonB xs = true) : 0 ≤ sumH (xs.filter p) ∧ sumH (xs.filter p) ≤ 1500000 := by
  obtain ⟨h1, h2⟩ := seasonB_true h
  have h3 := sumH_bound (xs := xs.filter p) (fun x hx => h2 x ((List.mem_filter.1 hx).1))
  have h4 := List.length_filter_le p xs
  omega

end Go.Proofs.Ytcneblfjhjbnhaa

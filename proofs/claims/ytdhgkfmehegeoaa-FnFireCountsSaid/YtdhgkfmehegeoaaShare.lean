import Derived.Test.YtdhgkfmehegeoaaSeason
import Derived.Deep.QuietTactic
namespace Go.Proofs.Ytdhgkfmehegeoaa
set_option linter.unusedSimpArgs false
set_option linter.unusedVariables false
open Go.RowKit

set_option maxRecDepth 100000 in
set_option maxHeartbeats 1000000 in
theorem hectares_any (a : Option Addr) (n c : Nat) (xs : List FireI) (w : World) (h : Rd FFire w a n c xs) (h15 : n ≤ 15) (hv : ∀ x ∈ xs, fireB x = true) :
    Calls Try.prog 95 #[.slice a n c] w fun e w' => e = .returned (.int .i64 (sumH xs)) ∧ Below w.heap.size w w' := by
  have hn := h.cap
  have hc := h.nroom
  have HL := Lib.hid h.len
  have HV := Lib.hid hv; clear hv
  go_enter Try.func95, Try.ntmps95
  go_wp2
  go_loopw [3, 8] (fun t i wr => ∃ k : Nat, k ≤ n ∧ i = .int .i64 k ∧ t = .int .i64 (sumH (xs.take k)) ∧ Below w.heap.size w wr) (fun _ i _ => n - (intOf i).toNat)
  case atStart => exact ⟨0, Nat.zero_le _, rfl, rfl, Below.refl _ _⟩
  case round =>
    obtain ⟨k, hk, rfl, rfl, hbr⟩ := hrel
    have hb2 := sumH_bound (xs := xs.take k) (fun x hx => HV.out x (List.mem_of_mem_take hx))
    have hlk : (xs.take k).length ≤ 15 := by rw [List.length_take]; omega
    obtain ⟨t, ht⟩ : ∃ t, sumH (xs.take k) = t := ⟨_, rfl⟩
    rw [ht] at hb2
    rw [ht]
    have HT := Lib.hid ht; clear ht
    obtain ⟨t0, t1⟩ := hb2
    by_cases hlt : k < n
    · obtain ⟨b, off, rfl, _⟩ := (h.ext hbr).at' _ hlt
      obtain ⟨hb, hc0, hc1, hc2, hc3⟩ := (h.ext hbr).cellFire hlt
      have hkl : k < xs.length := by rw [HL.out]; exact hlt
      have hmem : xs.getD k FireI.zero ∈ xs := by rw [List.getD_eq_getElem?_getD, List.getElem?_eq_getElem hkl]; exact List.getElem_mem _
      have hs := sumH_succ hkl
      obtain ⟨v, hvx⟩ : ∃ v, xs.getD k FireI.zero = v := ⟨_, rfl⟩
      rw [hvx] at hc0 hc1 hc2 hc3 hmem hs
      obtain ⟨v0, v1⟩ := (fireB_true (HV.out v hmem)).2.2.1
      have HS := Lib.hid hs
      clear hvx hs hkl
      go_wp2
      go_roundw
      case rel => exact ⟨k + 1, by omega, by go_num, by rw [HS.out, HT.out], hbr.alloc hbr.size _⟩
      case measure => simp [intOf]; omega
    · obtain rfl : k = n := by omega
      go_wp2
      go_ret
      exact ⟨ri (by rw [← HT.out, List.take_of_length_le (by rw [HL.out]; exact Nat.le_refl _)]), hbr⟩

set_option maxRecDepth 100000 in
set_option maxHeartbeats 1000000 in
theorem l26Sum_any (a : Option Addr) (n c : Nat) (xs : List FireI) (w : World) (h : Rd FFire w a n c xs) (h15 : n ≤ 15) (hv : ∀ x ∈ xs, fireB x = true) :
    Calls Try.prog 96 #[.slice a n c] w fun e w' => e = .returned (.int .i64 (sumH xs)) ∧ w = w' := by
  have hn := h.cap
  have hc := h.nroom
  have HL := Lib.hid h.len
  have HV := Lib.hid hv; clear hv
  go_enter Try.func96, Try.ntmps96
  go_wp2
  go_loop [3, 4] (fun t i => ∃ k : Nat, k ≤ n ∧ i = .int .i64 k ∧ t = .int .i64 (sumH (xs.take k))) (fun _ i => n - (intOf i).toNat)
  case atStart => exact ⟨0, Nat.zero_le _, rfl, rfl⟩
  case round =>
    obtain ⟨k, hk, rfl, rfl⟩ := hrel
    have hb2 := sumH_bound (xs := xs.take k) (fun x hx => HV.out x (List.mem_of_mem_take hx))
    have hlk : (xs.take k).length ≤ 15 := by rw [List.length_take]; omega
    obtain ⟨t, ht⟩ : ∃ t, sumH (xs.take k) = t := ⟨_, rfl⟩
    rw [ht] at hb2
    rw [ht]
    have HT := Lib.hid ht; clear ht
    obtain ⟨t0, t1⟩ := hb2
    by_cases hlt : k < n
    · obtain ⟨b, off, rfl, _⟩ := h.at' _ hlt
      obtain ⟨hb, hc0, hc1, hc2, hc3⟩ := h.cellFire hlt
      have hkl : k < xs.length := by rw [HL.out]; exact hlt
      have hmem : xs.getD k FireI.zero ∈ xs := by rw [List.getD_eq_getElem?_getD, List.getElem?_eq_getElem hkl]; exact List.getElem_mem _
      have hs := sumH_succ hkl
      obtain ⟨v, hvx⟩ : ∃ v, xs.getD k FireI.zero = v := ⟨_, rfl⟩
      rw [hvx] at hc0 hc1 hc2 hc3 hmem hs
      obtain ⟨v0, v1⟩ := (fireB_true (HV.out v hmem)).2.2.1
      have HS := Lib.hid hs
      clear hvx hs hkl
      go_wp2
      go_round
      case rel => exact ⟨k + 1, by omega, by go_num, by rw [HS.out, HT.out]⟩
      case measure => simp [intOf]; omega
    · obtain rfl : k = n := by omega
      go_wp2
      go_ret
      exact ⟨ri (by rw [← HT.out, List.take_of_length_le (by rw [HL.out]; exact Nat.le_refl _)]), rfl⟩

/-- the greatest common divisor of numbers that are not negative -/
def gcdI (a b : Int) : Int := (Nat.gcd a.toNat b.toNat : Nat)
theorem gcdI_step (a b : Nat) (h : 0 < b) : gcdI a b = gcdI b ((a % b : Nat) : Int) := by
  simp only [gcdI, Int.toNat_natCast]
  rw [Nat.gcd_comm a b, Nat.gcd_rec b a, Nat.gcd_comm]
theorem gcdI_zero (a : Nat) : gcdI a 0 = a := by simp [gcdI]
theorem gcdI_pos {a b : Int} (hb : 0 < b) : 1 ≤ gcdI a b := by
  unfold gcdI
  have := Nat.gcd_pos_of_pos_right a.toNat (show 0 < b.toNat by omega)
  omega

/-- a fraction in lowest terms -/
def redA (a b : Int) : Int := a / gcdI a b
def redB (a b : Int) : Int := b / gcdI a b


structure Share3 where
  a : Int
  b : Int
  ok : Bool
def ofCause (p : Int) (x : FireI) : Bool := x.cause == p
def shareR (xs : List FireI) (p : Int) : Share3 := if seasonB xs && inB p 0 4 && !(sumH xs == 0) then ⟨redA (sumH (xs.filter (ofCause p))) (sumH xs), redB (sumH (xs.filter (ofCause p))) (sumH xs), true⟩ else ⟨0, 0, false⟩

theorem sumH_filter {xs : List FireI} (p : FireI → Bool) (h : seasonB xs = true) : 0 ≤ sumH (xs.filter p) ∧ sumH (xs.filter p) ≤ 1500000 := by
  obtain ⟨h1, h2⟩ := seasonB_true h
  have h3 := sumH_bound (xs := xs.filter p) (fun x hx => h2 x ((List.mem_filter.1 hx).1))
  have h4 := List.length_filter_le p xs
  omega

end Go.Proofs.Ytdhgkfmehegeoaa

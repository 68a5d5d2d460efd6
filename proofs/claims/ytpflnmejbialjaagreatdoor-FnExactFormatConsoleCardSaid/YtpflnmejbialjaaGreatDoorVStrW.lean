/-
  Loops over the bytes of a string: both sides.
-/
import Derived.Test.YtpflnmejbialjaaGreatDoorVStr
import Derived.Test.YtpflnmejbialjaaGreatDoorVLst
/-
  Loops over the bytes of a string: both sides.
-/
namespace Go.Proofs.YtpflnmejbialjaaGreatDoor
set_option linter.unusedSimpArgs false
set_option linter.unusedVariables false
open Go.RowKit

theorem all_takeB {p : UInt8 → Bool} {l : Bs} {k : Nat} (hk : k < l.length) : (l.take (k + 1)).all p = ((l.take k).all p && p (l.getD k 0)) := by
  rw [List.take_succ_eq_append_getElem hk, List.all_append]
  simp [List.getD, hk]
theorem any_takeB {p : UInt8 → Bool} {l : Bs} {k : Nat} (hk : k < l.length) : (l.take (k + 1)).any p = ((l.take k).any p || p (l.getD k 0)) := by
  rw [List.take_succ_eq_append_getElem hk, List.any_append]
  simp [List.getD, hk]
theorem all_falseB {p : UInt8 → Bool} {l : Bs} {k : Nat} (hk : k < l.length) (h : p (l.getD k 0) = false) : l.all p = false := by
  rw [List.all_eq_false]
  exact ⟨l[k], List.getElem_mem hk, by simpa [List.getD, hk] using h⟩
theorem any_trueB {p : UInt8 → Bool} {l : Bs} {k : Nat} (hk : k < l.length) (h : p (l.getD k 0) = true) : l.any p = true := by
  rw [List.any_eq_true]
  exact ⟨l[k], List.getElem_mem hk, by simpa [List.getD, hk] using h⟩
theorem byte_lt (x : UInt8) : x.toNat < 256 := x.toNat_lt

/-- all bytes are to be printed -/
def prB (l : Bs) : Bool := l.all fun x => decide (32 ≤ x.toNat ∧ x.toNat ≤ 126)

set_option maxRecDepth 100000 in
set_option maxHeartbeats 1000000 in
theorem isPrintable_any (l : Bs) (w : World) (hl : l.length ≤ 4611686018427387904) :
    Calls Tryz.prog 91 #[.string (bsA l)] w fun e w' => e = .returned (.bool (prB l)) ∧ w = w' := by
  have S1 := bsA_size l
  go_enter Tryz.func91, Tryz.ntmps91
  go_wp2
  go_loop [6] (fun i => ∃ k : Nat, k ≤ l.length ∧ i = .int .i64 k ∧ prB (l.take k) = true) (fun i => l.length - (intOf i).toNat)
  case atStart => exact ⟨0, Nat.zero_le _, rfl, rfl⟩
  case round =>
    obtain ⟨k, hk, rfl, hall⟩ := hrel
    have HA := Lib.hid hall; clear hall
    by_cases hlt : k < l.length
    · have ht := all_takeB (p := fun x => decide (32 ≤ x.toNat ∧ x.toNat ≤ 126)) hlt
      have hf := all_falseB (p := fun x => decide (32 ≤ x.toNat ∧ x.toNat ≤ 126)) hlt
      have hb := byte_lt (l.getD k 0)
      have S2 := bsA_get l k
      generalize l.getD k 0 = x at ht hf hb S2
      obtain ⟨v, hv⟩ : ∃ v : Nat, x.toNat = v := ⟨_, rfl⟩
      rw [hv] at ht hf hb
      have HT := Lib.hid ht; have HFF := Lib.hid hf; clear ht hf
      by_cases h1 : v < 32
      · go_wp2
        go_ret
        exact ⟨rb (by rw [prB, HFF.out (by simp; omega)]), rfl⟩
      by_cases h2 : 126 < v
      · go_wp2
        go_ret
        exact ⟨rb (by rw [prB, HFF.out (by simp; omega)]), rfl⟩
      · go_wp2
        go_round
        case rel => exact ⟨k + 1, by omega, by go_num, by rw [prB, HT.out, show (l.take k).all _ = true from HA.out]; simp; omega⟩
        case measure => simp [intOf]; omega
    · obtain rfl : k = l.length := by omega
      go_wp2
      go_ret
      exact ⟨rb (by rw [← HA.out, List.take_length]), rfl⟩

/-- a byte among others -/
theorem beq_nat {x b : UInt8} {v m : Nat} (hx : x.toNat = v) (hb : b.toNat = m) : (x == b) = decide (v = m) := by
  rw [← hx, ← hb, Bool.eq_iff_iff]
  simp [← UInt8.toNat_inj]

set_option maxRecDepth 100000 in
set_option maxHeartbeats 1000000 in
theorem l27Plain_any (l : Bs) (most : Nat) (w : World) (hl : l.length ≤ 4611686018427387904) :
    Calls Tryz.prog 74 #[.string (bsA l), .int .i64 most] w fun e w' => e = .returned (.bool (plainB l most)) ∧ w = w' := by
  have S1 := bsA_size l
  go_enter Tryz.func74, Tryz.ntmps74
  go_wp2
  go_loop [5] (fun i => ∃ k : Nat, k ≤ l.length ∧ i = .int .i64 k ∧ ((l.take k).all fun x => decide (32 ≤ x.toNat ∧ x.toNat ≤ 126) && !(x == 35)) = true) (fun i => l.length - (intOf i).toNat)
  case atStart => exact ⟨0, Nat.zero_le _, rfl, rfl⟩
  case round =>
    obtain ⟨k, hk, rfl, hall⟩ := hrel
    have HA := Lib.hid hall; clear hall
    by_cases hlt : k < l.length
    · have ht := all_takeB (p := fun x => decide (32 ≤ x.toNat ∧ x.toNat ≤ 126) && !(x == 35)) hlt
      have hf := all_falseB (p := fun x => decide (32 ≤ x.toNat ∧ x.toNat ≤ 126) && !(x == 35)) hlt
      have hb := byte_lt (l.getD k 0)
      have S2 := bsA_get l k
      generalize l.getD k 0 = x at ht hf hb S2
      obtain ⟨v, hv⟩ : ∃ v : Nat, x.toNat = v := ⟨_, rfl⟩
      rw [hv, beq_nat hv (show (35 : UInt8).toNat = 35 from rfl)] at ht hf
      rw [hv] at hb
      have HT := Lib.hid ht; have HFF := Lib.hid hf; clear ht hf
      go_wp2_with fail
      refine (l1In_any _ _ _ _).mono ?_
      rintro e w1 ⟨rfl, rfl⟩
      by_cases h1 : 32 ≤ v ∧ v ≤ 126
      · have hi : inB (v : Int) 32 126 = true := by simp [inB]; omega
        by_cases h2 : v = 35
        · subst h2
          go_wp2
          go_ret
          exact ⟨rb (by rw [plainB, HFF.out (by decide)]; rfl), rfl⟩
        · have hn : ((v : Int) == 35) = false := by simp; omega
          go_wp2
          go_round
          case rel => exact ⟨k + 1, by omega, by go_num, by rw [HT.out, HA.out]; simp [h2]; omega⟩
          case measure => simp [intOf]; omega
      · have hi : inB (v : Int) 32 126 = false := by simp [inB]; omega
        go_wp2
        go_ret
        exact ⟨rb (by rw [plainB, HFF.out (by simp; omega)]; rfl), rfl⟩
    · obtain rfl : k = l.length := by omega
      have hp : plainB l most = decide (l.length ≤ most) := by rw [plainB, show l = l.take l.length from (List.take_length).symm, HA.out]; simp
      have HP := Lib.hid hp; clear hp
      by_cases hm : l.length ≤ most
      all_goals
        go_wp2
        go_ret
        exact ⟨rb (by rw [HP.out]; simp [hm]), rfl⟩

set_option maxRecDepth 100000 in
set_option maxHeartbeats 1000000 in
theorem l1Stands_any (l : Bs) (b : UInt8) (m : Int) (hm : (b.toNat : Int) = m) (w : World) (hl : l.length ≤ 4611686018427387904) :
    Calls Tryz.prog 75 #[.string (bsA l), .int .u8 m] w fun e w' => e = .returned (.bool (hasB b l)) ∧ w = w' := by
  have S1 := bsA_size l
  obtain ⟨mn, hmn⟩ : ∃ mn : Nat, b.toNat = mn := ⟨_, rfl⟩
  rw [hmn] at hm
  subst hm
  have HB := Lib.hid hmn; clear hmn
  go_enter Tryz.func75, Tryz.ntmps75
  go_wp2
  go_loop [5] (fun i => ∃ k : Nat, k ≤ l.length ∧ i = .int .i64 k ∧ ((l.take k).any fun x => x == b) = false) (fun i => l.length - (intOf i).toNat)
  case atStart => exact ⟨0, Nat.zero_le _, rfl, rfl⟩
  case round =>
    obtain ⟨k, hk, rfl, hall⟩ := hrel
    have HA := Lib.hid hall; clear hall
    by_cases hlt : k < l.length
    · have ht := any_takeB (p := fun x => x == b) hlt
      have hf := any_trueB (p := fun x => x == b) hlt
      have S2 := bsA_get l k
      generalize l.getD k 0 = x at ht hf S2
      obtain ⟨v, hv⟩ : ∃ v : Nat, x.toNat = v := ⟨_, rfl⟩
      rw [beq_nat hv HB.out] at ht hf
      have HT := Lib.hid ht; have HFF := Lib.hid hf; clear ht hf
      by_cases h2 : v = mn
      · subst h2
        go_wp2
        go_ret
        exact ⟨rb (by rw [hasB, HFF.out (by simp)]), rfl⟩
      · have hn : ((v : Int) == (mn : Int)) = false := by simp; omega
        go_wp2
        go_round
        case rel => exact ⟨k + 1, by omega, by go_num, by rw [HT.out, HA.out]; simp [h2]⟩
        case measure => simp [intOf]; omega
    · obtain rfl : k = l.length := by omega
      have hp : hasB b l = false := by have := HA.out; rw [List.take_length] at this; exact this
      have HP := Lib.hid hp; clear hp
      go_wp2
      go_ret
      exact ⟨rb (by rw [HP.out]), rfl⟩

theorem sum_step {h v : Nat} (hh : h < 999979) (hv : v < 256) : Int.tmod (41 * (h : Int) + (v : Int) + 1) 999979 = (((41 * h + v + 1) % 999979 : Nat) : Int) := by
  rw [Int.tmod_eq_emod_of_nonneg (by omega)]
  omega
set_option maxRecDepth 100000 in
set_option maxHeartbeats 1000000 in
theorem l1Sum_any (l : Bs) (w : World) (hl : l.length ≤ 4611686018427387904) :
    Calls Tryz.prog 84 #[.string (bsA l)] w fun e w' => e = .returned (.int .i64 (sumB l)) ∧ w = w' := by
  have S1 := bsA_size l
  go_enter Tryz.func84, Tryz.ntmps84
  go_wp2
  go_loop [3, 4] (fun h i => ∃ k : Nat, k ≤ l.length ∧ i = .int .i64 k ∧ h = .int .i64 (sumB (l.take k))) (fun _ i => l.length - (intOf i).toNat)
  case atStart => exact ⟨0, Nat.zero_le _, rfl, rfl⟩
  case round =>
    obtain ⟨k, hk, rfl, rfl⟩ := hrel
    by_cases hlt : k < l.length
    · have ht := sumB_step hlt
      have hb := byte_lt (l.getD k 0)
      have hs := sumB_lt (l.take k)
      have S2 := bsA_get l k
      generalize l.getD k 0 = x at ht hb S2
      generalize sumB (l.take k) = h at ht hs ⊢
      obtain ⟨v, hv⟩ : ∃ v : Nat, x.toNat = v := ⟨_, rfl⟩
      rw [hv] at ht hb
      have hst := sum_step hs hb
      have HT := Lib.hid ht; clear ht
      go_wp2
      go_round
      case rel => exact ⟨k + 1, by omega, by go_num, by rw [HT.out]; first | rfl | (congr 1; omega)⟩
      case measure => simp [intOf]; omega
    · obtain rfl : k = l.length := by omega
      have HP := Lib.hid (show l.take l.length = l from List.take_length)
      go_wp2
      go_ret
      exact ⟨ri (by first | rfl | rw [HP.out]), rfl⟩

set_option maxRecDepth 100000 in
set_option maxHeartbeats 1000000 in
theorem checksum_any (l : Bs) (w : World) (hl : l.length ≤ 4000) :
    Calls Tryz.prog 94 #[.string (bsA l)] w fun e w' => e = .returned (.tuple #[.int .i64 (sumB l), .bool true]) ∧ w = w' := by
  have S1 := bsA_size l
  go_enter Tryz.func94, Tryz.ntmps94
  go_wp2
  go_loop [4, 11] (fun h i => ∃ k : Nat, k ≤ l.length ∧ i = .int .i64 k ∧ h = .int .i64 (sumB (l.take k))) (fun _ i => l.length - (intOf i).toNat)
  case atStart => exact ⟨0, Nat.zero_le _, rfl, rfl⟩
  case round =>
    obtain ⟨k, hk, rfl, rfl⟩ := hrel
    by_cases hlt : k < l.length
    · have ht := sumB_step hlt
      have hb := byte_lt (l.getD k 0)
      have hs := sumB_lt (l.take k)
      have S2 := bsA_get l k
      generalize l.getD k 0 = x at ht hb S2
      generalize sumB (l.take k) = h at ht hs ⊢
      obtain ⟨v, hv⟩ : ∃ v : Nat, x.toNat = v := ⟨_, rfl⟩
      rw [hv] at ht hb
      have hst := sum_step hs hb
      have HT := Lib.hid ht; clear ht
      go_wp2
      go_round
      case rel => exact ⟨k + 1, by omega, by go_num, by rw [HT.out]; first | rfl | (congr 1; omega)⟩
      case measure => simp [intOf]; omega
    · obtain rfl : k = l.length := by omega
      have HP := Lib.hid (show l.take l.length = l from List.take_length)
      go_wp2
      go_ret2
      exact ⟨by first | rfl | (rw [HP.out]; rfl), rfl⟩
end Go.Proofs.YtpflnmejbialjaaGreatDoor

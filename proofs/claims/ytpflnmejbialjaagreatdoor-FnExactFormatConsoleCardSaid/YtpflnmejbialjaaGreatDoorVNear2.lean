/- Lemmas. -/
import Derived.Test.YtpflnmejbialjaaGreatDoorVArr
import Derived.Test.YtpflnmejbialjaaGreatDoorVFlPhase
import Derived.Test.YtpflnmejbialjaaGreatDoorVNear
/-
  Speeds and work that is done.
-/
namespace Go.Proofs.YtpflnmejbialjaaGreatDoor
set_option linter.unusedSimpArgs false
set_option linter.unusedVariables false
open Go.RowKit

def phOK (l : List PhaseI) (k : Nat) : Bool := inB (l.getD k PhaseI.zero).fr 0 9999 && inB (l.getD k PhaseI.zero).sp 1 9 && (if k = 0 then decide ((l.getD k PhaseI.zero).fr = 0) else decide ((l.getD (k - 1) PhaseI.zero).fr < (l.getD k PhaseI.zero).fr))
def phasesB (l : List PhaseI) : Bool := (List.range l.length).all (phOK l) && inB l.length 1 6
theorem phasesB_true {l : List PhaseI} (h : phasesB l = true) : (∀ k, k < l.length → phOK l k = true) ∧ 1 ≤ l.length ∧ l.length ≤ 6 := by
  unfold phasesB at h
  rw [Bool.and_eq_true, List.all_eq_true] at h
  have := inB_true h.2
  exact ⟨fun k hk => h.1 k (List.mem_range.2 hk), by omega, by omega⟩
end Go.Proofs.YtpflnmejbialjaaGreatDoor

namespace Go.Proofs.YtpflnmejbialjaaGreatDoor
set_option linter.unusedSimpArgs false
set_option linter.unusedVariables false
open Go.RowKit

set_option maxRecDepth 100000 in
set_option maxHeartbeats 400000 in
theorem indexI_any (a : Option Addr) (n c : Nat) (xs : List Int) (x : Int) (w : World) (h : Ints w a n c xs) :
    Calls Tryz.prog 57 #[.slice a n c, .int .i64 x] w fun e w' => e = .returned (.int .i64 (firstI (· == x) xs)) ∧ w = w' := by
  have hn := h.cap
  have hc := h.room
  have HL := Lib.hid h.len
  go_enter Tryz.func57, Tryz.ntmps57
  go_wp2
  go_loop [8] (fun i => ∃ k : Nat, k ≤ n ∧ i = .int .i64 k ∧ (xs.take k).any (· == x) = false) (fun i => n - (intOf i).toNat)
  case atStart => exact ⟨0, Nat.zero_le _, rfl, by simp⟩
  case round =>
    obtain ⟨k, hk, rfl, hall⟩ := hrel
    have HA := Lib.hid hall; clear hall
    by_cases hlt : k < n
    · obtain ⟨b, off, rfl, hb, hcell⟩ := h.at' _ hlt
      have hck := hcell k hlt
      clear hcell
      have hkx : k < xs.length := by rw [HL.out]; exact hlt
      obtain ⟨y, hy⟩ : ∃ y, xs.getD k 0 = y := ⟨_, rfl⟩
      rw [hy] at hck
      have HX := Lib.hid hy; clear hy
      have HS := Lib.hid (any_take_succ (p := (· == x)) hkx)
      have HKX := Lib.hid hkx; clear hkx
      by_cases he : x = y
      · have hb1 : (x == y) = true := by simpa using he
        have HE := Lib.hid he; clear he
        go_wp2
        go_ret
        exact ⟨ri (by rw [firstI_at (k := k) HKX.out HA.out (by rw [HX.out, HE.out]; simp)]), rfl⟩
      · have hb1 : (x == y) = false := by simpa using he
        go_wp2
        go_round
        case rel => exact ⟨k + 1, by omega, by go_num, by rw [HS.out, HA.out, HX.out]; simpa using fun e => he e.symm⟩
        case measure => simp [intOf]; omega
    · go_wp2
      go_ret
      obtain rfl : k = n := by omega
      exact ⟨ri (by rw [firstI_none (by rw [← HA.out, List.take_of_length_le (by rw [HL.out]; exact Nat.le_refl _)])]), rfl⟩

/-- is it in the list -/
def hasI (xs : List Int) (x : Int) : Bool := xs.any (· == x)
theorem hasI_iff {xs : List Int} {x : Int} : hasI xs x = true ↔ x ∈ xs := by
  unfold hasI
  rw [List.any_eq_true]
  constructor
  · rintro ⟨y, hy, e⟩
    have : y = x := by simpa using e
    rw [← this]; exact hy
  · exact fun h => ⟨x, h, by simp⟩
theorem any_contains (xs : List Int) (x : Int) : xs.any (· == x) = hasI xs x := rfl

set_option maxRecDepth 100000 in
set_option maxHeartbeats 400000 in
theorem containsI_any (a : Option Addr) (n c : Nat) (xs : List Int) (x : Int) (w : World) (h : Ints w a n c xs) :
    Calls Tryz.prog 41 #[.slice a n c, .int .i64 x] w fun e w' => e = .returned (.bool (hasI xs x)) ∧ w = w' := by
  have HR := Lib.hid (firstI_sign (· == x) xs)
  have HC := Lib.hid (any_contains xs x)
  go_enter Tryz.func41, Tryz.ntmps41
  go_wp2_with fail
  refine (indexI_any a n c xs x _ h).mono ?_
  rintro e w1 ⟨rfl, rfl⟩
  cases hp : xs.any (· == x)
  all_goals
    have hd : decide (0 ≤ firstI (· == x) xs) = xs.any (· == x) := HR.out
    rw [hp] at hd
    go_wp2
    go_ret
    exact ⟨rb (by rw [← HC.out, hp]), rfl⟩

set_option maxRecDepth 100000 in
set_option maxHeartbeats 400000 in
theorem has_any (a : Option Addr) (n c : Nat) (xs : List Int) (x : Int) (w : World) (h : Ints w a n c xs) :
    Calls Tryz.prog 23 #[.slice a n c, .int .i64 x] w fun e w' => e = .returned (.bool (hasI xs x)) ∧ w = w' := by
  go_enter Tryz.func23, Tryz.ntmps23
  go_wp2_with fail
  refine (containsI_any a n c xs x _ h).mono ?_
  rintro e w1 ⟨rfl, rfl⟩
  go_wp2
  go_ret
  exact ⟨rfl, rfl⟩

set_option maxRecDepth 100000 in
set_option maxHeartbeats 400000 in
theorem l1Has_any (a : Option Addr) (n c : Nat) (xs : List Int) (x : Int) (w : World) (h : Ints w a n c xs) :
    Calls Tryz.prog 14 #[.slice a n c, .int .i64 x] w fun e w' => e = .returned (.bool (hasI xs x)) ∧ w = w' := by
  have hn := h.cap
  have hc := h.room
  have HL := Lib.hid h.len
  have HC := Lib.hid (any_contains xs x)
  go_enter Tryz.func14, Tryz.ntmps14
  go_wp2
  go_loop [5] (fun i => ∃ k : Nat, k ≤ n ∧ i = .int .i64 k ∧ (xs.take k).any (· == x) = false) (fun i => n - (intOf i).toNat)
  case atStart => exact ⟨0, Nat.zero_le _, rfl, by simp⟩
  case round =>
    obtain ⟨k, hk, rfl, hall⟩ := hrel
    have HA := Lib.hid hall; clear hall
    by_cases hlt : k < n
    · obtain ⟨b, off, rfl, hb, hcell⟩ := h.at' _ hlt
      have hck := hcell k hlt
      clear hcell
      have hkx : k < xs.length := by rw [HL.out]; exact hlt
      have hmem := getD_mem hkx
      obtain ⟨y, hy⟩ : ∃ y, xs.getD k 0 = y := ⟨_, rfl⟩
      rw [hy] at hck hmem
      have HX := Lib.hid hy; clear hy
      have HS := Lib.hid (any_take_succ (p := (· == x)) hkx)
      have HMEM := Lib.hid hmem; clear hmem hkx
      by_cases he : y = x
      · have hb1 : (y == x) = true := by simpa using he
        have HE := Lib.hid he; clear he
        go_wp2
        go_ret
        exact ⟨rb (by have := HMEM.out; rw [HE.out] at this; exact (hasI_iff.2 this).symm), rfl⟩
      · have hb1 : (y == x) = false := by simpa using he
        go_wp2
        go_round
        case rel => exact ⟨k + 1, by omega, by go_num, by rw [HS.out, HA.out, HX.out]; simpa using he⟩
        case measure => simp [intOf]; omega
    · go_wp2
      go_ret
      obtain rfl : k = n := by omega
      exact ⟨rb (by rw [← HC.out, ← HA.out, List.take_of_length_le (by rw [HL.out]; exact Nat.le_refl _)]), rfl⟩
end Go.Proofs.YtpflnmejbialjaaGreatDoor

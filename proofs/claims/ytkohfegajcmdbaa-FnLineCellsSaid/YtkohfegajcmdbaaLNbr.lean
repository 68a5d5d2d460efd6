/-
  NeighborsOf, StepsApart, BurnableCells, Reachable: both sides.
-/
import Derived.Test.YtkohfegajcmdbaaLLst
import Derived.Test.YtkohfegajcmdbaaLRd
import Derived.Test.YtkohfegajcmdbaaLDrawSmk
import Derived.Test.YtkohfegajcmdbaaLNear
import Derived.Test.YtkohfegajcmdbaaLSets
import Derived.Test.YtkohfegajcmdbaaLFloodW
import Derived.Test.YtkohfegajcmdbaaLNear4
import Derived.Test.YtkohfegajcmdbaaLClear2
import Derived.Test.YtkohfegajcmdbaaLReachS
/-
  Small functions of the laws over numbers: same lists, members, sums.
-/
namespace Go.Proofs.Ytkohfegajcmdbaa
set_option linter.unusedSimpArgs false
set_option linter.unusedVariables false
open Go.RowKit

set_option maxRecDepth 100000 in
set_option maxHeartbeats 1000000 in
theorem vInts_any (a : Option Addr) (n c : Nat) (xs : List Int) (a2 : Option Addr) (n2 c2 : Nat) (ys : List Int) (w : World) (h : Ints w a n c xs) (h2 : Ints w a2 n2 c2 ys) :
    Calls Try.prog 11 #[.slice a n c, .slice a2 n2 c2] w fun e w' => e = .returned (.bool (xs == ys)) ∧ Below w.heap.size w w' := by
  have hn := h.cap
  have hc := h.room
  have HL := Lib.hid h.len
  have HL2 := Lib.hid h2.len
  by_cases hne : n = n2
  · subst hne
    go_enter Try.func11, Try.ntmps11
    go_wp2
    go_loopw [5] (fun i wr => ∃ k : Nat, k ≤ n ∧ i = .int .i64 k ∧ xs.take k = ys.take k ∧ Below w.heap.size w wr) (fun i _ => n - (intOf i).toNat)
    case atStart => exact ⟨0, Nat.zero_le _, rfl, by simp, Below.refl _ _⟩
    case round =>
      obtain ⟨k, hk, rfl, hall, hbr⟩ := hrel
      have HA := Lib.hid hall; clear hall
      by_cases hlt : k < n
      · obtain ⟨b, off, rfl, hb, hcell⟩ := (h.below hbr).at' _ hlt
        obtain ⟨b2, off2, rfl, hb2, hcell2⟩ := (h2.below hbr).at' _ hlt
        have hck := hcell k hlt
        have hck2 := hcell2 k hlt
        clear hcell hcell2
        obtain ⟨x, hx⟩ : ∃ x, xs.getD k 0 = x := ⟨_, rfl⟩
        obtain ⟨y, hy⟩ : ∃ y, ys.getD k 0 = y := ⟨_, rfl⟩
        rw [hx] at hck
        rw [hy] at hck2
        have HX := Lib.hid hx; clear hx
        have HY := Lib.hid hy; clear hy
        by_cases he : x = y
        · subst he
          go_wp2
          go_quiet (fail)
          go_wp2
          go_roundw
          case rel => exact ⟨k + 1, by omega, by go_num, by rw [take_succ' (by rw [HL.out]; exact hlt), take_succ' (by rw [HL2.out]; exact hlt), HA.out, HX.out, HY.out], bdrewN hbr _⟩
          case measure => simp [intOf]; omega
        · go_wp2
          go_quiet (fail)
          go_wp2
          go_ret
          refine ⟨rb ?_, bdrewN hbr _⟩
          symm
          rw [beq_eq_false_iff_ne]
          rintro rfl
          exact he (HX.out.symm.trans HY.out)
      · go_wp2
        go_ret
        obtain rfl : k = n := by omega
        refine ⟨rb ?_, hbr⟩
        symm
        rw [beq_iff_eq, ← List.take_of_length_le (show xs.length ≤ k by rw [HL.out]; exact Nat.le_refl _), HA.out, List.take_of_length_le (by rw [HL2.out]; exact Nat.le_refl _)]
  · have hne' : ((n : Int) != n2) = true := by simp; omega
    go_enter Try.func11, Try.ntmps11
    go_wp2
    go_ret
    refine ⟨rb ?_, Below.refl _ _⟩
    symm
    rw [beq_eq_false_iff_ne]
    rintro rfl
    exact hne (HL.out.symm.trans HL2.out)
theorem vInts_same (a : Option Addr) (n c : Nat) (xs : List Int) (a2 : Option Addr) (n2 c2 : Nat) (w : World) (h : Ints w a n c xs) (h2 : Ints w a2 n2 c2 xs) :
    Calls Try.prog 11 #[.slice a n c, .slice a2 n2 c2] w fun e w' => e = .returned (.bool true) ∧ Below w.heap.size w w' := by
  have := vInts_any a n c xs a2 n2 c2 xs w h h2
  rw [beq_self_eq_true] at this
  exact this
def hasV (xs : List Int) (x : Int) : Bool := xs.any (· == x)
theorem hasV_iff {xs : List Int} {x : Int} : hasV xs x = true ↔ x ∈ xs := by
  unfold hasV
  rw [List.any_eq_true]
  constructor
  · rintro ⟨y, hy, e⟩
    rw [← beq_iff_eq.1 e]
    exact hy
  · exact fun h => ⟨x, h, beq_self_eq_true x⟩
set_option maxRecDepth 100000 in
set_option maxHeartbeats 1000000 in
theorem vHas_any (a : Option Addr) (n c : Nat) (xs : List Int) (x : Int) (w : World) (h : Ints w a n c xs) :
    Calls Try.prog 13 #[.slice a n c, .int .i64 x] w fun e w' => e = .returned (.bool (hasV xs x)) ∧ w = w' := by
  have hn := h.cap
  have hc := h.room
  have HL := Lib.hid h.len
  go_enter Try.func13, Try.ntmps13
  go_wp2
  go_loop [5] (fun i => ∃ k : Nat, k ≤ n ∧ i = .int .i64 k ∧ Hid ((xs.take k).any (· == x) = false)) (fun i => n - (intOf i).toNat)
  case atStart => exact ⟨0, Nat.zero_le _, rfl, Lib.hid (by simp)⟩
  case round =>
    obtain ⟨k, hk, rfl, HA⟩ := hrel
    by_cases hlt : k < n
    · obtain ⟨b, off, rfl, hb, hcell⟩ := h.at' _ hlt
      have hck := hcell k hlt
      clear hcell
      obtain ⟨y, hy⟩ : ∃ y, xs.getD k 0 = y := ⟨_, rfl⟩
      rw [hy] at hck
      have HX := Lib.hid hy; clear hy
      by_cases he : y = x
      · subst he
        have HF := Lib.hid (show hasV xs y = true by rw [hasV_iff, ← HX.out]; exact getD_mem (by rw [HL.out]; exact hlt))
        go_wp2
        go_ret
        exact ⟨rb HF.out.symm, rfl⟩
      · have he' : (y == x) = false := by simpa using he
        have HE := Lib.hid he'
        go_wp2
        go_round
        case rel => exact ⟨k + 1, by omega, by go_num, Lib.hid (by rw [any_take_succ (by rw [HL.out]; exact hlt), HA.out, HX.out, HE.out]; rfl)⟩
        case measure => simp [intOf]; omega
    · obtain rfl : k = n := by omega
      go_wp2
      go_ret
      refine ⟨rb ?_, rfl⟩
      have h1 := HA.out
      rw [List.take_of_length_le (by rw [HL.out]; exact Nat.le_refl _)] at h1
      exact h1.symm
def withinV (xs ys : List Int) : Bool := xs.all (hasV ys)
theorem withinV_iff {xs ys : List Int} : withinV xs ys = true ↔ ∀ x ∈ xs, x ∈ ys := by
  unfold withinV
  rw [List.all_eq_true]
  exact ⟨fun h x hx => hasV_iff.1 (h x hx), fun h x hx => hasV_iff.2 (h x hx)⟩
set_option maxRecDepth 100000 in
set_option maxHeartbeats 1000000 in
theorem vWithin_any (a : Option Addr) (n c : Nat) (xs : List Int) (a2 : Option Addr) (n2 c2 : Nat) (ys : List Int) (w : World) (h : Ints w a n c xs) (h2 : Ints w a2 n2 c2 ys) :
    Calls Try.prog 20 #[.slice a n c, .slice a2 n2 c2] w fun e w' => e = .returned (.bool (withinV xs ys)) ∧ w = w' := by
  have hn := h.cap
  have hc := h.room
  have HL := Lib.hid h.len
  go_enter Try.func20, Try.ntmps20
  go_wp2
  go_loop [5] (fun i => ∃ k : Nat, k ≤ n ∧ i = .int .i64 k ∧ Hid ((xs.take k).all (hasV ys) = true)) (fun i => n - (intOf i).toNat)
  case atStart => exact ⟨0, Nat.zero_le _, rfl, Lib.hid (by simp)⟩
  case round =>
    obtain ⟨k, hk, rfl, HA⟩ := hrel
    by_cases hlt : k < n
    · obtain ⟨b, off, rfl, hb, hcell⟩ := h.at' _ hlt
      have hck := hcell k hlt
      clear hcell
      obtain ⟨y, hy⟩ : ∃ y, xs.getD k 0 = y := ⟨_, rfl⟩
      rw [hy] at hck
      have HX := Lib.hid hy; clear hy
      cases he : hasV ys y
      · have HF := Lib.hid (show withinV xs ys = false by
          cases hw : withinV xs ys with
          | false => rfl
          | true =>
            have := withinV_iff.1 hw y (by rw [← HX.out]; exact getD_mem (by rw [HL.out]; exact hlt))
            rw [hasV_iff.2 this] at he
            cases he)
        have HE := Lib.hid he; clear he
        go_wp2_with fail
        refine (vHas_any a2 n2 c2 ys y _ h2).mono ?_
        rw [HE.out]
        rintro e w1 ⟨rfl, rfl⟩
        go_wp2
        go_ret
        exact ⟨rb HF.out.symm, rfl⟩
      · have HE := Lib.hid he; clear he
        go_wp2_with fail
        refine (vHas_any a2 n2 c2 ys y _ h2).mono ?_
        rw [HE.out]
        rintro e w1 ⟨rfl, rfl⟩
        go_wp2
        go_round
        case rel => exact ⟨k + 1, by omega, by go_num, Lib.hid (by rw [all_take_succ (by rw [HL.out]; exact hlt), HA.out, HX.out, HE.out]; rfl)⟩
        case measure => simp [intOf]; omega
    · obtain rfl : k = n := by omega
      go_wp2
      go_ret
      refine ⟨rb ?_, rfl⟩
      have h1 := HA.out
      rw [List.take_of_length_le (by rw [HL.out]; exact Nat.le_refl _)] at h1
      exact h1.symm
end Go.Proofs.Ytkohfegajcmdbaa

/-
  NeighborsOf, StepsApart, BurnableCells, Reachable: both sides.
-/
namespace Go.Proofs.Ytkohfegajcmdbaa
set_option linter.unusedSimpArgs false
set_option linter.unusedVariables false
open Go.RowKit

noncomputable def reachR (W H : Int) (xs cs : List Int) : List Int × Bool := if goodB 20 W H xs && setB xs.length cs then (reachL W.toNat xs.length xs (fun k => hasI cs k), true) else ([], false)
def LR2 (w : World) (r : List Int × Bool) (e : Ending) (w' : World) : Prop := ∃ a' m' c', e = .returned (.tuple #[.slice a' m' c', .bool r.2]) ∧ Mem w.heap.size w w' [intE a' m' c' r.1]
end Go.Proofs.Ytkohfegajcmdbaa

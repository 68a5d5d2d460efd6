/-
  The sum of the laws (rSum).
-/
import Derived.Test.YtpoabdmapbdmfaaDoorPRd
import Derived.Test.YtpoabdmapbdmfaaDoorPLst
/-
  The sum of the laws (rSum).
-/
namespace Go.Proofs.YtpoabdmapbdmfaaDoor
set_option linter.unusedSimpArgs false
set_option linter.unusedVariables false
open Go.RowKit

theorem sum_take_succ {xs : List Int} {k : Nat} (h : k < xs.length) : (xs.take (k + 1)).sum = (xs.take k).sum + xs.getD k 0 := by
  rw [List.take_succ_eq_append_getElem h, List.sum_append_int]
  simp [List.getD, h]
theorem sum_bnd {xs : List Int} {B : Int} (hB : 0 ≤ B) (h : ∀ x ∈ xs, 0 ≤ x ∧ x ≤ B) : ∀ k, 0 ≤ (xs.take k).sum ∧ (xs.take k).sum ≤ B * (xs.length : Int) := by
  induction xs with
  | nil => intro k; rw [List.take_nil]; exact ⟨Int.le_refl _, by simp⟩
  | cons x xs ih =>
    intro k
    have hx := h x (List.mem_cons_self ..)
    have ih2 := ih fun y hy => h y (List.mem_cons_of_mem _ hy)
    have hm : B * ((x :: xs).length : Int) = B * (xs.length : Int) + B := by rw [List.length_cons]; push_cast; rw [Int.mul_add, Int.mul_one]
    rw [hm]
    cases k with
    | zero =>
      rw [List.take_zero]
      refine ⟨Int.le_refl _, ?_⟩
      have := ih2 0
      rw [List.take_zero] at this
      show (0 : Int) ≤ _
      have h0 : ([] : List Int).sum = 0 := rfl
      rw [h0] at this
      omega
    | succ k =>
      have := ih2 k
      rw [List.take_succ_cons, List.sum_cons]
      omega

set_option maxHeartbeats 4000000 in
theorem rSum_any (a : Option Addr) (n c : Nat) (xs : List Int) (w : World) (h : Ints w a n c xs) (hn : n ≤ 20) (hb : ∀ x ∈ xs, 0 ≤ x ∧ x ≤ 100) :
    Calls Tryd.prog 11 #[.slice a n c] w fun e w' => e = .returned (.int .i64 xs.sum) ∧ w = w' := by
  have HL := Lib.hid h.len
  have HB := Lib.hid (sum_bnd (B := 100) (by omega) hb)
  have HE := Lib.hid hb
  go_enter Tryd.func11, Tryd.ntmps11
  go_wp2_with fail
  go_loop [3, 4] (fun t i => ∃ j : Nat, j ≤ n ∧ i = .int .i64 j ∧ t = .int .i64 (xs.take j).sum) (fun _ i => n - (intOf i).toNat)
  case atStart => exact ⟨0, Nat.zero_le _, rfl, rfl⟩
  case round =>
    obtain ⟨j, hj, rfl, rfl⟩ := hrel
    have hs := HB.out j
    rw [HL.out] at hs
    by_cases hlt : j < n
    · obtain ⟨b, off, rfl, _, hcell⟩ := h.at' _ hlt
      have hck := hcell j hlt
      have hst := sum_take_succ (xs := xs) (k := j) (by rw [HL.out]; exact hlt)
      have he := HE.out _ (getD_mem (xs := xs) (k := j) (by rw [HL.out]; exact hlt))
      generalize xs.getD j 0 = v at hck hst he
      generalize (xs.take j).sum = s at hs hst ⊢
      have HST := Lib.hid hst
      clear hst hcell
      have hw : IntKind.i64.wrap (s + v) = s + v := wrap_in (by omega)
      go_wp2
      go_round
      case rel => exact ⟨j + 1, by omega, by go_num, by rw [HST.out]⟩
      case measure => simp [intOf]; omega
    · obtain rfl : j = n := by omega
      have e : (xs.take j).sum = xs.sum := by rw [List.take_of_length_le (by rw [HL.out]; exact Nat.le_refl _)]
      rw [e]
      go_wp2
      go_ret
      exact ⟨rfl, rfl⟩
end Go.Proofs.YtpoabdmapbdmfaaDoor

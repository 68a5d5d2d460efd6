/-
  Words: both sides.
-/
import Derived.Test.YtjnbdgldpmmamaaWStrW
/-
  Words: both sides.
-/
namespace Go.Proofs.Ytjnbdgldpmmamaa
set_option linter.unusedSimpArgs false
set_option linter.unusedVariables false
open Go.RowKit

def letB (x : UInt8) : Bool := decide (97 ≤ x.toNat ∧ x.toNat ≤ 122)
def wordB (l : Bs) : Bool := l.all letB && inB l.length 1 10
set_option maxRecDepth 100000 in
set_option maxHeartbeats 1000000 in
theorem isWord_any (l : Bs) (w : World) (hl : l.length ≤ maxLen) :
    Calls Try.prog 73 #[.string (bsA l)] w fun e w' => e = .returned (.bool (wordB l)) ∧ w = w' := by
  unfold maxLen at hl
  have S1 := bsA_size l
  go_enter Try.func73, Try.ntmps73
  go_wp2
  go_loop [6] (fun i => ∃ k : Nat, k ≤ l.length ∧ i = .int .i64 k ∧ (l.take k).all letB = true) (fun i => l.length - (intOf i).toNat)
  case atStart => exact ⟨0, Nat.zero_le _, rfl, rfl⟩
  case round =>
    obtain ⟨k, hk, rfl, hall⟩ := hrel
    have HA := Lib.hid hall; clear hall
    by_cases hlt : k < l.length
    · have ht := all_takeB (p := letB) hlt
      have hf := all_falseB (p := letB) hlt
      have hb := byte_lt (l.getD k 0)
      have S2 := bsA_get l k
      unfold letB at ht hf
      generalize l.getD k 0 = x at ht hf hb S2
      obtain ⟨v, hv⟩ : ∃ v : Nat, x.toNat = v := ⟨_, rfl⟩
      rw [hv] at ht hf hb
      have HT := Lib.hid ht; have HFF := Lib.hid hf; clear ht hf
      by_cases h1 : v < 97
      · go_wp2
        go_ret
        exact ⟨rb (by rw [wordB, show l.all letB = false from HFF.out (by simp; omega)]; rfl), rfl⟩
      by_cases h2 : 122 < v
      · go_wp2
        go_ret
        exact ⟨rb (by rw [wordB, show l.all letB = false from HFF.out (by simp; omega)]; rfl), rfl⟩
      · go_wp2
        go_round
        case rel => exact ⟨k + 1, by omega, by go_num, by rw [show (l.take (k + 1)).all letB = ((l.take k).all letB && decide (97 ≤ v ∧ v ≤ 122)) from HT.out, HA.out]; simp; omega⟩
        case measure => simp [intOf]; omega
    · obtain rfl : k = l.length := by omega
      have HR := Lib.hid (show wordB l = inB l.length 1 10 by rw [wordB, ← List.take_length (l := l), HA.out, List.take_length]; rfl)
      go_wp2_with fail
      refine (in_any _ _ _ _).mono ?_
      rintro e w1 ⟨rfl, rfl⟩
      go_wp2
      go_ret
      exact ⟨rb HR.out.symm, rfl⟩
set_option maxRecDepth 100000 in
set_option maxHeartbeats 1000000 in
theorem l2Word_any (l : Bs) (w : World) (hl : l.length ≤ maxLen) :
    Calls Try.prog 76 #[.string (bsA l)] w fun e w' => e = .returned (.bool (wordB l)) ∧ w = w' := by
  unfold maxLen at hl
  have S1 := bsA_size l
  go_enter Try.func76, Try.ntmps76
  go_wp2
  go_loop [3] (fun i => ∃ k : Nat, k ≤ l.length ∧ i = .int .i64 k ∧ (l.take k).all letB = true) (fun i => l.length - (intOf i).toNat)
  case atStart => exact ⟨0, Nat.zero_le _, rfl, rfl⟩
  case round =>
    obtain ⟨k, hk, rfl, hall⟩ := hrel
    have HA := Lib.hid hall; clear hall
    by_cases hlt : k < l.length
    · have ht := all_takeB (p := letB) hlt
      have hf := all_falseB (p := letB) hlt
      have hb := byte_lt (l.getD k 0)
      have S2 := bsA_get l k
      unfold letB at ht hf
      generalize l.getD k 0 = x at ht hf hb S2
      obtain ⟨v, hv⟩ : ∃ v : Nat, x.toNat = v := ⟨_, rfl⟩
      rw [hv] at ht hf hb
      have HT := Lib.hid ht; have HFF := Lib.hid hf; clear ht hf
      by_cases h1 : v < 97
      · go_wp2
        go_ret
        exact ⟨rb (by rw [wordB, show l.all letB = false from HFF.out (by simp; omega)]; rfl), rfl⟩
      by_cases h2 : 122 < v
      · go_wp2
        go_ret
        exact ⟨rb (by rw [wordB, show l.all letB = false from HFF.out (by simp; omega)]; rfl), rfl⟩
      · go_wp2
        go_round
        case rel => exact ⟨k + 1, by omega, by go_num, by rw [show (l.take (k + 1)).all letB = ((l.take k).all letB && decide (97 ≤ v ∧ v ≤ 122)) from HT.out, HA.out]; simp; omega⟩
        case measure => simp [intOf]; omega
    · obtain rfl : k = l.length := by omega
      have HR := Lib.hid (show wordB l = inB l.length 1 10 by rw [wordB, ← List.take_length (l := l), HA.out, List.take_length]; rfl)
      go_wp2_with fail
      refine (l1In_any _ _ _ _).mono ?_
      rintro e w1 ⟨rfl, rfl⟩
      go_wp2
      go_ret
      exact ⟨rb HR.out.symm, rfl⟩
end Go.Proofs.Ytjnbdgldpmmamaa

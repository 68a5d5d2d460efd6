/-
  Regions: an operation that waits, by a path.
-/
import Derived.Test.YtpflnmejbialjaaDoorVReg
/-
  Regions: an operation that waits, by a path.
-/
namespace Go.Proofs.YtpflnmejbialjaaDoor
set_option linter.unusedSimpArgs false
set_option linter.unusedVariables false
open Go.RowKit

section
variable {ops : Array Oper} {md : Region.Mode}
/-- t waits for the first, that for the next .. the last for i -/
def pathB (md : Region.Mode) (ops : Array Oper) (i : Nat) : List Nat → Nat → Bool
  | [], t => match ops[t]? with
    | some o => o.after.any fun e => Region.binds md e && e.on == i
    | none => false
  | j :: js, t => (match ops[t]? with
    | some o => o.after.any fun e => Region.binds md e && e.on == j
    | none => false) && pathB md ops i js j
theorem anc_path {i : Nat} : ∀ (js : List Nat) (t f : Nat), pathB md ops i js t = true → Nat.blt js.length f = true → anc md ops i f t = true
  | [], t, 0, _, hl => by simp at hl
  | [], t, f + 1, h, _ => by
    unfold pathB at h
    unfold anc
    cases ho : ops[t]? with
    | none => rw [ho] at h; cases h
    | some o =>
      rw [ho] at h
      obtain ⟨e, he, hb⟩ := Array.any_eq_true'.1 h
      simp only [Bool.and_eq_true, beq_iff_eq] at hb
      exact Array.any_eq_true'.2 ⟨e, he, by simp [hb.1, hb.2]⟩
  | j :: js, t, 0, _, hl => by simp at hl
  | j :: js, t, f + 1, h, hl => by
    unfold pathB at h
    unfold anc
    cases ho : ops[t]? with
    | none => rw [ho] at h; cases h
    | some o =>
      rw [ho] at h
      simp only [Bool.and_eq_true] at h
      obtain ⟨e, he, hb⟩ := Array.any_eq_true'.1 h.1
      simp only [Bool.and_eq_true, beq_iff_eq] at hb
      have hl' : Nat.blt js.length f = true := by
        have := Nat.le_of_ble_eq_true hl
        simp only [List.length_cons] at this
        exact Nat.ble_eq_true_of_le (by omega)
      exact Array.any_eq_true'.2 ⟨e, he, by simp [hb.1, hb.2, anc_path js j f h.2 hl']⟩
end
end Go.Proofs.YtpflnmejbialjaaDoor

/-
  Regions: an operation that waits, by a path.
-/
import Derived.Test.YtpflnmejbialjaaGreatDoorVNear2
import Derived.Deep.LoopGhost
import Derived.Test.YtpflnmejbialjaaGreatDoorVRd
import Derived.Test.YtpflnmejbialjaaGreatDoorVReg
/-
  Phases: the pure part.
-/
namespace Go.Proofs.YtpflnmejbialjaaGreatDoor
set_option linter.unusedSimpArgs false
set_option linter.unusedVariables false
open Go.RowKit

def phTo (l : List PhaseI) (k : Nat) : Bool := (List.range k).all (phOK l)
theorem phTo_succ (l : List PhaseI) (k : Nat) : phTo l (k + 1) = (phTo l k && phOK l k) := by
  simp [phTo, List.range_succ]
theorem phases_to {l : List PhaseI} : phasesB l = (phTo l l.length && inB l.length 1 6) := rfl
theorem phases_bad {l : List PhaseI} {k : Nat} (hk : k < l.length) (h : phOK l k = false) : phasesB l = false := by
  cases hp : phasesB l
  · rfl
  · have := (phasesB_true hp).1 k hk
    rw [h] at this
    exact this.symm
theorem phases_len {l : List PhaseI} (h : inB l.length 1 6 = false) : phasesB l = false := by
  rw [phases_to, h, Bool.and_false]
theorem phases_zero {l : List PhaseI} (hl : inB l.length 1 6 = true) (h : (l.getD 0 PhaseI.zero).fr ≠ 0) : phasesB l = false := by
  have := inB_true hl
  refine phases_bad (k := 0) (by omega) ?_
  have h0 : decide ((l.getD 0 PhaseI.zero).fr = 0) = false := by simpa using h
  rw [phOK, if_pos rfl, h0, Bool.and_false]

theorem phTick_any (d : Int) (w : World) : Calls Tryz.prog 51 #[.int .i64 d] w fun e w' => e = .returned (.bool (inB d 0 9999)) ∧ w = w' := by
  go_enter Tryz.func51, Tryz.ntmps51
  go_wp2_with (go_at_call 52; refine (in_any _ _ _ _).mono ?_; rintro e w' ⟨rfl, rfl⟩)
  go_ret
  exact ⟨rfl, rfl⟩
theorem phTickS_any (d : Int) (w : World) : Calls Tryz.prog 46 #[.int .i64 d] w fun e w' => e = .returned (.bool (inB d 0 9999)) ∧ w = w' := by
  go_enter Tryz.func46, Tryz.ntmps46
  go_wp2_with (go_at_call 47; refine (l1In_any _ _ _ _).mono ?_; rintro e w' ⟨rfl, rfl⟩)
  go_ret
  exact ⟨rfl, rfl⟩

end Go.Proofs.YtpflnmejbialjaaGreatDoor

/-
  Regions: an operation that waits, by a path.
-/
namespace Go.Proofs.YtpflnmejbialjaaGreatDoor
set_option linter.unusedSimpArgs false
set_option linter.unusedVariables false
open Go.RowKit

section
variable {ops : Array Oper} {md : Region.Mode}
/-- t waits for the first, that for the next .. the last for i -/
def pathB (md : Region.Mode) (ops : Array Oper) (i : Nat) : List Nat → Nat → Bool
  | [], t => match ops[t]? with
    | some o => o.after.any fun e => Region.binds md e && e.on == i
    | none => false
  | j :: js, t => (match ops[t]? with
    | some o => o.after.any fun e => Region.binds md e && e.on == j
    | none => false) && pathB md ops i js j
theorem anc_path {i : Nat} : ∀ (js : List Nat) (t f : Nat), pathB md ops i js t = true → Nat.blt js.length f = true → anc md ops i f t = true
  | [], t, 0, _, hl => by simp at hl
  | [], t, f + 1, h, _ => by
    unfold pathB at h
    unfold anc
    cases ho : ops[t]? with
    | none => rw [ho] at h; cases h
    | some o =>
      rw [ho] at h
      obtain ⟨e, he, hb⟩ := Array.any_eq_true'.1 h
      simp only [Bool.and_eq_true, beq_iff_eq] at hb
      exact Array.any_eq_true'.2 ⟨e, he, by simp [hb.1, hb.2]⟩
  | j :: js, t, 0, _, hl => by simp at hl
  | j :: js, t, f + 1, h, hl => by
    unfold pathB at h
    unfold anc
    cases ho : ops[t]? with
    | none => rw [ho] at h; cases h
    | some o =>
      rw [ho] at h
      simp only [Bool.and_eq_true] at h
      obtain ⟨e, he, hb⟩ := Array.any_eq_true'.1 h.1
      simp only [Bool.and_eq_true, beq_iff_eq] at hb
      have hl' : Nat.blt js.length f = true := by
        have := Nat.le_of_ble_eq_true hl
        simp only [List.length_cons] at this
        exact Nat.ble_eq_true_of_le (by omega)
      exact Array.any_eq_true'.2 ⟨e, he, by simp [hb.1, hb.2, anc_path js j f h.2 hl']⟩
end
end Go.Proofs.YtpflnmejbialjaaGreatDoor

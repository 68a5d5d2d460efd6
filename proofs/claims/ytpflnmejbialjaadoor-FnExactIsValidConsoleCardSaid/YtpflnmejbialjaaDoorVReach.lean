/- Lemmas. -/
import Derived.Test.YtpflnmejbialjaaDoorVClear
import Derived.Test.YtpflnmejbialjaaDoorVRd
import Derived.Test.YtpflnmejbialjaaDoorVMkr
import Derived.Test.YtpflnmejbialjaaDoorVInc
import Derived.Deep.DeepCutAuto
import Derived.Test.YtpflnmejbialjaaDoorVVoc
/-
  NewIncident.
-/
namespace Go.Proofs.YtpflnmejbialjaaDoor
set_option linter.unusedSimpArgs false
set_option linter.unusedVariables false
open Go.RowKit

structure IncI where
  W : Int
  H : Int
  xs : List Int
  fs : List Int
  ws : List Int
  t : Int
def IncI.zero : IncI := ⟨0, 0, [], [], [], 0⟩
end Go.Proofs.YtpflnmejbialjaaDoor

namespace Go.Proofs.YtpflnmejbialjaaDoor
set_option linter.unusedSimpArgs false
set_option linter.unusedVariables false
/-- cells that are reached in k steps from sources, over cells that burn -/
def rK (n : Nat) (near : Nat → Nat → Bool) (burn src : Nat → Bool) : Nat → Nat → Prop
  | 0, c => c < n ∧ src c = true ∧ burn c = true
  | k + 1, c => rK n near burn src k c ∨ (c < n ∧ burn c = true ∧ ∃ d, rK n near burn src k d ∧ near d c = true)
def Reach (n : Nat) (near : Nat → Nat → Bool) (burn src : Nat → Bool) (c : Nat) : Prop := ∃ k, rK n near burn src k c
section
variable {n : Nat} {near : Nat → Nat → Bool} {burn src : Nat → Bool}
theorem Reach.base {c : Nat} (h : c < n) (hs : src c = true) (hb : burn c = true) : Reach n near burn src c := ⟨0, h, hs, hb⟩
theorem Reach.step {d c : Nat} (hd : Reach n near burn src d) (h : c < n) (hb : burn c = true) (hn : near d c = true) : Reach n near burn src c := by
  obtain ⟨k, hk⟩ := hd
  exact ⟨k + 1, .inr ⟨h, hb, d, hk, hn⟩⟩
theorem Reach.least {T : Nat → Prop} (h0 : ∀ c, c < n → src c = true → burn c = true → T c) (h1 : ∀ d c, T d → c < n → burn c = true → near d c = true → T c) {c : Nat} (h : Reach n near burn src c) : T c := by
  obtain ⟨k, hk⟩ := h
  induction k generalizing c with
  | zero => exact h0 c hk.1 hk.2.1 hk.2.2
  | succ k ih =>
    rcases hk with hk | ⟨hc, hb, d, hd, hn⟩
    · exact ih hk
    · exact h1 d c (ih hd) hc hb hn
theorem Reach.lt {c : Nat} (h : Reach n near burn src c) : c < n ∧ burn c = true :=
  h.least (T := fun c => c < n ∧ burn c = true) (fun _ h1 _ h3 => ⟨h1, h3⟩) (fun _ _ _ h1 h2 _ => ⟨h1, h2⟩)
end
noncomputable def reachB (n : Nat) (near : Nat → Nat → Bool) (burn src : Nat → Bool) (c : Nat) : Bool := @decide (Reach n near burn src c) (Classical.propDecidable _)
theorem reachB_iff {n : Nat} {near : Nat → Nat → Bool} {burn src : Nat → Bool} {c : Nat} : reachB n near burn src c = true ↔ Reach n near burn src c := by
  unfold reachB
  exact @decide_eq_true_iff _ (Classical.propDecidable _)
end Go.Proofs.YtpflnmejbialjaaDoor

/-
  Distances and neighbors; cells that fulfil a condition; lists filtered.
-/
import Derived.Test.YtpflnmejbialjaaGreatDoorVClear
import Derived.Test.YtpflnmejbialjaaGreatDoorVRd
import Derived.Test.YtpflnmejbialjaaGreatDoorVMkr
import Derived.Test.YtpflnmejbialjaaGreatDoorVInc
import Derived.Deep.DeepCutAuto
import Derived.Test.YtpflnmejbialjaaGreatDoorVVoc
import Derived.Test.YtpflnmejbialjaaGreatDoorVMir
/-
  NewIncident.
-/
namespace Go.Proofs.YtpflnmejbialjaaGreatDoor
set_option linter.unusedSimpArgs false
set_option linter.unusedVariables false
open Go.RowKit

structure IncI where
  W : Int
  H : Int
  xs : List Int
  fs : List Int
  ws : List Int
  t : Int
def IncI.zero : IncI := ⟨0, 0, [], [], [], 0⟩
end Go.Proofs.YtpflnmejbialjaaGreatDoor

namespace Go.Proofs.YtpflnmejbialjaaGreatDoor
set_option linter.unusedSimpArgs false
set_option linter.unusedVariables false
/-- cells that are reached in k steps from sources, over cells that burn -/
def rK (n : Nat) (near : Nat → Nat → Bool) (burn src : Nat → Bool) : Nat → Nat → Prop
  | 0, c => c < n ∧ src c = true ∧ burn c = true
  | k + 1, c => rK n near burn src k c ∨ (c < n ∧ burn c = true ∧ ∃ d, rK n near burn src k d ∧ near d c = true)
def Reach (n : Nat) (near : Nat → Nat → Bool) (burn src : Nat → Bool) (c : Nat) : Prop := ∃ k, rK n near burn src k c
section
variable {n : Nat} {near : Nat → Nat → Bool} {burn src : Nat → Bool}
theorem Reach.base {c : Nat} (h : c < n) (hs : src c = true) (hb : burn c = true) : Reach n near burn src c := ⟨0, h, hs, hb⟩
theorem Reach.step {d c : Nat} (hd : Reach n near burn src d) (h : c < n) (hb : burn c = true) (hn : near d c = true) : Reach n near burn src c := by
  obtain ⟨k, hk⟩ := hd
  exact ⟨k + 1, .inr ⟨h, hb, d, hk, hn⟩⟩
theorem Reach.least {T : Nat → Prop} (h0 : ∀ c, c < n → src c = true → burn c = true → T c) (h1 : ∀ d c, T d → c < n → burn c = true → near d c = true → T c) {c : Nat} (h : Reach n near burn src c) : T c := by
  obtain ⟨k, hk⟩ := h
  induction k generalizing c with
  | zero => exact h0 c hk.1 hk.2.1 hk.2.2
  | succ k ih =>
    rcases hk with hk | ⟨hc, hb, d, hd, hn⟩
    · exact ih hk
    · exact h1 d c (ih hd) hc hb hn
theorem Reach.lt {c : Nat} (h : Reach n near burn src c) : c < n ∧ burn c = true :=
  h.least (T := fun c => c < n ∧ burn c = true) (fun _ h1 _ h3 => ⟨h1, h3⟩) (fun _ _ _ h1 h2 _ => ⟨h1, h2⟩)
end
noncomputable def reachB (n : Nat) (near : Nat → Nat → Bool) (burn src : Nat → Bool) (c : Nat) : Bool := @decide (Reach n near burn src c) (Classical.propDecidable _)
theorem reachB_iff {n : Nat} {near : Nat → Nat → Bool} {burn src : Nat → Bool} {c : Nat} : reachB n near burn src c = true ↔ Reach n near burn src c := by
  unfold reachB
  exact @decide_eq_true_iff _ (Classical.propDecidable _)
/-- strictly ascending lists with the same elements are the same -/
theorem asc_ext : ∀ {xs ys : List Int}, xs.Pairwise (· < ·) → ys.Pairwise (· < ·) → (∀ x, x ∈ xs ↔ x ∈ ys) → xs = ys
  | [], [], _, _, _ => rfl
  | [], y :: ys, _, _, h => by have := (h y).2 (by simp); simp at this
  | x :: xs, [], _, _, h => by have := (h x).1 (by simp); simp at this
  | x :: xs, y :: ys, hx, hy, h => by
    obtain ⟨hx1, hx2⟩ := List.pairwise_cons.1 hx
    obtain ⟨hy1, hy2⟩ := List.pairwise_cons.1 hy
    have e : x = y := by
      have h1 := (h x).1 (by simp)
      have h2 := (h y).2 (by simp)
      rcases List.mem_cons.1 h1 with h1 | h1
      · exact h1
      · rcases List.mem_cons.1 h2 with h2 | h2
        · exact h2.symm
        · have := hx1 y h2
          have := hy1 x h1
          omega
    subst e
    rw [asc_ext hx2 hy2 (fun z => ?_)]
    constructor
    · intro hz
      rcases List.mem_cons.1 ((h z).1 (by simp [hz])) with rfl | h3
      · have := hx1 z hz; omega
      · exact h3
    · intro hz
      rcases List.mem_cons.1 ((h z).2 (by simp [hz])) with rfl | h3
      · have := hy1 z hz; omega
      · exact h3
end Go.Proofs.YtpflnmejbialjaaGreatDoor

/-
  Distances and neighbors; cells that fulfil a condition; lists filtered.
-/
namespace Go.Proofs.YtpflnmejbialjaaGreatDoor
set_option linter.unusedSimpArgs false
set_option linter.unusedVariables false
open Go.RowKit

/-- the cells below n with p, as numbers -/
def cellsN (n : Nat) (p : Nat → Bool) : List Int := ((List.range n).filter p).map Int.ofNat
theorem cellsN_mem {n : Nat} {p : Nat → Bool} {x : Int} : x ∈ cellsN n p ↔ ∃ c : Nat, x = c ∧ c < n ∧ p c = true := by
  unfold cellsN
  simp only [List.mem_map, List.mem_filter, List.mem_range]
  constructor
  · rintro ⟨c, ⟨h1, h2⟩, rfl⟩; exact ⟨c, rfl, h1, h2⟩
  · rintro ⟨c, rfl, h1, h2⟩; exact ⟨c, ⟨h1, h2⟩, rfl⟩
theorem cellsN_asc (n : Nat) (p : Nat → Bool) : (cellsN n p).Pairwise (· < ·) := by
  unfold cellsN
  rw [List.pairwise_map]
  refine List.Pairwise.imp ?_ (List.Pairwise.filter _ List.pairwise_lt_range)
  intro a b h
  exact Int.ofNat_lt.2 h
end Go.Proofs.YtpflnmejbialjaaGreatDoor

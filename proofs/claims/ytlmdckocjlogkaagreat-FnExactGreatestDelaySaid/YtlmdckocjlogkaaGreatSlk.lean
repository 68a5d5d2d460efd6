/-
  Slacks: the pure part.
-/
import Derived.Test.YtlmdckocjlogkaaGreatArrP
import Derived.Test.YtlmdckocjlogkaaGreatCutP
namespace Go.Proofs.YtlmdckocjlogkaaGreat
set_option linter.unusedSimpArgs false
set_option linter.unusedVariables false
open Go.RowKit

theorem least_nat {P : Nat → Prop} (h : ∃ n, P n) : ∃ n, P n ∧ ∀ m, P m → n ≤ m := by
  obtain ⟨n, hn⟩ := h
  induction n using Nat.strongRecOn with
  | ind n ih =>
    by_cases hq : ∃ m, m < n ∧ P m
    · obtain ⟨m, hm, hp⟩ := hq
      exact ih m hm hp
    · exact ⟨n, hn, fun m hm => Nat.le_of_not_lt (fun hlt => hq ⟨m, hlt, hm⟩)⟩
section
variable {W n : Nat} {xs ss : List Int} {l : List PhaseI} {start : Int}
theorem arr_pos (hst : 0 ≤ start) {c : Nat} {t : Int} (h : Arr n (nearN W) (brn xs) (fun c => hasI ss c) start (donI W xs l) c t) : 0 ≤ t :=
  Arr.least (T := fun _ t => 0 ≤ t) (fun _ _ _ _ => hst) (fun d c t ht _ _ _ => Int.le_trans ht (donI_ge d c t)) h
theorem arr_lt {c : Nat} {t : Int} (h : Arr n (nearN W) (brn xs) (fun c => hasI ss c) start (donI W xs l) c t) : c < n :=
  Arr.least (T := fun c _ => c < n) (fun _ h _ _ => h) (fun _ _ _ _ h _ _ => h) h
theorem arrT_is (hst : 0 ≤ start) : IsTI W n xs ss l start (arrT W n xs ss l start) := by
  classical
  have hex : ∀ c, ∃ v : Int, (c < n → v = -1 ∨ (0 ≤ v ∧ Arr n (nearN W) (brn xs) (fun c => hasI ss c) start (donI W xs l) c v)) ∧ ∀ t, Arr n (nearN W) (brn xs) (fun c => hasI ss c) start (donI W xs l) c t → v ≠ -1 ∧ v ≤ t := by
    intro c
    by_cases h : ∃ t : Nat, Arr n (nearN W) (brn xs) (fun c => hasI ss c) start (donI W xs l) c (t : Int)
    · obtain ⟨m, hm, hl⟩ := least_nat h
      refine ⟨m, fun _ => .inr ⟨by omega, hm⟩, fun t ht => ?_⟩
      obtain ⟨q, rfl⟩ := Int.eq_ofNat_of_zero_le (arr_pos hst ht)
      have := hl q ht
      exact ⟨by omega, by omega⟩
    · refine ⟨-1, fun _ => .inl rfl, fun t ht => ?_⟩
      obtain ⟨q, rfl⟩ := Int.eq_ofNat_of_zero_le (arr_pos hst ht)
      exact absurd ⟨q, ht⟩ h
  obtain ⟨f, hf⟩ := Classical.axiomOfChoice hex
  have hg : ∀ c, c < n → ((List.range n).map f).getD c 0 = f c := fun c hc => by simp [List.getD, hc]
  have hi : IsTI W n xs ss l start ((List.range n).map f) := by
    refine ⟨by simp, fun c hc => ?_, fun c t h => ?_⟩
    · rw [hg c hc]
      exact (hf c).1 hc
    · rw [hg c (arr_lt h)]
      exact (hf c).2 t h
  exact @Classical.epsilon_spec _ (IsTI W n xs ss l start) ⟨_, hi⟩
theorem arrT_len (hst : 0 ≤ start) : (arrT W n xs ss l start).length = n := (arrT_is hst).len
theorem arrT_ge (hst : 0 ≤ start) {c : Nat} (hc : c < n) : -1 ≤ (arrT W n xs ss l start).getD c 0 := by
  rcases (arrT_is (W := W) (xs := xs) (ss := ss) (l := l) hst).is c hc with h | h
  · omega
  · omega
end

/-- the slack of a cut -/
def slk (ts : List Int) (c : CutI) : Int := if ts.getD c.cell.toNat 0 = -1 then 9999 else ts.getD c.cell.toNat 0 - c.tick
theorem slk_take {ts : List Int} {l : List CutI} {k : Nat} (hk : k < l.length) : (l.map (slk ts)).take (k + 1) = (l.map (slk ts)).take k ++ [slk ts (l.getD k CutI.zero)] := by
  rw [← List.map_take, ← List.map_take, take_succV (z := CutI.zero) hk, List.map_append]
  rfl

end Go.Proofs.YtlmdckocjlogkaaGreat

/-
  What the law on neighbors asks, of the pure results.
-/
import Derived.Test.YtkohfegajcmdbaaNbr2
namespace Go.Proofs.Ytkohfegajcmdbaa
set_option linter.unusedSimpArgs false
set_option linter.unusedVariables false
open Go.RowKit

theorem nbr_at {W H d : Int} {xs ns : List Int} {v : Bool} (h : nbrR W H xs d = (ns, v)) {k : Nat} (hk : k < ns.length) : ∃ (x : Int) (cs : List Int), ns.getD k 0 = x ∧ (0 ≤ x ∧ x ≤ 24) ∧ nbrR W H xs x = (cs, true) ∧ hasV cs d = true ∧ stepR W H xs d x = (1, true) := by
  unfold nbrR at h
  split at h
  · rename_i hc
    rw [Bool.and_eq_true] at hc
    obtain ⟨Wn, Hn, rfl, rfl, p1, p2, p3, p4, hlen, h25, hall⟩ := goodB_true hc.1
    obtain ⟨d0, d1⟩ := inB_true hc.2
    obtain ⟨dn, rfl⟩ := Int.eq_ofNat_of_zero_le d0
    injection h with h1 h2
    simp only [Int.toNat_natCast] at h1
    subst h1
    obtain ⟨c, e1, e2, e3, e4⟩ := near_at (W := Wn) (n := xs.length) (d := dn) (by omega) hk
    have hcb : inB (c : Int) 0 ((xs.length : Int) - 1) = true := by unfold inB; exact decide_eq_true (by omega)
    refine ⟨c, cellsN xs.length (nearN Wn c), e1, by omega, ?_, e4, ?_⟩
    · unfold nbrR
      rw [hc.1, hcb]
      rfl
    · unfold stepR
      rw [hc.1, hc.2, hcb]
      show (apI (Wn : Int).toNat (dn : Int).toNat (c : Int).toNat, true) = _
      simp only [Int.toNat_natCast, e3]
  · injection h with h1 h2
    subst h1
    cases hk
theorem step_ok {W H a b s : Int} {xs : List Int} (h : stepR W H xs a b = (s, true)) : stepR W H xs b a = (s, true) ∧ (∃ c d, stepR W H xs a 0 = (c, true) ∧ stepR W H xs 0 b = (d, true) ∧ s ≤ c + d ∧ (0 ≤ c ∧ c ≤ 1000) ∧ (0 ≤ d ∧ d ≤ 1000)) ∧ (s == 0) = (a == b) := by
  unfold stepR at h
  split at h
  · rename_i hc
    simp only [Bool.and_eq_true] at hc
    obtain ⟨⟨hg, ha⟩, hb⟩ := hc
    obtain ⟨Wn, Hn, rfl, rfl, p1, p2, p3, p4, hlen, h25, hall⟩ := goodB_true hg
    obtain ⟨a0, a1⟩ := inB_true ha
    obtain ⟨an, rfl⟩ := Int.eq_ofNat_of_zero_le a0
    obtain ⟨b0, b1⟩ := inB_true hb
    obtain ⟨bn, rfl⟩ := Int.eq_ofNat_of_zero_le b0
    injection h with h1 h2
    simp only [Int.toNat_natCast] at h1
    have hz : inB 0 0 ((xs.length : Int) - 1) = true := by unfold inB; exact decide_eq_true (by omega)
    have hS : ∀ u v : Nat, inB (u : Int) 0 ((xs.length : Int) - 1) = true → inB (v : Int) 0 ((xs.length : Int) - 1) = true → stepR Wn Hn xs u v = (apI Wn u v, true) := fun u v hu hv => by
      unfold stepR
      rw [hg, hu, hv]
      rfl
    refine ⟨by rw [hS bn an hb ha, apI_symm, h1], ⟨apI Wn an 0, apI Wn 0 bn, hS an 0 ha hz, hS 0 bn hz hb, ?_, apI_bound (by omega) (by omega), apI_bound (by omega) (by omega)⟩, ?_⟩
    · rw [← h1]
      exact apI_tri Wn an bn 0
    · rw [← h1, Bool.eq_iff_iff, beq_iff_eq, beq_iff_eq, apI_zero]
      exact ⟨fun h => by rw [h], fun h => by omega⟩
  · cases h
theorem reach_ok {W H : Int} {xs cs rs : List Int} (h : reachR W H xs cs = (rs, true)) : ∃ bs, burnR W H xs = (bs, true) ∧ reachR W H xs rs = (rs, true) ∧ withinV rs bs = true ∧ ∀ k, k < bs.length → ∃ (x : Int) (ns : List Int), bs.getD k 0 = x ∧ nbrR W H xs x = (ns, true) ∧ hasV rs x = (hasV cs x || ns.any (hasV rs)) := by
  unfold reachR at h
  split at h
  · rename_i hc
    rw [Bool.and_eq_true] at hc
    obtain ⟨Wn, Hn, rfl, rfl, p1, p2, p3, p4, hlen, h25, hall⟩ := goodB_true hc.1
    injection h with h1 h2
    simp only [Int.toNat_natCast] at h1
    subst h1
    refine ⟨cellsN xs.length (brn xs), by unfold burnR; rw [hc.1]; rfl, ?_, reachL_burn _ _ _ _, fun k hk => ?_⟩
    · unfold reachR
      have hs : setB xs.length (reachL Wn xs.length xs (fun k => hasI cs k)) = true := setB_cells _ _
      rw [hc.1, hs]
      simp only [Bool.and_self, if_true, Int.toNat_natCast, reachL_again]
    · obtain ⟨c, e1, e2, e3⟩ := cellsN_mem.1 (getD_mem hk)
      have hcb : inB (c : Int) 0 ((xs.length : Int) - 1) = true := by unfold inB; exact decide_eq_true (by omega)
      refine ⟨c, cellsN xs.length (nearN Wn c), e1, by unfold nbrR; rw [hc.1, hcb]; rfl, ?_⟩
      exact reach_next e2 e3
  · cases h
end Go.Proofs.Ytkohfegajcmdbaa

/-
  Plain laws for the counts of fires.
-/
import Derived.Test.YtdhgkfmehegeoaaLargestX
import Derived.Test.YtdhgkfmehegeoaaFewest
import Derived.Test.YtdhgkfmehegeoaaBusy
namespace Go.Proofs.Ytdhgkfmehegeoaa
set_option linter.unusedSimpArgs false
set_option linter.unusedVariables false
open Go.RowKit

theorem few_facts {xs : List FireI} {p : Int} (hs : seasonB xs = true) (hp : p ≤ 100) : fewN xs p ≤ xs.length ∧ p * sumH xs ≤ 100 * prefH xs (fewN xs p) ∧ ∀ m, m < fewN xs p → 100 * prefH xs m < p * sumH xs := by
  obtain ⟨v15, vall⟩ := seasonB_true hs
  have hb := (sumH_bound vall).1
  have hx : ∃ m ∈ List.range (xs.length + 1), enoughB xs p m = true :=
    ⟨xs.length, List.mem_range.2 (by omega), by
      unfold enoughB
      rw [prefH_all]
      exact decide_eq_true (Int.mul_le_mul_of_nonneg_right hp hb)⟩
  have hlt : fewN xs p < (List.range (xs.length + 1)).length := List.findIdx_lt_length_of_exists hx
  have h1 : enoughB xs p ((List.range (xs.length + 1))[fewN xs p]) = true := List.findIdx_getElem (w := hlt)
  rw [List.getElem_range] at h1
  refine ⟨by simp at hlt; omega, of_decide_eq_true h1, fun m hm => ?_⟩
  have h2 := List.not_of_lt_findIdx (p := enoughB xs p) (xs := List.range (xs.length + 1)) hm
  rw [List.getElem_range] at h2
  unfold enoughB at h2
  simp at h2
  omega
def lastH (xs : List FireI) : Nat → Int
  | 0 => 0
  | m + 1 => hAt xs ((largeL xs).getD m 0)
theorem few_ok {xs : List FireI} {p v : Int} (h : fewestR xs p = ⟨v, true⟩) : ∃ n : Nat, v = n ∧ n ≤ xs.length ∧ xs.length ≤ 15 ∧ (∀ x ∈ xs, fireB x = true) ∧ largestR xs n = ⟨(largeL xs).take n, true⟩ ∧ p * sumH xs ≤ 100 * prefH xs n ∧ (0 < n → 100 * (prefH xs n - lastH xs n) < p * sumH xs) ∧ 0 ≤ p ∧ p ≤ 100 := by
  unfold fewestR at h
  split at h
  · rename_i hc
    rw [Bool.and_eq_true] at hc
    obtain ⟨p0, p1⟩ := inB_true hc.2
    obtain ⟨v15, vall⟩ := seasonB_true hc.1
    obtain ⟨h1, h2, h3⟩ := few_facts hc.1 p1
    injection h with h4 h5
    refine ⟨fewN xs p, h4.symm, h1, v15, vall, ?_, h2, fun hn => ?_, p0, p1⟩
    · have : inB ((fewN xs p : Nat) : Int) 0 15 = true := by unfold inB; exact decide_eq_true (by omega)
      unfold largestR
      rw [hc.1, this]
      simp
    · obtain ⟨m, hm⟩ : ∃ m, fewN xs p = m + 1 := ⟨fewN xs p - 1, by omega⟩
      have h6 := h3 m (by omega)
      rw [hm] at h1 ⊢
      rw [prefH_succ (by omega)]
      show 100 * (prefH xs m + hAt xs ((largeL xs).getD m 0) - hAt xs ((largeL xs).getD m 0)) < _
      rw [Int.add_sub_cancel]
      exact h6
  · cases h
theorem large_at {xs : List FireI} {m n : Nat} (hm : m < n) (hn : n ≤ xs.length) : ∃ v : Nat, ((largeL xs).take n).getD m 0 = (v : Int) ∧ v < xs.length ∧ lastH xs (m + 1) = (xs.getD v FireI.zero).hect := by
  have h1 := outS_mem (gtH xs) xs.length _ (getD_mem (xs := largeL xs) (k := m) (by rw [largeL_length]; omega))
  have h2 : ((largeL xs).take n).getD m 0 = (largeL xs).getD m 0 := by
    rw [List.getD_eq_getElem?_getD, List.getD_eq_getElem?_getD, List.getElem?_take, if_pos hm]
  refine ⟨((largeL xs).getD m 0).toNat, by rw [h2]; omega, by omega, rfl⟩
theorem weekI_eq (xs : List FireI) : ∀ d : Nat, (weekI xs d).2 = 0 ∨ (weekI xs d).2 = cntW xs (weekI xs d).1
  | 0 => .inl rfl
  | d + 1 => by
    simp only [weekI]
    split
    · exact .inr rfl
    · exact weekI_eq xs d
theorem weekI_max (xs : List FireI) : ∀ (d e : Nat), e < d → cntW xs e ≤ (weekI xs d).2
  | 0, e, h => by omega
  | d + 1, e, h => by
    simp only [weekI]
    by_cases he : e = d
    · subst he
      split
      · exact Int.le_refl _
      · omega
    · have := weekI_max xs d e (by omega)
      split
      · dsimp only; omega
      · exact this
def inWk (d : Int) (x : FireI) : Bool := decide (d ≤ x.day ∧ x.day < d + 7)
theorem busy_ok {xs : List FireI} {d m : Int} (h : busyR xs = ⟨d, m, true⟩) : 1 ≤ m ∧ ((xs.filter (inWk d)).length : Int) = m ∧ 0 ≤ d ∧ d ≤ 359 ∧ m ≤ 15 ∧ xs.length ≤ 15 ∧ (∀ x ∈ xs, fireB x = true) := by
  unfold busyR at h
  split at h
  · rename_i hc
    rw [Bool.and_eq_true] at hc
    obtain ⟨v15, vall⟩ := seasonB_true hc.1
    have hne : xs ≠ [] := by
      rintro rfl
      simp at hc
    injection h with h1 h2
    have hb := weekI_bound xs 359
    obtain ⟨x, hx⟩ := List.exists_mem_of_ne_nil xs hne
    obtain ⟨x0, x1⟩ := (fireB_true (vall x hx)).1
    have hpos : 1 ≤ (weekI xs 359).2 := by
      have h3 := weekI_max xs 359 (if x.day.toNat < 358 then x.day.toNat else 358) (by split <;> omega)
      have h4 : x ∈ xs.filter (inWeek ((if x.day.toNat < 358 then x.day.toNat else 358 : Nat) : Int)) := by
        refine List.mem_filter.2 ⟨hx, ?_⟩
        unfold inWeek inB
        refine decide_eq_true ?_
        split <;> omega
      have h5 := List.length_pos_of_mem h4
      unfold cntW at h3
      omega
    have h6 := weekI_eq xs 359
    rw [h1] at hb h6
    rw [h2] at hb hpos h6
    rw [← cntM_week] at h6
    refine ⟨hpos, ?_, hb.1, hb.2.1, by omega, v15, vall⟩
    rcases h6 with h6 | h6
    · omega
    · exact h6.symm
  · cases h
theorem filter_succ {xs : List FireI} (q : FireI → Bool) {k : Nat} (hk : k < xs.length) : ((xs.take (k + 1)).filter q).length = ((xs.take k).filter q).length + (if q (xs.getD k FireI.zero) then 1 else 0) := by
  rw [take_succV (z := FireI.zero) hk, List.filter_append, List.length_append]
  congr 1
  simp only [List.filter_cons, List.filter_nil]
  split <;> rfl
end Go.Proofs.Ytdhgkfmehegeoaa

/-
  What the search of BestLine finds: plain Lean.
-/
import Derived.Test.YtbgegmignhghnaaBFlowG
import Derived.Test.YtbgegmignhghnaaBFlowQ
/-
  What the search of BestLine finds: plain Lean.
-/
namespace Go.Proofs.Ytbgegmignhghnaa
set_option linter.unusedSimpArgs false
set_option linter.unusedVariables false
open Go.RowKit

theorem least_of {Q : Nat → Prop} : ∀ m, Q m → ∃ k, Q k ∧ ∀ j, Q j → k ≤ j := by
  intro m
  induction m using Nat.strongRecOn with
  | ind m ih =>
    intro hm
    by_cases e : ∃ j, j < m ∧ Q j
    · obtain ⟨j, h1, h2⟩ := e
      exact ih j h1 h2
    · exact ⟨m, hm, fun j hj => Nat.le_of_not_lt (fun h => e ⟨j, h, hj⟩)⟩
section
variable {n : Nat} {near : Nat → Nat → Bool} {burn src snk C : Nat → Bool}
theorem few_of (h : LineP n near burn src snk C) : ∃ k : Nat, Few n near burn src snk k := by
  obtain ⟨k, ⟨D, h1, h2⟩, h3⟩ := least_of (Q := fun m : Nat => ∃ D, LineP n near burn src snk D ∧ cntN n D = (m : Int)) (cellsN n C).length ⟨C, h, (cnt_cells C n).symm⟩
  refine ⟨k, ⟨D, h1, h2⟩, fun D' h' => ?_⟩
  have h4 := h3 _ ⟨D', h', (cnt_cells D' n).symm⟩
  rw [← cnt_cells D' n]
  omega
/-- where no source stands beside an asset all free cells are a line -/
theorem free_line (hdis : ∀ c, c < n → src c = true → snk c = false) (hop : ∀ c d, c < n → d < n → src c = true → burn c = true → snk d = true → burn d = true → near c d = false) : LineP n near burn src snk (freeP burn src snk) := by
  refine ⟨fun c _ h => h, fun c hc hs hr => ?_⟩
  have h1 : c < n ∧ src c = true ∧ burn c = true := by
    refine hr.least (T := fun c => c < n ∧ src c = true ∧ burn c = true) (fun c h1 h2 h3 => ⟨h1, h2, by simp at h3; exact h3.1⟩) (fun d c h1 h2 h3 h4 => ?_)
    rw [Bool.and_eq_true, Bool.not_eq_true'] at h3
    refine ⟨h2, ?_, h3.1⟩
    cases e : src c
    · cases e2 : snk c
      · have := freeP_iff.2 ⟨h3.1, e, e2⟩
        rw [this] at h3
        cases h3.2
      · rw [hop d c h1.1 h2 h1.2.1 h1.2.2 e2 h3.1] at h4
        cases h4
    · rfl
  have := hdis c h1.1 h1.2.1
  rw [hs] at this
  cases this
end
section
variable {W Hn n : Nat} {xs ss ts : List Int}
theorem best_found {s : Nat} {r : List Int} (hs3 : s ≤ 3) (hc : caseB W Hn xs xs.length ss ts = true) (hr : extL W xs.length xs ss ts s [] 0 = some r) (hl : ∀ j, j < s → extL W xs.length xs ss ts j [] 0 = none) : bestR W Hn xs ss ts = ⟨r, true⟩ := by
  obtain ⟨Wn, Hm, e1, e2, hnp, hn25, hW, hxs, hs, ht, hd⟩ := best_case hc
  obtain rfl : W = Wn := by omega
  obtain ⟨h4, h5, h6⟩ := extL_line s [] r (setB_iff.2 ⟨List.Pairwise.nil, by simp⟩) hr
  have ho := line_open h4 hs ht h6
  obtain ⟨k, hk⟩ := few_of ((lineB_iff h4 ht).1 h6)
  have hk1 := few_le hk h4 ht h6
  rw [h5] at hk1
  have hk2 := few_ext hk ht
  have hks : k = s := by
    by_cases e : k < s
    · rw [hl k e] at hk2
      cases hk2
    · simp at hk1; omega
  subst hks
  have hv := fewV_of (show FewT W xs.length xs ss ts k from hk)
  rw [bestR, hc, Int.toNat_natCast, ho, hv, if_pos (by simp; omega), Int.toNat_natCast, hr]
  rfl
theorem best_none (hl : ∀ j, j < 4 → extL W xs.length xs ss ts j [] 0 = none) : bestR W Hn xs ss ts = ⟨[], false⟩ := by
  rw [bestR, Int.toNat_natCast]
  rw [if_neg]
  intro h
  rw [Bool.and_eq_true, Bool.and_eq_true, Bool.not_eq_true', decide_eq_true_eq] at h
  obtain ⟨⟨hc, ho⟩, hv⟩ := h
  obtain ⟨Wn, Hm, e1, e2, hnp, hn25, hW, hxs, hs, ht, hd⟩ := best_case hc
  obtain ⟨k, hk⟩ := few_of (free_line (n := xs.length) (near := nearN W) (burn := brn xs) (src := fun k => hasI ss (k : Nat)) (snk := fun k => hasI ts (k : Nat)) (fun c _ h1 => hd _ (hasI_iff.1 h1)) (open_no ho))
  have hk2 := few_ext (show FewT W xs.length xs ss ts k from hk) ht
  rw [fewV_of (show FewT W xs.length xs ss ts k from hk)] at hv
  rw [hl k (by omega)] at hk2
  cases hk2
end
end Go.Proofs.Ytbgegmignhghnaa

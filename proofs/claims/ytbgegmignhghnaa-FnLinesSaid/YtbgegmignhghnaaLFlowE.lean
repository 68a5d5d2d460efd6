/-
  Lines as lists, and the search for the smallest: plain Lean.
-/
import Derived.Test.YtbgegmignhghnaaLFlowL
/-
  Lines as lists, and the search for the smallest: plain Lean.
-/
namespace Go.Proofs.Ytbgegmignhghnaa
set_option linter.unusedSimpArgs false
set_option linter.unusedVariables false
open Go.RowKit

theorem clrL_get : ∀ {cells xs : List Int}, (∀ x ∈ cells, 0 ≤ x) → ∀ c : Nat, (clrL xs cells).getD c 0 = if hasI cells c = true then 0 else xs.getD c 0
  | [], xs, _, c => by simp [clrL, hasI]
  | y :: cells, xs, h, c => by
    have h1 : clrL xs (y :: cells) = clrL (xs.set y.toNat 0) cells := rfl
    rw [h1, clrL_get (fun x hx => h x (by simp [hx])) c]
    have hy := h y (by simp)
    have h2 : hasI (y :: cells) c = (y == (c : Int) || hasI cells c) := rfl
    rw [h2]
    by_cases e : y = (c : Int)
    · subst e
      rw [beq_self_eq_true, Bool.true_or, if_pos rfl]
      split
      · rfl
      · rw [Int.toNat_natCast, List.getD_eq_getElem?_getD, List.getElem?_set]
        by_cases hl : c < xs.length <;> simp [hl]
    · have e2 : (y == (c : Int)) = false := by simpa using e
      rw [e2, Bool.false_or]
      split
      · rfl
      · rw [List.getD_eq_getElem?_getD, List.getD_eq_getElem?_getD, List.getElem?_set_ne (by omega)]
theorem Reach.congr {n : Nat} {near : Nat → Nat → Bool} {burn burn' src : Nat → Bool} (h : ∀ c, c < n → burn c = burn' c) {c : Nat} (hr : Reach n near burn src c) : Reach n near burn' src c :=
  hr.least (T := fun c => Reach n near burn' src c) (fun c h1 h2 h3 => Reach.base h1 h2 (by rw [← h c h1]; exact h3)) (fun d c hd hc hb hn => Reach.step hd hc (by rw [← h c hc]; exact hb) hn)
section
variable {W n : Nat} {xs ss ts line : List Int}
theorem lineB_iff (hl : setB n line = true) (ht : setB n ts = true) : lineB W n xs ss ts line = true ↔ LineP n (nearN W) (brn xs) (fun k => hasI ss (k : Nat)) (fun k => hasI ts (k : Nat)) (fun k => hasI line (k : Nat)) := by
  have hlm := (setB_iff.1 hl).2
  have htm := (setB_iff.1 ht).2
  have hb : ∀ c : Nat, brn (clrL xs line) c = (brn xs c && !hasI line c) := fun c => by
    unfold brn
    rw [clrL_get (fun x hx => (hlm x hx).1)]
    cases hasI line c <;> simp
  have hR : ∀ c, Reach n (nearN W) (brn (clrL xs line)) (fun k => hasI ss (k : Nat)) c ↔ Reach n (nearN W) (fun k => brn xs k && !hasI line (k : Nat)) (fun k => hasI ss (k : Nat)) c := fun c => ⟨Reach.congr (fun c _ => hb c), Reach.congr (fun c _ => (hb c).symm)⟩
  unfold lineB
  rw [Bool.and_eq_true, List.all_eq_true]
  constructor
  · rintro ⟨h1, h2⟩
    refine ⟨fun c hc hcl => ?_, fun c hc hct hr => ?_⟩
    · have := h1 _ (hasI_iff.1 hcl)
      rw [hasI_cells hc] at this
      exact this
    · unfold holdB at h2
      have h3 := List.all_eq_true.1 h2 _ (hasI_iff.1 hct)
      unfold reachL at h3
      rw [hasI_cells hc, reachB_iff.2 ((hR c).2 hr)] at h3
      cases h3
  · rintro ⟨h1, h2⟩
    refine ⟨fun x hx => ?_, ?_⟩
    · obtain ⟨x0, x1⟩ := hlm x hx
      obtain ⟨c, rfl⟩ := Int.eq_ofNat_of_zero_le x0
      rw [hasI_cells (by omega)]
      exact h1 c (by omega) (hasI_iff.2 hx)
    · unfold holdB
      rw [List.all_eq_true]
      intro x hx
      obtain ⟨x0, x1⟩ := htm x hx
      obtain ⟨c, rfl⟩ := Int.eq_ofNat_of_zero_le x0
      have hc : c < n := by omega
      unfold reachL
      rw [hasI_cells hc]
      cases e : reachB n (nearN W) (brn (clrL xs line)) (fun k => hasI ss (k : Nat)) c
      · rfl
      · exact absurd ((hR c).1 (reachB_iff.1 e)) (h2 c hc (hasI_iff.2 hx))
theorem cnt_cells (C : Nat → Bool) : ∀ n : Nat, ((cellsN n C).length : Int) = cntN n C
  | 0 => rfl
  | n + 1 => by
    rw [cellsN_succ, List.length_append]
    show _ = sumN n _ + ite _ _ _
    have := cnt_cells C n
    unfold cntN at this
    rw [← this]
    cases C n <;> simp
theorem setB_own (h : setB n line = true) : line = cellsN n (fun c => hasI line (c : Nat)) := by
  obtain ⟨h1, h2⟩ := setB_iff.1 h
  refine asc_ext h1 (cellsN_asc _ _) (fun x => ?_)
  rw [cellsN_mem]
  constructor
  · intro hx
    obtain ⟨x0, x1⟩ := h2 x hx
    obtain ⟨c, rfl⟩ := Int.eq_ofNat_of_zero_le x0
    exact ⟨c, rfl, by omega, hasI_iff.2 hx⟩
  · rintro ⟨c, rfl, _, hc⟩
    exact hasI_iff.1 hc
/-- no line is smaller -/
theorem few_le {v : Int} (hf : FewT W n xs ss ts v) (hl : setB n line = true) (ht : setB n ts = true) (hb : lineB W n xs ss ts line = true) : v ≤ line.length := by
  have h1 := hf.2 _ ((lineB_iff hl ht).1 hb)
  rw [← cnt_cells, ← setB_own hl] at h1
  exact h1
theorem few_line {v : Int} (hf : FewT W n xs ss ts v) (ht : setB n ts = true) : ∃ line, setB n line = true ∧ lineB W n xs ss ts line = true ∧ (line.length : Int) = v := by
  obtain ⟨⟨C, hC, hv⟩, -⟩ := hf
  have hs := setB_cells n C
  refine ⟨cellsN n C, hs, (lineB_iff hs ht).2 ⟨fun c hc h => hC.free c hc (by rw [hasI_cells hc] at h; exact h), fun c hc hct hr => hC.hold c hc hct (hr.congr (fun d hd => by rw [hasI_cells hd]))⟩, by rw [cnt_cells]; exact hv⟩
theorem lineB_free (hb : lineB W n xs ss ts line = true) : ∀ c : Nat, c < n → hasI line c = true → freeN xs ss ts c = true := by
  intro c hc h
  unfold lineB at hb
  rw [Bool.and_eq_true, List.all_eq_true] at hb
  have := hb.1 _ (hasI_iff.1 h)
  rw [hasI_cells hc] at this
  exact this
theorem extL_all : ∀ (k : Nat) (l begun : List Int) (f : Nat), l.length = k → l.Pairwise (· < ·) → (∀ x ∈ l, (f : Int) ≤ x ∧ x < n ∧ freeN xs ss ts x.toNat = true) → lineB W n xs ss ts (begun ++ l) = true → (extL W n xs ss ts k begun f).isSome = true
  | 0, l, begun, f, hl, _, _, hb => by
    obtain rfl := List.eq_nil_of_length_eq_zero hl
    rw [List.append_nil] at hb
    rw [extL, if_pos hb]
    rfl
  | k + 1, l, begun, f, hl, hp, ha, hb => by
    cases l with
    | nil => cases hl
    | cons y l =>
      obtain ⟨h1, h2, h3⟩ := ha y (by simp)
      obtain ⟨c, rfl⟩ := Int.eq_ofNat_of_zero_le (show 0 ≤ y by omega)
      rw [Int.toNat_natCast] at h3
      obtain ⟨hp1, hp2⟩ := List.pairwise_cons.1 hp
      have ih := extL_all k l (begun ++ [(c : Int)]) (c + 1) (by simpa using hl) hp2 (fun x hx => ⟨by have := hp1 x hx; omega, (ha x (by simp [hx])).2.1, (ha x (by simp [hx])).2.2⟩) (by rw [List.append_assoc]; exact hb)
      rw [extL, List.findSome?_isSome_iff]
      exact ⟨c, List.mem_filter.2 ⟨List.mem_range.2 (by omega), by rw [h3]; simp; omega⟩, ih⟩
theorem extL_line : ∀ (k : Nat) (begun : List Int) (r : List Int), setB n begun = true → extL W n xs ss ts k begun (fromL begun) = some r → setB n r = true ∧ r.length = begun.length + k ∧ lineB W n xs ss ts r = true
  | 0, begun, r, hs, h => by
    rw [extL] at h
    split at h
    · injection h with h
      subst h
      exact ⟨hs, rfl, by assumption⟩
    · cases h
  | k + 1, begun, r, hs, h => by
    rw [extL] at h
    obtain ⟨x, hx, h2⟩ := List.exists_of_findSome?_eq_some h
    rw [List.mem_filter, List.mem_range, Bool.and_eq_true, decide_eq_true_eq] at hx
    have h3 := setB_snoc hs hx.1 hx.2.1
    rw [← fromL_snoc (begun := begun) (x := x)] at h2
    obtain ⟨h4, h5, h6⟩ := extL_line k _ r h3 h2
    exact ⟨h4, by rw [h5, List.length_append, List.length_singleton]; omega, h6⟩
theorem few_ext {k : Nat} (hf : FewT W n xs ss ts k) (ht : setB n ts = true) : (extL W n xs ss ts k [] 0).isSome = true := by
  obtain ⟨line, h1, h2, h3⟩ := few_line hf ht
  obtain ⟨h4, h5⟩ := setB_iff.1 h1
  refine extL_all k line [] 0 (by omega) h4 (fun x hx => ?_) h2
  obtain ⟨x0, x1⟩ := h5 x hx
  obtain ⟨c, rfl⟩ := Int.eq_ofNat_of_zero_le x0
  exact ⟨by omega, by omega, by rw [Int.toNat_natCast]; exact lineB_free h2 c (by omega) (hasI_iff.2 hx)⟩
end
end Go.Proofs.Ytbgegmignhghnaa

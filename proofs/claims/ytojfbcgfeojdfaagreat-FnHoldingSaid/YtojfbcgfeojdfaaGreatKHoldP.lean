/-
  Holding: the pure part.
-/
import Derived.Test.YtojfbcgfeojdfaaGreatKLinesS
import Derived.Test.YtojfbcgfeojdfaaGreatKRise
/-
  Sets of cells: ascending lists.
-/
namespace Go.Proofs.YtojfbcgfeojdfaaGreat
set_option linter.unusedSimpArgs false
set_option linter.unusedVariables false
open Go.RowKit

theorem risesTo_iff {xs : List Int} : ∀ {k : Nat}, k ≤ xs.length → (risesTo xs k = true ↔ (xs.take k).Pairwise (· < ·))
  | 0, _ => by simp [risesTo]
  | k + 1, h => by
    have ih := risesTo_iff (xs := xs) (k := k) (by omega)
    rw [take_succ' (show k < xs.length by omega), List.pairwise_append]
    simp only [risesTo, Bool.and_eq_true, Bool.or_eq_true, beq_iff_eq, decide_eq_true_eq, ih]
    constructor
    · rintro ⟨h1, h2⟩
      refine ⟨h1, List.pairwise_singleton _ _, fun a ha b hb => ?_⟩
      obtain rfl : b = xs.getD k 0 := by simpa using hb
      cases k with
      | zero => simp at ha
      | succ j =>
        rw [take_succ' (show j < xs.length by omega)] at ha h1
        have h3 : xs.getD j 0 < xs.getD (j + 1) 0 := by
          rcases h2 with h2 | h2
          · omega
          · simpa using h2
        rcases List.mem_append.1 ha with ha | ha
        · have := (List.pairwise_append.1 h1).2.2 a ha (xs.getD j 0) (by simp)
          omega
        · obtain rfl : a = xs.getD j 0 := by simpa using ha
          exact h3
    · rintro ⟨h1, _, h2⟩
      refine ⟨h1, ?_⟩
      cases k with
      | zero => exact .inl rfl
      | succ j =>
        refine .inr ?_
        have := h2 (xs.getD j 0) (by rw [take_succ' (show j < xs.length by omega)]; simp) (xs.getD (j + 1) 0) (by simp)
        simpa using this
theorem setB_iff {n : Nat} {xs : List Int} : setB n xs = true ↔ xs.Pairwise (· < ·) ∧ ∀ x ∈ xs, 0 ≤ x ∧ x < n := by
  unfold setB risingB
  rw [Bool.and_eq_true, risesTo_iff (Nat.le_refl _), List.take_of_length_le (Nat.le_refl _), List.all_eq_true]
  constructor
  · rintro ⟨h1, h2⟩
    exact ⟨h1, fun x hx => by have := inB_true (h2 x hx); omega⟩
  · rintro ⟨h1, h2⟩
    refine ⟨h1, fun x hx => ?_⟩
    have := h2 x hx
    unfold inB
    rw [decide_eq_true_eq]
    omega
theorem setB_filter {n : Nat} {xs : List Int} (p : Int → Bool) (h : setB n xs = true) : setB n (xs.filter p) = true := by
  rw [setB_iff] at h ⊢
  exact ⟨h.1.filter p, fun x hx => h.2 x (List.mem_filter.1 hx).1⟩
theorem setB_cells (n : Nat) (p : Nat → Bool) : setB n (cellsN n p) = true := by
  rw [setB_iff]
  refine ⟨cellsN_asc n p, fun x hx => ?_⟩
  obtain ⟨c, rfl, hc, _⟩ := cellsN_mem.1 hx
  omega
end Go.Proofs.YtojfbcgfeojdfaaGreat

/-
  Holding: the pure part.
-/
namespace Go.Proofs.YtojfbcgfeojdfaaGreat
set_option linter.unusedSimpArgs false
set_option linter.unusedVariables false
open Go.RowKit

def askB (W H : Int) (xs : List Int) (n : Nat) (ph : List PhaseI) (ss : List Int) (start : Int) : Bool := goodB 20 W H xs && phasesB ph && setB n ss && inB start 0 1000
theorem askB_true {W H : Int} {xs : List Int} {n : Nat} {ph : List PhaseI} {ss : List Int} {start : Int} (h : askB W H xs n ph ss start = true) : goodB 20 W H xs = true ∧ phasesB ph = true ∧ setB n ss = true ∧ 0 ≤ start ∧ start ≤ 1000 := by
  unfold askB at h
  simp only [Bool.and_eq_true] at h
  exact ⟨h.1.1.1, h.1.1.2, h.1.2, inB_true h.2⟩
theorem cut_ok {xs : List Int} {cu : List CutI} (h : cutTo xs cu cu.length = true) {k : Nat} (hk : k < cu.length) : cutOK xs cu k = true := by
  rw [cutTo, List.all_eq_true] at h
  exact h k (List.mem_range.2 hk)
theorem cut_in {xs : List Int} {cu : List CutI} (h : cutTo xs cu cu.length = true) {k : Nat} (hk : k < cu.length) : 0 ≤ (cu.getD k CutI.zero).cell ∧ (cu.getD k CutI.zero).cell < xs.length ∧ 0 ≤ (cu.getD k CutI.zero).tick ∧ (cu.getD k CutI.zero).tick ≤ 9999 := by
  have := cut_ok h hk
  unfold cutOK at this
  simp only [Bool.and_eq_true] at this
  have h1 := inB_true this.1.1.1
  have h2 := inB_true this.1.1.2
  omega
theorem cut_lt {xs : List Int} {cu : List CutI} (h : cutTo xs cu cu.length = true) : ∀ j i, i < j → j < cu.length → (cu.getD i CutI.zero).cell < (cu.getD j CutI.zero).cell := by
  intro j
  induction j with
  | zero => intro i hi; omega
  | succ j ih =>
    intro i hi hj
    have := cut_ok h hj
    unfold cutOK at this
    simp only [Bool.and_eq_true] at this
    have h2 := this.2
    rw [if_neg (by omega), Nat.add_sub_cancel] at h2
    have h3 := of_decide_eq_true h2
    by_cases e : i = j
    · subst e; exact h3
    · exact Int.lt_trans (ih i (by omega) (by omega)) h3
theorem cut_mem {xs : List Int} {cu : List CutI} (h : cutTo xs cu cu.length = true) {x : CutI} (hx : x ∈ cu) : 0 ≤ x.cell ∧ x.cell < xs.length ∧ 0 ≤ x.tick ∧ x.tick ≤ 9999 := by
  obtain ⟨k, hk, e⟩ := List.getElem_of_mem hx
  have := cut_in h hk
  rw [show cu.getD k CutI.zero = x by simp [List.getD, hk, e]] at this
  exact this
theorem setB_cuts {xs : List Int} {cu : List CutI} (h : cutTo xs cu cu.length = true) : setB xs.length (cu.map (fun c => c.cell)) = true := by
  rw [setB_iff]
  refine ⟨?_, ?_⟩
  · rw [List.pairwise_iff_getElem]
    intro i j hi hj hij
    rw [List.length_map] at hi hj
    have := cut_lt h j i hij hj
    simpa [List.getD, hi, hj] using this
  · intro x hx
    obtain ⟨c, hc, rfl⟩ := List.mem_map.1 hx
    have := cut_mem h hc
    exact ⟨this.1, this.2.1⟩
theorem cutsB_true {W H : Int} {xs : List Int} {cu : List CutI} (h : cutsB W H xs cu = true) : goodB 20 W H xs = true ∧ cutTo xs cu cu.length = true ∧ cu.length ≤ 8 := by
  unfold cutsB at h
  simp only [Bool.and_eq_true] at h
  exact ⟨h.1.1, h.1.2, of_decide_eq_true h.2⟩

/-- do the cuts hold -/
def posI (x : Int) : Bool := decide (0 < x)
noncomputable def hldB (W n : Nat) (xs : List Int) (ph : List PhaseI) (ss : List Int) (start : Int) (cu : List CutI) (ts : List Int) : Bool := (cu.map (slk (arrT W n xs ss ph start))).all posI && lineB W n xs ss ts (cu.map (fun c => c.cell))
noncomputable def doHoldR (W H : Int) (xs : List Int) (ph : List PhaseI) (ss : List Int) (start : Int) (cu : List CutI) (ts : List Int) : B2 := if askB W H xs xs.length ph ss start && cutsB W H xs cu && caseB W H xs xs.length ss ts then ⟨hldB W.toNat xs.length xs ph ss start cu ts, true⟩ else ⟨false, false⟩

end Go.Proofs.YtojfbcgfeojdfaaGreat

/-
  Holding: the pure part.
-/
import Derived.Test.YtlmdckocjlogkaaGreatSlk
import Derived.Test.YtlmdckocjlogkaaGreatSets
import Derived.Test.YtlmdckocjlogkaaGreatLinesS
namespace Go.Proofs.YtlmdckocjlogkaaGreat
set_option linter.unusedSimpArgs false
set_option linter.unusedVariables false
open Go.RowKit

def askB (W H : Int) (xs : List Int) (n : Nat) (ph : List PhaseI) (ss : List Int) (start : Int) : Bool := goodB 20 W H xs && phasesB ph && setB n ss && inB start 0 1000
theorem askB_true {W H : Int} {xs : List Int} {n : Nat} {ph : List PhaseI} {ss : List Int} {start : Int} (h : askB W H xs n ph ss start = true) : goodB 20 W H xs = true ∧ phasesB ph = true ∧ setB n ss = true ∧ 0 ≤ start ∧ start ≤ 1000 := by
  unfold askB at h
  simp only [Bool.and_eq_true] at h
  exact ⟨h.1.1.1, h.1.1.2, h.1.2, inB_true h.2⟩
theorem cut_ok {xs : List Int} {cu : List CutI} (h : cutTo xs cu cu.length = true) {k : Nat} (hk : k < cu.length) : cutOK xs cu k = true := by
  rw [cutTo, List.all_eq_true] at h
  exact h k (List.mem_range.2 hk)
theorem cut_in {xs : List Int} {cu : List CutI} (h : cutTo xs cu cu.length = true) {k : Nat} (hk : k < cu.length) : 0 ≤ (cu.getD k CutI.zero).cell ∧ (cu.getD k CutI.zero).cell < xs.length ∧ 0 ≤ (cu.getD k CutI.zero).tick ∧ (cu.getD k CutI.zero).tick ≤ 9999 := by
  have := cut_ok h hk
  unfold cutOK at this
  simp only [Bool.and_eq_true] at this
  have h1 := inB_true this.1.1.1
  have h2 := inB_true this.1.1.2
  omega
theorem cut_lt {xs : List Int} {cu : List CutI} (h : cutTo xs cu cu.length = true) : ∀ j i, i < j → j < cu.length → (cu.getD i CutI.zero).cell < (cu.getD j CutI.zero).cell := by
  intro j
  induction j with
  | zero => intro i hi; omega
  | succ j ih =>
    intro i hi hj
    have := cut_ok h hj
    unfold cutOK at this
    simp only [Bool.and_eq_true] at this
    have h2 := this.2
    rw [if_neg (by omega), Nat.add_sub_cancel] at h2
    have h3 := of_decide_eq_true h2
    by_cases e : i = j
    · subst e; exact h3
    · exact Int.lt_trans (ih i (by omega) (by omega)) h3
theorem cut_mem {xs : List Int} {cu : List CutI} (h : cutTo xs cu cu.length = true) {x : CutI} (hx : x ∈ cu) : 0 ≤ x.cell ∧ x.cell < xs.length ∧ 0 ≤ x.tick ∧ x.tick ≤ 9999 := by
  obtain ⟨k, hk, e⟩ := List.getElem_of_mem hx
  have := cut_in h hk
  rw [show cu.getD k CutI.zero = x by simp [List.getD, hk, e]] at this
  exact this
theorem setB_cuts {xs : List Int} {cu : List CutI} (h : cutTo xs cu cu.length = true) : setB xs.length (cu.map (fun c => c.cell)) = true := by
  rw [setB_iff]
  refine ⟨?_, ?_⟩
  · rw [List.pairwise_iff_getElem]
    intro i j hi hj hij
    rw [List.length_map] at hi hj
    have := cut_lt h j i hij hj
    simpa [List.getD, hi, hj] using this
  · intro x hx
    obtain ⟨c, hc, rfl⟩ := List.mem_map.1 hx
    have := cut_mem h hc
    exact ⟨this.1, this.2.1⟩
theorem cutsB_true {W H : Int} {xs : List Int} {cu : List CutI} (h : cutsB W H xs cu = true) : goodB 20 W H xs = true ∧ cutTo xs cu cu.length = true ∧ cu.length ≤ 8 := by
  unfold cutsB at h
  simp only [Bool.and_eq_true] at h
  exact ⟨h.1.1, h.1.2, of_decide_eq_true h.2⟩

/-- do the cuts hold -/
def posI (x : Int) : Bool := decide (0 < x)
noncomputable def hldB (W n : Nat) (xs : List Int) (ph : List PhaseI) (ss : List Int) (start : Int) (cu : List CutI) (ts : List Int) : Bool := (cu.map (slk (arrT W n xs ss ph start))).all posI && lineB W n xs ss ts (cu.map (fun c => c.cell))
noncomputable def doHoldR (W H : Int) (xs : List Int) (ph : List PhaseI) (ss : List Int) (start : Int) (cu : List CutI) (ts : List Int) : B2 := if askB W H xs xs.length ph ss start && cutsB W H xs cu && caseB W H xs xs.length ss ts then ⟨hldB W.toNat xs.length xs ph ss start cu ts, true⟩ else ⟨false, false⟩

end Go.Proofs.YtlmdckocjlogkaaGreat

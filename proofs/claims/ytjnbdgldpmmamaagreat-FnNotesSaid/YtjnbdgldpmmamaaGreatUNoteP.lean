/-
  Notes: the pure part.
-/
import Derived.Test.YtjnbdgldpmmamaaGreatUFlNote
import Derived.Test.YtjnbdgldpmmamaaGreatUSeason
import Derived.Test.YtjnbdgldpmmamaaGreatULargest
import Derived.Deep.DeepCutAuto
import Derived.Deep.CutBlock
import Derived.Test.YtjnbdgldpmmamaaGreatUMissP
/-
  Notes: the pure part.
-/
namespace Go.Proofs.YtjnbdgldpmmamaaGreat
set_option linter.unusedSimpArgs false
set_option linter.unusedVariables false
open Go.RowKit

def clkB (z : Int) : Bool := inB z 0 12
/-- a note is valid -/
def noteB (u : Int) (x : NoteC) : Bool := decide ((x.cl.length : Int) = u) && x.cl.all clkB && inB x.un 0 (u - 1) && decide (1 ≤ x.sq) && (x.cl.getD x.un.toNat 0 == x.sq) && wordB x.wd
/-- a note stands before another one -/
def ltN (a b : NoteC) : Bool := decide (a.un < b.un) || (decide (a.un = b.un) && decide (a.sq < b.sq))
def bkOK (u : Int) (xs : List NoteC) (k : Nat) : Bool := noteB u (xs.getD k NoteC.zero) && (if k = 0 then true else ltN (xs.getD (k - 1) NoteC.zero) (xs.getD k NoteC.zero))
def bkTo (u : Int) (xs : List NoteC) (k : Nat) : Bool := (List.range k).all (bkOK u xs)
/-- a notebook is valid -/
def bookB (u : Int) (xs : List NoteC) : Bool := bkTo u xs xs.length && inB u 2 4 && decide (xs.length ≤ 12)
theorem bkTo_succ (u : Int) (xs : List NoteC) (k : Nat) : bkTo u xs (k + 1) = (bkTo u xs k && bkOK u xs k) := by simp [bkTo, List.range_succ]
theorem bk_ok {u : Int} {xs : List NoteC} (h : bkTo u xs xs.length = true) {k : Nat} (hk : k < xs.length) : bkOK u xs k = true := by
  rw [bkTo, List.all_eq_true] at h
  exact h k (List.mem_range.2 hk)
theorem bk_bad {u : Int} {xs : List NoteC} {k : Nat} (hk : k < xs.length) (h : bkOK u xs k = false) : bkTo u xs xs.length = false := by
  cases hp : bkTo u xs xs.length
  · rfl
  · rw [bk_ok hp hk] at h; cases h
theorem noteB_true {u : Int} {x : NoteC} (h : noteB u x = true) : (x.cl.length : Int) = u ∧ (∀ z ∈ x.cl, 0 ≤ z ∧ z ≤ 12) ∧ (0 ≤ x.un ∧ x.un ≤ u - 1) ∧ 1 ≤ x.sq ∧ x.cl.getD x.un.toNat 0 = x.sq ∧ x.sq ≤ 12 ∧ wordB x.wd = true := by
  unfold noteB at h
  simp only [Bool.and_eq_true, decide_eq_true_eq, beq_iff_eq, List.all_eq_true] at h
  obtain ⟨⟨⟨⟨⟨h1, h2⟩, h3⟩, h4⟩, h5⟩, h6⟩ := h
  have h3 := inB_true h3
  have h7 : ∀ z ∈ x.cl, 0 ≤ z ∧ z ≤ 12 := fun z hz => inB_true (h2 z hz)
  have h8 := h7 _ (getD_mem (xs := x.cl) (k := x.un.toNat) (by omega))
  exact ⟨h1, h7, h3, h4, h5, by omega, h6⟩
theorem ltN_trans {a b c : NoteC} (h1 : ltN a b = true) (h2 : ltN b c = true) : ltN a c = true := by
  unfold ltN at h1 h2 ⊢
  simp only [Bool.or_eq_true, Bool.and_eq_true, decide_eq_true_eq] at h1 h2 ⊢
  omega
theorem ltN_asym {a b : NoteC} (h : ltN a b = true) : ltN b a = false := by
  unfold ltN at h ⊢
  simp only [Bool.or_eq_true, Bool.and_eq_true, decide_eq_true_eq] at h
  rw [Bool.or_eq_false_iff, Bool.and_eq_false_iff, decide_eq_false_iff_not, decide_eq_false_iff_not, decide_eq_false_iff_not]
  omega
theorem ltN_cmp (a b : NoteC) : decide (orI (cmpI a.un b.un) (cmpI a.sq b.sq) < 0) = ltN a b := by
  unfold ltN orI cmpI
  by_cases h1 : a.un < b.un
  · simp [h1]
  · by_cases h2 : b.un < a.un
    · have h3 : ¬ a.un = b.un := by omega
      simp [h1, h2, h3]
    · have h3 : a.un = b.un := by omega
      by_cases h4 : a.sq < b.sq
      · simp [h3, h4]
      · by_cases h5 : b.sq < a.sq
        · simp [h3, h4, h5]
        · simp [h3, h4, h5]
/-- the reference's order of valid notes -/
theorem ltN_ord {a b : NoteC} (h1 : -40 ≤ a.sq - b.sq ∧ a.sq - b.sq ≤ 40) : decide ((a.un - b.un) * 100 + a.sq - b.sq < 0) = ltN a b := by
  unfold ltN
  by_cases h2 : a.un < b.un
  · have : (a.un - b.un) * 100 + a.sq - b.sq < 0 := by omega
    simp [h2, this]
  · by_cases h3 : a.un = b.un
    · by_cases h4 : a.sq < b.sq
      · have : (a.un - b.un) * 100 + a.sq - b.sq < 0 := by omega
        simp [h3, h4]
        omega
      · have : ¬ (a.un - b.un) * 100 + a.sq - b.sq < 0 := by omega
        simp [h3, h4]
        omega
    · have : ¬ (a.un - b.un) * 100 + a.sq - b.sq < 0 := by omega
      simp [h2, h3, this]
end Go.Proofs.YtjnbdgldpmmamaaGreat

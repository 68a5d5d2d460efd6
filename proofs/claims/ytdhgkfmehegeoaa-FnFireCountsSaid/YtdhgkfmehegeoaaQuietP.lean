/-
  The longest quiet of a season: fire by fire, and day by day; plain laws.
-/
import Derived.Test.YtdhgkfmehegeoaaSeason
namespace Go.Proofs.Ytdhgkfmehegeoaa
set_option linter.unusedSimpArgs false
set_option linter.unusedVariables false
open Go.RowKit

def dayAt (xs : List FireI) (i : Nat) : Int := (xs.getD i FireI.zero).day
/-- the greatest quiet and the last day, behind k fires -/
def quI (xs : List FireI) : Nat → Int × Int
  | 0 => (0, -1)
  | k + 1 => (max (quI xs k).1 (dayAt xs k - (quI xs k).2 - 1), dayAt xs k)
def hasDay (xs : List FireI) (d : Int) : Bool := xs.any fun x => x.day == d
/-- the greatest quiet and the run, behind d days -/
def quS (xs : List FireI) : Nat → Int × Int
  | 0 => (0, 0)
  | d + 1 => (max (quS xs d).1 (if hasDay xs d then 0 else (quS xs d).2 + 1), if hasDay xs d then 0 else (quS xs d).2 + 1)

theorem hasDay_iff {xs : List FireI} {d : Int} : hasDay xs d = true ↔ ∃ i, i < xs.length ∧ dayAt xs i = d := by
  unfold hasDay dayAt
  rw [List.any_eq_true]
  constructor
  · rintro ⟨x, hx, he⟩
    obtain ⟨i, hi, rfl⟩ := List.mem_iff_getElem.1 hx
    exact ⟨i, hi, by simpa [List.getD, hi] using he⟩
  · rintro ⟨i, hi, he⟩
    exact ⟨xs[i], List.getElem_mem _, by simpa [List.getD, hi] using he⟩
theorem quI_nonneg (xs : List FireI) : ∀ k, 0 ≤ (quI xs k).1
  | 0 => Int.le_refl _
  | k + 1 => by
    have := quI_nonneg xs k
    simp only [quI]
    omega
theorem quI_same {xs : List FireI} {k : Nat} {d : Int} : ∀ m, (∀ i, k ≤ i → i < k + (m + 1) → dayAt xs i = d) → quI xs (k + (m + 1)) = (max (quI xs k).1 (d - (quI xs k).2 - 1), d)
  | 0, h => by
    show quI xs (k + 1) = _
    rw [quI, h k (Nat.le_refl _) (by omega)]
  | m + 1, h => by
    have ih := quI_same m (fun i h1 h2 => h i h1 (by omega))
    have hd := h (k + (m + 1)) (by omega) (by omega)
    have h0 := quI_nonneg xs k
    show quI xs ((k + (m + 1)) + 1) = _
    rw [quI, hd, ih]
    dsimp only
    rw [show max (max (quI xs k).1 (d - (quI xs k).2 - 1)) (d - d - 1) = max (quI xs k).1 (d - (quI xs k).2 - 1) by omega]
theorem next_day {xs : List FireI} {d : Int} (hs : ∀ i j, i ≤ j → j < xs.length → dayAt xs i ≤ dayAt xs j) : ∀ (f k : Nat), xs.length - k = f → k ≤ xs.length → (∀ i, k ≤ i → i < xs.length → d ≤ dayAt xs i) →
    ∃ k', k ≤ k' ∧ k' ≤ xs.length ∧ (∀ i, k ≤ i → i < k' → dayAt xs i = d) ∧ (∀ i, k' ≤ i → i < xs.length → d + 1 ≤ dayAt xs i)
  | 0, k, hf, hk, _ => ⟨k, Nat.le_refl _, hk, fun i h1 h2 => by omega, fun i h1 h2 => by omega⟩
  | f + 1, k, hf, hk, hge => by
    by_cases e : dayAt xs k = d
    · obtain ⟨k', h1, h2, h3, h4⟩ := next_day hs f (k + 1) (by omega) (by omega) (fun i hi hj => hge i (by omega) hj)
      refine ⟨k', by omega, h2, fun i hi hj => ?_, h4⟩
      by_cases hik : i = k
      · rw [hik]; exact e
      · exact h3 i (by omega) hj
    · refine ⟨k, Nat.le_refl _, hk, fun i h1 h2 => by omega, fun i h1 h2 => ?_⟩
      have := hge k (Nat.le_refl _) (by omega)
      have := hs k i h1 h2
      omega
theorem quiet_days {xs : List FireI} (hs : ∀ i j, i ≤ j → j < xs.length → dayAt xs i ≤ dayAt xs j) (h0 : ∀ i, i < xs.length → 0 ≤ dayAt xs i) : ∀ d : Nat, ∃ k, k ≤ xs.length ∧ (∀ i, i < k → dayAt xs i < d) ∧ (∀ i, k ≤ i → i < xs.length → (d : Int) ≤ dayAt xs i) ∧
    (quS xs d).2 = d - 1 - (quI xs k).2 ∧ (quS xs d).1 = max (quI xs k).1 (d - 1 - (quI xs k).2) ∧ (quI xs k).2 < d
  | 0 => ⟨0, Nat.zero_le _, fun i hi => by omega, fun i _ hi => h0 i hi, by simp [quS, quI], by simp [quS, quI], by simp [quI]⟩
  | d + 1 => by
    obtain ⟨k, hk, hlt, hge, hr, hm, hl⟩ := quiet_days hs h0 d
    obtain ⟨k', h1, h2, h3, h4⟩ := next_day hs _ k rfl hk hge
    have hq := quI_nonneg xs k
    refine ⟨k', h2, fun i hi => ?_, fun i hi hj => by have := h4 i hi hj; omega, ?_⟩
    · by_cases hik : i < k
      · have := hlt i hik; omega
      · have := h3 i (by omega) hi; omega
    by_cases he : k' = k
    · subst he
      have hno : hasDay xs d = false := by
        cases hh : hasDay xs d
        · rfl
        · obtain ⟨i, hi, hd⟩ := hasDay_iff.1 hh
          by_cases hik : i < k'
          · have := hlt i hik; omega
          · have := h4 i (by omega) hi; omega
      simp only [quS, hno, Bool.false_eq_true, if_false]
      omega
    · obtain ⟨m, rfl⟩ : ∃ m, k' = k + (m + 1) := ⟨k' - k - 1, by omega⟩
      have hyes : hasDay xs d = true := hasDay_iff.2 ⟨k, by omega, h3 k (Nat.le_refl _) (by omega)⟩
      rw [quI_same m h3]
      simp only [quS, hyes, if_true]
      omega
theorem quiet_same {xs : List FireI} (hs : ∀ i j, i ≤ j → j < xs.length → dayAt xs i ≤ dayAt xs j) (h0 : ∀ i, i < xs.length → 0 ≤ dayAt xs i ∧ dayAt xs i ≤ 364) : (quS xs 365).1 = max (quI xs xs.length).1 (364 - (quI xs xs.length).2) := by
  obtain ⟨k, hk, _, hge, _, hm, _⟩ := quiet_days hs (fun i hi => (h0 i hi).1) 365
  have hkn : k = xs.length := by
    by_cases e : k < xs.length
    · have := hge k (Nat.le_refl _) e
      have := (h0 k e).2
      omega
    · omega
  subst hkn
  rw [hm]
  have : ((365 : Nat) : Int) - 1 = 364 := rfl
  rw [this]

theorem season_days {xs : List FireI} (h : seasonB xs = true) : (∀ i j, i ≤ j → j < xs.length → dayAt xs i ≤ dayAt xs j) ∧ ∀ i, i < xs.length → 0 ≤ dayAt xs i ∧ dayAt xs i ≤ 364 := by
  unfold seasonB at h
  rw [Bool.and_eq_true] at h
  obtain ⟨h1, h2⟩ := seasTo_iff.1 h.1
  refine ⟨?_, fun i hi => (fireB_true (h1 i hi)).1⟩
  intro i j hij
  obtain ⟨m, rfl⟩ : ∃ m, j = i + m := ⟨j - i, by omega⟩
  clear hij
  induction m with
  | zero => intro _; exact Int.le_refl _
  | succ m ih =>
    intro hj
    have := ih (by omega)
    have := h2 (i + m) (by omega)
    unfold dayAt at *
    rw [Nat.add_assoc] at this
    omega
def quietR (xs : List FireI) : Int × Bool := if seasonB xs then (max (quI xs xs.length).1 (364 - (quI xs xs.length).2), true) else (0, false)
theorem quietR_spec {xs : List FireI} (h : seasonB xs = true) : quietR xs = ((quS xs 365).1, true) := by
  obtain ⟨h1, h2⟩ := season_days h
  rw [quietR, if_pos h, quiet_same h1 h2]

/-- how many fires burn the half -/
def halfB (xs : List FireI) (m : Nat) : Bool := decide (sumH xs ≤ 2 * sumH (xs.take m))
def halfN (xs : List FireI) : Nat := (List.range (xs.length + 1)).findIdx (halfB xs)
theorem halfN_at {xs : List FireI} {m : Nat} (hm : m ≤ xs.length) (h0 : ∀ i, i < m → halfB xs i = false) (h1 : halfB xs m = true) : halfN xs = m := by
  unfold halfN
  rw [List.findIdx_eq (by simp; omega)]
  refine ⟨by simpa using h1, fun j hj => ?_⟩
  simpa using h0 j hj
def halfR (xs : List FireI) : Int × Bool := if seasonB xs && !(sumH xs == 0) then (dayAt xs (halfN xs - 1), true) else (0, false)
theorem halfB_all {xs : List FireI} (h : 0 ≤ sumH xs) : halfB xs xs.length = true := by
  unfold halfB
  rw [List.take_length]
  simp
  omega
end Go.Proofs.Ytdhgkfmehegeoaa

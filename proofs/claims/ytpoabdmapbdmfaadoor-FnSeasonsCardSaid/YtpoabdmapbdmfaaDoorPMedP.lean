/-
  Numbers put in their order one after another: plain laws.
-/
import Derived.Test.YtpoabdmapbdmfaaDoorPLargest
/-
  Numbers put in their order one after another: plain laws.
-/
namespace Go.Proofs.YtpoabdmapbdmfaaDoor
set_option linter.unusedSimpArgs false
set_option linter.unusedVariables false
open Go.RowKit

def ltI (x y : Int) : Bool := decide (x < y)
/-- the first k of a list, each put at its place -/
def insS (hs : List Int) : Nat → List Int
  | 0 => []
  | k + 1 => (insS hs k).take (scanK ltI (hs.getD k 0) (insS hs k) k) ++ hs.getD k 0 :: (insS hs k).drop (scanK ltI (hs.getD k 0) (insS hs k) k)
theorem insS_length (hs : List Int) : ∀ k, (insS hs k).length = k
  | 0 => rfl
  | k + 1 => by
    have h1 := insS_length hs k
    have h2 := scanK_le ltI (hs.getD k 0) (insS hs k) k
    rw [insS, List.length_append, List.length_take, List.length_cons, List.length_drop, h1]
    omega
theorem insS_perm (hs : List Int) : ∀ k, k ≤ hs.length → (insS hs k).Perm (hs.take k)
  | 0, _ => by simp [insS]
  | k + 1, h => by
    have ih := insS_perm hs k (by omega)
    rw [insS]
    refine List.perm_middle.trans ?_
    rw [List.take_append_drop, take_succ' (by omega)]
    exact (List.Perm.cons _ ih).trans (List.perm_append_comm (l₁ := [hs.getD k 0]))
theorem scan_spec (x : Int) {A : List Int} (hA : A.Pairwise (· ≤ ·)) : ∀ j, j ≤ A.length → (∀ i, i < scanK ltI x A j → A.getD i 0 ≤ x) ∧ (∀ i, scanK ltI x A j ≤ i → i < j → x < A.getD i 0)
  | 0, _ => ⟨fun i hi => by simp [scanK] at hi, fun i _ hi => by omega⟩
  | j + 1, h => by
    obtain ⟨h1, h2⟩ := scan_spec x hA j (by omega)
    rw [scanK]
    by_cases hc : x < A.getD j 0
    · rw [if_pos (by simpa [ltI] using hc)]
      refine ⟨h1, fun i hi hj => ?_⟩
      by_cases e : i = j
      · rw [e]; exact hc
      · exact h2 i hi (by omega)
    · rw [if_neg (by simpa [ltI] using hc)]
      refine ⟨fun i hi => ?_, fun i hi hj => by omega⟩
      by_cases e : i = j
      · rw [e]; omega
      · have := (List.pairwise_iff_getElem.1 hA) i j (by omega) (by omega) (by omega)
        rw [List.getD_eq_getElem?_getD, List.getElem?_eq_getElem (by omega)] at hc ⊢
        simp only [Option.getD_some] at hc ⊢
        omega
theorem insS_sorted (hs : List Int) : ∀ k, (insS hs k).Pairwise (· ≤ ·)
  | 0 => List.Pairwise.nil
  | k + 1 => by
    have ih := insS_sorted hs k
    have hl := insS_length hs k
    obtain ⟨h1, h2⟩ := scan_spec (hs.getD k 0) ih k (by omega)
    have h3 := scanK_le ltI (hs.getD k 0) (insS hs k) k
    rw [insS]
    generalize scanK ltI (hs.getD k 0) (insS hs k) k = p at h1 h2 h3
    generalize insS hs k = A at ih hl h1 h2
    generalize hs.getD k 0 = x at h1 h2
    have ht : ∀ y ∈ A.take p, y ≤ x := by
      intro y hy
      obtain ⟨i, hi, rfl⟩ := List.mem_iff_getElem.1 hy
      have hi2 : i < p := by rw [List.length_take] at hi; omega
      have := h1 i hi2
      rw [List.getD_eq_getElem?_getD, List.getElem?_eq_getElem (by omega)] at this
      rw [List.getElem_take]
      exact this
    have hd : ∀ y ∈ A.drop p, x ≤ y := by
      intro y hy
      obtain ⟨i, hi, rfl⟩ := List.mem_iff_getElem.1 hy
      have hi2 : p + i < A.length := by rw [List.length_drop] at hi; omega
      have := h2 (p + i) (by omega) (by omega)
      rw [List.getD_eq_getElem?_getD, List.getElem?_eq_getElem hi2] at this
      rw [List.getElem_drop]
      simp only [Option.getD_some] at this
      omega
    rw [List.pairwise_append]
    refine ⟨ih.sublist (List.take_sublist _ _), ?_, ?_⟩
    · rw [List.pairwise_cons]
      exact ⟨hd, ih.sublist (List.drop_sublist _ _)⟩
    · intro y hy z hz
      rcases List.mem_cons.1 hz with rfl | hz
      · exact ht y hy
      · exact Int.le_trans (ht y hy) (hd z hz)
theorem sorted_one : ∀ {l m : List Int}, l.Pairwise (· ≤ ·) → m.Pairwise (· ≤ ·) → l.Perm m → l = m
  | [], m, _, _, hp => by
    have := hp.length_eq
    exact (List.eq_nil_of_length_eq_zero this.symm).symm
  | x :: l, [], _, _, hp => by
    have := hp.length_eq
    simp at this
  | x :: l, y :: m, hl, hm, hp => by
    rw [List.pairwise_cons] at hl hm
    have e : x = y := by
      have h1 : x ∈ y :: m := hp.mem_iff.1 List.mem_cons_self
      have h2 : y ∈ x :: l := hp.mem_iff.2 List.mem_cons_self
      rcases List.mem_cons.1 h1 with h1 | h1
      · exact h1
      · rcases List.mem_cons.1 h2 with h2 | h2
        · exact h2.symm
        · have := hm.1 x h1
          have := hl.1 y h2
          omega
    subst e
    rw [sorted_one hl.2 hm.2 (List.Perm.cons_inv hp)]
theorem merge_ins (hs : List Int) : hs.mergeSort (fun x y => decide (x ≤ y)) = insS hs hs.length := by
  refine sorted_one ?_ (insS_sorted _ _) ?_
  · have := List.pairwise_mergeSort (le := fun (x y : Int) => decide (x ≤ y)) (fun a b c h1 h2 => by simp at *; omega) (fun a b => by simp; omega) hs
    exact this.imp (fun h => by simpa using h)
  · refine (List.mergeSort_perm hs _).trans ?_
    have := insS_perm hs hs.length (Nat.le_refl _)
    rw [List.take_length] at this
    exact this.symm
theorem insS_mem {hs : List Int} {x : Int} {k : Nat} (hk : k ≤ hs.length) (h : x ∈ insS hs k) : x ∈ hs := List.mem_of_mem_take ((insS_perm hs k hk).mem_iff.1 h)

/-- the hours of fires; the median -/
def hrsL (xs : List FireI) : List Int := xs.map FireI.hours
structure Med3 where
  a : Int
  b : Int
  ok : Bool
def medS (xs : List FireI) : Int := (insS (hrsL xs) xs.length).getD ((xs.length - 1) / 2) 0 + (insS (hrsL xs) xs.length).getD (xs.length / 2) 0
def medR (xs : List FireI) : Med3 := if seasonB xs && !(xs.length == 0) then ⟨redA (medS xs) 2, redB (medS xs) 2, true⟩ else ⟨0, 0, false⟩
theorem hrs_get {xs : List FireI} {k : Nat} (h : k < xs.length) : (hrsL xs).getD k 0 = (xs.getD k FireI.zero).hours := by
  simp [hrsL, List.getD, h]
theorem hrs_bound {xs : List FireI} (hv : ∀ x ∈ xs, fireB x = true) {k : Nat} (hk : k ≤ xs.length) {y : Int} (h : y ∈ insS (hrsL xs) k) : 1 ≤ y ∧ y ≤ 2000 := by
  have h1 := insS_mem (by simp [hrsL]; omega) h
  obtain ⟨x, hx, rfl⟩ := List.mem_map.1 h1
  exact (fireB_true (hv x hx)).2.2.2
end Go.Proofs.YtpoabdmapbdmfaaDoor

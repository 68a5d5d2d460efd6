/-
  Missing kinds: what the rows are, and when they are a store.
-/
import Derived.Test.YtfnaenekdenmkaaYMissP
/-
  Missing kinds: what the rows are, and when they are a store.
-/
namespace Go.Proofs.Ytfnaenekdenmkaa
set_option linter.unusedSimpArgs false
set_option linter.unusedVariables false
open Go.RowKit

theorem minO_le (a b : Int) : minO a b ≤ a := by unfold minO; split <;> omega
theorem servK_le {os : List OrderI} {ss : List StockI} (ho : ordersB os = true) : ∀ t k, (servK os ss t).1.getD k 0 ≤ (os.getD k OrderI.zero).ct
  | 0, k => by
    show (List.replicate os.length (0 : Int)).getD k 0 ≤ _
    by_cases hk : k < os.length
    · have := (orderB_true (ord_get ho hk)).2.2.1
      rw [List.getD_eq_getElem?_getD, List.getElem?_replicate, if_pos hk]
      show (0 : Int) ≤ _
      omega
    · rw [List.getD_eq_getElem?_getD, List.getD_eq_getElem?_getD, List.getElem?_eq_none (by rw [List.length_replicate]; omega), List.getElem?_eq_none (by omega)]
      exact Int.le_refl _
  | t + 1, k => by
    have ih := servK_le ho t k (ss := ss)
    rw [servK, stepS]
    split
    · show (List.set _ _ _).getD k 0 ≤ _
      rw [List.getD_eq_getElem?_getD, List.getElem?_set]
      split
      · rename_i e
        subst e
        split
        · exact minO_le _ _
        · show (0 : Int) ≤ _
          rename_i hlt
          rw [servK_len1] at hlt
          rw [List.getD_eq_getElem?_getD, List.getElem?_eq_none (by omega)]
          exact Int.le_refl _
      · rw [← List.getD_eq_getElem?_getD]; exact ih
    · exact ih
theorem gotL_le {os : List OrderI} {ss : List StockI} (ho : ordersB os = true) (k : Nat) : (gotL os ss).getD k 0 ≤ (os.getD k OrderI.zero).ct := servK_le ho _ _

/-- an order as open orders are -/
def openOK (o : OrderI) : Prop := wordB o.kd = true ∧ 1 ≤ o.ct ∧ o.ct ≤ 99
theorem openTo_ok {os : List OrderI} {ss : List StockI} (ho : ordersB os = true) (hs : storeB ss = true) : ∀ k, k ≤ os.length → ∀ o ∈ openTo os (gotL os ss) k, openOK o
  | 0, _ => by intro o h; cases h
  | k + 1, hk => by
    intro o h
    unfold openTo at h
    split at h
    · rename_i hlt
      rcases List.mem_append.1 h with h | h
      · exact openTo_ok ho hs k (by omega) o h
      · rw [List.mem_singleton] at h
        subst h
        have h1 := orderB_true (ord_get ho (k := k) (by omega))
        have h2 := gotL_small ho hs (k := k)
        exact ⟨h1.2.1, by show 1 ≤ (os.getD k OrderI.zero).ct - _; omega, by show (os.getD k OrderI.zero).ct - _ ≤ 99; omega⟩
    · exact openTo_ok ho hs k (by omega) o h
theorem addAll_ok : ∀ (m : Nat) (ol : List OrderI), ol.length = m → (∀ o ∈ ol, openOK o) → ∀ s ∈ addAll ol, rowOK m s
  | 0, ol, h, _ => by
    obtain rfl := List.eq_nil_of_length_eq_zero h
    intro s hs
    cases hs
  | m + 1, ol, h, ho => by
    obtain ⟨ol', o, rfl⟩ : ∃ A' a, ol = A' ++ [a] := ⟨ol.dropLast, ol.getLast (by intro e; subst e; simp at h), (List.dropLast_concat_getLast _).symm⟩
    have hl : ol'.length = m := by simpa using h
    rw [addAll_snoc]
    have h1 := ho o (by simp)
    exact addK_ok h1.1 h1.2.1 h1.2.2 (addAll_ok m ol' hl fun x hx => ho x (by simp [hx]))
theorem putAll_mem {ol : List OrderI} {s : StockI} (h : s ∈ putAll ol) : s ∈ addAll ol := by
  rw [← (all_facts ol).2.2.2] at h
  exact isortH_mem _ _ (Nat.le_refl _) s h
theorem asc_st {l : List StockI} (h : ascK l) {k : Nat} (h0 : k ≠ 0) (hk : k < l.length) : ltS (l.getD (k - 1) StockI.zero).kd (l.getD k StockI.zero).kd = true := by
  have := List.pairwise_iff_getElem.1 h (k - 1) k (by omega) hk (by omega)
  rw [List.getD_eq_getElem?_getD, List.getD_eq_getElem?_getD, List.getElem?_eq_getElem hk, List.getElem?_eq_getElem (by omega)]
  exact this
def fewB (s : StockI) : Bool := decide (s.ct ≤ 99)
theorem store_put {ol : List OrderI} (hl : ol.length ≤ 10) (ho : ∀ o ∈ ol, openOK o) : storeB (putAll ol) = (putAll ol).all fewB := by
  have h1 := (all_facts ol).2.1
  have h2 : ∀ s ∈ putAll ol, rowOK ol.length s := fun s hs => addAll_ok _ ol rfl ho s (putAll_mem hs)
  have h3 := putAll_len ol
  generalize putAll ol = l at h1 h2 h3
  unfold storeB
  rw [decide_eq_true (show l.length ≤ 10 by omega), Bool.and_true]
  cases hf : l.all fewB
  · cases hs : stTo l l.length
    · rfl
    · exfalso
      rw [List.all_eq_false] at hf
      obtain ⟨s, hs1, hs2⟩ := hf
      obtain ⟨k, hk, rfl⟩ := List.getElem_of_mem hs1
      have := st_ok hs hk
      unfold stOK stockB at this
      simp only [Bool.and_eq_true] at this
      have h4 := inB_true this.1.2
      rw [List.getD_eq_getElem?_getD, List.getElem?_eq_getElem hk] at h4
      exact hs2 (decide_eq_true h4.2)
  · unfold stTo
    rw [List.all_eq_true]
    intro k hk
    have hk := List.mem_range.1 hk
    rw [List.all_eq_true] at hf
    have hm := getD_memO (d := StockI.zero) hk
    obtain ⟨r1, r2, r3⟩ := h2 _ hm
    have r4 := of_decide_eq_true (hf _ hm)
    unfold stOK stockB
    rw [r1, show inB (l.getD k StockI.zero).ct 0 99 = true from decide_eq_true (by omega)]
    by_cases h0 : k = 0
    · rw [if_pos h0]; rfl
    · rw [if_neg h0, asc_st h1 h0 hk]; rfl
/-- how many resources are missing -/
def kindsL (os : List OrderI) (ss : List StockI) : List StockI := putAll (openL os ss)
theorem openL_len {os : List OrderI} {ss : List StockI} (ho : ordersB os = true) : (openL os ss).length ≤ 10 := Nat.le_trans (openTo_le _ _ _) (ord_len ho)
theorem openL_ok {os : List OrderI} {ss : List StockI} (ho : ordersB os = true) (hs : storeB ss = true) : ∀ o ∈ openL os ss, openOK o := openTo_ok ho hs _ (Nat.le_refl _)
end Go.Proofs.Ytfnaenekdenmkaa

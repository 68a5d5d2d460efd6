/-
  Orders: the pure part.
-/
import Derived.Test.YtfnaenekdenmkaaYFlOrder
import Derived.Test.YtfnaenekdenmkaaYStrW
import Derived.Test.YtfnaenekdenmkaaYWord
import Derived.Test.YtfnaenekdenmkaaYSortI
/-
  Orders: the pure part.
-/
namespace Go.Proofs.Ytfnaenekdenmkaa
set_option linter.unusedSimpArgs false
set_option linter.unusedVariables false
open Go.RowKit

theorem getD_memO {α : Type} {xs : List α} {d : α} {k : Nat} (hk : k < xs.length) : xs.getD k d ∈ xs := by
  rw [List.getD_eq_getElem?_getD, List.getElem?_eq_getElem hk]
  exact List.getElem_mem _
def orderB (o : OrderI) : Bool := inB o.id 1 999 && wordB o.kd && inB o.ct 1 99 && inB o.ur 1 5 && inB o.tk 0 9999
def ordOK (l : List OrderI) (k : Nat) : Bool := orderB (l.getD k OrderI.zero) && (if k = 0 then true else decide ((l.getD (k - 1) OrderI.zero).id < (l.getD k OrderI.zero).id))
def ordTo (l : List OrderI) (k : Nat) : Bool := (List.range k).all (ordOK l)
def ordersB (l : List OrderI) : Bool := ordTo l l.length && decide (l.length ≤ 10)
theorem ordTo_succ (l : List OrderI) (k : Nat) : ordTo l (k + 1) = (ordTo l k && ordOK l k) := by simp [ordTo, List.range_succ]
theorem ord_ok {l : List OrderI} (h : ordTo l l.length = true) {k : Nat} (hk : k < l.length) : ordOK l k = true := by
  rw [ordTo, List.all_eq_true] at h
  exact h k (List.mem_range.2 hk)
theorem ord_bad {l : List OrderI} {k : Nat} (hk : k < l.length) (h : ordOK l k = false) : ordTo l l.length = false := by
  cases hp : ordTo l l.length
  · rfl
  · rw [ord_ok hp hk] at h; cases h
theorem ord_get {l : List OrderI} (h : ordersB l = true) {k : Nat} (hk : k < l.length) : orderB (l.getD k OrderI.zero) = true := by
  unfold ordersB at h
  rw [Bool.and_eq_true] at h
  have := ord_ok h.1 hk
  unfold ordOK at this
  rw [Bool.and_eq_true] at this
  exact this.1
theorem ord_len {l : List OrderI} (h : ordersB l = true) : l.length ≤ 10 := by
  unfold ordersB at h
  rw [Bool.and_eq_true] at h
  exact of_decide_eq_true h.2
theorem ord_lt {l : List OrderI} (h : ordersB l = true) : ∀ j i, i < j → j < l.length → (l.getD i OrderI.zero).id < (l.getD j OrderI.zero).id := by
  unfold ordersB at h
  rw [Bool.and_eq_true] at h
  intro j
  induction j with
  | zero => intro i hi; omega
  | succ j ih =>
    intro i hi hj
    have := ord_ok h.1 hj
    unfold ordOK at this
    rw [Bool.and_eq_true] at this
    have h2 := this.2
    rw [if_neg (by omega), Nat.add_sub_cancel] at h2
    have h3 := of_decide_eq_true h2
    by_cases e : i = j
    · subst e; exact h3
    · exact Int.lt_trans (ih i (by omega) (by omega)) h3
theorem orderB_true {o : OrderI} (h : orderB o = true) : (1 ≤ o.id ∧ o.id ≤ 999) ∧ wordB o.kd = true ∧ (1 ≤ o.ct ∧ o.ct ≤ 99) ∧ (1 ≤ o.ur ∧ o.ur ≤ 5) ∧ (0 ≤ o.tk ∧ o.tk ≤ 9999) := by
  unfold orderB at h
  simp only [Bool.and_eq_true] at h
  exact ⟨inB_true h.1.1.1.1, h.1.1.1.2, inB_true h.1.1.2, inB_true h.1.2, inB_true h.2⟩

/-- a text is less than another one -/
def ltS (a b : Bs) : Bool := Op.bytesLess a b
theorem ltS_le : ∀ a b : Bs, (ltS a b || (a == b)) = !ltS b a
  | [], [] => rfl
  | [], _ :: _ => rfl
  | _ :: _, [] => rfl
  | x :: xs, y :: ys => by
    have ih := ltS_le xs ys
    unfold ltS at ih ⊢
    simp only [Op.bytesLess]
    by_cases h1 : x < y
    · have h2 : ¬ y < x := fun h => absurd (UInt8.lt_iff_toNat_lt.1 h) (Nat.lt_asymm (UInt8.lt_iff_toNat_lt.1 h1))
      have h3 : (y == x) = false := by simp only [beq_eq_false_iff_ne, ne_eq]; intro e; subst e; exact h2 h1
      simp [h1, h2, h3]
    · by_cases h3 : x = y
      · subst h3
        simp [h1, ← ih]
      · have h4 : y < x := by
          rw [UInt8.lt_iff_toNat_lt] at h1 ⊢
          have : x.toNat ≠ y.toNat := fun e => h3 (UInt8.toNat_inj.1 e)
          omega
        simp [h1, h3, h4]
def stockB (s : StockI) : Bool := wordB s.kd && inB s.ct 0 99
def stOK (l : List StockI) (k : Nat) : Bool := stockB (l.getD k StockI.zero) && (if k = 0 then true else ltS (l.getD (k - 1) StockI.zero).kd (l.getD k StockI.zero).kd)
def stTo (l : List StockI) (k : Nat) : Bool := (List.range k).all (stOK l)
def storeB (l : List StockI) : Bool := stTo l l.length && decide (l.length ≤ 10)

/-- i is served before k -/
def befO (l : List OrderI) (i k : Int) : Bool := decide ((l.getD k.toNat OrderI.zero).ur < (l.getD i.toNat OrderI.zero).ur) || (decide ((l.getD k.toNat OrderI.zero).ur = (l.getD i.toNat OrderI.zero).ur) && decide ((l.getD i.toNat OrderI.zero).tk < (l.getD k.toNat OrderI.zero).tk))
section
variable (lt : Int → Int → Bool)
end
section
variable {lt : Int → Int → Bool}
end
end Go.Proofs.Ytfnaenekdenmkaa

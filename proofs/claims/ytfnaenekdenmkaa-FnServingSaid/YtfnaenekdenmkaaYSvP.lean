/-
  Orders: what each gets, the pure part.
-/
import Derived.Test.YtfnaenekdenmkaaYServS
import Derived.Test.YtfnaenekdenmkaaYStoG
/-
  Orders: what each gets, the pure part.
-/
namespace Go.Proofs.Ytfnaenekdenmkaa
set_option linter.unusedSimpArgs false
set_option linter.unusedVariables false
open Go.RowKit

theorem ltS_self (a : Bs) : ltS a a = false := by
  have h := ltS_le a a
  cases hl : ltS a a
  · rfl
  · rw [hl] at h; simp at h
theorem ltS_trans : ∀ {a b c : Bs}, ltS a b = true → ltS b c = true → ltS a c = true
  | _, [], _, h1, _ => by cases ‹Bs› <;> simp [ltS, Op.bytesLess] at h1
  | _, _ :: _, [], _, h2 => by simp [ltS, Op.bytesLess] at h2
  | [], _ :: _, _ :: _, _, _ => rfl
  | x :: xs, y :: ys, z :: zs, h1, h2 => by
    simp only [ltS, Op.bytesLess, Bool.or_eq_true, Bool.and_eq_true, decide_eq_true_eq, beq_iff_eq] at h1 h2 ⊢
    have ih := @ltS_trans xs ys zs
    simp only [ltS] at ih
    rcases h1 with h1 | ⟨rfl, h1⟩ <;> rcases h2 with h2 | ⟨rfl, h2⟩
    · left
      rw [UInt8.lt_iff_toNat_lt] at h1 h2 ⊢
      omega
    · exact .inl h1
    · exact .inl h2
    · exact .inr ⟨rfl, ih h1 h2⟩
def kindL (l : List StockI) : List Bs := l.map StockI.kd
theorem kindL_getD (l : List StockI) (k : Nat) : (kindL l).getD k [] = (l.getD k StockI.zero).kd := by
  unfold kindL
  rw [List.getD_eq_getElem?_getD, List.getD_eq_getElem?_getD, List.getElem?_map]
  cases l[k]? <;> rfl
theorem store_get {l : List StockI} (h : storeB l = true) {k : Nat} (hk : k < l.length) : stockB (l.getD k StockI.zero) = true := by
  unfold storeB at h
  rw [Bool.and_eq_true] at h
  have := st_ok h.1 hk
  unfold stOK at this
  rw [Bool.and_eq_true] at this
  exact this.1
theorem store_len {l : List StockI} (h : storeB l = true) : l.length ≤ 10 := by
  unfold storeB at h
  rw [Bool.and_eq_true] at h
  exact of_decide_eq_true h.2
theorem store_lt {l : List StockI} (h : storeB l = true) : ∀ j i, i < j → j < l.length → ltS (l.getD i StockI.zero).kd (l.getD j StockI.zero).kd = true := by
  unfold storeB at h
  rw [Bool.and_eq_true] at h
  intro j
  induction j with
  | zero => intro i hi; omega
  | succ j ih =>
    intro i hi hj
    have := st_ok h.1 hj
    unfold stOK at this
    rw [Bool.and_eq_true] at this
    have h2 := this.2
    rw [if_neg (by omega), Nat.add_sub_cancel] at h2
    by_cases e : i = j
    · subst e; exact h2
    · exact ltS_trans (ih i (by omega) (by omega)) h2
theorem store_inj {l : List StockI} (h : storeB l = true) {i j : Nat} (hi : i < l.length) (hj : j < l.length) (e : (l.getD i StockI.zero).kd = (l.getD j StockI.zero).kd) : i = j := by
  rcases Nat.lt_trichotomy i j with h1 | h1 | h1
  · have := store_lt h j i h1 hj
    rw [e, ltS_self] at this
    cases this
  · exact h1
  · have := store_lt h i j h1 hi
    rw [e, ltS_self] at this
    cases this

def minO (a b : Int) : Int := if a < b then a else b
def isK (kd : Bs) (s : StockI) : Bool := s.kd == kd
def hasK (l : List StockI) (kd : Bs) : Bool := l.any (isK kd)
def plK (l : List StockI) (kd : Bs) : Nat := l.findIdx (isK kd)
/-- an order is served out of a store -/
def stepS (os : List OrderI) (x : List Int × List StockI) (q : Int) : List Int × List StockI :=
  if hasK x.2 (os.getD q.toNat OrderI.zero).kd then
    (x.1.set q.toNat (minO (os.getD q.toNat OrderI.zero).ct (x.2.getD (plK x.2 (os.getD q.toNat OrderI.zero).kd) StockI.zero).ct),
     x.2.set (plK x.2 (os.getD q.toNat OrderI.zero).kd) ⟨(os.getD q.toNat OrderI.zero).kd, (x.2.getD (plK x.2 (os.getD q.toNat OrderI.zero).kd) StockI.zero).ct - minO (os.getD q.toNat OrderI.zero).ct (x.2.getD (plK x.2 (os.getD q.toNat OrderI.zero).kd) StockI.zero).ct⟩)
  else x
def servK (os : List OrderI) (ss : List StockI) : Nat → List Int × List StockI
  | 0 => (List.replicate os.length 0, ss)
  | t + 1 => stepS os (servK os ss t) ((servL os).getD t 0)
/-- what each order gets -/
def gotL (os : List OrderI) (ss : List StockI) : List Int := (servK os ss os.length).1
def leftL (os : List OrderI) (ss : List StockI) : List StockI := (servK os ss os.length).2

theorem hasK_pl {l : List StockI} {kd : Bs} (h : hasK l kd = true) : plK l kd < l.length ∧ (l.getD (plK l kd) StockI.zero).kd = kd := by
  unfold hasK at h
  have h1 : plK l kd < l.length := List.findIdx_lt_length_of_exists (by simpa using h)
  refine ⟨h1, ?_⟩
  have h2 : isK kd (l[plK l kd]'h1) = true := List.findIdx_getElem
  rw [List.getD_eq_getElem?_getD, List.getElem?_eq_getElem h1]
  simpa [isK] using h2
theorem isK_pl {l : List StockI} {kd : Bs} (hd : ∀ i j, i < l.length → j < l.length → (l.getD i StockI.zero).kd = (l.getD j StockI.zero).kd → i = j) {k : Nat} (hk : k < l.length) : isK kd (l.getD k StockI.zero) = (hasK l kd && decide (k = plK l kd)) := by
  cases hh : hasK l kd
  · unfold hasK at hh
    rw [List.any_eq_false] at hh
    have := hh _ (getD_memO (d := StockI.zero) hk)
    simpa using this
  · obtain ⟨h1, h2⟩ := hasK_pl hh
    rw [Bool.true_and]
    by_cases e : k = plK l kd
    · rw [decide_eq_true e, e, isK, h2]
      simp
    · rw [decide_eq_false e]
      cases hi : isK kd (l.getD k StockI.zero)
      · rfl
      · exact absurd (hd k _ hk h1 (by rw [h2]; simpa [isK] using hi)) e
theorem stepS_fst_length (os : List OrderI) (x : List Int × List StockI) (q : Int) : (stepS os x q).1.length = x.1.length := by
  unfold stepS
  split
  · exact List.length_set
  · rfl
theorem stepS_snd_length (os : List OrderI) (x : List Int × List StockI) (q : Int) : (stepS os x q).2.length = x.2.length := by
  unfold stepS
  split
  · exact List.length_set
  · rfl
theorem stepS_kinds (os : List OrderI) (x : List Int × List StockI) (q : Int) : kindL (stepS os x q).2 = kindL x.2 := by
  unfold stepS
  split
  · rename_i h
    obtain ⟨h1, h2⟩ := hasK_pl h
    unfold kindL
    rw [List.map_set]
    show (List.map StockI.kd x.2).set _ _ = _
    apply List.ext_getElem?
    intro i
    rw [List.getElem?_set]
    split
    · rename_i e
      subst e
      rw [if_pos (by simpa using h1), List.getElem?_map]
      rw [List.getD_eq_getElem?_getD, List.getElem?_eq_getElem h1] at h2
      rw [List.getElem?_eq_getElem h1]
      simpa using h2.symm
    · rfl
  · rfl
theorem servK_kinds (os : List OrderI) (ss : List StockI) : ∀ t, kindL (servK os ss t).2 = kindL ss
  | 0 => rfl
  | t + 1 => by rw [servK, stepS_kinds, servK_kinds os ss t]
theorem servK_len1 (os : List OrderI) (ss : List StockI) : ∀ t, (servK os ss t).1.length = os.length
  | 0 => List.length_replicate
  | t + 1 => by rw [servK, stepS_fst_length, servK_len1 os ss t]
theorem servK_len2 (os : List OrderI) (ss : List StockI) : ∀ t, (servK os ss t).2.length = ss.length
  | 0 => rfl
  | t + 1 => by rw [servK, stepS_snd_length, servK_len2 os ss t]
theorem servK_inj {os : List OrderI} {ss : List StockI} (h : storeB ss = true) (t : Nat) : ∀ i j, i < (servK os ss t).2.length → j < (servK os ss t).2.length → ((servK os ss t).2.getD i StockI.zero).kd = ((servK os ss t).2.getD j StockI.zero).kd → i = j := by
  intro i j hi hj e
  rw [servK_len2] at hi hj
  rw [← kindL_getD, ← kindL_getD, servK_kinds, kindL_getD, kindL_getD] at e
  exact store_inj h hi hj e
theorem servK_small {os : List OrderI} {ss : List StockI} (ho : ordersB os = true) (h : storeB ss = true) : ∀ t, (∀ x ∈ (servK os ss t).1, 0 ≤ x ∧ x ≤ 99) ∧ (∀ s ∈ (servK os ss t).2, s.kd.length ≤ 10 ∧ 0 ≤ s.ct ∧ s.ct ≤ 99)
  | 0 => by
    show (∀ x ∈ List.replicate os.length (0 : Int), 0 ≤ x ∧ x ≤ 99) ∧ (∀ s ∈ ss, s.kd.length ≤ 10 ∧ 0 ≤ s.ct ∧ s.ct ≤ 99)
    refine ⟨fun x hx => ?_, fun s hs => ?_⟩
    · have := List.eq_of_mem_replicate hx
      omega
    · obtain ⟨k, hk, rfl⟩ := List.mem_iff_getElem.1 hs
      have := store_get h (k := k) hk
      rw [List.getD_eq_getElem?_getD, List.getElem?_eq_getElem hk] at this
      simp only [Option.getD_some, stockB, Bool.and_eq_true] at this
      have h1 := wordB_len this.1
      have h2 := inB_true this.2
      omega
  | t + 1 => by
    obtain ⟨i1, i2⟩ := servK_small ho h t
    rw [servK]
    generalize (servL os).getD t 0 = q
    generalize servK os ss t = x at i1 i2
    unfold stepS
    split
    · rename_i hh
      obtain ⟨h1, h2⟩ := hasK_pl hh
      have hm := i2 _ (getD_memO (d := StockI.zero) h1)
      have ho2 : 0 ≤ (os.getD q.toNat OrderI.zero).ct ∧ (os.getD q.toNat OrderI.zero).ct ≤ 99 := by
        by_cases hq : q.toNat < os.length
        · have := (orderB_true (ord_get ho hq)).2.2.1
          omega
        · rw [List.getD_eq_getElem?_getD, List.getElem?_eq_none (by omega)]
          decide
      rw [h2] at hm
      generalize (x.2.getD (plK x.2 (os.getD q.toNat OrderI.zero).kd) StockI.zero).ct = v at hm
      generalize (os.getD q.toNat OrderI.zero).ct = u at ho2
      have hmin : 0 ≤ minO u v ∧ minO u v ≤ 99 ∧ minO u v ≤ v := by unfold minO; split <;> omega
      refine ⟨fun z hz => ?_, fun s hs => ?_⟩
      · rcases List.mem_or_eq_of_mem_set hz with hz | rfl
        · exact i1 z hz
        · omega
      · rcases List.mem_or_eq_of_mem_set hs with hs | rfl
        · exact i2 s hs
        · dsimp only
          omega
    · exact ⟨i1, i2⟩
theorem servL_mem {os : List OrderI} {t : Nat} (ht : t < os.length) : ∃ q : Nat, (servL os).getD t 0 = (q : Int) ∧ q < os.length := by
  have h := outS_mem (befO os) os.length _ (getD_mem (xs := servL os) (k := t) (by unfold servL; rw [outS_length]; exact ht))
  exact ⟨((servL os).getD t 0).toNat, by omega, by omega⟩
end Go.Proofs.Ytfnaenekdenmkaa

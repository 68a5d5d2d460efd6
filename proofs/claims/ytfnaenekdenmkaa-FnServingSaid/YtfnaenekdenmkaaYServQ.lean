/-
  Orders: the plain law of serving (sums, and the more urgent first).
-/
import Derived.Test.YtfnaenekdenmkaaYServO
import Derived.Test.YtfnaenekdenmkaaYMissQ
/-
  Orders: the plain law of serving (sums, and the more urgent first).
-/
namespace Go.Proofs.Ytfnaenekdenmkaa
set_option linter.unusedSimpArgs false
set_option linter.unusedVariables false
open Go.RowKit

theorem outS_perm (lt : Int → Int → Bool) : ∀ k, (outS lt k).Perm (idxL k)
  | 0 => List.Perm.refl _
  | k + 1 => by
    rw [outS, idxL_succ]
    refine List.perm_middle.trans ?_
    rw [List.take_append_drop]
    exact (List.Perm.cons _ (outS_perm lt k)).trans (List.perm_append_singleton _ _).symm
theorem idxL_nodup (n : Nat) : (idxL n).Nodup := by
  unfold List.Nodup idxL
  rw [List.pairwise_map]
  exact List.nodup_range.imp (fun h => by omega)
theorem servL_inj {os : List OrderI} {i j : Nat} (hi : i < os.length) (hj : j < os.length) (h : (servL os).getD i 0 = (servL os).getD j 0) : i = j := by
  have hn : (servL os).Nodup := (outS_perm _ _).nodup_iff.2 (idxL_nodup _)
  have hl := servL_length os
  have hp := List.pairwise_iff_getElem.1 hn
  rw [List.getD_eq_getElem?_getD, List.getD_eq_getElem?_getD, List.getElem?_eq_getElem (by omega), List.getElem?_eq_getElem (by omega)] at h
  rcases Nat.lt_trichotomy i j with h1 | h1 | h1
  · exact absurd h (hp i j (by omega) (by omega) h1)
  · exact h1
  · exact absurd h.symm (hp j i (by omega) (by omega) h1)
theorem scan_stop (lt : Int → Int → Bool) (x : Int) (A : List Int) : ∀ j, 0 < scanK lt x A j → lt x (A.getD (scanK lt x A j - 1) 0) = false
  | 0, h => by simp [scanK] at h
  | j + 1, h => by
    rw [scanK] at h ⊢
    cases hl : lt x (A.getD j 0)
    · rw [hl] at h
      simp only [Bool.false_eq_true, if_false, Nat.add_sub_cancel]
      exact hl
    · rw [hl] at h
      simp only [if_true] at h ⊢
      exact scan_stop lt x A j h
theorem scan_pass (lt : Int → Int → Bool) (x : Int) (A : List Int) : ∀ j m, scanK lt x A j ≤ m → m < j → lt x (A.getD m 0) = true
  | 0, m, _, h => by omega
  | j + 1, m, h, hm => by
    rw [scanK] at h
    cases hl : lt x (A.getD j 0)
    · rw [hl] at h
      simp only [Bool.false_eq_true, if_false] at h
      omega
    · rw [hl] at h
      simp only [if_true] at h
      by_cases e : m = j
      · subst e; exact hl
      · exact scan_pass lt x A j m h (by omega)
theorem outS_adj {lt : Int → Int → Bool} (ha : ∀ x y, lt x y = true → lt y x = false) : ∀ k i, i + 1 < k → lt ((outS lt k).getD (i + 1) 0) ((outS lt k).getD i 0) = false
  | 0, i, h => by omega
  | k + 1, i, hi => by
    have hl := outS_length lt k
    have hp := scanK_le lt (k : Int) (outS lt k) k
    have h1 := scan_stop lt (k : Int) (outS lt k) k
    have h2 := scan_pass lt (k : Int) (outS lt k) k
    have ih := outS_adj ha k
    rw [outS]
    generalize outS lt k = Q at hl hp h1 h2 ih
    generalize scanK lt (k : Int) Q k = p at hp h1 h2
    have g1 : ∀ m, m < p → (Q.take p ++ (k : Int) :: Q.drop p).getD m 0 = Q.getD m 0 := fun m hm => by
      rw [List.getD_eq_getElem?_getD, List.getD_eq_getElem?_getD, List.getElem?_append_left (by rw [List.length_take]; omega), List.getElem?_take, if_pos hm]
    have hlt : (Q.take p).length = p := by rw [List.length_take]; omega
    have g2 : (Q.take p ++ (k : Int) :: Q.drop p).getD p 0 = (k : Int) := by
      rw [List.getD_eq_getElem?_getD, List.getElem?_append_right (by omega), hlt, Nat.sub_self]
      rfl
    have g3 : ∀ m, p ≤ m → (Q.take p ++ (k : Int) :: Q.drop p).getD (m + 1) 0 = Q.getD m 0 := fun m hm => by
      rw [List.getD_eq_getElem?_getD, List.getD_eq_getElem?_getD, List.getElem?_append_right (by omega), hlt, show m + 1 - p = (m - p) + 1 by omega, List.getElem?_cons_succ, List.getElem?_drop, show p + (m - p) = m by omega]
    by_cases c1 : i + 1 < p
    · rw [g1 _ c1, g1 _ (by omega)]
      exact ih i (by omega)
    · by_cases c2 : i + 1 = p
      · subst c2
        rw [g2, g1 i (by omega)]
        have := h1 (by omega)
        rw [Nat.add_sub_cancel] at this
        exact this
      · by_cases c3 : i = p
        · subst c3
          rw [g3 i (Nat.le_refl _), g2]
          exact ha _ _ (h2 i (Nat.le_refl _) (by omega))
        · obtain ⟨m, rfl⟩ : ∃ m, i = m + 1 := ⟨i - 1, by omega⟩
          rw [g3 (m + 1) (by omega), g3 m (by omega)]
          exact ih m (by omega)
theorem befO_asym (os : List OrderI) (x y : Int) (h : befO os x y = true) : befO os y x = false := by
  unfold befO at h ⊢
  generalize (os.getD x.toNat OrderI.zero).ur = a at h ⊢
  generalize (os.getD y.toNat OrderI.zero).ur = b at h ⊢
  generalize (os.getD x.toNat OrderI.zero).tk = c at h ⊢
  generalize (os.getD y.toNat OrderI.zero).tk = d at h ⊢
  simp only [Bool.or_eq_true, Bool.and_eq_true, decide_eq_true_eq] at h
  rw [Bool.or_eq_false_iff, Bool.and_eq_false_iff, decide_eq_false_iff_not, decide_eq_false_iff_not, decide_eq_false_iff_not]
  omega
/-- the more urgent are served first -/
theorem servL_ur {os : List OrderI} {i : Nat} (h : i + 1 < os.length) : urAt os ((servL os).getD (i + 1) 0) ≤ urAt os ((servL os).getD i 0) := by
  have h1 := outS_adj (befO_asym os) os.length i h
  show urAt os ((outS (befO os) os.length).getD (i + 1) 0) ≤ urAt os ((outS (befO os) os.length).getD i 0)
  generalize (outS (befO os) os.length).getD (i + 1) 0 = x at h1 ⊢
  generalize (outS (befO os) os.length).getD i 0 = y at h1 ⊢
  unfold befO at h1
  rw [Bool.or_eq_false_iff, decide_eq_false_iff_not] at h1
  have := h1.1
  unfold urAt
  omega

theorem sum_setI : ∀ {xs : List Int} {k : Nat} {v : Int}, k < xs.length → (xs.set k v).sum = xs.sum - xs.getD k 0 + v
  | [], _, _, h => by simp at h
  | x :: xs, 0, v, _ => by
    rw [List.set_cons_zero, List.sum_cons, List.sum_cons, List.getD_cons_zero]
    omega
  | x :: xs, k + 1, v, h => by
    have := sum_setI (xs := xs) (k := k) (v := v) (by simpa using h)
    rw [List.set_cons_succ, List.sum_cons, List.sum_cons, List.getD_cons_succ, this]
    omega
def ctS (l : List StockI) : List Int := l.map StockI.ct
def ctO (l : List OrderI) : List Int := l.map OrderI.ct
theorem ctS_getD (l : List StockI) (k : Nat) : (ctS l).getD k 0 = (l.getD k StockI.zero).ct := by
  unfold ctS
  rw [List.getD_eq_getElem?_getD, List.getD_eq_getElem?_getD, List.getElem?_map]
  cases l[k]? <;> rfl
theorem ctO_getD (l : List OrderI) (k : Nat) : (ctO l).getD k 0 = (l.getD k OrderI.zero).ct := by
  unfold ctO
  rw [List.getD_eq_getElem?_getD, List.getD_eq_getElem?_getD, List.getElem?_map]
  cases l[k]? <;> rfl
theorem serv_sum {os : List OrderI} {ss : List StockI} : ∀ t, t ≤ os.length → (∀ q : Nat, (∀ j, j < t → (servL os).getD j 0 ≠ (q : Int)) → (servK os ss t).1.getD q 0 = 0) ∧ (servK os ss t).1.sum + (ctS (servK os ss t).2).sum = (ctS ss).sum
  | 0, _ => by
    refine ⟨fun q _ => ?_, ?_⟩
    · show (List.replicate os.length (0 : Int)).getD q 0 = 0
      rw [List.getD_eq_getElem?_getD, List.getElem?_replicate]
      split <;> rfl
    · show (List.replicate os.length (0 : Int)).sum + _ = _
      have : ∀ n, (List.replicate n (0 : Int)).sum = 0 := fun n => by
        induction n with
        | zero => rfl
        | succ n ih => rw [List.replicate_succ, List.sum_cons, ih]; rfl
      rw [this, Int.zero_add]
      rfl
  | t + 1, ht => by
    obtain ⟨h1, h2⟩ := serv_sum (os := os) (ss := ss) t (by omega)
    obtain ⟨m, hm, hmn⟩ := servL_mem (os := os) (t := t) (by omega)
    have hl1 := servK_len1 os ss t
    rw [servK, hm, stepS, Int.toNat_natCast]
    split
    · rename_i hh
      obtain ⟨p1, p2⟩ := hasK_pl hh
      have hz := h1 m (fun j hj e => by
        have := servL_inj (os := os) (i := j) (j := t) (by omega) (by omega) (e.trans hm.symm)
        omega)
      generalize minO _ _ = M
      refine ⟨fun q hq => ?_, ?_⟩
      · have hqm : m ≠ q := fun e => hq t (by omega) (by rw [hm, e])
        show ((servK os ss t).1.set m M).getD q 0 = 0
        rw [List.getD_eq_getElem?_getD, List.getElem?_set_ne hqm, ← List.getD_eq_getElem?_getD]
        exact h1 q fun j hj => hq j (by omega)
      · show ((servK os ss t).1.set m M).sum + (ctS ((servK os ss t).2.set _ _)).sum = _
        rw [sum_setI (by omega), hz]
        unfold ctS
        rw [List.map_set, sum_setI (by rw [List.length_map]; exact p1)]
        have := ctS_getD (servK os ss t).2 (plK (servK os ss t).2 (os.getD m OrderI.zero).kd)
        unfold ctS at this h2
        rw [this]
        dsimp only
        omega
    · exact ⟨fun q hq => h1 q fun j hj => hq j (by omega), h2⟩
theorem serve_sum (os : List OrderI) (ss : List StockI) : (ctS ss).sum - (ctS (leftL os ss)).sum = (gotL os ss).sum := by
  have := (serv_sum (os := os) (ss := ss) os.length (Nat.le_refl _)).2
  unfold leftL gotL
  omega
theorem sum_take_succ {xs : List Int} {k : Nat} (h : k < xs.length) : (xs.take (k + 1)).sum = (xs.take k).sum + xs.getD k 0 := by
  rw [List.take_succ_eq_append_getElem h, List.sum_append_int]
  simp [List.getD, h]
theorem open_sum {os : List OrderI} {gs : List Int} (hl : gs.length = os.length) (hg : ∀ k, gs.getD k 0 ≤ (os.getD k OrderI.zero).ct) : ∀ k, k ≤ os.length → ((ctO os).take k).sum - (ctO (openTo os gs k)).sum = (gs.take k).sum
  | 0, _ => rfl
  | k + 1, hk => by
    have ih := open_sum hl hg k (by omega)
    have h1 : k < (ctO os).length := by unfold ctO; rw [List.length_map]; omega
    rw [sum_take_succ h1, sum_take_succ (by omega : k < gs.length), ctO_getD, openTo]
    have h2 := hg k
    split
    · unfold ctO at ih ⊢
      rw [List.map_append, List.sum_append_int]
      have : (List.map OrderI.ct [lackO os gs k]).sum = (os.getD k OrderI.zero).ct - gs.getD k 0 := by
        show _ + (0 : Int) = _
        rw [Int.add_zero]
        rfl
      rw [this]
      omega
    · omega
theorem openL_sum {os : List OrderI} {ss : List StockI} (ho : ordersB os = true) : (ctO os).sum - (ctO (openL os ss)).sum = (gotL os ss).sum := by
  have h := open_sum (os := os) (gs := gotL os ss) (gotL_length os ss) (gotL_le ho) os.length (Nat.le_refl _)
  have hg := gotL_length os ss
  rw [List.take_of_length_le (by unfold ctO; rw [List.length_map]; exact Nat.le_refl _), List.take_of_length_le (by omega)] at h
  exact h
theorem putK_sum (kd : Bs) (n : Int) : ∀ l : List StockI, (ctS (putK kd n l)).sum = (ctS l).sum + n
  | [] => by show n + 0 = 0 + n; omega
  | s :: l => by
    have ih := putK_sum kd n l
    unfold ctS at ih ⊢
    unfold putK
    split
    · rw [List.map_cons, List.map_cons, List.sum_cons, List.sum_cons, ih]; omega
    · split
      · rw [List.map_cons, List.map_cons, List.sum_cons, List.sum_cons]
        show s.ct + n + _ = _
        omega
      · rw [List.map_cons, List.sum_cons]
        show n + _ = _
        omega
theorem putAll_sum : ∀ (m : Nat) (ol : List OrderI), ol.length = m → (ctS (putAll ol)).sum = (ctO ol).sum
  | 0, ol, h => by
    obtain rfl := List.eq_nil_of_length_eq_zero h
    rfl
  | m + 1, ol, h => by
    obtain ⟨ol', o, rfl⟩ : ∃ A' a, ol = A' ++ [a] := ⟨ol.dropLast, ol.getLast (by intro e; subst e; simp at h), (List.dropLast_concat_getLast _).symm⟩
    rw [putAll_snoc, putK_sum, putAll_sum m ol' (by simpa using h)]
    unfold ctO
    rw [List.map_append, List.sum_append_int]
    show _ = _ + (o.ct + 0)
    omega
/-- what is left is a store -/
theorem leftL_store {os : List OrderI} {ss : List StockI} (ho : ordersB os = true) (h : storeB ss = true) : storeB (leftL os ss) = true := by
  have hk := servK_kinds os ss os.length
  have hl := servK_len2 os ss os.length
  have hs := (servK_small ho h os.length).2
  have h1 := h
  unfold storeB at h1 ⊢
  rw [Bool.and_eq_true] at h1 ⊢
  unfold leftL
  generalize (servK os ss os.length).2 = x at hk hl hs
  refine ⟨?_, decide_eq_true (by have := of_decide_eq_true h1.2; omega)⟩
  unfold stTo
  rw [List.all_eq_true]
  intro k hkk
  have hkx := List.mem_range.1 hkk
  have hks : k < ss.length := by omega
  have e : ∀ j, (x.getD j StockI.zero).kd = (ss.getD j StockI.zero).kd := fun j => by rw [← kindL_getD, hk, kindL_getD]
  have h2 := st_ok h1.1 hks
  unfold stOK stockB at h2 ⊢
  rw [Bool.and_eq_true, Bool.and_eq_true] at h2
  have h3 := hs _ (getD_memO (d := StockI.zero) hkx)
  rw [e k, h2.1.1, show inB (x.getD k StockI.zero).ct 0 99 = true from decide_eq_true (by omega), e (k - 1), h2.2]
  rfl
theorem sum_bnd {xs : List Int} {B : Int} (hB : 0 ≤ B) (h : ∀ x ∈ xs, 0 ≤ x ∧ x ≤ B) : ∀ k, 0 ≤ (xs.take k).sum ∧ (xs.take k).sum ≤ B * (xs.length : Int) := by
  induction xs with
  | nil => intro k; rw [List.take_nil]; exact ⟨Int.le_refl _, by simp⟩
  | cons x xs ih =>
    intro k
    have hx := h x (List.mem_cons_self ..)
    have ih2 := ih fun y hy => h y (List.mem_cons_of_mem _ hy)
    have hm : B * ((x :: xs).length : Int) = B * (xs.length : Int) + B := by rw [List.length_cons]; push_cast; rw [Int.mul_add, Int.mul_one]
    rw [hm]
    cases k with
    | zero =>
      rw [List.take_zero]
      refine ⟨Int.le_refl _, ?_⟩
      have := ih2 0
      rw [List.take_zero] at this
      show (0 : Int) ≤ _
      have h0 : ([] : List Int).sum = 0 := rfl
      rw [h0] at this
      omega
    | succ k =>
      have := ih2 k
      rw [List.take_succ_cons, List.sum_cons]
      omega
end Go.Proofs.Ytfnaenekdenmkaa

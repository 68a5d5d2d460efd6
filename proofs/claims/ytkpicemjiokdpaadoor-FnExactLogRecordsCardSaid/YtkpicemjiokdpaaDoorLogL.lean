/-
  Logs: appended records, what is synced, what survives a crash. Plain Lean.
-/
import Derived.Test.YtkpicemjiokdpaaDoorLogP
namespace Go.Proofs.YtkpicemjiokdpaaDoor
set_option linter.unusedSimpArgs false
set_option linter.unusedVariables false

theorem open_take (s : Bs) : s.take (endB (openB s)) = linesB 0 (openB s) := by
  have h := congrArg (List.take (linesB 0 (openB s)).length) (open_pre s).1
  rw [List.take_left] at h
  exact h
theorem open_again (s : Bs) : openB (s.take (endB (openB s))) = openB s := by
  rw [open_take]
  obtain ⟨_, h2, h3⟩ := open_pre s
  exact open_lines h3 h2
theorem okI_mk {D P : Bs} {c : Int} {rs : List RecB} (j : Nat) (hj : j ≤ rs.length) (ho : openB (D ++ P) = rs) (hD : endB (rs.take j) = D.length) (he : endB rs = (D ++ P).length) (hc : c = rs.length) : okI D P c = true := by
  subst ho
  simp only [okI, Bool.and_eq_true, List.any_eq_true, List.mem_range, decide_eq_true_eq]
  exact ⟨⟨⟨j, by omega, hD⟩, he⟩, hc⟩
theorem okI_parts {D P : Bs} {c : Int} (h : okI D P c = true) : ∃ j, j ≤ (openB (D ++ P)).length ∧ endB ((openB (D ++ P)).take j) = D.length ∧ endB (openB (D ++ P)) = (D ++ P).length ∧ c = (openB (D ++ P)).length := by
  simp only [okI, Bool.and_eq_true, List.any_eq_true, List.mem_range, decide_eq_true_eq] at h
  obtain ⟨⟨⟨j, hj, hD⟩, he⟩, hc⟩ := h
  exact ⟨j, by omega, hD, he, hc⟩
/-- a log that has been recovered is valid -/
theorem okI_recover (s : Bs) : okI (s.take (endB (openB s))) [] (openB s).length = true := by
  refine okI_mk (rs := openB s) (openB s).length (Nat.le_refl _) ?_ ?_ ?_ rfl
  · rw [List.append_nil, open_again]
  · rw [List.take_of_length_le (Nat.le_refl _), open_take]
    rfl
  · rw [List.append_nil, open_take]
    rfl
theorem okI_sync {D P : Bs} {c : Int} (h : okI D P c = true) : okI (D ++ P) [] c = true := by
  obtain ⟨j, hj, hD, he, hc⟩ := okI_parts h
  refine okI_mk (rs := openB (D ++ P)) (openB (D ++ P)).length (Nat.le_refl _) (by rw [List.append_nil]) ?_ (by rw [List.append_nil]; exact he) hc
  rw [List.take_of_length_le (Nat.le_refl _)]
  exact he
theorem open_snoc {D P : Bs} {c : Int} (h : okI D P c = true) {e : RecB} (he : okB e = true) (hc : (openB (D ++ P)).length ≤ 59) : openB (D ++ (P ++ lineB (openB (D ++ P)).length e)) = openB (D ++ P) ++ [e] := by
  obtain ⟨h1, h2, h3, h4⟩ := ok_open h
  obtain ⟨_, g2, _⟩ := open_pre (D ++ P)
  have e1 : D ++ (P ++ lineB (openB (D ++ P)).length e) = linesB 0 (openB (D ++ P) ++ [e]) := by
    rw [linesB_append, ← h3, List.append_assoc]
    simp [linesB]
  rw [e1]
  refine open_lines (by rw [List.length_append, List.length_singleton]; omega) ?_
  intro x hx
  rcases List.mem_append.1 hx with hx | hx
  · exact g2 x hx
  · obtain rfl := List.mem_singleton.1 hx
    exact he
theorem okI_snoc {D P : Bs} {c : Int} (h : okI D P c = true) {e : RecB} (he : okB e = true) (hc : (openB (D ++ P)).length ≤ 59) : okI D (P ++ lineB (openB (D ++ P)).length e) (c + 1) = true := by
  have h1 := open_snoc h he hc
  obtain ⟨j, hj, hD, hE, hc'⟩ := okI_parts h
  refine okI_mk (rs := openB (D ++ P) ++ [e]) j (by rw [List.length_append]; omega) h1 ?_ ?_ ?_
  · rw [List.take_append_of_le_length hj]
    exact hD
  · rw [endB_snoc, hE]
    simp only [List.length_append]
    omega
  · rw [hc', List.length_append, List.length_singleton]
    omega
theorem open_durable {D P : Bs} {c : Int} (h : okI D P c = true) : endB (openB D) = D.length ∧ D = linesB 0 (openB D) := by
  rw [okI_okS] at h
  simp only [okS, Bool.and_eq_true, decide_eq_true_eq] at h
  have hD := h.2.1.2
  obtain ⟨g1, _, _⟩ := open_pre D
  rw [hD, List.drop_length, List.append_nil] at g1
  exact ⟨hD, g1⟩
theorem open_more {D : Bs} (h : D = linesB 0 (openB D)) (X : Bs) : ∃ r, openB (D ++ X) = openB D ++ r := by
  obtain ⟨_, g2, g3⟩ := open_pre D
  have := readN_lines (openB D) 60 0 X rfl g3 g2
  rw [← h] at this
  exact ⟨_, this⟩
theorem endB_append (rs qs : List RecB) : endB rs ≤ endB (rs ++ qs) := by
  unfold endB
  rw [linesB_append, List.length_append]
  omega
theorem endB_more {D : Bs} (h : D = linesB 0 (openB D)) (X : Bs) : D.length ≤ endB (openB (D ++ X)) := by
  obtain ⟨r, hr⟩ := open_more h X
  rw [hr]
  have h1 := endB_append (openB D) r
  have h2 := congrArg List.length h
  unfold endB at h1 ⊢
  omega

/-- all bytes of lines are small -/
theorem digits_small (n : Nat) : ∀ x ∈ Lib.decDigits n, x.toNat < 128 := fun x hx => by
  have := digit_bounds n x hx
  omega
theorem line_small {e : RecB} (h : okB e = true) (k : Nat) : ∀ x ∈ lineB k e, x.toNat < 128 := by
  obtain ⟨_, h1, _, h2⟩ := ok_parts h
  intro x hx
  simp only [lineB, sealB, payB, List.mem_append, List.mem_cons, List.mem_nil_iff, or_false] at hx
  rcases hx with ((hx | rfl | hx | rfl | hx) | rfl | hx) | rfl
  · exact digits_small k x hx
  · decide
  · have := (plain_parts h1).1 x hx; omega
  · decide
  · have := (plain_parts h2).1 x hx; omega
  · decide
  · exact digits_small _ x hx
  · decide
theorem lines_small : ∀ (rs : List RecB) (k : Nat), (∀ e ∈ rs, okB e = true) → ∀ x ∈ linesB k rs, x.toNat < 128
  | [], k, _, x, hx => by simp [linesB] at hx
  | e :: rs, k, ho, x, hx => by
    simp only [linesB, List.mem_append] at hx
    rcases hx with hx | hx
    · exact line_small (ho e (by simp)) k x hx
    · exact lines_small rs (k + 1) (fun y hy => ho y (by simp [hy])) x hx
/-- what has been read from a text that is cut, and perhaps spoilt at its end -/
theorem readN_cut : ∀ (f k : Nat) (y z z' : Bs), k + f = 60 → (∀ x ∈ z, 128 ≤ x.toNat) → readN f k (y ++ z) <+: readN f k (y ++ z')
  | 0, k, y, z, z', _, _ => by simp [readN]
  | f + 1, k, y, z, z', hf, hz => by
    cases hd : decB k (y ++ z) with
    | none => rw [readN_none hd]; exact List.nil_prefix
    | some p =>
      obtain ⟨e, n⟩ := p
      obtain ⟨h1, h2, h3, h4⟩ := decB_some hd
      have hle : n ≤ y.length := by
        apply Nat.le_of_not_lt
        intro hn
        have hlt : y.length < (y ++ z).length := by
          have := congrArg List.length h3
          simp only [List.length_append, List.length_drop] at this ⊢
          omega
        have hg : (y ++ z)[y.length]? = z[0]? := by rw [List.getElem?_append_right (Nat.le_refl _), Nat.sub_self]
        have hg2 : (y ++ z)[y.length]? = (lineB k e)[y.length]? := by rw [h3, List.getElem?_append_left (by omega)]
        have hzl : 0 < z.length := by simp only [List.length_append] at hlt; omega
        rw [hg, List.getElem?_eq_getElem hzl, List.getElem?_eq_getElem (by omega)] at hg2
        have e1 := Option.some.inj hg2
        have b1 := hz _ (List.getElem_mem hzl)
        have b2 := line_small h2 k _ (List.getElem_mem (show y.length < (lineB k e).length by omega))
        rw [← e1] at b2
        omega
      have hy : y = lineB k e ++ y.drop n := by
        have := congrArg (List.take n) h3
        rw [List.take_append_of_le_length hle, h4, List.take_left, ← h4] at this
        conv => lhs; rw [← List.take_append_drop n y, this]
      have ht : decB k (y ++ z') = some (e, n) := by
        have := decB_line h1 h2 (y.drop n ++ z')
        rw [← List.append_assoc, ← hy, ← h4] at this
        exact this
      rw [readN_some hd, readN_some ht, List.drop_append_of_le_length hle, List.drop_append_of_le_length hle]
      exact List.cons_prefix_cons.2 ⟨rfl, readN_cut f (k + 1) (y.drop n) z z' (by omega) hz⟩
theorem open_cut (y z z' : Bs) (hz : ∀ x ∈ z, 128 ≤ x.toNat) : openB (y ++ z) <+: openB (y ++ z') := readN_cut 60 0 y z z' rfl hz

/-- a line is read at its own place alone -/
theorem digits_zero {k : Nat} (h : Lib.decDigits k = Lib.decDigits 0) : k = 0 := by
  rw [Lib.decDigits_one (show 0 < 10 by decide)] at h
  by_cases hk : k < 10
  · rw [Lib.decDigits_one hk] at h
    have h1 := congrArg UInt8.toNat (List.cons.inj h).1
    rw [UInt8.toNat_ofNat', UInt8.toNat_ofNat'] at h1
    omega
  · rw [Lib.decDigits, dif_neg hk] at h
    have h1 := congrArg List.length h
    rw [List.length_append] at h1
    have : 0 < (Lib.decDigits (k / 10)).length := by
      rw [Lib.decDigits]
      split
      · simp
      · simp
    simp only [List.length_cons, List.length_nil] at h1
    omega
theorem bef_line (k : Nat) (e : RecB) (r : Bs) : befB 32 (lineB k e ++ r) = Lib.decDigits k := by
  have h : lineB k e ++ r = Lib.decDigits k ++ 32 :: (e.c ++ 64 :: e.r ++ 35 :: Lib.decDigits (sumB (payB k e)) ++ [10] ++ r) := by
    simp [lineB, sealB, payB]
  rw [h]
  exact (bef_at (digits_no (by decide) k)).1
theorem open_line_other {k : Nat} {e : RecB} (hk : k ≠ 0) : openB (lineB k e) = [] := by
  apply readN_none
  cases hd : decB 0 (lineB k e) with
  | none => rfl
  | some p =>
    obtain ⟨e', n⟩ := p
    obtain ⟨_, _, h3, _⟩ := decB_some hd
    have h1 := bef_line 0 e' ((lineB k e).drop n)
    rw [← h3] at h1
    have h2 := bef_line k e []
    rw [List.append_nil] at h2
    exact absurd (digits_zero (h2.symm.trans h1)) hk
theorem open_line_zero {e : RecB} (h : okB e = true) : openB (lineB 0 e) = [e] := by
  have := open_lines (rs := [e]) (by simp) (by simpa using h)
  simpa [linesB] using this
end Go.Proofs.YtkpicemjiokdpaaDoor

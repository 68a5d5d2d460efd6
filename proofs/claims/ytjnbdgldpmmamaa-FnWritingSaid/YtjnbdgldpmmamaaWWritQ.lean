/-
  The law on writing notes: the plain facts.
-/
import Derived.Test.YtjnbdgldpmmamaaWNbkW
import Derived.Test.YtjnbdgldpmmamaaWCplI
import Derived.Test.YtjnbdgldpmmamaaWLatI
import Derived.Test.YtjnbdgldpmmamaaWNoteS
/-
  The law on writing notes: the plain facts.
-/
namespace Go.Proofs.Ytjnbdgldpmmamaa
set_option linter.unusedSimpArgs false
set_option linter.unusedVariables false
open Go.RowKit

structure WrF (u : Int) (xs ys : List NoteI) (un : Int) (wd : Bs) (n1 : Nat) : Prop where
  len : (coreN ys).length = n1 + 1
  b1 : bookB u (coreN xs) = true
  b2 : bookB u (coreN ys) = true
  cmp : compB (coreN xs) = true → compB (coreN ys) = true
  lat : compB (coreN xs) = true → ∃ p : Nat, p < n1 + 1 ∧ latR u (coreN ys) = [(p : Int)] ∧ (ys.getD p NoteI.zero).un = un ∧ (ys.getD p NoteI.zero).wd = wd
  few : fewK u ys
theorem write_facts {u : Int} {xs ys : List NoteI} {un : Int} {wd : Bs} {n1 : Nat} {rv : List NoteC} (hq : writeB u (coreN xs) un wd = true) (hr : writeR u (coreN xs) un wd = rv) (hc : coreN ys = rv) (hl : xs.length = n1) (hf : fewK u xs) : WrF u xs ys un wd n1 := by
  have hk := write_keep hq hr hc hf
  have e : coreN ys = putN (newN u (coreN xs) un wd) (coreN xs) := by rw [hc, ← hr, writeR, hq]; rfl
  unfold writeB at hq
  simp only [Bool.and_eq_true] at hq
  have hlen : (coreN ys).length = n1 + 1 := by rw [e, putN_len, coreN_len, hl]
  refine ⟨hlen, hq.1.1, by rw [e]; exact hq.2, fun h => by rw [e]; exact write_comp hq.1.1 hq.1.2 h, fun h => ?_, hk⟩
  obtain ⟨p, h1, h2, h3⟩ := write_latest (wd := wd) hq.1.1 hq.1.2 h
  rw [← e] at h1 h2 h3
  rw [coreN_getD] at h3
  have h4 := congrArg NoteC.un h3
  have h5 := congrArg NoteC.wd h3
  refine ⟨p, by rw [← hlen]; exact h1, ?_, h4, h5⟩
  rw [latR, if_pos (by rw [e]; exact hq.2)]
  exact h2
/-- two notes of a valid notebook can be told apart -/
theorem book_cmp {u : Int} {xs : List NoteI} (hb : bookB u (coreN xs) = true) {i k : Nat} (hik : i < k) (hk : k < xs.length) : cmpB u (xs.getD i NoteI.zero).core (xs.getD k NoteI.zero).core = true ∧ cmpB u (xs.getD k NoteI.zero).core (xs.getD i NoteI.zero).core = true := by
  have h1 := book_note hb (k := i) (by rw [coreN_len]; omega)
  have h2 := book_note hb (k := k) (by rw [coreN_len]; omega)
  have ha := book_asc hb
  unfold ascN at ha
  rw [List.pairwise_iff_getElem] at ha
  have h3 := ha i k (by rw [coreN_len]; omega) (by rw [coreN_len]; omega) hik
  have e1 : (coreN xs)[i]'(by rw [coreN_len]; omega) = (xs.getD i NoteI.zero).core := by
    rw [← coreN_getD, List.getD_eq_getElem?_getD, List.getElem?_eq_getElem (by rw [coreN_len]; omega)]; rfl
  have e2 : (coreN xs)[k]'(by rw [coreN_len]; omega) = (xs.getD k NoteI.zero).core := by
    rw [← coreN_getD, List.getD_eq_getElem?_getD, List.getElem?_eq_getElem (by rw [coreN_len]; omega)]; rfl
  rw [e1, e2] at h3
  rw [coreN_getD] at h1 h2
  have hu : inB u 2 4 = true := by
    unfold bookB at hb
    simp only [Bool.and_eq_true] at hb
    exact hb.1.2
  have s1 : sameK (xs.getD i NoteI.zero).core (xs.getD k NoteI.zero).core = false := by
    cases hs : sameK (xs.getD i NoteI.zero).core (xs.getD k NoteI.zero).core with
    | false => rfl
    | true =>
      obtain ⟨q1, q2⟩ := sameK_true.1 hs
      unfold ltN at h3
      simp only [Bool.or_eq_true, Bool.and_eq_true, decide_eq_true_eq] at h3
      omega
  have s2 : sameK (xs.getD k NoteI.zero).core (xs.getD i NoteI.zero).core = false := by
    cases hs : sameK (xs.getD k NoteI.zero).core (xs.getD i NoteI.zero).core with
    | false => rfl
    | true =>
      obtain ⟨q1, q2⟩ := sameK_true.1 hs
      unfold ltN at h3
      simp only [Bool.or_eq_true, Bool.and_eq_true, decide_eq_true_eq] at h3
      omega
  refine ⟨?_, ?_⟩
  · unfold cmpB
    rw [hu, h1, h2, s1]; rfl
  · unfold cmpB
    rw [hu, h1, h2, s2]; rfl
end Go.Proofs.Ytjnbdgldpmmamaa

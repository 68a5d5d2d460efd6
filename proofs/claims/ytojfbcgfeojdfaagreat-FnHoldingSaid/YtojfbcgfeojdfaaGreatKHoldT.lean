/-
  What the law on holding asks for: chances.
-/
import Derived.Test.YtojfbcgfeojdfaaGreatKHoldR
import Derived.Test.YtojfbcgfeojdfaaGreatKScnD
/-
  What the law on holding asks for: chances.
-/
namespace Go.Proofs.YtojfbcgfeojdfaaGreat
set_option linter.unusedSimpArgs false
set_option linter.unusedVariables false
open Go.RowKit

theorem red_cross {s a : Int} (hs : 0 ≤ s) (ha : 0 < a) : redA s a * a = s * redB s a := by
  have hg := gcdI_pos (a := s) ha
  have h1 : gcdI s a ∣ s := by
    unfold gcdI
    have := Nat.gcd_dvd_left s.toNat a.toNat
    have h := Int.natCast_dvd_natCast.2 this
    rwa [Int.toNat_of_nonneg hs] at h
  have h2 : gcdI s a ∣ a := by
    unfold gcdI
    have := Nat.gcd_dvd_right s.toNat a.toNat
    have h := Int.natCast_dvd_natCast.2 this
    rwa [Int.toNat_of_nonneg (by omega)] at h
  unfold redA redB
  obtain ⟨p, hp⟩ := h1
  obtain ⟨q, hq⟩ := h2
  generalize gcdI s a = g at *
  have e1 : s / g = p := by rw [hp]; exact Int.mul_ediv_cancel_left _ (by omega)
  have e2 : a / g = q := by rw [hq]; exact Int.mul_ediv_cancel_left _ (by omega)
  rw [e1, e2, hp, hq]
  rw [Int.mul_assoc, Int.mul_left_comm]
theorem red_bnd {s a : Int} (hs : 0 ≤ s) (ha : 0 < a) : 0 ≤ redA s a ∧ redA s a ≤ s ∧ 0 ≤ redB s a ∧ redB s a ≤ a := by
  have hg := gcdI_pos (a := s) ha
  unfold redA redB
  exact ⟨Int.ediv_nonneg hs (by omega), Int.ediv_le_self _ hs, Int.ediv_nonneg (by omega) (by omega), Int.ediv_le_self _ (by omega)⟩
section
variable {W H : Int} {xs : List Int} {sc : List ScenarioI} {ss : List Int} {start : Int} {cu : List CutI} {ts : List Int}
theorem chance_ok {num den : Int} (h : chanceR W H xs sc ss start cu ts = ⟨num, den, true⟩) : (∀ x ∈ sc, scenB x = true) ∧ (1 ≤ sc.length ∧ sc.length ≤ 4) ∧ (num * wtS sc = wtS (sc.filter (hitB W.toNat xs.length xs ss start cu ts)) * den) ∧ ((0 ≤ num ∧ num ≤ 400) ∧ (0 ≤ den ∧ den ≤ 400)) ∧ ∀ x ∈ sc, doHoldR W H xs x.ph ss start cu ts = ⟨hitB W.toNat xs.length xs ss start cu ts x, true⟩ := by
  unfold chanceR at h
  split at h
  rotate_left
  · injection h with _ _ h3; cases h3
  rename_i hq
  rw [Bool.and_eq_true, Bool.and_eq_true] at hq
  obtain ⟨⟨h1, h2⟩, h3⟩ := hq
  injection h with e1 e2 _
  obtain ⟨hg, hen, hs, hst⟩ := blazeB_true h1
  obtain ⟨hsc, hl1, hl4⟩ := ensB_true hen
  have hb1 := wtS_bnd hsc
  have hb2 := wtS_fil (p := hitB W.toNat xs.length xs ss start cu ts) hsc
  have hrb := red_bnd (s := wtS (sc.filter (hitB W.toNat xs.length xs ss start cu ts))) (a := wtS sc) hb2.1 (by omega)
  refine ⟨hsc, ⟨hl1, hl4⟩, ?_, ?_, fun x hx => ?_⟩
  · rw [← e1, ← e2]
    exact red_cross hb2.1 (by omega)
  · rw [← e1, ← e2]
    omega
  · refine doHold_of ?_ h2 h3
    unfold askB
    rw [hg, scenB_ph (hsc x hx), hs]
    unfold inB
    rw [decide_eq_true hst]
    rfl
end
end Go.Proofs.YtojfbcgfeojdfaaGreat

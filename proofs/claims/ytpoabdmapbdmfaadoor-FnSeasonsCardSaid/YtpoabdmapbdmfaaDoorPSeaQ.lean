/-
  The law on seasons: what it needs, in plain Lean.
-/
import Derived.Test.YtpoabdmapbdmfaaDoorPMedP
import Derived.Test.YtpoabdmapbdmfaaDoorPSizes
import Derived.Test.YtpoabdmapbdmfaaDoorPRSum
/-
  The law on seasons: what it needs, in plain Lean.
-/
namespace Go.Proofs.YtpoabdmapbdmfaaDoor
set_option linter.unusedSimpArgs false
set_option linter.unusedVariables false
open Go.RowKit

theorem bump_sum : ∀ {l : List Int} {i : Nat}, i < l.length → (bump l i).sum = l.sum + 1
  | [], i, h => absurd h (by simp)
  | x :: l, 0, _ => by
    show ((x + 1) :: l).sum = (x :: l).sum + 1
    rw [List.sum_cons, List.sum_cons]
    omega
  | x :: l, i + 1, h => by
    have ih := bump_sum (l := l) (i := i) (by simpa using h)
    have e : bump (x :: l) (i + 1) = x :: bump l i := rfl
    rw [e, List.sum_cons, List.sum_cons, ih]
    omega
theorem sizes_sum (xs : List FireI) : (sizesF xs).sum = xs.length := by
  have : ∀ (ys : List FireI) (l : List Int), l.length = 5 → (ys.foldl (fun l x => bump l (classK x.hect)) l).sum = l.sum + ys.length := by
    intro ys
    induction ys with
    | nil => intro l _; simp
    | cons y ys ih =>
      intro l hl
      rw [List.foldl_cons, ih _ (by rw [bump, List.length_set]; exact hl), bump_sum (by have := classK_le y.hect; omega), List.length_cons]
      push_cast
      omega
  unfold sizesF
  rw [this xs _ rfl]
  show (0 : Int) + _ = _
  omega

/-- what the first k causes burned -/
def wholeC (xs : List FireI) : Nat → Int
  | 0 => 0
  | k + 1 => wholeC xs k + sumH (xs.filter (ofCause k))
theorem sumH_cons (x : FireI) (xs : List FireI) : sumH (x :: xs) = x.hect + sumH xs := rfl
theorem wholeC_cons (x : FireI) (xs : List FireI) : ∀ k : Nat, wholeC (x :: xs) k = wholeC xs k + (if 0 ≤ x.cause ∧ x.cause < k then x.hect else 0)
  | 0 => by
    rw [if_neg (by omega)]
    rfl
  | k + 1 => by
    have ih := wholeC_cons x xs k
    rw [wholeC, wholeC, ih, List.filter_cons]
    have hd : ofCause (k : Int) x = decide (x.cause = k) := rfl
    rw [hd]
    by_cases h : x.cause = k
    · rw [if_pos (decide_eq_true h), sumH_cons, if_neg (by omega), if_pos (by omega)]
      omega
    · have hf : (if decide (x.cause = (k : Int)) = true then x :: xs.filter (ofCause (k : Int)) else xs.filter (ofCause (k : Int))) = xs.filter (ofCause (k : Int)) := if_neg (by simpa using h)
      rw [hf]
      by_cases h2 : 0 ≤ x.cause ∧ x.cause < k
      · rw [if_pos h2, if_pos (by omega)]
        omega
      · rw [if_neg h2, if_neg (by omega)]
        omega
theorem wholeC_all {xs : List FireI} (h : ∀ x ∈ xs, fireB x = true) : wholeC xs 5 = sumH xs := by
  induction xs with
  | nil => rfl
  | cons x xs ih =>
    have hx := (fireB_true (h x (List.mem_cons_self ..))).2.1
    rw [wholeC_cons, sumH_cons, ih fun y hy => h y (List.mem_cons_of_mem _ hy), if_pos (by omega)]
    omega
theorem wholeC_bound {xs : List FireI} (h : seasonB xs = true) : ∀ k : Nat, 0 ≤ wholeC xs k ∧ wholeC xs k ≤ 1500000 * k
  | 0 => ⟨Int.le_refl _, Int.le_refl _⟩
  | k + 1 => by
    have ih := wholeC_bound h k
    have := sumH_filter (ofCause k) h
    rw [wholeC]
    push_cast
    omega

theorem red_parts {s t : Int} (hs : 0 ≤ s) (ht : 0 < t) :
    0 ≤ redA s t ∧ redA s t ≤ s ∧ 1 ≤ redB s t ∧ redB s t ≤ t ∧ t % redB s t = 0 ∧ redA s t * (t / redB s t) = s ∧ 1 ≤ t / redB s t ∧ t / redB s t ≤ t := by
  obtain ⟨a, rfl⟩ : ∃ a : Nat, s = a := ⟨s.toNat, by omega⟩
  obtain ⟨b, rfl⟩ : ∃ b : Nat, t = b := ⟨t.toNat, by omega⟩
  have hb : 0 < b := by omega
  obtain ⟨g, hg⟩ : ∃ g, Nat.gcd a b = g := ⟨_, rfl⟩
  have g0 : 0 < g := by rw [← hg]; exact Nat.gcd_pos_of_pos_right a hb
  obtain ⟨u, hu⟩ : g ∣ a := by rw [← hg]; exact Nat.gcd_dvd_left a b
  obtain ⟨v, hv⟩ : g ∣ b := by rw [← hg]; exact Nat.gcd_dvd_right a b
  have e1 : redA (a : Int) b = (u : Int) := by
    unfold redA gcdI
    rw [Int.toNat_natCast, Int.toNat_natCast, hg, hu, ← Int.natCast_ediv, Nat.mul_div_cancel_left _ g0]
  have e2 : redB (a : Int) b = (v : Int) := by
    unfold redB gcdI
    rw [Int.toNat_natCast, Int.toNat_natCast, hg, hv, ← Int.natCast_ediv, Nat.mul_div_cancel_left _ g0]
  have v0 : 0 < v := by
    rcases Nat.eq_zero_or_pos v with h | h
    · rw [h] at hv; omega
    · exact h
  rw [e1, e2]
  have e3 : (b : Int) / v = (g : Int) := by rw [hv, ← Int.natCast_ediv, Nat.mul_div_cancel _ v0]
  have e4 : (b : Int) % v = 0 := by rw [hv, ← Int.natCast_emod, Nat.mul_mod_left]; rfl
  rw [e3, e4]
  have m1 : u ≤ a := by rw [hu]; exact Nat.le_mul_of_pos_left _ g0
  have m2 : v ≤ b := by rw [hv]; exact Nat.le_mul_of_pos_left _ g0
  have m3 : g ≤ b := by rw [hv]; exact Nat.le_mul_of_pos_right _ v0
  have m4 : (u : Int) * g = a := by rw [hu]; push_cast; exact Int.mul_comm _ _
  refine ⟨by omega, by omega, by omega, by omega, rfl, m4, by omega, by omega⟩

structure ShareF (xs : List FireI) (k : Nat) (a b q : Int) : Prop where
  a0 : 0 ≤ a
  a1 : a ≤ 1500000
  b0 : 1 ≤ b
  b1 : b ≤ 1500000
  md : (sumH xs).tmod b = 0
  dv : (sumH xs).tdiv b = q
  q0 : 1 ≤ q
  q1 : q ≤ 1500000
  pr : wholeC xs (k + 1) = wholeC xs k + a * q
  p0 : 0 ≤ a * q
  p1 : a * q ≤ 1500000
theorem share_facts {xs : List FireI} (h : seasonB xs = true) (h0 : 0 < sumH xs) {k : Nat} (hk : k ≤ 4) : ∃ a b q, shareR xs k = ⟨a, b, true⟩ ∧ ShareF xs k a b q := by
  have hall := sumH_bound (seasonB_true h).2
  have hlen := (seasonB_true h).1
  have hf := sumH_filter (ofCause k) h
  have hw : wholeC xs (k + 1) = wholeC xs k + sumH (xs.filter (ofCause k)) := rfl
  obtain ⟨p1, p2, p3, p4, p5, p6, p7, p8⟩ := red_parts (s := sumH (xs.filter (ofCause k))) hf.1 h0
  refine ⟨redA (sumH (xs.filter (ofCause k))) (sumH xs), redB (sumH (xs.filter (ofCause k))) (sumH xs), sumH xs / redB (sumH (xs.filter (ofCause k))) (sumH xs), ?_, ?_⟩
  · rw [shareR, h, show inB (k : Int) 0 4 = true from by unfold inB; simp; omega, show (sumH xs == 0) = false from by rw [beq_eq_false_iff_ne]; omega]
    rfl
  · refine ⟨p1, by omega, p3, by omega, ?_, ?_, p7, by omega, by rw [hw, p6], by rw [p6]; omega, by rw [p6]; omega⟩
    · rw [Int.tmod_eq_emod_of_nonneg (by omega), p5]
    · rw [Int.tdiv_eq_ediv_of_nonneg (by omega)]

/-- how many of the first k fires have fewer, more hours -/
def belowK (xs : List FireI) (a b : Int) (k : Nat) : Nat := (xs.take k).countP fun x => decide (x.hours * b < a)
def aboveK (xs : List FireI) (a b : Int) (k : Nat) : Nat := (xs.take k).countP fun x => decide (a < x.hours * b)
theorem take_fire {xs : List FireI} {k : Nat} (h : k < xs.length) : xs.take (k + 1) = xs.take k ++ [xs.getD k FireI.zero] := by
  rw [List.take_succ_eq_append_getElem h]
  simp [List.getD, h]
theorem belowK_succ {xs : List FireI} {a b : Int} {k : Nat} (h : k < xs.length) : belowK xs a b (k + 1) = belowK xs a b k + (if (xs.getD k FireI.zero).hours * b < a then 1 else 0) := by
  unfold belowK
  rw [take_fire h, List.countP_append]
  simp [List.countP_cons]
theorem aboveK_succ {xs : List FireI} {a b : Int} {k : Nat} (h : k < xs.length) : aboveK xs a b (k + 1) = aboveK xs a b k + (if a < (xs.getD k FireI.zero).hours * b then 1 else 0) := by
  unfold aboveK
  rw [take_fire h, List.countP_append]
  simp [List.countP_cons]
theorem belowK_le (xs : List FireI) (a b : Int) (k : Nat) : belowK xs a b k ≤ k := by
  have := List.countP_le_length (p := fun x : FireI => decide (x.hours * b < a)) (l := xs.take k)
  rw [List.length_take] at this
  unfold belowK
  omega
theorem aboveK_le (xs : List FireI) (a b : Int) (k : Nat) : aboveK xs a b k ≤ k := by
  have := List.countP_le_length (p := fun x : FireI => decide (a < x.hours * b)) (l := xs.take k)
  rw [List.length_take] at this
  unfold aboveK
  omega
/-- in an ordered list few are less than the middle, and few are more -/
theorem sorted_low {S : List Int} (hS : S.Pairwise (· ≤ ·)) {m : Nat} (p : Int → Bool) (hp : ∀ y, p y = true → y < S.getD m 0) (hm : m < S.length) : S.countP p ≤ m := by
  have h1 : S.countP p = (S.take m).countP p + (S.drop m).countP p := by rw [← List.countP_append, List.take_append_drop]
  have h2 : (S.drop m).countP p = 0 := by
    rw [List.countP_eq_zero]
    intro y hy h
    obtain ⟨i, hi, rfl⟩ := List.mem_iff_getElem.1 hy
    rw [List.length_drop] at hi
    rw [List.getElem_drop] at h
    have h3 := hp _ h
    rw [List.getD_eq_getElem?_getD, List.getElem?_eq_getElem hm] at h3
    simp only [Option.getD_some] at h3
    rcases Nat.eq_zero_or_pos i with rfl | h0
    · simp only [Nat.add_zero] at h3
      omega
    · have := (List.pairwise_iff_getElem.1 hS) m (m + i) hm (by omega) (by omega)
      omega
  have h3 := List.countP_le_length (p := p) (l := S.take m)
  rw [List.length_take] at h3
  omega
theorem sorted_high {S : List Int} (hS : S.Pairwise (· ≤ ·)) {m : Nat} (p : Int → Bool) (hp : ∀ y, p y = true → S.getD m 0 < y) (hm : m < S.length) : S.countP p ≤ S.length - (m + 1) := by
  have h1 : S.countP p = (S.take (m + 1)).countP p + (S.drop (m + 1)).countP p := by rw [← List.countP_append, List.take_append_drop]
  have h2 : (S.take (m + 1)).countP p = 0 := by
    rw [List.countP_eq_zero]
    intro y hy h
    obtain ⟨i, hi, rfl⟩ := List.mem_iff_getElem.1 hy
    rw [List.length_take] at hi
    rw [List.getElem_take] at h
    have h3 := hp _ h
    rw [List.getD_eq_getElem?_getD, List.getElem?_eq_getElem hm] at h3
    simp only [Option.getD_some] at h3
    rcases Nat.lt_or_ge i m with h0 | h0
    · have := (List.pairwise_iff_getElem.1 hS) i m (by omega) hm h0
      omega
    · obtain rfl : i = m := by omega
      omega
  have h3 := List.countP_le_length (p := p) (l := S.drop (m + 1))
  rw [List.length_drop] at h3
  omega
structure MedF (xs : List FireI) (a b : Int) : Prop where
  a0 : 0 ≤ a
  a1 : a ≤ 4000
  b0 : 1 ≤ b
  b1 : b ≤ 2
  lo : 2 * belowK xs a b xs.length ≤ xs.length
  hi : 2 * aboveK xs a b xs.length ≤ xs.length
theorem med_facts {xs : List FireI} (h : seasonB xs = true) (h0 : 0 < xs.length) : ∃ a b, medR xs = ⟨a, b, true⟩ ∧ MedF xs a b := by
  have hall := (seasonB_true h).2
  have hl := insS_length (hrsL xs) xs.length
  have hs := insS_sorted (hrsL xs) xs.length
  have hperm := insS_perm (hrsL xs) xs.length (by simp [hrsL])
  rw [List.take_of_length_le (by simp [hrsL])] at hperm
  have hget : ∀ m, m < xs.length → 1 ≤ (insS (hrsL xs) xs.length).getD m 0 ∧ (insS (hrsL xs) xs.length).getD m 0 ≤ 2000 := fun m hm => hrs_bound hall (Nat.le_refl _) (getD_mem (by omega))
  have e : medR xs = ⟨redA (medS xs) 2, redB (medS xs) 2, true⟩ := by
    rw [medR, h, show (xs.length == 0) = false from by rw [beq_eq_false_iff_ne]; omega]
    rfl
  have h1 := hget ((xs.length - 1) / 2) (by omega)
  have h2 := hget (xs.length / 2) (by omega)
  have hle : (insS (hrsL xs) xs.length).getD ((xs.length - 1) / 2) 0 ≤ (insS (hrsL xs) xs.length).getD (xs.length / 2) 0 := by
    rw [List.getD_eq_getElem?_getD, List.getD_eq_getElem?_getD, List.getElem?_eq_getElem (by omega), List.getElem?_eq_getElem (by omega)]
    simp only [Option.getD_some]
    rcases Nat.lt_or_ge ((xs.length - 1) / 2) (xs.length / 2) with g | g
    · exact (List.pairwise_iff_getElem.1 hs) _ _ (by omega) (by omega) g
    · have : (xs.length - 1) / 2 = xs.length / 2 := by omega
      simp only [this]
      exact Int.le_refl _
  have hm : medS xs = (insS (hrsL xs) xs.length).getD ((xs.length - 1) / 2) 0 + (insS (hrsL xs) xs.length).getD (xs.length / 2) 0 := rfl
  have hc : ∀ p : Int → Bool, (xs.countP fun x => p x.hours) = (insS (hrsL xs) xs.length).countP p := by
    intro p
    rw [hperm.countP_eq]
    unfold hrsL
    rw [List.countP_map]
    rfl
  obtain ⟨p1, p2, p3, p4, p5, p6, p7, p8⟩ := red_parts (s := medS xs) (t := 2) (by omega) (by omega)
  refine ⟨_, _, e, p1, by omega, p3, p4, ?_, ?_⟩
  all_goals generalize redA (medS xs) 2 = a at *
  all_goals generalize redB (medS xs) 2 = b at *
  all_goals have hb : b = 1 ∨ b = 2 := by omega
  · unfold belowK
    rw [List.take_of_length_le (Nat.le_refl _), hc (fun y => decide (y * b < a))]
    have := sorted_low hs (m := xs.length / 2) (fun y => decide (y * b < a)) (fun y hy => by
      have hy2 := of_decide_eq_true hy
      rcases hb with rfl | rfl
      · simp at p6; omega
      · simp at p6; omega) (by omega)
    omega
  · unfold aboveK
    rw [List.take_of_length_le (Nat.le_refl _), hc (fun y => decide (a < y * b))]
    have := sorted_high hs (m := (xs.length - 1) / 2) (fun y => decide (a < y * b)) (fun y hy => by
      have hy2 := of_decide_eq_true hy
      rcases hb with rfl | rfl
      · simp at p6; omega
      · simp at p6; omega) (by omega)
    omega
end Go.Proofs.YtpoabdmapbdmfaaDoor

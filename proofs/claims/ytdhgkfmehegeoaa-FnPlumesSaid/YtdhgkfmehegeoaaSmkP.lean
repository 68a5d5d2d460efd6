/-
  Plain laws for smoke: what is there and what has left are together what was there; where a wind comes from.
-/
import Derived.Test.YtdhgkfmehegeoaaRunS
import Derived.Test.YtdhgkfmehegeoaaRise
import Derived.Test.YtdhgkfmehegeoaaLawV
namespace Go.Proofs.Ytdhgkfmehegeoaa
set_option linter.unusedSimpArgs false
set_option linter.unusedVariables false
open Go.RowKit

theorem sum_take {xs : List Int} {k : Nat} (hk : k < xs.length) : (xs.take (k + 1)).sum = (xs.take k).sum + xs.getD k 0 := by
  rw [take_succ' hk, List.sum_append]
  simp
theorem sum_bound {xs : List Int} (h : ∀ x ∈ xs, 0 ≤ x ∧ x ≤ 10000) : 0 ≤ xs.sum ∧ xs.sum ≤ 10000 * xs.length := by
  induction xs with
  | nil => simp
  | cons x xs ih =>
    have h1 := ih (fun y hy => h y (by simp [hy]))
    have h2 := h x (by simp)
    simp only [List.sum_cons, List.length_cons]
    omega
theorem sum_set {xs : List Int} {k : Nat} {v : Int} (hk : k < xs.length) : (xs.set k v).sum = xs.sum - xs.getD k 0 + v := by
  induction xs generalizing k with
  | nil => simp at hk
  | cons x xs ih =>
    cases k with
    | zero => simp; omega
    | succ k =>
      have := ih (k := k) (by simpa using hk)
      simp only [List.set_cons_succ, List.sum_cons, List.getD_cons_succ]
      omega
theorem sum_blowK {W H : Nat} {e s q : Int} {xs : List Int} (hl : xs.length = W * H) : ∀ k, k ≤ xs.length → (blowK W H e s q xs k).sum + leftK W H e s q xs k = xs.sum
  | 0, _ => by simp [blowK, leftK]
  | k + 1, hk => by
    have ih := sum_blowK (e := e) (s := s) (q := q) hl k (by omega)
    have hlk := blowK_length W H e s q xs k
    simp only [blowK, leftK]
    split
    · rename_i h0
      have h1 := toI_lt h0
      rw [sum_set (by rw [List.length_set, hlk, hl]; omega), sum_set (by rw [hlk]; omega)]
      omega
    · rw [sum_set (by rw [hlk]; omega)]
      omega
theorem settle_sum (p : Int) (xs : List Int) : (settleL p xs).sum + settleT p xs = xs.sum := by
  induction xs with
  | nil => rfl
  | cons x xs ih =>
    simp only [settleL, settleT, List.map_cons, List.sum_cons] at ih ⊢
    omega
theorem goodB_len {m : Int} {Wn Hn : Nat} {zs : List Int} (h : goodB m Wn Hn zs = true) : zs.length = Wn * Hn ∧ Wn * Hn ≤ 25 ∧ 1 ≤ Wn ∧ Wn ≤ 5 ∧ 1 ≤ Hn ∧ Hn ≤ 5 ∧ ∀ x ∈ zs, 0 ≤ x ∧ x ≤ m := by
  obtain ⟨Wn', Hn', e1, e2, p1, p2, p3, p4, hl, h25, ha⟩ := goodB_true h
  obtain rfl : Wn = Wn' := by omega
  obtain rfl : Hn = Hn' := by omega
  exact ⟨hl, by omega, p1, p2, p3, p4, ha⟩
theorem run_sum {Wn Hn : Nat} : ∀ {ws : List WindI} {xs zs : List Int} {t u : Int}, goodB 10000 Wn Hn xs = true → runF Wn Hn xs t ws = some (zs, u) → goodB 10000 Wn Hn zs = true ∧ zs.sum + u = xs.sum + t ∧ t ≤ u
  | [], xs, zs, t, u, hg, h => by
    simp only [runF, Option.some.injEq, Prod.mk.injEq] at h
    obtain ⟨rfl, rfl⟩ := h
    exact ⟨hg, rfl, Int.le_refl _⟩
  | v :: ws, xs, zs, t, u, hg, h => by
    simp only [runF] at h
    split at h
    · rename_i hc
      rw [Bool.and_eq_true] at hc
      obtain ⟨hl, h25, _, _, _, _, ha⟩ := goodB_len hg
      have h1 := sum_blowK (e := v.e) (s := v.s) (q := v.q) hl xs.length (Nat.le_refl _)
      have h2 := leftK_bound (W := Wn) (H := Hn) (e := v.e) (s := v.s) (windB_true hc.1).2.2 ha xs.length (Nat.le_refl _)
      obtain ⟨a, b, c⟩ := run_sum hc.2 h
      exact ⟨a, by omega, by omega⟩
    · cases h
/-- winds that have run -/
theorem runR_ok {W H : Int} {xs : List Int} {ws : List WindI} {g : Grid} {u : Int} (h : runR W H xs ws = ⟨g, u, true⟩) : goodB 10000 W H xs = true ∧ g.W = W ∧ g.H = H ∧ goodB 10000 W H g.zs = true ∧ xs.sum = g.zs.sum + u ∧ 0 ≤ u := by
  unfold runR at h
  split at h
  · rename_i hc
    rw [Bool.and_eq_true] at hc
    obtain ⟨Wn, Hn, rfl, rfl, -⟩ := goodB_true hc.1
    simp only [Int.toNat_natCast] at h
    split at h
    · rename_i r hr
      injection h with h1 h2 h3
      subst h1 h2
      obtain ⟨a, b, c⟩ := run_sum (zs := r.1) (u := r.2) hc.1 hr
      exact ⟨hc.1, rfl, rfl, a, by show xs.sum = r.1.sum + r.2; omega, c⟩
    · cases h
  · cases h
theorem settleR_ok {W H p : Int} {xs : List Int} {g : Grid} {u : Int} (h : settleR W H xs p = ⟨g, u, true⟩) : goodB 10000 W H xs = true ∧ g.W = W ∧ g.H = H ∧ goodB 10000 W H g.zs = true ∧ xs.sum = g.zs.sum + u ∧ 0 ≤ u := by
  unfold settleR at h
  split at h
  · rename_i hc
    rw [Bool.and_eq_true] at hc
    injection h with h1 h2 h3
    subst h1 h2
    obtain ⟨p0, p1⟩ := inB_true hc.2
    obtain ⟨Wn, Hn, rfl, rfl, q1, q2, q3, q4, hl, h25, ha⟩ := goodB_true hc.1
    have hb := settleT_bound (p := p) ⟨p0, p1⟩ ha
    refine ⟨hc.1, rfl, rfl, ?_, by have := settle_sum p xs; show xs.sum = (settleL p xs).sum + settleT p xs; omega, hb.1⟩
    have hc1 := hc.1
    unfold goodB at hc1 ⊢
    simp only [Bool.and_eq_true, List.all_eq_true, decide_eq_true_eq] at hc1 ⊢
    refine ⟨⟨hc1.1.1, by simpa [settleL] using hc1.1.2⟩, fun y hy => ?_⟩
    obtain ⟨x, hx, rfl⟩ := List.mem_map.1 hy
    obtain ⟨x0, x1⟩ := ha x hx
    obtain ⟨y0, y1⟩ := mul_bound (a := 10000) (b := 100) x0 x1 p0 p1
    have h3 : x * p ≤ x * 100 := Int.mul_le_mul_of_nonneg_left p1 x0
    unfold inB
    exact decide_eq_true (by omega)
  · cases h
/-- a cell and the cell from which the wind comes -/
theorem toI_back {W H : Nat} {e s : Int} {i c : Nat} (hi : i < W * H) (h : toI W H e s i = (c : Int)) : toI W H (-e) (-s) c = (i : Int) := by
  have hW : 0 < W := by
    rcases Nat.eq_zero_or_pos W with e | e
    · subst e; simp at hi
    · exact e
  unfold toI at h
  split at h
  · rename_i hc
    rw [Bool.and_eq_true] at hc
    obtain ⟨⟨a0, a1⟩, b0, b1⟩ := And.intro (inB_true hc.1) (inB_true hc.2)
    have hr : i % W < W := Nat.mod_lt _ hW
    have hq : i / W < H := Nat.div_lt_of_lt_mul (by rw [Nat.mul_comm] at hi; rw [Nat.mul_comm]; exact hi)
    have hdm : i / W * W + i % W = i := by rw [Nat.mul_comm]; exact Nat.div_add_mod i W
    generalize i % W = ir at hr hdm a0 a1 h
    generalize i / W = iq at hq hdm b0 b1 h
    obtain ⟨y, hy⟩ := Int.eq_ofNat_of_zero_le b0
    obtain ⟨x, hx⟩ := Int.eq_ofNat_of_zero_le a0
    rw [hx, hy] at h
    have hxW : x < W := by omega
    have hc2 : c = y * W + x := by exact_mod_cast h.symm
    have hcm : c % W = x := by rw [hc2, Nat.add_comm, Nat.add_mul_mod_self_right]; exact Nat.mod_eq_of_lt hxW
    have hcd : c / W = y := by rw [hc2, Nat.add_comm, Nat.add_mul_div_right _ _ hW, Nat.div_eq_of_lt hxW, Nat.zero_add]
    unfold toI
    rw [hcm, hcd]
    have e1 : (x : Int) + -e = (ir : Int) := by omega
    have e2 : (y : Int) + -s = (iq : Int) := by omega
    rw [e1, e2, if_pos (by unfold inB; simp only [Bool.and_eq_true, decide_eq_true_eq]; omega)]
    exact_mod_cast hdm
  · omega
theorem toI_iff {W H : Nat} {e s : Int} {i c : Nat} (hi : i < W * H) (hc : c < W * H) : toI W H e s i = (c : Int) ↔ toI W H (-e) (-s) c = (i : Int) := by
  refine ⟨toI_back hi, fun h => ?_⟩
  have := toI_back hc h
  rwa [Int.neg_neg, Int.neg_neg] at this
/-- the cells up to the k-th from which the wind comes to c -/
def fromT (W H : Nat) (e s q : Int) (xs : List Int) (c : Int) : Nat → List Int
  | 0 => []
  | k + 1 => if toI W H e s k = c ∧ 0 < partI q xs k then fromT W H e s q xs c k ++ [(k : Int)] else fromT W H e s q xs c k
def fromL (W H : Nat) (e s q : Int) (xs : List Int) (c : Nat) : List Int := if 0 ≤ toI W H (-e) (-s) c ∧ 0 < partI q xs (toI W H (-e) (-s) c).toNat then [toI W H (-e) (-s) c] else []
theorem fromT_eq {W H : Nat} {e s q : Int} {xs : List Int} {c : Nat} (hc : c < W * H) : ∀ k, k ≤ W * H → fromT W H e s q xs c k = if toI W H (-e) (-s) c < k then fromL W H e s q xs c else []
  | 0, _ => by
    unfold fromT fromL
    split
    · rw [if_neg (by rintro ⟨h, _⟩; omega)]
    · rfl
  | k + 1, hk => by
    have ih := fromT_eq (e := e) (s := s) (q := q) (xs := xs) hc k (by omega)
    have hiff := toI_iff (e := e) (s := s) (i := k) (by omega) hc
    simp only [fromT]
    rw [ih]
    obtain ⟨f, hf⟩ : ∃ f, toI W H (-e) (-s) c = f := ⟨_, rfl⟩
    unfold fromL
    rw [hf] at hiff ⊢
    by_cases hfk : f = k
    · subst hfk
      have h1 := hiff.2 rfl
      rw [if_neg (show ¬ ((k : Int) < k) by omega), if_pos (show (k : Int) < (k + 1 : Nat) by omega)]
      by_cases hp : 0 < partI q xs k
      · rw [if_pos ⟨h1, hp⟩, if_pos ⟨by omega, by rwa [Int.toNat_natCast]⟩]
        rfl
      · rw [if_neg (fun h => hp h.2), if_neg (fun h => hp (by have := h.2; rwa [Int.toNat_natCast] at this))]
    · rw [if_neg (fun h => hfk (hiff.1 h.1))]
      by_cases h2 : f < k
      · rw [if_pos h2, if_pos (show f < (k + 1 : Nat) by omega)]
      · rw [if_neg h2, if_neg (show ¬ f < (k + 1 : Nat) by omega)]
theorem fromT_all {W H : Nat} {e s q : Int} {xs : List Int} {c : Nat} (hc : c < W * H) : fromT W H e s q xs c (W * H) = fromL W H e s q xs c := by
  rw [fromT_eq hc _ (Nat.le_refl _)]
  split
  · rfl
  · rename_i h
    unfold fromL
    rw [if_neg]
    rintro ⟨h1, _⟩
    exact h (toI_lt h1)
theorem getD_setV {xs : List Int} {k c : Nat} {v : Int} (hk : k < xs.length) : (xs.set k v).getD c 0 = if c = k then v else xs.getD c 0 := by
  rw [List.getD_eq_getElem?_getD, List.getD_eq_getElem?_getD, List.getElem?_set]
  by_cases h : k = c
  · subst h; simp [hk]
  · rw [if_neg h, if_neg (fun e => h e.symm)]
/-- so much at least is at a cell after a wind -/
theorem blowK_ge {W H : Nat} {e s q : Int} {xs : List Int} (hq : 1 ≤ q ∧ q ≤ 10) (hx : ∀ x ∈ xs, 0 ≤ x ∧ x ≤ 10000) (hl : xs.length = W * H) {c : Nat} (hc : c < xs.length) : ∀ k, k ≤ xs.length →
    xs.getD c 0 - (if c < k then partI q xs c else 0) + (if 0 ≤ toI W H (-e) (-s) c ∧ toI W H (-e) (-s) c < k then partI q xs (toI W H (-e) (-s) c).toNat else 0) ≤ (blowK W H e s q xs k).getD c 0
  | 0, _ => by
    rw [if_neg (by omega), if_neg (by omega)]
    simp [blowK]
  | k + 1, hk => by
    have ih := blowK_ge (e := e) (s := s) hq hx hl hc k (by omega)
    have hlk := blowK_length W H e s q xs k
    have hp := part_bound hq hx (k := k) (by omega)
    have hiff := toI_iff (W := W) (H := H) (e := e) (s := s) (i := k) (c := c) (by omega) (by omega)
    obtain ⟨f, hf⟩ : ∃ f, toI W H (-e) (-s) c = f := ⟨_, rfl⟩
    rw [hf] at ih hiff ⊢
    have h1 : ∀ v, ((blowK W H e s q xs k).set k v).getD c 0 = if c = k then v else (blowK W H e s q xs k).getD c 0 := fun v => getD_setV (by omega)
    obtain ⟨ys, hys⟩ : ∃ ys, blowK W H e s q xs k = ys := ⟨_, rfl⟩
    rw [hys] at ih h1 hlk
    simp only [blowK, hys]
    obtain ⟨t, ht⟩ : ∃ t, toI W H e s k = t := ⟨_, rfl⟩
    have htl : 0 ≤ t → t < (W * H : Nat) := by rw [← ht]; exact toI_lt
    rw [ht] at hiff ⊢
    have h0 : (ys.set k (ys.getD k 0 - partI q xs k)).getD c 0 = ys.getD c 0 - (if c = k then partI q xs k else 0) := by
      rw [h1]
      split
      · rename_i e; subst e; rfl
      · omega
    have h2 : (if c < k + 1 then partI q xs c else 0) = (if c < k then partI q xs c else 0) + (if c = k then partI q xs k else 0) := by
      rcases Nat.lt_trichotomy c k with h | h | h
      · rw [if_pos (by omega), if_pos h, if_neg (by omega)]; omega
      · subst h; rw [if_pos (by omega), if_neg (by omega), if_pos rfl]; omega
      · rw [if_neg (by omega), if_neg (by omega), if_neg (by omega)]; rfl
    have h3 : (if 0 ≤ f ∧ f < (k + 1 : Nat) then partI q xs f.toNat else 0) = (if 0 ≤ f ∧ f < (k : Nat) then partI q xs f.toNat else 0) + (if f = k then partI q xs k else 0) := by
      by_cases hfk : f = k
      · subst hfk
        rw [if_pos (by omega), if_neg (by omega), if_pos rfl, Int.toNat_natCast]; omega
      · by_cases h4 : 0 ≤ f ∧ f < (k : Nat)
        · rw [if_pos (by omega), if_pos h4, if_neg hfk]; omega
        · rw [if_neg (by omega), if_neg h4, if_neg hfk]; rfl
    rw [h2, h3]
    by_cases ht0 : 0 ≤ t
    · rw [if_pos ht0]
      have h5 := htl ht0
      have h6 : ((ys.set k (ys.getD k 0 - partI q xs k)).set t.toNat ((ys.set k (ys.getD k 0 - partI q xs k)).getD t.toNat 0 + partI q xs k)).getD c 0 = (ys.set k (ys.getD k 0 - partI q xs k)).getD c 0 + (if t = (c : Int) then partI q xs k else 0) := by
        rw [getD_setV (by rw [List.length_set, hlk, hl]; omega)]
        by_cases h7 : c = t.toNat
        · rw [if_pos h7, if_pos (by omega), ← h7]
        · rw [if_neg h7, if_neg (by omega)]; omega
      rw [h6, h0]
      by_cases h8 : t = (c : Int)
      · rw [if_pos h8, if_pos (hiff.1 h8)]; omega
      · rw [if_neg h8, if_neg (fun h => h8 (hiff.2 h))]; omega
    · rw [if_neg ht0, h0, if_neg (show ¬ f = (k : Int) from fun h => by have := hiff.2 h; omega)]
      omega
theorem blow_from {W H : Nat} {e s q : Int} {xs : List Int} (hq : 1 ≤ q ∧ q ≤ 10) (hx : ∀ x ∈ xs, 0 ≤ x ∧ x ≤ 10000) (hl : xs.length = W * H) {c : Nat} (hc : c < xs.length) {f : Int} (hf : fromL W H e s q xs c = [f]) : xs.getD c 0 - xs.getD c 0 * q / 10 < (blowK W H e s q xs xs.length).getD c 0 := by
  have h := blowK_ge (e := e) (s := s) hq hx hl hc xs.length (Nat.le_refl _)
  unfold fromL at hf
  split at hf
  · rename_i hp
    rw [if_pos hc, if_pos ⟨hp.1, by rw [hl]; exact toI_lt hp.1⟩] at h
    have := hp.2
    unfold partI at h this
    omega
  · cases hf
end Go.Proofs.Ytdhgkfmehegeoaa

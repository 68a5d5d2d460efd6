/-
  Plain laws for plumes: smoke that is added, thick cells, the center.
-/
import Derived.Test.YtdhgkfmehegeoaaSmkP
namespace Go.Proofs.Ytdhgkfmehegeoaa
set_option linter.unusedSimpArgs false
set_option linter.unusedVariables false
open Go.RowKit

/-- cells of xs with more than m, up to the k-th -/
def thickT (xs : List Int) (m : Int) : Nat → List Int
  | 0 => []
  | k + 1 => if m < xs.getD k 0 then thickT xs m k ++ [(k : Int)] else thickT xs m k
theorem thickT_mem {xs : List Int} {m x : Int} : ∀ {k : Nat}, x ∈ thickT xs m k ↔ ∃ i : Nat, i < k ∧ x = i ∧ m < xs.getD i 0
  | 0 => by simp [thickT]
  | k + 1 => by
    have ih := thickT_mem (xs := xs) (m := m) (x := x) (k := k)
    unfold thickT
    constructor
    · intro h
      split at h
      · rename_i hk
        rcases List.mem_append.1 h with h | h
        · obtain ⟨i, h1, h2⟩ := ih.1 h
          exact ⟨i, by omega, h2⟩
        · obtain rfl := List.mem_singleton.1 h
          exact ⟨k, by omega, rfl, hk⟩
      · obtain ⟨i, h1, h2⟩ := ih.1 h
        exact ⟨i, by omega, h2⟩
    · rintro ⟨i, h1, rfl, h3⟩
      by_cases he : i = k
      · subst he
        rw [if_pos h3]
        simp
      · have := ih.2 ⟨i, by omega, rfl, h3⟩
        split
        · exact List.mem_append.2 (.inl this)
        · exact this
theorem thick_less {xs : List Int} {m : Int} {k : Nat} : withinV (thickT xs (m + 1) k) (thickT xs m k) = true := by
  rw [withinV_iff]
  intro x hx
  obtain ⟨i, h1, h2, h3⟩ := thickT_mem.1 hx
  exact thickT_mem.2 ⟨i, h1, h2, by omega⟩
theorem addL_sum {g : Int} : ∀ {cells xs : List Int}, (∀ c ∈ cells, 0 ≤ c ∧ c < xs.length) → (addL xs cells g).sum = xs.sum + cells.length * g
  | [], xs, _ => by simp [addL]
  | c :: cs, xs, h => by
    obtain ⟨h0, h1⟩ := h c (by simp)
    have ih := addL_sum (g := g) (cells := cs) (xs := xs.set c.toNat (xs.getD c.toNat 0 + g)) (fun d hd => by rw [List.length_set]; exact h d (by simp [hd]))
    have e : addL xs (c :: cs) g = addL (xs.set c.toNat (xs.getD c.toNat 0 + g)) cs g := rfl
    rw [e, ih, sum_set (by omega), List.length_cons]
    have : ((cs.length + 1 : Nat) : Int) * g = cs.length * g + g := by rw [Int.natCast_add, Int.add_mul]; simp
    rw [this]
    omega
theorem addL_mono {g : Int} (hg : 0 ≤ g) {d : Nat} : ∀ {cells xs : List Int}, (∀ c ∈ cells, 0 ≤ c ∧ c < xs.length) → xs.getD d 0 ≤ (addL xs cells g).getD d 0
  | [], xs, _ => Int.le_refl _
  | c :: cs, xs, h => by
    obtain ⟨h0, h1⟩ := h c (by simp)
    have ih := addL_mono hg (d := d) (cells := cs) (xs := xs.set c.toNat (xs.getD c.toNat 0 + g)) (fun d hd => by rw [List.length_set]; exact h d (by simp [hd]))
    rw [getD_setV (by omega)] at ih
    have e : addL xs (c :: cs) g = addL (xs.set c.toNat (xs.getD c.toNat 0 + g)) cs g := rfl
    rw [e]
    split at ih
    · rename_i hd
      subst hd
      omega
    · exact ih
theorem addL_ge {g : Int} (hg : 0 ≤ g) {d : Int} : ∀ {cells xs : List Int}, (∀ x ∈ xs, 0 ≤ x) → (∀ c ∈ cells, 0 ≤ c ∧ c < xs.length) → d ∈ cells → g ≤ (addL xs cells g).getD d.toNat 0
  | [], xs, _, _, hd => by cases hd
  | c :: cs, xs, hx, h, hd => by
    obtain ⟨h0, h1⟩ := h c (by simp)
    have hs : ∀ d ∈ cs, 0 ≤ d ∧ d < (xs.set c.toNat (xs.getD c.toNat 0 + g)).length := fun d hd => by rw [List.length_set]; exact h d (by simp [hd])
    have hc : 0 ≤ xs.getD c.toNat 0 := hx _ (getD_mem (by omega))
    have e : addL xs (c :: cs) g = addL (xs.set c.toNat (xs.getD c.toNat 0 + g)) cs g := rfl
    rw [e]
    by_cases hdc : d = c
    · subst hdc
      have := addL_mono hg (d := d.toNat) (cells := cs) (xs := xs.set d.toNat (xs.getD d.toNat 0 + g)) hs
      rw [getD_setV (by omega), if_pos rfl] at this
      omega
    · refine addL_ge hg (cells := cs) (fun x hx' => ?_) hs (by simpa [hdc] using hd)
      rcases List.mem_or_eq_of_mem_set hx' with h2 | rfl
      · exact hx x h2
      · omega
theorem addR_ok {W H p : Int} {xs cells : List Int} {g : Grid} (h : addR W H xs cells p = ⟨g, true⟩) : goodB 10000 W H xs = true ∧ g.W = W ∧ g.H = H ∧ goodB 10000 W H g.zs = true ∧ g.zs.sum = xs.sum + cells.length * p ∧ (1 ≤ p ∧ p ≤ 10000) ∧ cells.length ≤ 25 ∧ withinV cells (thickT g.zs (p - 1) g.zs.length) = true := by
  unfold addR at h
  split at h
  · rename_i hc
    simp only [Bool.and_eq_true] at hc
    obtain ⟨⟨⟨h1, h2⟩, h3⟩, h4⟩ := hc
    injection h with h5 h6
    subst h5
    obtain ⟨p0, p1⟩ := inB_true h3
    obtain ⟨hl, hcs⟩ := setB_true h2
    obtain ⟨Wn, Hn, -, -, -, -, -, -, -, h25, ha⟩ := goodB_true h1
    refine ⟨h1, rfl, rfl, h4, addL_sum hcs, ⟨p0, p1⟩, by omega, ?_⟩
    rw [withinV_iff]
    intro c hc
    obtain ⟨c0, c1⟩ := hcs c hc
    have := addL_ge (g := p) (by omega) (fun x hx => (ha x hx).1) hcs hc
    refine thickT_mem.2 ⟨c.toNat, by show c.toNat < (addL xs cells p).length; rw [addL_length]; omega, by omega, ?_⟩
    show p - 1 < (addL xs cells p).getD c.toNat 0
    omega
  · cases h
/-- the sums that tell the center -/
def cenX (W : Nat) (xs : List Int) : Nat → Int
  | 0 => 0
  | k + 1 => cenX W xs k + xs.getD k 0 * ((k % W : Nat) : Int)
def cenY (W : Nat) (xs : List Int) : Nat → Int
  | 0 => 0
  | k + 1 => cenY W xs k + xs.getD k 0 * ((k / W : Nat) : Int)
theorem cen_bound {W H : Nat} {xs : List Int} (hx : ∀ x ∈ xs, 0 ≤ x ∧ x ≤ 10000) (hW : 1 ≤ W) (hl : xs.length = W * H) : ∀ k, k ≤ xs.length →
    (0 ≤ cenX W xs k ∧ cenX W xs k ≤ (xs.take k).sum * ((W : Int) - 1)) ∧ (0 ≤ cenY W xs k ∧ cenY W xs k ≤ (xs.take k).sum * ((H : Int) - 1))
  | 0, _ => by simp [cenX, cenY]
  | k + 1, hk => by
    obtain ⟨⟨a, b⟩, c, d⟩ := cen_bound hx hW hl k (by omega)
    have hv := hx _ (getD_mem (xs := xs) (k := k) (by omega))
    have hm : k % W < W := Nat.mod_lt _ hW
    have hd : k / W < H := Nat.div_lt_of_lt_mul (by omega)
    rw [sum_take (by omega)]
    simp only [cenX, cenY]
    rw [Int.add_mul, Int.add_mul]
    obtain ⟨v, hv'⟩ : ∃ v, xs.getD k 0 = v := ⟨_, rfl⟩
    rw [hv'] at hv ⊢
    generalize k % W = km at hm ⊢
    generalize k / W = kd at hd ⊢
    have e1 : 0 ≤ v * (km : Int) := Int.mul_nonneg hv.1 (by omega)
    have e2 : 0 ≤ v * (kd : Int) := Int.mul_nonneg hv.1 (by omega)
    have e3 : v * (km : Int) ≤ v * ((W : Int) - 1) := Int.mul_le_mul_of_nonneg_left (by omega) hv.1
    have e4 : v * (kd : Int) ≤ v * ((H : Int) - 1) := Int.mul_le_mul_of_nonneg_left (by omega) hv.1
    omega
structure Cen where
  a : Int
  b : Int
  t : Int
  ok : Bool
def cenR (W H : Int) (xs : List Int) : Cen := if goodB 10000 W H xs && !(xs.sum == 0) then ⟨cenX W.toNat xs xs.length, cenY W.toNat xs xs.length, xs.sum, true⟩ else ⟨0, 0, 0, false⟩
theorem cenR_ok {W H : Int} {xs : List Int} {a b t : Int} (h : cenR W H xs = ⟨a, b, t, true⟩) : 0 ≤ a ∧ a ≤ t * (W - 1) ∧ 0 ≤ b ∧ b ≤ t * (H - 1) ∧ 0 ≤ t ∧ t ≤ 250000 ∧ 1 ≤ W ∧ W ≤ 5 ∧ 1 ≤ H ∧ H ≤ 5 := by
  unfold cenR at h
  split at h
  · rename_i hc
    rw [Bool.and_eq_true] at hc
    obtain ⟨Wn, Hn, rfl, rfl, p1, p2, p3, p4, hl, h25, ha⟩ := goodB_true hc.1
    obtain ⟨⟨q1, q2⟩, q3, q4⟩ := cen_bound (W := Wn) (H := Hn) ha p1 hl xs.length (Nat.le_refl _)
    rw [List.take_of_length_le (Nat.le_refl _)] at q2 q4
    have hs := sum_bound ha
    injection h with h1 h2 h3
    rw [Int.toNat_natCast] at h1 h2
    rw [h1] at q1 q2
    rw [h2] at q3 q4
    rw [h3] at q2 q4 hs
    exact ⟨q1, q2, q3, q4, hs.1, by omega, by omega, by omega, by omega, by omega⟩
  · cases h
end Go.Proofs.Ytdhgkfmehegeoaa

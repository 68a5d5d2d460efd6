/-
  Laws of notebooks: writing and merging keep what is complete; the order fits.
-/
import Derived.Test.YtjnbdgldpmmamaaWPairP
/-
  Laws of notebooks: writing and merging keep what is complete; the order fits.
-/
namespace Go.Proofs.Ytjnbdgldpmmamaa
set_option linter.unusedSimpArgs false
set_option linter.unusedVariables false
open Go.RowKit

theorem bookN {u : Int} {l : List NoteC} (h : bookB u l = true) : ∀ x ∈ l, noteB u x = true := fun x hx => by
  obtain ⟨i, hi, rfl⟩ := mem_getN hx
  exact book_note h hi
/-- a note is before another one -/
def befC (a b : NoteC) : Bool := decide (a.sq ≤ b.cl.getD a.un.toNat 0)
def latestB (l : List NoteC) (i : Nat) : Bool := (List.range l.length).all fun k => decide (k = i) || !befC (l.getD i NoteC.zero) (l.getD k NoteC.zero)
def latestTo (l : List NoteC) : Nat → List Int
  | 0 => []
  | k + 1 => if latestB l k then latestTo l k ++ [(k : Int)] else latestTo l k
def latestL (l : List NoteC) : List Int := latestTo l l.length
theorem latestB_true {l : List NoteC} {i : Nat} : latestB l i = true ↔ ∀ k, k < l.length → k ≠ i → befC (l.getD i NoteC.zero) (l.getD k NoteC.zero) = false := by
  unfold latestB
  rw [List.all_eq_true]
  constructor
  · intro h k hk hne
    have := h k (List.mem_range.2 hk)
    simpa [hne] using this
  · intro h k hk
    by_cases e : k = i
    · simp [e]
    · rw [h k (List.mem_range.1 hk) e]; simp
theorem latestTo_one {l : List NoteC} {p : Nat} (h : ∀ i, i < l.length → latestB l i = decide (i = p)) : ∀ k, k ≤ l.length → latestTo l k = if p < k then [(p : Int)] else []
  | 0, _ => by simp [latestTo]
  | k + 1, hk => by
    rw [latestTo, h k (by omega), latestTo_one h k (by omega)]
    by_cases e : k = p
    · subst e; simp
    · by_cases e2 : p < k
      · simp [e, e2, show p < k + 1 by omega]
      · simp [e, e2, show ¬ p < k + 1 by omega]

theorem clkTo_at {u : Int} {xs : List NoteC} : ∀ k, k ≤ xs.length → ∀ v, 1 ≤ (clkTo u xs k).getD v 0 → ∃ i, i < k ∧ (xs.getD i NoteC.zero).un.toNat = v ∧ (xs.getD i NoteC.zero).sq = (clkTo u xs k).getD v 0
  | 0, _, v, h => by
    have h2 : 1 ≤ (List.replicate u.toNat (0 : Int)).getD v 0 := h
    rw [List.getD_eq_getElem?_getD, List.getElem?_replicate] at h2
    split at h2 <;> simp at h2
  | k + 1, hk, v, h => by
    rw [clkTo, clkStep, getD_setI] at h ⊢
    by_cases e : (xs.getD k NoteC.zero).un.toNat = v
    · rw [if_pos e] at h ⊢
      split at h
      · rename_i h3
        rw [if_pos h3]
        unfold moreI at h ⊢
        split at h
        · rename_i h4
          rw [if_pos h4]
          exact ⟨k, by omega, e, rfl⟩
        · rename_i h4
          rw [if_neg h4]
          obtain ⟨i, h5, h6, h7⟩ := clkTo_at k (by omega) _ h
          exact ⟨i, by omega, h6.trans e, h7⟩
      · omega
    · rw [if_neg e] at h ⊢
      obtain ⟨i, h5, h6, h7⟩ := clkTo_at k (by omega) _ h
      exact ⟨i, by omega, h6, h7⟩
section
variable {u : Int} {xs : List NoteC} {un : Int} {wd : Bs}
theorem newN_cl (hu : inB un 0 (u - 1) = true) (v : Nat) : (newN u xs un wd).cl.getD v 0 = if un.toNat = v then (newN u xs un wd).sq else (clkTo u xs xs.length).getD v 0 := by
  have h1 := inB_true hu
  unfold newN upC
  show (List.set _ _ _).getD v 0 = _
  rw [getD_setI]
  by_cases e : un.toNat = v
  · rw [if_pos e, if_pos e, if_pos (by rw [clkTo_len]; omega)]
  · rw [if_neg e, if_neg e]
theorem newN_ge (hu : inB un 0 (u - 1) = true) (v : Nat) : (clkTo u xs xs.length).getD v 0 ≤ (newN u xs un wd).cl.getD v 0 := by
  rw [newN_cl hu]
  split
  · rename_i e
    subst e
    show _ ≤ (clkTo u xs xs.length).getD un.toNat 0 + 1
    omega
  · exact Int.le_refl _
theorem more_asc (h : bookB u xs = true) (hu : inB un 0 (u - 1) = true) : ascN (putN (newN u xs un wd) xs) := putN_asc (book_asc h) fun y hy => newN_ok h hu y hy
theorem more_mem {x : NoteC} : x ∈ putN (newN u xs un wd) xs ↔ x = newN u xs un wd ∨ x ∈ xs := by rw [(putN_perm _ xs).mem_iff, List.mem_cons]
theorem more_has {p : Int × Int} (h : hasP xs p = true) : hasP (putN (newN u xs un wd) xs) p = true := by
  obtain ⟨y, hy, e⟩ := hasP_true.1 h
  exact hasP_true.2 ⟨y, more_mem.2 (.inr hy), e⟩
/-- what a note tells, is told already, but for itself -/
theorem new_told (h : bookB u xs = true) (hu : inB un 0 (u - 1) = true) {p : Int × Int} (hp : p ∈ toldA (newN u xs un wd).cl) : p = (un, (newN u xs un wd).sq) ∨ ∃ y ∈ xs, p ∈ toldA y.cl := by
  obtain ⟨v, h1, h2, h3, h4⟩ := toldA_mem.1 hp
  have hun := inB_true hu
  rw [newN_cl hu] at h4
  by_cases e : p = (un, (newN u xs un wd).sq)
  · exact .inl e
  · right
    have h5 : p.2 ≤ (clkTo u xs xs.length).getD v 0 := by
      by_cases e2 : un.toNat = v
      · rw [if_pos e2] at h4
        have h6 : (newN u xs un wd).sq = (clkTo u xs xs.length).getD un.toNat 0 + 1 := rfl
        have h7 : p.2 ≠ (newN u xs un wd).sq := fun e3 => e (Prod.ext (by simp only; omega) e3)
        rw [e2] at h6
        omega
      · rwa [if_neg e2] at h4
    obtain ⟨i, h6, h7, h8⟩ := clkTo_at (u := u) (xs := xs) xs.length (Nat.le_refl _) v (by omega)
    have hb := noteB_true (book_note h h6)
    refine ⟨_, getD_memN h6, toldA_mem.2 ⟨v, ?_, h2, h3, ?_⟩⟩
    · have := hb.1; have := hb.2.2.1; omega
    · have h9 := hb.2.2.2.2.1
      rw [h7] at h9
      rw [h9, h8]
      exact h5
theorem write_few {S : List (Int × Int)} (h : bookB u xs = true) (hu : inB un 0 (u - 1) = true) (hf : fewM xs S) : fewM (putN (newN u xs un wd) xs) S := by
  intro x hx p hp hh
  have hno : hasP xs p = false := by
    cases hc : hasP xs p
    · rfl
    · rw [more_has hc] at hh; cases hh
  rcases more_mem.1 hx with rfl | hx
  · rcases new_told h hu hp with rfl | ⟨y, hy, hp⟩
    · have h9 : hasP (putN (newN u xs un wd) xs) (un, (newN u xs un wd).sq) = true := hasP_true.2 ⟨_, more_mem.2 (.inl rfl), rfl, rfl⟩
      rw [h9] at hh
      cases hh
    · exact hf y hy p hp hno
  · exact hf x hx p hp hno
/-- in a complete notebook no clock tells more than there is -/
theorem comp_le (h : bookB u xs = true) (hc : compB xs = true) {m : NoteC} (hm : m ∈ xs) (t : Nat) (ht : t < m.cl.length) : m.cl.getD t 0 ≤ (clkTo u xs xs.length).getD t 0 := by
  by_cases h1 : 1 ≤ m.cl.getD t 0
  · have hk := (knowP_true.1 (compB_true.1 hc m hm ((t : Int), m.cl.getD t 0) (toldA_mem.2 ⟨t, ht, rfl, h1, Int.le_refl _⟩))).1
    obtain ⟨z, hz, e1, e2⟩ := hasP_true.1 hk
    obtain ⟨i, hi, rfl⟩ := mem_getN hz
    have := clkTo_ge h xs.length (Nat.le_refl _) i hi
    rw [e1, e2] at this
    exact this
  · have := clkTo_b h xs.length (Nat.le_refl _) t
    omega
theorem write_comp (h : bookB u xs = true) (hu : inB un 0 (u - 1) = true) (hc : compB xs = true) : compB (putN (newN u xs un wd) xs) = true := by
  have hun := inB_true hu
  have hget : ∀ p, hasP xs p = true → getP (putN (newN u xs un wd) xs) p = getP xs p := fun p hp => by
    obtain ⟨g1, g2, g3⟩ := getP_spec hp
    exact getP_eq (more_asc h hu) (more_mem.2 (.inr g1)) g2 g3
  refine compB_true.2 fun x hx p hp => ?_
  rcases more_mem.1 hx with rfl | hx
  · rcases new_told h hu hp with rfl | ⟨y, hy, hp2⟩
    · have hg := getP_eq (p := (un, (newN u xs un wd).sq)) (more_asc h hu) (more_mem.2 (.inl rfl) : newN u xs un wd ∈ _) rfl rfl
      rw [knowP_true, hg]
      exact ⟨hasP_true.2 ⟨_, more_mem.2 (.inl rfl), rfl, rfl⟩, .inl (sameK_true.2 ⟨rfl, rfl⟩), leC_self _⟩
    · have hk := (knowP_true.1 (compB_true.1 hc y hy p hp2)).1
      obtain ⟨g1, -, -⟩ := getP_spec hk
      have hb := noteB_true (bookN h _ g1)
      rw [knowP_true, hget p hk]
      refine ⟨more_has hk, .inr ?_, leC_true.2 fun t ht => Int.le_trans (comp_le h hc g1 t ht) (newN_ge hu t)⟩
      have h2 := comp_le h hc g1 un.toNat (by have := hb.1; omega)
      show _ < (clkTo u xs xs.length).getD un.toNat 0 + 1
      show (getP xs p).cl.getD un.toNat 0 < _
      omega
  · have hk := knowP_true.1 (compB_true.1 hc x hx p hp)
    rw [knowP_true, hget p hk.1]
    exact ⟨more_has hk.1, hk.2⟩
/-- a note that is written to a complete notebook is the only latest one -/
theorem write_latest (h : bookB u xs = true) (hu : inB un 0 (u - 1) = true) (hc : compB xs = true) : ∃ p : Nat, p < (putN (newN u xs un wd) xs).length ∧ latestL (putN (newN u xs un wd) xs) = [(p : Int)] ∧ (putN (newN u xs un wd) xs).getD p NoteC.zero = newN u xs un wd := by
  have hun := inB_true hu
  have hasc := more_asc (wd := wd) h hu
  obtain ⟨p, hp, he⟩ := mem_getN (more_mem.2 (.inl rfl) : newN u xs un wd ∈ putN (newN u xs un wd) xs)
  have hold : ∀ k, k < (putN (newN u xs un wd) xs).length → k ≠ p → (putN (newN u xs un wd) xs).getD k NoteC.zero ∈ xs := by
    intro k hk hne
    rcases more_mem.1 (getD_memN hk) with e | e
    · exfalso
      rcases Nat.lt_or_gt_of_ne hne with h1 | h1
      · have := ltN_key (asc_get hasc h1 hp)
        rw [e, he, sameK_true.2 ⟨rfl, rfl⟩] at this
        cases this
      · have := ltN_key (asc_get hasc h1 hk)
        rw [e, he, sameK_true.2 ⟨rfl, rfl⟩] at this
        cases this
    · exact e
  refine ⟨p, hp, ?_, he⟩
  unfold latestL
  rw [latestTo_one (p := p) ?_ _ (Nat.le_refl _), if_pos hp]
  intro i hi
  by_cases e : i = p
  · subst e
    rw [decide_eq_true rfl, latestB_true, he]
    intro k hk hne
    have hm := hold k hk hne
    have hb := noteB_true (bookN h _ hm)
    have h2 := comp_le h hc hm un.toNat (by have := hb.1; omega)
    refine decide_eq_false ?_
    show ¬ (clkTo u xs xs.length).getD un.toNat 0 + 1 ≤ _
    show ¬ _ ≤ ((putN (newN u xs un wd) xs).getD k NoteC.zero).cl.getD un.toNat 0
    omega
  · rw [decide_eq_false e]
    cases hl : latestB (putN (newN u xs un wd) xs) i
    · rfl
    · have h1 := latestB_true.1 hl p hp fun e2 => e e2.symm
      rw [he] at h1
      have hm := hold i hi e
      obtain ⟨j, hj, ej⟩ := mem_getN hm
      have h2 := clkTo_ge h xs.length (Nat.le_refl _) j hj
      rw [ej] at h2
      have h3 := newN_ge (wd := wd) (xs := xs) hu ((putN (newN u xs un wd) xs).getD i NoteC.zero).un.toNat
      have h4 := of_decide_eq_false h1
      omega
end

section
variable {a b : List NoteC}
theorem okAt_true (ha : ascN a) {x : NoteC} : okAt a x = true ↔ ∀ y ∈ a, sameK y x = true → y = x := by
  unfold okAt
  cases hh : hasN a x
  · simp only [Bool.not_false, Bool.true_or, true_iff]
    intro y hy hs
    unfold hasN at hh
    rw [List.any_eq_false] at hh
    exact absurd hs (hh y hy)
  · simp only [Bool.not_true, Bool.false_or, decide_eq_true_eq]
    obtain ⟨-, h2, h3⟩ := has_pl hh
    constructor
    · intro h y hy hs
      rw [← h] at hs ⊢
      exact asc_one ha hy h3 hs
    · intro h
      exact h _ h3 h2
theorem clean_true (ha : ascN a) : cleanTo a b b.length = true ↔ ∀ y ∈ a, ∀ x ∈ b, sameK y x = true → y = x := by
  unfold cleanTo
  rw [List.all_eq_true]
  constructor
  · intro h y hy x hx hs
    obtain ⟨i, hi, rfl⟩ := mem_getN hx
    exact (okAt_true ha).1 (h i (List.mem_range.2 hi)) y hy hs
  · intro h i hi
    exact (okAt_true ha).2 fun y hy hs => h y hy _ (getD_memN (List.mem_range.1 hi)) hs
theorem newsTo_in {k : Nat} {y : NoteC} : y ∈ newsTo a b k ↔ ∃ i, i < k ∧ y = b.getD i NoteC.zero ∧ hasN a y = false := by
  induction k with
  | zero => simp [newsTo]
  | succ k ih =>
    unfold newsTo
    cases hh : hasN a (b.getD k NoteC.zero)
    · rw [if_neg (by simp), List.mem_append, ih, List.mem_singleton]
      constructor
      · rintro (⟨i, h1, h2⟩ | rfl)
        · exact ⟨i, by omega, h2⟩
        · exact ⟨k, by omega, rfl, hh⟩
      · rintro ⟨i, h1, h2, h3⟩
        by_cases e : i < k
        · exact .inl ⟨i, e, h2, h3⟩
        · obtain rfl : i = k := by omega
          exact .inr h2
    · rw [if_pos rfl, ih]
      constructor
      · rintro ⟨i, h1, h2⟩
        exact ⟨i, by omega, h2⟩
      · rintro ⟨i, h1, h2, h3⟩
        by_cases e : i < k
        · exact ⟨i, e, h2, h3⟩
        · obtain rfl : i = k := by omega
          rw [h2, hh] at h3
          cases h3
theorem merge_mem (ha : ascN a) (hb : ascN b) (hc : cleanTo a b b.length = true) {x : NoteC} : x ∈ mergeL a b ↔ x ∈ a ∨ x ∈ b := by
  rw [mergeL, (merge_facts ha hb b.length (Nat.le_refl _)).2.mem_iff, List.mem_append, newsTo_in]
  constructor
  · rintro (h | ⟨i, h1, h2, h3⟩)
    · exact .inl h
    · subst h2
      exact .inr (getD_memN h1)
  · rintro (h | h)
    · exact .inl h
    · by_cases hh : hasN a x = false
      · obtain ⟨i, hi, e⟩ := mem_getN h
        exact .inr ⟨i, hi, e.symm, hh⟩
      · obtain ⟨-, h2, h3⟩ := has_pl (l := a) (x := x) (by simpa using hh)
        have := (clean_true ha).1 hc _ h3 x h h2
        rw [this] at h3
        exact .inl h3
theorem merge_asc (ha : ascN a) (hb : ascN b) : ascN (mergeL a b) := (merge_facts ha hb b.length (Nat.le_refl _)).1
theorem mergeB_parts {u : Int} (h : mergeB u a b = true) : bookB u a = true ∧ bookB u b = true ∧ cleanTo a b b.length = true ∧ bookB u (mergeL a b) = true := by
  unfold mergeB at h
  simp only [Bool.and_eq_true] at h
  exact ⟨h.1.1.1, h.1.1.2, h.1.2, h.2⟩
theorem merge_has' (ha : ascN a) (hb : ascN b) (hc : cleanTo a b b.length = true) {p : Int × Int} (h : hasP a p = true ∨ hasP b p = true) : hasP (mergeL a b) p = true := by
  rcases h with h | h
  · obtain ⟨y, hy, e⟩ := hasP_true.1 h
    exact hasP_true.2 ⟨y, (merge_mem ha hb hc).2 (.inl hy), e⟩
  · obtain ⟨y, hy, e⟩ := hasP_true.1 h
    exact hasP_true.2 ⟨y, (merge_mem ha hb hc).2 (.inr hy), e⟩
theorem merge_comp (ha : ascN a) (hb : ascN b) (hc : cleanTo a b b.length = true) (h1 : compB a = true) (h2 : compB b = true) : compB (mergeL a b) = true := by
  refine compB_true.2 fun x hx p hp => ?_
  rcases (merge_mem ha hb hc).1 hx with hx | hx
  · have hk := knowP_true.1 (compB_true.1 h1 x hx p hp)
    obtain ⟨g1, g2, g3⟩ := getP_spec hk.1
    rw [knowP_true, getP_eq (merge_asc ha hb) ((merge_mem ha hb hc).2 (.inl g1)) g2 g3]
    exact ⟨merge_has' ha hb hc (.inl hk.1), hk.2⟩
  · have hk := knowP_true.1 (compB_true.1 h2 x hx p hp)
    obtain ⟨g1, g2, g3⟩ := getP_spec hk.1
    rw [knowP_true, getP_eq (merge_asc ha hb) ((merge_mem ha hb hc).2 (.inr g1)) g2 g3]
    exact ⟨merge_has' ha hb hc (.inr hk.1), hk.2⟩
end

section
variable {l t : List NoteC} {x : NoteC}
theorem few_drop (h : compB (x :: t) = true) : fewM t [(x.un, x.sq)] := by
  intro y hy p hp hh
  obtain ⟨z, hz, e1, e2⟩ := hasP_true.1 (knowP_true.1 (compB_true.1 h y (List.mem_cons_of_mem _ hy) p hp)).1
  rcases List.mem_cons.1 hz with rfl | hz
  · exact List.mem_singleton.2 (Prod.ext e1.symm e2.symm)
  · rw [hasP_true.2 ⟨z, hz, e1, e2⟩] at hh
    cases hh
theorem few_word (h : compB (t ++ [x]) = true) (wd : Bs) : fewM (t ++ [⟨x.un, x.sq, x.cl, wd⟩]) [] := by
  intro y hy p hp hh
  exfalso
  have hg : hasP (t ++ [x]) p = true := by
    rcases List.mem_append.1 hy with hy | hy
    · exact (knowP_true.1 (compB_true.1 h y (List.mem_append_left _ hy) p hp)).1
    · rw [List.mem_singleton] at hy
      subst hy
      exact (knowP_true.1 (compB_true.1 h x (List.mem_append_right _ (List.mem_singleton.2 rfl)) p hp)).1
  obtain ⟨z, hz, e1, e2⟩ := hasP_true.1 hg
  rcases List.mem_append.1 hz with hz | hz
  · rw [hasP_true.2 ⟨z, List.mem_append_left _ hz, e1, e2⟩] at hh; cases hh
  · rw [List.mem_singleton] at hz
    subst hz
    have h9 : hasP (t ++ [⟨z.un, z.sq, z.cl, wd⟩]) p = true := hasP_true.2 ⟨_, List.mem_append_right _ (List.mem_singleton.2 rfl), e1, e2⟩
    rw [h9] at hh; cases hh
theorem few_clock (h : compB (t ++ [x]) = true) {v : Int} (hv : v ≤ 3) : fewM (t ++ [⟨x.un, x.sq, x.cl.set 0 v, x.wd⟩]) [(0, 1), (0, 2), (0, 3)] := by
  intro y hy p hp hh
  have hg : hasP (t ++ [x]) p = true ∨ p ∈ [((0 : Int), (1 : Int)), (0, 2), (0, 3)] := by
    rcases List.mem_append.1 hy with hy | hy
    · exact .inl (knowP_true.1 (compB_true.1 h y (List.mem_append_left _ hy) p hp)).1
    · rw [List.mem_singleton] at hy
      subst hy
      obtain ⟨u, h1, h2, h3, h4⟩ := toldA_mem.1 hp
      simp only at h1 h4
      rw [List.length_set] at h1
      rw [getD_setI] at h4
      by_cases e : 0 = u
      · subst e
        rw [if_pos rfl, if_pos h1] at h4
        right
        have h5 : p.2 = 1 ∨ p.2 = 2 ∨ p.2 = 3 := by omega
        rcases h5 with h5 | h5 | h5
        · rw [show p = (0, 1) from Prod.ext h2 h5]; simp
        · rw [show p = (0, 2) from Prod.ext h2 h5]; simp
        · rw [show p = (0, 3) from Prod.ext h2 h5]; simp
      · rw [if_neg e] at h4
        exact .inl (knowP_true.1 (compB_true.1 h x (List.mem_append_right _ (List.mem_singleton.2 rfl)) p (toldA_mem.2 ⟨u, h1, h2, h3, h4⟩))).1
  rcases hg with hg | hg
  · exfalso
    obtain ⟨z, hz, e1, e2⟩ := hasP_true.1 hg
    rcases List.mem_append.1 hz with hz | hz
    · rw [hasP_true.2 ⟨z, List.mem_append_left _ hz, e1, e2⟩] at hh; cases hh
    · rw [List.mem_singleton] at hz
      subst hz
      have h9 : hasP (t ++ [⟨z.un, z.sq, z.cl.set 0 v, z.wd⟩]) p = true := hasP_true.2 ⟨_, List.mem_append_right _ (List.mem_singleton.2 rfl), e1, e2⟩
      rw [h9] at hh; cases hh
  · exact hg
end

section
variable {α : Type} {d : α} {f : α → Int}
end
end Go.Proofs.Ytjnbdgldpmmamaa

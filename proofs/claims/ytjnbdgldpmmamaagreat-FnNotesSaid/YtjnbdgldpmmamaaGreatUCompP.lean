/-
  Laws of notebooks: writing and merging keep what is complete; the order fits.
-/
import Derived.Test.YtjnbdgldpmmamaaGreatUPairP
/-
  Laws of notebooks: writing and merging keep what is complete; the order fits.
-/
namespace Go.Proofs.YtjnbdgldpmmamaaGreat
set_option linter.unusedSimpArgs false
set_option linter.unusedVariables false
open Go.RowKit

theorem bookN {u : Int} {l : List NoteC} (h : bookB u l = true) : ∀ x ∈ l, noteB u x = true := fun x hx => by
  obtain ⟨i, hi, rfl⟩ := mem_getN hx
  exact book_note h hi
/-- a note is before another one -/
def befC (a b : NoteC) : Bool := decide (a.sq ≤ b.cl.getD a.un.toNat 0)
theorem clkTo_at {u : Int} {xs : List NoteC} : ∀ k, k ≤ xs.length → ∀ v, 1 ≤ (clkTo u xs k).getD v 0 → ∃ i, i < k ∧ (xs.getD i NoteC.zero).un.toNat = v ∧ (xs.getD i NoteC.zero).sq = (clkTo u xs k).getD v 0
  | 0, _, v, h => by
    have h2 : 1 ≤ (List.replicate u.toNat (0 : Int)).getD v 0 := h
    rw [List.getD_eq_getElem?_getD, List.getElem?_replicate] at h2
    split at h2 <;> simp at h2
  | k + 1, hk, v, h => by
    rw [clkTo, clkStep, getD_setI] at h ⊢
    by_cases e : (xs.getD k NoteC.zero).un.toNat = v
    · rw [if_pos e] at h ⊢
      split at h
      · rename_i h3
        rw [if_pos h3]
        unfold moreI at h ⊢
        split at h
        · rename_i h4
          rw [if_pos h4]
          exact ⟨k, by omega, e, rfl⟩
        · rename_i h4
          rw [if_neg h4]
          obtain ⟨i, h5, h6, h7⟩ := clkTo_at k (by omega) _ h
          exact ⟨i, by omega, h6.trans e, h7⟩
      · omega
    · rw [if_neg e] at h ⊢
      obtain ⟨i, h5, h6, h7⟩ := clkTo_at k (by omega) _ h
      exact ⟨i, by omega, h6, h7⟩
section
variable {u : Int} {xs : List NoteC} {un : Int} {wd : Bs}
theorem newN_cl (hu : inB un 0 (u - 1) = true) (v : Nat) : (newN u xs un wd).cl.getD v 0 = if un.toNat = v then (newN u xs un wd).sq else (clkTo u xs xs.length).getD v 0 := by
  have h1 := inB_true hu
  unfold newN upC
  show (List.set _ _ _).getD v 0 = _
  rw [getD_setI]
  by_cases e : un.toNat = v
  · rw [if_pos e, if_pos e, if_pos (by rw [clkTo_len]; omega)]
  · rw [if_neg e, if_neg e]
theorem newN_ge (hu : inB un 0 (u - 1) = true) (v : Nat) : (clkTo u xs xs.length).getD v 0 ≤ (newN u xs un wd).cl.getD v 0 := by
  rw [newN_cl hu]
  split
  · rename_i e
    subst e
    show _ ≤ (clkTo u xs xs.length).getD un.toNat 0 + 1
    omega
  · exact Int.le_refl _
theorem more_asc (h : bookB u xs = true) (hu : inB un 0 (u - 1) = true) : ascN (putN (newN u xs un wd) xs) := putN_asc (book_asc h) fun y hy => newN_ok h hu y hy
theorem more_mem {x : NoteC} : x ∈ putN (newN u xs un wd) xs ↔ x = newN u xs un wd ∨ x ∈ xs := by rw [(putN_perm _ xs).mem_iff, List.mem_cons]
theorem more_has {p : Int × Int} (h : hasP xs p = true) : hasP (putN (newN u xs un wd) xs) p = true := by
  obtain ⟨y, hy, e⟩ := hasP_true.1 h
  exact hasP_true.2 ⟨y, more_mem.2 (.inr hy), e⟩
/-- what a note tells, is told already, but for itself -/
theorem new_told (h : bookB u xs = true) (hu : inB un 0 (u - 1) = true) {p : Int × Int} (hp : p ∈ toldA (newN u xs un wd).cl) : p = (un, (newN u xs un wd).sq) ∨ ∃ y ∈ xs, p ∈ toldA y.cl := by
  obtain ⟨v, h1, h2, h3, h4⟩ := toldA_mem.1 hp
  have hun := inB_true hu
  rw [newN_cl hu] at h4
  by_cases e : p = (un, (newN u xs un wd).sq)
  · exact .inl e
  · right
    have h5 : p.2 ≤ (clkTo u xs xs.length).getD v 0 := by
      by_cases e2 : un.toNat = v
      · rw [if_pos e2] at h4
        have h6 : (newN u xs un wd).sq = (clkTo u xs xs.length).getD un.toNat 0 + 1 := rfl
        have h7 : p.2 ≠ (newN u xs un wd).sq := fun e3 => e (Prod.ext (by simp only; omega) e3)
        rw [e2] at h6
        omega
      · rwa [if_neg e2] at h4
    obtain ⟨i, h6, h7, h8⟩ := clkTo_at (u := u) (xs := xs) xs.length (Nat.le_refl _) v (by omega)
    have hb := noteB_true (book_note h h6)
    refine ⟨_, getD_memN h6, toldA_mem.2 ⟨v, ?_, h2, h3, ?_⟩⟩
    · have := hb.1; have := hb.2.2.1; omega
    · have h9 := hb.2.2.2.2.1
      rw [h7] at h9
      rw [h9, h8]
      exact h5
/-- in a complete notebook no clock tells more than there is -/
theorem comp_le (h : bookB u xs = true) (hc : compB xs = true) {m : NoteC} (hm : m ∈ xs) (t : Nat) (ht : t < m.cl.length) : m.cl.getD t 0 ≤ (clkTo u xs xs.length).getD t 0 := by
  by_cases h1 : 1 ≤ m.cl.getD t 0
  · have hk := (knowP_true.1 (compB_true.1 hc m hm ((t : Int), m.cl.getD t 0) (toldA_mem.2 ⟨t, ht, rfl, h1, Int.le_refl _⟩))).1
    obtain ⟨z, hz, e1, e2⟩ := hasP_true.1 hk
    obtain ⟨i, hi, rfl⟩ := mem_getN hz
    have := clkTo_ge h xs.length (Nat.le_refl _) i hi
    rw [e1, e2] at this
    exact this
  · have := clkTo_b h xs.length (Nat.le_refl _) t
    omega
theorem write_comp (h : bookB u xs = true) (hu : inB un 0 (u - 1) = true) (hc : compB xs = true) : compB (putN (newN u xs un wd) xs) = true := by
  have hun := inB_true hu
  have hget : ∀ p, hasP xs p = true → getP (putN (newN u xs un wd) xs) p = getP xs p := fun p hp => by
    obtain ⟨g1, g2, g3⟩ := getP_spec hp
    exact getP_eq (more_asc h hu) (more_mem.2 (.inr g1)) g2 g3
  refine compB_true.2 fun x hx p hp => ?_
  rcases more_mem.1 hx with rfl | hx
  · rcases new_told h hu hp with rfl | ⟨y, hy, hp2⟩
    · have hg := getP_eq (p := (un, (newN u xs un wd).sq)) (more_asc h hu) (more_mem.2 (.inl rfl) : newN u xs un wd ∈ _) rfl rfl
      rw [knowP_true, hg]
      exact ⟨hasP_true.2 ⟨_, more_mem.2 (.inl rfl), rfl, rfl⟩, .inl (sameK_true.2 ⟨rfl, rfl⟩), leC_self _⟩
    · have hk := (knowP_true.1 (compB_true.1 hc y hy p hp2)).1
      obtain ⟨g1, -, -⟩ := getP_spec hk
      have hb := noteB_true (bookN h _ g1)
      rw [knowP_true, hget p hk]
      refine ⟨more_has hk, .inr ?_, leC_true.2 fun t ht => Int.le_trans (comp_le h hc g1 t ht) (newN_ge hu t)⟩
      have h2 := comp_le h hc g1 un.toNat (by have := hb.1; omega)
      show _ < (clkTo u xs xs.length).getD un.toNat 0 + 1
      show (getP xs p).cl.getD un.toNat 0 < _
      omega
  · have hk := knowP_true.1 (compB_true.1 hc x hx p hp)
    rw [knowP_true, hget p hk.1]
    exact ⟨more_has hk.1, hk.2⟩
end

section
variable {a b : List NoteC}
theorem okAt_true (ha : ascN a) {x : NoteC} : okAt a x = true ↔ ∀ y ∈ a, sameK y x = true → y = x := by
  unfold okAt
  cases hh : hasN a x
  · simp only [Bool.not_false, Bool.true_or, true_iff]
    intro y hy hs
    unfold hasN at hh
    rw [List.any_eq_false] at hh
    exact absurd hs (hh y hy)
  · simp only [Bool.not_true, Bool.false_or, decide_eq_true_eq]
    obtain ⟨-, h2, h3⟩ := has_pl hh
    constructor
    · intro h y hy hs
      rw [← h] at hs ⊢
      exact asc_one ha hy h3 hs
    · intro h
      exact h _ h3 h2
theorem clean_true (ha : ascN a) : cleanTo a b b.length = true ↔ ∀ y ∈ a, ∀ x ∈ b, sameK y x = true → y = x := by
  unfold cleanTo
  rw [List.all_eq_true]
  constructor
  · intro h y hy x hx hs
    obtain ⟨i, hi, rfl⟩ := mem_getN hx
    exact (okAt_true ha).1 (h i (List.mem_range.2 hi)) y hy hs
  · intro h i hi
    exact (okAt_true ha).2 fun y hy hs => h y hy _ (getD_memN (List.mem_range.1 hi)) hs
theorem clean_comm (ha : ascN a) (hb : ascN b) : cleanTo a b b.length = cleanTo b a a.length := by
  have h : cleanTo a b b.length = true ↔ cleanTo b a a.length = true := by
    rw [clean_true ha, clean_true hb]
    constructor
    · intro h y hy x hx hs
      exact (h x hx y hy (by rw [sameK_symm]; exact hs)).symm
    · intro h y hy x hx hs
      exact (h x hx y hy (by rw [sameK_symm]; exact hs)).symm
  cases h1 : cleanTo a b b.length
  · cases h2 : cleanTo b a a.length
    · rfl
    · rw [h.2 h2] at h1; cases h1
  · rw [h.1 h1]
theorem newsTo_in {k : Nat} {y : NoteC} : y ∈ newsTo a b k ↔ ∃ i, i < k ∧ y = b.getD i NoteC.zero ∧ hasN a y = false := by
  induction k with
  | zero => simp [newsTo]
  | succ k ih =>
    unfold newsTo
    cases hh : hasN a (b.getD k NoteC.zero)
    · rw [if_neg (by simp), List.mem_append, ih, List.mem_singleton]
      constructor
      · rintro (⟨i, h1, h2⟩ | rfl)
        · exact ⟨i, by omega, h2⟩
        · exact ⟨k, by omega, rfl, hh⟩
      · rintro ⟨i, h1, h2, h3⟩
        by_cases e : i < k
        · exact .inl ⟨i, e, h2, h3⟩
        · obtain rfl : i = k := by omega
          exact .inr h2
    · rw [if_pos rfl, ih]
      constructor
      · rintro ⟨i, h1, h2⟩
        exact ⟨i, by omega, h2⟩
      · rintro ⟨i, h1, h2, h3⟩
        by_cases e : i < k
        · exact ⟨i, e, h2, h3⟩
        · obtain rfl : i = k := by omega
          rw [h2, hh] at h3
          cases h3
theorem merge_mem (ha : ascN a) (hb : ascN b) (hc : cleanTo a b b.length = true) {x : NoteC} : x ∈ mergeL a b ↔ x ∈ a ∨ x ∈ b := by
  rw [mergeL, (merge_facts ha hb b.length (Nat.le_refl _)).2.mem_iff, List.mem_append, newsTo_in]
  constructor
  · rintro (h | ⟨i, h1, h2, h3⟩)
    · exact .inl h
    · subst h2
      exact .inr (getD_memN h1)
  · rintro (h | h)
    · exact .inl h
    · by_cases hh : hasN a x = false
      · obtain ⟨i, hi, e⟩ := mem_getN h
        exact .inr ⟨i, hi, e.symm, hh⟩
      · obtain ⟨-, h2, h3⟩ := has_pl (l := a) (x := x) (by simpa using hh)
        have := (clean_true ha).1 hc _ h3 x h h2
        rw [this] at h3
        exact .inl h3
theorem merge_asc (ha : ascN a) (hb : ascN b) : ascN (mergeL a b) := (merge_facts ha hb b.length (Nat.le_refl _)).1
theorem mergeL_comm (ha : ascN a) (hb : ascN b) (hc : cleanTo a b b.length = true) : mergeL a b = mergeL b a := by
  refine asc_same (fun _ _ h => ltN_asym h) (merge_asc ha hb) (merge_asc hb ha) fun x => ?_
  rw [merge_mem ha hb hc, merge_mem hb ha (by rw [← clean_comm ha hb]; exact hc), or_comm]
theorem mergeB_comm (u : Int) : mergeB u a b = mergeB u b a := by
  unfold mergeB
  cases h1 : bookB u a
  · cases h2 : bookB u b <;> rfl
  · cases h2 : bookB u b
    · rfl
    · have ha := book_asc h1; have hb := book_asc h2
      rw [clean_comm ha hb]
      cases h3 : cleanTo b a a.length
      · rfl
      · rw [mergeL_comm ha hb (by rw [clean_comm ha hb]; exact h3)]
theorem mergeB_parts {u : Int} (h : mergeB u a b = true) : bookB u a = true ∧ bookB u b = true ∧ cleanTo a b b.length = true ∧ bookB u (mergeL a b) = true := by
  unfold mergeB at h
  simp only [Bool.and_eq_true] at h
  exact ⟨h.1.1.1, h.1.1.2, h.1.2, h.2⟩
theorem mergeR_comm (u : Int) : mergeR u a b = mergeR u b a := by
  unfold mergeR
  by_cases h : mergeB u a b = true
  · obtain ⟨h1, h2, h3, -⟩ := mergeB_parts h
    rw [if_pos h, if_pos (by rw [mergeB_comm, h])]
    exact mergeL_comm (book_asc h1) (book_asc h2) h3
  · rw [if_neg h, if_neg (by rw [mergeB_comm]; exact h)]
theorem newsTo_none (h : ∀ x ∈ b, x ∈ a) : ∀ k, k ≤ b.length → newsTo a b k = []
  | 0, _ => rfl
  | k + 1, hk => by
    have h1 : hasN a (b.getD k NoteC.zero) = true := by
      unfold hasN
      rw [List.any_eq_true]
      exact ⟨_, h _ (getD_memN (by omega)), sameK_true.2 ⟨rfl, rfl⟩⟩
    rw [newsTo, h1]
    exact newsTo_none h k (by omega)
/-- merging again adds nothing -/
theorem merge_again {u : Int} (h : mergeB u a b = true) : mergeB u (mergeL a b) a = true ∧ mergeR u (mergeL a b) a = mergeL a b := by
  obtain ⟨h1, h2, h3, h4⟩ := mergeB_parts h
  have ha := book_asc h1; have hb := book_asc h2
  have hm := merge_asc ha hb
  have e : mergeL (mergeL a b) a = mergeL a b := by
    show isortG NoteC.zero ltN (mergeL a b ++ newsTo (mergeL a b) a a.length) = _
    rw [newsTo_none (fun x hx => (merge_mem ha hb h3).2 (.inl hx)) _ (Nat.le_refl _), List.append_nil]
    exact isortG_asc _ _ rfl hm
  have hc : cleanTo (mergeL a b) a a.length = true := (clean_true hm).2 fun y hy x hx hs => asc_one hm hy ((merge_mem ha hb h3).2 (.inl hx)) hs
  have hB : mergeB u (mergeL a b) a = true := by
    unfold mergeB
    rw [e, h4, h1, hc]
    rfl
  exact ⟨hB, by rw [mergeR, hB, e]; rfl⟩
theorem merge_has' (ha : ascN a) (hb : ascN b) (hc : cleanTo a b b.length = true) {p : Int × Int} (h : hasP a p = true ∨ hasP b p = true) : hasP (mergeL a b) p = true := by
  rcases h with h | h
  · obtain ⟨y, hy, e⟩ := hasP_true.1 h
    exact hasP_true.2 ⟨y, (merge_mem ha hb hc).2 (.inl hy), e⟩
  · obtain ⟨y, hy, e⟩ := hasP_true.1 h
    exact hasP_true.2 ⟨y, (merge_mem ha hb hc).2 (.inr hy), e⟩
theorem merge_few {S T : List (Int × Int)} (ha : ascN a) (hb : ascN b) (hc : cleanTo a b b.length = true) (hS : fewM a S) (hT : fewM b T) : fewM (mergeL a b) (S ++ T) := by
  intro x hx p hp hh
  rcases (merge_mem ha hb hc).1 hx with hx | hx
  · refine List.mem_append_left _ (hS x hx p hp ?_)
    cases h1 : hasP a p
    · rfl
    · rw [merge_has' ha hb hc (.inl h1)] at hh; cases hh
  · refine List.mem_append_right _ (hT x hx p hp ?_)
    cases h1 : hasP b p
    · rfl
    · rw [merge_has' ha hb hc (.inr h1)] at hh; cases hh
theorem merge_comp (ha : ascN a) (hb : ascN b) (hc : cleanTo a b b.length = true) (h1 : compB a = true) (h2 : compB b = true) : compB (mergeL a b) = true := by
  refine compB_true.2 fun x hx p hp => ?_
  rcases (merge_mem ha hb hc).1 hx with hx | hx
  · have hk := knowP_true.1 (compB_true.1 h1 x hx p hp)
    obtain ⟨g1, g2, g3⟩ := getP_spec hk.1
    rw [knowP_true, getP_eq (merge_asc ha hb) ((merge_mem ha hb hc).2 (.inl g1)) g2 g3]
    exact ⟨merge_has' ha hb hc (.inl hk.1), hk.2⟩
  · have hk := knowP_true.1 (compB_true.1 h2 x hx p hp)
    obtain ⟨g1, g2, g3⟩ := getP_spec hk.1
    rw [knowP_true, getP_eq (merge_asc ha hb) ((merge_mem ha hb hc).2 (.inr g1)) g2 g3]
    exact ⟨merge_has' ha hb hc (.inr hk.1), hk.2⟩
end

section
variable {l t : List NoteC} {x : NoteC}
theorem few_drop (h : compB (x :: t) = true) : fewM t [(x.un, x.sq)] := by
  intro y hy p hp hh
  obtain ⟨z, hz, e1, e2⟩ := hasP_true.1 (knowP_true.1 (compB_true.1 h y (List.mem_cons_of_mem _ hy) p hp)).1
  rcases List.mem_cons.1 hz with rfl | hz
  · exact List.mem_singleton.2 (Prod.ext e1.symm e2.symm)
  · rw [hasP_true.2 ⟨z, hz, e1, e2⟩] at hh
    cases hh
theorem few_word (h : compB (t ++ [x]) = true) (wd : Bs) : fewM (t ++ [⟨x.un, x.sq, x.cl, wd⟩]) [] := by
  intro y hy p hp hh
  exfalso
  have hg : hasP (t ++ [x]) p = true := by
    rcases List.mem_append.1 hy with hy | hy
    · exact (knowP_true.1 (compB_true.1 h y (List.mem_append_left _ hy) p hp)).1
    · rw [List.mem_singleton] at hy
      subst hy
      exact (knowP_true.1 (compB_true.1 h x (List.mem_append_right _ (List.mem_singleton.2 rfl)) p hp)).1
  obtain ⟨z, hz, e1, e2⟩ := hasP_true.1 hg
  rcases List.mem_append.1 hz with hz | hz
  · rw [hasP_true.2 ⟨z, List.mem_append_left _ hz, e1, e2⟩] at hh; cases hh
  · rw [List.mem_singleton] at hz
    subst hz
    have h9 : hasP (t ++ [⟨z.un, z.sq, z.cl, wd⟩]) p = true := hasP_true.2 ⟨_, List.mem_append_right _ (List.mem_singleton.2 rfl), e1, e2⟩
    rw [h9] at hh; cases hh
theorem few_clock (h : compB (t ++ [x]) = true) {v : Int} (hv : v ≤ 3) : fewM (t ++ [⟨x.un, x.sq, x.cl.set 0 v, x.wd⟩]) [(0, 1), (0, 2), (0, 3)] := by
  intro y hy p hp hh
  have hg : hasP (t ++ [x]) p = true ∨ p ∈ [((0 : Int), (1 : Int)), (0, 2), (0, 3)] := by
    rcases List.mem_append.1 hy with hy | hy
    · exact .inl (knowP_true.1 (compB_true.1 h y (List.mem_append_left _ hy) p hp)).1
    · rw [List.mem_singleton] at hy
      subst hy
      obtain ⟨u, h1, h2, h3, h4⟩ := toldA_mem.1 hp
      simp only at h1 h4
      rw [List.length_set] at h1
      rw [getD_setI] at h4
      by_cases e : 0 = u
      · subst e
        rw [if_pos rfl, if_pos h1] at h4
        right
        have h5 : p.2 = 1 ∨ p.2 = 2 ∨ p.2 = 3 := by omega
        rcases h5 with h5 | h5 | h5
        · rw [show p = (0, 1) from Prod.ext h2 h5]; simp
        · rw [show p = (0, 2) from Prod.ext h2 h5]; simp
        · rw [show p = (0, 3) from Prod.ext h2 h5]; simp
      · rw [if_neg e] at h4
        exact .inl (knowP_true.1 (compB_true.1 h x (List.mem_append_right _ (List.mem_singleton.2 rfl)) p (toldA_mem.2 ⟨u, h1, h2, h3, h4⟩))).1
  rcases hg with hg | hg
  · exfalso
    obtain ⟨z, hz, e1, e2⟩ := hasP_true.1 hg
    rcases List.mem_append.1 hz with hz | hz
    · rw [hasP_true.2 ⟨z, List.mem_append_left _ hz, e1, e2⟩] at hh; cases hh
    · rw [List.mem_singleton] at hz
      subst hz
      have h9 : hasP (t ++ [⟨z.un, z.sq, z.cl.set 0 v, z.wd⟩]) p = true := hasP_true.2 ⟨_, List.mem_append_right _ (List.mem_singleton.2 rfl), e1, e2⟩
      rw [h9] at hh; cases hh
  · exact hg
end

/-- the sum of a clock's first places -/
def sumTo (cl : List Int) : Nat → Int
  | 0 => 0
  | k + 1 => sumTo cl k + cl.getD k 0
def sumC (x : NoteC) : Int := sumTo x.cl x.cl.length
theorem sumTo_le {a b : List Int} : ∀ {k : Nat}, (∀ i, i < k → a.getD i 0 ≤ b.getD i 0) → sumTo a k ≤ sumTo b k
  | 0, _ => Int.le_refl _
  | k + 1, h => by
    have h1 := sumTo_le (a := a) (b := b) (k := k) fun i hi => h i (by omega)
    have h2 := h k (by omega)
    rw [sumTo, sumTo]
    omega
theorem sumTo_lt {a b : List Int} {j : Nat} (hj : a.getD j 0 < b.getD j 0) : ∀ {k : Nat}, j < k → (∀ i, i < k → a.getD i 0 ≤ b.getD i 0) → sumTo a k < sumTo b k
  | 0, h, _ => by omega
  | k + 1, hk, h => by
    rw [sumTo, sumTo]
    by_cases e : j = k
    · subst e
      have h1 := sumTo_le (a := a) (b := b) (k := j) fun i hi => h i (by omega)
      omega
    · have h1 := sumTo_lt hj (k := k) (by omega) fun i hi => h i (by omega)
      have h2 := h k (by omega)
      omega
theorem sumTo_b {a : List Int} (h : ∀ z ∈ a, 0 ≤ z ∧ z ≤ 12) : ∀ k, 0 ≤ sumTo a k ∧ sumTo a k ≤ 12 * (k : Int)
  | 0 => ⟨Int.le_refl _, Int.le_refl _⟩
  | k + 1 => by
    have ih := sumTo_b h k
    have h2 : 0 ≤ a.getD k 0 ∧ a.getD k 0 ≤ 12 := by
      rw [List.getD_eq_getElem?_getD]
      cases e : a[k]? with
      | none => decide
      | some z => exact h z (List.mem_of_getElem? e)
    rw [sumTo]
    omega
def ltSum (l : List NoteC) (i k : Int) : Bool := decide (sumC (l.getD i.toNat NoteC.zero) < sumC (l.getD k.toNat NoteC.zero))
def idxTo : Nat → List Int
  | 0 => []
  | k + 1 => idxTo k ++ [(k : Int)]
/-- the notes' places in an order that fits -/
def ordL (l : List NoteC) : List Int := isortG 0 (ltSum l) (idxTo l.length)
theorem idxTo_len : ∀ k, (idxTo k).length = k
  | 0 => rfl
  | k + 1 => by rw [idxTo, List.length_append, idxTo_len]; rfl
theorem idxTo_mem {z : Int} : ∀ {k : Nat}, z ∈ idxTo k ↔ 0 ≤ z ∧ z < k
  | 0 => by simp [idxTo]
  | k + 1 => by rw [idxTo, List.mem_append, idxTo_mem, List.mem_singleton]; omega
theorem idxTo_nodup : ∀ k, (idxTo k).Nodup
  | 0 => List.nodup_nil
  | k + 1 => by
    refine List.nodup_append.2 ⟨idxTo_nodup k, (by simp), fun a ha b hb e => ?_⟩
    rw [List.mem_singleton] at hb
    have := idxTo_mem.1 ha
    omega
section
variable {α : Type} {d : α} {f : α → Int}
theorem insR_key {x : α} : ∀ {A : List α}, A.Pairwise (fun a b => f a ≤ f b) → (insR (fun a b => decide (f a < f b)) x A).Pairwise (fun a b => f a ≤ f b)
  | [], _ => List.pairwise_singleton ..
  | a :: A, hs => by
    obtain ⟨h1, h2⟩ := List.pairwise_cons.1 hs
    unfold insR
    split
    · rename_i h3
      rw [List.all_eq_true] at h3
      refine List.pairwise_cons.2 ⟨fun y hy => ?_, hs⟩
      have := of_decide_eq_true (h3 y hy)
      omega
    · rename_i h3
      have h4 : f a ≤ f x := by
        rcases Int.lt_or_le (f x) (f a) with h5 | h5
        · refine absurd ?_ h3
          rw [List.all_eq_true]
          intro y hy
          refine decide_eq_true ?_
          rcases List.mem_cons.1 hy with rfl | hy
          · exact h5
          · have := h1 y hy
            omega
        · exact h5
      refine List.pairwise_cons.2 ⟨fun y hy => ?_, insR_key h2⟩
      rcases insR_mem.1 hy with rfl | hy
      · exact h4
      · exact h1 y hy
theorem isortG_key : ∀ (m : Nat) (xs : List α), xs.length = m → (isortG d (fun a b => decide (f a < f b)) xs).Pairwise (fun a b => f a ≤ f b)
  | 0, xs, h => by
    obtain rfl := List.eq_nil_of_length_eq_zero h
    exact List.Pairwise.nil
  | m + 1, xs, h => by
    obtain ⟨ys, x, rfl⟩ : ∃ A' a, xs = A' ++ [a] := ⟨xs.dropLast, xs.getLast (by intro e; subst e; simp at h), (List.dropLast_concat_getLast _).symm⟩
    rw [isortG_snoc]
    exact insR_key (isortG_key m ys (by simpa using h))
end
theorem ordL_perm (l : List NoteC) : (ordL l).Perm (idxTo l.length) := isortG_perm _ _ rfl
theorem ordL_len (l : List NoteC) : (ordL l).length = l.length := by rw [(ordL_perm l).length_eq, idxTo_len]
/-- places in the order -/
theorem ordL_at (l : List NoteC) {i : Nat} (hi : i < l.length) : ∃ p : Nat, (ordL l).getD i 0 = p ∧ p < l.length := by
  have hm : (ordL l).getD i 0 ∈ ordL l := getD_mem (by rw [ordL_len]; exact hi)
  have := idxTo_mem.1 ((ordL_perm l).mem_iff.1 hm)
  exact ⟨((ordL l).getD i 0).toNat, by omega, by omega⟩
theorem ordL_fits {u : Int} {l : List NoteC} (hb : bookB u l = true) (hc : compB l = true) {i k p q : Nat} (hik : i < k) (hk : k < l.length) (hp : (ordL l).getD i 0 = p) (hq : (ordL l).getD k 0 = q) (hpl : p < l.length) (hql : q < l.length) :
    befC (l.getD q NoteC.zero) (l.getD p NoteC.zero) = false ∧ sameK (l.getD q NoteC.zero) (l.getD p NoteC.zero) = false := by
  have hne : p ≠ q := by
    rintro rfl
    have hn : (ordL l).Nodup := (ordL_perm l).nodup_iff.2 (idxTo_nodup _)
    have hp2 := List.pairwise_iff_getElem.1 hn i k (by rw [ordL_len]; omega) (by rw [ordL_len]; omega) hik
    rw [List.getD_eq_getElem?_getD, List.getElem?_eq_getElem (by rw [ordL_len]; omega)] at hp hq
    have hp3 : (ordL l)[i]'(by rw [ordL_len]; omega) = (p : Int) := hp
    have hq3 : (ordL l)[k]'(by rw [ordL_len]; omega) = (p : Int) := hq
    exact hp2 (hp3.trans hq3.symm)
  have ha := book_asc hb
  have hkey : sameK (l.getD q NoteC.zero) (l.getD p NoteC.zero) = false := by
    rcases Nat.lt_or_gt_of_ne hne with h1 | h1
    · rw [sameK_symm]; exact ltN_key (asc_get ha h1 hql)
    · exact ltN_key (asc_get ha h1 hpl)
  refine ⟨?_, hkey⟩
  have hs : sumC (l.getD p NoteC.zero) ≤ sumC (l.getD q NoteC.zero) := by
    have h1 := List.pairwise_iff_getElem.1 (isortG_key (d := (0 : Int)) (f := fun z : Int => sumC (l.getD z.toNat NoteC.zero)) _ (idxTo l.length) rfl) i k (by rw [isortG_length, idxTo_len]; omega) (by rw [isortG_length, idxTo_len]; omega) hik
    rw [List.getD_eq_getElem?_getD, List.getElem?_eq_getElem (by rw [ordL_len]; omega)] at hp hq
    have hp3 : (isortG (0 : Int) (fun a b : Int => decide (sumC (l.getD a.toNat NoteC.zero) < sumC (l.getD b.toNat NoteC.zero))) (idxTo l.length))[i]'(by rw [isortG_length, idxTo_len]; omega) = (p : Int) := hp
    have hq3 : (isortG (0 : Int) (fun a b : Int => decide (sumC (l.getD a.toNat NoteC.zero) < sumC (l.getD b.toNat NoteC.zero))) (idxTo l.length))[k]'(by rw [isortG_length, idxTo_len]; omega) = (q : Int) := hq
    simp only [hp3, hq3, Int.toNat_natCast] at h1
    exact h1
  have bp := noteB_true (book_note hb hpl)
  have bq := noteB_true (book_note hb hql)
  cases hbf : befC (l.getD q NoteC.zero) (l.getD p NoteC.zero)
  · rfl
  · exfalso
    have h1 := of_decide_eq_true hbf
    have hlen : (l.getD q NoteC.zero).cl.length = (l.getD p NoteC.zero).cl.length := by have := bp.1; have := bq.1; omega
    obtain ⟨h2, h3⟩ := comp_before ha hc (getD_memN hql) (getD_memN hpl) (fun e => by rw [e, sameK_true.2 ⟨rfl, rfl⟩] at hkey; cases hkey) ⟨bq.2.2.1.1, by have := bp.1; have := bq.2.2.1; omega⟩ bq.2.2.2.1 h1
    have h4 : sumC (l.getD q NoteC.zero) < sumC (l.getD p NoteC.zero) := by
      unfold sumC
      rw [hlen]
      refine sumTo_lt (j := (l.getD p NoteC.zero).un.toNat) (by rw [bp.2.2.2.2.1]; exact h3) (by have := bp.1; have := bp.2.2.1; omega) fun t ht => leC_true.1 h2 t (by rw [hlen]; exact ht)
    omega
end Go.Proofs.YtjnbdgldpmmamaaGreat

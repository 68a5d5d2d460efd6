/-
  MergeBooks: the pure part.
-/
import Derived.Test.YtjnbdgldpmmamaaGreatUNoteX
/-
  MergeBooks: the pure part.
-/
namespace Go.Proofs.YtjnbdgldpmmamaaGreat
set_option linter.unusedSimpArgs false
set_option linter.unusedVariables false
open Go.RowKit

/-- of the same unit, with the same number -/
def sameK (x y : NoteC) : Bool := x.un == y.un && x.sq == y.sq
def hasN (l : List NoteC) (x : NoteC) : Bool := l.any (fun y => sameK y x)
def plN (l : List NoteC) (x : NoteC) : Nat := l.findIdx (fun y => sameK y x)
/-- the notes that are new -/
def newsTo (a b : List NoteC) : Nat → List NoteC
  | 0 => []
  | k + 1 => if hasN a (b.getD k NoteC.zero) then newsTo a b k else newsTo a b k ++ [b.getD k NoteC.zero]
def okAt (a : List NoteC) (x : NoteC) : Bool := !hasN a x || decide (a.getD (plN a x) NoteC.zero = x)
def cleanTo (a b : List NoteC) (k : Nat) : Bool := (List.range k).all fun i => okAt a (b.getD i NoteC.zero)
def mergeTo (a b : List NoteC) (k : Nat) : List NoteC := isortG NoteC.zero ltN (a ++ newsTo a b k)
def mergeL (a b : List NoteC) : List NoteC := mergeTo a b b.length
def mergeB (u : Int) (a b : List NoteC) : Bool := bookB u a && bookB u b && cleanTo a b b.length && bookB u (mergeL a b)
def mergeR (u : Int) (a b : List NoteC) : List NoteC := if mergeB u a b then mergeL a b else []
theorem cleanTo_succ (a b : List NoteC) (k : Nat) : cleanTo a b (k + 1) = (cleanTo a b k && okAt a (b.getD k NoteC.zero)) := by simp [cleanTo, List.range_succ]
theorem clean_bad {a b : List NoteC} {k : Nat} (hk : k < b.length) (h : okAt a (b.getD k NoteC.zero) = false) : cleanTo a b b.length = false := by
  cases hc : cleanTo a b b.length
  · rfl
  · rw [cleanTo, List.all_eq_true] at hc
    have := hc k (List.mem_range.2 hk)
    rw [h] at this
    cases this
theorem sameK_true {x y : NoteC} : sameK x y = true ↔ x.un = y.un ∧ x.sq = y.sq := by unfold sameK; simp
theorem ltN_tot {x y : NoteC} (h : sameK x y = false) : ltN x y = true ∨ ltN y x = true := by
  unfold ltN
  simp only [Bool.or_eq_true, Bool.and_eq_true, decide_eq_true_eq]
  have h2 : ¬ (x.un = y.un ∧ x.sq = y.sq) := fun e => by rw [sameK_true.2 e] at h; cases h
  omega
theorem ltN_key {x y : NoteC} (h : ltN x y = true) : sameK x y = false := by
  cases hs : sameK x y
  · rfl
  · have h2 := sameK_true.1 hs
    unfold ltN at h
    simp only [Bool.or_eq_true, Bool.and_eq_true, decide_eq_true_eq] at h
    omega
theorem sameK_symm (x y : NoteC) : sameK x y = sameK y x := by
  unfold sameK
  rw [Bool.beq_comm (a := x.un), Bool.beq_comm (a := x.sq)]
theorem asc_one {l : List NoteC} (h : ascN l) {x y : NoteC} (hx : x ∈ l) (hy : y ∈ l) (hs : sameK x y = true) : x = y := by
  obtain ⟨i, hi, rfl⟩ := List.getElem_of_mem hx
  obtain ⟨j, hj, rfl⟩ := List.getElem_of_mem hy
  have hp := List.pairwise_iff_getElem.1 h
  rcases Nat.lt_trichotomy i j with h1 | h1 | h1
  · have := ltN_key (hp i j hi hj h1)
    rw [hs] at this; cases this
  · subst h1; rfl
  · have := ltN_key (hp j i hj hi h1)
    rw [sameK_symm, hs] at this; cases this
theorem has_pl {l : List NoteC} {x : NoteC} (h : hasN l x = true) : plN l x < l.length ∧ sameK (l.getD (plN l x) NoteC.zero) x = true ∧ l.getD (plN l x) NoteC.zero ∈ l := by
  have h1 : plN l x < l.length := List.findIdx_lt_length_of_exists (by simpa [hasN] using h)
  have h2 : sameK (l[plN l x]'h1) x = true := List.findIdx_getElem (p := fun y => sameK y x)
  rw [List.getD_eq_getElem?_getD, List.getElem?_eq_getElem h1]
  exact ⟨h1, h2, List.getElem_mem h1⟩
theorem sameK_trans {x y z : NoteC} (h1 : sameK x z = true) (h2 : sameK y z = true) : sameK x y = true := by
  rw [sameK_true] at h1 h2 ⊢
  exact ⟨h1.1.trans h2.1.symm, h1.2.trans h2.2.symm⟩
theorem has_perm {l m : List NoteC} (h : l.Perm m) (x : NoteC) : hasN l x = hasN m x := by
  have e : ∀ l : List NoteC, hasN l x = true ↔ ∃ y ∈ l, sameK y x = true := fun l => by unfold hasN; rw [List.any_eq_true]
  cases h1 : hasN m x
  · cases h2 : hasN l x
    · rfl
    · obtain ⟨y, hy, hs⟩ := (e l).1 h2
      rw [(e m).2 ⟨y, h.mem_iff.1 hy, hs⟩] at h1
      cases h1
  · obtain ⟨y, hy, hs⟩ := (e m).1 h1
    exact (e l).2 ⟨y, h.mem_iff.2 hy, hs⟩
theorem newsTo_mem {a b : List NoteC} : ∀ {k : Nat} {y : NoteC}, y ∈ newsTo a b k → ∃ i, i < k ∧ y = b.getD i NoteC.zero
  | 0, _, h => by cases h
  | k + 1, y, h => by
    unfold newsTo at h
    split at h
    · obtain ⟨i, hi, e⟩ := newsTo_mem h
      exact ⟨i, by omega, e⟩
    · rcases List.mem_append.1 h with h | h
      · obtain ⟨i, hi, e⟩ := newsTo_mem h
        exact ⟨i, by omega, e⟩
      · rw [List.mem_singleton] at h
        exact ⟨k, by omega, h⟩
theorem newsTo_len (a b : List NoteC) : ∀ k, (newsTo a b k).length ≤ k
  | 0 => Nat.le_refl _
  | k + 1 => by
    have := newsTo_len a b k
    unfold newsTo
    split
    · omega
    · rw [List.length_append, List.length_singleton]; omega
theorem asc_get {l : List NoteC} (h : ascN l) {i j : Nat} (hij : i < j) (hj : j < l.length) : ltN (l.getD i NoteC.zero) (l.getD j NoteC.zero) = true := by
  have := List.pairwise_iff_getElem.1 h i j (by omega) hj hij
  rw [List.getD_eq_getElem?_getD, List.getD_eq_getElem?_getD, List.getElem?_eq_getElem hj, List.getElem?_eq_getElem (by omega)]
  exact this
theorem putN_perm (x : NoteC) (l : List NoteC) : (putN x l).Perm (x :: l) := by
  unfold putN
  rw [List.append_assoc, List.singleton_append]
  refine List.perm_middle.trans ?_
  rw [List.take_append_drop]
theorem putN_asc {x : NoteC} : ∀ {l : List NoteC}, ascN l → (∀ y ∈ l, ltN y x = true ∨ ltN x y = true) → ascN (putN x l)
  | [], _, _ => List.pairwise_singleton ..
  | a :: l, hs, h => by
    obtain ⟨h1, h2⟩ := List.pairwise_cons.1 hs
    rw [putN_cons]
    split
    · rename_i h3
      refine List.pairwise_cons.2 ⟨fun y hy => ?_, putN_asc h2 fun z hz => h z (List.mem_cons_of_mem _ hz)⟩
      rcases List.mem_cons.1 ((putN_perm x l).mem_iff.1 hy) with rfl | hy
      · exact h3
      · exact h1 y hy
    · rename_i h3
      have h4 : ltN x a = true := (h a (List.mem_cons_self ..)).resolve_left h3
      refine List.pairwise_cons.2 ⟨fun y hy => ?_, hs⟩
      rcases List.mem_cons.1 hy with rfl | hy
      · exact h4
      · exact ltN_trans h4 (h1 y hy)
/-- what holds after the first k notes -/
theorem merge_facts {a b : List NoteC} (ha : ascN a) (hb : ascN b) : ∀ k, k ≤ b.length → ascN (mergeTo a b k) ∧ (mergeTo a b k).Perm (a ++ newsTo a b k)
  | 0, _ => by
    have e : mergeTo a b 0 = a := by
      show isortG NoteC.zero ltN (a ++ []) = a
      rw [List.append_nil]
      exact isortG_asc _ a rfl ha
    rw [e]
    exact ⟨ha, by show a.Perm (a ++ []); rw [List.append_nil]⟩
  | k + 1, hk => by
    obtain ⟨h1, h2⟩ := merge_facts ha hb k (by omega)
    have hp : (mergeTo a b (k + 1)).Perm (a ++ newsTo a b (k + 1)) := isortG_perm _ _ rfl
    refine ⟨?_, hp⟩
    unfold mergeTo newsTo
    cases hh : hasN a (b.getD k NoteC.zero)
    · simp only [Bool.false_eq_true, if_false]
      rw [← List.append_assoc, isortG_snoc]
      have hc : ∀ y ∈ mergeTo a b k, ltN y (b.getD k NoteC.zero) = true ∨ ltN (b.getD k NoteC.zero) y = true := fun y hy => by
        rcases List.mem_append.1 (h2.mem_iff.1 hy) with hy | hy
        · refine ltN_tot ?_
          unfold hasN at hh
          rw [List.any_eq_false] at hh
          simpa using hh y hy
        · obtain ⟨i, hi, rfl⟩ := newsTo_mem hy
          exact .inl (asc_get hb hi (by omega))
      rw [show isortG NoteC.zero ltN (a ++ newsTo a b k) = mergeTo a b k from rfl, insR_put h1 hc]
      exact putN_asc h1 hc
    · simp only [if_true]
      exact h1
theorem merge_has {a b : List NoteC} (ha : ascN a) (hb : ascN b) {k : Nat} (hk : k < b.length) : hasN (mergeTo a b k) (b.getD k NoteC.zero) = hasN a (b.getD k NoteC.zero) := by
  rw [has_perm (merge_facts ha hb k (by omega)).2]
  have e : hasN (a ++ newsTo a b k) (b.getD k NoteC.zero) = (hasN a (b.getD k NoteC.zero) || hasN (newsTo a b k) (b.getD k NoteC.zero)) := by unfold hasN; rw [List.any_append]
  have e2 : hasN (newsTo a b k) (b.getD k NoteC.zero) = false := by
    unfold hasN
    rw [List.any_eq_false]
    intro y hy
    obtain ⟨i, hi, rfl⟩ := newsTo_mem hy
    rw [ltN_key (asc_get hb hi hk)]
    simp
  rw [e, e2, Bool.or_false]
theorem merge_old {a b : List NoteC} (ha : ascN a) (hb : ascN b) {k : Nat} (hk : k < b.length) (h : hasN a (b.getD k NoteC.zero) = true) : (mergeTo a b k).getD (plN (mergeTo a b k) (b.getD k NoteC.zero)) NoteC.zero = a.getD (plN a (b.getD k NoteC.zero)) NoteC.zero := by
  obtain ⟨h1, h2⟩ := merge_facts ha hb k (by omega)
  obtain ⟨-, p2, p3⟩ := has_pl h
  obtain ⟨-, q2, q3⟩ := has_pl (l := mergeTo a b k) (by rw [merge_has ha hb hk]; exact h)
  exact asc_one h1 q3 (h2.mem_iff.2 (List.mem_append_left _ p3)) (sameK_trans q2 p2)
theorem merge_new {a b : List NoteC} (ha : ascN a) (hb : ascN b) {k : Nat} (hk : k < b.length) (h : hasN a (b.getD k NoteC.zero) = false) : putN (b.getD k NoteC.zero) (mergeTo a b k) = mergeTo a b (k + 1) := by
  obtain ⟨h1, h2⟩ := merge_facts ha hb k (by omega)
  have hc : ∀ y ∈ mergeTo a b k, ltN y (b.getD k NoteC.zero) = true ∨ ltN (b.getD k NoteC.zero) y = true := fun y hy => by
    rcases List.mem_append.1 (h2.mem_iff.1 hy) with hy | hy
    · refine ltN_tot ?_
      unfold hasN at h
      rw [List.any_eq_false] at h
      simpa using h y hy
    · obtain ⟨i, hi, rfl⟩ := newsTo_mem hy
      exact .inl (asc_get hb hi hk)
  show _ = isortG NoteC.zero ltN (a ++ newsTo a b (k + 1))
  rw [newsTo, h]
  simp only [Bool.false_eq_true, if_false]
  rw [← List.append_assoc, isortG_snoc, ← insR_put h1 hc]
  rfl
theorem merge_same {a b : List NoteC} {k : Nat} (h : hasN a (b.getD k NoteC.zero) = true) : mergeTo a b (k + 1) = mergeTo a b k := by
  unfold mergeTo
  rw [newsTo, h]
  rfl
theorem mergeTo_zero {a b : List NoteC} (ha : ascN a) : mergeTo a b 0 = a := by
  show isortG NoteC.zero ltN (a ++ []) = a
  rw [List.append_nil]
  exact isortG_asc _ a rfl ha
theorem mergeTo_len (a b : List NoteC) (k : Nat) : (mergeTo a b k).length = a.length + (newsTo a b k).length := by
  unfold mergeTo
  rw [isortG_length, List.length_append]
end Go.Proofs.YtjnbdgldpmmamaaGreat

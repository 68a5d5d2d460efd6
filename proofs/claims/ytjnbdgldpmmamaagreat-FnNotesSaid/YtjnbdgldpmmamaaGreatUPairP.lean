/-
  Notebooks: what is told and not there, complete notebooks, latest notes, orders: the pure part.
-/
import Derived.Test.YtjnbdgldpmmamaaGreatUMrgP
/-
  Notebooks: what is told and not there, complete notebooks, latest notes, orders: the pure part.
-/
namespace Go.Proofs.YtjnbdgldpmmamaaGreat
set_option linter.unusedSimpArgs false
set_option linter.unusedVariables false
open Go.RowKit

section
variable {α : Type} {d : α} {lt : α → α → Bool}
theorem insR_mem {x y : α} {A : List α} : y ∈ insR lt x A ↔ y = x ∨ y ∈ A := by rw [(insR_perm (lt := lt) (x := x) (A := A)).mem_iff, List.mem_cons]
theorem insR_asc (ht : ∀ a b c, lt a b = true → lt b c = true → lt a c = true) {x : α} : ∀ {A : List α}, A.Pairwise (fun a b => lt a b = true) → (∀ y ∈ A, lt x y = true ∨ lt y x = true) → (insR lt x A).Pairwise (fun a b => lt a b = true)
  | [], _, _ => List.pairwise_singleton ..
  | a :: A, hs, h => by
    obtain ⟨h1, h2⟩ := List.pairwise_cons.1 hs
    unfold insR
    split
    · rename_i h3
      rw [List.all_eq_true] at h3
      exact List.pairwise_cons.2 ⟨h3, hs⟩
    · rename_i h3
      have h4 : lt a x = true := by
        rcases h a (List.mem_cons_self ..) with h5 | h5
        · refine absurd ?_ h3
          rw [List.all_eq_true]
          intro y hy
          rcases List.mem_cons.1 hy with rfl | hy
          · exact h5
          · exact ht _ _ _ h5 (h1 y hy)
        · exact h5
      refine List.pairwise_cons.2 ⟨fun y hy => ?_, insR_asc ht h2 fun z hz => h z (List.mem_cons_of_mem _ hz)⟩
      rcases insR_mem.1 hy with rfl | hy
      · exact h4
      · exact h1 y hy
theorem isortG_ascN (ht : ∀ a b c, lt a b = true → lt b c = true → lt a c = true) (hd : ∀ a b, a ≠ b → lt a b = true ∨ lt b a = true) : ∀ (m : Nat) (xs : List α), xs.length = m → xs.Nodup → (isortG d lt xs).Pairwise (fun a b => lt a b = true)
  | 0, xs, h, _ => by
    obtain rfl := List.eq_nil_of_length_eq_zero h
    exact List.Pairwise.nil
  | m + 1, xs, h, hn => by
    obtain ⟨ys, x, rfl⟩ : ∃ A' a, xs = A' ++ [a] := ⟨xs.dropLast, xs.getLast (by intro e; subst e; simp at h), (List.dropLast_concat_getLast _).symm⟩
    rw [isortG_snoc]
    have hn2 := List.nodup_append.1 hn
    refine insR_asc ht (isortG_ascN ht hd m ys (by simpa using h) hn2.1) fun y hy => hd _ _ ?_
    rintro rfl
    exact hn2.2.2 _ ((isortG_perm (d := d) (lt := lt) _ ys rfl).mem_iff.1 hy) _ (List.mem_singleton.2 rfl) rfl
theorem asc_same (ha : ∀ a b, lt a b = true → lt b a = false) : ∀ {l m : List α}, l.Pairwise (fun a b => lt a b = true) → m.Pairwise (fun a b => lt a b = true) → (∀ x, x ∈ l ↔ x ∈ m) → l = m
  | [], [], _, _, _ => rfl
  | [], b :: m, _, _, h => absurd ((h b).2 (List.mem_cons_self ..)) (by simp)
  | a :: l, [], _, _, h => absurd ((h a).1 (List.mem_cons_self ..)) (by simp)
  | a :: l, b :: m, hl, hm, h => by
    obtain ⟨l1, l2⟩ := List.pairwise_cons.1 hl
    obtain ⟨m1, m2⟩ := List.pairwise_cons.1 hm
    have e : a = b := by
      rcases List.mem_cons.1 ((h a).1 (List.mem_cons_self ..)) with e | e
      · exact e
      · rcases List.mem_cons.1 ((h b).2 (List.mem_cons_self ..)) with e2 | e2
        · exact e2.symm
        · have := ha _ _ (m1 a e)
          rw [l1 b e2] at this
          cases this
    subst e
    have hirr : ∀ x, lt x x = true → False := fun x hx => by have := ha x x hx; rw [hx] at this; cases this
    rw [asc_same ha l2 m2 fun x => ?_]
    constructor
    · intro hx
      rcases List.mem_cons.1 ((h x).1 (List.mem_cons_of_mem _ hx)) with rfl | hx2
      · exact absurd (l1 _ hx) (fun hh => hirr _ hh)
      · exact hx2
    · intro hx
      rcases List.mem_cons.1 ((h x).2 (List.mem_cons_of_mem _ hx)) with rfl | hx2
      · exact absurd (m1 _ hx) (fun hh => hirr _ hh)
      · exact hx2
end
theorem nodup_len {α : Type} [DecidableEq α] : ∀ {xs S : List α}, xs.Nodup → (∀ x ∈ xs, x ∈ S) → xs.length ≤ S.length
  | [], S, _, _ => Nat.zero_le _
  | x :: xs, S, h, hs => by
    have hx := hs x (List.mem_cons_self ..)
    obtain ⟨h1, h2⟩ := List.nodup_cons.1 h
    have ih := nodup_len (S := S.erase x) h2 fun y hy => (List.mem_erase_of_ne (by rintro rfl; exact h1 hy)).2 (hs y (List.mem_cons_of_mem _ hy))
    rw [List.length_erase_of_mem hx] at ih
    have := List.length_pos_of_mem hx
    rw [List.length_cons]
    omega

/-- pairs of a unit and a number, in order -/
def ltP (a b : Int × Int) : Bool := decide (a.1 < b.1) || (decide (a.1 = b.1) && decide (a.2 < b.2))
theorem ltP_trans (a b c : Int × Int) (h1 : ltP a b = true) (h2 : ltP b c = true) : ltP a c = true := by
  unfold ltP at h1 h2 ⊢
  simp only [Bool.or_eq_true, Bool.and_eq_true, decide_eq_true_eq] at h1 h2 ⊢
  omega
theorem ltP_asym (a b : Int × Int) (h : ltP a b = true) : ltP b a = false := by
  unfold ltP at h ⊢
  simp only [Bool.or_eq_true, Bool.and_eq_true, decide_eq_true_eq] at h
  rw [Bool.or_eq_false_iff, Bool.and_eq_false_iff, decide_eq_false_iff_not, decide_eq_false_iff_not, decide_eq_false_iff_not]
  omega
theorem ltP_tot (a b : Int × Int) (h : a ≠ b) : ltP a b = true ∨ ltP b a = true := by
  unfold ltP
  simp only [Bool.or_eq_true, Bool.and_eq_true, decide_eq_true_eq]
  have h2 : ¬ (a.1 = b.1 ∧ a.2 = b.2) := fun e => h (Prod.ext e.1 e.2)
  omega
def keyN (p : Int × Int) : NoteC := ⟨p.1, p.2, [], []⟩
def hasP (l : List NoteC) (p : Int × Int) : Bool := hasN l (keyN p)
def getP (l : List NoteC) (p : Int × Int) : NoteC := l.getD (plN l (keyN p)) NoteC.zero
theorem hasP_true {l : List NoteC} {p : Int × Int} : hasP l p = true ↔ ∃ y ∈ l, y.un = p.1 ∧ y.sq = p.2 := by
  unfold hasP hasN
  rw [List.any_eq_true]
  constructor
  · rintro ⟨y, hy, h⟩
    exact ⟨y, hy, sameK_true.1 h⟩
  · rintro ⟨y, hy, h⟩
    exact ⟨y, hy, sameK_true.2 h⟩
theorem getP_spec {l : List NoteC} {p : Int × Int} (h : hasP l p = true) : getP l p ∈ l ∧ (getP l p).un = p.1 ∧ (getP l p).sq = p.2 := by
  obtain ⟨-, h2, h3⟩ := has_pl (l := l) (x := keyN p) h
  exact ⟨h3, sameK_true.1 h2⟩
theorem asc_key {l : List NoteC} (h : ascN l) {x y : NoteC} (hx : x ∈ l) (hy : y ∈ l) (h1 : x.un = y.un) (h2 : x.sq = y.sq) : x = y := asc_one h hx hy (sameK_true.2 ⟨h1, h2⟩)
theorem getP_eq {l : List NoteC} (h : ascN l) {y : NoteC} {p : Int × Int} (hy : y ∈ l) (h1 : y.un = p.1) (h2 : y.sq = p.2) : getP l p = y := by
  obtain ⟨g1, g2, g3⟩ := getP_spec (hasP_true.2 ⟨y, hy, h1, h2⟩)
  exact asc_key h g1 hy (g2.trans h1.symm) (g3.trans h2.symm)
/-- the first s pairs that a clock's place u tells -/
def toldU (u : Nat) : Nat → List (Int × Int)
  | 0 => []
  | s + 1 => toldU u s ++ [((u : Int), (s : Int) + 1)]
/-- what the first places of a clock tell -/
def toldC (cl : List Int) : Nat → List (Int × Int)
  | 0 => []
  | u + 1 => toldC cl u ++ toldU u (cl.getD u 0).toNat
def toldA (cl : List Int) : List (Int × Int) := toldC cl cl.length
theorem toldU_mem {u : Nat} {p : Int × Int} : ∀ {s : Nat}, p ∈ toldU u s ↔ p.1 = u ∧ 1 ≤ p.2 ∧ p.2 ≤ s
  | 0 => by simp [toldU]; omega
  | s + 1 => by
    rw [toldU, List.mem_append, toldU_mem, List.mem_singleton, Prod.ext_iff]
    constructor
    · rintro (⟨h1, h2, h3⟩ | ⟨h1, h2⟩)
      · exact ⟨h1, h2, by omega⟩
      · exact ⟨h1, by simp only at h2; omega, by simp only at h2; omega⟩
    · rintro ⟨h1, h2, h3⟩
      by_cases e : p.2 ≤ s
      · exact .inl ⟨h1, h2, e⟩
      · exact .inr ⟨h1, by simp only; omega⟩
theorem toldC_mem {cl : List Int} {p : Int × Int} : ∀ {n : Nat}, p ∈ toldC cl n ↔ ∃ u : Nat, u < n ∧ p.1 = u ∧ 1 ≤ p.2 ∧ p.2 ≤ cl.getD u 0
  | 0 => by simp [toldC]
  | n + 1 => by
    rw [toldC, List.mem_append, toldC_mem, toldU_mem]
    constructor
    · rintro (⟨u, h1, h2⟩ | ⟨h1, h2, h3⟩)
      · exact ⟨u, by omega, h2⟩
      · exact ⟨n, by omega, h1, h2, by omega⟩
    · rintro ⟨u, h1, h2, h3, h4⟩
      by_cases e : u < n
      · exact .inl ⟨u, e, h2, h3, h4⟩
      · obtain rfl : u = n := by omega
        exact .inr ⟨h2, h3, by omega⟩
theorem toldA_mem {cl : List Int} {p : Int × Int} : p ∈ toldA cl ↔ ∃ u : Nat, u < cl.length ∧ p.1 = u ∧ 1 ≤ p.2 ∧ p.2 ≤ cl.getD u 0 := toldC_mem
/-- what is told and not there, each once -/
def addM (l : List NoteC) (out : List (Int × Int)) (p : Int × Int) : List (Int × Int) := if hasP l p || out.contains p then out else out ++ [p]
def rawTo (l : List NoteC) : Nat → List (Int × Int)
  | 0 => []
  | k + 1 => (toldA (l.getD k NoteC.zero).cl).foldl (addM l) (rawTo l k)
def rawM (l : List NoteC) : List (Int × Int) := rawTo l l.length
theorem addM_mem {l : List NoteC} {p : Int × Int} : ∀ {ps out : List (Int × Int)}, p ∈ ps.foldl (addM l) out ↔ p ∈ out ∨ (p ∈ ps ∧ hasP l p = false)
  | [], out => by simp
  | q :: ps, out => by
    rw [List.foldl_cons, addM_mem]
    unfold addM
    cases hh : hasP l q
    · by_cases hc : q ∈ out
      · rw [if_pos (by simp [hc])]
        constructor
        · rintro (h | ⟨h1, h2⟩)
          · exact .inl h
          · exact .inr ⟨List.mem_cons_of_mem _ h1, h2⟩
        · rintro (h | ⟨h1, h2⟩)
          · exact .inl h
          · rcases List.mem_cons.1 h1 with rfl | h1
            · exact .inl hc
            · exact .inr ⟨h1, h2⟩
      · rw [if_neg (by simp [hc])]
        constructor
        · rintro (h | ⟨h1, h2⟩)
          · rcases List.mem_append.1 h with h | h
            · exact .inl h
            · rw [List.mem_singleton] at h
              subst h
              exact .inr ⟨List.mem_cons_self .., hh⟩
          · exact .inr ⟨List.mem_cons_of_mem _ h1, h2⟩
        · rintro (h | ⟨h1, h2⟩)
          · exact .inl (List.mem_append_left _ h)
          · rcases List.mem_cons.1 h1 with rfl | h1
            · exact .inl (List.mem_append_right _ (List.mem_singleton.2 rfl))
            · exact .inr ⟨h1, h2⟩
    · rw [if_pos (by simp)]
      constructor
      · rintro (h | ⟨h1, h2⟩)
        · exact .inl h
        · exact .inr ⟨List.mem_cons_of_mem _ h1, h2⟩
      · rintro (h | ⟨h1, h2⟩)
        · exact .inl h
        · rcases List.mem_cons.1 h1 with rfl | h1
          · rw [hh] at h2; cases h2
          · exact .inr ⟨h1, h2⟩
theorem addM_nodup {l : List NoteC} : ∀ {ps out : List (Int × Int)}, out.Nodup → (ps.foldl (addM l) out).Nodup
  | [], out, h => h
  | q :: ps, out, h => by
    rw [List.foldl_cons]
    refine addM_nodup ?_
    unfold addM
    split
    · exact h
    · rename_i h2
      rw [Bool.or_eq_true, not_or] at h2
      have h3 : q ∉ out := by simpa using h2.2
      refine List.nodup_append.2 ⟨h, (by simp), fun a ha b hb e => ?_⟩
      rw [List.mem_singleton] at hb
      subst hb e
      exact h3 ha
theorem rawTo_mem {l : List NoteC} {p : Int × Int} : ∀ {k : Nat}, p ∈ rawTo l k ↔ ∃ i, i < k ∧ p ∈ toldA (l.getD i NoteC.zero).cl ∧ hasP l p = false
  | 0 => by simp [rawTo]
  | k + 1 => by
    rw [rawTo, addM_mem, rawTo_mem]
    constructor
    · rintro (⟨i, h1, h2⟩ | h)
      · exact ⟨i, by omega, h2⟩
      · exact ⟨k, by omega, h⟩
    · rintro ⟨i, h1, h2⟩
      by_cases e : i < k
      · exact .inl ⟨i, e, h2⟩
      · obtain rfl : i = k := by omega
        exact .inr h2
theorem rawTo_nodup (l : List NoteC) : ∀ k, (rawTo l k).Nodup
  | 0 => List.nodup_nil
  | k + 1 => addM_nodup (rawTo_nodup l k)
theorem getD_memN {l : List NoteC} {i : Nat} (h : i < l.length) : l.getD i NoteC.zero ∈ l := by
  rw [List.getD_eq_getElem?_getD, List.getElem?_eq_getElem h]
  exact List.getElem_mem h
theorem mem_getN {l : List NoteC} {x : NoteC} (h : x ∈ l) : ∃ i, i < l.length ∧ l.getD i NoteC.zero = x := by
  obtain ⟨i, hi, rfl⟩ := List.getElem_of_mem h
  exact ⟨i, hi, by rw [List.getD_eq_getElem?_getD, List.getElem?_eq_getElem hi]; rfl⟩
theorem rawM_mem {l : List NoteC} {p : Int × Int} : p ∈ rawM l ↔ (∃ x ∈ l, p ∈ toldA x.cl) ∧ hasP l p = false := by
  rw [rawM, rawTo_mem]
  constructor
  · rintro ⟨i, h1, h2, h3⟩
    exact ⟨⟨_, getD_memN h1, h2⟩, h3⟩
  · rintro ⟨⟨x, hx, h2⟩, h3⟩
    obtain ⟨i, hi, rfl⟩ := mem_getN hx
    exact ⟨i, hi, h2, h3⟩
/-- at most these are told and not there -/
def fewM (l : List NoteC) (S : List (Int × Int)) : Prop := ∀ x ∈ l, ∀ p ∈ toldA x.cl, hasP l p = false → p ∈ S
theorem rawM_few {l : List NoteC} {S : List (Int × Int)} (h : fewM l S) : (rawM l).length ≤ S.length :=
  nodup_len (rawTo_nodup l _) fun p hp => by
    obtain ⟨⟨x, hx, h2⟩, h3⟩ := rawM_mem.1 hp
    exact h x hx p h2 h3
/-- the greatest number that the first k notes tell of a unit -/
def mostTo (l : List NoteC) (u : Nat) : Nat → Int
  | 0 => 0
  | k + 1 => moreI (mostTo l u k) ((l.getD k NoteC.zero).cl.getD u 0)
theorem moreI_le {z a b : Int} : z ≤ moreI a b ↔ z ≤ a ∨ z ≤ b := by unfold moreI; split <;> omega
theorem mostTo_le {l : List NoteC} {u : Nat} {z : Int} (hz : 1 ≤ z) : ∀ {k : Nat}, z ≤ mostTo l u k ↔ ∃ i, i < k ∧ z ≤ (l.getD i NoteC.zero).cl.getD u 0
  | 0 => by
    constructor
    · intro h
      have : z ≤ 0 := h
      omega
    · rintro ⟨i, h, -⟩
      omega
  | k + 1 => by
    rw [mostTo, moreI_le, mostTo_le hz]
    constructor
    · rintro (⟨i, h1, h2⟩ | h)
      · exact ⟨i, by omega, h2⟩
      · exact ⟨k, by omega, h⟩
    · rintro ⟨i, h1, h2⟩
      by_cases e : i < k
      · exact .inl ⟨i, e, h2⟩
      · obtain rfl : i = k := by omega
        exact .inr h2
def lackU (l : List NoteC) (u : Nat) : Nat → List (Int × Int)
  | 0 => []
  | s + 1 => if hasP l ((u : Int), (s : Int) + 1) then lackU l u s else lackU l u s ++ [((u : Int), (s : Int) + 1)]
def missTo (l : List NoteC) : Nat → List (Int × Int)
  | 0 => []
  | u + 1 => missTo l u ++ lackU l u (mostTo l u l.length).toNat
theorem lackU_mem {l : List NoteC} {u : Nat} {p : Int × Int} : ∀ {s : Nat}, p ∈ lackU l u s ↔ p.1 = u ∧ (1 ≤ p.2 ∧ p.2 ≤ s) ∧ hasP l p = false
  | 0 => by simp [lackU]; omega
  | s + 1 => by
    unfold lackU
    cases hh : hasP l ((u : Int), (s : Int) + 1)
    · rw [if_neg (by simp), List.mem_append, lackU_mem, List.mem_singleton]
      constructor
      · rintro (⟨h1, h2, h3⟩ | rfl)
        · exact ⟨h1, ⟨h2.1, by omega⟩, h3⟩
        · exact ⟨rfl, ⟨by simp only; omega, by simp only; omega⟩, hh⟩
      · rintro ⟨h1, h2, h3⟩
        by_cases e : p.2 ≤ s
        · exact .inl ⟨h1, ⟨h2.1, e⟩, h3⟩
        · exact .inr (Prod.ext h1 (by simp only; omega))
    · rw [if_pos rfl, lackU_mem]
      constructor
      · rintro ⟨h1, h2, h3⟩
        exact ⟨h1, ⟨h2.1, by omega⟩, h3⟩
      · rintro ⟨h1, h2, h3⟩
        refine ⟨h1, ⟨h2.1, ?_⟩, h3⟩
        by_cases e : p.2 ≤ s
        · exact e
        · have : p = ((u : Int), (s : Int) + 1) := Prod.ext h1 (by simp only; omega)
          rw [this, hh] at h3
          cases h3
theorem lackU_asc (l : List NoteC) (u : Nat) : ∀ s, (lackU l u s).Pairwise (fun a b => ltP a b = true)
  | 0 => List.Pairwise.nil
  | s + 1 => by
    unfold lackU
    split
    · exact lackU_asc l u s
    · refine List.pairwise_append.2 ⟨lackU_asc l u s, List.pairwise_singleton .., fun a ha b hb => ?_⟩
      obtain ⟨h1, h2, -⟩ := lackU_mem.1 ha
      rw [List.mem_singleton] at hb
      subst hb
      unfold ltP
      simp only [Bool.or_eq_true, Bool.and_eq_true, decide_eq_true_eq]
      omega
theorem missTo_mem {l : List NoteC} {p : Int × Int} : ∀ {n : Nat}, p ∈ missTo l n ↔ ∃ u : Nat, u < n ∧ p.1 = u ∧ (1 ≤ p.2 ∧ p.2 ≤ mostTo l u l.length) ∧ hasP l p = false
  | 0 => by simp [missTo]
  | n + 1 => by
    rw [missTo, List.mem_append, missTo_mem, lackU_mem]
    constructor
    · rintro (⟨u, h1, h2⟩ | ⟨h1, h2, h3⟩)
      · exact ⟨u, by omega, h2⟩
      · exact ⟨n, by omega, h1, ⟨h2.1, by omega⟩, h3⟩
    · rintro ⟨u, h1, h2, h3, h4⟩
      by_cases e : u < n
      · exact .inl ⟨u, e, h2, h3, h4⟩
      · obtain rfl : u = n := by omega
        exact .inr ⟨h2, ⟨h3.1, by omega⟩, h4⟩
theorem missTo_asc (l : List NoteC) : ∀ n, (missTo l n).Pairwise (fun a b => ltP a b = true)
  | 0 => List.Pairwise.nil
  | n + 1 => by
    refine List.pairwise_append.2 ⟨missTo_asc l n, lackU_asc l n _, fun a ha b hb => ?_⟩
    obtain ⟨u, h1, h2, -⟩ := missTo_mem.1 ha
    obtain ⟨h3, -⟩ := lackU_mem.1 hb
    unfold ltP
    simp only [Bool.or_eq_true, Bool.and_eq_true, decide_eq_true_eq]
    omega
/-- the program's list, sorted, is the reference's -/
theorem miss_eq {l : List NoteC} {U : Nat} (h : ∀ x ∈ l, x.cl.length = U) : isortG (0, 0) ltP (rawM l) = missTo l U := by
  refine asc_same ltP_asym (isortG_ascN ltP_trans ltP_tot _ _ rfl (rawTo_nodup l _)) (missTo_asc l U) fun p => ?_
  rw [(isortG_perm (d := ((0 : Int), (0 : Int))) (lt := ltP) _ (rawM l) rfl).mem_iff, rawM_mem, missTo_mem]
  constructor
  · rintro ⟨⟨x, hx, h2⟩, h3⟩
    obtain ⟨u, h4, h5, h6, h7⟩ := toldA_mem.1 h2
    obtain ⟨i, hi, rfl⟩ := mem_getN hx
    exact ⟨u, by rw [← h _ hx]; exact h4, h5, ⟨h6, (mostTo_le h6).2 ⟨i, hi, h7⟩⟩, h3⟩
  · rintro ⟨u, h1, h2, ⟨h3, h4⟩, h5⟩
    obtain ⟨i, hi, h6⟩ := (mostTo_le h3).1 h4
    exact ⟨⟨_, getD_memN hi, toldA_mem.2 ⟨u, by rw [h _ (getD_memN hi)]; exact h1, h2, h3, h6⟩⟩, h5⟩

/-- no place of a clock is greater -/
def leC (a b : List Int) : Bool := (List.range a.length).all fun u => decide (a.getD u 0 ≤ b.getD u 0)
theorem leC_true {a b : List Int} : leC a b = true ↔ ∀ u, u < a.length → a.getD u 0 ≤ b.getD u 0 := by
  unfold leC
  rw [List.all_eq_true]
  constructor
  · intro h u hu
    simpa using h u (List.mem_range.2 hu)
  · intro h u hu
    simpa using h u (List.mem_range.1 hu)
theorem leC_self (a : List Int) : leC a a = true := leC_true.2 fun _ _ => Int.le_refl _
/-- a pair that a note tells is there, and the note knows it -/
def knowP (l : List NoteC) (x : NoteC) (p : Int × Int) : Bool := hasP l p && ((sameK (getP l p) x || decide ((getP l p).cl.getD x.un.toNat 0 < x.sq)) && leC (getP l p).cl x.cl)
def knowB (l : List NoteC) (x : NoteC) : Bool := (toldA x.cl).all (knowP l x)
def compTo (l : List NoteC) (k : Nat) : Bool := (List.range k).all fun i => knowB l (l.getD i NoteC.zero)
def compB (l : List NoteC) : Bool := compTo l l.length
theorem compTo_succ (l : List NoteC) (k : Nat) : compTo l (k + 1) = (compTo l k && knowB l (l.getD k NoteC.zero)) := by simp [compTo, List.range_succ]
theorem compB_true {l : List NoteC} : compB l = true ↔ ∀ x ∈ l, ∀ p ∈ toldA x.cl, knowP l x p = true := by
  unfold compB compTo
  rw [List.all_eq_true]
  constructor
  · intro h x hx p hp
    obtain ⟨i, hi, rfl⟩ := mem_getN hx
    exact List.all_eq_true.1 (h i (List.mem_range.2 hi)) p hp
  · intro h i hi
    exact List.all_eq_true.2 fun p hp => h _ (getD_memN (List.mem_range.1 hi)) p hp
theorem compB_bad {l : List NoteC} {k : Nat} (hk : k < l.length) (h : knowB l (l.getD k NoteC.zero) = false) : compB l = false := by
  cases hc : compB l
  · rfl
  · unfold compB compTo at hc
    rw [List.all_eq_true] at hc
    rw [hc k (List.mem_range.2 hk)] at h
    cases h
theorem knowP_true {l : List NoteC} {x : NoteC} {p : Int × Int} : knowP l x p = true ↔ hasP l p = true ∧ (sameK (getP l p) x = true ∨ (getP l p).cl.getD x.un.toNat 0 < x.sq) ∧ leC (getP l p).cl x.cl = true := by
  unfold knowP
  simp only [Bool.and_eq_true, Bool.or_eq_true, decide_eq_true_eq]
/-- a complete notebook lacks nothing -/
theorem comp_few {l : List NoteC} (h : compB l = true) : fewM l [] := fun x hx p hp hf => by
  have := (knowP_true.1 (compB_true.1 h x hx p hp)).1
  rw [this] at hf
  cases hf
theorem few_raw {l : List NoteC} (h : fewM l []) : rawM l = [] := by
  have := rawM_few h
  exact List.eq_nil_of_length_eq_zero (by simpa using this)
/-- what comes ahead of a note in a complete notebook, has a smaller clock -/
theorem comp_before {l : List NoteC} (ha : ascN l) (hc : compB l = true) {m n : NoteC} (hm : m ∈ l) (hn : n ∈ l) (hne : m ≠ n) (hu : 0 ≤ m.un ∧ m.un.toNat < n.cl.length) (hs : 1 ≤ m.sq) (hb : m.sq ≤ n.cl.getD m.un.toNat 0) : leC m.cl n.cl = true ∧ m.cl.getD n.un.toNat 0 < n.sq := by
  have ht : (m.un, m.sq) ∈ toldA n.cl := toldA_mem.2 ⟨m.un.toNat, hu.2, by simp only; omega, hs, hb⟩
  have hk := (knowP_true.1 (compB_true.1 hc n hn _ ht)).2
  rw [getP_eq ha hm rfl rfl] at hk
  refine ⟨hk.2, hk.1.resolve_left fun h => ?_⟩
  exact hne (asc_one ha hm hn h)
end Go.Proofs.YtjnbdgldpmmamaaGreat

/-
  Notebooks: what is told and not there, complete notebooks, latest notes, orders: the pure part.
-/
import Derived.Test.YtjnbdgldpmmamaaWMrgP
/-
  Notebooks: what is told and not there, complete notebooks, latest notes, orders: the pure part.
-/
namespace Go.Proofs.Ytjnbdgldpmmamaa
set_option linter.unusedSimpArgs false
set_option linter.unusedVariables false
open Go.RowKit

section
variable {α : Type} {d : α} {lt : α → α → Bool}
end
theorem nodup_len {α : Type} [DecidableEq α] : ∀ {xs S : List α}, xs.Nodup → (∀ x ∈ xs, x ∈ S) → xs.length ≤ S.length
  | [], S, _, _ => Nat.zero_le _
  | x :: xs, S, h, hs => by
    have hx := hs x (List.mem_cons_self ..)
    obtain ⟨h1, h2⟩ := List.nodup_cons.1 h
    have ih := nodup_len (S := S.erase x) h2 fun y hy => (List.mem_erase_of_ne (by rintro rfl; exact h1 hy)).2 (hs y (List.mem_cons_of_mem _ hy))
    rw [List.length_erase_of_mem hx] at ih
    have := List.length_pos_of_mem hx
    rw [List.length_cons]
    omega

/-- pairs of a unit and a number, in order -/
def ltP (a b : Int × Int) : Bool := decide (a.1 < b.1) || (decide (a.1 = b.1) && decide (a.2 < b.2))
def keyN (p : Int × Int) : NoteC := ⟨p.1, p.2, [], []⟩
def hasP (l : List NoteC) (p : Int × Int) : Bool := hasN l (keyN p)
def getP (l : List NoteC) (p : Int × Int) : NoteC := l.getD (plN l (keyN p)) NoteC.zero
theorem hasP_true {l : List NoteC} {p : Int × Int} : hasP l p = true ↔ ∃ y ∈ l, y.un = p.1 ∧ y.sq = p.2 := by
  unfold hasP hasN
  rw [List.any_eq_true]
  constructor
  · rintro ⟨y, hy, h⟩
    exact ⟨y, hy, sameK_true.1 h⟩
  · rintro ⟨y, hy, h⟩
    exact ⟨y, hy, sameK_true.2 h⟩
theorem getP_spec {l : List NoteC} {p : Int × Int} (h : hasP l p = true) : getP l p ∈ l ∧ (getP l p).un = p.1 ∧ (getP l p).sq = p.2 := by
  obtain ⟨-, h2, h3⟩ := has_pl (l := l) (x := keyN p) h
  exact ⟨h3, sameK_true.1 h2⟩
theorem asc_key {l : List NoteC} (h : ascN l) {x y : NoteC} (hx : x ∈ l) (hy : y ∈ l) (h1 : x.un = y.un) (h2 : x.sq = y.sq) : x = y := asc_one h hx hy (sameK_true.2 ⟨h1, h2⟩)
theorem getP_eq {l : List NoteC} (h : ascN l) {y : NoteC} {p : Int × Int} (hy : y ∈ l) (h1 : y.un = p.1) (h2 : y.sq = p.2) : getP l p = y := by
  obtain ⟨g1, g2, g3⟩ := getP_spec (hasP_true.2 ⟨y, hy, h1, h2⟩)
  exact asc_key h g1 hy (g2.trans h1.symm) (g3.trans h2.symm)
/-- the first s pairs that a clock's place u tells -/
def toldU (u : Nat) : Nat → List (Int × Int)
  | 0 => []
  | s + 1 => toldU u s ++ [((u : Int), (s : Int) + 1)]
/-- what the first places of a clock tell -/
def toldC (cl : List Int) : Nat → List (Int × Int)
  | 0 => []
  | u + 1 => toldC cl u ++ toldU u (cl.getD u 0).toNat
def toldA (cl : List Int) : List (Int × Int) := toldC cl cl.length
theorem toldU_mem {u : Nat} {p : Int × Int} : ∀ {s : Nat}, p ∈ toldU u s ↔ p.1 = u ∧ 1 ≤ p.2 ∧ p.2 ≤ s
  | 0 => by simp [toldU]; omega
  | s + 1 => by
    rw [toldU, List.mem_append, toldU_mem, List.mem_singleton, Prod.ext_iff]
    constructor
    · rintro (⟨h1, h2, h3⟩ | ⟨h1, h2⟩)
      · exact ⟨h1, h2, by omega⟩
      · exact ⟨h1, by simp only at h2; omega, by simp only at h2; omega⟩
    · rintro ⟨h1, h2, h3⟩
      by_cases e : p.2 ≤ s
      · exact .inl ⟨h1, h2, e⟩
      · exact .inr ⟨h1, by simp only; omega⟩
theorem toldC_mem {cl : List Int} {p : Int × Int} : ∀ {n : Nat}, p ∈ toldC cl n ↔ ∃ u : Nat, u < n ∧ p.1 = u ∧ 1 ≤ p.2 ∧ p.2 ≤ cl.getD u 0
  | 0 => by simp [toldC]
  | n + 1 => by
    rw [toldC, List.mem_append, toldC_mem, toldU_mem]
    constructor
    · rintro (⟨u, h1, h2⟩ | ⟨h1, h2, h3⟩)
      · exact ⟨u, by omega, h2⟩
      · exact ⟨n, by omega, h1, h2, by omega⟩
    · rintro ⟨u, h1, h2, h3, h4⟩
      by_cases e : u < n
      · exact .inl ⟨u, e, h2, h3, h4⟩
      · obtain rfl : u = n := by omega
        exact .inr ⟨h2, h3, by omega⟩
theorem toldA_mem {cl : List Int} {p : Int × Int} : p ∈ toldA cl ↔ ∃ u : Nat, u < cl.length ∧ p.1 = u ∧ 1 ≤ p.2 ∧ p.2 ≤ cl.getD u 0 := toldC_mem
/-- what is told and not there, each once -/
def addM (l : List NoteC) (out : List (Int × Int)) (p : Int × Int) : List (Int × Int) := if hasP l p || out.contains p then out else out ++ [p]
def rawTo (l : List NoteC) : Nat → List (Int × Int)
  | 0 => []
  | k + 1 => (toldA (l.getD k NoteC.zero).cl).foldl (addM l) (rawTo l k)
def rawM (l : List NoteC) : List (Int × Int) := rawTo l l.length
theorem addM_mem {l : List NoteC} {p : Int × Int} : ∀ {ps out : List (Int × Int)}, p ∈ ps.foldl (addM l) out ↔ p ∈ out ∨ (p ∈ ps ∧ hasP l p = false)
  | [], out => by simp
  | q :: ps, out => by
    rw [List.foldl_cons, addM_mem]
    unfold addM
    cases hh : hasP l q
    · by_cases hc : q ∈ out
      · rw [if_pos (by simp [hc])]
        constructor
        · rintro (h | ⟨h1, h2⟩)
          · exact .inl h
          · exact .inr ⟨List.mem_cons_of_mem _ h1, h2⟩
        · rintro (h | ⟨h1, h2⟩)
          · exact .inl h
          · rcases List.mem_cons.1 h1 with rfl | h1
            · exact .inl hc
            · exact .inr ⟨h1, h2⟩
      · rw [if_neg (by simp [hc])]
        constructor
        · rintro (h | ⟨h1, h2⟩)
          · rcases List.mem_append.1 h with h | h
            · exact .inl h
            · rw [List.mem_singleton] at h
              subst h
              exact .inr ⟨List.mem_cons_self .., hh⟩
          · exact .inr ⟨List.mem_cons_of_mem _ h1, h2⟩
        · rintro (h | ⟨h1, h2⟩)
          · exact .inl (List.mem_append_left _ h)
          · rcases List.mem_cons.1 h1 with rfl | h1
            · exact .inl (List.mem_append_right _ (List.mem_singleton.2 rfl))
            · exact .inr ⟨h1, h2⟩
    · rw [if_pos (by simp)]
      constructor
      · rintro (h | ⟨h1, h2⟩)
        · exact .inl h
        · exact .inr ⟨List.mem_cons_of_mem _ h1, h2⟩
      · rintro (h | ⟨h1, h2⟩)
        · exact .inl h
        · rcases List.mem_cons.1 h1 with rfl | h1
          · rw [hh] at h2; cases h2
          · exact .inr ⟨h1, h2⟩
theorem addM_nodup {l : List NoteC} : ∀ {ps out : List (Int × Int)}, out.Nodup → (ps.foldl (addM l) out).Nodup
  | [], out, h => h
  | q :: ps, out, h => by
    rw [List.foldl_cons]
    refine addM_nodup ?_
    unfold addM
    split
    · exact h
    · rename_i h2
      rw [Bool.or_eq_true, not_or] at h2
      have h3 : q ∉ out := by simpa using h2.2
      refine List.nodup_append.2 ⟨h, (by simp), fun a ha b hb e => ?_⟩
      rw [List.mem_singleton] at hb
      subst hb e
      exact h3 ha
theorem rawTo_mem {l : List NoteC} {p : Int × Int} : ∀ {k : Nat}, p ∈ rawTo l k ↔ ∃ i, i < k ∧ p ∈ toldA (l.getD i NoteC.zero).cl ∧ hasP l p = false
  | 0 => by simp [rawTo]
  | k + 1 => by
    rw [rawTo, addM_mem, rawTo_mem]
    constructor
    · rintro (⟨i, h1, h2⟩ | h)
      · exact ⟨i, by omega, h2⟩
      · exact ⟨k, by omega, h⟩
    · rintro ⟨i, h1, h2⟩
      by_cases e : i < k
      · exact .inl ⟨i, e, h2⟩
      · obtain rfl : i = k := by omega
        exact .inr h2
theorem rawTo_nodup (l : List NoteC) : ∀ k, (rawTo l k).Nodup
  | 0 => List.nodup_nil
  | k + 1 => addM_nodup (rawTo_nodup l k)
theorem getD_memN {l : List NoteC} {i : Nat} (h : i < l.length) : l.getD i NoteC.zero ∈ l := by
  rw [List.getD_eq_getElem?_getD, List.getElem?_eq_getElem h]
  exact List.getElem_mem h
theorem mem_getN {l : List NoteC} {x : NoteC} (h : x ∈ l) : ∃ i, i < l.length ∧ l.getD i NoteC.zero = x := by
  obtain ⟨i, hi, rfl⟩ := List.getElem_of_mem h
  exact ⟨i, hi, by rw [List.getD_eq_getElem?_getD, List.getElem?_eq_getElem hi]; rfl⟩
theorem rawM_mem {l : List NoteC} {p : Int × Int} : p ∈ rawM l ↔ (∃ x ∈ l, p ∈ toldA x.cl) ∧ hasP l p = false := by
  rw [rawM, rawTo_mem]
  constructor
  · rintro ⟨i, h1, h2, h3⟩
    exact ⟨⟨_, getD_memN h1, h2⟩, h3⟩
  · rintro ⟨⟨x, hx, h2⟩, h3⟩
    obtain ⟨i, hi, rfl⟩ := mem_getN hx
    exact ⟨i, hi, h2, h3⟩
/-- at most these are told and not there -/
def fewM (l : List NoteC) (S : List (Int × Int)) : Prop := ∀ x ∈ l, ∀ p ∈ toldA x.cl, hasP l p = false → p ∈ S
theorem rawM_few {l : List NoteC} {S : List (Int × Int)} (h : fewM l S) : (rawM l).length ≤ S.length :=
  nodup_len (rawTo_nodup l _) fun p hp => by
    obtain ⟨⟨x, hx, h2⟩, h3⟩ := rawM_mem.1 hp
    exact h x hx p h2 h3
/-- no place of a clock is greater -/
def leC (a b : List Int) : Bool := (List.range a.length).all fun u => decide (a.getD u 0 ≤ b.getD u 0)
theorem leC_true {a b : List Int} : leC a b = true ↔ ∀ u, u < a.length → a.getD u 0 ≤ b.getD u 0 := by
  unfold leC
  rw [List.all_eq_true]
  constructor
  · intro h u hu
    simpa using h u (List.mem_range.2 hu)
  · intro h u hu
    simpa using h u (List.mem_range.1 hu)
theorem leC_self (a : List Int) : leC a a = true := leC_true.2 fun _ _ => Int.le_refl _
/-- a pair that a note tells is there, and the note knows it -/
def knowP (l : List NoteC) (x : NoteC) (p : Int × Int) : Bool := hasP l p && ((sameK (getP l p) x || decide ((getP l p).cl.getD x.un.toNat 0 < x.sq)) && leC (getP l p).cl x.cl)
def knowB (l : List NoteC) (x : NoteC) : Bool := (toldA x.cl).all (knowP l x)
def compTo (l : List NoteC) (k : Nat) : Bool := (List.range k).all fun i => knowB l (l.getD i NoteC.zero)
def compB (l : List NoteC) : Bool := compTo l l.length
theorem compTo_succ (l : List NoteC) (k : Nat) : compTo l (k + 1) = (compTo l k && knowB l (l.getD k NoteC.zero)) := by simp [compTo, List.range_succ]
theorem compB_true {l : List NoteC} : compB l = true ↔ ∀ x ∈ l, ∀ p ∈ toldA x.cl, knowP l x p = true := by
  unfold compB compTo
  rw [List.all_eq_true]
  constructor
  · intro h x hx p hp
    obtain ⟨i, hi, rfl⟩ := mem_getN hx
    exact List.all_eq_true.1 (h i (List.mem_range.2 hi)) p hp
  · intro h i hi
    exact List.all_eq_true.2 fun p hp => h _ (getD_memN (List.mem_range.1 hi)) p hp
theorem knowP_true {l : List NoteC} {x : NoteC} {p : Int × Int} : knowP l x p = true ↔ hasP l p = true ∧ (sameK (getP l p) x = true ∨ (getP l p).cl.getD x.un.toNat 0 < x.sq) ∧ leC (getP l p).cl x.cl = true := by
  unfold knowP
  simp only [Bool.and_eq_true, Bool.or_eq_true, decide_eq_true_eq]
/-- a complete notebook lacks nothing -/
theorem comp_few {l : List NoteC} (h : compB l = true) : fewM l [] := fun x hx p hp hf => by
  have := (knowP_true.1 (compB_true.1 h x hx p hp)).1
  rw [this] at hf
  cases hf
theorem few_raw {l : List NoteC} (h : fewM l []) : rawM l = [] := by
  have := rawM_few h
  exact List.eq_nil_of_length_eq_zero (by simpa using this)
end Go.Proofs.Ytjnbdgldpmmamaa

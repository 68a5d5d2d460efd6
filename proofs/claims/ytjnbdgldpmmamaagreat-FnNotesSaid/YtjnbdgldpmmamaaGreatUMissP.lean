/-
  Missing kinds: the plain part (sorting by kinds).
-/
import Derived.Test.YtjnbdgldpmmamaaGreatULargest
import Derived.Deep.DeepCutAuto
import Derived.Deep.CutBlock
import Derived.Deep.LoopGhost
import Derived.Laws.Cover1
/-
  Orders: the order in which they are served, the program's.
-/
namespace Go.Proofs.YtjnbdgldpmmamaaGreat
set_option linter.unusedSimpArgs false
set_option linter.unusedVariables false
open Go.RowKit

/-- the first number that is not 0 -/
def orI (x y : Int) : Int := if x = 0 then y else x
set_option maxRecDepth 100000 in
set_option maxHeartbeats 1000000 in
theorem orTwo_any (b : Nat) (x y : Int) (w : World) (hr : Row w b #[.int .i64 x, .int .i64 y]) :
    Calls Tryz.prog 59 #[.slice (some ⟨b, 0, none⟩) 2 2] w fun e w' => e = .returned (.int .i64 (orI x y)) ∧ w = w' := by
  have c0 := hr.cell 0
  have c1 := hr.cell 1
  by_cases h1 : x = 0
  · subst h1
    have HF := Lib.hid (show orI 0 y = y from rfl)
    by_cases h2 : y = 0
    · subst h2
      go_enter Tryz.func59, Tryz.ntmps59
      go_wp2
      go_loop [8] (fun i => i = .int .i64 0 ∨ i = .int .i64 1 ∨ i = .int .i64 2) (fun i => 2 - (intOf i).toNat)
      case atStart => exact .inl rfl
      case round =>
        rcases hrel with rfl | rfl | rfl
        · go_wp2
          go_round
          case rel => exact .inr (.inl rfl)
          case measure => decide
        · go_wp2
          go_round
          case rel => exact .inr (.inr rfl)
          case measure => decide
        · go_wp2
          go_ret
          exact ⟨ri HF.out.symm, rfl⟩
    · have hy : (y != 0) = true := by simpa using h2
      go_enter Tryz.func59, Tryz.ntmps59
      go_wp2
      go_loop [8] (fun i => i = .int .i64 0 ∨ i = .int .i64 1) (fun i => 2 - (intOf i).toNat)
      case atStart => exact .inl rfl
      case round =>
        rcases hrel with rfl | rfl
        · go_wp2
          go_round
          case rel => exact .inr rfl
          case measure => decide
        · go_wp2
          go_ret
          exact ⟨ri HF.out.symm, rfl⟩
  · have hx : (x != 0) = true := by simpa using h1
    have HF := Lib.hid (show orI x y = x from if_neg h1)
    go_enter Tryz.func59, Tryz.ntmps59
    go_wp2
    go_loop [8] (fun i => i = .int .i64 0) (fun i => 2 - (intOf i).toNat)
    case atStart => rfl
    case round =>
      obtain rfl := hrel
      go_wp2
      go_ret
      exact ⟨ri HF.out.symm, rfl⟩

end Go.Proofs.YtjnbdgldpmmamaaGreat

/-
  Orders: the order in which they are served, the reference's.
-/
namespace Go.Proofs.YtjnbdgldpmmamaaGreat
set_option linter.unusedSimpArgs false
set_option linter.unusedVariables false
open Go.RowKit

theorem Ints.take {w : World} {a : Option Addr} {n c : Nat} {xs : List Int} (h : Ints w a n c xs) {k : Nat} (hk : k ≤ n) : Ints w a k c (xs.take k) := by
  have hl := h.len
  refine ⟨by rw [List.length_take]; omega, by have := h.cap; omega, h.capm, h.nil, by have := h.room; omega, fun x hx => h.wf x (List.mem_of_mem_take hx), fun j hj => ?_⟩
  obtain ⟨b, off, ha, hb, hc⟩ := h.at' j (by omega)
  refine ⟨b, off, ha, hb, fun i hi => ?_⟩
  rw [hc i (by omega), List.getD_eq_getElem?_getD, List.getD_eq_getElem?_getD, List.getElem?_take, if_pos hi]
theorem Ints.drop {w : World} {g n c : Nat} {xs : List Int} (h : Ints w (some ⟨g, 0, none⟩) n c xs) {k : Nat} (hk : k ≤ n) : Ints w (some ⟨g, k, none⟩) (n - k) (c - k) (xs.drop k) := by
  have hl := h.len
  refine ⟨by rw [List.length_drop]; omega, by have := h.cap; omega, by have := h.capm; omega, by simp, by have := h.room; omega, fun x hx => h.wf x (List.mem_of_mem_drop hx), fun j hj => ?_⟩
  obtain ⟨b, off, ha, hb, hc⟩ := h.at' (k + j) (by omega)
  simp only [Option.some.injEq, Addr.mk.injEq] at ha
  obtain ⟨rfl, rfl, _⟩ := ha
  refine ⟨g, k, rfl, hb, fun i hi => ?_⟩
  have := hc (k + i) (by omega)
  rw [Nat.zero_add] at this
  rw [this, List.getD_eq_getElem?_getD, List.getD_eq_getElem?_getD, List.getElem?_drop]
theorem Ints.none' {w : World} {a : Option Addr} {c : Nat} (hc : c ≤ maxLen) (h : a = none → c = 0) : Ints w a 0 c [] :=
  ⟨rfl, Nat.zero_le _, hc, h, by omega, by simp, fun k hk => by omega⟩

end Go.Proofs.YtjnbdgldpmmamaaGreat

/-
  Missing kinds: the plain part (sorting by kinds).
-/
namespace Go.Proofs.YtjnbdgldpmmamaaGreat
set_option linter.unusedSimpArgs false
set_option linter.unusedVariables false
open Go.RowKit

section
variable {α : Type} (d : α) (lt : α → α → Bool)
/-- the element at place j sinks as long as it is less than the one before it -/
def sinkG : Nat → List α → List α
  | 0, xs => xs
  | j + 1, xs => if lt (xs.getD (j + 1) d) (xs.getD j d) then sinkG j ((xs.set (j + 1) (xs.getD j d)).set j (xs.getD (j + 1) d)) else xs
def isortH : Nat → List α → List α
  | 0, xs => xs
  | k + 1, xs => sinkG d lt k (isortH k xs)
/-- insertion sort -/
def isortG (xs : List α) : List α := isortH d lt xs.length xs
/-- x sinks from behind -/
def insR (x : α) : List α → List α
  | [] => [x]
  | a :: A => if (a :: A).all (lt x) then x :: a :: A else a :: insR x A
end
section
variable {α : Type} {d : α} {lt : α → α → Bool}
theorem sinkG_length : ∀ (j : Nat) (xs : List α), (sinkG d lt j xs).length = xs.length
  | 0, _ => rfl
  | j + 1, xs => by
    rw [sinkG]
    split
    · rw [sinkG_length j]; simp
    · rfl
theorem isortH_length : ∀ (k : Nat) (xs : List α), (isortH d lt k xs).length = xs.length
  | 0, _ => rfl
  | k + 1, xs => by rw [isortH, sinkG_length, isortH_length k]
theorem isortG_length (xs : List α) : (isortG d lt xs).length = xs.length := isortH_length _ _
theorem swapG_mem {xs : List α} {j : Nat} (hj : j + 1 < xs.length) : ∀ z ∈ (xs.set (j + 1) (xs.getD j d)).set j (xs.getD (j + 1) d), z ∈ xs := by
  intro z hz
  rcases List.mem_or_eq_of_mem_set hz with hz | rfl
  · rcases List.mem_or_eq_of_mem_set hz with hz | rfl
    · exact hz
    · exact getD_memO (by omega)
  · exact getD_memO hj
theorem sinkG_mem : ∀ (j : Nat) (xs : List α), j < xs.length → ∀ z ∈ sinkG d lt j xs, z ∈ xs
  | 0, _, _ => fun _ hz => hz
  | j + 1, xs, hj => by
    rw [sinkG]
    split
    · intro z hz
      exact swapG_mem hj z (sinkG_mem j _ (by simp; omega) z hz)
    · exact fun _ hz => hz
theorem isortH_mem : ∀ (k : Nat) (xs : List α), k ≤ xs.length → ∀ z ∈ isortH d lt k xs, z ∈ xs
  | 0, _, _ => fun _ hz => hz
  | k + 1, xs, hk => fun z hz => isortH_mem k xs (by omega) z (sinkG_mem k _ (by rw [isortH_length]; omega) z hz)

theorem getD_appL {A B : List α} {j : Nat} (h : j < A.length) : (A ++ B).getD j d = A.getD j d := by
  rw [List.getD_eq_getElem?_getD, List.getElem?_append_left h, ← List.getD_eq_getElem?_getD]
theorem sinkG_app {B : List α} : ∀ (j : Nat) (xs : List α), j < xs.length → sinkG d lt j (xs ++ B) = sinkG d lt j xs ++ B
  | 0, _, _ => rfl
  | j + 1, xs, h => by
    rw [sinkG, sinkG, getD_appL h, getD_appL (by omega)]
    split
    · rw [List.set_append_left _ _ h, List.set_append_left _ _ (by simp; omega), sinkG_app j _ (by simp; omega)]
    · rfl
theorem isortH_app {B : List α} : ∀ (k : Nat) (xs : List α), k ≤ xs.length → isortH d lt k (xs ++ B) = isortH d lt k xs ++ B
  | 0, _, _ => rfl
  | k + 1, xs, h => by rw [isortH, isortH, isortH_app k xs (by omega), sinkG_app k _ (by rw [isortH_length]; omega)]
theorem insR_snoc (x a : α) : ∀ A : List α, insR lt x (A ++ [a]) = if lt x a then insR lt x A ++ [a] else A ++ [a, x]
  | [] => by
    simp only [List.nil_append, insR, List.all_cons, List.all_nil, Bool.and_true]
    split <;> rfl
  | c :: A => by
    have ih := insR_snoc x a A
    rw [List.cons_append, insR, ih]
    cases h : lt x a
    · rw [if_neg (by simp [h]), if_neg (by simp), if_neg (by simp)]
      rfl
    · rw [if_pos rfl, if_pos rfl, insR]
      by_cases h2 : (c :: A).all (lt x) = true
      · rw [if_pos h2, if_pos (by rw [← List.cons_append, List.all_append, h2]; simp [h])]
        rfl
      · rw [if_neg h2, if_neg (by rw [← List.cons_append, List.all_append]; simp [h] at h2 ⊢; exact h2)]
        rfl
theorem sinkG_ins (x : α) (B : List α) : ∀ (n : Nat) (A : List α), A.length = n → sinkG d lt n (A ++ x :: B) = insR lt x A ++ B
  | 0, A, h => by
    obtain rfl := List.eq_nil_of_length_eq_zero h
    rfl
  | n + 1, A, h => by
    obtain ⟨A', a, rfl⟩ : ∃ A' a, A = A' ++ [a] := ⟨A.dropLast, A.getLast (by intro e; subst e; simp at h), (List.dropLast_concat_getLast _).symm⟩
    have hl : A'.length = n := by simpa using h
    have e1 : (A' ++ [a] ++ x :: B).getD (n + 1) d = x := by
      rw [List.getD_eq_getElem?_getD, List.getElem?_append_right (by simp [hl])]
      simp [hl]
    have e2 : (A' ++ [a] ++ x :: B).getD n d = a := by
      rw [getD_appL (by simp [hl]), List.getD_eq_getElem?_getD, List.getElem?_append_right (by omega)]
      simp [hl]
    rw [sinkG, e1, e2, insR_snoc]
    split
    · have e3 : ((A' ++ [a] ++ x :: B).set (n + 1) a).set n x = A' ++ x :: (a :: B) := by
        rw [List.set_append_right _ _ (by simp [hl])]
        simp only [List.length_append, List.length_singleton, hl, Nat.sub_self, List.set_cons_zero]
        rw [List.append_assoc, List.set_append_right _ _ (by omega), hl]
        simp
      rw [e3, sinkG_ins x (a :: B) n A' hl]
      simp
    · simp
theorem isortG_snoc (xs : List α) (x : α) : isortG d lt (xs ++ [x]) = insR lt x (isortG d lt xs) := by
  unfold isortG
  rw [List.length_append, List.length_singleton, isortH, isortH_app _ _ (Nat.le_refl _)]
  have := sinkG_ins (d := d) (lt := lt) x [] xs.length (isortH d lt xs.length xs) (isortH_length _ _)
  rw [this, List.append_nil]
end

end Go.Proofs.YtjnbdgldpmmamaaGreat

/-
  WriteNote: the pure part, and what both sides need.
-/
import Derived.Test.YtjnbdgldpmmamaaGreatUNoteF
/-
  WriteNote: the pure part, and what both sides need.
-/
namespace Go.Proofs.YtjnbdgldpmmamaaGreat
set_option linter.unusedSimpArgs false
set_option linter.unusedVariables false
open Go.RowKit

def moreI (a b : Int) : Int := if a < b then b else a
def clkStep (cl : List Int) (x : NoteC) : List Int := cl.set x.un.toNat (moreI (cl.getD x.un.toNat 0) x.sq)
/-- how many notes the units have, so far as the first k notes tell -/
def clkTo (u : Int) (xs : List NoteC) : Nat → List Int
  | 0 => List.replicate u.toNat 0
  | k + 1 => clkStep (clkTo u xs k) (xs.getD k NoteC.zero)
def upC (cl : List Int) (un : Int) : List Int := cl.set un.toNat (cl.getD un.toNat 0 + 1)
/-- the note that a unit writes -/
def newN (u : Int) (xs : List NoteC) (un : Int) (wd : Bs) : NoteC := ⟨un, (clkTo u xs xs.length).getD un.toNat 0 + 1, upC (clkTo u xs xs.length) un, wd⟩
def writeB (u : Int) (xs : List NoteC) (un : Int) (wd : Bs) : Bool := bookB u xs && inB un 0 (u - 1) && bookB u (putN (newN u xs un wd) xs)
def writeR (u : Int) (xs : List NoteC) (un : Int) (wd : Bs) : List NoteC := if writeB u xs un wd then putN (newN u xs un wd) xs else []
theorem clkTo_len (u : Int) (xs : List NoteC) : ∀ k, (clkTo u xs k).length = u.toNat
  | 0 => List.length_replicate
  | k + 1 => by rw [clkTo, clkStep, List.length_set, clkTo_len]
theorem moreI_ge (a b : Int) : a ≤ moreI a b ∧ b ≤ moreI a b := by unfold moreI; split <;> omega
theorem getD_setI (L : List Int) (a m : Nat) (v : Int) : (L.set a v).getD m 0 = if a = m then (if a < L.length then v else 0) else L.getD m 0 := by
  rw [List.getD_eq_getElem?_getD, List.getElem?_set]
  split
  · split <;> rfl
  · rw [List.getD_eq_getElem?_getD]
theorem clkTo_b {u : Int} {xs : List NoteC} (h : bookB u xs = true) : ∀ k, k ≤ xs.length → ∀ i, 0 ≤ (clkTo u xs k).getD i 0 ∧ (clkTo u xs k).getD i 0 ≤ 12
  | 0, _, i => by
    show 0 ≤ (List.replicate u.toNat (0 : Int)).getD i 0 ∧ (List.replicate u.toNat (0 : Int)).getD i 0 ≤ 12
    rw [List.getD_eq_getElem?_getD, List.getElem?_replicate]
    split <;> decide
  | k + 1, hk, i => by
    have ih := clkTo_b h k (by omega)
    have hb := noteB_true (book_note h (k := k) (by omega))
    rw [clkTo, clkStep, getD_setI]
    split
    · split
      · have h1 := ih (xs.getD k NoteC.zero).un.toNat
        unfold moreI
        split <;> omega
      · omega
    · exact ih i
theorem clkTo_ge {u : Int} {xs : List NoteC} (h : bookB u xs = true) : ∀ k, k ≤ xs.length → ∀ i, i < k → (xs.getD i NoteC.zero).sq ≤ (clkTo u xs k).getD (xs.getD i NoteC.zero).un.toNat 0
  | 0, _, i, hi => by omega
  | k + 1, hk, i, hi => by
    have hb := noteB_true (book_note h (k := k) (by omega))
    have hl := clkTo_len u xs k
    rw [clkTo, clkStep, getD_setI]
    by_cases e : (xs.getD k NoteC.zero).un.toNat = (xs.getD i NoteC.zero).un.toNat
    · rw [if_pos e, if_pos (by rw [hl]; omega)]
      by_cases e2 : i = k
      · subst e2; exact (moreI_ge _ _).2
      · have := clkTo_ge h k (by omega) i (by omega)
        rw [← e] at this
        exact Int.le_trans this (moreI_ge _ _).1
    · rw [if_neg e]
      have e2 : i ≠ k := fun e2 => e (by rw [e2])
      exact clkTo_ge h k (by omega) i (by omega)
theorem newN_ok {u : Int} {xs : List NoteC} {un : Int} {wd : Bs} (h : bookB u xs = true) (hu : inB un 0 (u - 1) = true) : ∀ a ∈ xs, ltN a (newN u xs un wd) = true ∨ ltN (newN u xs un wd) a = true := by
  intro a ha
  obtain ⟨i, hi, rfl⟩ := List.getElem_of_mem ha
  have h1 := clkTo_ge h xs.length (Nat.le_refl _) i hi
  have hb := noteB_true (book_note h (k := i) hi)
  have hun := inB_true hu
  rw [List.getD_eq_getElem?_getD, List.getElem?_eq_getElem hi] at h1 hb
  have h1 : (xs[i]).sq ≤ (clkTo u xs xs.length).getD (xs[i]).un.toNat 0 := h1
  have hb3 : 0 ≤ (xs[i]).un ∧ (xs[i]).un ≤ u - 1 := hb.2.2.1
  unfold ltN newN
  simp only [Bool.or_eq_true, Bool.and_eq_true, decide_eq_true_eq]
  by_cases e : (xs[i]).un = un
  · rw [e] at h1 ⊢
    left; right
    exact ⟨rfl, by omega⟩
  · by_cases e2 : (xs[i]).un < un
    · left; left; exact e2
    · right; left; omega
theorem write_isort {u : Int} {xs : List NoteC} {un : Int} {wd : Bs} (h : bookB u xs = true) (hu : inB un 0 (u - 1) = true) : isortG NoteC.zero ltN (xs ++ [newN u xs un wd]) = putN (newN u xs un wd) xs := isort_put (book_asc h) (newN_ok h hu)
theorem clkTo_wf {u : Int} {xs : List NoteC} (h : bookB u xs = true) (k : Nat) (hk : k ≤ xs.length) : ∀ x ∈ clkTo u xs k, I64 x := by
  intro x hx
  obtain ⟨i, hi, rfl⟩ := List.getElem_of_mem hx
  have := clkTo_b h k hk i
  rw [List.getD_eq_getElem?_getD, List.getElem?_eq_getElem hi] at this
  have h2 : 0 ≤ (clkTo u xs k)[i] ∧ (clkTo u xs k)[i] ≤ 12 := this
  unfold I64
  omega
theorem RdN.small {u : Int} {w : World} {a : Option Addr} {n c : Nat} {xs : List NoteI} (h : RdN w a n c xs) (hb : bookB u (coreN xs) = true) : ∀ y ∈ xs, smallN y := by
  intro y hy
  obtain ⟨i, hi, rfl⟩ := List.getElem_of_mem hy
  have h1 := noteB_true (book_note hb (k := i) (by rw [coreN_len]; exact hi))
  have hu := book_u hb
  rw [coreN_getD, List.getD_eq_getElem?_getD, List.getElem?_eq_getElem hi] at h1
  have h2 : 0 ≤ (xs[i]).un ∧ (xs[i]).un ≤ u - 1 := h1.2.2.1
  have h3 : 1 ≤ (xs[i]).sq := h1.2.2.2.1
  have h4 : (xs[i]).sq ≤ 12 := h1.2.2.2.2.2.1
  exact ⟨by omega, by omega⟩
set_option maxRecDepth 100000 in
set_option maxHeartbeats 4000000 in
theorem copyNote_any (a : Option Addr) (n c : Nat) (ss : List NoteI) (w : World) (h : Rd FNote w a n c ss) (hn6 : n ≤ 1048576) :
    Calls Tryz.prog 40 #[.slice a n c] w fun e w' => ∃ a' c', e = .returned (.slice a' n c') ∧ Mem w.heap.size w w' [owE FNote 40 a' n c' ss] := by
  have hM := Mem.start w
  have hr : n * 4 ≤ 17592186044416 := h.room
  obtain ⟨i0, hi, hz0, hz1, hz2⟩ := info_parts Tryz.info40
  go_enter Tryz.func40, Tryz.ntmps40
  go_wp2_with (at_builtin; go_loud (apply Mem.atL; (focus ((repeat' (first | with_reducible exact hM | with_reducible exact hMp | with_reducible apply Mem.drew | with_reducible apply Mem.drewN | with_reducible apply Mem.alloc | with_reducible apply Mem.set | with_reducible exact Sto.row | ((with_reducible refine Sto.rowEq2 ?_ ?_); omega; rfl) | ((with_reducible refine Sto.rowEq ?_); omega) | with_reducible apply Sto.int | with_reducible apply Sto.there | with_reducible assumption | (unfold I64; omega) | (with_reducible (have hMx := Mem.undrew hM; exact hMx)) | (with_reducible (have hMx := Mem.undrew hMp; exact hMx)))); done)); clear hM; intro hM; refine wpList_appRM (F := FNote) (Mem.toOwR hM) (fun _ => .here) (h.ext hM.below) (by show (0 + n) * 4 ≤ _; omega) i0 (.agg #[.int .i64 0, .int .i64 0, .slice none 0 0, .string ⟨#[]⟩]) 56 hi hz0 hz1 hz2 rfl (by omega) rfl _ _ _ Tryz.underlying24 rfl rfl rfl ?_))
  intro a' c' w' hM
  go_wp2
  go_ret
  exact ⟨a', c', by first | rfl | rw [Nat.zero_add], hM⟩
end Go.Proofs.YtjnbdgldpmmamaaGreat

/-
  Notes in new memory, in order (the program's).
-/
import Derived.Test.YtjnbdgldpmmamaaWSortNote
import Derived.Test.YtjnbdgldpmmamaaWNoteV
import Derived.Test.YtjnbdgldpmmamaaWNoteW
import Derived.Test.YtjnbdgldpmmamaaWApp
import Derived.Test.YtjnbdgldpmmamaaWRegF
/-
  Notes in new memory, in order (the program's).
-/
namespace Go.Proofs.Ytjnbdgldpmmamaa
set_option linter.unusedSimpArgs false
set_option linter.unusedVariables false
open Go.RowKit

theorem insR_perm {α : Type} {lt : α → α → Bool} {x : α} : ∀ {A : List α}, (insR lt x A).Perm (x :: A)
  | [] => List.Perm.refl _
  | a :: A => by
    unfold insR
    split
    · exact List.Perm.refl _
    · exact (List.Perm.cons _ insR_perm).trans (List.Perm.swap ..)
theorem isortG_perm {α : Type} {d : α} {lt : α → α → Bool} : ∀ (m : Nat) (xs : List α), xs.length = m → (isortG d lt xs).Perm xs
  | 0, xs, h => by
    obtain rfl := List.eq_nil_of_length_eq_zero h
    exact List.Perm.refl _
  | m + 1, xs, h => by
    obtain ⟨ys, x, rfl⟩ : ∃ A' a, xs = A' ++ [a] := ⟨xs.dropLast, xs.getLast (by intro e; subst e; simp at h), (List.dropLast_concat_getLast _).symm⟩
    rw [isortG_snoc]
    exact insR_perm.trans ((List.Perm.cons _ (isortG_perm m ys (by simpa using h))).trans (List.perm_append_singleton _ _).symm)
def ltNI (a b : NoteI) : Bool := ltN a.core b.core
theorem sinkG_core (j : Nat) : ∀ (xs : List NoteI), j < xs.length → coreN (sinkG NoteI.zero ltNI j xs) = sinkG NoteC.zero ltN j (coreN xs) := by
  induction j with
  | zero => intro xs _; rfl
  | succ j ih =>
    intro xs h
    rw [sinkG, sinkG, coreN_getD, coreN_getD]
    show coreN (if ltN _ _ then _ else _) = _
    split
    · rw [ih _ (by simp; omega)]
      unfold coreN
      rw [List.map_set, List.map_set]
    · rfl
theorem isortG_core (xs : List NoteI) : coreN (isortG NoteI.zero ltNI xs) = isortG NoteC.zero ltN (coreN xs) := by
  have h : ∀ k, k ≤ xs.length → coreN (isortH NoteI.zero ltNI k xs) = isortH NoteC.zero ltN k (coreN xs) := by
    intro k
    induction k with
    | zero => intro _; rfl
    | succ k ih => intro hk; rw [isortH, isortH, sinkG_core _ _ (by rw [isortH_length]; omega), ih (by omega)]
  unfold isortG
  rw [coreN_len]
  exact h _ (Nat.le_refl _)
theorem compares_note (B : Nat) (w0 : World) (G : List Ent) (xs : List NoteI) : ComparesNote 54 #[] ltNI B w0 G xs := fun x _ y _ w' _ => compareNotes_any x y w'

set_option maxHeartbeats 1000000 in
theorem stableNote_any (B : Nat) (w0 : World) (G : List Ent) (g n c : Nat) (xs : List NoteI) (f : FuncId) (caps : Array Value) (lt : NoteI → NoteI → Bool) (w : World) (hM : Mem B w0 w (owE FNote 42 (some ⟨g, 0, none⟩) n c xs :: G)) (hn : n ≤ 19)
    (hcf : ∀ args w, (callFunc f args).run Try.prog w = .ok (.enter f args) w) (hc : ComparesNote f caps lt B w0 G xs) :
    Calls Try.prog 77 #[.slice (some ⟨g, 0, none⟩) n c, .int .i64 n, .func (.func f) #[] caps] w fun e w' => e = .returned (.tuple #[]) ∧ Mem B w0 w' (owE FNote 42 (some ⟨g, 0, none⟩) n c (isortG NoteI.zero lt xs) :: G) := by
  have HC := Lib.hid hc; clear hc
  go_enter Try.func77, Try.ntmps77
  go_wp2
  go_loopw [7, 8] (fun a b wr => a = .int .i64 0 ∧ b = .int .i64 20 ∧ wr = w) (fun _ _ _ => 0)
  case atStart => exact ⟨rfl, rfl, rfl⟩
  case round =>
    obtain ⟨rfl, rfl, rfl⟩ := hrel
    go_wp2_with fail
    refine (insertionNote_any B w0 G g n c xs f caps lt _ hM (by omega) hcf HC.out).mono ?_
    rintro e w2 ⟨rfl, hM2⟩
    go_wp2
    go_loopw [6] (fun a wr => a = .int .i64 20 ∧ wr = w2) (fun _ _ => 0)
    case atStart => exact ⟨rfl, rfl⟩
    case round =>
      obtain ⟨rfl, rfl⟩ := hrel
      go_wp2
      go_end0
      exact ⟨rfl, hM2⟩
theorem sortNote_any (B : Nat) (w0 : World) (G : List Ent) (g n c : Nat) (xs : List NoteI) (f : FuncId) (caps : Array Value) (lt : NoteI → NoteI → Bool) (w : World) (hM : Mem B w0 w (owE FNote 42 (some ⟨g, 0, none⟩) n c xs :: G)) (hn : n ≤ 19)
    (hcf : ∀ args w, (callFunc f args).run Try.prog w = .ok (.enter f args) w) (hc : ComparesNote f caps lt B w0 G xs) :
    Calls Try.prog 63 #[.slice (some ⟨g, 0, none⟩) n c, .func (.func f) #[] caps] w fun e w' => e = .returned (.tuple #[]) ∧ Mem B w0 w' (owE FNote 42 (some ⟨g, 0, none⟩) n c (isortG NoteI.zero lt xs) :: G) := by
  have HC := Lib.hid hc; clear hc
  go_enter Try.func63, Try.ntmps63
  go_wp2_with fail
  refine (stableNote_any B w0 G g n c xs f caps lt _ hM hn hcf HC.out).mono ?_
  rintro e w2 ⟨rfl, hM2⟩
  go_wp2
  go_end0
  exact ⟨rfl, hM2⟩
end Go.Proofs.Ytjnbdgldpmmamaa

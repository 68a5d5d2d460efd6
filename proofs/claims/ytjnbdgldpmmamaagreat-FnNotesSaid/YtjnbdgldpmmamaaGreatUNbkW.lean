/-
  The reference's draws of the law on writing notes.
-/
import Derived.Test.YtjnbdgldpmmamaaGreatUNbkD
import Derived.Test.YtjnbdgldpmmamaaGreatUPairP
/-
  The reference's draws of the law on writing notes.
-/
namespace Go.Proofs.YtjnbdgldpmmamaaGreat
set_option linter.unusedSimpArgs false
set_option linter.unusedVariables false
open Go.RowKit

def fewK (u : Int) (xs : List NoteI) : Prop := bookB u (coreN xs) = true → ∃ S : List (Int × Int), S.length ≤ 3 ∧ fewM (coreN xs) S
theorem few_raw12 {u : Int} {xs : List NoteI} (h : fewK u xs) (hb : bookB u (coreN xs) = true) : (rawM (coreN xs)).length ≤ 12 := by
  obtain ⟨S, h1, h2⟩ := h hb
  have := rawM_few h2
  omega
set_option maxRecDepth 100000 in
set_option maxHeartbeats 8000000 in
theorem drawBook_any {ac : Option Addr} {nc cc : Nat} {l : List UInt8} {w : World} (hC : Rd FByt w ac nc cc l) :
    Calls Tryz.prog 23 #[.slice ac nc cc] w fun e w' => ∃ (u : Int) (b1 o1 n1 c1 : Nat) (xs : List NoteI) (X : List Ent), I64 u ∧ fewK u xs ∧ xs.length ≤ 12 ∧ (∀ B w, (packE X).hold B w → RdN w (some ⟨b1, o1, none⟩) n1 c1 xs) ∧ e = .returned (.tuple #[.int .i64 u, .slice (some ⟨b1, o1, none⟩) n1 c1]) ∧ Mem w.heap.size w w' [packE X] := by
  have hM := Mem.start w
  have HC := Lib.hid hC
  clear hC
  go_enter Tryz.func23, Tryz.ntmps23
  go_wp2_with fail
  apply Mem.atA
  · exact memA
  clear hM
  intro wst hM
  (try simp only [World.size_alloc, World.size_setCell, World.heap_drewN, heapDrew, Nat.add_assoc, Nat.reduceAdd, sA, List.cons_append, List.nil_append] at hM)
  (first | refine (notebook_any HC.out hM.curNew .here (by omega)).mono ?_)
  rintro e wc1 ⟨u, b1, o1, n1, c1, xs, a2, n2, c2, zs, X, hok, hrd, rfl, hm⟩
  clear hM
  have hM := hm
  clear hm
  try dsimp only at hM
  have hu : I64 u := by have := hok.1; unfold I64; omega
  have hfe : fewK u xs := hok.2.1
  have HF := Lib.hid hfe
  have hl := hok.2.2.2.1
  have HR := Lib.hid (fun (B : Nat) (w : World) (h : (packE X).hold B w) => (hrd B w h).1)
  clear hok hrd hfe
  go_wp2
  go_ret2
  exact ⟨u, b1, o1, n1, c1, xs, X, hu, HF.out, hl, HR.out, rfl, hM.first⟩
set_option maxRecDepth 100000 in
set_option maxHeartbeats 8000000 in
theorem drawOrder_any {ac : Option Addr} {nc cc : Nat} {l : List UInt8} {w : World} (hC : Rd FByt w ac nc cc l) :
    Calls Tryz.prog 5 #[.slice ac nc cc] w fun e w' => ∃ (u : Int) (b1 o1 n1 c1 : Nat) (xs : List NoteI) (X : List Ent), I64 u ∧ fewK u xs ∧ xs.length ≤ 12 ∧ (∀ B w, (packE X).hold B w → RdN w (some ⟨b1, o1, none⟩) n1 c1 xs) ∧ e = .returned (.tuple #[.int .i64 u, .slice (some ⟨b1, o1, none⟩) n1 c1]) ∧ Mem w.heap.size w w' [packE X] := by
  have HC := Lib.hid hC
  clear hC
  go_enter Tryz.func5, Tryz.ntmps5
  go_wp2_with fail
  refine (drawBook_any HC.out).mono ?_
  rintro e w1 ⟨u, b1, o1, n1, c1, xs, X, hu, hf, hl, hr, rfl, hM⟩
  have HF := Lib.hid hf; have HR := Lib.hid hr
  clear hf hr
  go_wp2
  go_ret2
  exact ⟨u, b1, o1, n1, c1, xs, X, hu, HF.out, hl, HR.out, rfl, hM⟩
end Go.Proofs.YtjnbdgldpmmamaaGreat

/-
  Notes: records with a clock inside. Read, owned.
-/
import Derived.Test.YtjnbdgldpmmamaaWNestN
import Derived.Test.YtjnbdgldpmmamaaProg
import Derived.Test.YtjnbdgldpmmamaaWStr
import Derived.Lib.ConvBytes
import Derived.Laws.IdiomStrings
import Derived.Test.YtjnbdgldpmmamaaWLst
/-
  Notes: records with a clock inside. Read, owned.
-/
namespace Go.Proofs.Ytjnbdgldpmmamaa
set_option linter.unusedSimpArgs false
set_option linter.unusedVariables false
open Go.RowKit

structure NoteI where
  un : Int
  sq : Int
  ad : Option Addr
  n : Nat
  c : Nat
  cl : List Int
  wd : Bs
def NoteI.zero : NoteI := ⟨0, 0, none, 0, 0, [], []⟩
/-- what a note says -/
structure NoteC where
  un : Int
  sq : Int
  cl : List Int
  wd : Bs
instance : DecidableEq NoteC := fun a b => decidable_of_iff (a.un = b.un ∧ a.sq = b.sq ∧ a.cl = b.cl ∧ a.wd = b.wd) (by cases a; cases b; simp)
def NoteC.zero : NoteC := ⟨0, 0, [], []⟩
def NoteI.core (x : NoteI) : NoteC := ⟨x.un, x.sq, x.cl, x.wd⟩
def FNote : Fl NoteI where
  sz := 4
  enc x := [.int .i64 x.un, .int .i64 x.sq, .slice x.ad x.n x.c, .string (bsA x.wd)]
  z := NoteI.zero
  wf x := I64 x.un ∧ I64 x.sq ∧ x.wd.length ≤ maxLen
  pos := by decide
  len _ := rfl
  one := by intro x v hv; simp at hv; rcases hv with rfl | rfl | rfl | rfl <;> rfl
abbrev NoteI.val (x : NoteI) : Value := .agg #[.int .i64 x.un, .int .i64 x.sq, .slice x.ad x.n x.c, .string (bsA x.wd)]
theorem Rd.cellNote {w : World} {b off n c : Nat} {xs : List NoteI} (h : Rd FNote w (some ⟨b, off, none⟩) n c xs) {k : Nat} (hk : k < n) : b < w.heap.size ∧ w.cell? ⟨b, off + k * 4, none⟩ = some (.int .i64 (xs.getD k NoteI.zero).un) ∧ w.cell? ⟨b, off + k * 4 + 1, none⟩ = some (.int .i64 (xs.getD k NoteI.zero).sq) ∧ w.cell? ⟨b, off + k * 4 + 2, none⟩ = some (.slice (xs.getD k NoteI.zero).ad (xs.getD k NoteI.zero).n (xs.getD k NoteI.zero).c) ∧ w.cell? ⟨b, off + k * 4 + 3, none⟩ = some (.string (bsA (xs.getD k NoteI.zero).wd)) := by
  obtain ⟨b', off', e, hl, hc⟩ := h.at' k hk
  simp only [Option.some.injEq, Addr.mk.injEq] at e
  obtain ⟨rfl, rfl, _⟩ := e
  refine ⟨hl, ?_, ?_, ?_, ?_⟩
  · rw [show off + k * 4 = off + (k * FNote.sz + 0) by show _ = off + (k * 4 + 0); omega]; exact hc k hk 0 (by decide)
  · rw [show off + k * 4 + 1 = off + (k * FNote.sz + 1) by show _ = off + (k * 4 + 1); omega]; exact hc k hk 1 (by decide)
  · rw [show off + k * 4 + 2 = off + (k * FNote.sz + 2) by show _ = off + (k * 4 + 2); omega]; exact hc k hk 2 (by decide)
  · rw [show off + k * 4 + 3 = off + (k * FNote.sz + 3) by show _ = off + (k * 4 + 3); omega]; exact hc k hk 3 (by decide)
theorem Ow.cellNote {E : TypeId} {B : Nat} {w : World} {g n c : Nat} {xs : List NoteI} (h : Ow FNote E B w (some ⟨g, 0, none⟩) n c xs) {k : Nat} (hk : k < n) : w.cell? ⟨g, k * 4, none⟩ = some (.int .i64 (xs.getD k NoteI.zero).un) ∧ w.cell? ⟨g, k * 4 + 1, none⟩ = some (.int .i64 (xs.getD k NoteI.zero).sq) ∧ w.cell? ⟨g, k * 4 + 2, none⟩ = some (.slice (xs.getD k NoteI.zero).ad (xs.getD k NoteI.zero).n (xs.getD k NoteI.zero).c) ∧ w.cell? ⟨g, k * 4 + 3, none⟩ = some (.string (bsA (xs.getD k NoteI.zero).wd)) :=
  ⟨h.cell hk (j := 0) (by decide), h.cell hk (j := 1) (by decide), h.cell hk (j := 2) (by decide), h.cell hk (j := 3) (by decide)⟩
theorem Mem.putNote {E : TypeId} {B : Nat} {w0 w : World} {G G' : List Ent} {g n c : Nat} {xs : List NoteI} (h : Mem B w0 w G) {k : Nat} (hk : k < n) (y : NoteI) (hw : FNote.wf y) (p : Put G (owE FNote E (some ⟨g, 0, none⟩) n c xs) (owE FNote E (some ⟨g, 0, none⟩) n c (xs.set k y)) G') : Mem B w0 ((((w.setCell ⟨g, k * 4, none⟩ (.int .i64 y.un)).setCell ⟨g, k * 4 + 1, none⟩ (.int .i64 y.sq)).setCell ⟨g, k * 4 + 2, none⟩ (.slice y.ad y.n y.c)).setCell ⟨g, k * 4 + 3, none⟩ (.string (bsA y.wd))) G' :=
  h.put p (setRec_keeps (d := blockOf (some ⟨g, 0, none⟩)) g ⟨_, rfl, rfl⟩ (FNote.enc y) (k * 4) w) ((h.ow p.mem').putRec hk y hw) (fun k hk => .inl hk)
/-- notes that are read: the slice, and their clocks -/
structure RdN (w : World) (a : Option Addr) (n c : Nat) (xs : List NoteI) : Prop where
  rd : Rd FNote w a n c xs
  cl : ∀ x ∈ xs, Ints w x.ad x.n x.c x.cl
theorem RdN.ext {w w' : World} {a : Option Addr} {n c : Nat} {xs : List NoteI} (h : RdN w a n c xs) (hb : Below w.heap.size w w') : RdN w' a n c xs := ⟨h.rd.ext hb, fun x hx => (h.cl x hx).ext hb⟩
theorem RdN.get {w : World} {a : Option Addr} {n c : Nat} {xs : List NoteI} (h : RdN w a n c xs) {k : Nat} (hk : k < n) : Ints w (xs.getD k NoteI.zero).ad (xs.getD k NoteI.zero).n (xs.getD k NoteI.zero).c (xs.getD k NoteI.zero).cl := by
  refine h.cl _ ?_
  rw [List.getD_eq_getElem?_getD, List.getElem?_eq_getElem (by rw [h.rd.len]; exact hk)]
  exact List.getElem_mem _
abbrev noteIn (x : NoteI) : Ent := intE x.ad x.n x.c x.cl
abbrev noteE (a : Option Addr) (n c : Nat) (xs : List NoteI) : Ent := nstE FNote 42 noteIn a n c xs
theorem Mem.notes {B : Nat} {w0 w : World} {G : List Ent} {a : Option Addr} {n c : Nat} {xs : List NoteI} (h : Mem B w0 w G) (i : In G (noteE a n c xs)) : RdN w a n c xs :=
  ⟨(h.nstOw i).rd, fun _ hx => Own.ints (h.nstIn i hx)⟩
def coreN (xs : List NoteI) : List NoteC := xs.map NoteI.core
theorem coreN_getD (xs : List NoteI) (k : Nat) : (coreN xs).getD k NoteC.zero = (xs.getD k NoteI.zero).core := by
  unfold coreN
  rw [List.getD_eq_getElem?_getD, List.getD_eq_getElem?_getD, List.getElem?_map]
  cases xs[k]? <;> rfl
theorem coreN_len (xs : List NoteI) : (coreN xs).length = xs.length := by simp [coreN]
theorem coreN_eq {xs ys : List NoteI} (h : coreN xs = coreN ys) : xs.length = ys.length ∧ ∀ k, (xs.getD k NoteI.zero).core = (ys.getD k NoteI.zero).core := by
  have hl : xs.length = ys.length := by simpa [coreN] using congrArg List.length h
  refine ⟨hl, fun k => ?_⟩
  rw [← coreN_getD, ← coreN_getD, h]
end Go.Proofs.Ytjnbdgldpmmamaa

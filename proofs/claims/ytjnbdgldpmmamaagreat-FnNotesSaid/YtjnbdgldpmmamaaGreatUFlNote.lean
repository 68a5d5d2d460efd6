/-
  Notes: records with a clock inside. Read, owned.
-/
import Derived.Lib.ItoaNum
import Derived.Lib.ItoaLen
import Derived.Lib.Bytealg
import Derived.Test.YtjnbdgldpmmamaaGreatURd
import Derived.Lib.Strings
import Derived.Laws.Concat
import Derived.Laws.Strings3
import Derived.Test.YtjnbdgldpmmamaaGreatUNestN
import Derived.Test.YtjnbdgldpmmamaaGreatProg
import Derived.Lib.ConvBytes
import Derived.Laws.IdiomStrings
import Derived.Test.YtjnbdgldpmmamaaGreatULst
/-
  Records of a log as bytes: the line of a record, what is read from a line, and that both ways of reading agree. Plain Lean.
-/
namespace Go.Proofs.YtjnbdgldpmmamaaGreat
set_option linter.unusedSimpArgs false
set_option linter.unusedVariables false

abbrev Bs := List UInt8
structure RecB where
  c : Bs
  r : Bs

/-- what stands before the first b, and what stands behind it -/
def befB (b : UInt8) : Bs → Bs
  | [] => []
  | x :: l => if x == b then [] else x :: befB b l
def aftB (b : UInt8) : Bs → Bs
  | [] => []
  | x :: l => if x == b then l else aftB b l
def hasB (b : UInt8) (l : Bs) : Bool := l.any fun x => x == b

/-- the checksum -/
def sumB (l : Bs) : Nat := l.foldl (fun n x => (41 * n + x.toNat + 1) % 999979) 7
/-- the lines of records -/
def sealB (l : Bs) : Bs := l ++ 35 :: Lib.decDigits (sumB l)
def plainB (l : Bs) (most : Nat) : Bool := l.all (fun x => decide (32 ≤ x.toNat ∧ x.toNat ≤ 126) && !(x == 35)) && decide (l.length ≤ most)
def okB (e : RecB) : Bool := !e.c.isEmpty && plainB e.c 160 && !hasB 64 e.c && plainB e.r 200
def payB (k : Nat) (e : RecB) : Bs := Lib.decDigits k ++ 32 :: (e.c ++ 64 :: e.r)
def lineLB (k : Nat) (e : RecB) : Bs := sealB (payB k e) ++ [10]

/-- what the program reads from a line -/
def parseI (line : Bs) : RecB := ⟨befB 64 (aftB 32 (befB 35 line)), aftB 64 (aftB 32 (befB 35 line))⟩
def readI (k : Nat) (line : Bs) : Option RecB := if decide (line.length ≤ 4000) && decide (k ≤ 59) && okB (parseI line) && (lineLB k (parseI line) == line ++ [10]) then some (parseI line) else none
/-- the record at the beginning of a text, and how long it is -/
def decB (k : Nat) (s : Bs) : Option (RecB × Nat) := if hasB 10 s then (readI k (befB 10 s)).map fun e => (e, (befB 10 s).length + 1) else none
theorem decB_nil (k : Nat) : decB k [] = none := by simp [decB, hasB]

/-- the records at the beginning of a text -/
def readN : Nat → Nat → Bs → List RecB
  | 0, _, _ => []
  | f + 1, k, s => match decB k s with
    | none => []
    | some (e, n) => e :: readN f (k + 1) (s.drop n)
def linesB (k : Nat) : List RecB → Bs
  | [] => []
  | e :: es => lineLB k e ++ linesB (k + 1) es
def openLB (s : Bs) : List RecB := readN 60 0 s
def endLB (rs : List RecB) : Nat := (linesB 0 rs).length

theorem readN_none {f k : Nat} {s : Bs} (h : decB k s = none) : readN f k s = [] := by
  cases f
  · rfl
  · simp [readN, h]
/-- what has been read so far -/
structure Part (s : Bs) (rs : List RecB) : Prop where
  len : rs.length ≤ 60
  eq : openLB s = rs ++ readN (60 - rs.length) rs.length (s.drop (endLB rs))
  le : endLB rs ≤ s.length
theorem Part.start (s : Bs) : Part s [] := ⟨by simp, by simp [openLB, endLB, linesB], by simp [endLB, linesB]⟩
theorem Part.stop {s : Bs} {rs : List RecB} (h : Part s rs) (hd : decB rs.length (s.drop (endLB rs)) = none) : openLB s = rs := by
  rw [h.eq, readN_none hd, List.append_nil]
theorem Part.nil {s : Bs} {rs : List RecB} (h : Part s rs) (hl : endLB rs = s.length) : openLB s = rs := h.stop (by rw [hl, List.drop_length, decB_nil])

end Go.Proofs.YtjnbdgldpmmamaaGreat

/-
  Strings as lists of bytes.
-/
namespace Go.Proofs.YtjnbdgldpmmamaaGreat
set_option linter.unusedSimpArgs false
set_option linter.unusedVariables false
open Go.RowKit

/-- a string of these bytes -/
def bsA (l : Bs) : ByteArray := ⟨l.toArray⟩
def bl (s : ByteArray) : Bs := s.data.toList
theorem bsA_bl (s : ByteArray) : bsA (bl s) = s := rfl
theorem bsA_size (l : Bs) : (bsA l).size = l.length := rfl
theorem bsA_get (l : Bs) (k : Nat) (h : k < (bsA l).size) : (bsA l)[k]'h = l.getD k 0 := by
  have hk : k < l.length := h
  have : (bsA l)[k]'h = l[k]'hk := rfl
  rw [this]
  simp [List.getD, hk]
theorem bsA_list (l : Bs) : (bsA l).toList = l := ByteArray.toList_mk l
end Go.Proofs.YtjnbdgldpmmamaaGreat

/-
  Notes: records with a clock inside. Read, owned.
-/
namespace Go.Proofs.YtjnbdgldpmmamaaGreat
set_option linter.unusedSimpArgs false
set_option linter.unusedVariables false
open Go.RowKit

structure NoteI where
  un : Int
  sq : Int
  ad : Option Addr
  n : Nat
  c : Nat
  cl : List Int
  wd : Bs
def NoteI.zero : NoteI := ⟨0, 0, none, 0, 0, [], []⟩
/-- what a note says -/
structure NoteC where
  un : Int
  sq : Int
  cl : List Int
  wd : Bs
instance : DecidableEq NoteC := fun a b => decidable_of_iff (a.un = b.un ∧ a.sq = b.sq ∧ a.cl = b.cl ∧ a.wd = b.wd) (by cases a; cases b; simp)
def NoteC.zero : NoteC := ⟨0, 0, [], []⟩
def NoteI.core (x : NoteI) : NoteC := ⟨x.un, x.sq, x.cl, x.wd⟩
def FNote : Fl NoteI where
  sz := 4
  enc x := [.int .i64 x.un, .int .i64 x.sq, .slice x.ad x.n x.c, .string (bsA x.wd)]
  z := NoteI.zero
  wf x := I64 x.un ∧ I64 x.sq ∧ x.wd.length ≤ maxLen
  pos := by decide
  len _ := rfl
  one := by intro x v hv; simp at hv; rcases hv with rfl | rfl | rfl | rfl <;> rfl
abbrev NoteI.val (x : NoteI) : Value := .agg #[.int .i64 x.un, .int .i64 x.sq, .slice x.ad x.n x.c, .string (bsA x.wd)]
theorem Rd.cellNote {w : World} {b off n c : Nat} {xs : List NoteI} (h : Rd FNote w (some ⟨b, off, none⟩) n c xs) {k : Nat} (hk : k < n) : b < w.heap.size ∧ w.cell? ⟨b, off + k * 4, none⟩ = some (.int .i64 (xs.getD k NoteI.zero).un) ∧ w.cell? ⟨b, off + k * 4 + 1, none⟩ = some (.int .i64 (xs.getD k NoteI.zero).sq) ∧ w.cell? ⟨b, off + k * 4 + 2, none⟩ = some (.slice (xs.getD k NoteI.zero).ad (xs.getD k NoteI.zero).n (xs.getD k NoteI.zero).c) ∧ w.cell? ⟨b, off + k * 4 + 3, none⟩ = some (.string (bsA (xs.getD k NoteI.zero).wd)) := by
  obtain ⟨b', off', e, hl, hc⟩ := h.at' k hk
  simp only [Option.some.injEq, Addr.mk.injEq] at e
  obtain ⟨rfl, rfl, _⟩ := e
  refine ⟨hl, ?_, ?_, ?_, ?_⟩
  · rw [show off + k * 4 = off + (k * FNote.sz + 0) by show _ = off + (k * 4 + 0); omega]; exact hc k hk 0 (by decide)
  · rw [show off + k * 4 + 1 = off + (k * FNote.sz + 1) by show _ = off + (k * 4 + 1); omega]; exact hc k hk 1 (by decide)
  · rw [show off + k * 4 + 2 = off + (k * FNote.sz + 2) by show _ = off + (k * 4 + 2); omega]; exact hc k hk 2 (by decide)
  · rw [show off + k * 4 + 3 = off + (k * FNote.sz + 3) by show _ = off + (k * 4 + 3); omega]; exact hc k hk 3 (by decide)
theorem Ow.cellNote {E : TypeId} {B : Nat} {w : World} {g n c : Nat} {xs : List NoteI} (h : Ow FNote E B w (some ⟨g, 0, none⟩) n c xs) {k : Nat} (hk : k < n) : w.cell? ⟨g, k * 4, none⟩ = some (.int .i64 (xs.getD k NoteI.zero).un) ∧ w.cell? ⟨g, k * 4 + 1, none⟩ = some (.int .i64 (xs.getD k NoteI.zero).sq) ∧ w.cell? ⟨g, k * 4 + 2, none⟩ = some (.slice (xs.getD k NoteI.zero).ad (xs.getD k NoteI.zero).n (xs.getD k NoteI.zero).c) ∧ w.cell? ⟨g, k * 4 + 3, none⟩ = some (.string (bsA (xs.getD k NoteI.zero).wd)) :=
  ⟨h.cell hk (j := 0) (by decide), h.cell hk (j := 1) (by decide), h.cell hk (j := 2) (by decide), h.cell hk (j := 3) (by decide)⟩
theorem Mem.putNote {E : TypeId} {B : Nat} {w0 w : World} {G G' : List Ent} {g n c : Nat} {xs : List NoteI} (h : Mem B w0 w G) {k : Nat} (hk : k < n) (y : NoteI) (hw : FNote.wf y) (p : Put G (owE FNote E (some ⟨g, 0, none⟩) n c xs) (owE FNote E (some ⟨g, 0, none⟩) n c (xs.set k y)) G') : Mem B w0 ((((w.setCell ⟨g, k * 4, none⟩ (.int .i64 y.un)).setCell ⟨g, k * 4 + 1, none⟩ (.int .i64 y.sq)).setCell ⟨g, k * 4 + 2, none⟩ (.slice y.ad y.n y.c)).setCell ⟨g, k * 4 + 3, none⟩ (.string (bsA y.wd))) G' :=
  h.put p (setRec_keeps (d := blockOf (some ⟨g, 0, none⟩)) g ⟨_, rfl, rfl⟩ (FNote.enc y) (k * 4) w) ((h.ow p.mem').putRec hk y hw) (fun k hk => .inl hk)
/-- notes that are read: the slice, and their clocks -/
structure RdN (w : World) (a : Option Addr) (n c : Nat) (xs : List NoteI) : Prop where
  rd : Rd FNote w a n c xs
  cl : ∀ x ∈ xs, Ints w x.ad x.n x.c x.cl
theorem RdN.ext {w w' : World} {a : Option Addr} {n c : Nat} {xs : List NoteI} (h : RdN w a n c xs) (hb : Below w.heap.size w w') : RdN w' a n c xs := ⟨h.rd.ext hb, fun x hx => (h.cl x hx).ext hb⟩
theorem RdN.get {w : World} {a : Option Addr} {n c : Nat} {xs : List NoteI} (h : RdN w a n c xs) {k : Nat} (hk : k < n) : Ints w (xs.getD k NoteI.zero).ad (xs.getD k NoteI.zero).n (xs.getD k NoteI.zero).c (xs.getD k NoteI.zero).cl := by
  refine h.cl _ ?_
  rw [List.getD_eq_getElem?_getD, List.getElem?_eq_getElem (by rw [h.rd.len]; exact hk)]
  exact List.getElem_mem _
abbrev noteIn (x : NoteI) : Ent := intE x.ad x.n x.c x.cl
abbrev noteE (a : Option Addr) (n c : Nat) (xs : List NoteI) : Ent := nstE FNote 40 noteIn a n c xs
theorem Mem.notes {B : Nat} {w0 w : World} {G : List Ent} {a : Option Addr} {n c : Nat} {xs : List NoteI} (h : Mem B w0 w G) (i : In G (noteE a n c xs)) : RdN w a n c xs :=
  ⟨(h.nstOw i).rd, fun _ hx => Own.ints (h.nstIn i hx)⟩
def coreN (xs : List NoteI) : List NoteC := xs.map NoteI.core
theorem coreN_getD (xs : List NoteI) (k : Nat) : (coreN xs).getD k NoteC.zero = (xs.getD k NoteI.zero).core := by
  unfold coreN
  rw [List.getD_eq_getElem?_getD, List.getD_eq_getElem?_getD, List.getElem?_map]
  cases xs[k]? <;> rfl
theorem coreN_len (xs : List NoteI) : (coreN xs).length = xs.length := by simp [coreN]
theorem coreN_eq {xs ys : List NoteI} (h : coreN xs = coreN ys) : xs.length = ys.length ∧ ∀ k, (xs.getD k NoteI.zero).core = (ys.getD k NoteI.zero).core := by
  have hl : xs.length = ys.length := by simpa [coreN] using congrArg List.length h
  refine ⟨hl, fun k => ?_⟩
  rw [← coreN_getD, ← coreN_getD, h]
end Go.Proofs.YtjnbdgldpmmamaaGreat

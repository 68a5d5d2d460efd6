/-
  Strings as lists of bytes.
-/
import Derived.Lib.ItoaNum
import Derived.Lib.ItoaLen
import Derived.Lib.Bytealg
import Derived.Test.YtjnbdgldpmmamaaWRd
import Derived.Lib.Strings
import Derived.Laws.Concat
import Derived.Laws.Strings3
/-
  Records of a log as bytes: the line of a record, what is read from a line, and that both ways of reading agree. Plain Lean.
-/
namespace Go.Proofs.Ytjnbdgldpmmamaa
set_option linter.unusedSimpArgs false
set_option linter.unusedVariables false

abbrev Bs := List UInt8
structure RecB where
  c : Bs
  r : Bs

/-- what stands before the first b, and what stands behind it -/
def befB (b : UInt8) : Bs → Bs
  | [] => []
  | x :: l => if x == b then [] else x :: befB b l
def aftB (b : UInt8) : Bs → Bs
  | [] => []
  | x :: l => if x == b then l else aftB b l
def hasB (b : UInt8) (l : Bs) : Bool := l.any fun x => x == b

/-- the checksum -/
def sumB (l : Bs) : Nat := l.foldl (fun n x => (41 * n + x.toNat + 1) % 999979) 7
/-- the lines of records -/
def sealB (l : Bs) : Bs := l ++ 35 :: Lib.decDigits (sumB l)
def plainB (l : Bs) (most : Nat) : Bool := l.all (fun x => decide (32 ≤ x.toNat ∧ x.toNat ≤ 126) && !(x == 35)) && decide (l.length ≤ most)
def okB (e : RecB) : Bool := !e.c.isEmpty && plainB e.c 160 && !hasB 64 e.c && plainB e.r 200
def payB (k : Nat) (e : RecB) : Bs := Lib.decDigits k ++ 32 :: (e.c ++ 64 :: e.r)
def lineLB (k : Nat) (e : RecB) : Bs := sealB (payB k e) ++ [10]

/-- what the program reads from a line -/
def parseI (line : Bs) : RecB := ⟨befB 64 (aftB 32 (befB 35 line)), aftB 64 (aftB 32 (befB 35 line))⟩
def readI (k : Nat) (line : Bs) : Option RecB := if decide (line.length ≤ 4000) && decide (k ≤ 59) && okB (parseI line) && (lineLB k (parseI line) == line ++ [10]) then some (parseI line) else none
/-- the record at the beginning of a text, and how long it is -/
def decB (k : Nat) (s : Bs) : Option (RecB × Nat) := if hasB 10 s then (readI k (befB 10 s)).map fun e => (e, (befB 10 s).length + 1) else none
theorem decB_nil (k : Nat) : decB k [] = none := by simp [decB, hasB]

/-- the records at the beginning of a text -/
def readN : Nat → Nat → Bs → List RecB
  | 0, _, _ => []
  | f + 1, k, s => match decB k s with
    | none => []
    | some (e, n) => e :: readN f (k + 1) (s.drop n)
def linesB (k : Nat) : List RecB → Bs
  | [] => []
  | e :: es => lineLB k e ++ linesB (k + 1) es
def openLB (s : Bs) : List RecB := readN 60 0 s
def endLB (rs : List RecB) : Nat := (linesB 0 rs).length

theorem readN_none {f k : Nat} {s : Bs} (h : decB k s = none) : readN f k s = [] := by
  cases f
  · rfl
  · simp [readN, h]
/-- what has been read so far -/
structure Part (s : Bs) (rs : List RecB) : Prop where
  len : rs.length ≤ 60
  eq : openLB s = rs ++ readN (60 - rs.length) rs.length (s.drop (endLB rs))
  le : endLB rs ≤ s.length
theorem Part.start (s : Bs) : Part s [] := ⟨by simp, by simp [openLB, endLB, linesB], by simp [endLB, linesB]⟩
theorem Part.stop {s : Bs} {rs : List RecB} (h : Part s rs) (hd : decB rs.length (s.drop (endLB rs)) = none) : openLB s = rs := by
  rw [h.eq, readN_none hd, List.append_nil]
theorem Part.nil {s : Bs} {rs : List RecB} (h : Part s rs) (hl : endLB rs = s.length) : openLB s = rs := h.stop (by rw [hl, List.drop_length, decB_nil])

end Go.Proofs.Ytjnbdgldpmmamaa

/-
  Strings as lists of bytes.
-/
namespace Go.Proofs.Ytjnbdgldpmmamaa
set_option linter.unusedSimpArgs false
set_option linter.unusedVariables false
open Go.RowKit

/-- a string of these bytes -/
def bsA (l : Bs) : ByteArray := ⟨l.toArray⟩
def bl (s : ByteArray) : Bs := s.data.toList
theorem bsA_bl (s : ByteArray) : bsA (bl s) = s := rfl
theorem bsA_size (l : Bs) : (bsA l).size = l.length := rfl
theorem bsA_get (l : Bs) (k : Nat) (h : k < (bsA l).size) : (bsA l)[k]'h = l.getD k 0 := by
  have hk : k < l.length := h
  have : (bsA l)[k]'h = l[k]'hk := rfl
  rw [this]
  simp [List.getD, hk]
theorem bsA_list (l : Bs) : (bsA l).toList = l := ByteArray.toList_mk l
end Go.Proofs.Ytjnbdgldpmmamaa

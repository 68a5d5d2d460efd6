/-
  Strings as lists of bytes.
-/
import Derived.Test.YtpflnmejbialjaaGreatDoorVRd
import Derived.Test.YtpflnmejbialjaaGreatDoorVLogP
import Derived.Lib.Strings
import Derived.Laws.Concat
import Derived.Laws.Strings3
/-
  Strings as lists of bytes.
-/
namespace Go.Proofs.YtpflnmejbialjaaGreatDoor
set_option linter.unusedSimpArgs false
set_option linter.unusedVariables false
open Go.RowKit

/-- a string of these bytes -/
def bsA (l : Bs) : ByteArray := ⟨l.toArray⟩
def bl (s : ByteArray) : Bs := s.data.toList
theorem bsA_size (l : Bs) : (bsA l).size = l.length := rfl
theorem bsA_app (l m : Bs) : bsA l ++ bsA m = bsA (l ++ m) := ByteArray.mk_append_mk l m
theorem bsA_ext (l : Bs) (a b : Nat) : (bsA l).extract a b = bsA ((l.drop a).take (b - a)) := ByteArray.extract_mk l a b
theorem bsA_get (l : Bs) (k : Nat) (h : k < (bsA l).size) : (bsA l)[k]'h = l.getD k 0 := by
  have hk : k < l.length := h
  have : (bsA l)[k]'h = l[k]'hk := rfl
  rw [this]
  simp [List.getD, hk]
theorem bsA_list (l : Bs) : (bsA l).toList = l := ByteArray.toList_mk l
theorem bsA_dat (l : Bs) : (bsA l).data.toList = l := rfl
theorem bsA_from (l : Bs) (a : Nat) : (bsA l).extract a l.length = bsA (l.drop a) := by
  rw [bsA_ext, List.take_of_length_le (by simp)]
theorem bsA_to (l : Bs) (b : Nat) : (bsA l).extract 0 b = bsA (l.take b) := by
  rw [bsA_ext, List.drop_zero, Nat.sub_zero]

/-- strings as records of one cell -/
def FStr : Fl Bs where
  sz := 1
  enc l := [.string (bsA l)]
  z := []
  wf _ := True
  pos := by decide
  len _ := rfl
  one := by
    intro l u hu
    obtain rfl := List.mem_singleton.1 hu
    rfl
/-- records of a log -/
def FRec : Fl RecB where
  sz := 2
  enc e := [.string (bsA e.c), .string (bsA e.r)]
  z := ⟨[], []⟩
  wf _ := True
  pos := by decide
  len _ := rfl
  one := by
    intro e u hu
    simp only [List.mem_cons, List.mem_nil_iff, or_false] at hu
    rcases hu with rfl | rfl <;> rfl
end Go.Proofs.YtpflnmejbialjaaGreatDoor

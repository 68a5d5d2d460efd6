/-
  Loops over the bytes of a string: both sides.
-/
import Derived.Test.YtjnbdgldpmmamaaWFlNote
import Derived.Test.YtjnbdgldpmmamaaWRegF
import Derived.Deep.DeepCutAuto
import Derived.Test.YtjnbdgldpmmamaaProg
import Derived.Test.YtjnbdgldpmmamaaWStr
import Derived.Lib.ConvBytes
import Derived.Laws.IdiomStrings
import Derived.Test.YtjnbdgldpmmamaaWPush
import Derived.Test.YtjnbdgldpmmamaaWLst
/-
  The laws' sz, to, eq over notes.
-/
namespace Go.Proofs.Ytjnbdgldpmmamaa
set_option linter.unusedSimpArgs false
set_option linter.unusedVariables false
open Go.RowKit

theorem Try.info42 : (Try.prog.info? 42).map (fun i => (i.zero, i.size, i.bytes)) = some (some (.agg #[.int .i64 0, .int .i64 0, .slice none 0 0, .string ⟨#[]⟩]), 4, 56) := by kernel_rfl
end Go.Proofs.Ytjnbdgldpmmamaa

namespace Go.Proofs.Ytjnbdgldpmmamaa
set_option linter.unusedSimpArgs false
set_option linter.unusedVariables false
open Go.RowKit

structure OrderI where
  id : Int
  kd : Bs
  ct : Int
  ur : Int
  tk : Int
instance : DecidableEq OrderI := fun a b => decidable_of_iff (a.id = b.id ∧ a.kd = b.kd ∧ a.ct = b.ct ∧ a.ur = b.ur ∧ a.tk = b.tk) (by cases a; cases b; simp [and_assoc])
def OrderI.zero : OrderI := ⟨0, [], 0, 0, 0⟩
abbrev OrderI.val (x : OrderI) : Value := .agg #[.int .i64 x.id, .string (bsA x.kd), .int .i64 x.ct, .int .i64 x.ur, .int .i64 x.tk]
end Go.Proofs.Ytjnbdgldpmmamaa

namespace Go.Proofs.Ytjnbdgldpmmamaa
set_option linter.unusedSimpArgs false
set_option linter.unusedVariables false
open Go.RowKit

structure StockI where
  kd : Bs
  ct : Int
instance : DecidableEq StockI := fun a b => decidable_of_iff (a.kd = b.kd ∧ a.ct = b.ct) (by cases a; cases b; simp [and_assoc])
def StockI.zero : StockI := ⟨[], 0⟩
abbrev StockI.val (x : StockI) : Value := .agg #[.string (bsA x.kd), .int .i64 x.ct]
end Go.Proofs.Ytjnbdgldpmmamaa

/-
  Loops over the bytes of a string: both sides.
-/
namespace Go.Proofs.Ytjnbdgldpmmamaa
set_option linter.unusedSimpArgs false
set_option linter.unusedVariables false
open Go.RowKit

theorem all_takeB {p : UInt8 → Bool} {l : Bs} {k : Nat} (hk : k < l.length) : (l.take (k + 1)).all p = ((l.take k).all p && p (l.getD k 0)) := by
  rw [List.take_succ_eq_append_getElem hk, List.all_append]
  simp [List.getD, hk]
theorem all_falseB {p : UInt8 → Bool} {l : Bs} {k : Nat} (hk : k < l.length) (h : p (l.getD k 0) = false) : l.all p = false := by
  rw [List.all_eq_false]
  exact ⟨l[k], List.getElem_mem hk, by simpa [List.getD, hk] using h⟩
theorem byte_lt (x : UInt8) : x.toNat < 256 := x.toNat_lt

end Go.Proofs.Ytjnbdgldpmmamaa

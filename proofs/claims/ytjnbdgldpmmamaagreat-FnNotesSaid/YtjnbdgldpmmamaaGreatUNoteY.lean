/-
  WriteNote: the program's.
-/
import Derived.Test.YtjnbdgldpmmamaaGreatUNoteX
/-
  WriteNote: the program's.
-/
namespace Go.Proofs.YtjnbdgldpmmamaaGreat
set_option linter.unusedSimpArgs false
set_option linter.unusedVariables false
open Go.RowKit

theorem Mem.nilNst {B : Nat} {w0 w : World} {G : List Ent} (h : Mem B w0 w G) : Mem B w0 w (noteE none 0 0 [] :: G) := Mem.nstNil (Mem.nilOwO h)
end Go.Proofs.YtjnbdgldpmmamaaGreat

/-
  WriteNote: the reference's.
-/
import Derived.Test.YtjnbdgldpmmamaaMNoteX
/-
  WriteNote: the program's.
-/
namespace Go.Proofs.Ytjnbdgldpmmamaa
set_option linter.unusedSimpArgs false
set_option linter.unusedVariables false
open Go.RowKit

theorem Mem.nilNst {B : Nat} {w0 w : World} {G : List Ent} (h : Mem B w0 w G) : Mem B w0 w (noteE none 0 0 [] :: G) := Mem.nstNil (Mem.nilOwO h)
end Go.Proofs.Ytjnbdgldpmmamaa

/-
  WriteNote: the reference's.
-/
namespace Go.Proofs.Ytjnbdgldpmmamaa
set_option linter.unusedSimpArgs false
set_option linter.unusedVariables false
open Go.RowKit

theorem Mem.nilNstR {B : Nat} {w0 w : World} {G : List Ent} {b : Nat} (h : Mem B w0 w (rowE b 42 #[] :: G)) : Mem B w0 w [noteE (some ⟨b, 0, none⟩) 0 0 []] := Mem.nstNil (G := []) (Mem.first (Mem.toOwR (F := FNote) h))
end Go.Proofs.Ytjnbdgldpmmamaa

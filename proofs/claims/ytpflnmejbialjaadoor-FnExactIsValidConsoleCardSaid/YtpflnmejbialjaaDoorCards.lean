/-
  DERIVED. GIVEN WITH THE SEED: THE CARDS: each row of YtpflnmejbialjaaDoorRows.lean that lists a variable, with what it lists TIED to the program's text (the seventh form; the later family's looks); each row that meets fmt, with fmt's text TOLD by the authors' own Lean function (tested against real Go, not proved from fmt's source: count such statements apart). THE CARD IS WHAT COUNTS. Prove the row's statement (the work); the ties are given (YtpflnmejbialjaaDoorTie.lean); close each card by the builder's one call (the guide's Derived/Test/ToyasCard.lean, 'card_holds'). Laid BY PROGRAM, IN A SANDBOX (cutbox-door.mjs). By AI agents, Wed Nov 11 2026. No macro, syntax, notation, axiom, sorry.
-/
import Derived.Test.YtpflnmejbialjaaDoorRows
import GoSem.ClaimSeven
namespace Go.Proofs.YtpflnmejbialjaaDoor
namespace Rows

/-- THE TIED CARD OF 'laws.FnExactIsValidConsole'. -/
def fnExactIsValidConsoleCard : Claim7 := { stood := { row := fnExactIsValidConsoleRow, standIns := [], harness := (true, "2bf7cd8e6568623f4ed3f8f5eee44b4c2dc8de32b740cf0a00a0c1fe46eec8fb"), looks := false }, kinds := [], alts := [], laidByText := true, laidKinds := [.data, .data, .data], laidTests := true, laidLooks := .later }
def FnExactIsValidConsoleCardSaid : Prop := Claim7.holds Tryd.pinned (.plain (OpenSpec.ofChange fnExactIsValidConsoleSpec)) fnExactIsValidConsoleCard

/-- THE SECOND FORM's CARD OF 'laws.FnExactIsValidConsole'. -/
def fnExactIsValidConsoleUptoCard : Claim7 := { stood := { row := fnExactIsValidConsoleUptoRow, standIns := [], harness := (true, "2bf7cd8e6568623f4ed3f8f5eee44b4c2dc8de32b740cf0a00a0c1fe46eec8fb"), looks := false }, kinds := [], alts := [], laidByText := true, laidKinds := [.data, .data, .data], laidTests := true, laidLooks := .later }
def FnExactIsValidConsoleUptoCardSaid : Prop := Claim7.holds Tryd.pinned (.plain (OpenSpec.upto fnExactIsValidConsoleSpec)) fnExactIsValidConsoleUptoCard
end Rows
end Go.Proofs.YtpflnmejbialjaaDoor

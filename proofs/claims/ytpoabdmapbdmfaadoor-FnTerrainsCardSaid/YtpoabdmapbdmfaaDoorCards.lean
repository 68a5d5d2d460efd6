/-
  DERIVED. GIVEN WITH THE SEED: THE CARDS: each row of YtpoabdmapbdmfaaDoorRows.lean that lists a variable, with what it lists TIED to the program's text (the seventh form; the later family's looks); each row that meets fmt, with fmt's text TOLD by the authors' own Lean function (tested against real Go, not proved from fmt's source: count such statements apart). THE CARD IS WHAT COUNTS. Prove the row's statement (the work); the ties are given (YtpoabdmapbdmfaaDoorTie.lean); close each card by the builder's one call (the guide's Derived/Test/ToyasCard.lean, 'card_holds'). Laid BY PROGRAM, IN A SANDBOX (cutbox-door.mjs). By AI agents, Wed Nov 11 2026. No macro, syntax, notation, axiom, sorry.
-/
import Derived.Test.YtpoabdmapbdmfaaDoorRows
import GoSem.ClaimSeven
namespace Go.Proofs.YtpoabdmapbdmfaaDoor
namespace Rows

/-- THE TIED CARD OF 'laws.FnSeasons'. -/
def fnSeasonsCard : Claim7 := { stood := { row := fnSeasonsRow, standIns := [], harness := (true, "681708c12f811702b30cf784013086bdfb245758c014768c6a05bde25c92da73"), looks := false }, kinds := [], alts := [], laidByText := true, laidKinds := [.data, .data, .data], laidTests := true, laidLooks := .later }
def FnSeasonsCardSaid : Prop := Claim7.holds Tryd.pinned (.plain (OpenSpec.ofChange fnSeasonsSpec)) fnSeasonsCard

/-- THE TIED CARD OF 'laws.FnTerrains'. -/
def fnTerrainsCard : Claim7 := { stood := { row := fnTerrainsRow, standIns := [], harness := (true, "681708c12f811702b30cf784013086bdfb245758c014768c6a05bde25c92da73"), looks := false }, kinds := [], alts := [], laidByText := true, laidKinds := [.data, .pinned], laidTests := true, laidLooks := .later }
def FnTerrainsCardSaid : Prop := Claim7.holds Tryd.pinned (.plain (OpenSpec.ofChange fnTerrainsSpec)) fnTerrainsCard

/-- THE SECOND FORM's CARD OF 'laws.FnSeasons'. -/
def fnSeasonsUptoCard : Claim7 := { stood := { row := fnSeasonsUptoRow, standIns := [], harness := (true, "681708c12f811702b30cf784013086bdfb245758c014768c6a05bde25c92da73"), looks := false }, kinds := [], alts := [], laidByText := true, laidKinds := [.data, .data, .data], laidTests := true, laidLooks := .later }
def FnSeasonsUptoCardSaid : Prop := Claim7.holds Tryd.pinned (.plain (OpenSpec.upto fnSeasonsSpec)) fnSeasonsUptoCard

/-- THE SECOND FORM's CARD OF 'laws.FnTerrains'. -/
def fnTerrainsUptoCard : Claim7 := { stood := { row := fnTerrainsUptoRow, standIns := [], harness := (true, "681708c12f811702b30cf784013086bdfb245758c014768c6a05bde25c92da73"), looks := false }, kinds := [], alts := [], laidByText := true, laidKinds := [.data, .pinned], laidTests := true, laidLooks := .later }
def FnTerrainsUptoCardSaid : Prop := Claim7.holds Tryd.pinned (.plain (OpenSpec.upto fnTerrainsSpec)) fnTerrainsUptoCard
end Rows
end Go.Proofs.YtpoabdmapbdmfaaDoor

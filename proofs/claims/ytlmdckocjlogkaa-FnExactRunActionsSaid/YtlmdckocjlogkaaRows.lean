/-
  No cell of these rows narrows 'for every input' (looked for: loops, veiled, ifaces, maps, wideKeys, modest, calm, conditions, laid).
  DERIVED. THE GIVEN ROWS OF THIS SEAT. 10 by the template 'for every input the law returns true; each argument reads behind the call as it read before'; 0 by the template 'total and deterministic' (their statements: YtlmdckocjlogkaaTotals.lean).
  GIVEN WITH THE SEED: the statements are not yours to turn. If you find one false, say at which input.
  Laid BY PROGRAM, IN A SANDBOX (cutbox-rows.mjs): the forced cells as the released guide's own fill.sh prints them over the translation 6312756c5ffb4d7d… (all of the seat's roots in one cut). By AI agents, Wed Nov 11 2026. No macro, syntax, notation, axiom, sorry.
-/
import Derived.Test.YtlmdckocjlogkaaChecked
import GoSem.Claim
import GoSem.ClaimJoined
import GoSem.ClaimMapViews
import Derived.JoinedTies
import Derived.KernelRfl
namespace Go.Proofs.Ytlmdckocjlogkaa
/- THE CELL 'sum', in the pinned program and in every row, IS THE sha256 OF THE DUMP (.gsa) THAT YtlmdckocjlogkaaProg.lean LOADS. Nothing in Lean hashes anything: it is a label: what it is worth is what the hold of that sum in a sandbox is worth. -/
noncomputable def Try.pinned : Pinned := { name := "ytlmdckocjlogkaa", sum := "6312756c5ffb4d7de5c1c432b064ff240153d54773644dbf18d9e731472d4905", checked := Try.checked }
namespace Rows
def none {H : Type} : Left H := { results := [], args := [] }

/-- 'laws.FnExactNewIncident': WHATEVER THE INPUT: true; the input reads as it did. -/
def fnExactNewIncidentSpec : ChangeSpec := { name := "fnExactNewIncident", fn := fun _ => fun
  | [d1, d2] => { results := [.lit (.bool true)], args := [d1, d2] }
  | _ => none }
def fnExactNewIncidentRow : OpenClaim := { program := "ytlmdckocjlogkaa", sum := "6312756c5ffb4d7de5c1c432b064ff240153d54773644dbf18d9e731472d4905", func := "loop.example/g00917/laws.FnExactNewIncident", spec := "fnExactNewIncident", unfollowed := true, recurses := true, apart := false }
def FnExactNewIncidentSaid : Prop := fnExactNewIncidentRow.holds Try.pinned (OpenSpec.ofChange fnExactNewIncidentSpec)

/-- ITS FALSE NEIGHBOUR: 'it returns false'. Refute it at one input. -/
def fnExactNewIncidentWrong : ChangeSpec := { name := "fnExactNewIncident", fn := fun _ => fun
  | [d1, d2] => { results := [.lit (.bool false)], args := [d1, d2] }
  | _ => none }
def FnExactNewIncidentWrongFalsely : Prop := fnExactNewIncidentRow.holds Try.pinned (OpenSpec.ofChange fnExactNewIncidentWrong)

/-- 'laws.FnExactIsLine': WHATEVER THE INPUT: true; the input reads as it did. -/
def fnExactIsLineSpec : ChangeSpec := { name := "fnExactIsLine", fn := fun _ => fun
  | [d1, d2, d3, d4] => { results := [.lit (.bool true)], args := [d1, d2, d3, d4] }
  | _ => none }
def fnExactIsLineRow : OpenClaim := { program := "ytlmdckocjlogkaa", sum := "6312756c5ffb4d7de5c1c432b064ff240153d54773644dbf18d9e731472d4905", func := "loop.example/g00917/laws.FnExactIsLine", spec := "fnExactIsLine", unfollowed := true, recurses := true, apart := false }
def FnExactIsLineSaid : Prop := fnExactIsLineRow.holds Try.pinned (OpenSpec.ofChange fnExactIsLineSpec)

/-- ITS FALSE NEIGHBOUR: 'it returns false'. Refute it at one input. -/
def fnExactIsLineWrong : ChangeSpec := { name := "fnExactIsLine", fn := fun _ => fun
  | [d1, d2, d3, d4] => { results := [.lit (.bool false)], args := [d1, d2, d3, d4] }
  | _ => none }
def FnExactIsLineWrongFalsely : Prop := fnExactIsLineRow.holds Try.pinned (OpenSpec.ofChange fnExactIsLineWrong)

/-- 'laws.FnExactSavedCells': WHATEVER THE INPUT: true; the input reads as it did. -/
def fnExactSavedCellsSpec : ChangeSpec := { name := "fnExactSavedCells", fn := fun _ => fun
  | [d1, d2, d3] => { results := [.lit (.bool true)], args := [d1, d2, d3] }
  | _ => none }
def fnExactSavedCellsRow : OpenClaim := { program := "ytlmdckocjlogkaa", sum := "6312756c5ffb4d7de5c1c432b064ff240153d54773644dbf18d9e731472d4905", func := "loop.example/g00917/laws.FnExactSavedCells", spec := "fnExactSavedCells", unfollowed := true, recurses := true, apart := false }
def FnExactSavedCellsSaid : Prop := fnExactSavedCellsRow.holds Try.pinned (OpenSpec.ofChange fnExactSavedCellsSpec)

/-- ITS FALSE NEIGHBOUR: 'it returns false'. Refute it at one input. -/
def fnExactSavedCellsWrong : ChangeSpec := { name := "fnExactSavedCells", fn := fun _ => fun
  | [d1, d2, d3] => { results := [.lit (.bool false)], args := [d1, d2, d3] }
  | _ => none }
def FnExactSavedCellsWrongFalsely : Prop := fnExactSavedCellsRow.holds Try.pinned (OpenSpec.ofChange fnExactSavedCellsWrong)

/-- 'laws.FnExactTicksToEnd': WHATEVER THE INPUT: true; the input reads as it did. -/
def fnExactTicksToEndSpec : ChangeSpec := { name := "fnExactTicksToEnd", fn := fun _ => fun
  | [d] => { results := [.lit (.bool true)], args := [d] }
  | _ => none }
def fnExactTicksToEndRow : OpenClaim := { program := "ytlmdckocjlogkaa", sum := "6312756c5ffb4d7de5c1c432b064ff240153d54773644dbf18d9e731472d4905", func := "loop.example/g00917/laws.FnExactTicksToEnd", spec := "fnExactTicksToEnd", unfollowed := true, recurses := true, apart := false }
def FnExactTicksToEndSaid : Prop := fnExactTicksToEndRow.holds Try.pinned (OpenSpec.ofChange fnExactTicksToEndSpec)

/-- ITS FALSE NEIGHBOUR: 'it returns false'. Refute it at one input. -/
def fnExactTicksToEndWrong : ChangeSpec := { name := "fnExactTicksToEnd", fn := fun _ => fun
  | [d] => { results := [.lit (.bool false)], args := [d] }
  | _ => none }
def FnExactTicksToEndWrongFalsely : Prop := fnExactTicksToEndRow.holds Try.pinned (OpenSpec.ofChange fnExactTicksToEndWrong)

/-- 'laws.FnExactTrimLine': WHATEVER THE INPUT: true; the input reads as it did. -/
def fnExactTrimLineSpec : ChangeSpec := { name := "fnExactTrimLine", fn := fun _ => fun
  | [d1, d2, d3, d4] => { results := [.lit (.bool true)], args := [d1, d2, d3, d4] }
  | _ => none }
def fnExactTrimLineRow : OpenClaim := { program := "ytlmdckocjlogkaa", sum := "6312756c5ffb4d7de5c1c432b064ff240153d54773644dbf18d9e731472d4905", func := "loop.example/g00917/laws.FnExactTrimLine", spec := "fnExactTrimLine", unfollowed := true, recurses := true, apart := false }
def FnExactTrimLineSaid : Prop := fnExactTrimLineRow.holds Try.pinned (OpenSpec.ofChange fnExactTrimLineSpec)

/-- ITS FALSE NEIGHBOUR: 'it returns false'. Refute it at one input. -/
def fnExactTrimLineWrong : ChangeSpec := { name := "fnExactTrimLine", fn := fun _ => fun
  | [d1, d2, d3, d4] => { results := [.lit (.bool false)], args := [d1, d2, d3, d4] }
  | _ => none }
def FnExactTrimLineWrongFalsely : Prop := fnExactTrimLineRow.holds Try.pinned (OpenSpec.ofChange fnExactTrimLineWrong)

/-- 'laws.FnExactSafeCells': WHATEVER THE INPUT: true; the input reads as it did. -/
def fnExactSafeCellsSpec : ChangeSpec := { name := "fnExactSafeCells", fn := fun _ => fun
  | [d] => { results := [.lit (.bool true)], args := [d] }
  | _ => none }
def fnExactSafeCellsRow : OpenClaim := { program := "ytlmdckocjlogkaa", sum := "6312756c5ffb4d7de5c1c432b064ff240153d54773644dbf18d9e731472d4905", func := "loop.example/g00917/laws.FnExactSafeCells", spec := "fnExactSafeCells", unfollowed := true, recurses := true, apart := false }
def FnExactSafeCellsSaid : Prop := fnExactSafeCellsRow.holds Try.pinned (OpenSpec.ofChange fnExactSafeCellsSpec)

/-- ITS FALSE NEIGHBOUR: 'it returns false'. Refute it at one input. -/
def fnExactSafeCellsWrong : ChangeSpec := { name := "fnExactSafeCells", fn := fun _ => fun
  | [d] => { results := [.lit (.bool false)], args := [d] }
  | _ => none }
def FnExactSafeCellsWrongFalsely : Prop := fnExactSafeCellsRow.holds Try.pinned (OpenSpec.ofChange fnExactSafeCellsWrong)

/-- 'laws.FnExactNearestLine': WHATEVER THE INPUT: true; the input reads as it did. -/
def fnExactNearestLineSpec : ChangeSpec := { name := "fnExactNearestLine", fn := fun _ => fun
  | [d1, d2, d3] => { results := [.lit (.bool true)], args := [d1, d2, d3] }
  | _ => none }
def fnExactNearestLineRow : OpenClaim := { program := "ytlmdckocjlogkaa", sum := "6312756c5ffb4d7de5c1c432b064ff240153d54773644dbf18d9e731472d4905", func := "loop.example/g00917/laws.FnExactNearestLine", spec := "fnExactNearestLine", unfollowed := true, recurses := true, apart := false }
def FnExactNearestLineSaid : Prop := fnExactNearestLineRow.holds Try.pinned (OpenSpec.ofChange fnExactNearestLineSpec)

/-- ITS FALSE NEIGHBOUR: 'it returns false'. Refute it at one input. -/
def fnExactNearestLineWrong : ChangeSpec := { name := "fnExactNearestLine", fn := fun _ => fun
  | [d1, d2, d3] => { results := [.lit (.bool false)], args := [d1, d2, d3] }
  | _ => none }
def FnExactNearestLineWrongFalsely : Prop := fnExactNearestLineRow.holds Try.pinned (OpenSpec.ofChange fnExactNearestLineWrong)

/-- 'laws.FnExactActIncident': WHATEVER THE INPUT: true; the input reads as it did. -/
def fnExactActIncidentSpec : ChangeSpec := { name := "fnExactActIncident", fn := fun _ => fun
  | [d1, d2] => { results := [.lit (.bool true)], args := [d1, d2] }
  | _ => none }
def fnExactActIncidentRow : OpenClaim := { program := "ytlmdckocjlogkaa", sum := "6312756c5ffb4d7de5c1c432b064ff240153d54773644dbf18d9e731472d4905", func := "loop.example/g00917/laws.FnExactActIncident", spec := "fnExactActIncident", unfollowed := true, recurses := true, apart := false }
def FnExactActIncidentSaid : Prop := fnExactActIncidentRow.holds Try.pinned (OpenSpec.ofChange fnExactActIncidentSpec)

/-- ITS FALSE NEIGHBOUR: 'it returns false'. Refute it at one input. -/
def fnExactActIncidentWrong : ChangeSpec := { name := "fnExactActIncident", fn := fun _ => fun
  | [d1, d2] => { results := [.lit (.bool false)], args := [d1, d2] }
  | _ => none }
def FnExactActIncidentWrongFalsely : Prop := fnExactActIncidentRow.holds Try.pinned (OpenSpec.ofChange fnExactActIncidentWrong)

/-- 'laws.FnExactRunActions': WHATEVER THE INPUT: true; the input reads as it did. -/
def fnExactRunActionsSpec : ChangeSpec := { name := "fnExactRunActions", fn := fun _ => fun
  | [d1, d2] => { results := [.lit (.bool true)], args := [d1, d2] }
  | _ => none }
def fnExactRunActionsRow : OpenClaim := { program := "ytlmdckocjlogkaa", sum := "6312756c5ffb4d7de5c1c432b064ff240153d54773644dbf18d9e731472d4905", func := "loop.example/g00917/laws.FnExactRunActions", spec := "fnExactRunActions", unfollowed := true, recurses := true, apart := false }
def FnExactRunActionsSaid : Prop := fnExactRunActionsRow.holds Try.pinned (OpenSpec.ofChange fnExactRunActionsSpec)

/-- ITS FALSE NEIGHBOUR: 'it returns false'. Refute it at one input. -/
def fnExactRunActionsWrong : ChangeSpec := { name := "fnExactRunActions", fn := fun _ => fun
  | [d1, d2] => { results := [.lit (.bool false)], args := [d1, d2] }
  | _ => none }
def FnExactRunActionsWrongFalsely : Prop := fnExactRunActionsRow.holds Try.pinned (OpenSpec.ofChange fnExactRunActionsWrong)

/-- 'laws.FnExactBestLine': WHATEVER THE INPUT: true; the input reads as it did. -/
def fnExactBestLineSpec : ChangeSpec := { name := "fnExactBestLine", fn := fun _ => fun
  | [d1, d2, d3] => { results := [.lit (.bool true)], args := [d1, d2, d3] }
  | _ => none }
def fnExactBestLineRow : OpenClaim := { program := "ytlmdckocjlogkaa", sum := "6312756c5ffb4d7de5c1c432b064ff240153d54773644dbf18d9e731472d4905", func := "loop.example/g00917/laws.FnExactBestLine", spec := "fnExactBestLine", unfollowed := true, recurses := true, apart := false }
def FnExactBestLineSaid : Prop := fnExactBestLineRow.holds Try.pinned (OpenSpec.ofChange fnExactBestLineSpec)

/-- ITS FALSE NEIGHBOUR: 'it returns false'. Refute it at one input. -/
def fnExactBestLineWrong : ChangeSpec := { name := "fnExactBestLine", fn := fun _ => fun
  | [d1, d2, d3] => { results := [.lit (.bool false)], args := [d1, d2, d3] }
  | _ => none }
def FnExactBestLineWrongFalsely : Prop := fnExactBestLineRow.holds Try.pinned (OpenSpec.ofChange fnExactBestLineWrong)

/- THE SECOND FORM. 'bulk': how many values and letters a reading holds, each counted each time it is reached (what is shared counts as often as it is met; a slice's spare places count too). A statement '..UptoSaid' is the law's where the arguments, and the package variables that the reading takes, are together of bulk at most 1048576: NARROWER than '..Said'. Prove '..Said' where nothing that the law and all that it calls make is longer than what came in: it says more and counts as full. Else prove '..UptoSaid'. A law counts once. -/
mutual
def uptoBulk {H : Type} : DataW H → Nat
  | .lit (.string bytes) => bytes.length + 1
  | .lit _ => 1
  | .nil => 1
  | .ptr d => uptoBulk d + 1
  | .slice elems spare => uptoBulkAll elems + uptoBulkAll spare + 1
  | .agg parts => uptoBulkAll parts + 1
  | .iface _ d => uptoBulk d + 1
  | .map entries => uptoBulkEntries entries + 1
  | .held _ => 1
def uptoBulkAll {H : Type} : List (DataW H) → Nat
  | [] => 0
  | d :: r => uptoBulk d + uptoBulkAll r
def uptoBulkEntries {H : Type} : List (Lit × DataW H) → Nat
  | [] => 0
  | x :: r => uptoBulkEntry x + uptoBulkEntries r
def uptoBulkEntry {H : Type} : Lit × DataW H → Nat
  | (.string bytes, d) => bytes.length + uptoBulk d + 1
  | (_, d) => uptoBulk d + 1
 end
def uptoSmall : (H : Type) → List (DataW H) → Bool := fun _ ds => decide (uptoBulkAll ds ≤ 1048576)
def OpenSpec.upto (s : _root_.Go.ChangeSpec) : _root_.Go.OpenSpec := { _root_.Go.OpenSpec.ofChange s with cond := some uptoSmall }

/-- 'laws.FnExactNewIncident', WHERE WHAT IT READS IS OF BULK AT MOST 1048576: true; the input reads as it did. -/
def fnExactNewIncidentUptoRow : OpenClaim := { program := "ytlmdckocjlogkaa", sum := "6312756c5ffb4d7de5c1c432b064ff240153d54773644dbf18d9e731472d4905", func := "loop.example/g00917/laws.FnExactNewIncident", spec := "fnExactNewIncident", unfollowed := true, recurses := true, apart := false, narrowed := true }
def FnExactNewIncidentUptoSaid : Prop := fnExactNewIncidentUptoRow.holds Try.pinned (OpenSpec.upto fnExactNewIncidentSpec)

/-- 'laws.FnExactIsLine', WHERE WHAT IT READS IS OF BULK AT MOST 1048576: true; the input reads as it did. -/
def fnExactIsLineUptoRow : OpenClaim := { program := "ytlmdckocjlogkaa", sum := "6312756c5ffb4d7de5c1c432b064ff240153d54773644dbf18d9e731472d4905", func := "loop.example/g00917/laws.FnExactIsLine", spec := "fnExactIsLine", unfollowed := true, recurses := true, apart := false, narrowed := true }
def FnExactIsLineUptoSaid : Prop := fnExactIsLineUptoRow.holds Try.pinned (OpenSpec.upto fnExactIsLineSpec)

/-- 'laws.FnExactSavedCells', WHERE WHAT IT READS IS OF BULK AT MOST 1048576: true; the input reads as it did. -/
def fnExactSavedCellsUptoRow : OpenClaim := { program := "ytlmdckocjlogkaa", sum := "6312756c5ffb4d7de5c1c432b064ff240153d54773644dbf18d9e731472d4905", func := "loop.example/g00917/laws.FnExactSavedCells", spec := "fnExactSavedCells", unfollowed := true, recurses := true, apart := false, narrowed := true }
def FnExactSavedCellsUptoSaid : Prop := fnExactSavedCellsUptoRow.holds Try.pinned (OpenSpec.upto fnExactSavedCellsSpec)

/-- 'laws.FnExactTicksToEnd', WHERE WHAT IT READS IS OF BULK AT MOST 1048576: true; the input reads as it did. -/
def fnExactTicksToEndUptoRow : OpenClaim := { program := "ytlmdckocjlogkaa", sum := "6312756c5ffb4d7de5c1c432b064ff240153d54773644dbf18d9e731472d4905", func := "loop.example/g00917/laws.FnExactTicksToEnd", spec := "fnExactTicksToEnd", unfollowed := true, recurses := true, apart := false, narrowed := true }
def FnExactTicksToEndUptoSaid : Prop := fnExactTicksToEndUptoRow.holds Try.pinned (OpenSpec.upto fnExactTicksToEndSpec)

/-- 'laws.FnExactTrimLine', WHERE WHAT IT READS IS OF BULK AT MOST 1048576: true; the input reads as it did. -/
def fnExactTrimLineUptoRow : OpenClaim := { program := "ytlmdckocjlogkaa", sum := "6312756c5ffb4d7de5c1c432b064ff240153d54773644dbf18d9e731472d4905", func := "loop.example/g00917/laws.FnExactTrimLine", spec := "fnExactTrimLine", unfollowed := true, recurses := true, apart := false, narrowed := true }
def FnExactTrimLineUptoSaid : Prop := fnExactTrimLineUptoRow.holds Try.pinned (OpenSpec.upto fnExactTrimLineSpec)

/-- 'laws.FnExactSafeCells', WHERE WHAT IT READS IS OF BULK AT MOST 1048576: true; the input reads as it did. -/
def fnExactSafeCellsUptoRow : OpenClaim := { program := "ytlmdckocjlogkaa", sum := "6312756c5ffb4d7de5c1c432b064ff240153d54773644dbf18d9e731472d4905", func := "loop.example/g00917/laws.FnExactSafeCells", spec := "fnExactSafeCells", unfollowed := true, recurses := true, apart := false, narrowed := true }
def FnExactSafeCellsUptoSaid : Prop := fnExactSafeCellsUptoRow.holds Try.pinned (OpenSpec.upto fnExactSafeCellsSpec)

/-- 'laws.FnExactNearestLine', WHERE WHAT IT READS IS OF BULK AT MOST 1048576: true; the input reads as it did. -/
def fnExactNearestLineUptoRow : OpenClaim := { program := "ytlmdckocjlogkaa", sum := "6312756c5ffb4d7de5c1c432b064ff240153d54773644dbf18d9e731472d4905", func := "loop.example/g00917/laws.FnExactNearestLine", spec := "fnExactNearestLine", unfollowed := true, recurses := true, apart := false, narrowed := true }
def FnExactNearestLineUptoSaid : Prop := fnExactNearestLineUptoRow.holds Try.pinned (OpenSpec.upto fnExactNearestLineSpec)

/-- 'laws.FnExactActIncident', WHERE WHAT IT READS IS OF BULK AT MOST 1048576: true; the input reads as it did. -/
def fnExactActIncidentUptoRow : OpenClaim := { program := "ytlmdckocjlogkaa", sum := "6312756c5ffb4d7de5c1c432b064ff240153d54773644dbf18d9e731472d4905", func := "loop.example/g00917/laws.FnExactActIncident", spec := "fnExactActIncident", unfollowed := true, recurses := true, apart := false, narrowed := true }
def FnExactActIncidentUptoSaid : Prop := fnExactActIncidentUptoRow.holds Try.pinned (OpenSpec.upto fnExactActIncidentSpec)

/-- 'laws.FnExactRunActions', WHERE WHAT IT READS IS OF BULK AT MOST 1048576: true; the input reads as it did. -/
def fnExactRunActionsUptoRow : OpenClaim := { program := "ytlmdckocjlogkaa", sum := "6312756c5ffb4d7de5c1c432b064ff240153d54773644dbf18d9e731472d4905", func := "loop.example/g00917/laws.FnExactRunActions", spec := "fnExactRunActions", unfollowed := true, recurses := true, apart := false, narrowed := true }
def FnExactRunActionsUptoSaid : Prop := fnExactRunActionsUptoRow.holds Try.pinned (OpenSpec.upto fnExactRunActionsSpec)

/-- 'laws.FnExactBestLine', WHERE WHAT IT READS IS OF BULK AT MOST 1048576: true; the input reads as it did. -/
def fnExactBestLineUptoRow : OpenClaim := { program := "ytlmdckocjlogkaa", sum := "6312756c5ffb4d7de5c1c432b064ff240153d54773644dbf18d9e731472d4905", func := "loop.example/g00917/laws.FnExactBestLine", spec := "fnExactBestLine", unfollowed := true, recurses := true, apart := false, narrowed := true }
def FnExactBestLineUptoSaid : Prop := fnExactBestLineUptoRow.holds Try.pinned (OpenSpec.upto fnExactBestLineSpec)

end Rows
end Go.Proofs.Ytlmdckocjlogkaa

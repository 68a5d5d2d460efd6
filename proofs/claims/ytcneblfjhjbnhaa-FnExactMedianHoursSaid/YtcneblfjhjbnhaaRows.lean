/-
  No cell of these rows narrows 'for every input' (looked for: loops, veiled, ifaces, maps, wideKeys, modest, calm, conditions, laid).
  DERIVED. THE GIVEN ROWS OF THIS SEAT. 10 by the template 'for every input the law returns true; each argument reads behind the call as it read before'; 0 by the template 'total and deterministic' (their statements: YtcneblfjhjbnhaaTotals.lean).
  GIVEN WITH THE SEED: the statements are not yours to turn. If you find one false, say at which input.
  Laid BY PROGRAM, IN A SANDBOX (cutbox-rows.mjs): the forced cells as the released guide's own fill.sh prints them over the translation 36a78938f6dfe3c1… (all of the seat's roots in one cut). By AI agents, Wed Nov 11 2026. No macro, syntax, notation, axiom, sorry.
-/
import Derived.Test.YtcneblfjhjbnhaaChecked
import GoSem.Claim
import GoSem.ClaimJoined
import GoSem.ClaimMapViews
import Derived.JoinedTies
import Derived.KernelRfl
namespace Go.Proofs.Ytcneblfjhjbnhaa
/- THE CELL 'sum', in the pinned program and in every row, IS THE sha256 OF THE DUMP (.gsa) THAT YtcneblfjhjbnhaaProg.lean LOADS. Nothing in Lean hashes anything: it is a label: what it is worth is what the hold of that sum in a sandbox is worth. -/
noncomputable def Try.pinned : Pinned := { name := "ytcneblfjhjbnhaa", sum := "36a78938f6dfe3c1b0f7fa4a0c0b92756a44b8a323548fb88c4d6dff0534f9cb", checked := Try.checked }
namespace Rows
def none {H : Type} : Left H := { results := [], args := [] }

/-- 'laws.FnSmoke': WHATEVER THE INPUT: true; the input reads as it did. -/
def fnSmokeSpec : ChangeSpec := { name := "fnSmoke", fn := fun _ => fun
  | [d] => { results := [.lit (.bool true)], args := [d] }
  | _ => none }
def fnSmokeRow : OpenClaim := { program := "ytcneblfjhjbnhaa", sum := "36a78938f6dfe3c1b0f7fa4a0c0b92756a44b8a323548fb88c4d6dff0534f9cb", func := "loop.example/g00917/laws.FnSmoke", spec := "fnSmoke", unfollowed := true, recurses := true, apart := false }
def FnSmokeSaid : Prop := fnSmokeRow.holds Try.pinned (OpenSpec.ofChange fnSmokeSpec)

/-- ITS FALSE NEIGHBOUR: 'it returns false'. Refute it at one input. -/
def fnSmokeWrong : ChangeSpec := { name := "fnSmoke", fn := fun _ => fun
  | [d] => { results := [.lit (.bool false)], args := [d] }
  | _ => none }
def FnSmokeWrongFalsely : Prop := fnSmokeRow.holds Try.pinned (OpenSpec.ofChange fnSmokeWrong)

/-- 'laws.FnPlumes': WHATEVER THE INPUT: true; the input reads as it did. -/
def fnPlumesSpec : ChangeSpec := { name := "fnPlumes", fn := fun _ => fun
  | [d] => { results := [.lit (.bool true)], args := [d] }
  | _ => none }
def fnPlumesRow : OpenClaim := { program := "ytcneblfjhjbnhaa", sum := "36a78938f6dfe3c1b0f7fa4a0c0b92756a44b8a323548fb88c4d6dff0534f9cb", func := "loop.example/g00917/laws.FnPlumes", spec := "fnPlumes", unfollowed := true, recurses := true, apart := false }
def FnPlumesSaid : Prop := fnPlumesRow.holds Try.pinned (OpenSpec.ofChange fnPlumesSpec)

/-- ITS FALSE NEIGHBOUR: 'it returns false'. Refute it at one input. -/
def fnPlumesWrong : ChangeSpec := { name := "fnPlumes", fn := fun _ => fun
  | [d] => { results := [.lit (.bool false)], args := [d] }
  | _ => none }
def FnPlumesWrongFalsely : Prop := fnPlumesRow.holds Try.pinned (OpenSpec.ofChange fnPlumesWrong)

/-- 'laws.FnFireCounts': WHATEVER THE INPUT: true; the input reads as it did. -/
def fnFireCountsSpec : ChangeSpec := { name := "fnFireCounts", fn := fun _ => fun
  | [d] => { results := [.lit (.bool true)], args := [d] }
  | _ => none }
def fnFireCountsRow : OpenClaim := { program := "ytcneblfjhjbnhaa", sum := "36a78938f6dfe3c1b0f7fa4a0c0b92756a44b8a323548fb88c4d6dff0534f9cb", func := "loop.example/g00917/laws.FnFireCounts", spec := "fnFireCounts", unfollowed := true, recurses := true, apart := false }
def FnFireCountsSaid : Prop := fnFireCountsRow.holds Try.pinned (OpenSpec.ofChange fnFireCountsSpec)

/-- ITS FALSE NEIGHBOUR: 'it returns false'. Refute it at one input. -/
def fnFireCountsWrong : ChangeSpec := { name := "fnFireCounts", fn := fun _ => fun
  | [d] => { results := [.lit (.bool false)], args := [d] }
  | _ => none }
def FnFireCountsWrongFalsely : Prop := fnFireCountsRow.holds Try.pinned (OpenSpec.ofChange fnFireCountsWrong)

/-- 'laws.FnExactMedianHours': WHATEVER THE INPUT: true; the input reads as it did. -/
def fnExactMedianHoursSpec : ChangeSpec := { name := "fnExactMedianHours", fn := fun _ => fun
  | [d] => { results := [.lit (.bool true)], args := [d] }
  | _ => none }
def fnExactMedianHoursRow : OpenClaim := { program := "ytcneblfjhjbnhaa", sum := "36a78938f6dfe3c1b0f7fa4a0c0b92756a44b8a323548fb88c4d6dff0534f9cb", func := "loop.example/g00917/laws.FnExactMedianHours", spec := "fnExactMedianHours", unfollowed := true, recurses := true, apart := false }
def FnExactMedianHoursSaid : Prop := fnExactMedianHoursRow.holds Try.pinned (OpenSpec.ofChange fnExactMedianHoursSpec)

/-- ITS FALSE NEIGHBOUR: 'it returns false'. Refute it at one input. -/
def fnExactMedianHoursWrong : ChangeSpec := { name := "fnExactMedianHours", fn := fun _ => fun
  | [d] => { results := [.lit (.bool false)], args := [d] }
  | _ => none }
def FnExactMedianHoursWrongFalsely : Prop := fnExactMedianHoursRow.holds Try.pinned (OpenSpec.ofChange fnExactMedianHoursWrong)

/-- 'laws.FnEnds': WHATEVER THE INPUT: true; the input reads as it did. -/
def fnEndsSpec : ChangeSpec := { name := "fnEnds", fn := fun _ => fun
  | [d] => { results := [.lit (.bool true)], args := [d] }
  | _ => none }
def fnEndsRow : OpenClaim := { program := "ytcneblfjhjbnhaa", sum := "36a78938f6dfe3c1b0f7fa4a0c0b92756a44b8a323548fb88c4d6dff0534f9cb", func := "loop.example/g00917/laws.FnEnds", spec := "fnEnds", unfollowed := true, recurses := true, apart := false }
def FnEndsSaid : Prop := fnEndsRow.holds Try.pinned (OpenSpec.ofChange fnEndsSpec)

/-- ITS FALSE NEIGHBOUR: 'it returns false'. Refute it at one input. -/
def fnEndsWrong : ChangeSpec := { name := "fnEnds", fn := fun _ => fun
  | [d] => { results := [.lit (.bool false)], args := [d] }
  | _ => none }
def FnEndsWrongFalsely : Prop := fnEndsRow.holds Try.pinned (OpenSpec.ofChange fnEndsWrong)

/-- 'laws.FnIncidents': WHATEVER THE INPUT: true; the input reads as it did. -/
def fnIncidentsSpec : ChangeSpec := { name := "fnIncidents", fn := fun _ => fun
  | [d] => { results := [.lit (.bool true)], args := [d] }
  | _ => none }
def fnIncidentsRow : OpenClaim := { program := "ytcneblfjhjbnhaa", sum := "36a78938f6dfe3c1b0f7fa4a0c0b92756a44b8a323548fb88c4d6dff0534f9cb", func := "loop.example/g00917/laws.FnIncidents", spec := "fnIncidents", unfollowed := true, recurses := true, apart := false }
def FnIncidentsSaid : Prop := fnIncidentsRow.holds Try.pinned (OpenSpec.ofChange fnIncidentsSpec)

/-- ITS FALSE NEIGHBOUR: 'it returns false'. Refute it at one input. -/
def fnIncidentsWrong : ChangeSpec := { name := "fnIncidents", fn := fun _ => fun
  | [d] => { results := [.lit (.bool false)], args := [d] }
  | _ => none }
def FnIncidentsWrongFalsely : Prop := fnIncidentsRow.holds Try.pinned (OpenSpec.ofChange fnIncidentsWrong)

/-- 'laws.FnNeighbors': WHATEVER THE INPUT: true; the input reads as it did. -/
def fnNeighborsSpec : ChangeSpec := { name := "fnNeighbors", fn := fun _ => fun
  | [d] => { results := [.lit (.bool true)], args := [d] }
  | _ => none }
def fnNeighborsRow : OpenClaim := { program := "ytcneblfjhjbnhaa", sum := "36a78938f6dfe3c1b0f7fa4a0c0b92756a44b8a323548fb88c4d6dff0534f9cb", func := "loop.example/g00917/laws.FnNeighbors", spec := "fnNeighbors", unfollowed := true, recurses := true, apart := false }
def FnNeighborsSaid : Prop := fnNeighborsRow.holds Try.pinned (OpenSpec.ofChange fnNeighborsSpec)

/-- ITS FALSE NEIGHBOUR: 'it returns false'. Refute it at one input. -/
def fnNeighborsWrong : ChangeSpec := { name := "fnNeighbors", fn := fun _ => fun
  | [d] => { results := [.lit (.bool false)], args := [d] }
  | _ => none }
def FnNeighborsWrongFalsely : Prop := fnNeighborsRow.holds Try.pinned (OpenSpec.ofChange fnNeighborsWrong)

/-- 'laws.FnLineCells': WHATEVER THE INPUT: true; the input reads as it did. -/
def fnLineCellsSpec : ChangeSpec := { name := "fnLineCells", fn := fun _ => fun
  | [d] => { results := [.lit (.bool true)], args := [d] }
  | _ => none }
def fnLineCellsRow : OpenClaim := { program := "ytcneblfjhjbnhaa", sum := "36a78938f6dfe3c1b0f7fa4a0c0b92756a44b8a323548fb88c4d6dff0534f9cb", func := "loop.example/g00917/laws.FnLineCells", spec := "fnLineCells", unfollowed := true, recurses := true, apart := false }
def FnLineCellsSaid : Prop := fnLineCellsRow.holds Try.pinned (OpenSpec.ofChange fnLineCellsSpec)

/-- ITS FALSE NEIGHBOUR: 'it returns false'. Refute it at one input. -/
def fnLineCellsWrong : ChangeSpec := { name := "fnLineCells", fn := fun _ => fun
  | [d] => { results := [.lit (.bool false)], args := [d] }
  | _ => none }
def FnLineCellsWrongFalsely : Prop := fnLineCellsRow.holds Try.pinned (OpenSpec.ofChange fnLineCellsWrong)

/-- 'laws.FnExactNewConsole': WHATEVER THE INPUT: true; the input reads as it did. -/
def fnExactNewConsoleSpec : ChangeSpec := { name := "fnExactNewConsole", fn := fun _ => fun
  | [d1, d2, d3] => { results := [.lit (.bool true)], args := [d1, d2, d3] }
  | _ => none }
def fnExactNewConsoleRow : OpenClaim := { program := "ytcneblfjhjbnhaa", sum := "36a78938f6dfe3c1b0f7fa4a0c0b92756a44b8a323548fb88c4d6dff0534f9cb", func := "loop.example/g00917/laws.FnExactNewConsole", spec := "fnExactNewConsole", unfollowed := true, recurses := true, apart := false }
def FnExactNewConsoleSaid : Prop := fnExactNewConsoleRow.holds Try.pinned (OpenSpec.ofChange fnExactNewConsoleSpec)

/-- ITS FALSE NEIGHBOUR: 'it returns false'. Refute it at one input. -/
def fnExactNewConsoleWrong : ChangeSpec := { name := "fnExactNewConsole", fn := fun _ => fun
  | [d1, d2, d3] => { results := [.lit (.bool false)], args := [d1, d2, d3] }
  | _ => none }
def FnExactNewConsoleWrongFalsely : Prop := fnExactNewConsoleRow.holds Try.pinned (OpenSpec.ofChange fnExactNewConsoleWrong)

/-- 'laws.FnExactOpenOrders': WHATEVER THE INPUT: true; the input reads as it did. -/
def fnExactOpenOrdersSpec : ChangeSpec := { name := "fnExactOpenOrders", fn := fun _ => fun
  | [d1, d2] => { results := [.lit (.bool true)], args := [d1, d2] }
  | _ => none }
def fnExactOpenOrdersRow : OpenClaim := { program := "ytcneblfjhjbnhaa", sum := "36a78938f6dfe3c1b0f7fa4a0c0b92756a44b8a323548fb88c4d6dff0534f9cb", func := "loop.example/g00917/laws.FnExactOpenOrders", spec := "fnExactOpenOrders", unfollowed := true, recurses := true, apart := false }
def FnExactOpenOrdersSaid : Prop := fnExactOpenOrdersRow.holds Try.pinned (OpenSpec.ofChange fnExactOpenOrdersSpec)

/-- ITS FALSE NEIGHBOUR: 'it returns false'. Refute it at one input. -/
def fnExactOpenOrdersWrong : ChangeSpec := { name := "fnExactOpenOrders", fn := fun _ => fun
  | [d1, d2] => { results := [.lit (.bool false)], args := [d1, d2] }
  | _ => none }
def FnExactOpenOrdersWrongFalsely : Prop := fnExactOpenOrdersRow.holds Try.pinned (OpenSpec.ofChange fnExactOpenOrdersWrong)

/- THE SECOND FORM. 'bulk': how many values and letters a reading holds, each counted each time it is reached (what is shared counts as often as it is met; a slice's spare places count too). A statement '..UptoSaid' is the law's where the arguments, and the package variables that the reading takes, are together of bulk at most 1048576: NARROWER than '..Said'. Prove '..Said' where nothing that the law and all that it calls make is longer than what came in: it says more and counts as full. Else prove '..UptoSaid'. A law counts once. -/
mutual
def uptoBulk {H : Type} : DataW H → Nat
  | .lit (.string bytes) => bytes.length + 1
  | .lit _ => 1
  | .nil => 1
  | .ptr d => uptoBulk d + 1
  | .slice elems spare => uptoBulkAll elems + uptoBulkAll spare + 1
  | .agg parts => uptoBulkAll parts + 1
  | .iface _ d => uptoBulk d + 1
  | .map entries => uptoBulkEntries entries + 1
  | .held _ => 1
def uptoBulkAll {H : Type} : List (DataW H) → Nat
  | [] => 0
  | d :: r => uptoBulk d + uptoBulkAll r
def uptoBulkEntries {H : Type} : List (Lit × DataW H) → Nat
  | [] => 0
  | x :: r => uptoBulkEntry x + uptoBulkEntries r
def uptoBulkEntry {H : Type} : Lit × DataW H → Nat
  | (.string bytes, d) => bytes.length + uptoBulk d + 1
  | (_, d) => uptoBulk d + 1
 end
def uptoSmall : (H : Type) → List (DataW H) → Bool := fun _ ds => decide (uptoBulkAll ds ≤ 1048576)
def OpenSpec.upto (s : _root_.Go.ChangeSpec) : _root_.Go.OpenSpec := { _root_.Go.OpenSpec.ofChange s with cond := some uptoSmall }

/-- 'laws.FnSmoke', WHERE WHAT IT READS IS OF BULK AT MOST 1048576: true; the input reads as it did. -/
def fnSmokeUptoRow : OpenClaim := { program := "ytcneblfjhjbnhaa", sum := "36a78938f6dfe3c1b0f7fa4a0c0b92756a44b8a323548fb88c4d6dff0534f9cb", func := "loop.example/g00917/laws.FnSmoke", spec := "fnSmoke", unfollowed := true, recurses := true, apart := false, narrowed := true }
def FnSmokeUptoSaid : Prop := fnSmokeUptoRow.holds Try.pinned (OpenSpec.upto fnSmokeSpec)

/-- 'laws.FnPlumes', WHERE WHAT IT READS IS OF BULK AT MOST 1048576: true; the input reads as it did. -/
def fnPlumesUptoRow : OpenClaim := { program := "ytcneblfjhjbnhaa", sum := "36a78938f6dfe3c1b0f7fa4a0c0b92756a44b8a323548fb88c4d6dff0534f9cb", func := "loop.example/g00917/laws.FnPlumes", spec := "fnPlumes", unfollowed := true, recurses := true, apart := false, narrowed := true }
def FnPlumesUptoSaid : Prop := fnPlumesUptoRow.holds Try.pinned (OpenSpec.upto fnPlumesSpec)

/-- 'laws.FnFireCounts', WHERE WHAT IT READS IS OF BULK AT MOST 1048576: true; the input reads as it did. -/
def fnFireCountsUptoRow : OpenClaim := { program := "ytcneblfjhjbnhaa", sum := "36a78938f6dfe3c1b0f7fa4a0c0b92756a44b8a323548fb88c4d6dff0534f9cb", func := "loop.example/g00917/laws.FnFireCounts", spec := "fnFireCounts", unfollowed := true, recurses := true, apart := false, narrowed := true }
def FnFireCountsUptoSaid : Prop := fnFireCountsUptoRow.holds Try.pinned (OpenSpec.upto fnFireCountsSpec)

/-- 'laws.FnExactMedianHours', WHERE WHAT IT READS IS OF BULK AT MOST 1048576: true; the input reads as it did. -/
def fnExactMedianHoursUptoRow : OpenClaim := { program := "ytcneblfjhjbnhaa", sum := "36a78938f6dfe3c1b0f7fa4a0c0b92756a44b8a323548fb88c4d6dff0534f9cb", func := "loop.example/g00917/laws.FnExactMedianHours", spec := "fnExactMedianHours", unfollowed := true, recurses := true, apart := false, narrowed := true }
def FnExactMedianHoursUptoSaid : Prop := fnExactMedianHoursUptoRow.holds Try.pinned (OpenSpec.upto fnExactMedianHoursSpec)

/-- 'laws.FnEnds', WHERE WHAT IT READS IS OF BULK AT MOST 1048576: true; the input reads as it did. -/
def fnEndsUptoRow : OpenClaim := { program := "ytcneblfjhjbnhaa", sum := "36a78938f6dfe3c1b0f7fa4a0c0b92756a44b8a323548fb88c4d6dff0534f9cb", func := "loop.example/g00917/laws.FnEnds", spec := "fnEnds", unfollowed := true, recurses := true, apart := false, narrowed := true }
def FnEndsUptoSaid : Prop := fnEndsUptoRow.holds Try.pinned (OpenSpec.upto fnEndsSpec)

/-- 'laws.FnIncidents', WHERE WHAT IT READS IS OF BULK AT MOST 1048576: true; the input reads as it did. -/
def fnIncidentsUptoRow : OpenClaim := { program := "ytcneblfjhjbnhaa", sum := "36a78938f6dfe3c1b0f7fa4a0c0b92756a44b8a323548fb88c4d6dff0534f9cb", func := "loop.example/g00917/laws.FnIncidents", spec := "fnIncidents", unfollowed := true, recurses := true, apart := false, narrowed := true }
def FnIncidentsUptoSaid : Prop := fnIncidentsUptoRow.holds Try.pinned (OpenSpec.upto fnIncidentsSpec)

/-- 'laws.FnNeighbors', WHERE WHAT IT READS IS OF BULK AT MOST 1048576: true; the input reads as it did. -/
def fnNeighborsUptoRow : OpenClaim := { program := "ytcneblfjhjbnhaa", sum := "36a78938f6dfe3c1b0f7fa4a0c0b92756a44b8a323548fb88c4d6dff0534f9cb", func := "loop.example/g00917/laws.FnNeighbors", spec := "fnNeighbors", unfollowed := true, recurses := true, apart := false, narrowed := true }
def FnNeighborsUptoSaid : Prop := fnNeighborsUptoRow.holds Try.pinned (OpenSpec.upto fnNeighborsSpec)

/-- 'laws.FnLineCells', WHERE WHAT IT READS IS OF BULK AT MOST 1048576: true; the input reads as it did. -/
def fnLineCellsUptoRow : OpenClaim := { program := "ytcneblfjhjbnhaa", sum := "36a78938f6dfe3c1b0f7fa4a0c0b92756a44b8a323548fb88c4d6dff0534f9cb", func := "loop.example/g00917/laws.FnLineCells", spec := "fnLineCells", unfollowed := true, recurses := true, apart := false, narrowed := true }
def FnLineCellsUptoSaid : Prop := fnLineCellsUptoRow.holds Try.pinned (OpenSpec.upto fnLineCellsSpec)

/-- 'laws.FnExactNewConsole', WHERE WHAT IT READS IS OF BULK AT MOST 1048576: true; the input reads as it did. -/
def fnExactNewConsoleUptoRow : OpenClaim := { program := "ytcneblfjhjbnhaa", sum := "36a78938f6dfe3c1b0f7fa4a0c0b92756a44b8a323548fb88c4d6dff0534f9cb", func := "loop.example/g00917/laws.FnExactNewConsole", spec := "fnExactNewConsole", unfollowed := true, recurses := true, apart := false, narrowed := true }
def FnExactNewConsoleUptoSaid : Prop := fnExactNewConsoleUptoRow.holds Try.pinned (OpenSpec.upto fnExactNewConsoleSpec)

/-- 'laws.FnExactOpenOrders', WHERE WHAT IT READS IS OF BULK AT MOST 1048576: true; the input reads as it did. -/
def fnExactOpenOrdersUptoRow : OpenClaim := { program := "ytcneblfjhjbnhaa", sum := "36a78938f6dfe3c1b0f7fa4a0c0b92756a44b8a323548fb88c4d6dff0534f9cb", func := "loop.example/g00917/laws.FnExactOpenOrders", spec := "fnExactOpenOrders", unfollowed := true, recurses := true, apart := false, narrowed := true }
def FnExactOpenOrdersUptoSaid : Prop := fnExactOpenOrdersUptoRow.holds Try.pinned (OpenSpec.upto fnExactOpenOrdersSpec)

end Rows
end Go.Proofs.Ytcneblfjhjbnhaa

/-
  No cell of these rows narrows 'for every input' (looked for: loops, veiled, ifaces, maps, wideKeys, modest, calm, conditions, laid).
  DERIVED. THE GIVEN ROWS OF THIS SEAT. 12 by the template 'for every input the law returns true; each argument reads behind the call as it read before'; 0 by the template 'total and deterministic' (their statements: YtaaegejihgpfeaaTotals.lean).
  GIVEN WITH THE SEED: the statements are not yours to turn. If you find one false, say at which input.
  Laid BY PROGRAM, IN A SANDBOX (cutbox-rows.mjs): the forced cells as the released guide's own fill.sh prints them over the translation 1e65687973a2ce56… (all of the seat's roots in one cut). By AI agents, Wed Nov 11 2026. No macro, syntax, notation, axiom, sorry.
-/
import Derived.Test.YtaaegejihgpfeaaChecked
import GoSem.Claim
import GoSem.ClaimJoined
import GoSem.ClaimMapViews
import Derived.JoinedTies
import Derived.KernelRfl
namespace Go.Proofs.Ytaaegejihgpfeaa
/- THE CELL 'sum', in the pinned program and in every row, IS THE sha256 OF THE DUMP (.gsa) THAT YtaaegejihgpfeaaProg.lean LOADS. Nothing in Lean hashes anything: it is a label: what it is worth is what the hold of that sum in a sandbox is worth. -/
noncomputable def Try.pinned : Pinned := { name := "ytaaegejihgpfeaa", sum := "1e65687973a2ce566b4daf5c6648d3203c19459f1d12ccbd32e891f35b859606", checked := Try.checked }
namespace Rows
def none {H : Type} : Left H := { results := [], args := [] }

/-- 'laws.FnExactMirrorTerrain': WHATEVER THE INPUT: true; the input reads as it did. -/
def fnExactMirrorTerrainSpec : ChangeSpec := { name := "fnExactMirrorTerrain", fn := fun _ => fun
  | [d] => { results := [.lit (.bool true)], args := [d] }
  | _ => none }
def fnExactMirrorTerrainRow : OpenClaim := { program := "ytaaegejihgpfeaa", sum := "1e65687973a2ce566b4daf5c6648d3203c19459f1d12ccbd32e891f35b859606", func := "loop.example/g00917/laws.FnExactMirrorTerrain", spec := "fnExactMirrorTerrain", unfollowed := true, recurses := true, apart := false }
def FnExactMirrorTerrainSaid : Prop := fnExactMirrorTerrainRow.holds Try.pinned (OpenSpec.ofChange fnExactMirrorTerrainSpec)

/-- ITS FALSE NEIGHBOUR: 'it returns false'. Refute it at one input. -/
def fnExactMirrorTerrainWrong : ChangeSpec := { name := "fnExactMirrorTerrain", fn := fun _ => fun
  | [d] => { results := [.lit (.bool false)], args := [d] }
  | _ => none }
def FnExactMirrorTerrainWrongFalsely : Prop := fnExactMirrorTerrainRow.holds Try.pinned (OpenSpec.ofChange fnExactMirrorTerrainWrong)

/-- 'laws.FnExactSettleSmoke': WHATEVER THE INPUT: true; the input reads as it did. -/
def fnExactSettleSmokeSpec : ChangeSpec := { name := "fnExactSettleSmoke", fn := fun _ => fun
  | [d1, d2] => { results := [.lit (.bool true)], args := [d1, d2] }
  | _ => none }
def fnExactSettleSmokeRow : OpenClaim := { program := "ytaaegejihgpfeaa", sum := "1e65687973a2ce566b4daf5c6648d3203c19459f1d12ccbd32e891f35b859606", func := "loop.example/g00917/laws.FnExactSettleSmoke", spec := "fnExactSettleSmoke", unfollowed := true, recurses := true, apart := false }
def FnExactSettleSmokeSaid : Prop := fnExactSettleSmokeRow.holds Try.pinned (OpenSpec.ofChange fnExactSettleSmokeSpec)

/-- ITS FALSE NEIGHBOUR: 'it returns false'. Refute it at one input. -/
def fnExactSettleSmokeWrong : ChangeSpec := { name := "fnExactSettleSmoke", fn := fun _ => fun
  | [d1, d2] => { results := [.lit (.bool false)], args := [d1, d2] }
  | _ => none }
def FnExactSettleSmokeWrongFalsely : Prop := fnExactSettleSmokeRow.holds Try.pinned (OpenSpec.ofChange fnExactSettleSmokeWrong)

/-- 'laws.FnExactAddSmoke': WHATEVER THE INPUT: true; the input reads as it did. -/
def fnExactAddSmokeSpec : ChangeSpec := { name := "fnExactAddSmoke", fn := fun _ => fun
  | [d1, d2, d3] => { results := [.lit (.bool true)], args := [d1, d2, d3] }
  | _ => none }
def fnExactAddSmokeRow : OpenClaim := { program := "ytaaegejihgpfeaa", sum := "1e65687973a2ce566b4daf5c6648d3203c19459f1d12ccbd32e891f35b859606", func := "loop.example/g00917/laws.FnExactAddSmoke", spec := "fnExactAddSmoke", unfollowed := true, recurses := true, apart := false }
def FnExactAddSmokeSaid : Prop := fnExactAddSmokeRow.holds Try.pinned (OpenSpec.ofChange fnExactAddSmokeSpec)

/-- ITS FALSE NEIGHBOUR: 'it returns false'. Refute it at one input. -/
def fnExactAddSmokeWrong : ChangeSpec := { name := "fnExactAddSmoke", fn := fun _ => fun
  | [d1, d2, d3] => { results := [.lit (.bool false)], args := [d1, d2, d3] }
  | _ => none }
def FnExactAddSmokeWrongFalsely : Prop := fnExactAddSmokeRow.holds Try.pinned (OpenSpec.ofChange fnExactAddSmokeWrong)

/-- 'laws.FnExactClearCells': WHATEVER THE INPUT: true; the input reads as it did. -/
def fnExactClearCellsSpec : ChangeSpec := { name := "fnExactClearCells", fn := fun _ => fun
  | [d1, d2] => { results := [.lit (.bool true)], args := [d1, d2] }
  | _ => none }
def fnExactClearCellsRow : OpenClaim := { program := "ytaaegejihgpfeaa", sum := "1e65687973a2ce566b4daf5c6648d3203c19459f1d12ccbd32e891f35b859606", func := "loop.example/g00917/laws.FnExactClearCells", spec := "fnExactClearCells", unfollowed := true, recurses := true, apart := false }
def FnExactClearCellsSaid : Prop := fnExactClearCellsRow.holds Try.pinned (OpenSpec.ofChange fnExactClearCellsSpec)

/-- ITS FALSE NEIGHBOUR: 'it returns false'. Refute it at one input. -/
def fnExactClearCellsWrong : ChangeSpec := { name := "fnExactClearCells", fn := fun _ => fun
  | [d1, d2] => { results := [.lit (.bool false)], args := [d1, d2] }
  | _ => none }
def FnExactClearCellsWrongFalsely : Prop := fnExactClearCellsRow.holds Try.pinned (OpenSpec.ofChange fnExactClearCellsWrong)

/-- 'laws.FnExactBusiestWeek': WHATEVER THE INPUT: true; the input reads as it did. -/
def fnExactBusiestWeekSpec : ChangeSpec := { name := "fnExactBusiestWeek", fn := fun _ => fun
  | [d] => { results := [.lit (.bool true)], args := [d] }
  | _ => none }
def fnExactBusiestWeekRow : OpenClaim := { program := "ytaaegejihgpfeaa", sum := "1e65687973a2ce566b4daf5c6648d3203c19459f1d12ccbd32e891f35b859606", func := "loop.example/g00917/laws.FnExactBusiestWeek", spec := "fnExactBusiestWeek", unfollowed := true, recurses := true, apart := false }
def FnExactBusiestWeekSaid : Prop := fnExactBusiestWeekRow.holds Try.pinned (OpenSpec.ofChange fnExactBusiestWeekSpec)

/-- ITS FALSE NEIGHBOUR: 'it returns false'. Refute it at one input. -/
def fnExactBusiestWeekWrong : ChangeSpec := { name := "fnExactBusiestWeek", fn := fun _ => fun
  | [d] => { results := [.lit (.bool false)], args := [d] }
  | _ => none }
def FnExactBusiestWeekWrongFalsely : Prop := fnExactBusiestWeekRow.holds Try.pinned (OpenSpec.ofChange fnExactBusiestWeekWrong)

/-- 'laws.FnExactCauseShare': WHATEVER THE INPUT: true; the input reads as it did. -/
def fnExactCauseShareSpec : ChangeSpec := { name := "fnExactCauseShare", fn := fun _ => fun
  | [d1, d2] => { results := [.lit (.bool true)], args := [d1, d2] }
  | _ => none }
def fnExactCauseShareRow : OpenClaim := { program := "ytaaegejihgpfeaa", sum := "1e65687973a2ce566b4daf5c6648d3203c19459f1d12ccbd32e891f35b859606", func := "loop.example/g00917/laws.FnExactCauseShare", spec := "fnExactCauseShare", unfollowed := true, recurses := true, apart := false }
def FnExactCauseShareSaid : Prop := fnExactCauseShareRow.holds Try.pinned (OpenSpec.ofChange fnExactCauseShareSpec)

/-- ITS FALSE NEIGHBOUR: 'it returns false'. Refute it at one input. -/
def fnExactCauseShareWrong : ChangeSpec := { name := "fnExactCauseShare", fn := fun _ => fun
  | [d1, d2] => { results := [.lit (.bool false)], args := [d1, d2] }
  | _ => none }
def FnExactCauseShareWrongFalsely : Prop := fnExactCauseShareRow.holds Try.pinned (OpenSpec.ofChange fnExactCauseShareWrong)

/-- 'laws.FnExactSizeClasses': WHATEVER THE INPUT: true; the input reads as it did. -/
def fnExactSizeClassesSpec : ChangeSpec := { name := "fnExactSizeClasses", fn := fun _ => fun
  | [d] => { results := [.lit (.bool true)], args := [d] }
  | _ => none }
def fnExactSizeClassesRow : OpenClaim := { program := "ytaaegejihgpfeaa", sum := "1e65687973a2ce566b4daf5c6648d3203c19459f1d12ccbd32e891f35b859606", func := "loop.example/g00917/laws.FnExactSizeClasses", spec := "fnExactSizeClasses", unfollowed := true, recurses := true, apart := false }
def FnExactSizeClassesSaid : Prop := fnExactSizeClassesRow.holds Try.pinned (OpenSpec.ofChange fnExactSizeClassesSpec)

/-- ITS FALSE NEIGHBOUR: 'it returns false'. Refute it at one input. -/
def fnExactSizeClassesWrong : ChangeSpec := { name := "fnExactSizeClasses", fn := fun _ => fun
  | [d] => { results := [.lit (.bool false)], args := [d] }
  | _ => none }
def FnExactSizeClassesWrongFalsely : Prop := fnExactSizeClassesRow.holds Try.pinned (OpenSpec.ofChange fnExactSizeClassesWrong)

/-- 'laws.FnExactBlowSmoke': WHATEVER THE INPUT: true; the input reads as it did. -/
def fnExactBlowSmokeSpec : ChangeSpec := { name := "fnExactBlowSmoke", fn := fun _ => fun
  | [d1, d2] => { results := [.lit (.bool true)], args := [d1, d2] }
  | _ => none }
def fnExactBlowSmokeRow : OpenClaim := { program := "ytaaegejihgpfeaa", sum := "1e65687973a2ce566b4daf5c6648d3203c19459f1d12ccbd32e891f35b859606", func := "loop.example/g00917/laws.FnExactBlowSmoke", spec := "fnExactBlowSmoke", unfollowed := true, recurses := true, apart := false }
def FnExactBlowSmokeSaid : Prop := fnExactBlowSmokeRow.holds Try.pinned (OpenSpec.ofChange fnExactBlowSmokeSpec)

/-- ITS FALSE NEIGHBOUR: 'it returns false'. Refute it at one input. -/
def fnExactBlowSmokeWrong : ChangeSpec := { name := "fnExactBlowSmoke", fn := fun _ => fun
  | [d1, d2] => { results := [.lit (.bool false)], args := [d1, d2] }
  | _ => none }
def FnExactBlowSmokeWrongFalsely : Prop := fnExactBlowSmokeRow.holds Try.pinned (OpenSpec.ofChange fnExactBlowSmokeWrong)

/-- 'laws.FnExactRunWinds': WHATEVER THE INPUT: true; the input reads as it did. -/
def fnExactRunWindsSpec : ChangeSpec := { name := "fnExactRunWinds", fn := fun _ => fun
  | [d1, d2] => { results := [.lit (.bool true)], args := [d1, d2] }
  | _ => none }
def fnExactRunWindsRow : OpenClaim := { program := "ytaaegejihgpfeaa", sum := "1e65687973a2ce566b4daf5c6648d3203c19459f1d12ccbd32e891f35b859606", func := "loop.example/g00917/laws.FnExactRunWinds", spec := "fnExactRunWinds", unfollowed := true, recurses := true, apart := false }
def FnExactRunWindsSaid : Prop := fnExactRunWindsRow.holds Try.pinned (OpenSpec.ofChange fnExactRunWindsSpec)

/-- ITS FALSE NEIGHBOUR: 'it returns false'. Refute it at one input. -/
def fnExactRunWindsWrong : ChangeSpec := { name := "fnExactRunWinds", fn := fun _ => fun
  | [d1, d2] => { results := [.lit (.bool false)], args := [d1, d2] }
  | _ => none }
def FnExactRunWindsWrongFalsely : Prop := fnExactRunWindsRow.holds Try.pinned (OpenSpec.ofChange fnExactRunWindsWrong)

/-- 'laws.FnSmoke': WHATEVER THE INPUT: true; the input reads as it did. -/
def fnSmokeSpec : ChangeSpec := { name := "fnSmoke", fn := fun _ => fun
  | [d] => { results := [.lit (.bool true)], args := [d] }
  | _ => none }
def fnSmokeRow : OpenClaim := { program := "ytaaegejihgpfeaa", sum := "1e65687973a2ce566b4daf5c6648d3203c19459f1d12ccbd32e891f35b859606", func := "loop.example/g00917/laws.FnSmoke", spec := "fnSmoke", unfollowed := true, recurses := true, apart := false }
def FnSmokeSaid : Prop := fnSmokeRow.holds Try.pinned (OpenSpec.ofChange fnSmokeSpec)

/-- ITS FALSE NEIGHBOUR: 'it returns false'. Refute it at one input. -/
def fnSmokeWrong : ChangeSpec := { name := "fnSmoke", fn := fun _ => fun
  | [d] => { results := [.lit (.bool false)], args := [d] }
  | _ => none }
def FnSmokeWrongFalsely : Prop := fnSmokeRow.holds Try.pinned (OpenSpec.ofChange fnSmokeWrong)

/-- 'laws.FnPlumes': WHATEVER THE INPUT: true; the input reads as it did. -/
def fnPlumesSpec : ChangeSpec := { name := "fnPlumes", fn := fun _ => fun
  | [d] => { results := [.lit (.bool true)], args := [d] }
  | _ => none }
def fnPlumesRow : OpenClaim := { program := "ytaaegejihgpfeaa", sum := "1e65687973a2ce566b4daf5c6648d3203c19459f1d12ccbd32e891f35b859606", func := "loop.example/g00917/laws.FnPlumes", spec := "fnPlumes", unfollowed := true, recurses := true, apart := false }
def FnPlumesSaid : Prop := fnPlumesRow.holds Try.pinned (OpenSpec.ofChange fnPlumesSpec)

/-- ITS FALSE NEIGHBOUR: 'it returns false'. Refute it at one input. -/
def fnPlumesWrong : ChangeSpec := { name := "fnPlumes", fn := fun _ => fun
  | [d] => { results := [.lit (.bool false)], args := [d] }
  | _ => none }
def FnPlumesWrongFalsely : Prop := fnPlumesRow.holds Try.pinned (OpenSpec.ofChange fnPlumesWrong)

/-- 'laws.FnExactFewestForShare': WHATEVER THE INPUT: true; the input reads as it did. -/
def fnExactFewestForShareSpec : ChangeSpec := { name := "fnExactFewestForShare", fn := fun _ => fun
  | [d1, d2] => { results := [.lit (.bool true)], args := [d1, d2] }
  | _ => none }
def fnExactFewestForShareRow : OpenClaim := { program := "ytaaegejihgpfeaa", sum := "1e65687973a2ce566b4daf5c6648d3203c19459f1d12ccbd32e891f35b859606", func := "loop.example/g00917/laws.FnExactFewestForShare", spec := "fnExactFewestForShare", unfollowed := true, recurses := true, apart := false }
def FnExactFewestForShareSaid : Prop := fnExactFewestForShareRow.holds Try.pinned (OpenSpec.ofChange fnExactFewestForShareSpec)

/-- ITS FALSE NEIGHBOUR: 'it returns false'. Refute it at one input. -/
def fnExactFewestForShareWrong : ChangeSpec := { name := "fnExactFewestForShare", fn := fun _ => fun
  | [d1, d2] => { results := [.lit (.bool false)], args := [d1, d2] }
  | _ => none }
def FnExactFewestForShareWrongFalsely : Prop := fnExactFewestForShareRow.holds Try.pinned (OpenSpec.ofChange fnExactFewestForShareWrong)

/- THE SECOND FORM. 'bulk': how many values and letters a reading holds, each counted each time it is reached (what is shared counts as often as it is met; a slice's spare places count too). A statement '..UptoSaid' is the law's where the arguments, and the package variables that the reading takes, are together of bulk at most 1048576: NARROWER than '..Said'. Prove '..Said' where nothing that the law and all that it calls make is longer than what came in: it says more and counts as full. Else prove '..UptoSaid'. A law counts once. -/
mutual
def uptoBulk {H : Type} : DataW H → Nat
  | .lit (.string bytes) => bytes.length + 1
  | .lit _ => 1
  | .nil => 1
  | .ptr d => uptoBulk d + 1
  | .slice elems spare => uptoBulkAll elems + uptoBulkAll spare + 1
  | .agg parts => uptoBulkAll parts + 1
  | .iface _ d => uptoBulk d + 1
  | .map entries => uptoBulkEntries entries + 1
  | .held _ => 1
def uptoBulkAll {H : Type} : List (DataW H) → Nat
  | [] => 0
  | d :: r => uptoBulk d + uptoBulkAll r
def uptoBulkEntries {H : Type} : List (Lit × DataW H) → Nat
  | [] => 0
  | x :: r => uptoBulkEntry x + uptoBulkEntries r
def uptoBulkEntry {H : Type} : Lit × DataW H → Nat
  | (.string bytes, d) => bytes.length + uptoBulk d + 1
  | (_, d) => uptoBulk d + 1
 end
def uptoSmall : (H : Type) → List (DataW H) → Bool := fun _ ds => decide (uptoBulkAll ds ≤ 1048576)
def OpenSpec.upto (s : _root_.Go.ChangeSpec) : _root_.Go.OpenSpec := { _root_.Go.OpenSpec.ofChange s with cond := some uptoSmall }

/-- 'laws.FnExactMirrorTerrain', WHERE WHAT IT READS IS OF BULK AT MOST 1048576: true; the input reads as it did. -/
def fnExactMirrorTerrainUptoRow : OpenClaim := { program := "ytaaegejihgpfeaa", sum := "1e65687973a2ce566b4daf5c6648d3203c19459f1d12ccbd32e891f35b859606", func := "loop.example/g00917/laws.FnExactMirrorTerrain", spec := "fnExactMirrorTerrain", unfollowed := true, recurses := true, apart := false, narrowed := true }
def FnExactMirrorTerrainUptoSaid : Prop := fnExactMirrorTerrainUptoRow.holds Try.pinned (OpenSpec.upto fnExactMirrorTerrainSpec)

/-- 'laws.FnExactSettleSmoke', WHERE WHAT IT READS IS OF BULK AT MOST 1048576: true; the input reads as it did. -/
def fnExactSettleSmokeUptoRow : OpenClaim := { program := "ytaaegejihgpfeaa", sum := "1e65687973a2ce566b4daf5c6648d3203c19459f1d12ccbd32e891f35b859606", func := "loop.example/g00917/laws.FnExactSettleSmoke", spec := "fnExactSettleSmoke", unfollowed := true, recurses := true, apart := false, narrowed := true }
def FnExactSettleSmokeUptoSaid : Prop := fnExactSettleSmokeUptoRow.holds Try.pinned (OpenSpec.upto fnExactSettleSmokeSpec)

/-- 'laws.FnExactAddSmoke', WHERE WHAT IT READS IS OF BULK AT MOST 1048576: true; the input reads as it did. -/
def fnExactAddSmokeUptoRow : OpenClaim := { program := "ytaaegejihgpfeaa", sum := "1e65687973a2ce566b4daf5c6648d3203c19459f1d12ccbd32e891f35b859606", func := "loop.example/g00917/laws.FnExactAddSmoke", spec := "fnExactAddSmoke", unfollowed := true, recurses := true, apart := false, narrowed := true }
def FnExactAddSmokeUptoSaid : Prop := fnExactAddSmokeUptoRow.holds Try.pinned (OpenSpec.upto fnExactAddSmokeSpec)

/-- 'laws.FnExactClearCells', WHERE WHAT IT READS IS OF BULK AT MOST 1048576: true; the input reads as it did. -/
def fnExactClearCellsUptoRow : OpenClaim := { program := "ytaaegejihgpfeaa", sum := "1e65687973a2ce566b4daf5c6648d3203c19459f1d12ccbd32e891f35b859606", func := "loop.example/g00917/laws.FnExactClearCells", spec := "fnExactClearCells", unfollowed := true, recurses := true, apart := false, narrowed := true }
def FnExactClearCellsUptoSaid : Prop := fnExactClearCellsUptoRow.holds Try.pinned (OpenSpec.upto fnExactClearCellsSpec)

/-- 'laws.FnExactBusiestWeek', WHERE WHAT IT READS IS OF BULK AT MOST 1048576: true; the input reads as it did. -/
def fnExactBusiestWeekUptoRow : OpenClaim := { program := "ytaaegejihgpfeaa", sum := "1e65687973a2ce566b4daf5c6648d3203c19459f1d12ccbd32e891f35b859606", func := "loop.example/g00917/laws.FnExactBusiestWeek", spec := "fnExactBusiestWeek", unfollowed := true, recurses := true, apart := false, narrowed := true }
def FnExactBusiestWeekUptoSaid : Prop := fnExactBusiestWeekUptoRow.holds Try.pinned (OpenSpec.upto fnExactBusiestWeekSpec)

/-- 'laws.FnExactCauseShare', WHERE WHAT IT READS IS OF BULK AT MOST 1048576: true; the input reads as it did. -/
def fnExactCauseShareUptoRow : OpenClaim := { program := "ytaaegejihgpfeaa", sum := "1e65687973a2ce566b4daf5c6648d3203c19459f1d12ccbd32e891f35b859606", func := "loop.example/g00917/laws.FnExactCauseShare", spec := "fnExactCauseShare", unfollowed := true, recurses := true, apart := false, narrowed := true }
def FnExactCauseShareUptoSaid : Prop := fnExactCauseShareUptoRow.holds Try.pinned (OpenSpec.upto fnExactCauseShareSpec)

/-- 'laws.FnExactSizeClasses', WHERE WHAT IT READS IS OF BULK AT MOST 1048576: true; the input reads as it did. -/
def fnExactSizeClassesUptoRow : OpenClaim := { program := "ytaaegejihgpfeaa", sum := "1e65687973a2ce566b4daf5c6648d3203c19459f1d12ccbd32e891f35b859606", func := "loop.example/g00917/laws.FnExactSizeClasses", spec := "fnExactSizeClasses", unfollowed := true, recurses := true, apart := false, narrowed := true }
def FnExactSizeClassesUptoSaid : Prop := fnExactSizeClassesUptoRow.holds Try.pinned (OpenSpec.upto fnExactSizeClassesSpec)

/-- 'laws.FnExactBlowSmoke', WHERE WHAT IT READS IS OF BULK AT MOST 1048576: true; the input reads as it did. -/
def fnExactBlowSmokeUptoRow : OpenClaim := { program := "ytaaegejihgpfeaa", sum := "1e65687973a2ce566b4daf5c6648d3203c19459f1d12ccbd32e891f35b859606", func := "loop.example/g00917/laws.FnExactBlowSmoke", spec := "fnExactBlowSmoke", unfollowed := true, recurses := true, apart := false, narrowed := true }
def FnExactBlowSmokeUptoSaid : Prop := fnExactBlowSmokeUptoRow.holds Try.pinned (OpenSpec.upto fnExactBlowSmokeSpec)

/-- 'laws.FnExactRunWinds', WHERE WHAT IT READS IS OF BULK AT MOST 1048576: true; the input reads as it did. -/
def fnExactRunWindsUptoRow : OpenClaim := { program := "ytaaegejihgpfeaa", sum := "1e65687973a2ce566b4daf5c6648d3203c19459f1d12ccbd32e891f35b859606", func := "loop.example/g00917/laws.FnExactRunWinds", spec := "fnExactRunWinds", unfollowed := true, recurses := true, apart := false, narrowed := true }
def FnExactRunWindsUptoSaid : Prop := fnExactRunWindsUptoRow.holds Try.pinned (OpenSpec.upto fnExactRunWindsSpec)

/-- 'laws.FnSmoke', WHERE WHAT IT READS IS OF BULK AT MOST 1048576: true; the input reads as it did. -/
def fnSmokeUptoRow : OpenClaim := { program := "ytaaegejihgpfeaa", sum := "1e65687973a2ce566b4daf5c6648d3203c19459f1d12ccbd32e891f35b859606", func := "loop.example/g00917/laws.FnSmoke", spec := "fnSmoke", unfollowed := true, recurses := true, apart := false, narrowed := true }
def FnSmokeUptoSaid : Prop := fnSmokeUptoRow.holds Try.pinned (OpenSpec.upto fnSmokeSpec)

/-- 'laws.FnPlumes', WHERE WHAT IT READS IS OF BULK AT MOST 1048576: true; the input reads as it did. -/
def fnPlumesUptoRow : OpenClaim := { program := "ytaaegejihgpfeaa", sum := "1e65687973a2ce566b4daf5c6648d3203c19459f1d12ccbd32e891f35b859606", func := "loop.example/g00917/laws.FnPlumes", spec := "fnPlumes", unfollowed := true, recurses := true, apart := false, narrowed := true }
def FnPlumesUptoSaid : Prop := fnPlumesUptoRow.holds Try.pinned (OpenSpec.upto fnPlumesSpec)

/-- 'laws.FnExactFewestForShare', WHERE WHAT IT READS IS OF BULK AT MOST 1048576: true; the input reads as it did. -/
def fnExactFewestForShareUptoRow : OpenClaim := { program := "ytaaegejihgpfeaa", sum := "1e65687973a2ce566b4daf5c6648d3203c19459f1d12ccbd32e891f35b859606", func := "loop.example/g00917/laws.FnExactFewestForShare", spec := "fnExactFewestForShare", unfollowed := true, recurses := true, apart := false, narrowed := true }
def FnExactFewestForShareUptoSaid : Prop := fnExactFewestForShareUptoRow.holds Try.pinned (OpenSpec.upto fnExactFewestForShareSpec)

end Rows
end Go.Proofs.Ytaaegejihgpfeaa

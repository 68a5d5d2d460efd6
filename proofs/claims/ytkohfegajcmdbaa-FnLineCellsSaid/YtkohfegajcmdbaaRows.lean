/-
  No cell of these rows narrows 'for every input' (looked for: loops, veiled, ifaces, maps, wideKeys, modest, calm, conditions, laid).
  DERIVED. THE GIVEN ROWS OF THIS SEAT. 4 by the template 'for every input the law returns true; each argument reads behind the call as it read before'; 0 by the template 'total and deterministic' (their statements: YtkohfegajcmdbaaTotals.lean).
  GIVEN WITH THE SEED: the statements are not yours to turn. If you find one false, say at which input.
  Laid BY PROGRAM, IN A SANDBOX (cutbox-rows.mjs): the forced cells as the released guide's own fill.sh prints them over the translation ba4658e41991be7f… (all of the seat's roots in one cut). By AI agents, Wed Nov 11 2026. No macro, syntax, notation, axiom, sorry.
-/
import Derived.Test.YtkohfegajcmdbaaChecked
import GoSem.Claim
import GoSem.ClaimJoined
import GoSem.ClaimMapViews
import Derived.JoinedTies
import Derived.KernelRfl
namespace Go.Proofs.Ytkohfegajcmdbaa
/- THE CELL 'sum', in the pinned program and in every row, IS THE sha256 OF THE DUMP (.gsa) THAT YtkohfegajcmdbaaProg.lean LOADS. Nothing in Lean hashes anything: it is a label: what it is worth is what the hold of that sum in a sandbox is worth. -/
noncomputable def Try.pinned : Pinned := { name := "ytkohfegajcmdbaa", sum := "ba4658e41991be7f5cf61d4ad74ca315f49da7b04b9ca338ad27fbbb4a8774fd", checked := Try.checked }
namespace Rows
def none {H : Type} : Left H := { results := [], args := [] }

/-- 'laws.FnNeighbors': WHATEVER THE INPUT: true; the input reads as it did. -/
def fnNeighborsSpec : ChangeSpec := { name := "fnNeighbors", fn := fun _ => fun
  | [d] => { results := [.lit (.bool true)], args := [d] }
  | _ => none }
def fnNeighborsRow : OpenClaim := { program := "ytkohfegajcmdbaa", sum := "ba4658e41991be7f5cf61d4ad74ca315f49da7b04b9ca338ad27fbbb4a8774fd", func := "loop.example/g00917/laws.FnNeighbors", spec := "fnNeighbors", unfollowed := true, recurses := true, apart := false }
def FnNeighborsSaid : Prop := fnNeighborsRow.holds Try.pinned (OpenSpec.ofChange fnNeighborsSpec)

/-- ITS FALSE NEIGHBOUR: 'it returns false'. Refute it at one input. -/
def fnNeighborsWrong : ChangeSpec := { name := "fnNeighbors", fn := fun _ => fun
  | [d] => { results := [.lit (.bool false)], args := [d] }
  | _ => none }
def FnNeighborsWrongFalsely : Prop := fnNeighborsRow.holds Try.pinned (OpenSpec.ofChange fnNeighborsWrong)

/-- 'laws.FnEnds': WHATEVER THE INPUT: true; the input reads as it did. -/
def fnEndsSpec : ChangeSpec := { name := "fnEnds", fn := fun _ => fun
  | [d] => { results := [.lit (.bool true)], args := [d] }
  | _ => none }
def fnEndsRow : OpenClaim := { program := "ytkohfegajcmdbaa", sum := "ba4658e41991be7f5cf61d4ad74ca315f49da7b04b9ca338ad27fbbb4a8774fd", func := "loop.example/g00917/laws.FnEnds", spec := "fnEnds", unfollowed := true, recurses := true, apart := false }
def FnEndsSaid : Prop := fnEndsRow.holds Try.pinned (OpenSpec.ofChange fnEndsSpec)

/-- ITS FALSE NEIGHBOUR: 'it returns false'. Refute it at one input. -/
def fnEndsWrong : ChangeSpec := { name := "fnEnds", fn := fun _ => fun
  | [d] => { results := [.lit (.bool false)], args := [d] }
  | _ => none }
def FnEndsWrongFalsely : Prop := fnEndsRow.holds Try.pinned (OpenSpec.ofChange fnEndsWrong)

/-- 'laws.FnIncidents': WHATEVER THE INPUT: true; the input reads as it did. -/
def fnIncidentsSpec : ChangeSpec := { name := "fnIncidents", fn := fun _ => fun
  | [d] => { results := [.lit (.bool true)], args := [d] }
  | _ => none }
def fnIncidentsRow : OpenClaim := { program := "ytkohfegajcmdbaa", sum := "ba4658e41991be7f5cf61d4ad74ca315f49da7b04b9ca338ad27fbbb4a8774fd", func := "loop.example/g00917/laws.FnIncidents", spec := "fnIncidents", unfollowed := true, recurses := true, apart := false }
def FnIncidentsSaid : Prop := fnIncidentsRow.holds Try.pinned (OpenSpec.ofChange fnIncidentsSpec)

/-- ITS FALSE NEIGHBOUR: 'it returns false'. Refute it at one input. -/
def fnIncidentsWrong : ChangeSpec := { name := "fnIncidents", fn := fun _ => fun
  | [d] => { results := [.lit (.bool false)], args := [d] }
  | _ => none }
def FnIncidentsWrongFalsely : Prop := fnIncidentsRow.holds Try.pinned (OpenSpec.ofChange fnIncidentsWrong)

/-- 'laws.FnLineCells': WHATEVER THE INPUT: true; the input reads as it did. -/
def fnLineCellsSpec : ChangeSpec := { name := "fnLineCells", fn := fun _ => fun
  | [d] => { results := [.lit (.bool true)], args := [d] }
  | _ => none }
def fnLineCellsRow : OpenClaim := { program := "ytkohfegajcmdbaa", sum := "ba4658e41991be7f5cf61d4ad74ca315f49da7b04b9ca338ad27fbbb4a8774fd", func := "loop.example/g00917/laws.FnLineCells", spec := "fnLineCells", unfollowed := true, recurses := true, apart := false }
def FnLineCellsSaid : Prop := fnLineCellsRow.holds Try.pinned (OpenSpec.ofChange fnLineCellsSpec)

/-- ITS FALSE NEIGHBOUR: 'it returns false'. Refute it at one input. -/
def fnLineCellsWrong : ChangeSpec := { name := "fnLineCells", fn := fun _ => fun
  | [d] => { results := [.lit (.bool false)], args := [d] }
  | _ => none }
def FnLineCellsWrongFalsely : Prop := fnLineCellsRow.holds Try.pinned (OpenSpec.ofChange fnLineCellsWrong)

/- THE SECOND FORM. 'bulk': how many values and letters a reading holds, each counted each time it is reached (what is shared counts as often as it is met; a slice's spare places count too). A statement '..UptoSaid' is the law's where the arguments, and the package variables that the reading takes, are together of bulk at most 1048576: NARROWER than '..Said'. Prove '..Said' where nothing that the law and all that it calls make is longer than what came in: it says more and counts as full. Else prove '..UptoSaid'. A law counts once. -/
mutual
def uptoBulk {H : Type} : DataW H → Nat
  | .lit (.string bytes) => bytes.length + 1
  | .lit _ => 1
  | .nil => 1
  | .ptr d => uptoBulk d + 1
  | .slice elems spare => uptoBulkAll elems + uptoBulkAll spare + 1
  | .agg parts => uptoBulkAll parts + 1
  | .iface _ d => uptoBulk d + 1
  | .map entries => uptoBulkEntries entries + 1
  | .held _ => 1
def uptoBulkAll {H : Type} : List (DataW H) → Nat
  | [] => 0
  | d :: r => uptoBulk d + uptoBulkAll r
def uptoBulkEntries {H : Type} : List (Lit × DataW H) → Nat
  | [] => 0
  | x :: r => uptoBulkEntry x + uptoBulkEntries r
def uptoBulkEntry {H : Type} : Lit × DataW H → Nat
  | (.string bytes, d) => bytes.length + uptoBulk d + 1
  | (_, d) => uptoBulk d + 1
 end
def uptoSmall : (H : Type) → List (DataW H) → Bool := fun _ ds => decide (uptoBulkAll ds ≤ 1048576)
def OpenSpec.upto (s : _root_.Go.ChangeSpec) : _root_.Go.OpenSpec := { _root_.Go.OpenSpec.ofChange s with cond := some uptoSmall }

/-- 'laws.FnNeighbors', WHERE WHAT IT READS IS OF BULK AT MOST 1048576: true; the input reads as it did. -/
def fnNeighborsUptoRow : OpenClaim := { program := "ytkohfegajcmdbaa", sum := "ba4658e41991be7f5cf61d4ad74ca315f49da7b04b9ca338ad27fbbb4a8774fd", func := "loop.example/g00917/laws.FnNeighbors", spec := "fnNeighbors", unfollowed := true, recurses := true, apart := false, narrowed := true }
def FnNeighborsUptoSaid : Prop := fnNeighborsUptoRow.holds Try.pinned (OpenSpec.upto fnNeighborsSpec)

/-- 'laws.FnEnds', WHERE WHAT IT READS IS OF BULK AT MOST 1048576: true; the input reads as it did. -/
def fnEndsUptoRow : OpenClaim := { program := "ytkohfegajcmdbaa", sum := "ba4658e41991be7f5cf61d4ad74ca315f49da7b04b9ca338ad27fbbb4a8774fd", func := "loop.example/g00917/laws.FnEnds", spec := "fnEnds", unfollowed := true, recurses := true, apart := false, narrowed := true }
def FnEndsUptoSaid : Prop := fnEndsUptoRow.holds Try.pinned (OpenSpec.upto fnEndsSpec)

/-- 'laws.FnIncidents', WHERE WHAT IT READS IS OF BULK AT MOST 1048576: true; the input reads as it did. -/
def fnIncidentsUptoRow : OpenClaim := { program := "ytkohfegajcmdbaa", sum := "ba4658e41991be7f5cf61d4ad74ca315f49da7b04b9ca338ad27fbbb4a8774fd", func := "loop.example/g00917/laws.FnIncidents", spec := "fnIncidents", unfollowed := true, recurses := true, apart := false, narrowed := true }
def FnIncidentsUptoSaid : Prop := fnIncidentsUptoRow.holds Try.pinned (OpenSpec.upto fnIncidentsSpec)

/-- 'laws.FnLineCells', WHERE WHAT IT READS IS OF BULK AT MOST 1048576: true; the input reads as it did. -/
def fnLineCellsUptoRow : OpenClaim := { program := "ytkohfegajcmdbaa", sum := "ba4658e41991be7f5cf61d4ad74ca315f49da7b04b9ca338ad27fbbb4a8774fd", func := "loop.example/g00917/laws.FnLineCells", spec := "fnLineCells", unfollowed := true, recurses := true, apart := false, narrowed := true }
def FnLineCellsUptoSaid : Prop := fnLineCellsUptoRow.holds Try.pinned (OpenSpec.upto fnLineCellsSpec)

end Rows
end Go.Proofs.Ytkohfegajcmdbaa

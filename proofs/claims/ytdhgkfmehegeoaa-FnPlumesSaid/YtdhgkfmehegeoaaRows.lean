/-
  No cell of these rows narrows 'for every input' (looked for: loops, veiled, ifaces, maps, wideKeys, modest, calm, conditions, laid).
  DERIVED. THE GIVEN ROWS OF THIS SEAT. 4 by the template 'for every input the law returns true; each argument reads behind the call as it read before'; 0 by the template 'total and deterministic' (their statements: YtdhgkfmehegeoaaTotals.lean).
  GIVEN WITH THE SEED: the statements are not yours to turn. If you find one false, say at which input.
  Laid BY PROGRAM, IN A SANDBOX (cutbox-rows.mjs): the forced cells as the released guide's own fill.sh prints them over the translation 00a3cc603629ba39… (all of the seat's roots in one cut). By AI agents, Wed Nov 11 2026. No macro, syntax, notation, axiom, sorry.
-/
import Derived.Test.YtdhgkfmehegeoaaChecked
import GoSem.Claim
import GoSem.ClaimJoined
import GoSem.ClaimMapViews
import Derived.JoinedTies
import Derived.KernelRfl
namespace Go.Proofs.Ytdhgkfmehegeoaa
/- THE CELL 'sum', in the pinned program and in every row, IS THE sha256 OF THE DUMP (.gsa) THAT YtdhgkfmehegeoaaProg.lean LOADS. Nothing in Lean hashes anything: it is a label: what it is worth is what the hold of that sum in a sandbox is worth. -/
noncomputable def Try.pinned : Pinned := { name := "ytdhgkfmehegeoaa", sum := "00a3cc603629ba39877df81452b9c6ce2305ecfa75b11de6dd88a023ce103e15", checked := Try.checked }
namespace Rows
def none {H : Type} : Left H := { results := [], args := [] }

/-- 'laws.FnSmoke': WHATEVER THE INPUT: true; the input reads as it did. -/
def fnSmokeSpec : ChangeSpec := { name := "fnSmoke", fn := fun _ => fun
  | [d] => { results := [.lit (.bool true)], args := [d] }
  | _ => none }
def fnSmokeRow : OpenClaim := { program := "ytdhgkfmehegeoaa", sum := "00a3cc603629ba39877df81452b9c6ce2305ecfa75b11de6dd88a023ce103e15", func := "loop.example/g00917/laws.FnSmoke", spec := "fnSmoke", unfollowed := true, recurses := true, apart := false }
def FnSmokeSaid : Prop := fnSmokeRow.holds Try.pinned (OpenSpec.ofChange fnSmokeSpec)

/-- ITS FALSE NEIGHBOUR: 'it returns false'. Refute it at one input. -/
def fnSmokeWrong : ChangeSpec := { name := "fnSmoke", fn := fun _ => fun
  | [d] => { results := [.lit (.bool false)], args := [d] }
  | _ => none }
def FnSmokeWrongFalsely : Prop := fnSmokeRow.holds Try.pinned (OpenSpec.ofChange fnSmokeWrong)

/-- 'laws.FnPlumes': WHATEVER THE INPUT: true; the input reads as it did. -/
def fnPlumesSpec : ChangeSpec := { name := "fnPlumes", fn := fun _ => fun
  | [d] => { results := [.lit (.bool true)], args := [d] }
  | _ => none }
def fnPlumesRow : OpenClaim := { program := "ytdhgkfmehegeoaa", sum := "00a3cc603629ba39877df81452b9c6ce2305ecfa75b11de6dd88a023ce103e15", func := "loop.example/g00917/laws.FnPlumes", spec := "fnPlumes", unfollowed := true, recurses := true, apart := false }
def FnPlumesSaid : Prop := fnPlumesRow.holds Try.pinned (OpenSpec.ofChange fnPlumesSpec)

/-- ITS FALSE NEIGHBOUR: 'it returns false'. Refute it at one input. -/
def fnPlumesWrong : ChangeSpec := { name := "fnPlumes", fn := fun _ => fun
  | [d] => { results := [.lit (.bool false)], args := [d] }
  | _ => none }
def FnPlumesWrongFalsely : Prop := fnPlumesRow.holds Try.pinned (OpenSpec.ofChange fnPlumesWrong)

/-- 'laws.FnExactLargestFires': WHATEVER THE INPUT: true; the input reads as it did. -/
def fnExactLargestFiresSpec : ChangeSpec := { name := "fnExactLargestFires", fn := fun _ => fun
  | [d1, d2] => { results := [.lit (.bool true)], args := [d1, d2] }
  | _ => none }
def fnExactLargestFiresRow : OpenClaim := { program := "ytdhgkfmehegeoaa", sum := "00a3cc603629ba39877df81452b9c6ce2305ecfa75b11de6dd88a023ce103e15", func := "loop.example/g00917/laws.FnExactLargestFires", spec := "fnExactLargestFires", unfollowed := true, recurses := true, apart := false }
def FnExactLargestFiresSaid : Prop := fnExactLargestFiresRow.holds Try.pinned (OpenSpec.ofChange fnExactLargestFiresSpec)

/-- ITS FALSE NEIGHBOUR: 'it returns false'. Refute it at one input. -/
def fnExactLargestFiresWrong : ChangeSpec := { name := "fnExactLargestFires", fn := fun _ => fun
  | [d1, d2] => { results := [.lit (.bool false)], args := [d1, d2] }
  | _ => none }
def FnExactLargestFiresWrongFalsely : Prop := fnExactLargestFiresRow.holds Try.pinned (OpenSpec.ofChange fnExactLargestFiresWrong)

/-- 'laws.FnFireCounts': WHATEVER THE INPUT: true; the input reads as it did. -/
def fnFireCountsSpec : ChangeSpec := { name := "fnFireCounts", fn := fun _ => fun
  | [d] => { results := [.lit (.bool true)], args := [d] }
  | _ => none }
def fnFireCountsRow : OpenClaim := { program := "ytdhgkfmehegeoaa", sum := "00a3cc603629ba39877df81452b9c6ce2305ecfa75b11de6dd88a023ce103e15", func := "loop.example/g00917/laws.FnFireCounts", spec := "fnFireCounts", unfollowed := true, recurses := true, apart := false }
def FnFireCountsSaid : Prop := fnFireCountsRow.holds Try.pinned (OpenSpec.ofChange fnFireCountsSpec)

/-- ITS FALSE NEIGHBOUR: 'it returns false'. Refute it at one input. -/
def fnFireCountsWrong : ChangeSpec := { name := "fnFireCounts", fn := fun _ => fun
  | [d] => { results := [.lit (.bool false)], args := [d] }
  | _ => none }
def FnFireCountsWrongFalsely : Prop := fnFireCountsRow.holds Try.pinned (OpenSpec.ofChange fnFireCountsWrong)

/- THE SECOND FORM. 'bulk': how many values and letters a reading holds, each counted each time it is reached (what is shared counts as often as it is met; a slice's spare places count too). A statement '..UptoSaid' is the law's where the arguments, and the package variables that the reading takes, are together of bulk at most 1048576: NARROWER than '..Said'. Prove '..Said' where nothing that the law and all that it calls make is longer than what came in: it says more and counts as full. Else prove '..UptoSaid'. A law counts once. -/
mutual
def uptoBulk {H : Type} : DataW H → Nat
  | .lit (.string bytes) => bytes.length + 1
  | .lit _ => 1
  | .nil => 1
  | .ptr d => uptoBulk d + 1
  | .slice elems spare => uptoBulkAll elems + uptoBulkAll spare + 1
  | .agg parts => uptoBulkAll parts + 1
  | .iface _ d => uptoBulk d + 1
  | .map entries => uptoBulkEntries entries + 1
  | .held _ => 1
def uptoBulkAll {H : Type} : List (DataW H) → Nat
  | [] => 0
  | d :: r => uptoBulk d + uptoBulkAll r
def uptoBulkEntries {H : Type} : List (Lit × DataW H) → Nat
  | [] => 0
  | x :: r => uptoBulkEntry x + uptoBulkEntries r
def uptoBulkEntry {H : Type} : Lit × DataW H → Nat
  | (.string bytes, d) => bytes.length + uptoBulk d + 1
  | (_, d) => uptoBulk d + 1
 end
def uptoSmall : (H : Type) → List (DataW H) → Bool := fun _ ds => decide (uptoBulkAll ds ≤ 1048576)
def OpenSpec.upto (s : _root_.Go.ChangeSpec) : _root_.Go.OpenSpec := { _root_.Go.OpenSpec.ofChange s with cond := some uptoSmall }

/-- 'laws.FnSmoke', WHERE WHAT IT READS IS OF BULK AT MOST 1048576: true; the input reads as it did. -/
def fnSmokeUptoRow : OpenClaim := { program := "ytdhgkfmehegeoaa", sum := "00a3cc603629ba39877df81452b9c6ce2305ecfa75b11de6dd88a023ce103e15", func := "loop.example/g00917/laws.FnSmoke", spec := "fnSmoke", unfollowed := true, recurses := true, apart := false, narrowed := true }
def FnSmokeUptoSaid : Prop := fnSmokeUptoRow.holds Try.pinned (OpenSpec.upto fnSmokeSpec)

/-- 'laws.FnPlumes', WHERE WHAT IT READS IS OF BULK AT MOST 1048576: true; the input reads as it did. -/
def fnPlumesUptoRow : OpenClaim := { program := "ytdhgkfmehegeoaa", sum := "00a3cc603629ba39877df81452b9c6ce2305ecfa75b11de6dd88a023ce103e15", func := "loop.example/g00917/laws.FnPlumes", spec := "fnPlumes", unfollowed := true, recurses := true, apart := false, narrowed := true }
def FnPlumesUptoSaid : Prop := fnPlumesUptoRow.holds Try.pinned (OpenSpec.upto fnPlumesSpec)

/-- 'laws.FnExactLargestFires', WHERE WHAT IT READS IS OF BULK AT MOST 1048576: true; the input reads as it did. -/
def fnExactLargestFiresUptoRow : OpenClaim := { program := "ytdhgkfmehegeoaa", sum := "00a3cc603629ba39877df81452b9c6ce2305ecfa75b11de6dd88a023ce103e15", func := "loop.example/g00917/laws.FnExactLargestFires", spec := "fnExactLargestFires", unfollowed := true, recurses := true, apart := false, narrowed := true }
def FnExactLargestFiresUptoSaid : Prop := fnExactLargestFiresUptoRow.holds Try.pinned (OpenSpec.upto fnExactLargestFiresSpec)

/-- 'laws.FnFireCounts', WHERE WHAT IT READS IS OF BULK AT MOST 1048576: true; the input reads as it did. -/
def fnFireCountsUptoRow : OpenClaim := { program := "ytdhgkfmehegeoaa", sum := "00a3cc603629ba39877df81452b9c6ce2305ecfa75b11de6dd88a023ce103e15", func := "loop.example/g00917/laws.FnFireCounts", spec := "fnFireCounts", unfollowed := true, recurses := true, apart := false, narrowed := true }
def FnFireCountsUptoSaid : Prop := fnFireCountsUptoRow.holds Try.pinned (OpenSpec.upto fnFireCountsSpec)

end Rows
end Go.Proofs.Ytdhgkfmehegeoaa

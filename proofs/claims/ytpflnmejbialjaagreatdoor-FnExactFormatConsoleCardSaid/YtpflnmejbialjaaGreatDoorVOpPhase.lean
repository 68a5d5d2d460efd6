/- Lemmas. -/
import Derived.Test.YtpflnmejbialjaaGreatDoorVLogW
import Derived.Test.YtpflnmejbialjaaGreatDoorCards
import Derived.Test.YtpflnmejbialjaaGreatDoorTie
import Derived.Test.YtpflnmejbialjaaGreatDoorVWrap
import Derived.Test.YtpflnmejbialjaaGreatDoorVRecN
import Derived.Deep.DeepHandedRow
import Derived.Lib.LaidTab
import Derived.LaidSub
import Derived.Deep.Strs
import Derived.Test.YtpflnmejbialjaaGreatDoorVOpn
import Derived.Test.YtpflnmejbialjaaGreatDoorVFlPhase
/-
  Arguments of the laws that are read: a log.
-/
namespace Go.Proofs.YtpflnmejbialjaaGreatDoor
set_option linter.unusedSimpArgs false
set_option linter.unusedVariables false
open Go.ChangeShapes Go.WideShapes Go.ChangeAt Go.RowKit Go.Joins

theorem Tryz.cells29 : Tryz.prog.cellsOf 29 = 3 := by kernel_rfl
theorem Tryz.cellsT3 : Tryz.prog.cellsOf 3 = 1 := by kernel_rfl
set_option maxRecDepth 100000 in
theorem elLog {H : Type} {enc : TypeId × Value → H} {W : World} (fuel : Nat) (cs : List Value) (x : DataW H × List MemPlace) (h : DataW.trod enc Tryz.prog W 0 (fun _ => true) true fuel 29 cs = some x) : ∃ (c r : Bs) (z : Int), cs = [.string (bsA c), .string (bsA r), .int .i64 z] ∧ c.length ≤ maxLen ∧ r.length ≤ maxLen := by
  obtain ⟨ys, m, _, _, hl, hyl, hf⟩ := DataW.trod_struct Tryz.underlying29 h
  rw [Tryz.cells29] at hl
  match cs, hl, ys, hyl with
  | [c0, c1, c2], _, [y0, y1, y2], _ =>
    have h0 : DataW.trod enc Tryz.prog W 0 (fun _ => true) true m 9 [c0] = some y0 := by simpa [Tryz.cells9] using hf 0 _ rfl
    obtain ⟨s0, e0, _, w0⟩ := DataW.trod_string Tryz.underlying9 h0
    simp only [List.cons.injEq, and_true] at e0
    subst e0
    have h1 : DataW.trod enc Tryz.prog W 0 (fun _ => true) true m 9 [c1] = some y1 := by simpa [Tryz.cells9] using hf 1 _ rfl
    obtain ⟨s1, e1, _, w1⟩ := DataW.trod_string Tryz.underlying9 h1
    simp only [List.cons.injEq, and_true] at e1
    subst e1
    have h2 : DataW.trod enc Tryz.prog W 0 (fun _ => true) true m 3 [c2] = some y2 := by simpa [Tryz.cellsT3] using hf 2 _ rfl
    obtain ⟨z, e2, _, _⟩ := DataW.trod_int Tryz.underlying3 h2
    simp only [List.cons.injEq, and_true] at e2
    subst e2
    exact ⟨bl s0, bl s1, z, rfl, w0, w1⟩
end Go.Proofs.YtpflnmejbialjaaGreatDoor

/-
  What the listed variables give a walk; a world for the witness.
-/
namespace Go.Proofs.YtpflnmejbialjaaGreatDoor
set_option linter.unusedSimpArgs false
set_option linter.unusedVariables false
open Go.ChangeShapes Go.WideShapes Go.ChangeAt Go.RowKit

abbrev laidL : List (String × DataW Unit) := [("math/bits.deBruijn32tab", Rows.laid_math_bits_deBruijn32tab), ("math/bits.deBruijn64tab", Rows.laid_math_bits_deBruijn64tab), ("internal/strconv.uint64pow10", Rows.laid_internal_strconv_uint64pow10)]
theorem gTab : Tryz.prog.globalNamed "internal/strconv.uint64pow10" = some 0 := by kernel_rfl
theorem gTabType : (Tryz.prog.globals[0]?).map (·.type) = some 114 := by kernel_rfl
theorem cellsTab : Tryz.prog.cellsOf 114 = 20 := by kernel_rfl
theorem cellsU64 : Tryz.prog.cellsOf 102 = 1 := by kernel_rfl
theorem dataTab : (Rows.laid_internal_strconv_uint64pow10 : DataW Unit) = Lib.tabData .u64 Lib.pow10Tab := by kernel_rfl
theorem tab_of {W : World} (h : laidMetH Tryz.prog laidL W) : Tab W := by
  have h1 : laidMet Tryz.prog laidL W := h
  have h2 := h1.filter (fun x => x.1 == "internal/strconv.uint64pow10")
  have h3 : laidL.filter (fun x => x.1 == "internal/strconv.uint64pow10") = [("internal/strconv.uint64pow10", Rows.laid_internal_strconv_uint64pow10)] := by simp [laidL]
  rw [h3, dataTab] at h2
  exact Lib.tabIs_of_head gTab gTabType Tryz.underlying114 Tryz.underlying102 cellsU64 cellsTab h2

def litCells : DataW Unit → Array Value
  | .agg ds => (ds.map fun d => match d with | .lit (.int k z) => Value.int k z | _ => undef).toArray
  | _ => #[]
/-- the settled world, the three tables as their initialisers lay them -/
noncomputable def laidWorld (os : Os) : World :=
  let w0 := World.holding Tryz.prog os ⟨#[], #[], []⟩
  let put (d : DataW Unit) (o : Obj) : Obj := match o with | .cells _ t frozen => .cells (litCells d) t frozen | o => o
  { w0 with heap := ((w0.heap.modify 0 (put Rows.laid_internal_strconv_uint64pow10)).modify 1 (put Rows.laid_math_bits_deBruijn32tab)).modify 2 (put Rows.laid_math_bits_deBruijn64tab) }
theorem laid_met (os : Os) (args : Array Value) : laidMet Tryz.prog laidL ((laidWorld os).forCall (fun _ _ => 0) ⟨#[], args, []⟩).memory :=
  laidMet_of_run' 8 (by kernel_rfl) (by kernel_rfl)
end Go.Proofs.YtpflnmejbialjaaGreatDoor

namespace Go.Proofs.YtpflnmejbialjaaGreatDoor
set_option linter.unusedSimpArgs false
set_option linter.unusedVariables false
open Go.ChangeShapes Go.WideShapes Go.ChangeAt Go.RowKit Go.Joins

theorem Tryz.cells26 : Tryz.prog.cellsOf 26 = 6 := by kernel_rfl
end Go.Proofs.YtpflnmejbialjaaGreatDoor

namespace Go.Proofs.YtpflnmejbialjaaGreatDoor
set_option linter.unusedSimpArgs false
set_option linter.unusedVariables false
open Go.ChangeShapes Go.WideShapes Go.ChangeAt Go.RowKit Go.Joins

theorem Tryz.cells71 : Tryz.prog.cellsOf 71 = 2 := by kernel_rfl
set_option maxRecDepth 100000 in
theorem elPhase {H : Type} {enc : TypeId × Value → H} {W : World} (fuel : Nat) (cs : List Value) (x : DataW H × List MemPlace) (h : DataW.trod enc Tryz.prog W 0 (fun _ => true) true fuel 71 cs = some x) : ∃ y, cs = FPhase.enc y ∧ FPhase.wf y := by
  obtain ⟨ys, m, _, _, hl, hyl, hf⟩ := DataW.trod_struct Tryz.underlying71 h
  rw [Tryz.cells71] at hl
  match cs, hl, ys, hyl with
  | [c0, c1], _, [y0, y1], _ =>
    have h0 : DataW.trod enc Tryz.prog W 0 (fun _ => true) true m 3 [c0] = some y0 := by simpa [Tryz.cells3] using hf 0 _ rfl
    obtain ⟨z0, e0, _, w0⟩ := DataW.trod_int Tryz.underlying3 h0
    simp only [List.cons.injEq, and_true] at e0
    subst e0
    have h1 : DataW.trod enc Tryz.prog W 0 (fun _ => true) true m 3 [c1] = some y1 := by simpa [Tryz.cells3] using hf 1 _ rfl
    obtain ⟨z1, e1, _, w1⟩ := DataW.trod_int Tryz.underlying3 h1
    simp only [List.cons.injEq, and_true] at e1
    subst e1
    exact ⟨⟨z0, z1⟩, rfl, i64_of_wf w0, i64_of_wf w1⟩
theorem openPhaseS {H : Type} {enc : TypeId × Value → H} {W : World} {fuel : Nat} {cs : List Value} {x : DataW H × List MemPlace} (h : DataW.trod enc Tryz.prog W 0 (fun _ => true) true fuel 27 cs = some x) (hlt : ∀ p ∈ x.2, p.block < W.heap.size) (hsz : ∀ n ∈ x.1.weights Tryz.prog 27, n ≤ reachBytes) : ∃ a n c xs, cs = [.slice a n c] ∧ Rd FPhase W a n c xs :=
  rd_open FPhase Tryz.underlying27 Tryz.cells71 (by rw [show Tryz.prog.bytesOf 71 = 16 from by kernel_rfl]; exact Nat.le_refl _) (fun fuel cs x h _ => elPhase fuel cs x h) h hlt hsz
end Go.Proofs.YtpflnmejbialjaaGreatDoor

/-
  NeighborsOf, StepsApart, BurnableCells, Reachable: both sides.
-/
import Derived.Test.YtkohfegajcmdbaaQNear
import Derived.Test.YtkohfegajcmdbaaQSaved
import Derived.Test.YtkohfegajcmdbaaQFlood
import Derived.Test.YtkohfegajcmdbaaQClear
import Derived.Test.YtkohfegajcmdbaaQNear4
import Derived.Deep.LoopGhost
import Derived.Deep.DeepCutAuto
import Derived.Test.YtkohfegajcmdbaaQLawV
/-
  NeighborsOf, StepsApart, BurnableCells, Reachable: both sides.
-/
namespace Go.Proofs.Ytkohfegajcmdbaa
set_option linter.unusedSimpArgs false
set_option linter.unusedVariables false
open Go.RowKit

def burnR (W H : Int) (xs : List Int) : List Int × Bool := if goodB 20 W H xs then (cellsN xs.length (brn xs), true) else ([], false)
def LR2 (w : World) (r : List Int × Bool) (e : Ending) (w' : World) : Prop := ∃ a' m' c', e = .returned (.tuple #[.slice a' m' c', .bool r.2]) ∧ Mem w.heap.size w w' [intE a' m' c' r.1]
set_option maxRecDepth 100000 in
set_option maxHeartbeats 30000000 in
theorem implBurn_any (W H : Int) (a : Option Addr) (n c : Nat) (xs : List Int) (w : World) (h : Ints w a n c xs) :
    Calls Try.prog 19 #[.agg #[.int .i64 W, .int .i64 H, .slice a n c]] w ((LR2 w (burnR W H xs))) := by
  have hM := Mem.start w
  have HL := Lib.hid h.len
  cases hg : goodB 20 W H xs
  · have HF := Lib.hid (show burnR W H xs = ([], false) by rw [burnR, hg]; rfl)
    have HG := Lib.hid hg; clear hg
    go_enter Try.func19, Try.ntmps19
    go_wp2_with fail
    apply Mem.atA
    · (repeat' (first | with_reducible exact hM | with_reducible exact hMp | with_reducible apply Mem.drew | with_reducible apply Mem.drewN | with_reducible apply Mem.alloc | with_reducible apply Mem.set | with_reducible exact Sto.row | ((with_reducible refine Sto.rowEq2 ?_ ?_); omega; rfl) | ((with_reducible refine Sto.rowEq ?_); omega) | with_reducible apply Sto.int | with_reducible apply Sto.there | with_reducible assumption | (unfold I64; omega) | (with_reducible (have hMx := Mem.undrew hM; exact hMx)) | (with_reducible (have hMx := Mem.undrew hMp; exact hMx))))
    clear hM
    intro wst hM
    (try simp only [World.size_alloc, World.size_setCell, World.heap_drewN, heapDrew, Nat.add_assoc, Nat.reduceAdd, List.setIfInBounds_toArray, List.set_cons_zero, List.set_cons_succ, List.cons_append, List.nil_append] at hM)
    (first | refine (IsTerrain_any W H a n c xs _ (h.ext hM.below)).mono ?_)
    rw [HG.out]
    rintro e wc29 ⟨rfl, hb⟩
    replace hM := hM.ext hb
    clear hb
    go_wp2
    go_ret2
    exact ⟨_, _, _, by rw [HF.out]; rfl, by rw [HF.out]; exact hM.nilInts⟩
  have hn25 : n ≤ 25 := by
    obtain ⟨Wn, Hn, -, -, -, -, -, -, -, h25, -⟩ := goodB_true hg
    rw [← HL.out]; exact h25
  have HF := Lib.hid (show burnR W H xs = (cellsN n (brn xs), true) by rw [burnR, hg, HL.out]; rfl)
  have HG := Lib.hid hg; clear hg
  have hmf : ∀ (fn : Fn) (first cap : Array Value) (w : World), (Instr.makeFunc fn first cap).run Try.prog w = .ok (.func fn first cap) w := fun _ _ _ _ => rfl
  go_enter Try.func19, Try.ntmps19
  go_wp2_with fail
  apply Mem.atA
  · (repeat' (first | with_reducible exact hM | with_reducible exact hMp | with_reducible apply Mem.drew | with_reducible apply Mem.drewN | with_reducible apply Mem.alloc | with_reducible apply Mem.set | with_reducible exact Sto.row | ((with_reducible refine Sto.rowEq2 ?_ ?_); omega; rfl) | ((with_reducible refine Sto.rowEq ?_); omega) | with_reducible apply Sto.int | with_reducible apply Sto.there | with_reducible assumption | (unfold I64; omega) | (with_reducible (have hMx := Mem.undrew hM; exact hMx)) | (with_reducible (have hMx := Mem.undrew hMp; exact hMx))))
  clear hM
  intro wst hM
  (try simp only [World.size_alloc, World.size_setCell, World.heap_drewN, heapDrew, Nat.add_assoc, Nat.reduceAdd, List.setIfInBounds_toArray, List.set_cons_zero, List.set_cons_succ, List.cons_append, List.nil_append] at hM)
  (first | refine (IsTerrain_any W H a n c xs _ (h.ext hM.below)).mono ?_)
  rw [HG.out]
  rintro e wc30 ⟨rfl, hb⟩
  replace hM := hM.ext hb
  clear hb
  obtain ⟨k0, f0, l0⟩ := hM.row .here
  go_wp2_with fail
  clear k0 f0 l0
  apply Mem.atA
  · (repeat' (first | with_reducible exact hM | with_reducible exact hMp | with_reducible apply Mem.drew | with_reducible apply Mem.drewN | with_reducible apply Mem.alloc | with_reducible apply Mem.set | with_reducible exact Sto.row | ((with_reducible refine Sto.rowEq2 ?_ ?_); omega; rfl) | ((with_reducible refine Sto.rowEq ?_); omega) | with_reducible apply Sto.int | with_reducible apply Sto.there | with_reducible assumption | (unfold I64; omega) | (with_reducible (have hMx := Mem.undrew hM; exact hMx)) | (with_reducible (have hMx := Mem.undrew hMp; exact hMx))))
  clear hM
  intro wst hM
  (try simp only [World.size_alloc, World.size_setCell, World.heap_drewN, heapDrew, Nat.add_assoc, Nat.reduceAdd, List.setIfInBounds_toArray, List.set_cons_zero, List.set_cons_succ, List.cons_append, List.nil_append] at hM)
  (first | refine (cellsThat_any _ _ _ (fun k => brn xs k) _ _ a n c xs _ (h.ext hM.below) hn25 (enters Try.func77 (by kernel_rfl) rfl) (fun k hk w' hb => by
      have hM' := hM.ext hb
      exact burns_any W H a n c xs k w' (h.ext hM'.below) hk)).mono ?_)
  rintro e wc31 ⟨a', m', c', rfl, hm⟩
  replace hM := hM.join hm
  clear hm
  (try simp only [World.size_alloc, World.size_setCell, World.heap_drewN, heapDrew, Nat.add_assoc, Nat.reduceAdd, List.setIfInBounds_toArray, List.set_cons_zero, List.set_cons_succ, List.cons_append, List.nil_append] at hM)
  go_wp2
  go_ret2
  exact ⟨_, _, _, by rw [HF.out]; rfl, by rw [HF.out]; exact hM.first⟩
end Go.Proofs.Ytkohfegajcmdbaa

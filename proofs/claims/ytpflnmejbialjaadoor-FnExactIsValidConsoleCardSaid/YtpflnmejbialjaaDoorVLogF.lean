/-
  The functions over logs: both sides return the same.
-/
import Derived.Test.YtpflnmejbialjaaDoorVLogS
import Derived.Test.YtpflnmejbialjaaDoorVLogI
/-
  The functions over logs: both sides return the same.
-/
namespace Go.Proofs.YtpflnmejbialjaaDoor
set_option linter.unusedSimpArgs false
set_option linter.unusedVariables false
open Go.RowKit

def validV (D P : Bs) (c : Int) : Value := .bool (okI D P c)
set_option maxRecDepth 100000 in
set_option maxHeartbeats 8000000 in
theorem implValid_any (D P : Bs) (c : Int) (w : World) (ht : Tab w) (hl : D.length + P.length ≤ 4194304) :
    Calls Tryd.prog 21 #[logV D P c] w fun e w' => e = .returned (validV D P c) ∧ Below w.heap.size w w' := by
  have hM := Mem.start w
  have HT := Lib.hid ht; clear ht
  have HV := Lib.hid (show validV D P c = .bool (okI D P c) from rfl)
  go_enter Tryd.func21, Tryd.ntmps21
  go_wp2_with fail
  apply Mem.atA
  · (repeat' (first | with_reducible exact hM | with_reducible exact hMp | with_reducible apply Mem.drew | with_reducible apply Mem.drewN | with_reducible apply Mem.alloc | with_reducible apply Mem.set | with_reducible exact Sto.row | ((with_reducible refine Sto.rowEq2 ?_ ?_); omega; rfl) | ((with_reducible refine Sto.rowEq ?_); omega) | with_reducible apply Sto.int | with_reducible apply Sto.there | with_reducible assumption | (unfold I64; omega) | (with_reducible (have hMx := Mem.undrew hM; exact hMx)) | (with_reducible (have hMx := Mem.undrew hMp; exact hMx))))
  clear hM
  intro wst hM
  (try simp only [World.size_alloc, World.size_setCell, World.heap_drewN, heapDrew, Nat.add_assoc, Nat.reduceAdd, List.setIfInBounds_toArray, List.set_cons_zero, List.set_cons_succ, List.cons_append, List.nil_append] at hM)
  (first | refine (records_any D P c _ (HT.out.ext hM.below) hl).mono ?_)
  rintro e wc1 ⟨a1, c1, rfl, hm⟩
  replace hM := hM.join hm
  clear hm
  (try simp only [World.size_alloc, World.size_setCell, World.heap_drewN, heapDrew, Nat.add_assoc, Nat.reduceAdd, List.setIfInBounds_toArray, List.set_cons_zero, List.set_cons_succ, List.cons_append, List.nil_append] at hM)
  go_wp2
  go_ret
  exact ⟨by rw [HV.out]; rfl, (by apply Mem.below; (repeat' (first | with_reducible exact hM | with_reducible exact hMp | with_reducible apply Mem.drew | with_reducible apply Mem.drewN | with_reducible apply Mem.alloc | with_reducible apply Mem.set | with_reducible exact Sto.row | ((with_reducible refine Sto.rowEq2 ?_ ?_); omega; rfl) | ((with_reducible refine Sto.rowEq ?_); omega) | with_reducible apply Sto.int | with_reducible apply Sto.there | with_reducible assumption | (unfold I64; omega) | (with_reducible (have hMx := Mem.undrew hM; exact hMx)) | (with_reducible (have hMx := Mem.undrew hMp; exact hMx)))))⟩
theorem implValid_b {D P : Bs} {c : Int} {w : World} {b : Bool} (h : okI D P c = b) (ht : Tab w) (hl : D.length + P.length ≤ 4194304) :
    Calls Tryd.prog 21 #[logV D P c] w fun e w' => e = .returned (.bool b) ∧ Below w.heap.size w w' := by
  have := implValid_any D P c w ht hl
  rw [validV, h] at this
  exact this

theorem l27Log_b {D P : Bs} {c : Int} {w : World} {b : Bool} (h : okI D P c = b) (hl : D.length + P.length ≤ 4194304) :
    Calls Tryd.prog 30 #[logV D P c] w fun e w' => e = .returned (.bool b) ∧ Below w.heap.size w w' := by
  have := l27Log_any D P c w hl
  rw [h] at this
  exact this
end Go.Proofs.YtpflnmejbialjaaDoor

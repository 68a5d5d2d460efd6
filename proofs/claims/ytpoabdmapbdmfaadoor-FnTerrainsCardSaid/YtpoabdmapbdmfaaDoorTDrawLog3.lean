/-
  The reference's draws of logs that may be spoilt.
-/
import Derived.Test.YtpoabdmapbdmfaaDoorTCur
import Derived.Test.YtpoabdmapbdmfaaDoorTPackA
import Derived.Test.YtpoabdmapbdmfaaDoorTRecD
import Derived.Test.YtpoabdmapbdmfaaDoorTPush
import Derived.Test.YtpoabdmapbdmfaaDoorTLogP
import Derived.Test.YtpoabdmapbdmfaaDoorTRecN
import Derived.Test.YtpoabdmapbdmfaaDoorTByt2
import Derived.Test.YtpoabdmapbdmfaaDoorTRegF
/-
  The reference's draws of logs that may be spoilt.
-/
namespace Go.Proofs.YtpoabdmapbdmfaaDoor
set_option linter.unusedSimpArgs false
set_option linter.unusedVariables false
open Go.RowKit

set_option maxRecDepth 100000 in
set_option maxHeartbeats 8000000 in
theorem spoilt_any {g : Nat} {ac : Option Addr} {nc cc : Nat} {l : List UInt8} {A : Nat} {w0 w : World} {G : List Ent} {F : Ent → List Ent} (t u : Bs) (hC : Rd FByt w0 ac nc cc l) (hM : Mem w0.heap.size w0 w G) (p : At G (curE g ac nc cc A) F) (hA : A ≤ 10000000) (ht : t.length ≤ 4194304) (hu : 0 < u.length) (hu2 : u.length ≤ 1000) :
    Calls Tryd.prog 80 #[.pointer (some ⟨g, 0, none⟩), .string (bsA t), .string (bsA u)] w fun e w' => ∃ s : Bs, s.length ≤ t.length + 1 ∧ e = .returned (.string (bsA s)) ∧ Mem w0.heap.size w0 w' (F (curE g ac nc cc (A + 6))) := by
  have HP := Lib.hid p
  have HC := Lib.hid hC
  clear p hC
  have S1 := bsA_size
  have S2 := bsA_app
  have S3 := bsA_list
  have S4 := nil_list
  cases h1 : t == []
  rotate_left
  · have E1 : (bsA u).extract 0 1 = bsA (u.take 1) := bsA_to u 1
    have hl1 : (u.take 1).length ≤ t.length + 1 := by rw [List.length_take]; omega
    generalize u.take 1 = u1 at E1 hl1
    go_enter Tryd.func80, Tryd.ntmps80
    go_wp2
    go_ret
    exact ⟨u1, hl1, rfl, hM.curMore HP.out (by omega)⟩
  have ht0 : 0 < t.length := by
    cases t with
    | nil => cases h1
    | cons x t => simp
  go_enter Tryd.func80, Tryd.ntmps80
  go_wp2_with fail
  apply Mem.atA
  · (repeat' (first | with_reducible exact hM | with_reducible exact hMp | with_reducible apply Mem.drew | with_reducible apply Mem.drewN | with_reducible apply Mem.alloc | with_reducible apply Mem.set | with_reducible exact Sto.row | ((with_reducible refine Sto.rowEq2 ?_ ?_); omega; rfl) | ((with_reducible refine Sto.rowEq ?_); omega) | with_reducible apply Sto.int | with_reducible apply Sto.there | with_reducible assumption | (unfold I64; omega) | (with_reducible (have hMx := Mem.undrew hM; exact hMx)) | (with_reducible (have hMx := Mem.undrew hMp; exact hMx))))
  clear hM
  intro wst hM
  (try simp only [World.size_alloc, World.size_setCell, World.heap_drewN, heapDrew, Nat.add_assoc, Nat.reduceAdd, List.setIfInBounds_toArray, List.set_cons_zero, List.set_cons_succ, List.cons_append, List.nil_append] at hM)
  (first | refine (pick_any (t.length : Int) HC.out hM HP.out (by omega)).mono ?_)
  rintro e wc1 ⟨i, hi, hi2, rfl, hm⟩
  clear hM
  have hM := hm
  clear hm
  try dsimp only at hM
  have hit := pick_lt hi (by omega)
  clear hi hi2
  go_wp2_with fail
  apply Mem.atA
  · (repeat' (first | with_reducible exact hM | with_reducible exact hMp | with_reducible apply Mem.drew | with_reducible apply Mem.drewN | with_reducible apply Mem.alloc | with_reducible apply Mem.set | with_reducible exact Sto.row | ((with_reducible refine Sto.rowEq2 ?_ ?_); omega; rfl) | ((with_reducible refine Sto.rowEq ?_); omega) | with_reducible apply Sto.int | with_reducible apply Sto.there | with_reducible assumption | (unfold I64; omega) | (with_reducible (have hMx := Mem.undrew hM; exact hMx)) | (with_reducible (have hMx := Mem.undrew hMp; exact hMx))))
  clear hM
  intro wst hM
  (try simp only [World.size_alloc, World.size_setCell, World.heap_drewN, heapDrew, Nat.add_assoc, Nat.reduceAdd, List.setIfInBounds_toArray, List.set_cons_zero, List.set_cons_succ, List.cons_append, List.nil_append] at hM)
  (first | refine (pick_any (u.length : Int) HC.out hM (HP.out.again _) (by omega)).mono ?_)
  rintro e wc2 ⟨j, hj, hj2, rfl, hm⟩
  clear hM
  have hM := hm
  clear hm
  try dsimp only at hM
  have hju := pick_lt hj (by omega)
  clear hj hj2
  have E2 : (bsA u).extract j u.length = bsA (u.drop j) := bsA_from u j
  have E3 : (bsA (u.drop j)).extract 0 1 = bsA ((u.drop j).take 1) := bsA_to _ 1
  have hl3 : ((u.drop j).take 1).length ≤ 1 := by rw [List.length_take]; omega
  have hdl : 1 ≤ (u.drop j).length := by rw [List.length_drop]; omega
  generalize (u.drop j).take 1 = v at E3 hl3
  generalize u.drop j = u2 at E2 E3 hdl
  have j0 : (0 : Int) ≤ (j : Int) ∧ (j : Int) ≤ (u.length : Int) := ⟨by omega, by omega⟩
  go_wp2_with fail
  apply Mem.atA
  · (repeat' (first | with_reducible exact hM | with_reducible exact hMp | with_reducible apply Mem.drew | with_reducible apply Mem.drewN | with_reducible apply Mem.alloc | with_reducible apply Mem.set | with_reducible exact Sto.row | ((with_reducible refine Sto.rowEq2 ?_ ?_); omega; rfl) | ((with_reducible refine Sto.rowEq ?_); omega) | with_reducible apply Sto.int | with_reducible apply Sto.there | with_reducible assumption | (unfold I64; omega) | (with_reducible (have hMx := Mem.undrew hM; exact hMx)) | (with_reducible (have hMx := Mem.undrew hMp; exact hMx))))
  clear hM
  intro wst hM
  (try simp only [World.size_alloc, World.size_setCell, World.heap_drewN, heapDrew, Nat.add_assoc, Nat.reduceAdd, List.setIfInBounds_toArray, List.set_cons_zero, List.set_cons_succ, List.cons_append, List.nil_append] at hM)
  (first | refine (pick_any 3 HC.out hM (HP.out.again _) (by omega)).mono ?_)
  rintro e wc3 ⟨r, hr, hr2, rfl, hm⟩
  clear hM
  have hM := hm
  clear hm
  try dsimp only at hM
  clear hr hr2
  clear E2 E3 hdl j0 hju
  have E4 : (bsA t).extract 0 i = bsA (t.take i) := bsA_to t i
  have E5 : (bsA t).extract i t.length = bsA (t.drop i) := bsA_from t i
  have E6 : (bsA t).extract (i + 1) t.length = bsA (t.drop (i + 1)) := bsA_from t (i + 1)
  have hl4 : (t.take i).length ≤ i := List.length_take_le _ _
  have hl5 : (t.drop i).length = t.length - i := List.length_drop
  have hl6 : (t.drop (i + 1)).length = t.length - (i + 1) := List.length_drop
  have hl5' : (t.drop i).length ≤ t.length - i := by omega
  have hl6' : (t.drop (i + 1)).length + i + 1 ≤ t.length := by omega
  clear hl5 hl6
  generalize t.take i = ta at E4 hl4
  generalize t.drop i = tb at E5 hl5'
  generalize t.drop (i + 1) = tc at E6 hl6'
  have i0 : (0 : Int) ≤ (i : Int) ∧ (i : Int) ≤ (t.length : Int) := ⟨by omega, by omega⟩
  have i1 : (0 : Int) ≤ (i : Int) + 1 ∧ (i : Int) + 1 ≤ (t.length : Int) := ⟨by omega, by omega⟩
  have i2 : ((i : Int) + 1).toNat = i + 1 := by omega
  have hw : IntKind.i64.wrap ((i : Int) + 1) = (i : Int) + 1 := by rw [wrap_in (by omega)]
  have c1 : ¬ 9223372036854775807 < ta.length + v.length := by omega
  have c2 : ¬ 9223372036854775807 < (ta ++ v).length + tb.length := by rw [List.length_append]; omega
  have c3 : ¬ 9223372036854775807 < (ta ++ v).length + tc.length := by rw [List.length_append]; omega
  have c4 : ¬ 9223372036854775807 < ta.length + tc.length := by omega
  by_cases h0 : r = 0
  · subst h0
    go_wp2
    go_quiet (fail)
    go_wp2
    go_ret
    exact ⟨ta ++ (v ++ tb), by simp only [List.length_append]; omega, rfl, (hM.drewN _).curMore (HP.out.again _) (by omega)⟩
  by_cases h1 : r = 1
  · subst h1
    go_wp2
    go_quiet (fail)
    go_wp2
    go_ret
    exact ⟨ta ++ (v ++ tc), by simp only [List.length_append]; omega, rfl, (hM.drewN _).curMore (HP.out.again _) (by omega)⟩
  have h0' : ¬ (r : Int) = 0 := by omega
  have h1' : ¬ (r : Int) = 1 := by omega
  go_wp2
  go_quiet (fail)
  go_wp2
  go_ret
  exact ⟨ta ++ tc, by simp only [List.length_append]; omega, rfl, (hM.drewN _).curMore (HP.out.again _) (by omega)⟩

end Go.Proofs.YtpoabdmapbdmfaaDoor

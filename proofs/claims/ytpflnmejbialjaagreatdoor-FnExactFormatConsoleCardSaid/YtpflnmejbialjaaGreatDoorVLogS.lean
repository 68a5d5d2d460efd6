/-
  Is a log valid: the reference; what the functions over logs return.
-/
import Derived.Test.YtpflnmejbialjaaGreatDoorVRecO
/-
  Is a log valid: the reference; what the functions over logs return.
-/
namespace Go.Proofs.YtpflnmejbialjaaGreatDoor
set_option linter.unusedSimpArgs false
set_option linter.unusedVariables false
open Go.RowKit

theorem okS_bool (D P : Bs) (c : Int) : okS D P c = (decide (D.length + P.length ≤ 30000) && (((endLB (openLB (D ++ P)) : Int) == (D.length : Int) + (P.length : Int)) && ((endLB (openLB D) : Int) == (D.length : Int)) && (((openLB (D ++ P)).length : Int) == c))) := by
  unfold okS
  congr 1
  rw [Bool.eq_iff_iff]
  simp only [Bool.and_eq_true, decide_eq_true_eq, beq_iff_eq]
  constructor
  · rintro ⟨⟨h1, h2⟩, h3⟩
    exact ⟨⟨by omega, by omega⟩, h3⟩
  · rintro ⟨⟨h1, h2⟩, h3⟩
    exact ⟨⟨by omega, by omega⟩, h3⟩

set_option maxRecDepth 100000 in
set_option maxHeartbeats 8000000 in
theorem l27Log_any (D P : Bs) (c : Int) (w : World) (hl : D.length + P.length ≤ 4194304) :
    Calls Tryz.prog 33 #[.agg #[.string (bsA D), .string (bsA P), .int .i64 c]] w fun e w' => e = .returned (.bool (okI D P c)) ∧ Below w.heap.size w w' := by
  have hM := Mem.start w
  have S1 := bsA_size
  have S2 := bsA_app
  have hcat : ¬ 9223372036854775807 < D.length + P.length := by omega
  have hll : (D ++ P).length ≤ 4194304 := by rw [List.length_append]; exact hl
  have HO := Lib.hid (show okI D P c = _ from (okI_okS D P c).trans (okS_bool D P c))
  by_cases h1 : D.length + P.length ≤ 30000
  rotate_left
  · have HR := Lib.hid (show okI D P c = false by rw [HO.out, decide_eq_false h1]; rfl)
    go_enter Tryz.func33, Tryz.ntmps33
    go_wp2
    go_ret
    exact ⟨rb (by rw [HR.out]), (by apply Mem.below; (repeat' (first | with_reducible exact hM | with_reducible exact hMp | with_reducible apply Mem.drew | with_reducible apply Mem.drewN | with_reducible apply Mem.alloc | with_reducible apply Mem.set | with_reducible exact Sto.row | ((with_reducible refine Sto.rowEq2 ?_ ?_); omega; rfl) | ((with_reducible refine Sto.rowEq ?_); omega) | with_reducible apply Sto.int | with_reducible apply Sto.there | with_reducible assumption | (unfold I64; omega) | (with_reducible (have hMx := Mem.undrew hM; exact hMx)) | (with_reducible (have hMx := Mem.undrew hMp; exact hMx)))))⟩
  rw [decide_eq_true h1, Bool.true_and] at HO
  go_enter Tryz.func33, Tryz.ntmps33
  go_wp2_with fail
  apply Mem.atA
  · (repeat' (first | with_reducible exact hM | with_reducible exact hMp | with_reducible apply Mem.drew | with_reducible apply Mem.drewN | with_reducible apply Mem.alloc | with_reducible apply Mem.set | with_reducible exact Sto.row | ((with_reducible refine Sto.rowEq2 ?_ ?_); omega; rfl) | ((with_reducible refine Sto.rowEq ?_); omega) | with_reducible apply Sto.int | with_reducible apply Sto.there | with_reducible assumption | (unfold I64; omega) | (with_reducible (have hMx := Mem.undrew hM; exact hMx)) | (with_reducible (have hMx := Mem.undrew hMp; exact hMx))))
  clear hM
  intro wst hM
  (try simp only [World.size_alloc, World.size_setCell, World.heap_drewN, heapDrew, Nat.add_assoc, Nat.reduceAdd, List.setIfInBounds_toArray, List.set_cons_zero, List.set_cons_succ, List.cons_append, List.nil_append] at hM)
  (first | refine (l27Open_any (D ++ P) _ hll).mono ?_)
  rintro e wc1 ⟨a1, c1, rfl, hm⟩
  replace hM := hM.join hm
  clear hm
  (try simp only [World.size_alloc, World.size_setCell, World.heap_drewN, heapDrew, Nat.add_assoc, Nat.reduceAdd, List.setIfInBounds_toArray, List.set_cons_zero, List.set_cons_succ, List.cons_append, List.nil_append] at hM)
  generalize openLB (D ++ P) = rs at HO hM ⊢
  have hr := (hM.ow .here).rd.nroom
  obtain ⟨k1, f1, l1⟩ := hM.row (.there .here)
  go_wp2_with fail
  clear k1 f1 l1
  apply Mem.atA
  · (repeat' (first | with_reducible exact hM | with_reducible exact hMp | with_reducible apply Mem.drew | with_reducible apply Mem.drewN | with_reducible apply Mem.alloc | with_reducible apply Mem.set | with_reducible exact Sto.row | ((with_reducible refine Sto.rowEq2 ?_ ?_); omega; rfl) | ((with_reducible refine Sto.rowEq ?_); omega) | with_reducible apply Sto.int | with_reducible apply Sto.there | with_reducible assumption | (unfold I64; omega) | (with_reducible (have hMx := Mem.undrew hM; exact hMx)) | (with_reducible (have hMx := Mem.undrew hMp; exact hMx))))
  clear hM
  intro wst hM
  (try simp only [World.size_alloc, World.size_setCell, World.heap_drewN, heapDrew, Nat.add_assoc, Nat.reduceAdd, List.setIfInBounds_toArray, List.set_cons_zero, List.set_cons_succ, List.cons_append, List.nil_append] at hM)
  (first | refine (l27Open_any D _ (by omega)).mono ?_)
  rintro e wc2 ⟨a2, c2, rfl, hm⟩
  replace hM := hM.join hm
  clear hm
  (try simp only [World.size_alloc, World.size_setCell, World.heap_drewN, heapDrew, Nat.add_assoc, Nat.reduceAdd, List.setIfInBounds_toArray, List.set_cons_zero, List.set_cons_succ, List.cons_append, List.nil_append] at hM)
  generalize openLB D = ds at HO hM ⊢
  obtain ⟨k2, f2, l2⟩ := hM.row (.there (.there .here))
  cases h2 : (endLB rs : Int) == (D.length : Int) + (P.length : Int)
  · have HR := Lib.hid (show okI D P c = false by rw [HO.out, h2]; rfl)
    go_wp2
    go_ret
    exact ⟨rb (by rw [HR.out]), (by apply Mem.below; (repeat' (first | with_reducible exact hM | with_reducible exact hMp | with_reducible apply Mem.drew | with_reducible apply Mem.drewN | with_reducible apply Mem.alloc | with_reducible apply Mem.set | with_reducible exact Sto.row | ((with_reducible refine Sto.rowEq2 ?_ ?_); omega; rfl) | ((with_reducible refine Sto.rowEq ?_); omega) | with_reducible apply Sto.int | with_reducible apply Sto.there | with_reducible assumption | (unfold I64; omega) | (with_reducible (have hMx := Mem.undrew hM; exact hMx)) | (with_reducible (have hMx := Mem.undrew hMp; exact hMx)))))⟩
  cases h3 : (endLB ds : Int) == (D.length : Int)
  · have HR := Lib.hid (show okI D P c = false by rw [HO.out, h3, Bool.and_false]; rfl)
    go_wp2
    go_ret
    exact ⟨rb (by rw [HR.out]), (by apply Mem.below; (repeat' (first | with_reducible exact hM | with_reducible exact hMp | with_reducible apply Mem.drew | with_reducible apply Mem.drewN | with_reducible apply Mem.alloc | with_reducible apply Mem.set | with_reducible exact Sto.row | ((with_reducible refine Sto.rowEq2 ?_ ?_); omega; rfl) | ((with_reducible refine Sto.rowEq ?_); omega) | with_reducible apply Sto.int | with_reducible apply Sto.there | with_reducible assumption | (unfold I64; omega) | (with_reducible (have hMx := Mem.undrew hM; exact hMx)) | (with_reducible (have hMx := Mem.undrew hMp; exact hMx)))))⟩
  have HR := Lib.hid (show okI D P c = ((rs.length : Int) == c) by rw [HO.out, h2, h3]; rfl)
  go_wp2
  go_ret
  exact ⟨rb (by rw [HR.out]), (by apply Mem.below; (repeat' (first | with_reducible exact hM | with_reducible exact hMp | with_reducible apply Mem.drew | with_reducible apply Mem.drewN | with_reducible apply Mem.alloc | with_reducible apply Mem.set | with_reducible exact Sto.row | ((with_reducible refine Sto.rowEq2 ?_ ?_); omega; rfl) | ((with_reducible refine Sto.rowEq ?_); omega) | with_reducible apply Sto.int | with_reducible apply Sto.there | with_reducible assumption | (unfold I64; omega) | (with_reducible (have hMx := Mem.undrew hM; exact hMx)) | (with_reducible (have hMx := Mem.undrew hMp; exact hMx)))))⟩

/-- a log -/
abbrev logV (D P : Bs) (c : Int) : Value := .agg #[.string (bsA D), .string (bsA P), .int .i64 c]
end Go.Proofs.YtpflnmejbialjaaGreatDoor

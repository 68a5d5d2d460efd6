/-
  The law FnExactLogRecords, walked.
-/
import Derived.Test.YtkpicemjiokdpaaDoorRecS
import Derived.Test.YtkpicemjiokdpaaDoorLogR
import Derived.Test.YtkpicemjiokdpaaDoorLogW
namespace Go.Proofs.YtkpicemjiokdpaaDoor
set_option linter.unusedSimpArgs false
set_option linter.unusedVariables false
open Go.RowKit

def recsL (D P : Bs) (c : Int) : List RecB := if okI D P c then openB (D ++ P) else []
theorem recsL_len {D P : Bs} {c : Int} : (recsL D P c).length ≤ 60 := by
  unfold recsL
  split
  · rename_i h
    obtain ⟨k, hk, hk60, -⟩ := app_parts h
    obtain ⟨_, _, _, _, hc⟩ := okI_parts h
    omega
  · exact Nat.zero_le _
theorem implRecs_u (D P : Bs) (c : Int) (w : World) (ht : Tab w) (hl : D.length + P.length ≤ 4194304) :
    Calls Tryd.prog 32 #[logV D P c] w fun e w' => ∃ a1 c1, e = .returned (.tuple #[.slice a1 (recsL D P c).length c1, .bool (okI D P c)]) ∧ Mem w.heap.size w w' [owE FRec 27 a1 (recsL D P c).length c1 (recsL D P c)] := by
  cases h : okI D P c
  · refine (implRecs_no D P c w h ht hl).mono ?_
    rintro e w' ⟨rfl, hb⟩
    rw [show recsL D P c = [] by rw [recsL, h]; rfl]
    exact ⟨none, 0, rfl, (Mem.start w).owned hb (ow_nil FRec _ _ _)⟩
  · have := implRecs_ok D P c w h ht hl
    rw [show recsL D P c = openB (D ++ P) by rw [recsL, h]; rfl]
    exact this
theorem specRecs_u (D P : Bs) (c : Int) (w : World) (hl : D.length + P.length ≤ 4194304) :
    Calls Tryd.prog 31 #[logV D P c] w fun e w' => ∃ a1 c1, e = .returned (.tuple #[.slice a1 (recsL D P c).length c1, .bool (okI D P c)]) ∧ Mem w.heap.size w w' [owE FRec 27 a1 (recsL D P c).length c1 (recsL D P c)] := by
  cases h : okI D P c
  · rw [show recsL D P c = [] by rw [recsL, h]; rfl]
    exact specRecs_no D P c w h hl
  · have := specRecs_ok D P c w h hl
    rw [show recsL D P c = openB (D ++ P) by rw [recsL, h]; rfl]
    exact this

set_option maxRecDepth 100000 in
set_option maxHeartbeats 8000000 in
theorem FnExactLogRecords_walk (D P : Bs) (c : Int) (w : World) (ht : Tab w) (hD : D.length ≤ maxLen) (hP : P.length ≤ maxLen) :
    Calls Tryd.prog 9 #[logV D P c] w fun e w' => e = .returned (.bool true) ∧ Below w.heap.size w w' := by
  have hM := Mem.start w
  have HT := Lib.hid ht; clear ht
  go_enter Tryd.func9, Tryd.ntmps9
  go_wp2_with fail
  apply Mem.atA
  · (repeat' (first | with_reducible exact hM | with_reducible exact hMp | with_reducible apply Mem.drew | with_reducible apply Mem.drewN | with_reducible apply Mem.alloc | with_reducible apply Mem.set | with_reducible exact Sto.row | ((with_reducible refine Sto.rowEq2 ?_ ?_); omega; rfl) | ((with_reducible refine Sto.rowEq ?_); omega) | with_reducible apply Sto.int | with_reducible apply Sto.there | with_reducible assumption | (unfold I64; omega) | (with_reducible (have hMx := Mem.undrew hM; exact hMx)) | (with_reducible (have hMx := Mem.undrew hMp; exact hMx))))
  clear hM
  intro wst hM
  (try simp only [World.size_alloc, World.size_setCell, World.heap_drewN, heapDrew, Nat.add_assoc, Nat.reduceAdd, List.setIfInBounds_toArray, List.set_cons_zero, List.set_cons_succ, List.cons_append, List.nil_append] at hM)
  refine (szLog_any D P c 1048576 _ (by omega) (by omega) hD hP).mono ?_
  rintro e wc1 ⟨rfl, hb⟩
  replace hM := hM.ext hb
  clear hb
  by_cases hz : szT 1048576 D.length P.length < 0
  · skip
    obtain ⟨k0, f0, l0⟩ := hM.row .here
    go_wp2
    go_ret
    exact ⟨rfl, (by apply Mem.below; (repeat' (first | with_reducible exact hM | with_reducible exact hMp | with_reducible apply Mem.drew | with_reducible apply Mem.drewN | with_reducible apply Mem.alloc | with_reducible apply Mem.set | with_reducible exact Sto.row | ((with_reducible refine Sto.rowEq2 ?_ ?_); omega; rfl) | ((with_reducible refine Sto.rowEq ?_); omega) | with_reducible apply Sto.int | with_reducible apply Sto.there | with_reducible assumption | (unfold I64; omega) | (with_reducible (have hMx := Mem.undrew hM; exact hMx)) | (with_reducible (have hMx := Mem.undrew hMp; exact hMx)))))⟩
  obtain ⟨hs, -⟩ := szT_pos hz
  have hn60 := recsL_len (D := D) (P := P) (c := c)
  have HI := Lib.hid (fun w ht => implRecs_u D P c w ht (by omega))
  have HS := Lib.hid (fun w => specRecs_u D P c w (by omega))
  generalize recsL D P c = rs at HI HS hn60
  generalize okI D P c = b at HI HS
  have hbb : (b != b) = false := by simp
  obtain ⟨m, hm⟩ : ∃ m : Nat, m = 1 + 2 * rs.length := ⟨_, rfl⟩
  have hmm : ((m : Int) != (m : Int)) = false := by simp
  have hm0 : ¬ ((m : Int) < 0) := by omega
  obtain ⟨k0, f0, l0⟩ := hM.row .here
  go_wp2_with fail
  clear k0 f0 l0
  apply Mem.atA
  · (repeat' (first | with_reducible exact hM | with_reducible exact hMp | with_reducible apply Mem.drew | with_reducible apply Mem.drewN | with_reducible apply Mem.alloc | with_reducible apply Mem.set | with_reducible exact Sto.row | ((with_reducible refine Sto.rowEq2 ?_ ?_); omega; rfl) | ((with_reducible refine Sto.rowEq ?_); omega) | with_reducible apply Sto.int | with_reducible apply Sto.there | with_reducible assumption | (unfold I64; omega) | (with_reducible (have hMx := Mem.undrew hM; exact hMx)) | (with_reducible (have hMx := Mem.undrew hMp; exact hMx))))
  clear hM
  intro wst hM
  (try simp only [World.size_alloc, World.size_setCell, World.heap_drewN, heapDrew, Nat.add_assoc, Nat.reduceAdd, List.setIfInBounds_toArray, List.set_cons_zero, List.set_cons_succ, List.cons_append, List.nil_append] at hM)
  apply Calls.mono
  · (apply toLog_any) <;> (first | (show (_ : Prop); with_reducible assumption) | (apply Hid.out; with_reducible assumption) | (apply Mem.intsR hM; (repeat' (first | with_reducible exact In.here | with_reducible apply In.there)); done) | (apply Ints.ext (hb := hM.below); with_reducible assumption) | (apply Rd.ext (hb := hM.below); with_reducible assumption) | (apply Mem.row hM; (repeat' (first | with_reducible exact In.here | with_reducible apply In.there)); done) | (apply Row.ext (hb := hM.below); with_reducible assumption) | exact ⟨by omega, by omega⟩ | omega | (trace_state; fail))
  rintro e wc2 ⟨rfl, hb⟩
  replace hM := hM.ext hb
  clear hb
  go_wp2_with fail
  apply Mem.atA
  · (repeat' (first | with_reducible exact hM | with_reducible exact hMp | with_reducible apply Mem.drew | with_reducible apply Mem.drewN | with_reducible apply Mem.alloc | with_reducible apply Mem.set | with_reducible exact Sto.row | ((with_reducible refine Sto.rowEq2 ?_ ?_); omega; rfl) | ((with_reducible refine Sto.rowEq ?_); omega) | with_reducible apply Sto.int | with_reducible apply Sto.there | with_reducible assumption | (unfold I64; omega) | (with_reducible (have hMx := Mem.undrew hM; exact hMx)) | (with_reducible (have hMx := Mem.undrew hMp; exact hMx))))
  clear hM
  intro wst hM
  (try simp only [World.size_alloc, World.size_setCell, World.heap_drewN, heapDrew, Nat.add_assoc, Nat.reduceAdd, List.setIfInBounds_toArray, List.set_cons_zero, List.set_cons_succ, List.cons_append, List.nil_append] at hM)
  refine (HS.out _).mono ?_
  rintro e wc3 ⟨a1, c1, rfl, hm⟩
  replace hM := hM.join hm
  clear hm
  (try simp only [World.size_alloc, World.size_setCell, World.heap_drewN, heapDrew, Nat.add_assoc, Nat.reduceAdd, List.setIfInBounds_toArray, List.set_cons_zero, List.set_cons_succ, List.cons_append, List.nil_append] at hM)
  obtain ⟨k1, f1, l1⟩ := hM.row (.there .here)
  go_wp2_with fail
  clear k1 f1 l1
  apply Mem.atA
  · (repeat' (first | with_reducible exact hM | with_reducible exact hMp | with_reducible apply Mem.drew | with_reducible apply Mem.drewN | with_reducible apply Mem.alloc | with_reducible apply Mem.set | with_reducible exact Sto.row | ((with_reducible refine Sto.rowEq2 ?_ ?_); omega; rfl) | ((with_reducible refine Sto.rowEq ?_); omega) | with_reducible apply Sto.int | with_reducible apply Sto.there | with_reducible assumption | (unfold I64; omega) | (with_reducible (have hMx := Mem.undrew hM; exact hMx)) | (with_reducible (have hMx := Mem.undrew hMp; exact hMx))))
  clear hM
  intro wst hM
  (try simp only [World.size_alloc, World.size_setCell, World.heap_drewN, heapDrew, Nat.add_assoc, Nat.reduceAdd, List.setIfInBounds_toArray, List.set_cons_zero, List.set_cons_succ, List.cons_append, List.nil_append] at hM)
  apply Calls.mono
  · (apply toLog_any) <;> (first | (show (_ : Prop); with_reducible assumption) | (apply Hid.out; with_reducible assumption) | (apply Mem.intsR hM; (repeat' (first | with_reducible exact In.here | with_reducible apply In.there)); done) | (apply Ints.ext (hb := hM.below); with_reducible assumption) | (apply Rd.ext (hb := hM.below); with_reducible assumption) | (apply Mem.row hM; (repeat' (first | with_reducible exact In.here | with_reducible apply In.there)); done) | (apply Row.ext (hb := hM.below); with_reducible assumption) | exact ⟨by omega, by omega⟩ | omega | (trace_state; fail))
  rintro e wc4 ⟨rfl, hb⟩
  replace hM := hM.ext hb
  clear hb
  go_wp2_with fail
  apply Mem.atA
  · (repeat' (first | with_reducible exact hM | with_reducible exact hMp | with_reducible apply Mem.drew | with_reducible apply Mem.drewN | with_reducible apply Mem.alloc | with_reducible apply Mem.set | with_reducible exact Sto.row | ((with_reducible refine Sto.rowEq2 ?_ ?_); omega; rfl) | ((with_reducible refine Sto.rowEq ?_); omega) | with_reducible apply Sto.int | with_reducible apply Sto.there | with_reducible assumption | (unfold I64; omega) | (with_reducible (have hMx := Mem.undrew hM; exact hMx)) | (with_reducible (have hMx := Mem.undrew hMp; exact hMx))))
  clear hM
  intro wst hM
  (try simp only [World.size_alloc, World.size_setCell, World.heap_drewN, heapDrew, Nat.add_assoc, Nat.reduceAdd, List.setIfInBounds_toArray, List.set_cons_zero, List.set_cons_succ, List.cons_append, List.nil_append] at hM)
  refine (HI.out _ (HT.out.ext hM.below)).mono ?_
  rintro e wc5 ⟨a2, c2, rfl, hm⟩
  replace hM := hM.join hm
  clear hm
  (try simp only [World.size_alloc, World.size_setCell, World.heap_drewN, heapDrew, Nat.add_assoc, Nat.reduceAdd, List.setIfInBounds_toArray, List.set_cons_zero, List.set_cons_succ, List.cons_append, List.nil_append] at hM)
  go_wp2_with fail
  apply Mem.atA
  · (repeat' (first | with_reducible exact hM | with_reducible exact hMp | with_reducible apply Mem.drew | with_reducible apply Mem.drewN | with_reducible apply Mem.alloc | with_reducible apply Mem.set | with_reducible exact Sto.row | ((with_reducible refine Sto.rowEq2 ?_ ?_); omega; rfl) | ((with_reducible refine Sto.rowEq ?_); omega) | with_reducible apply Sto.int | with_reducible apply Sto.there | with_reducible assumption | (unfold I64; omega) | (with_reducible (have hMx := Mem.undrew hM; exact hMx)) | (with_reducible (have hMx := Mem.undrew hMp; exact hMx))))
  clear hM
  intro wst hM
  (try simp only [World.size_alloc, World.size_setCell, World.heap_drewN, heapDrew, Nat.add_assoc, Nat.reduceAdd, List.setIfInBounds_toArray, List.set_cons_zero, List.set_cons_succ, List.cons_append, List.nil_append] at hM)
  refine (eqRecS_same a2 _ c2 rs a1 c1 _ (hM.ow .here).rd (hM.ow (.there .here)).rd).mono ?_
  rintro e wc6 ⟨rfl, hb⟩
  replace hM := hM.ext hb
  clear hb
  go_wp2_with fail
  apply Mem.at
  · (repeat' (first | with_reducible exact hM | with_reducible exact hMp | with_reducible apply Mem.drew | with_reducible apply Mem.drewN | with_reducible apply Mem.alloc | with_reducible apply Mem.set | with_reducible exact Sto.row | ((with_reducible refine Sto.rowEq2 ?_ ?_); omega; rfl) | ((with_reducible refine Sto.rowEq ?_); omega) | with_reducible apply Sto.int | with_reducible apply Sto.there | with_reducible assumption | (unfold I64; omega) | (with_reducible (have hMx := Mem.undrew hM; exact hMx)) | (with_reducible (have hMx := Mem.undrew hMp; exact hMx))))
  clear hM
  intro hM
  (try simp only [World.size_alloc, World.size_setCell, World.heap_drewN, heapDrew, Nat.add_assoc, Nat.reduceAdd, List.setIfInBounds_toArray, List.set_cons_zero, List.set_cons_succ, List.cons_append, List.nil_append] at hM)
  have hmk := markRecS_any _ _ _ a2 rs.length c2 rs 1 _ hM (by decide) (by omega)
  rw [← hm] at hmk
  refine hmk.mono ?_
  clear hmk
  rintro e w8 ⟨rfl, hM2⟩
  replace hM := hM2
  clear hM2
  have hhd := fun w h => heldRecS_any a2 rs.length c2 1 w h (by decide) (by omega)
  rw [← hm] at hhd
  have HH := Lib.hid hhd
  clear hhd hm
  go_wp2_with fail
  apply Mem.atA
  · (repeat' (first | with_reducible exact hM | with_reducible exact hMp | with_reducible apply Mem.drew | with_reducible apply Mem.drewN | with_reducible apply Mem.alloc | with_reducible apply Mem.set | with_reducible exact Sto.row | ((with_reducible refine Sto.rowEq2 ?_ ?_); omega; rfl) | ((with_reducible refine Sto.rowEq ?_); omega) | with_reducible apply Sto.int | with_reducible apply Sto.there | with_reducible assumption | (unfold I64; omega) | (with_reducible (have hMx := Mem.undrew hM; exact hMx)) | (with_reducible (have hMx := Mem.undrew hMp; exact hMx))))
  clear hM
  intro wst hM
  (try simp only [World.size_alloc, World.size_setCell, World.heap_drewN, heapDrew, Nat.add_assoc, Nat.reduceAdd, List.setIfInBounds_toArray, List.set_cons_zero, List.set_cons_succ, List.cons_append, List.nil_append] at hM)
  refine (HH.out _ (hM.ow .here).rd).mono ?_
  rintro e wc7 ⟨rfl, hb⟩
  replace hM := hM.ext hb
  clear hb
  obtain ⟨k2, f2, l2⟩ := hM.row (.there (.there .here))
  go_wp2_with fail
  clear k2 f2 l2
  apply Mem.atA
  · (repeat' (first | with_reducible exact hM | with_reducible exact hMp | with_reducible apply Mem.drew | with_reducible apply Mem.drewN | with_reducible apply Mem.alloc | with_reducible apply Mem.set | with_reducible exact Sto.row | ((with_reducible refine Sto.rowEq2 ?_ ?_); omega; rfl) | ((with_reducible refine Sto.rowEq ?_); omega) | with_reducible apply Sto.int | with_reducible apply Sto.there | with_reducible assumption | (unfold I64; omega) | (with_reducible (have hMx := Mem.undrew hM; exact hMx)) | (with_reducible (have hMx := Mem.undrew hMp; exact hMx))))
  clear hM
  intro wst hM
  (try simp only [World.size_alloc, World.size_setCell, World.heap_drewN, heapDrew, Nat.add_assoc, Nat.reduceAdd, List.setIfInBounds_toArray, List.set_cons_zero, List.set_cons_succ, List.cons_append, List.nil_append] at hM)
  apply Calls.mono
  · (apply toLog_any) <;> (first | (show (_ : Prop); with_reducible assumption) | (apply Hid.out; with_reducible assumption) | (apply Mem.intsR hM; (repeat' (first | with_reducible exact In.here | with_reducible apply In.there)); done) | (apply Ints.ext (hb := hM.below); with_reducible assumption) | (apply Rd.ext (hb := hM.below); with_reducible assumption) | (apply Mem.row hM; (repeat' (first | with_reducible exact In.here | with_reducible apply In.there)); done) | (apply Row.ext (hb := hM.below); with_reducible assumption) | exact ⟨by omega, by omega⟩ | omega | (trace_state; fail))
  rintro e wc8 ⟨rfl, hb⟩
  replace hM := hM.ext hb
  clear hb
  go_wp2_with fail
  apply Mem.atA
  · (repeat' (first | with_reducible exact hM | with_reducible exact hMp | with_reducible apply Mem.drew | with_reducible apply Mem.drewN | with_reducible apply Mem.alloc | with_reducible apply Mem.set | with_reducible exact Sto.row | ((with_reducible refine Sto.rowEq2 ?_ ?_); omega; rfl) | ((with_reducible refine Sto.rowEq ?_); omega) | with_reducible apply Sto.int | with_reducible apply Sto.there | with_reducible assumption | (unfold I64; omega) | (with_reducible (have hMx := Mem.undrew hM; exact hMx)) | (with_reducible (have hMx := Mem.undrew hMp; exact hMx))))
  clear hM
  intro wst hM
  (try simp only [World.size_alloc, World.size_setCell, World.heap_drewN, heapDrew, Nat.add_assoc, Nat.reduceAdd, List.setIfInBounds_toArray, List.set_cons_zero, List.set_cons_succ, List.cons_append, List.nil_append] at hM)
  refine (HI.out _ (HT.out.ext hM.below)).mono ?_
  rintro e wc9 ⟨a3, c3, rfl, hm⟩
  replace hM := hM.join hm
  clear hm
  (try simp only [World.size_alloc, World.size_setCell, World.heap_drewN, heapDrew, Nat.add_assoc, Nat.reduceAdd, List.setIfInBounds_toArray, List.set_cons_zero, List.set_cons_succ, List.cons_append, List.nil_append] at hM)
  go_wp2_with fail
  apply Mem.atA
  · (repeat' (first | with_reducible exact hM | with_reducible exact hMp | with_reducible apply Mem.drew | with_reducible apply Mem.drewN | with_reducible apply Mem.alloc | with_reducible apply Mem.set | with_reducible exact Sto.row | ((with_reducible refine Sto.rowEq2 ?_ ?_); omega; rfl) | ((with_reducible refine Sto.rowEq ?_); omega) | with_reducible apply Sto.int | with_reducible apply Sto.there | with_reducible assumption | (unfold I64; omega) | (with_reducible (have hMx := Mem.undrew hM; exact hMx)) | (with_reducible (have hMx := Mem.undrew hMp; exact hMx))))
  clear hM
  intro wst hM
  (try simp only [World.size_alloc, World.size_setCell, World.heap_drewN, heapDrew, Nat.add_assoc, Nat.reduceAdd, List.setIfInBounds_toArray, List.set_cons_zero, List.set_cons_succ, List.cons_append, List.nil_append] at hM)
  refine (eqRecS_same a3 _ c3 rs a1 c1 _ (hM.ow .here).rd (hM.ow (.there (.there .here))).rd).mono ?_
  rintro e wc10 ⟨rfl, hb⟩
  replace hM := hM.ext hb
  clear hb
  go_wp2_with fail
  apply Mem.atA
  · (repeat' (first | with_reducible exact hM | with_reducible exact hMp | with_reducible apply Mem.drew | with_reducible apply Mem.drewN | with_reducible apply Mem.alloc | with_reducible apply Mem.set | with_reducible exact Sto.row | ((with_reducible refine Sto.rowEq2 ?_ ?_); omega; rfl) | ((with_reducible refine Sto.rowEq ?_); omega) | with_reducible apply Sto.int | with_reducible apply Sto.there | with_reducible assumption | (unfold I64; omega) | (with_reducible (have hMx := Mem.undrew hM; exact hMx)) | (with_reducible (have hMx := Mem.undrew hMp; exact hMx))))
  clear hM
  intro wst hM
  (try simp only [World.size_alloc, World.size_setCell, World.heap_drewN, heapDrew, Nat.add_assoc, Nat.reduceAdd, List.setIfInBounds_toArray, List.set_cons_zero, List.set_cons_succ, List.cons_append, List.nil_append] at hM)
  refine (HH.out _ (hM.ow (.there .here)).rd).mono ?_
  rintro e wc11 ⟨rfl, hb⟩
  replace hM := hM.ext hb
  clear hb
  go_wp2
  go_ret
  exact ⟨rfl, (by apply Mem.below; (repeat' (first | with_reducible exact hM | with_reducible exact hMp | with_reducible apply Mem.drew | with_reducible apply Mem.drewN | with_reducible apply Mem.alloc | with_reducible apply Mem.set | with_reducible exact Sto.row | ((with_reducible refine Sto.rowEq2 ?_ ?_); omega; rfl) | ((with_reducible refine Sto.rowEq ?_); omega) | with_reducible apply Sto.int | with_reducible apply Sto.there | with_reducible assumption | (unfold I64; omega) | (with_reducible (have hMx := Mem.undrew hM; exact hMx)) | (with_reducible (have hMx := Mem.undrew hMp; exact hMx)))))⟩
end Go.Proofs.YtkpicemjiokdpaaDoor

import Derived.Test.YtlmdckocjlogkaaRunB
import Derived.Test.YtlmdckocjlogkaaInc
namespace Go.Proofs.Ytlmdckocjlogkaa
set_option linter.unusedSimpArgs false
set_option linter.unusedVariables false
open Go.RowKit

set_option maxRecDepth 100000 in
set_option maxHeartbeats 8000000 in
theorem FnExactRunActions_walk (p0_0 : Int) (p0_1 : Int) (a0_2 : Option Addr) (n0_2 c0_2 : Nat) (xs0_2 : List Int) (a0_3 : Option Addr) (n0_3 c0_3 : Nat) (xs0_3 : List Int) (a0_4 : Option Addr) (n0_4 c0_4 : Nat) (xs0_4 : List Int) (p0_5 : Int) (a1_0 : Option Addr) (n1_0 c1_0 : Nat) (xs1_0 : List ActionI) (w : World) (hp0_0 : I64 p0_0) (hp0_1 : I64 p0_1) (I0_2 : Ints w a0_2 n0_2 c0_2 xs0_2) (I0_3 : Ints w a0_3 n0_3 c0_3 xs0_3) (I0_4 : Ints w a0_4 n0_4 c0_4 xs0_4) (hp0_5 : I64 p0_5) (I1_0 : Rd FAction w a1_0 n1_0 c1_0 xs1_0) :
    Calls Try.prog 11 #[.agg #[.int .i64 p0_0, .int .i64 p0_1, .slice a0_2 n0_2 c0_2, .slice a0_3 n0_3 c0_3, .slice a0_4 n0_4 c0_4, .int .i64 p0_5], .slice a1_0 n1_0 c1_0] w fun e w' => e = .returned (.bool true) ∧ Below w.heap.size w w' := by
  have hr0_2 := I0_2.room
  have hr0_3 := I0_3.room
  have hr0_4 := I0_4.room
  have hr1_0 := I1_0.nroom
  have hM := Mem.start w
  go_enter Try.func11, Try.ntmps11
  go_wp2_with fail
  apply Mem.at
  · (repeat' (first | with_reducible exact hM | with_reducible exact hMp | with_reducible apply Mem.drew | with_reducible apply Mem.drewN | with_reducible apply Mem.alloc | with_reducible apply Mem.set | with_reducible exact Sto.row | ((with_reducible refine Sto.rowEq2 ?_ ?_); omega; rfl) | ((with_reducible refine Sto.rowEq ?_); omega) | with_reducible apply Sto.int | with_reducible apply Sto.there | with_reducible assumption | (unfold I64; omega) | (with_reducible (have hMx := Mem.undrew hM; exact hMx)) | (with_reducible (have hMx := Mem.undrew hMp; exact hMx))))
  clear hM
  intro hM
  (try simp only [World.size_alloc, World.size_setCell, World.heap_drewN, heapDrew, Nat.add_assoc, Nat.reduceAdd, List.setIfInBounds_toArray, List.set_cons_zero, List.set_cons_succ, List.cons_append, List.nil_append] at hM)
  refine (szIncident_any _ _ _ _ _ _ _ _ _ _ _ _ 1048576 _ hr0_2 hr0_3 hr0_4 (by omega)).mono ?_
  obtain ⟨z1, hz'⟩ : ∃ z, szI n0_2 n0_3 n0_4 1048576 = z := ⟨_, rfl⟩
  rw [hz']
  have hzr := szI_facts (n1 := n0_2) (n2 := n0_3) (n3 := n0_4) (l := 1048576) (by omega)
  rw [hz'] at hzr
  obtain ⟨hz1, hn0⟩ := hzr
  clear hz'
  rintro e w1 ⟨rfl, hb⟩
  replace hM := hM.ext hb
  clear hb
  by_cases hzn1 : z1 < 0
  · go_wp2
    go_ret
    exact ⟨rfl, (by apply Mem.below; (repeat' (first | with_reducible exact hM | with_reducible exact hMp | with_reducible apply Mem.drew | with_reducible apply Mem.drewN | with_reducible apply Mem.alloc | with_reducible apply Mem.set | with_reducible exact Sto.row | ((with_reducible refine Sto.rowEq2 ?_ ?_); omega; rfl) | ((with_reducible refine Sto.rowEq ?_); omega) | with_reducible apply Sto.int | with_reducible apply Sto.there | with_reducible assumption | (unfold I64; omega) | (with_reducible (have hMx := Mem.undrew hM; exact hMx)) | (with_reducible (have hMx := Mem.undrew hMp; exact hMx)))))⟩
  replace hn0 := hn0 (by omega)
  replace hzn1 : 0 ≤ z1 := by omega
  go_wp2_with fail
  apply Mem.at
  · (repeat' (first | with_reducible exact hM | with_reducible exact hMp | with_reducible apply Mem.drew | with_reducible apply Mem.drewN | with_reducible apply Mem.alloc | with_reducible apply Mem.set | with_reducible exact Sto.row | ((with_reducible refine Sto.rowEq2 ?_ ?_); omega; rfl) | ((with_reducible refine Sto.rowEq ?_); omega) | with_reducible apply Sto.int | with_reducible apply Sto.there | with_reducible assumption | (unfold I64; omega) | (with_reducible (have hMx := Mem.undrew hM; exact hMx)) | (with_reducible (have hMx := Mem.undrew hMp; exact hMx))))
  clear hM
  intro hM
  (try simp only [World.size_alloc, World.size_setCell, World.heap_drewN, heapDrew, Nat.add_assoc, Nat.reduceAdd, List.setIfInBounds_toArray, List.set_cons_zero, List.set_cons_succ, List.cons_append, List.nil_append] at hM)
  refine (szActionS_any _ _ _ _ _ hr1_0 (by omega)).mono ?_
  obtain ⟨z2, hz'⟩ : ∃ z, szF n1_0 z1 = z := ⟨_, rfl⟩
  rw [hz']
  have hzr : z2 ≤ 1048576 ∧ (0 ≤ z2 → (n1_0 : Int) ≤ 1048576) := by unfold szF at hz'; split at hz' <;> omega
  obtain ⟨hz2, hn1⟩ := hzr
  clear hz'
  rintro e w2 ⟨rfl, rfl⟩
  by_cases hzn2 : z2 < 0
  · go_wp2
    go_ret
    exact ⟨rfl, (by apply Mem.below; (repeat' (first | with_reducible exact hM | with_reducible exact hMp | with_reducible apply Mem.drew | with_reducible apply Mem.drewN | with_reducible apply Mem.alloc | with_reducible apply Mem.set | with_reducible exact Sto.row | ((with_reducible refine Sto.rowEq2 ?_ ?_); omega; rfl) | ((with_reducible refine Sto.rowEq ?_); omega) | with_reducible apply Sto.int | with_reducible apply Sto.there | with_reducible assumption | (unfold I64; omega) | (with_reducible (have hMx := Mem.undrew hM; exact hMx)) | (with_reducible (have hMx := Mem.undrew hMp; exact hMx)))))⟩
  replace hn1 := hn1 (by omega)
  replace hzn2 : 0 ≤ z2 := by omega
  obtain ⟨k0, f0, l0⟩ := hM.row .here
  go_wp2_with fail
  clear k0 f0 l0
  apply Mem.at
  · (repeat' (first | with_reducible exact hM | with_reducible exact hMp | with_reducible apply Mem.drew | with_reducible apply Mem.drewN | with_reducible apply Mem.alloc | with_reducible apply Mem.set | with_reducible exact Sto.row | ((with_reducible refine Sto.rowEq2 ?_ ?_); omega; rfl) | ((with_reducible refine Sto.rowEq ?_); omega) | with_reducible apply Sto.int | with_reducible apply Sto.there | with_reducible assumption | (unfold I64; omega) | (with_reducible (have hMx := Mem.undrew hM; exact hMx)) | (with_reducible (have hMx := Mem.undrew hMp; exact hMx))))
  clear hM
  intro hM
  (try simp only [World.size_alloc, World.size_setCell, World.heap_drewN, heapDrew, Nat.add_assoc, Nat.reduceAdd, List.setIfInBounds_toArray, List.set_cons_zero, List.set_cons_succ, List.cons_append, List.nil_append] at hM)
  refine (toIncident_any _ _ _ _ _ xs0_2 _ _ _ xs0_3 _ _ _ xs0_4 _ _ (I0_2.ext hM.below) (I0_3.ext hM.below) (I0_4.ext hM.below)).mono ?_
  rintro e w3 ⟨bw0t_2, dw0t_2, bw0t_3, dw0t_3, bw0t_4, dw0t_4, rfl, hm⟩
  replace hM := hM.join hm
  clear hm
  (try simp only [World.size_alloc, World.size_setCell, World.heap_drewN, heapDrew, Nat.add_assoc, Nat.reduceAdd, List.setIfInBounds_toArray, List.set_cons_zero, List.set_cons_succ, List.cons_append, List.nil_append] at hM)
  dsimp only
  go_wp2_with fail
  apply Mem.at
  · (repeat' (first | with_reducible exact hM | with_reducible exact hMp | with_reducible apply Mem.drew | with_reducible apply Mem.drewN | with_reducible apply Mem.alloc | with_reducible apply Mem.set | with_reducible exact Sto.row | ((with_reducible refine Sto.rowEq2 ?_ ?_); omega; rfl) | ((with_reducible refine Sto.rowEq ?_); omega) | with_reducible apply Sto.int | with_reducible apply Sto.there | with_reducible assumption | (unfold I64; omega) | (with_reducible (have hMx := Mem.undrew hM; exact hMx)) | (with_reducible (have hMx := Mem.undrew hMp; exact hMx))))
  clear hM
  intro hM
  (try simp only [World.size_alloc, World.size_setCell, World.heap_drewN, heapDrew, Nat.add_assoc, Nat.reduceAdd, List.setIfInBounds_toArray, List.set_cons_zero, List.set_cons_succ, List.cons_append, List.nil_append] at hM)
  refine (toActionS_any _ _ _ xs1_0 _ (I1_0.ext hM.below)).mono ?_
  rintro e w4 ⟨bw1t_0, dw1t_0, rfl, hO, hb⟩
  replace hM := hM.owned hb hO
  clear hb hO
  dsimp only
  obtain ⟨k4, f4, l4⟩ := hM.row (.there (.there (.there (.there .here))))
  go_wp2_with fail
  clear k4 f4 l4
  apply Mem.at
  · (repeat' (first | with_reducible exact hM | with_reducible exact hMp | with_reducible apply Mem.drew | with_reducible apply Mem.drewN | with_reducible apply Mem.alloc | with_reducible apply Mem.set | with_reducible exact Sto.row | ((with_reducible refine Sto.rowEq2 ?_ ?_); omega; rfl) | ((with_reducible refine Sto.rowEq ?_); omega) | with_reducible apply Sto.int | with_reducible apply Sto.there | with_reducible assumption | (unfold I64; omega) | (with_reducible (have hMx := Mem.undrew hM; exact hMx)) | (with_reducible (have hMx := Mem.undrew hMp; exact hMx))))
  clear hM
  intro hM
  (try simp only [World.size_alloc, World.size_setCell, World.heap_drewN, heapDrew, Nat.add_assoc, Nat.reduceAdd, List.setIfInBounds_toArray, List.set_cons_zero, List.set_cons_succ, List.cons_append, List.nil_append] at hM)
  obtain ⟨⟨⟨Wr, Hr, zs0_2, zs0_3, zs0_4, tr⟩, v1, v2⟩, hq0⟩ : ∃ r, runAR p0_0 p0_1 xs0_2 xs0_3 xs0_4 p0_5 xs1_0 = r := ⟨_, rfl⟩
  have HQ0 := Lib.hid hq0; clear hq0
  refine (specRun_any _ _ _ _ _ xs0_2 _ _ _ xs0_3 _ _ _ xs0_4 _ _ _ _ xs1_0 _ ((hM.ints (.there .here)).ints) ((hM.ints (.there (.there .here))).ints) ((hM.ints (.there (.there (.there .here)))).ints) ((hM.ow .here).rd)).mono ?_
  rw [HQ0.out]
  rintro e w5 ⟨aw0_2, nw0_2, cw0_2, aw0_3, nw0_3, cw0_3, aw0_4, nw0_4, cw0_4, rfl, hm⟩
  replace hM := hM.join hm
  clear hm
  (try simp only [World.size_alloc, World.size_setCell, World.heap_drewN, heapDrew, Nat.add_assoc, Nat.reduceAdd, List.setIfInBounds_toArray, List.set_cons_zero, List.set_cons_succ, List.cons_append, List.nil_append] at hM)
  try dsimp only
  obtain ⟨k7, f7, l7⟩ := hM.row (.there (.there (.there (.there (.there (.there (.there .here)))))))
  go_wp2_with fail
  clear k7 f7 l7
  apply Mem.at
  · (repeat' (first | with_reducible exact hM | with_reducible exact hMp | with_reducible apply Mem.drew | with_reducible apply Mem.drewN | with_reducible apply Mem.alloc | with_reducible apply Mem.set | with_reducible exact Sto.row | ((with_reducible refine Sto.rowEq2 ?_ ?_); omega; rfl) | ((with_reducible refine Sto.rowEq ?_); omega) | with_reducible apply Sto.int | with_reducible apply Sto.there | with_reducible assumption | (unfold I64; omega) | (with_reducible (have hMx := Mem.undrew hM; exact hMx)) | (with_reducible (have hMx := Mem.undrew hMp; exact hMx))))
  clear hM
  intro hM
  (try simp only [World.size_alloc, World.size_setCell, World.heap_drewN, heapDrew, Nat.add_assoc, Nat.reduceAdd, List.setIfInBounds_toArray, List.set_cons_zero, List.set_cons_succ, List.cons_append, List.nil_append] at hM)
  refine (toIncident_any _ _ _ _ _ xs0_2 _ _ _ xs0_3 _ _ _ xs0_4 _ _ (I0_2.ext hM.below) (I0_3.ext hM.below) (I0_4.ext hM.below)).mono ?_
  rintro e w6 ⟨bx0_2, dx0_2, bx0_3, dx0_3, bx0_4, dx0_4, rfl, hm⟩
  replace hM := hM.join hm
  clear hm
  (try simp only [World.size_alloc, World.size_setCell, World.heap_drewN, heapDrew, Nat.add_assoc, Nat.reduceAdd, List.setIfInBounds_toArray, List.set_cons_zero, List.set_cons_succ, List.cons_append, List.nil_append] at hM)
  dsimp only
  go_wp2_with fail
  apply Mem.at
  · (repeat' (first | with_reducible exact hM | with_reducible exact hMp | with_reducible apply Mem.drew | with_reducible apply Mem.drewN | with_reducible apply Mem.alloc | with_reducible apply Mem.set | with_reducible exact Sto.row | ((with_reducible refine Sto.rowEq2 ?_ ?_); omega; rfl) | ((with_reducible refine Sto.rowEq ?_); omega) | with_reducible apply Sto.int | with_reducible apply Sto.there | with_reducible assumption | (unfold I64; omega) | (with_reducible (have hMx := Mem.undrew hM; exact hMx)) | (with_reducible (have hMx := Mem.undrew hMp; exact hMx))))
  clear hM
  intro hM
  (try simp only [World.size_alloc, World.size_setCell, World.heap_drewN, heapDrew, Nat.add_assoc, Nat.reduceAdd, List.setIfInBounds_toArray, List.set_cons_zero, List.set_cons_succ, List.cons_append, List.nil_append] at hM)
  refine (toActionS_any _ _ _ xs1_0 _ (I1_0.ext hM.below)).mono ?_
  rintro e w7 ⟨bx1_0, dx1_0, rfl, hO, hb⟩
  replace hM := hM.owned hb hO
  clear hb hO
  dsimp only
  obtain ⟨k1, f1, l1⟩ := hM.row (.there .here)
  go_wp2_with fail
  clear k1 f1 l1
  apply Mem.at
  · (repeat' (first | with_reducible exact hM | with_reducible exact hMp | with_reducible apply Mem.drew | with_reducible apply Mem.drewN | with_reducible apply Mem.alloc | with_reducible apply Mem.set | with_reducible exact Sto.row | ((with_reducible refine Sto.rowEq2 ?_ ?_); omega; rfl) | ((with_reducible refine Sto.rowEq ?_); omega) | with_reducible apply Sto.int | with_reducible apply Sto.there | with_reducible assumption | (unfold I64; omega) | (with_reducible (have hMx := Mem.undrew hM; exact hMx)) | (with_reducible (have hMx := Mem.undrew hMp; exact hMx))))
  clear hM
  intro hM
  (try simp only [World.size_alloc, World.size_setCell, World.heap_drewN, heapDrew, Nat.add_assoc, Nat.reduceAdd, List.setIfInBounds_toArray, List.set_cons_zero, List.set_cons_succ, List.cons_append, List.nil_append] at hM)
  refine (implRun_any _ _ _ _ _ xs0_2 _ _ _ xs0_3 _ _ _ xs0_4 _ _ _ _ xs1_0 _ ((hM.ints (.there (.there .here))).ints) ((hM.ints (.there (.there (.there .here)))).ints) ((hM.ints (.there (.there (.there (.there .here))))).ints) ((hM.ow .here).rd)).mono ?_
  rw [HQ0.out]
  rintro e w8 ⟨ag0_2, ng0_2, cg0_2, ag0_3, ng0_3, cg0_3, ag0_4, ng0_4, cg0_4, rfl, hm⟩
  replace hM := hM.join hm
  clear hm
  (try simp only [World.size_alloc, World.size_setCell, World.heap_drewN, heapDrew, Nat.add_assoc, Nat.reduceAdd, List.setIfInBounds_toArray, List.set_cons_zero, List.set_cons_succ, List.cons_append, List.nil_append] at hM)
  try dsimp only
  have hbb1 : (v1 != v1) = false := by simp
  have hbb2 : (v2 != v2) = false := by cases v2 <;> rfl
  obtain ⟨k8, f8, l8⟩ := hM.row (.there (.there (.there (.there (.there (.there (.there (.there .here))))))))
  go_wp2_with fail
  clear k8 f8 l8
  apply Mem.at
  · (repeat' (first | with_reducible exact hM | with_reducible exact hMp | with_reducible apply Mem.drew | with_reducible apply Mem.drewN | with_reducible apply Mem.alloc | with_reducible apply Mem.set | with_reducible exact Sto.row | ((with_reducible refine Sto.rowEq2 ?_ ?_); omega; rfl) | ((with_reducible refine Sto.rowEq ?_); omega) | with_reducible apply Sto.int | with_reducible apply Sto.there | with_reducible assumption | (unfold I64; omega) | (with_reducible (have hMx := Mem.undrew hM; exact hMx)) | (with_reducible (have hMx := Mem.undrew hMp; exact hMx))))
  clear hM
  intro hM
  (try simp only [World.size_alloc, World.size_setCell, World.heap_drewN, heapDrew, Nat.add_assoc, Nat.reduceAdd, List.setIfInBounds_toArray, List.set_cons_zero, List.set_cons_succ, List.cons_append, List.nil_append] at hM)
  refine (eqIncident_any _ _ _ _ _ zs0_2 _ _ _ zs0_3 _ _ _ zs0_4 _ _ _ _ _ _ zs0_2 _ _ _ zs0_3 _ _ _ zs0_4 _ _ ((hM.ints (.there .here)).ints) ((hM.ints (.there (.there .here))).ints) ((hM.ints (.there (.there (.there .here)))).ints) ((hM.ints (.there (.there (.there (.there (.there (.there (.there (.there (.there (.there .here))))))))))).ints) ((hM.ints (.there (.there (.there (.there (.there (.there (.there (.there (.there (.there (.there .here)))))))))))).ints) ((hM.ints (.there (.there (.there (.there (.there (.there (.there (.there (.there (.there (.there (.there .here))))))))))))).ints)).mono ?_
  rw [eqInc_refl]
  rintro e w9 ⟨rfl, hb⟩
  replace hM := hM.ext hb
  clear hb
  obtain ⟨k5, f5, l5⟩ := hM.row (.there (.there (.there (.there (.there .here)))))
  obtain ⟨k17, f17, l17⟩ := hM.row (.there (.there (.there (.there (.there (.there (.there (.there (.there (.there (.there (.there (.there (.there (.there (.there (.there .here)))))))))))))))))
  go_wp2_with fail
  clear k5 f5 l5 k17 f17 l17
  apply Mem.atWp
  · (repeat' (first | with_reducible exact hM | with_reducible exact hMp | with_reducible apply Mem.drew | with_reducible apply Mem.drewN | with_reducible apply Mem.alloc | with_reducible apply Mem.set | with_reducible exact Sto.row | ((with_reducible refine Sto.rowEq2 ?_ ?_); omega; rfl) | ((with_reducible refine Sto.rowEq ?_); omega) | with_reducible apply Sto.int | with_reducible apply Sto.there | with_reducible assumption | (unfold I64; omega) | (with_reducible (have hMx := Mem.undrew hM; exact hMx)) | (with_reducible (have hMx := Mem.undrew hMp; exact hMx))))
  clear hM
  intro hM
  (try simp only [World.size_alloc, World.size_setCell, World.heap_drewN, heapDrew, Nat.add_assoc, Nat.reduceAdd, List.setIfInBounds_toArray, List.set_cons_zero, List.set_cons_succ, List.cons_append, List.nil_append] at hM)
  refine AtT.startA hM hM 4 (by kernel_rfl) ?_
  clear hM
  intro wd hM
  have hS := hM
  refine AtT.taked (i := 0) (v := ?_) (some 64) rfl rfl (by kernel_rfl) (by kernel_rfl) (by kernel_rfl) (by kernel_rfl) (fun _ _ _ h => h) (Or.inl ⟨by kernel_rfl, ?_⟩) hS ?_
  rotate_left
  · (intro wS hSw; (try dsimp only at hSw); have kr0 := (Mem.row hSw (.there (.there (.there (.there (.there (.there (.there (.there (.there (.there (.there (.there (.there (.there (.there (.there (.there .here)))))))))))))))))).cell; have kr1 := (Mem.row hSw (.there (.there (.there (.there (.there .here)))))).cell; go_simp; try with_reducible rfl)
  simp only [Act.put, List.setIfInBounds_toArray, List.set_cons_zero, List.set_cons_succ]
  refine AtT.taked (i := 1) (v := ?_) (some 65) rfl rfl (by kernel_rfl) (by kernel_rfl) (by kernel_rfl) (by kernel_rfl) (fun _ _ _ h => h) (Or.inl ⟨by kernel_rfl, ?_⟩) hS ?_
  rotate_left
  · (intro wS hSw; (try dsimp only at hSw); have kr0 := (Mem.row hSw (.there (.there (.there (.there (.there (.there (.there (.there (.there (.there (.there (.there (.there (.there (.there (.there (.there .here)))))))))))))))))).cell; have kr1 := (Mem.row hSw (.there (.there (.there (.there (.there .here)))))).cell; go_simp; try with_reducible rfl)
  simp only [Act.put, List.setIfInBounds_toArray, List.set_cons_zero, List.set_cons_succ]
  refine AtT.only (i := 2) (by kernel_rfl) rfl rfl ?_
  intro K hK
  go_simp
  refine (toIncident_any _ _ _ _ _ xs0_2 _ _ _ xs0_3 _ _ _ xs0_4 _ _ (I0_2.ext hM.below) (I0_3.ext hM.below) (I0_4.ext hM.below)).mono ?_
  rintro e w10 ⟨bq10_2, dq10_2, bq10_3, dq10_3, bq10_4, dq10_4, rfl, hm⟩
  replace hM := hM.join hm
  clear hm
  (try simp only [World.size_alloc, World.size_setCell, World.heap_drewN, heapDrew, Nat.add_assoc, Nat.reduceAdd, List.setIfInBounds_toArray, List.set_cons_zero, List.set_cons_succ, List.cons_append, List.nil_append] at hM)
  try dsimp only
  refine hK.out _ _ (hM.tail.tail.tail) ?_
  clear hK K hS
  have hS := hM.tail.tail.tail
  refine AtT.only (i := 3) (by kernel_rfl) rfl rfl ?_
  intro K hK
  go_simp
  refine (eqIncident_any _ _ _ _ _ xs0_2 _ _ _ xs0_3 _ _ _ xs0_4 _ _ _ _ _ _ xs0_2 _ _ _ xs0_3 _ _ _ xs0_4 _ _ ((hM.ints (.there (.there (.there (.there (.there (.there (.there (.there (.there .here)))))))))).ints) ((hM.ints (.there (.there (.there (.there (.there (.there (.there (.there (.there (.there .here))))))))))).ints) ((hM.ints (.there (.there (.there (.there (.there (.there (.there (.there (.there (.there (.there .here)))))))))))).ints) ((hM.ints .here).ints) ((hM.ints (.there .here)).ints) ((hM.ints (.there (.there .here))).ints)).mono ?_
  rw [eqInc_refl]
  rintro e w11 ⟨rfl, hb⟩
  replace hM := hM.ext hb
  clear hb
  try dsimp only
  refine hK.out _ _ (hM.tail.tail.tail) ?_
  clear hK K hS
  have hS := hM.tail.tail.tail
  refine AtT.last (by kernel_rfl) rfl (by kernel_rfl) ?_
  intro K hK
  clear hS
  go_simp
  refine hK.out _ _ ?_
  clear hK K
  go_wp2_with fail
  apply Mem.at
  · (repeat' (first | with_reducible exact hM | with_reducible exact hMp | with_reducible apply Mem.drew | with_reducible apply Mem.drewN | with_reducible apply Mem.alloc | with_reducible apply Mem.set | with_reducible exact Sto.row | ((with_reducible refine Sto.rowEq2 ?_ ?_); omega; rfl) | ((with_reducible refine Sto.rowEq ?_); omega) | with_reducible apply Sto.int | with_reducible apply Sto.there | with_reducible assumption | (unfold I64; omega) | (with_reducible (have hMx := Mem.undrew hM; exact hMx)) | (with_reducible (have hMx := Mem.undrew hMp; exact hMx))))
  clear hM
  intro hM
  (try simp only [World.size_alloc, World.size_setCell, World.heap_drewN, heapDrew, Nat.add_assoc, Nat.reduceAdd, List.setIfInBounds_toArray, List.set_cons_zero, List.set_cons_succ, List.cons_append, List.nil_append] at hM)
  refine (toActionS_any _ _ _ xs1_0 _ (I1_0.ext hM.below)).mono ?_
  rintro e w13 ⟨bq12_0, dq12_0, rfl, hO, hb⟩
  replace hM := hM.owned hb hO
  clear hb hO
  dsimp only
  go_wp2_with fail
  apply Mem.at
  · (repeat' (first | with_reducible exact hM | with_reducible exact hMp | with_reducible apply Mem.drew | with_reducible apply Mem.drewN | with_reducible apply Mem.alloc | with_reducible apply Mem.set | with_reducible exact Sto.row | ((with_reducible refine Sto.rowEq2 ?_ ?_); omega; rfl) | ((with_reducible refine Sto.rowEq ?_); omega) | with_reducible apply Sto.int | with_reducible apply Sto.there | with_reducible assumption | (unfold I64; omega) | (with_reducible (have hMx := Mem.undrew hM; exact hMx)) | (with_reducible (have hMx := Mem.undrew hMp; exact hMx))))
  clear hM
  intro hM
  (try simp only [World.size_alloc, World.size_setCell, World.heap_drewN, heapDrew, Nat.add_assoc, Nat.reduceAdd, List.setIfInBounds_toArray, List.set_cons_zero, List.set_cons_succ, List.cons_append, List.nil_append] at hM)
  refine (eqActionS_any _ _ _ xs1_0 _ _ _ xs1_0 _ ((hM.ow (.there (.there (.there (.there (.there (.there (.there (.there .here))))))))).rd) ((hM.ow .here).rd)).mono ?_
  rw [decide_eq_true rfl]
  rintro e w14 ⟨rfl, hb⟩
  replace hM := hM.ext hb
  clear hb
  obtain ⟨k9, f9, l9⟩ := hM.row (.there (.there (.there (.there (.there (.there (.there (.there (.there .here)))))))))
  go_wp2_with fail
  clear k9 f9 l9
  apply Mem.at
  · (repeat' (first | with_reducible exact hM | with_reducible exact hMp | with_reducible apply Mem.drew | with_reducible apply Mem.drewN | with_reducible apply Mem.alloc | with_reducible apply Mem.set | with_reducible exact Sto.row | ((with_reducible refine Sto.rowEq2 ?_ ?_); omega; rfl) | ((with_reducible refine Sto.rowEq ?_); omega) | with_reducible apply Sto.int | with_reducible apply Sto.there | with_reducible assumption | (unfold I64; omega) | (with_reducible (have hMx := Mem.undrew hM; exact hMx)) | (with_reducible (have hMx := Mem.undrew hMp; exact hMx))))
  clear hM
  intro hM
  (try simp only [World.size_alloc, World.size_setCell, World.heap_drewN, heapDrew, Nat.add_assoc, Nat.reduceAdd, List.setIfInBounds_toArray, List.set_cons_zero, List.set_cons_succ, List.cons_append, List.nil_append] at hM)
  replace hM := hM.pick (is := [10, 11, 12, 0, 1, 2, 3, 4, 5, 6, 7, 8, 9, 13, 14, 15, 16, 17, 18, 19, 20, 21]) (by decide) rfl
  refine (markIncident_any _ _ _ _ _ _ _ _ _ _ _ _ _ _ _ _ _ _ 1 _ hM (by omega)).mono ?_
  clear hM
  rintro e w15 ⟨rfl, hM⟩
  go_wp2_with fail
  apply Mem.at
  · (repeat' (first | with_reducible exact hM | with_reducible exact hMp | with_reducible apply Mem.drew | with_reducible apply Mem.drewN | with_reducible apply Mem.alloc | with_reducible apply Mem.set | with_reducible exact Sto.row | ((with_reducible refine Sto.rowEq2 ?_ ?_); omega; rfl) | ((with_reducible refine Sto.rowEq ?_); omega) | with_reducible apply Sto.int | with_reducible apply Sto.there | with_reducible assumption | (unfold I64; omega) | (with_reducible (have hMx := Mem.undrew hM; exact hMx)) | (with_reducible (have hMx := Mem.undrew hMp; exact hMx))))
  clear hM
  intro hM
  (try simp only [World.size_alloc, World.size_setCell, World.heap_drewN, heapDrew, Nat.add_assoc, Nat.reduceAdd, List.setIfInBounds_toArray, List.set_cons_zero, List.set_cons_succ, List.cons_append, List.nil_append] at hM)
  refine (markActionS_any _ _ _ _ _ _ _ (Mem.ow hM (.there (.there (.there (.there (.there (.there (.there (.there (.there (.there (.there .here)))))))))))) hM.size (by omega)).mono ?_
  rintro e w16 ⟨rfl, hO, hk⟩
  replace hM := hM.put (e' := owE FAction _ _ _ _ _) (.there (.there (.there (.there (.there (.there (.there (.there (.there (.there (.there (.here)))))))))))) hk hO (fun k hk => .inl hk)
  clear hO hk
  obtain ⟨k7, f7, l7⟩ := hM.row (.there (.there (.there (.there (.there (.there (.there .here)))))))
  obtain ⟨k13, f13, l13⟩ := hM.row (.there (.there (.there (.there (.there (.there (.there (.there (.there (.there (.there (.there (.there .here)))))))))))))
  go_wp2_with fail
  clear k7 f7 l7 k13 f13 l13
  apply Mem.at
  · (repeat' (first | with_reducible exact hM | with_reducible exact hMp | with_reducible apply Mem.drew | with_reducible apply Mem.drewN | with_reducible apply Mem.alloc | with_reducible apply Mem.set | with_reducible exact Sto.row | ((with_reducible refine Sto.rowEq2 ?_ ?_); omega; rfl) | ((with_reducible refine Sto.rowEq ?_); omega) | with_reducible apply Sto.int | with_reducible apply Sto.there | with_reducible assumption | (unfold I64; omega) | (with_reducible (have hMx := Mem.undrew hM; exact hMx)) | (with_reducible (have hMx := Mem.undrew hMp; exact hMx))))
  clear hM
  intro hM
  (try simp only [World.size_alloc, World.size_setCell, World.heap_drewN, heapDrew, Nat.add_assoc, Nat.reduceAdd, List.setIfInBounds_toArray, List.set_cons_zero, List.set_cons_succ, List.cons_append, List.nil_append] at hM)
  refine (eqIncident_any _ _ _ _ _ zs0_2 _ _ _ zs0_3 _ _ _ zs0_4 _ _ _ _ _ _ zs0_2 _ _ _ zs0_3 _ _ _ zs0_4 _ _ ((hM.ints (.there (.there (.there (.there (.there (.there (.there (.there .here))))))))).ints) ((hM.ints (.there (.there (.there (.there (.there (.there (.there (.there (.there .here)))))))))).ints) ((hM.ints (.there (.there (.there (.there (.there (.there (.there (.there (.there (.there .here))))))))))).ints) ((hM.ints (.there (.there (.there (.there (.there (.there (.there (.there (.there (.there (.there (.there (.there (.there .here))))))))))))))).ints) ((hM.ints (.there (.there (.there (.there (.there (.there (.there (.there (.there (.there (.there (.there (.there (.there (.there .here)))))))))))))))).ints) ((hM.ints (.there (.there (.there (.there (.there (.there (.there (.there (.there (.there (.there (.there (.there (.there (.there (.there .here))))))))))))))))).ints)).mono ?_
  rw [eqInc_refl]
  rintro e w17 ⟨rfl, hb⟩
  replace hM := hM.ext hb
  clear hb
  obtain ⟨k7, f7, l7⟩ := hM.row (.there (.there (.there (.there (.there (.there (.there .here)))))))
  go_wp2_with fail
  clear k7 f7 l7
  apply Mem.at
  · (repeat' (first | with_reducible exact hM | with_reducible exact hMp | with_reducible apply Mem.drew | with_reducible apply Mem.drewN | with_reducible apply Mem.alloc | with_reducible apply Mem.set | with_reducible exact Sto.row | ((with_reducible refine Sto.rowEq2 ?_ ?_); omega; rfl) | ((with_reducible refine Sto.rowEq ?_); omega) | with_reducible apply Sto.int | with_reducible apply Sto.there | with_reducible assumption | (unfold I64; omega) | (with_reducible (have hMx := Mem.undrew hM; exact hMx)) | (with_reducible (have hMx := Mem.undrew hMp; exact hMx))))
  clear hM
  intro hM
  (try simp only [World.size_alloc, World.size_setCell, World.heap_drewN, heapDrew, Nat.add_assoc, Nat.reduceAdd, List.setIfInBounds_toArray, List.set_cons_zero, List.set_cons_succ, List.cons_append, List.nil_append] at hM)
  replace hM := hM.pick (is := [8, 9, 10, 0, 1, 2, 3, 4, 5, 6, 7, 11, 12, 13, 14, 15, 16, 17, 18, 19, 20, 21]) (by decide) rfl
  refine (markIncident_any _ _ _ _ _ _ _ _ _ _ _ _ _ _ _ _ _ _ 1 _ hM (by omega)).mono ?_
  clear hM
  rintro e w18 ⟨rfl, hM⟩
  obtain ⟨k10, f10, l10⟩ := hM.row (.there (.there (.there (.there (.there (.there (.there (.there (.there (.there .here))))))))))
  go_wp2_with fail
  clear k10 f10 l10
  apply Mem.at
  · (repeat' (first | with_reducible exact hM | with_reducible exact hMp | with_reducible apply Mem.drew | with_reducible apply Mem.drewN | with_reducible apply Mem.alloc | with_reducible apply Mem.set | with_reducible exact Sto.row | ((with_reducible refine Sto.rowEq2 ?_ ?_); omega; rfl) | ((with_reducible refine Sto.rowEq ?_); omega) | with_reducible apply Sto.int | with_reducible apply Sto.there | with_reducible assumption | (unfold I64; omega) | (with_reducible (have hMx := Mem.undrew hM; exact hMx)) | (with_reducible (have hMx := Mem.undrew hMp; exact hMx))))
  clear hM
  intro hM
  (try simp only [World.size_alloc, World.size_setCell, World.heap_drewN, heapDrew, Nat.add_assoc, Nat.reduceAdd, List.setIfInBounds_toArray, List.set_cons_zero, List.set_cons_succ, List.cons_append, List.nil_append] at hM)
  have hmm19_0 := (hM.ints .here).room
  have hmm19_1 := (hM.ints (.there .here)).room
  have hmm19_2 := (hM.ints (.there (.there .here))).room
  refine (heldIncident_any _ _ _ _ _ _ _ _ _ _ _ _ 1 _ ((hM.ints .here).ints) ((hM.ints (.there .here)).ints) ((hM.ints (.there (.there .here))).ints) (by omega)).mono ?_
  rintro e w19 ⟨rfl, hb⟩
  replace hM := hM.ext hb
  clear hb
  have hmn19 : ((1 + (ng0_2 : Int) + (ng0_3 : Int) + (ng0_4 : Int)) != (1 + (ng0_2 : Int) + (ng0_3 : Int) + (ng0_4 : Int))) = false := by simp
  have hmp19 : 0 ≤ (1 + (ng0_2 : Int) + (ng0_3 : Int) + (ng0_4 : Int)) := by omega
  obtain ⟨k21, f21, l21⟩ := hM.row (.there (.there (.there (.there (.there (.there (.there (.there (.there (.there (.there (.there (.there (.there (.there (.there (.there (.there (.there (.there (.there .here)))))))))))))))))))))
  go_wp2_with fail
  clear k21 f21 l21
  apply Mem.at
  · (repeat' (first | with_reducible exact hM | with_reducible exact hMp | with_reducible apply Mem.drew | with_reducible apply Mem.drewN | with_reducible apply Mem.alloc | with_reducible apply Mem.set | with_reducible exact Sto.row | ((with_reducible refine Sto.rowEq2 ?_ ?_); omega; rfl) | ((with_reducible refine Sto.rowEq ?_); omega) | with_reducible apply Sto.int | with_reducible apply Sto.there | with_reducible assumption | (unfold I64; omega) | (with_reducible (have hMx := Mem.undrew hM; exact hMx)) | (with_reducible (have hMx := Mem.undrew hMp; exact hMx))))
  clear hM
  intro hM
  (try simp only [World.size_alloc, World.size_setCell, World.heap_drewN, heapDrew, Nat.add_assoc, Nat.reduceAdd, List.setIfInBounds_toArray, List.set_cons_zero, List.set_cons_succ, List.cons_append, List.nil_append] at hM)
  refine (toIncident_any _ _ _ _ _ xs0_2 _ _ _ xs0_3 _ _ _ xs0_4 _ _ (I0_2.ext hM.below) (I0_3.ext hM.below) (I0_4.ext hM.below)).mono ?_
  rintro e w20 ⟨bh0t_2, dh0t_2, bh0t_3, dh0t_3, bh0t_4, dh0t_4, rfl, hm⟩
  replace hM := hM.join hm
  clear hm
  (try simp only [World.size_alloc, World.size_setCell, World.heap_drewN, heapDrew, Nat.add_assoc, Nat.reduceAdd, List.setIfInBounds_toArray, List.set_cons_zero, List.set_cons_succ, List.cons_append, List.nil_append] at hM)
  dsimp only
  go_wp2_with fail
  apply Mem.at
  · (repeat' (first | with_reducible exact hM | with_reducible exact hMp | with_reducible apply Mem.drew | with_reducible apply Mem.drewN | with_reducible apply Mem.alloc | with_reducible apply Mem.set | with_reducible exact Sto.row | ((with_reducible refine Sto.rowEq2 ?_ ?_); omega; rfl) | ((with_reducible refine Sto.rowEq ?_); omega) | with_reducible apply Sto.int | with_reducible apply Sto.there | with_reducible assumption | (unfold I64; omega) | (with_reducible (have hMx := Mem.undrew hM; exact hMx)) | (with_reducible (have hMx := Mem.undrew hMp; exact hMx))))
  clear hM
  intro hM
  (try simp only [World.size_alloc, World.size_setCell, World.heap_drewN, heapDrew, Nat.add_assoc, Nat.reduceAdd, List.setIfInBounds_toArray, List.set_cons_zero, List.set_cons_succ, List.cons_append, List.nil_append] at hM)
  refine (toActionS_any _ _ _ xs1_0 _ (I1_0.ext hM.below)).mono ?_
  rintro e w21 ⟨bh1t_0, dh1t_0, rfl, hO, hb⟩
  replace hM := hM.owned hb hO
  clear hb hO
  dsimp only
  obtain ⟨k25, f25, l25⟩ := hM.row (.there (.there (.there (.there (.there (.there (.there (.there (.there (.there (.there (.there (.there (.there (.there (.there (.there (.there (.there (.there (.there (.there (.there (.there (.there .here)))))))))))))))))))))))))
  go_wp2_with fail
  clear k25 f25 l25
  apply Mem.at
  · (repeat' (first | with_reducible exact hM | with_reducible exact hMp | with_reducible apply Mem.drew | with_reducible apply Mem.drewN | with_reducible apply Mem.alloc | with_reducible apply Mem.set | with_reducible exact Sto.row | ((with_reducible refine Sto.rowEq2 ?_ ?_); omega; rfl) | ((with_reducible refine Sto.rowEq ?_); omega) | with_reducible apply Sto.int | with_reducible apply Sto.there | with_reducible assumption | (unfold I64; omega) | (with_reducible (have hMx := Mem.undrew hM; exact hMx)) | (with_reducible (have hMx := Mem.undrew hMp; exact hMx))))
  clear hM
  intro hM
  (try simp only [World.size_alloc, World.size_setCell, World.heap_drewN, heapDrew, Nat.add_assoc, Nat.reduceAdd, List.setIfInBounds_toArray, List.set_cons_zero, List.set_cons_succ, List.cons_append, List.nil_append] at hM)
  refine (implRun_any _ _ _ _ _ xs0_2 _ _ _ xs0_3 _ _ _ xs0_4 _ _ _ _ xs1_0 _ ((hM.ints (.there .here)).ints) ((hM.ints (.there (.there .here))).ints) ((hM.ints (.there (.there (.there .here)))).ints) ((hM.ow .here).rd)).mono ?_
  rw [HQ0.out]
  rintro e w22 ⟨ah0_2, nh0_2, ch0_2, ah0_3, nh0_3, ch0_3, ah0_4, nh0_4, ch0_4, rfl, hm⟩
  replace hM := hM.join hm
  clear hm
  (try simp only [World.size_alloc, World.size_setCell, World.heap_drewN, heapDrew, Nat.add_assoc, Nat.reduceAdd, List.setIfInBounds_toArray, List.set_cons_zero, List.set_cons_succ, List.cons_append, List.nil_append] at hM)
  try dsimp only
  obtain ⟨k20, f20, l20⟩ := hM.row (.there (.there (.there (.there (.there (.there (.there (.there (.there (.there (.there (.there (.there (.there (.there (.there (.there (.there (.there (.there .here))))))))))))))))))))
  go_wp2_with fail
  clear k20 f20 l20
  apply Mem.at
  · (repeat' (first | with_reducible exact hM | with_reducible exact hMp | with_reducible apply Mem.drew | with_reducible apply Mem.drewN | with_reducible apply Mem.alloc | with_reducible apply Mem.set | with_reducible exact Sto.row | ((with_reducible refine Sto.rowEq2 ?_ ?_); omega; rfl) | ((with_reducible refine Sto.rowEq ?_); omega) | with_reducible apply Sto.int | with_reducible apply Sto.there | with_reducible assumption | (unfold I64; omega) | (with_reducible (have hMx := Mem.undrew hM; exact hMx)) | (with_reducible (have hMx := Mem.undrew hMp; exact hMx))))
  clear hM
  intro hM
  (try simp only [World.size_alloc, World.size_setCell, World.heap_drewN, heapDrew, Nat.add_assoc, Nat.reduceAdd, List.setIfInBounds_toArray, List.set_cons_zero, List.set_cons_succ, List.cons_append, List.nil_append] at hM)
  refine (eqIncident_any _ _ _ _ _ zs0_2 _ _ _ zs0_3 _ _ _ zs0_4 _ _ _ _ _ _ zs0_2 _ _ _ zs0_3 _ _ _ zs0_4 _ _ ((hM.ints (.there .here)).ints) ((hM.ints (.there (.there .here))).ints) ((hM.ints (.there (.there (.there .here)))).ints) ((hM.ints (.there (.there (.there (.there (.there (.there (.there (.there (.there (.there (.there (.there (.there (.there (.there (.there (.there (.there (.there (.there (.there (.there .here))))))))))))))))))))))).ints) ((hM.ints (.there (.there (.there (.there (.there (.there (.there (.there (.there (.there (.there (.there (.there (.there (.there (.there (.there (.there (.there (.there (.there (.there (.there .here)))))))))))))))))))))))).ints) ((hM.ints (.there (.there (.there (.there (.there (.there (.there (.there (.there (.there (.there (.there (.there (.there (.there (.there (.there (.there (.there (.there (.there (.there (.there (.there .here))))))))))))))))))))))))).ints)).mono ?_
  rw [eqInc_refl]
  rintro e w23 ⟨rfl, hb⟩
  replace hM := hM.ext hb
  clear hb
  obtain ⟨k18, f18, l18⟩ := hM.row (.there (.there (.there (.there (.there (.there (.there (.there (.there (.there (.there (.there (.there (.there (.there (.there (.there (.there .here))))))))))))))))))
  go_wp2_with fail
  clear k18 f18 l18
  apply Mem.at
  · (repeat' (first | with_reducible exact hM | with_reducible exact hMp | with_reducible apply Mem.drew | with_reducible apply Mem.drewN | with_reducible apply Mem.alloc | with_reducible apply Mem.set | with_reducible exact Sto.row | ((with_reducible refine Sto.rowEq2 ?_ ?_); omega; rfl) | ((with_reducible refine Sto.rowEq ?_); omega) | with_reducible apply Sto.int | with_reducible apply Sto.there | with_reducible assumption | (unfold I64; omega) | (with_reducible (have hMx := Mem.undrew hM; exact hMx)) | (with_reducible (have hMx := Mem.undrew hMp; exact hMx))))
  clear hM
  intro hM
  (try simp only [World.size_alloc, World.size_setCell, World.heap_drewN, heapDrew, Nat.add_assoc, Nat.reduceAdd, List.setIfInBounds_toArray, List.set_cons_zero, List.set_cons_succ, List.cons_append, List.nil_append] at hM)
  have hmm24_0 := (hM.ints (.there (.there (.there (.there (.there (.there (.there (.there .here))))))))).room
  have hmm24_1 := (hM.ints (.there (.there (.there (.there (.there (.there (.there (.there (.there .here)))))))))).room
  have hmm24_2 := (hM.ints (.there (.there (.there (.there (.there (.there (.there (.there (.there (.there .here))))))))))).room
  refine (heldIncident_any _ _ _ _ _ _ _ _ _ _ _ _ 1 _ ((hM.ints (.there (.there (.there (.there (.there (.there (.there (.there .here))))))))).ints) ((hM.ints (.there (.there (.there (.there (.there (.there (.there (.there (.there .here)))))))))).ints) ((hM.ints (.there (.there (.there (.there (.there (.there (.there (.there (.there (.there .here))))))))))).ints) (by omega)).mono ?_
  rintro e w24 ⟨rfl, hb⟩
  replace hM := hM.ext hb
  clear hb
  have hmn24 : ((1 + (ng0_2 : Int) + (ng0_3 : Int) + (ng0_4 : Int)) != (1 + (ng0_2 : Int) + (ng0_3 : Int) + (ng0_4 : Int))) = false := by simp
  have hmp24 : 0 ≤ (1 + (ng0_2 : Int) + (ng0_3 : Int) + (ng0_4 : Int)) := by omega
  go_wp2
  go_ret
  exact ⟨rfl, (by apply Mem.below; (repeat' (first | with_reducible exact hM | with_reducible exact hMp | with_reducible apply Mem.drew | with_reducible apply Mem.drewN | with_reducible apply Mem.alloc | with_reducible apply Mem.set | with_reducible exact Sto.row | ((with_reducible refine Sto.rowEq2 ?_ ?_); omega; rfl) | ((with_reducible refine Sto.rowEq ?_); omega) | with_reducible apply Sto.int | with_reducible apply Sto.there | with_reducible assumption | (unfold I64; omega) | (with_reducible (have hMx := Mem.undrew hM; exact hMx)) | (with_reducible (have hMx := Mem.undrew hMp; exact hMx)))))⟩
end Go.Proofs.Ytlmdckocjlogkaa

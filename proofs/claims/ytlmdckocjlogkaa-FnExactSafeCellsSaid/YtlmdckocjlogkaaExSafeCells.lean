import Derived.Test.YtlmdckocjlogkaaSafe
import Derived.Test.YtlmdckocjlogkaaInc
namespace Go.Proofs.Ytlmdckocjlogkaa
set_option linter.unusedSimpArgs false
set_option linter.unusedVariables false
open Go.RowKit

set_option maxRecDepth 100000 in
set_option maxHeartbeats 8000000 in
theorem FnExactSafeCells_walk (p0_0 : Int) (p0_1 : Int) (a0_2 : Option Addr) (n0_2 c0_2 : Nat) (xs0_2 : List Int) (a0_3 : Option Addr) (n0_3 c0_3 : Nat) (xs0_3 : List Int) (a0_4 : Option Addr) (n0_4 c0_4 : Nat) (xs0_4 : List Int) (p0_5 : Int) (w : World) (hp0_0 : I64 p0_0) (hp0_1 : I64 p0_1) (I0_2 : Ints w a0_2 n0_2 c0_2 xs0_2) (I0_3 : Ints w a0_3 n0_3 c0_3 xs0_3) (I0_4 : Ints w a0_4 n0_4 c0_4 xs0_4) (hp0_5 : I64 p0_5) :
    Calls Try.prog 8 #[.agg #[.int .i64 p0_0, .int .i64 p0_1, .slice a0_2 n0_2 c0_2, .slice a0_3 n0_3 c0_3, .slice a0_4 n0_4 c0_4, .int .i64 p0_5]] w fun e w' => e = .returned (.bool true) ∧ Below w.heap.size w w' := by
  have hr0_2 := I0_2.room
  have hr0_3 := I0_3.room
  have hr0_4 := I0_4.room
  have hM := Mem.start w
  go_enter Try.func8, Try.ntmps8
  go_wp2_with fail
  apply Mem.at
  · (repeat' (first | with_reducible exact hM | with_reducible exact Mem.undrew hM | with_reducible exact hMp | with_reducible exact Mem.undrew hMp | with_reducible apply Mem.drew | with_reducible apply Mem.drewN | with_reducible apply Mem.alloc | with_reducible apply Mem.set | with_reducible exact Sto.row | exact Sto.row | with_reducible apply Sto.int | with_reducible apply Sto.there | with_reducible assumption | (unfold I64; omega)))
  clear hM
  intro hM
  (try simp only [World.size_alloc, World.size_setCell, World.heap_drewN, heapDrew, Nat.add_assoc, Nat.reduceAdd, List.setIfInBounds_toArray, List.set_cons_zero, List.set_cons_succ, List.cons_append, List.nil_append] at hM)
  refine (szIncident_any _ _ _ _ _ _ _ _ _ _ _ _ 1048576 _ hr0_2 hr0_3 hr0_4 (by omega)).mono ?_
  obtain ⟨z1, hz'⟩ : ∃ z, szI n0_2 n0_3 n0_4 1048576 = z := ⟨_, rfl⟩
  rw [hz']
  have hzr := szI_facts (n1 := n0_2) (n2 := n0_3) (n3 := n0_4) (l := 1048576) (by omega)
  rw [hz'] at hzr
  obtain ⟨hz1, hn0⟩ := hzr
  clear hz'
  rintro e w1 ⟨rfl, hb⟩
  replace hM := hM.ext hb
  clear hb
  by_cases hzn1 : z1 < 0
  · go_wp2
    go_ret
    exact ⟨rfl, (by apply Mem.below; (repeat' (first | with_reducible exact hM | with_reducible exact Mem.undrew hM | with_reducible exact hMp | with_reducible exact Mem.undrew hMp | with_reducible apply Mem.drew | with_reducible apply Mem.drewN | with_reducible apply Mem.alloc | with_reducible apply Mem.set | with_reducible exact Sto.row | exact Sto.row | with_reducible apply Sto.int | with_reducible apply Sto.there | with_reducible assumption | (unfold I64; omega))))⟩
  replace hn0 := hn0 (by omega)
  replace hzn1 : 0 ≤ z1 := by omega
  obtain ⟨k0, f0, l0⟩ := hM.row .here
  go_wp2_with fail
  clear k0 f0 l0
  apply Mem.at
  · (repeat' (first | with_reducible exact hM | with_reducible exact Mem.undrew hM | with_reducible exact hMp | with_reducible exact Mem.undrew hMp | with_reducible apply Mem.drew | with_reducible apply Mem.drewN | with_reducible apply Mem.alloc | with_reducible apply Mem.set | with_reducible exact Sto.row | exact Sto.row | with_reducible apply Sto.int | with_reducible apply Sto.there | with_reducible assumption | (unfold I64; omega)))
  clear hM
  intro hM
  (try simp only [World.size_alloc, World.size_setCell, World.heap_drewN, heapDrew, Nat.add_assoc, Nat.reduceAdd, List.setIfInBounds_toArray, List.set_cons_zero, List.set_cons_succ, List.cons_append, List.nil_append] at hM)
  refine (toIncident_any _ _ _ _ _ xs0_2 _ _ _ xs0_3 _ _ _ xs0_4 _ _ (I0_2.ext hM.below) (I0_3.ext hM.below) (I0_4.ext hM.below)).mono ?_
  rintro e w2 ⟨bw0t_2, dw0t_2, bw0t_3, dw0t_3, bw0t_4, dw0t_4, rfl, hm⟩
  replace hM := hM.join hm
  clear hm
  (try simp only [World.size_alloc, World.size_setCell, World.heap_drewN, heapDrew, Nat.add_assoc, Nat.reduceAdd, List.setIfInBounds_toArray, List.set_cons_zero, List.set_cons_succ, List.cons_append, List.nil_append] at hM)
  dsimp only
  obtain ⟨k3, f3, l3⟩ := hM.row (.there (.there (.there .here)))
  go_wp2_with fail
  clear k3 f3 l3
  apply Mem.at
  · (repeat' (first | with_reducible exact hM | with_reducible exact Mem.undrew hM | with_reducible exact hMp | with_reducible exact Mem.undrew hMp | with_reducible apply Mem.drew | with_reducible apply Mem.drewN | with_reducible apply Mem.alloc | with_reducible apply Mem.set | with_reducible exact Sto.row | exact Sto.row | with_reducible apply Sto.int | with_reducible apply Sto.there | with_reducible assumption | (unfold I64; omega)))
  clear hM
  intro hM
  (try simp only [World.size_alloc, World.size_setCell, World.heap_drewN, heapDrew, Nat.add_assoc, Nat.reduceAdd, List.setIfInBounds_toArray, List.set_cons_zero, List.set_cons_succ, List.cons_append, List.nil_append] at hM)
  obtain ⟨⟨zs0_0, v1⟩, hq0⟩ : ∃ r, safeR p0_0 p0_1 xs0_2 xs0_3 xs0_4 p0_5 = r := ⟨_, rfl⟩
  have HQ0 := Lib.hid hq0; clear hq0
  refine (specSafe_any _ _ _ _ _ xs0_2 _ _ _ xs0_3 _ _ _ xs0_4 _ _ ((hM.ints .here).ints) ((hM.ints (.there .here)).ints) ((hM.ints (.there (.there .here))).ints)).mono ?_
  rw [HQ0.out]
  rintro e w3 ⟨aw0_0, nw0_0, cw0_0, rfl, hm⟩
  replace hM := hM.join hm
  clear hm
  (try simp only [World.size_alloc, World.size_setCell, World.heap_drewN, heapDrew, Nat.add_assoc, Nat.reduceAdd, List.setIfInBounds_toArray, List.set_cons_zero, List.set_cons_succ, List.cons_append, List.nil_append] at hM)
  try dsimp only
  obtain ⟨k4, f4, l4⟩ := hM.row (.there (.there (.there (.there .here))))
  go_wp2_with fail
  clear k4 f4 l4
  apply Mem.at
  · (repeat' (first | with_reducible exact hM | with_reducible exact Mem.undrew hM | with_reducible exact hMp | with_reducible exact Mem.undrew hMp | with_reducible apply Mem.drew | with_reducible apply Mem.drewN | with_reducible apply Mem.alloc | with_reducible apply Mem.set | with_reducible exact Sto.row | exact Sto.row | with_reducible apply Sto.int | with_reducible apply Sto.there | with_reducible assumption | (unfold I64; omega)))
  clear hM
  intro hM
  (try simp only [World.size_alloc, World.size_setCell, World.heap_drewN, heapDrew, Nat.add_assoc, Nat.reduceAdd, List.setIfInBounds_toArray, List.set_cons_zero, List.set_cons_succ, List.cons_append, List.nil_append] at hM)
  refine (toIncident_any _ _ _ _ _ xs0_2 _ _ _ xs0_3 _ _ _ xs0_4 _ _ (I0_2.ext hM.below) (I0_3.ext hM.below) (I0_4.ext hM.below)).mono ?_
  rintro e w4 ⟨bx0_2, dx0_2, bx0_3, dx0_3, bx0_4, dx0_4, rfl, hm⟩
  replace hM := hM.join hm
  clear hm
  (try simp only [World.size_alloc, World.size_setCell, World.heap_drewN, heapDrew, Nat.add_assoc, Nat.reduceAdd, List.setIfInBounds_toArray, List.set_cons_zero, List.set_cons_succ, List.cons_append, List.nil_append] at hM)
  dsimp only
  go_wp2_with fail
  apply Mem.at
  · (repeat' (first | with_reducible exact hM | with_reducible exact Mem.undrew hM | with_reducible exact hMp | with_reducible exact Mem.undrew hMp | with_reducible apply Mem.drew | with_reducible apply Mem.drewN | with_reducible apply Mem.alloc | with_reducible apply Mem.set | with_reducible exact Sto.row | exact Sto.row | with_reducible apply Sto.int | with_reducible apply Sto.there | with_reducible assumption | (unfold I64; omega)))
  clear hM
  intro hM
  (try simp only [World.size_alloc, World.size_setCell, World.heap_drewN, heapDrew, Nat.add_assoc, Nat.reduceAdd, List.setIfInBounds_toArray, List.set_cons_zero, List.set_cons_succ, List.cons_append, List.nil_append] at hM)
  refine (implSafe_any _ _ _ _ _ xs0_2 _ _ _ xs0_3 _ _ _ xs0_4 _ _ ((hM.ints (.there .here)).ints) ((hM.ints (.there (.there .here))).ints) ((hM.ints (.there (.there (.there .here)))).ints)).mono ?_
  rw [HQ0.out]
  rintro e w5 ⟨ag0_0, ng0_0, cg0_0, rfl, hm⟩
  replace hM := hM.join hm
  clear hm
  (try simp only [World.size_alloc, World.size_setCell, World.heap_drewN, heapDrew, Nat.add_assoc, Nat.reduceAdd, List.setIfInBounds_toArray, List.set_cons_zero, List.set_cons_succ, List.cons_append, List.nil_append] at hM)
  try dsimp only
  have hbb1 : (v1 != v1) = false := by cases v1 <;> rfl
  go_wp2_with fail
  apply Mem.at
  · (repeat' (first | with_reducible exact hM | with_reducible exact Mem.undrew hM | with_reducible exact hMp | with_reducible exact Mem.undrew hMp | with_reducible apply Mem.drew | with_reducible apply Mem.drewN | with_reducible apply Mem.alloc | with_reducible apply Mem.set | with_reducible exact Sto.row | exact Sto.row | with_reducible apply Sto.int | with_reducible apply Sto.there | with_reducible assumption | (unfold I64; omega)))
  clear hM
  intro hM
  (try simp only [World.size_alloc, World.size_setCell, World.heap_drewN, heapDrew, Nat.add_assoc, Nat.reduceAdd, List.setIfInBounds_toArray, List.set_cons_zero, List.set_cons_succ, List.cons_append, List.nil_append] at hM)
  refine (eqIntS_any _ _ _ zs0_0 _ _ _ zs0_0 _ ((hM.ints .here).ints) ((hM.ints (.there (.there (.there (.there (.there .here)))))).ints)).mono ?_
  rw [beq_self_eq_true]
  rintro e w6 ⟨rfl, hb⟩
  replace hM := hM.ext hb
  clear hb
  obtain ⟨k1, f1, l1⟩ := hM.row (.there .here)
  obtain ⟨k9, f9, l9⟩ := hM.row (.there (.there (.there (.there (.there (.there (.there (.there (.there .here)))))))))
  go_wp2_with fail
  clear k1 f1 l1 k9 f9 l9
  apply Mem.atWp
  · (repeat' (first | with_reducible exact hM | with_reducible exact Mem.undrew hM | with_reducible exact hMp | with_reducible exact Mem.undrew hMp | with_reducible apply Mem.drew | with_reducible apply Mem.drewN | with_reducible apply Mem.alloc | with_reducible apply Mem.set | with_reducible exact Sto.row | exact Sto.row | with_reducible apply Sto.int | with_reducible apply Sto.there | with_reducible assumption | (unfold I64; omega)))
  clear hM
  intro hM
  (try simp only [World.size_alloc, World.size_setCell, World.heap_drewN, heapDrew, Nat.add_assoc, Nat.reduceAdd, List.setIfInBounds_toArray, List.set_cons_zero, List.set_cons_succ, List.cons_append, List.nil_append] at hM)
  refine AtT.startM hM 4 (by kernel_rfl) ?_
  replace hM := hM.drew
  have hS := hM
  refine AtT.taked (i := 0) (v := ?_) (some 41) rfl rfl (by kernel_rfl) (by kernel_rfl) (by kernel_rfl) (by kernel_rfl) (fun _ _ _ h => h) (Or.inl ⟨by kernel_rfl, ?_⟩) hS ?_
  rotate_left
  · (intro wS hSw; (try dsimp only at hSw); have kr0 := (Mem.row hSw (.there (.there (.there (.there (.there (.there (.there (.there (.there .here)))))))))).cell; have kr1 := (Mem.row hSw (.there .here)).cell; go_simp; try with_reducible rfl)
  simp only [Act.put, List.setIfInBounds_toArray, List.set_cons_zero, List.set_cons_succ]
  refine AtT.taked (i := 1) (v := ?_) (some 42) rfl rfl (by kernel_rfl) (by kernel_rfl) (by kernel_rfl) (by kernel_rfl) (fun _ _ _ h => h) (Or.inl ⟨by kernel_rfl, ?_⟩) hS ?_
  rotate_left
  · (intro wS hSw; (try dsimp only at hSw); have kr0 := (Mem.row hSw (.there (.there (.there (.there (.there (.there (.there (.there (.there .here)))))))))).cell; have kr1 := (Mem.row hSw (.there .here)).cell; go_simp; try with_reducible rfl)
  simp only [Act.put, List.setIfInBounds_toArray, List.set_cons_zero, List.set_cons_succ]
  refine AtT.only (i := 2) (by kernel_rfl) rfl rfl ?_
  intro K hK
  go_simp
  refine (toIncident_any _ _ _ _ _ xs0_2 _ _ _ xs0_3 _ _ _ xs0_4 _ _ (I0_2.ext hM.below) (I0_3.ext hM.below) (I0_4.ext hM.below)).mono ?_
  rintro e w7 ⟨bq7_2, dq7_2, bq7_3, dq7_3, bq7_4, dq7_4, rfl, hm⟩
  replace hM := hM.join hm
  clear hm
  (try simp only [World.size_alloc, World.size_setCell, World.heap_drewN, heapDrew, Nat.add_assoc, Nat.reduceAdd, List.setIfInBounds_toArray, List.set_cons_zero, List.set_cons_succ, List.cons_append, List.nil_append] at hM)
  try dsimp only
  refine hK.out _ _ (hM.tail.tail.tail) ?_
  clear hK K hS
  have hS := hM.tail.tail.tail
  refine AtT.only (i := 3) (by kernel_rfl) rfl rfl ?_
  intro K hK
  go_simp
  refine (eqIncident_any _ _ _ _ _ xs0_2 _ _ _ xs0_3 _ _ _ xs0_4 _ _ _ _ _ _ xs0_2 _ _ _ xs0_3 _ _ _ xs0_4 _ _ ((hM.ints (.there (.there (.there (.there (.there .here)))))).ints) ((hM.ints (.there (.there (.there (.there (.there (.there .here))))))).ints) ((hM.ints (.there (.there (.there (.there (.there (.there (.there .here)))))))).ints) ((hM.ints .here).ints) ((hM.ints (.there .here)).ints) ((hM.ints (.there (.there .here))).ints)).mono ?_
  rw [eqInc_refl]
  rintro e w8 ⟨rfl, hb⟩
  replace hM := hM.ext hb
  clear hb
  try dsimp only
  refine hK.out _ _ (hM.tail.tail.tail) ?_
  clear hK K hS
  have hS := hM.tail.tail.tail
  refine AtT.last (by kernel_rfl) rfl (by kernel_rfl) ?_
  intro K hK
  clear hS
  go_simp
  refine hK.out _ _ ?_
  clear hK K
  obtain ⟨k4, f4, l4⟩ := hM.row (.there (.there (.there (.there .here))))
  go_wp2_with fail
  clear k4 f4 l4
  apply Mem.at
  · (repeat' (first | with_reducible exact hM | with_reducible exact Mem.undrew hM | with_reducible exact hMp | with_reducible exact Mem.undrew hMp | with_reducible apply Mem.drew | with_reducible apply Mem.drewN | with_reducible apply Mem.alloc | with_reducible apply Mem.set | with_reducible exact Sto.row | exact Sto.row | with_reducible apply Sto.int | with_reducible apply Sto.there | with_reducible assumption | (unfold I64; omega)))
  clear hM
  intro hM
  (try simp only [World.size_alloc, World.size_setCell, World.heap_drewN, heapDrew, Nat.add_assoc, Nat.reduceAdd, List.setIfInBounds_toArray, List.set_cons_zero, List.set_cons_succ, List.cons_append, List.nil_append] at hM)
  replace hM := hM.pick (is := [5, 6, 7, 0, 1, 2, 3, 4, 8, 9, 10, 11, 12]) (by decide) rfl
  refine (markIncident_any _ _ _ _ _ _ _ _ _ _ _ _ _ _ _ _ _ _ 1 _ hM (by omega)).mono ?_
  clear hM
  rintro e w9 ⟨rfl, hM⟩
  go_wp2_with fail
  apply Mem.at
  · (repeat' (first | with_reducible exact hM | with_reducible exact Mem.undrew hM | with_reducible exact hMp | with_reducible exact Mem.undrew hMp | with_reducible apply Mem.drew | with_reducible apply Mem.drewN | with_reducible apply Mem.alloc | with_reducible apply Mem.set | with_reducible exact Sto.row | exact Sto.row | with_reducible apply Sto.int | with_reducible apply Sto.there | with_reducible assumption | (unfold I64; omega)))
  clear hM
  intro hM
  (try simp only [World.size_alloc, World.size_setCell, World.heap_drewN, heapDrew, Nat.add_assoc, Nat.reduceAdd, List.setIfInBounds_toArray, List.set_cons_zero, List.set_cons_succ, List.cons_append, List.nil_append] at hM)
  refine (eqIntS_any _ _ _ zs0_0 _ _ _ zs0_0 _ ((hM.ints (.there (.there (.there (.there (.there (.there .here))))))).ints) ((hM.ints (.there (.there (.there (.there (.there (.there (.there (.there .here))))))))).ints)).mono ?_
  rw [beq_self_eq_true]
  rintro e w10 ⟨rfl, hb⟩
  replace hM := hM.ext hb
  clear hb
  go_wp2_with fail
  apply Mem.at
  · (repeat' (first | with_reducible exact hM | with_reducible exact Mem.undrew hM | with_reducible exact hMp | with_reducible exact Mem.undrew hMp | with_reducible apply Mem.drew | with_reducible apply Mem.drewN | with_reducible apply Mem.alloc | with_reducible apply Mem.set | with_reducible exact Sto.row | exact Sto.row | with_reducible apply Sto.int | with_reducible apply Sto.there | with_reducible assumption | (unfold I64; omega)))
  clear hM
  intro hM
  (try simp only [World.size_alloc, World.size_setCell, World.heap_drewN, heapDrew, Nat.add_assoc, Nat.reduceAdd, List.setIfInBounds_toArray, List.set_cons_zero, List.set_cons_succ, List.cons_append, List.nil_append] at hM)
  refine (markIntS_any _ _ _ _ _ 1 _ (Mem.ints hM (.there (.there (.there (.there (.there (.there .here))))))) (by omega)).mono ?_
  rintro e w11 ⟨rfl, hO, hk⟩
  replace hM := hM.put (e' := intE _ _ _ _) (.there (.there (.there (.there (.there (.there (.here))))))) hk hO (fun k hk => .inl hk)
  clear hO hk
  go_wp2_with fail
  apply Mem.at
  · (repeat' (first | with_reducible exact hM | with_reducible exact Mem.undrew hM | with_reducible exact hMp | with_reducible exact Mem.undrew hMp | with_reducible apply Mem.drew | with_reducible apply Mem.drewN | with_reducible apply Mem.alloc | with_reducible apply Mem.set | with_reducible exact Sto.row | exact Sto.row | with_reducible apply Sto.int | with_reducible apply Sto.there | with_reducible assumption | (unfold I64; omega)))
  clear hM
  intro hM
  (try simp only [World.size_alloc, World.size_setCell, World.heap_drewN, heapDrew, Nat.add_assoc, Nat.reduceAdd, List.setIfInBounds_toArray, List.set_cons_zero, List.set_cons_succ, List.cons_append, List.nil_append] at hM)
  have hmm12 := (hM.ints (.there (.there (.there (.there (.there (.there .here))))))).room
  refine (heldIntS_any _ _ _ _ 1 _ ((hM.ints (.there (.there (.there (.there (.there (.there .here))))))).ints) (by omega)).mono ?_
  rw [heldF_fromI]
  rintro e w12 ⟨rfl, rfl⟩
  have hmn12 : ((1 + (ng0_0 : Int)) != 1 + ng0_0) = false := by simp
  obtain ⟨k12, f12, l12⟩ := hM.row (.there (.there (.there (.there (.there (.there (.there (.there (.there (.there (.there (.there .here))))))))))))
  go_wp2_with fail
  clear k12 f12 l12
  apply Mem.at
  · (repeat' (first | with_reducible exact hM | with_reducible exact Mem.undrew hM | with_reducible exact hMp | with_reducible exact Mem.undrew hMp | with_reducible apply Mem.drew | with_reducible apply Mem.drewN | with_reducible apply Mem.alloc | with_reducible apply Mem.set | with_reducible exact Sto.row | exact Sto.row | with_reducible apply Sto.int | with_reducible apply Sto.there | with_reducible assumption | (unfold I64; omega)))
  clear hM
  intro hM
  (try simp only [World.size_alloc, World.size_setCell, World.heap_drewN, heapDrew, Nat.add_assoc, Nat.reduceAdd, List.setIfInBounds_toArray, List.set_cons_zero, List.set_cons_succ, List.cons_append, List.nil_append] at hM)
  refine (toIncident_any _ _ _ _ _ xs0_2 _ _ _ xs0_3 _ _ _ xs0_4 _ _ (I0_2.ext hM.below) (I0_3.ext hM.below) (I0_4.ext hM.below)).mono ?_
  rintro e w13 ⟨bh0t_2, dh0t_2, bh0t_3, dh0t_3, bh0t_4, dh0t_4, rfl, hm⟩
  replace hM := hM.join hm
  clear hm
  (try simp only [World.size_alloc, World.size_setCell, World.heap_drewN, heapDrew, Nat.add_assoc, Nat.reduceAdd, List.setIfInBounds_toArray, List.set_cons_zero, List.set_cons_succ, List.cons_append, List.nil_append] at hM)
  dsimp only
  obtain ⟨k15, f15, l15⟩ := hM.row (.there (.there (.there (.there (.there (.there (.there (.there (.there (.there (.there (.there (.there (.there (.there .here)))))))))))))))
  go_wp2_with fail
  clear k15 f15 l15
  apply Mem.at
  · (repeat' (first | with_reducible exact hM | with_reducible exact Mem.undrew hM | with_reducible exact hMp | with_reducible exact Mem.undrew hMp | with_reducible apply Mem.drew | with_reducible apply Mem.drewN | with_reducible apply Mem.alloc | with_reducible apply Mem.set | with_reducible exact Sto.row | exact Sto.row | with_reducible apply Sto.int | with_reducible apply Sto.there | with_reducible assumption | (unfold I64; omega)))
  clear hM
  intro hM
  (try simp only [World.size_alloc, World.size_setCell, World.heap_drewN, heapDrew, Nat.add_assoc, Nat.reduceAdd, List.setIfInBounds_toArray, List.set_cons_zero, List.set_cons_succ, List.cons_append, List.nil_append] at hM)
  refine (implSafe_any _ _ _ _ _ xs0_2 _ _ _ xs0_3 _ _ _ xs0_4 _ _ ((hM.ints .here).ints) ((hM.ints (.there .here)).ints) ((hM.ints (.there (.there .here))).ints)).mono ?_
  rw [HQ0.out]
  rintro e w14 ⟨ah0_0, nh0_0, ch0_0, rfl, hm⟩
  replace hM := hM.join hm
  clear hm
  (try simp only [World.size_alloc, World.size_setCell, World.heap_drewN, heapDrew, Nat.add_assoc, Nat.reduceAdd, List.setIfInBounds_toArray, List.set_cons_zero, List.set_cons_succ, List.cons_append, List.nil_append] at hM)
  try dsimp only
  go_wp2_with fail
  apply Mem.at
  · (repeat' (first | with_reducible exact hM | with_reducible exact Mem.undrew hM | with_reducible exact hMp | with_reducible exact Mem.undrew hMp | with_reducible apply Mem.drew | with_reducible apply Mem.drewN | with_reducible apply Mem.alloc | with_reducible apply Mem.set | with_reducible exact Sto.row | exact Sto.row | with_reducible apply Sto.int | with_reducible apply Sto.there | with_reducible assumption | (unfold I64; omega)))
  clear hM
  intro hM
  (try simp only [World.size_alloc, World.size_setCell, World.heap_drewN, heapDrew, Nat.add_assoc, Nat.reduceAdd, List.setIfInBounds_toArray, List.set_cons_zero, List.set_cons_succ, List.cons_append, List.nil_append] at hM)
  refine (eqIntS_any _ _ _ zs0_0 _ _ _ zs0_0 _ ((hM.ints .here).ints) ((hM.ints (.there (.there (.there (.there (.there (.there (.there (.there (.there (.there (.there (.there .here))))))))))))).ints)).mono ?_
  rw [beq_self_eq_true]
  rintro e w15 ⟨rfl, hb⟩
  replace hM := hM.ext hb
  clear hb
  go_wp2_with fail
  apply Mem.at
  · (repeat' (first | with_reducible exact hM | with_reducible exact Mem.undrew hM | with_reducible exact hMp | with_reducible exact Mem.undrew hMp | with_reducible apply Mem.drew | with_reducible apply Mem.drewN | with_reducible apply Mem.alloc | with_reducible apply Mem.set | with_reducible exact Sto.row | exact Sto.row | with_reducible apply Sto.int | with_reducible apply Sto.there | with_reducible assumption | (unfold I64; omega)))
  clear hM
  intro hM
  (try simp only [World.size_alloc, World.size_setCell, World.heap_drewN, heapDrew, Nat.add_assoc, Nat.reduceAdd, List.setIfInBounds_toArray, List.set_cons_zero, List.set_cons_succ, List.cons_append, List.nil_append] at hM)
  have hmm16 := (hM.ints (.there (.there (.there (.there (.there (.there (.there (.there (.there (.there .here))))))))))).room
  refine (heldIntS_any _ _ _ _ 1 _ ((hM.ints (.there (.there (.there (.there (.there (.there (.there (.there (.there (.there .here))))))))))).ints) (by omega)).mono ?_
  rw [heldF_fromI]
  rintro e w16 ⟨rfl, rfl⟩
  have hmn16 : ((1 + (ng0_0 : Int)) != 1 + ng0_0) = false := by simp
  go_wp2
  go_ret
  exact ⟨rfl, (by apply Mem.below; (repeat' (first | with_reducible exact hM | with_reducible exact Mem.undrew hM | with_reducible exact hMp | with_reducible exact Mem.undrew hMp | with_reducible apply Mem.drew | with_reducible apply Mem.drewN | with_reducible apply Mem.alloc | with_reducible apply Mem.set | with_reducible exact Sto.row | exact Sto.row | with_reducible apply Sto.int | with_reducible apply Sto.there | with_reducible assumption | (unfold I64; omega))))⟩
end Go.Proofs.Ytlmdckocjlogkaa

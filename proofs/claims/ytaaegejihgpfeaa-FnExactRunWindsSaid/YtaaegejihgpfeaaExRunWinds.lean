import Derived.Test.YtaaegejihgpfeaaRunW
namespace Go.Proofs.Ytaaegejihgpfeaa
set_option linter.unusedSimpArgs false
set_option linter.unusedVariables false
open Go.RowKit

set_option maxRecDepth 100000 in
set_option maxHeartbeats 8000000 in
theorem FnExactRunWinds_walk (p0_0 : Int) (p0_1 : Int) (a0_2 : Option Addr) (n0_2 c0_2 : Nat) (xs0_2 : List Int) (a1_0 : Option Addr) (n1_0 c1_0 : Nat) (xs1_0 : List WindI) (w : World) (hp0_0 : I64 p0_0) (hp0_1 : I64 p0_1) (I0_2 : Ints w a0_2 n0_2 c0_2 xs0_2) (I1_0 : Rd FWind w a1_0 n1_0 c1_0 xs1_0) :
    Calls Try.prog 11 #[.agg #[.int .i64 p0_0, .int .i64 p0_1, .slice a0_2 n0_2 c0_2], .slice a1_0 n1_0 c1_0] w fun e w' => e = .returned (.bool true) ∧ Below w.heap.size w w' := by
  have hr0_2 := I0_2.room
  have hr1_0 := I1_0.nroom
  have hM := Mem.start w
  go_enter Try.func11, Try.ntmps11
  go_wp2_with fail
  apply Mem.at
  · (repeat' (first | with_reducible exact hM | with_reducible exact Mem.undrew hM | with_reducible exact hMp | with_reducible exact Mem.undrew hMp | with_reducible apply Mem.drew | with_reducible apply Mem.drewN | with_reducible apply Mem.alloc | with_reducible apply Mem.set | with_reducible exact Sto.row | exact Sto.row | with_reducible apply Sto.int | with_reducible apply Sto.there | (unfold I64; omega)))
  clear hM
  intro hM
  (try simp only [World.size_alloc, World.size_setCell, World.heap_drewN, heapDrew, Nat.add_assoc, Nat.reduceAdd, List.setIfInBounds_toArray, List.set_cons_zero, List.set_cons_succ, List.cons_append, List.nil_append] at hM)
  refine (szSmoke_any _ _ _ _ _ 1048576 _ hr0_2 (by omega)).mono ?_
  obtain ⟨z1, hz'⟩ : ∃ z, szF n0_2 1048576 = z := ⟨_, rfl⟩
  rw [hz']
  have hzr : z1 ≤ 1048576 ∧ (0 ≤ z1 → (n0_2 : Int) ≤ 1048576) := by unfold szF at hz'; split at hz' <;> omega
  obtain ⟨hz1, hn0⟩ := hzr
  clear hz'
  rintro e w1 ⟨rfl, hb⟩
  replace hM := hM.ext hb
  clear hb
  by_cases hzn1 : z1 < 0
  · go_wp2
    go_ret
    exact ⟨rfl, (by apply Mem.below; (repeat' (first | with_reducible exact hM | with_reducible exact Mem.undrew hM | with_reducible exact hMp | with_reducible exact Mem.undrew hMp | with_reducible apply Mem.drew | with_reducible apply Mem.drewN | with_reducible apply Mem.alloc | with_reducible apply Mem.set | with_reducible exact Sto.row | exact Sto.row | with_reducible apply Sto.int | with_reducible apply Sto.there | (unfold I64; omega))))⟩
  replace hn0 := hn0 (by omega)
  replace hzn1 : 0 ≤ z1 := by omega
  go_wp2_with fail
  apply Mem.at
  · (repeat' (first | with_reducible exact hM | with_reducible exact Mem.undrew hM | with_reducible exact hMp | with_reducible exact Mem.undrew hMp | with_reducible apply Mem.drew | with_reducible apply Mem.drewN | with_reducible apply Mem.alloc | with_reducible apply Mem.set | with_reducible exact Sto.row | exact Sto.row | with_reducible apply Sto.int | with_reducible apply Sto.there | (unfold I64; omega)))
  clear hM
  intro hM
  (try simp only [World.size_alloc, World.size_setCell, World.heap_drewN, heapDrew, Nat.add_assoc, Nat.reduceAdd, List.setIfInBounds_toArray, List.set_cons_zero, List.set_cons_succ, List.cons_append, List.nil_append] at hM)
  refine (szWindS_any _ _ _ _ _ hr1_0 (by omega)).mono ?_
  obtain ⟨z2, hz'⟩ : ∃ z, szF n1_0 z1 = z := ⟨_, rfl⟩
  rw [hz']
  have hzr : z2 ≤ 1048576 ∧ (0 ≤ z2 → (n1_0 : Int) ≤ 1048576) := by unfold szF at hz'; split at hz' <;> omega
  obtain ⟨hz2, hn1⟩ := hzr
  clear hz'
  rintro e w2 ⟨rfl, rfl⟩
  by_cases hzn2 : z2 < 0
  · go_wp2
    go_ret
    exact ⟨rfl, (by apply Mem.below; (repeat' (first | with_reducible exact hM | with_reducible exact Mem.undrew hM | with_reducible exact hMp | with_reducible exact Mem.undrew hMp | with_reducible apply Mem.drew | with_reducible apply Mem.drewN | with_reducible apply Mem.alloc | with_reducible apply Mem.set | with_reducible exact Sto.row | exact Sto.row | with_reducible apply Sto.int | with_reducible apply Sto.there | (unfold I64; omega))))⟩
  replace hn1 := hn1 (by omega)
  replace hzn2 : 0 ≤ z2 := by omega
  obtain ⟨k0, f0, l0⟩ := hM.row .here
  go_wp2_with fail
  clear k0 f0 l0
  apply Mem.at
  · (repeat' (first | with_reducible exact hM | with_reducible exact Mem.undrew hM | with_reducible exact hMp | with_reducible exact Mem.undrew hMp | with_reducible apply Mem.drew | with_reducible apply Mem.drewN | with_reducible apply Mem.alloc | with_reducible apply Mem.set | with_reducible exact Sto.row | exact Sto.row | with_reducible apply Sto.int | with_reducible apply Sto.there | (unfold I64; omega)))
  clear hM
  intro hM
  (try simp only [World.size_alloc, World.size_setCell, World.heap_drewN, heapDrew, Nat.add_assoc, Nat.reduceAdd, List.setIfInBounds_toArray, List.set_cons_zero, List.set_cons_succ, List.cons_append, List.nil_append] at hM)
  refine (toSmoke_any _ _ _ _ _ xs0_2 _ (I0_2.ext hM.below)).mono ?_
  rintro e w3 ⟨bw0t_2, dw0t_2, rfl, hO, hb⟩
  replace hM := hM.own hb hO
  clear hb hO
  dsimp only
  go_wp2_with fail
  apply Mem.at
  · (repeat' (first | with_reducible exact hM | with_reducible exact Mem.undrew hM | with_reducible exact hMp | with_reducible exact Mem.undrew hMp | with_reducible apply Mem.drew | with_reducible apply Mem.drewN | with_reducible apply Mem.alloc | with_reducible apply Mem.set | with_reducible exact Sto.row | exact Sto.row | with_reducible apply Sto.int | with_reducible apply Sto.there | (unfold I64; omega)))
  clear hM
  intro hM
  (try simp only [World.size_alloc, World.size_setCell, World.heap_drewN, heapDrew, Nat.add_assoc, Nat.reduceAdd, List.setIfInBounds_toArray, List.set_cons_zero, List.set_cons_succ, List.cons_append, List.nil_append] at hM)
  refine (toWindS_any _ _ _ xs1_0 _ (I1_0.ext hM.below)).mono ?_
  rintro e w4 ⟨bw1t_0, dw1t_0, rfl, hO, hb⟩
  replace hM := hM.owned hb hO
  clear hb hO
  dsimp only
  obtain ⟨k2, f2, l2⟩ := hM.row (.there (.there .here))
  go_wp2_with fail
  clear k2 f2 l2
  apply Mem.at
  · (repeat' (first | with_reducible exact hM | with_reducible exact Mem.undrew hM | with_reducible exact hMp | with_reducible exact Mem.undrew hMp | with_reducible apply Mem.drew | with_reducible apply Mem.drewN | with_reducible apply Mem.alloc | with_reducible apply Mem.set | with_reducible exact Sto.row | exact Sto.row | with_reducible apply Sto.int | with_reducible apply Sto.there | (unfold I64; omega)))
  clear hM
  intro hM
  (try simp only [World.size_alloc, World.size_setCell, World.heap_drewN, heapDrew, Nat.add_assoc, Nat.reduceAdd, List.setIfInBounds_toArray, List.set_cons_zero, List.set_cons_succ, List.cons_append, List.nil_append] at hM)
  obtain ⟨⟨⟨Wr, Hr, zs0_2⟩, v1, v2⟩, hq0⟩ : ∃ r, runR p0_0 p0_1 xs0_2 xs1_0 = r := ⟨_, rfl⟩
  have HQ0 := Lib.hid hq0; clear hq0
  refine (specRunR_any _ _ _ _ _ xs0_2 _ _ _ xs1_0 _ ((hM.ints (.there .here)).ints) ((hM.ow .here).rd) hp0_0 hp0_1).mono ?_
  rw [HQ0.out]
  rintro e w5 ⟨aw0_2, nw0_2, cw0_2, rfl, hO, hb⟩
  replace hM := hM.own hb hO
  clear hb hO
  try dsimp only
  obtain ⟨k3, f3, l3⟩ := hM.row (.there (.there (.there .here)))
  go_wp2_with fail
  clear k3 f3 l3
  apply Mem.at
  · (repeat' (first | with_reducible exact hM | with_reducible exact Mem.undrew hM | with_reducible exact hMp | with_reducible exact Mem.undrew hMp | with_reducible apply Mem.drew | with_reducible apply Mem.drewN | with_reducible apply Mem.alloc | with_reducible apply Mem.set | with_reducible exact Sto.row | exact Sto.row | with_reducible apply Sto.int | with_reducible apply Sto.there | (unfold I64; omega)))
  clear hM
  intro hM
  (try simp only [World.size_alloc, World.size_setCell, World.heap_drewN, heapDrew, Nat.add_assoc, Nat.reduceAdd, List.setIfInBounds_toArray, List.set_cons_zero, List.set_cons_succ, List.cons_append, List.nil_append] at hM)
  refine (toSmoke_any _ _ _ _ _ xs0_2 _ (I0_2.ext hM.below)).mono ?_
  rintro e w6 ⟨bx0_2, dx0_2, rfl, hO, hb⟩
  replace hM := hM.own hb hO
  clear hb hO
  dsimp only
  go_wp2_with fail
  apply Mem.at
  · (repeat' (first | with_reducible exact hM | with_reducible exact Mem.undrew hM | with_reducible exact hMp | with_reducible exact Mem.undrew hMp | with_reducible apply Mem.drew | with_reducible apply Mem.drewN | with_reducible apply Mem.alloc | with_reducible apply Mem.set | with_reducible exact Sto.row | exact Sto.row | with_reducible apply Sto.int | with_reducible apply Sto.there | (unfold I64; omega)))
  clear hM
  intro hM
  (try simp only [World.size_alloc, World.size_setCell, World.heap_drewN, heapDrew, Nat.add_assoc, Nat.reduceAdd, List.setIfInBounds_toArray, List.set_cons_zero, List.set_cons_succ, List.cons_append, List.nil_append] at hM)
  refine (toWindS_any _ _ _ xs1_0 _ (I1_0.ext hM.below)).mono ?_
  rintro e w7 ⟨bx1_0, dx1_0, rfl, hO, hb⟩
  replace hM := hM.owned hb hO
  clear hb hO
  dsimp only
  obtain ⟨k1, f1, l1⟩ := hM.row (.there .here)
  go_wp2_with fail
  clear k1 f1 l1
  apply Mem.at
  · (repeat' (first | with_reducible exact hM | with_reducible exact Mem.undrew hM | with_reducible exact hMp | with_reducible exact Mem.undrew hMp | with_reducible apply Mem.drew | with_reducible apply Mem.drewN | with_reducible apply Mem.alloc | with_reducible apply Mem.set | with_reducible exact Sto.row | exact Sto.row | with_reducible apply Sto.int | with_reducible apply Sto.there | (unfold I64; omega)))
  clear hM
  intro hM
  (try simp only [World.size_alloc, World.size_setCell, World.heap_drewN, heapDrew, Nat.add_assoc, Nat.reduceAdd, List.setIfInBounds_toArray, List.set_cons_zero, List.set_cons_succ, List.cons_append, List.nil_append] at hM)
  refine (implRunR_any _ _ _ _ _ xs0_2 _ _ _ xs1_0 _ ((hM.ints (.there (.there .here))).ints) ((hM.ow .here).rd) hp0_0 hp0_1).mono ?_
  rw [HQ0.out]
  rintro e w8 ⟨ag0_2, ng0_2, cg0_2, rfl, hO, hb⟩
  replace hM := hM.own hb hO
  clear hb hO
  try dsimp only
  have hbb1 : (v1 != v1) = false := by simp
  have hbb2 : (v2 != v2) = false := by cases v2 <;> rfl
  obtain ⟨k4, f4, l4⟩ := hM.row (.there (.there (.there (.there .here))))
  go_wp2_with fail
  clear k4 f4 l4
  apply Mem.at
  · (repeat' (first | with_reducible exact hM | with_reducible exact Mem.undrew hM | with_reducible exact hMp | with_reducible exact Mem.undrew hMp | with_reducible apply Mem.drew | with_reducible apply Mem.drewN | with_reducible apply Mem.alloc | with_reducible apply Mem.set | with_reducible exact Sto.row | exact Sto.row | with_reducible apply Sto.int | with_reducible apply Sto.there | (unfold I64; omega)))
  clear hM
  intro hM
  (try simp only [World.size_alloc, World.size_setCell, World.heap_drewN, heapDrew, Nat.add_assoc, Nat.reduceAdd, List.setIfInBounds_toArray, List.set_cons_zero, List.set_cons_succ, List.cons_append, List.nil_append] at hM)
  refine (eqSmoke_any _ _ _ _ _ zs0_2 _ _ _ _ _ zs0_2 _ ((hM.ints (.there .here)).ints) ((hM.ints (.there (.there (.there (.there (.there (.there .here))))))).ints)).mono ?_
  rw [eqG_refl]
  rintro e w9 ⟨rfl, hb⟩
  replace hM := hM.ext hb
  clear hb
  obtain ⟨k3, f3, l3⟩ := hM.row (.there (.there (.there .here)))
  obtain ⟨k9, f9, l9⟩ := hM.row (.there (.there (.there (.there (.there (.there (.there (.there (.there .here)))))))))
  go_wp2_with fail
  clear k3 f3 l3 k9 f9 l9
  apply Mem.atWp
  · (repeat' (first | with_reducible exact hM | with_reducible exact Mem.undrew hM | with_reducible exact hMp | with_reducible exact Mem.undrew hMp | with_reducible apply Mem.drew | with_reducible apply Mem.drewN | with_reducible apply Mem.alloc | with_reducible apply Mem.set | with_reducible exact Sto.row | exact Sto.row | with_reducible apply Sto.int | with_reducible apply Sto.there | (unfold I64; omega)))
  clear hM
  intro hM
  (try simp only [World.size_alloc, World.size_setCell, World.heap_drewN, heapDrew, Nat.add_assoc, Nat.reduceAdd, List.setIfInBounds_toArray, List.set_cons_zero, List.set_cons_succ, List.cons_append, List.nil_append] at hM)
  refine AtT.startM hM 4 (by kernel_rfl) ?_
  replace hM := hM.drew
  have hS := hM
  refine AtT.take (i := 0) (v := ?_) rfl (by kernel_rfl) (by kernel_rfl) (by kernel_rfl) (by kernel_rfl) (fun _ _ _ h => h) (Or.inl ⟨by kernel_rfl, ?_⟩) hS ?_
  rotate_left
  · (intro wS hSw; (try dsimp only at hSw); obtain ⟨_, _, _⟩ := Mem.row hSw (.there (.there (.there (.there (.there (.there (.there (.there (.there .here))))))))); obtain ⟨_, _, _⟩ := Mem.row hSw (.there (.there (.there .here))); go_simp; try with_reducible rfl)
  simp only [Act.put, List.setIfInBounds_toArray, List.set_cons_zero, List.set_cons_succ]
  refine AtT.take (i := 1) (v := ?_) rfl (by kernel_rfl) (by kernel_rfl) (by kernel_rfl) (by kernel_rfl) (fun _ _ _ h => h) (Or.inl ⟨by kernel_rfl, ?_⟩) hS ?_
  rotate_left
  · (intro wS hSw; (try dsimp only at hSw); obtain ⟨_, _, _⟩ := Mem.row hSw (.there (.there (.there (.there (.there (.there (.there (.there (.there .here))))))))); obtain ⟨_, _, _⟩ := Mem.row hSw (.there (.there (.there .here))); go_simp; try with_reducible rfl)
  simp only [Act.put, List.setIfInBounds_toArray, List.set_cons_zero, List.set_cons_succ]
  refine AtT.only (i := 2) (by kernel_rfl) rfl rfl ?_
  intro K hK
  go_simp
  refine (toSmoke_any _ _ _ _ _ xs0_2 _ (I0_2.ext hM.below)).mono ?_
  rintro e w10 ⟨bq10_2, dq10_2, rfl, hO, hb⟩
  replace hM := hM.own hb hO
  clear hb hO
  dsimp only
  refine hK.out _ _ (hM.tail) ?_
  clear hK K hS
  have hS := hM.tail
  refine AtT.only (i := 3) (by kernel_rfl) rfl rfl ?_
  intro K hK
  go_simp
  refine (eqSmoke_any _ _ _ _ _ xs0_2 _ _ _ _ _ xs0_2 _ ((hM.ints (.there (.there (.there (.there (.there .here)))))).ints) ((hM.ints .here).ints)).mono ?_
  rw [eqG_refl]
  rintro e w11 ⟨rfl, hb⟩
  replace hM := hM.ext hb
  clear hb
  dsimp only
  refine hK.out _ _ (hM.tail) ?_
  clear hK K hS
  have hS := hM.tail
  refine AtT.last (by kernel_rfl) rfl (by kernel_rfl) ?_
  intro K hK
  clear hS
  obtain ⟨kk4, ff4, ll4⟩ := hM.row (.there (.there (.there (.there .here))))
  obtain ⟨kk10, ff10, ll10⟩ := hM.row (.there (.there (.there (.there (.there (.there (.there (.there (.there (.there .here))))))))))
  go_simp
  clear kk4 ff4 ll4 kk10 ff10 ll10
  refine hK.out _ _ ?_
  clear hK K
  go_wp2_with fail
  apply Mem.at
  · (repeat' (first | with_reducible exact hM | with_reducible exact Mem.undrew hM | with_reducible exact hMp | with_reducible exact Mem.undrew hMp | with_reducible apply Mem.drew | with_reducible apply Mem.drewN | with_reducible apply Mem.alloc | with_reducible apply Mem.set | with_reducible exact Sto.row | exact Sto.row | with_reducible apply Sto.int | with_reducible apply Sto.there | (unfold I64; omega)))
  clear hM
  intro hM
  (try simp only [World.size_alloc, World.size_setCell, World.heap_drewN, heapDrew, Nat.add_assoc, Nat.reduceAdd, List.setIfInBounds_toArray, List.set_cons_zero, List.set_cons_succ, List.cons_append, List.nil_append] at hM)
  refine (toWindS_any _ _ _ xs1_0 _ (I1_0.ext hM.below)).mono ?_
  rintro e w13 ⟨bq12_0, dq12_0, rfl, hO, hb⟩
  replace hM := hM.owned hb hO
  clear hb hO
  dsimp only
  go_wp2_with fail
  apply Mem.at
  · (repeat' (first | with_reducible exact hM | with_reducible exact Mem.undrew hM | with_reducible exact hMp | with_reducible exact Mem.undrew hMp | with_reducible apply Mem.drew | with_reducible apply Mem.drewN | with_reducible apply Mem.alloc | with_reducible apply Mem.set | with_reducible exact Sto.row | exact Sto.row | with_reducible apply Sto.int | with_reducible apply Sto.there | (unfold I64; omega)))
  clear hM
  intro hM
  (try simp only [World.size_alloc, World.size_setCell, World.heap_drewN, heapDrew, Nat.add_assoc, Nat.reduceAdd, List.setIfInBounds_toArray, List.set_cons_zero, List.set_cons_succ, List.cons_append, List.nil_append] at hM)
  refine (eqWindS_any _ _ _ xs1_0 _ _ _ xs1_0 _ ((hM.ow (.there (.there (.there (.there .here))))).rd) ((hM.ow .here).rd)).mono ?_
  rw [decide_eq_true rfl]
  rintro e w14 ⟨rfl, hb⟩
  replace hM := hM.ext hb
  clear hb
  obtain ⟨k5, f5, l5⟩ := hM.row (.there (.there (.there (.there (.there .here)))))
  go_wp2_with fail
  clear k5 f5 l5
  apply Mem.at
  · (repeat' (first | with_reducible exact hM | with_reducible exact Mem.undrew hM | with_reducible exact hMp | with_reducible exact Mem.undrew hMp | with_reducible apply Mem.drew | with_reducible apply Mem.drewN | with_reducible apply Mem.alloc | with_reducible apply Mem.set | with_reducible exact Sto.row | exact Sto.row | with_reducible apply Sto.int | with_reducible apply Sto.there | (unfold I64; omega)))
  clear hM
  intro hM
  (try simp only [World.size_alloc, World.size_setCell, World.heap_drewN, heapDrew, Nat.add_assoc, Nat.reduceAdd, List.setIfInBounds_toArray, List.set_cons_zero, List.set_cons_succ, List.cons_append, List.nil_append] at hM)
  refine (markSmoke_any _ _ _ _ _ _ _ 1 _ (Mem.ints hM (.there (.there (.there (.there (.there (.there .here))))))) (by omega)).mono ?_
  rintro e w15 ⟨rfl, hO, hk⟩
  replace hM := hM.put (e' := intE _ _ _ _) (.there (.there (.there (.there (.there (.there (.here))))))) hk hO (fun k hk => .inl hk)
  clear hO hk
  go_wp2_with fail
  apply Mem.at
  · (repeat' (first | with_reducible exact hM | with_reducible exact Mem.undrew hM | with_reducible exact hMp | with_reducible exact Mem.undrew hMp | with_reducible apply Mem.drew | with_reducible apply Mem.drewN | with_reducible apply Mem.alloc | with_reducible apply Mem.set | with_reducible exact Sto.row | exact Sto.row | with_reducible apply Sto.int | with_reducible apply Sto.there | (unfold I64; omega)))
  clear hM
  intro hM
  (try simp only [World.size_alloc, World.size_setCell, World.heap_drewN, heapDrew, Nat.add_assoc, Nat.reduceAdd, List.setIfInBounds_toArray, List.set_cons_zero, List.set_cons_succ, List.cons_append, List.nil_append] at hM)
  refine (markWindS_any _ _ _ _ _ _ _ (Mem.ow hM (.there (.there (.there (.there .here))))) hM.size (by omega)).mono ?_
  rintro e w16 ⟨rfl, hO, hk⟩
  replace hM := hM.put (e' := owE FWind _ _ _ _ _) (.there (.there (.there (.there (.here))))) hk hO (fun k hk => .inl hk)
  clear hO hk
  obtain ⟨k2, f2, l2⟩ := hM.row (.there (.there .here))
  obtain ⟨k7, f7, l7⟩ := hM.row (.there (.there (.there (.there (.there (.there (.there .here)))))))
  go_wp2_with fail
  clear k2 f2 l2 k7 f7 l7
  apply Mem.at
  · (repeat' (first | with_reducible exact hM | with_reducible exact Mem.undrew hM | with_reducible exact hMp | with_reducible exact Mem.undrew hMp | with_reducible apply Mem.drew | with_reducible apply Mem.drewN | with_reducible apply Mem.alloc | with_reducible apply Mem.set | with_reducible exact Sto.row | exact Sto.row | with_reducible apply Sto.int | with_reducible apply Sto.there | (unfold I64; omega)))
  clear hM
  intro hM
  (try simp only [World.size_alloc, World.size_setCell, World.heap_drewN, heapDrew, Nat.add_assoc, Nat.reduceAdd, List.setIfInBounds_toArray, List.set_cons_zero, List.set_cons_succ, List.cons_append, List.nil_append] at hM)
  refine (eqSmoke_any _ _ _ _ _ zs0_2 _ _ _ _ _ zs0_2 _ ((hM.ints (.there (.there (.there .here)))).ints) ((hM.ints (.there (.there (.there (.there (.there (.there (.there (.there .here))))))))).ints)).mono ?_
  rw [eqG_refl]
  rintro e w17 ⟨rfl, hb⟩
  replace hM := hM.ext hb
  clear hb
  obtain ⟨k2, f2, l2⟩ := hM.row (.there (.there .here))
  go_wp2_with fail
  clear k2 f2 l2
  apply Mem.at
  · (repeat' (first | with_reducible exact hM | with_reducible exact Mem.undrew hM | with_reducible exact hMp | with_reducible exact Mem.undrew hMp | with_reducible apply Mem.drew | with_reducible apply Mem.drewN | with_reducible apply Mem.alloc | with_reducible apply Mem.set | with_reducible exact Sto.row | exact Sto.row | with_reducible apply Sto.int | with_reducible apply Sto.there | (unfold I64; omega)))
  clear hM
  intro hM
  (try simp only [World.size_alloc, World.size_setCell, World.heap_drewN, heapDrew, Nat.add_assoc, Nat.reduceAdd, List.setIfInBounds_toArray, List.set_cons_zero, List.set_cons_succ, List.cons_append, List.nil_append] at hM)
  refine (markSmoke_any _ _ _ _ _ _ _ 1 _ (Mem.ints hM (.there (.there (.there .here)))) (by omega)).mono ?_
  rintro e w18 ⟨rfl, hO, hk⟩
  replace hM := hM.put (e' := intE _ _ _ _) (.there (.there (.there (.here)))) hk hO (fun k hk => .inl hk)
  clear hO hk
  obtain ⟨k2, f2, l2⟩ := hM.row (.there (.there .here))
  go_wp2_with fail
  clear k2 f2 l2
  apply Mem.at
  · (repeat' (first | with_reducible exact hM | with_reducible exact Mem.undrew hM | with_reducible exact hMp | with_reducible exact Mem.undrew hMp | with_reducible apply Mem.drew | with_reducible apply Mem.drewN | with_reducible apply Mem.alloc | with_reducible apply Mem.set | with_reducible exact Sto.row | exact Sto.row | with_reducible apply Sto.int | with_reducible apply Sto.there | (unfold I64; omega)))
  clear hM
  intro hM
  (try simp only [World.size_alloc, World.size_setCell, World.heap_drewN, heapDrew, Nat.add_assoc, Nat.reduceAdd, List.setIfInBounds_toArray, List.set_cons_zero, List.set_cons_succ, List.cons_append, List.nil_append] at hM)
  have hmm19 := (hM.ints (.there (.there (.there .here)))).room
  refine (heldSmoke_any _ _ _ _ _ _ 1 _ ((hM.ints (.there (.there (.there .here)))).ints) (by omega)).mono ?_
  rw [heldF_fromI]
  rintro e w19 ⟨rfl, hb⟩
  replace hM := hM.ext hb
  clear hb
  have hmn19 : ((1 + (ng0_2 : Int)) != 1 + ng0_2) = false := by simp
  obtain ⟨k11, f11, l11⟩ := hM.row (.there (.there (.there (.there (.there (.there (.there (.there (.there (.there (.there .here)))))))))))
  go_wp2_with fail
  clear k11 f11 l11
  apply Mem.at
  · (repeat' (first | with_reducible exact hM | with_reducible exact Mem.undrew hM | with_reducible exact hMp | with_reducible exact Mem.undrew hMp | with_reducible apply Mem.drew | with_reducible apply Mem.drewN | with_reducible apply Mem.alloc | with_reducible apply Mem.set | with_reducible exact Sto.row | exact Sto.row | with_reducible apply Sto.int | with_reducible apply Sto.there | (unfold I64; omega)))
  clear hM
  intro hM
  (try simp only [World.size_alloc, World.size_setCell, World.heap_drewN, heapDrew, Nat.add_assoc, Nat.reduceAdd, List.setIfInBounds_toArray, List.set_cons_zero, List.set_cons_succ, List.cons_append, List.nil_append] at hM)
  refine (toSmoke_any _ _ _ _ _ xs0_2 _ (I0_2.ext hM.below)).mono ?_
  rintro e w20 ⟨bh0t_2, dh0t_2, rfl, hO, hb⟩
  replace hM := hM.own hb hO
  clear hb hO
  dsimp only
  go_wp2_with fail
  apply Mem.at
  · (repeat' (first | with_reducible exact hM | with_reducible exact Mem.undrew hM | with_reducible exact hMp | with_reducible exact Mem.undrew hMp | with_reducible apply Mem.drew | with_reducible apply Mem.drewN | with_reducible apply Mem.alloc | with_reducible apply Mem.set | with_reducible exact Sto.row | exact Sto.row | with_reducible apply Sto.int | with_reducible apply Sto.there | (unfold I64; omega)))
  clear hM
  intro hM
  (try simp only [World.size_alloc, World.size_setCell, World.heap_drewN, heapDrew, Nat.add_assoc, Nat.reduceAdd, List.setIfInBounds_toArray, List.set_cons_zero, List.set_cons_succ, List.cons_append, List.nil_append] at hM)
  refine (toWindS_any _ _ _ xs1_0 _ (I1_0.ext hM.below)).mono ?_
  rintro e w21 ⟨bh1t_0, dh1t_0, rfl, hO, hb⟩
  replace hM := hM.owned hb hO
  clear hb hO
  dsimp only
  obtain ⟨k13, f13, l13⟩ := hM.row (.there (.there (.there (.there (.there (.there (.there (.there (.there (.there (.there (.there (.there .here)))))))))))))
  go_wp2_with fail
  clear k13 f13 l13
  apply Mem.at
  · (repeat' (first | with_reducible exact hM | with_reducible exact Mem.undrew hM | with_reducible exact hMp | with_reducible exact Mem.undrew hMp | with_reducible apply Mem.drew | with_reducible apply Mem.drewN | with_reducible apply Mem.alloc | with_reducible apply Mem.set | with_reducible exact Sto.row | exact Sto.row | with_reducible apply Sto.int | with_reducible apply Sto.there | (unfold I64; omega)))
  clear hM
  intro hM
  (try simp only [World.size_alloc, World.size_setCell, World.heap_drewN, heapDrew, Nat.add_assoc, Nat.reduceAdd, List.setIfInBounds_toArray, List.set_cons_zero, List.set_cons_succ, List.cons_append, List.nil_append] at hM)
  refine (implRunR_any _ _ _ _ _ xs0_2 _ _ _ xs1_0 _ ((hM.ints (.there .here)).ints) ((hM.ow .here).rd) hp0_0 hp0_1).mono ?_
  rw [HQ0.out]
  rintro e w22 ⟨ah0_2, nh0_2, ch0_2, rfl, hO, hb⟩
  replace hM := hM.own hb hO
  clear hb hO
  try dsimp only
  obtain ⟨k10, f10, l10⟩ := hM.row (.there (.there (.there (.there (.there (.there (.there (.there (.there (.there .here))))))))))
  go_wp2_with fail
  clear k10 f10 l10
  apply Mem.at
  · (repeat' (first | with_reducible exact hM | with_reducible exact Mem.undrew hM | with_reducible exact hMp | with_reducible exact Mem.undrew hMp | with_reducible apply Mem.drew | with_reducible apply Mem.drewN | with_reducible apply Mem.alloc | with_reducible apply Mem.set | with_reducible exact Sto.row | exact Sto.row | with_reducible apply Sto.int | with_reducible apply Sto.there | (unfold I64; omega)))
  clear hM
  intro hM
  (try simp only [World.size_alloc, World.size_setCell, World.heap_drewN, heapDrew, Nat.add_assoc, Nat.reduceAdd, List.setIfInBounds_toArray, List.set_cons_zero, List.set_cons_succ, List.cons_append, List.nil_append] at hM)
  refine (eqSmoke_any _ _ _ _ _ zs0_2 _ _ _ _ _ zs0_2 _ ((hM.ints (.there .here)).ints) ((hM.ints (.there (.there (.there (.there (.there (.there (.there (.there (.there (.there (.there (.there .here))))))))))))).ints)).mono ?_
  rw [eqG_refl]
  rintro e w23 ⟨rfl, hb⟩
  replace hM := hM.ext hb
  clear hb
  obtain ⟨k6, f6, l6⟩ := hM.row (.there (.there (.there (.there (.there (.there .here))))))
  go_wp2_with fail
  clear k6 f6 l6
  apply Mem.at
  · (repeat' (first | with_reducible exact hM | with_reducible exact Mem.undrew hM | with_reducible exact hMp | with_reducible exact Mem.undrew hMp | with_reducible apply Mem.drew | with_reducible apply Mem.drewN | with_reducible apply Mem.alloc | with_reducible apply Mem.set | with_reducible exact Sto.row | exact Sto.row | with_reducible apply Sto.int | with_reducible apply Sto.there | (unfold I64; omega)))
  clear hM
  intro hM
  (try simp only [World.size_alloc, World.size_setCell, World.heap_drewN, heapDrew, Nat.add_assoc, Nat.reduceAdd, List.setIfInBounds_toArray, List.set_cons_zero, List.set_cons_succ, List.cons_append, List.nil_append] at hM)
  have hmm24 := (hM.ints (.there (.there (.there (.there (.there (.there (.there .here)))))))).room
  refine (heldSmoke_any _ _ _ _ _ _ 1 _ ((hM.ints (.there (.there (.there (.there (.there (.there (.there .here)))))))).ints) (by omega)).mono ?_
  rw [heldF_fromI]
  rintro e w24 ⟨rfl, hb⟩
  replace hM := hM.ext hb
  clear hb
  have hmn24 : ((1 + (ng0_2 : Int)) != 1 + ng0_2) = false := by simp
  go_wp2
  go_ret
  exact ⟨rfl, (by apply Mem.below; (repeat' (first | with_reducible exact hM | with_reducible exact Mem.undrew hM | with_reducible exact hMp | with_reducible exact Mem.undrew hMp | with_reducible apply Mem.drew | with_reducible apply Mem.drewN | with_reducible apply Mem.alloc | with_reducible apply Mem.set | with_reducible exact Sto.row | exact Sto.row | with_reducible apply Sto.int | with_reducible apply Sto.there | (unfold I64; omega))))⟩
end Go.Proofs.Ytaaegejihgpfeaa

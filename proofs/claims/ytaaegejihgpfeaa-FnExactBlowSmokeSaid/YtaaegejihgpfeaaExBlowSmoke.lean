import Derived.Test.YtaaegejihgpfeaaBlowW
namespace Go.Proofs.Ytaaegejihgpfeaa
set_option linter.unusedSimpArgs false
set_option linter.unusedVariables false
open Go.RowKit

set_option maxRecDepth 100000 in
set_option maxHeartbeats 8000000 in
theorem FnExactBlowSmoke_walk (p0_0 : Int) (p0_1 : Int) (a0_2 : Option Addr) (n0_2 c0_2 : Nat) (xs0_2 : List Int) (p1_0 : Int) (p1_1 : Int) (p1_2 : Int) (w : World) (hp0_0 : I64 p0_0) (hp0_1 : I64 p0_1) (I0_2 : Ints w a0_2 n0_2 c0_2 xs0_2) (hp1_0 : I64 p1_0) (hp1_1 : I64 p1_1) (hp1_2 : I64 p1_2) :
    Calls Try.prog 10 #[.agg #[.int .i64 p0_0, .int .i64 p0_1, .slice a0_2 n0_2 c0_2], .agg #[.int .i64 p1_0, .int .i64 p1_1, .int .i64 p1_2]] w fun e w' => e = .returned (.bool true) ∧ Below w.heap.size w w' := by
  have hr0_2 := I0_2.room
  have hM := Mem.start w
  go_enter Try.func10, Try.ntmps10
  go_wp2_with fail
  apply Mem.at
  · (repeat' (first | with_reducible exact hM | with_reducible exact Mem.undrew hM | with_reducible exact hMp | with_reducible exact Mem.undrew hMp | with_reducible apply Mem.drew | with_reducible apply Mem.drewN | with_reducible apply Mem.alloc | with_reducible apply Mem.set | with_reducible exact Sto.row | exact Sto.row | with_reducible apply Sto.int | with_reducible apply Sto.there | (unfold I64; omega)))
  clear hM
  intro hM
  (try simp only [World.size_alloc, World.size_setCell, World.heap_drewN, heapDrew, Nat.add_assoc, Nat.reduceAdd, List.setIfInBounds_toArray, List.set_cons_zero, List.set_cons_succ, List.cons_append, List.nil_append] at hM)
  refine (szSmoke_any _ _ _ _ _ 1048576 _ hr0_2 (by omega)).mono ?_
  obtain ⟨z1, hz'⟩ : ∃ z, szF n0_2 1048576 = z := ⟨_, rfl⟩
  rw [hz']
  have hzr : z1 ≤ 1048576 ∧ (0 ≤ z1 → (n0_2 : Int) ≤ 1048576) := by unfold szF at hz'; split at hz' <;> omega
  obtain ⟨hz1, hn0⟩ := hzr
  clear hz'
  rintro e w1 ⟨rfl, hb⟩
  replace hM := hM.ext hb
  clear hb
  by_cases hzn1 : z1 < 0
  · go_wp2
    go_ret
    exact ⟨rfl, (by apply Mem.below; (repeat' (first | with_reducible exact hM | with_reducible exact Mem.undrew hM | with_reducible exact hMp | with_reducible exact Mem.undrew hMp | with_reducible apply Mem.drew | with_reducible apply Mem.drewN | with_reducible apply Mem.alloc | with_reducible apply Mem.set | with_reducible exact Sto.row | exact Sto.row | with_reducible apply Sto.int | with_reducible apply Sto.there | (unfold I64; omega))))⟩
  replace hn0 := hn0 (by omega)
  replace hzn1 : 0 ≤ z1 := by omega
  obtain ⟨⟨⟨Wr, Hr, zs0_2⟩, v1, v2⟩, hq0⟩ : ∃ r, blowR p0_0 p0_1 xs0_2 p1_0 p1_1 p1_2 = r := ⟨_, rfl⟩
  have HQ0 := Lib.hid hq0; clear hq0
  go_wp2_with fail
  go_cut [6, 7, 8] (fun s6 s7 s8 wx => ∃ bbw0 aw0_2 nw0_2 cw0_2, s6 = .pointer (some ⟨bbw0, 0, none⟩) ∧ s7 = .int .i64 v1 ∧ s8 = .bool v2 ∧ Mem w.heap.size w wx [rowE bbw0 36 #[.int .i64 Wr, .int .i64 Hr, .slice aw0_2 nw0_2 cw0_2], intE aw0_2 nw0_2 cw0_2 zs0_2, rowE (w.heap.size + 1) 65 #[.int .i64 p1_0, .int .i64 p1_1, .int .i64 p1_2], rowE w.heap.size 34 #[.int .i64 p0_0, .int .i64 p0_1, .slice a0_2 n0_2 c0_2]])
  case first =>
    apply Mem.atWp
    · (repeat' (first | with_reducible exact hM | with_reducible exact Mem.undrew hM | with_reducible exact hMp | with_reducible exact Mem.undrew hMp | with_reducible apply Mem.drew | with_reducible apply Mem.drewN | with_reducible apply Mem.alloc | with_reducible apply Mem.set | with_reducible exact Sto.row | exact Sto.row | with_reducible apply Sto.int | with_reducible apply Sto.there | (unfold I64; omega)))
    clear hM
    intro hM
    (try simp only [World.size_alloc, World.size_setCell, World.heap_drewN, heapDrew, Nat.add_assoc, Nat.reduceAdd, List.setIfInBounds_toArray, List.set_cons_zero, List.set_cons_succ, List.cons_append, List.nil_append] at hM)
    refine AtT.startM hM 12 (by kernel_rfl) ?_
    replace hM := hM.drew
    have hS := hM
    refine AtT.take (i := 0) (v := ?_) rfl (by kernel_rfl) (by kernel_rfl) (by kernel_rfl) (by kernel_rfl) (fun _ _ _ h => h) (Or.inl ⟨by kernel_rfl, ?_⟩) hS ?_
    rotate_left
    · (intro wS hSw; (try dsimp only at hSw); have kr0 := (Mem.row hSw .here).cell; have kr1 := (Mem.row hSw (.there .here)).cell; go_simp; try with_reducible rfl)
    simp only [Act.put, List.setIfInBounds_toArray, List.set_cons_zero, List.set_cons_succ]
    refine AtT.take (i := 2) (v := ?_) rfl (by kernel_rfl) (by kernel_rfl) (by kernel_rfl) (by kernel_rfl) (fun _ _ _ h => h) (Or.inl ⟨by kernel_rfl, ?_⟩) hS ?_
    rotate_left
    · (intro wS hSw; (try dsimp only at hSw); have kr0 := (Mem.row hSw .here).cell; have kr1 := (Mem.row hSw (.there .here)).cell; go_simp; try with_reducible rfl)
    simp only [Act.put, List.setIfInBounds_toArray, List.set_cons_zero, List.set_cons_succ]
    refine AtT.two (i := 1) (j := 9) (by kernel_rfl) rfl rfl rfl rfl ?_ ?_
    · skip
      intro K hK
      go_simp
      refine (toSmoke_any _ _ _ _ _ xs0_2 _ (I0_2.ext hM.below)).mono ?_
      rintro e w3 ⟨bw0t_2, dw0t_2, rfl, hO, hb⟩
      replace hM := hM.own hb hO
      clear hb hO
      dsimp only
      refine hK.out _ _ (hM.tail) ?_
      clear hK K hS
      have hS := hM.tail
      refine AtT.two (i := 3) (j := 9) (by kernel_rfl) rfl rfl rfl rfl ?_ ?_
      · skip
        intro K hK
        go_simp
        refine (toWind_any _ _ _ _ ).mono ?_
        rintro e w4 ⟨rfl, hb⟩
        replace hM := hM.ext hb
        clear hb
        dsimp only
        refine hK.out _ _ (hM.tail) ?_
        clear hK K hS
        have hS := hM.tail
        refine AtT.two (i := 4) (j := 9) (by kernel_rfl) rfl rfl rfl rfl ?_ ?_
        · skip
          intro K hK
          go_simp
          refine (specBlowR_any _ _ _ _ _ xs0_2 _ _ _ _ ((hM.ints .here).ints) hp0_0 hp0_1 hp1_0 hp1_1 hp1_2).mono ?_
          rw [HQ0.out]
          rintro e w5 ⟨aw0_2, nw0_2, cw0_2, rfl, hO, hb⟩
          replace hM := hM.own hb hO
          clear hb hO
          dsimp only
          refine hK.out _ _ (hM.tail.tail) ?_
          clear hK K hS
          have hS := hM.tail.tail
          refine AtT.take (i := 5) (v := ?_) rfl (by kernel_rfl) (by kernel_rfl) (by kernel_rfl) (by kernel_rfl) (fun _ _ _ h => h) (Or.inl ⟨by kernel_rfl, ?_⟩) hS ?_
          rotate_left
          · (intro wS hSw; (try dsimp only at hSw); go_simp; try with_reducible rfl)
          simp only [Act.put, List.setIfInBounds_toArray, List.set_cons_zero, List.set_cons_succ]
          refine AtT.take (i := 6) (v := ?_) rfl (by kernel_rfl) (by kernel_rfl) (by kernel_rfl) (by kernel_rfl) (fun _ _ _ h => h) (Or.inl ⟨by kernel_rfl, ?_⟩) hS ?_
          rotate_left
          · (intro wS hSw; (try dsimp only at hSw); go_simp; try with_reducible rfl)
          simp only [Act.put, List.setIfInBounds_toArray, List.set_cons_zero, List.set_cons_succ]
          refine AtT.take (i := 7) (v := ?_) rfl (by kernel_rfl) (by kernel_rfl) (by kernel_rfl) (by kernel_rfl) (fun _ _ _ h => h) (Or.inl ⟨by kernel_rfl, ?_⟩) hS ?_
          rotate_left
          · (intro wS hSw; (try dsimp only at hSw); go_simp; try with_reducible rfl)
          simp only [Act.put, List.setIfInBounds_toArray, List.set_cons_zero, List.set_cons_succ]
          refine AtT.take (i := 8) (v := ?_) rfl (by kernel_rfl) (by kernel_rfl) (by kernel_rfl) (by kernel_rfl) (fun _ _ _ h => h) (Or.inl ⟨by kernel_rfl, ?_⟩) hS ?_
          rotate_left
          · (intro wS hSw; (try dsimp only at hSw); go_simp; try with_reducible rfl)
          simp only [Act.put, List.setIfInBounds_toArray, List.set_cons_zero, List.set_cons_succ]
          refine AtT.only (i := 9) (by kernel_rfl) rfl rfl ?_
          intro K hK
          go_simp
          refine hK.out _ _ (by apply Mem.tail; apply Mem.tail; apply Mem.tail; (repeat' (first | with_reducible exact hM | with_reducible exact Mem.undrew hM | with_reducible exact hMp | with_reducible exact Mem.undrew hMp | with_reducible apply Mem.drew | with_reducible apply Mem.drewN | with_reducible apply Mem.alloc | with_reducible apply Mem.set | with_reducible exact Sto.row | exact Sto.row | with_reducible apply Sto.int | with_reducible apply Sto.there | (unfold I64; omega)))) ?_
          clear hK K hS
          have hMp := hM
          apply Mem.atT
          · (repeat' (first | with_reducible exact hM | with_reducible exact Mem.undrew hM | with_reducible exact hMp | with_reducible exact Mem.undrew hMp | with_reducible apply Mem.drew | with_reducible apply Mem.drewN | with_reducible apply Mem.alloc | with_reducible apply Mem.set | with_reducible exact Sto.row | exact Sto.row | with_reducible apply Sto.int | with_reducible apply Sto.there | (unfold I64; omega)))
          clear hM
          intro hM
          (try simp only [World.size_alloc, World.size_setCell, World.heap_drewN, heapDrew, Nat.add_assoc, Nat.reduceAdd, List.setIfInBounds_toArray, List.set_cons_zero, List.set_cons_succ, List.cons_append, List.nil_append] at hM)
          have hS := hM.tail.tail.tail
          refine AtT.only (i := 10) (by kernel_rfl) rfl rfl ?_
          intro K hK
          have kk0 := (hM.row .here).cell
          have ff0 := (hM.row .here).free
          have ll0 := (hM.row .here).lt
          have kk3 := (hM.row (.there (.there (.there .here)))).cell
          have ff3 := (hM.row (.there (.there (.there .here)))).free
          have ll3 := (hM.row (.there (.there (.there .here)))).lt
          have kk4 := (hM.row (.there (.there (.there (.there .here))))).cell
          have ff4 := (hM.row (.there (.there (.there (.there .here))))).free
          have ll4 := (hM.row (.there (.there (.there (.there .here))))).lt
          go_simp
          clear kk0 ff0 ll0 kk3 ff3 ll3 kk4 ff4 ll4
          refine hK.out _ _ (by apply Mem.tail; apply Mem.tail; apply Mem.tail; (repeat' (first | with_reducible exact hM | with_reducible exact Mem.undrew hM | with_reducible exact hMp | with_reducible exact Mem.undrew hMp | with_reducible apply Mem.drew | with_reducible apply Mem.drewN | with_reducible apply Mem.alloc | with_reducible apply Mem.set | with_reducible exact Sto.row | exact Sto.row | with_reducible apply Sto.int | with_reducible apply Sto.there | (unfold I64; omega)))) ?_
          clear hK K hS
          apply Mem.atT
          · (repeat' (first | with_reducible exact hM | with_reducible exact Mem.undrew hM | with_reducible exact hMp | with_reducible exact Mem.undrew hMp | with_reducible apply Mem.drew | with_reducible apply Mem.drewN | with_reducible apply Mem.alloc | with_reducible apply Mem.set | with_reducible exact Sto.row | exact Sto.row | with_reducible apply Sto.int | with_reducible apply Sto.there | (unfold I64; omega)))
          clear hM
          intro hM
          (try simp only [World.size_alloc, World.size_setCell, World.heap_drewN, heapDrew, Nat.add_assoc, Nat.reduceAdd, List.setIfInBounds_toArray, List.set_cons_zero, List.set_cons_succ, List.cons_append, List.nil_append] at hM)
          have hS := hM.tail.tail.tail
          refine AtT.take (i := 11) (v := ?_) rfl (by kernel_rfl) (by kernel_rfl) (by kernel_rfl) (by kernel_rfl) (fun _ _ _ h => h) (Or.inl ⟨by kernel_rfl, ?_⟩) hS ?_
          rotate_left
          · (intro wS hSw; (try dsimp only at hSw); go_simp; try with_reducible rfl)
          simp only [Act.put, List.setIfInBounds_toArray, List.set_cons_zero, List.set_cons_succ]
          refine AtT.last (by kernel_rfl) rfl (by kernel_rfl) ?_
          intro K hK
          clear hS
          have kk0 := (hM.row .here).cell
          have ff0 := (hM.row .here).free
          have ll0 := (hM.row .here).lt
          have kk3 := (hM.row (.there (.there (.there .here)))).cell
          have ff3 := (hM.row (.there (.there (.there .here)))).free
          have ll3 := (hM.row (.there (.there (.there .here)))).lt
          have kk4 := (hM.row (.there (.there (.there (.there .here))))).cell
          have ff4 := (hM.row (.there (.there (.there (.there .here))))).free
          have ll4 := (hM.row (.there (.there (.there (.there .here))))).lt
          go_simp
          clear kk0 ff0 ll0 kk3 ff3 ll3 kk4 ff4 ll4
          refine hK.out _ _ ?_
          clear hK K
          go_wp2_with fail
          go_meet
          refine ⟨_, aw0_2, nw0_2, cw0_2, rfl, rfl, rfl, ?_⟩
          apply Mem.pick (is := [0, 1, 3, 4])
          · (repeat' (first | with_reducible exact hM | with_reducible exact Mem.undrew hM | with_reducible exact hMp | with_reducible exact Mem.undrew hMp | with_reducible apply Mem.drew | with_reducible apply Mem.drewN | with_reducible apply Mem.alloc | with_reducible apply Mem.set | with_reducible exact Sto.row | exact Sto.row | with_reducible apply Sto.int | with_reducible apply Sto.there | (unfold I64; omega)))
          · decide
          · rfl
        · skip
          intro K hK
          go_simp
          refine hK.out _ _ (by apply Mem.tail; apply Mem.tail; (repeat' (first | with_reducible exact hM | with_reducible exact Mem.undrew hM | with_reducible exact hMp | with_reducible exact Mem.undrew hMp | with_reducible apply Mem.drew | with_reducible apply Mem.drewN | with_reducible apply Mem.alloc | with_reducible apply Mem.set | with_reducible exact Sto.row | exact Sto.row | with_reducible apply Sto.int | with_reducible apply Sto.there | (unfold I64; omega)))) ?_
          clear hK K hS
          have hMp := hM
          apply Mem.atT
          · (repeat' (first | with_reducible exact hM | with_reducible exact Mem.undrew hM | with_reducible exact hMp | with_reducible exact Mem.undrew hMp | with_reducible apply Mem.drew | with_reducible apply Mem.drewN | with_reducible apply Mem.alloc | with_reducible apply Mem.set | with_reducible exact Sto.row | exact Sto.row | with_reducible apply Sto.int | with_reducible apply Sto.there | (unfold I64; omega)))
          clear hM
          intro hM
          (try simp only [World.size_alloc, World.size_setCell, World.heap_drewN, heapDrew, Nat.add_assoc, Nat.reduceAdd, List.setIfInBounds_toArray, List.set_cons_zero, List.set_cons_succ, List.cons_append, List.nil_append] at hM)
          have hS := hM.tail.tail
          refine AtT.only (i := 4) (by kernel_rfl) rfl rfl ?_
          intro K hK
          go_simp
          refine (specBlowR_any _ _ _ _ _ xs0_2 _ _ _ _ ((hM.ints (.there .here)).ints) hp0_0 hp0_1 hp1_0 hp1_1 hp1_2).mono ?_
          rw [HQ0.out]
          rintro e w5 ⟨aw0_2, nw0_2, cw0_2, rfl, hO, hb⟩
          replace hM := hM.own hb hO
          clear hb hO
          dsimp only
          refine hK.out _ _ (hM.tail.tail.tail) ?_
          clear hK K hS
          have hS := hM.tail.tail.tail
          refine AtT.take (i := 5) (v := ?_) rfl (by kernel_rfl) (by kernel_rfl) (by kernel_rfl) (by kernel_rfl) (fun _ _ _ h => h) (Or.inl ⟨by kernel_rfl, ?_⟩) hS ?_
          rotate_left
          · (intro wS hSw; (try dsimp only at hSw); go_simp; try with_reducible rfl)
          simp only [Act.put, List.setIfInBounds_toArray, List.set_cons_zero, List.set_cons_succ]
          refine AtT.take (i := 6) (v := ?_) rfl (by kernel_rfl) (by kernel_rfl) (by kernel_rfl) (by kernel_rfl) (fun _ _ _ h => h) (Or.inl ⟨by kernel_rfl, ?_⟩) hS ?_
          rotate_left
          · (intro wS hSw; (try dsimp only at hSw); go_simp; try with_reducible rfl)
          simp only [Act.put, List.setIfInBounds_toArray, List.set_cons_zero, List.set_cons_succ]
          refine AtT.take (i := 7) (v := ?_) rfl (by kernel_rfl) (by kernel_rfl) (by kernel_rfl) (by kernel_rfl) (fun _ _ _ h => h) (Or.inl ⟨by kernel_rfl, ?_⟩) hS ?_
          rotate_left
          · (intro wS hSw; (try dsimp only at hSw); go_simp; try with_reducible rfl)
          simp only [Act.put, List.setIfInBounds_toArray, List.set_cons_zero, List.set_cons_succ]
          refine AtT.take (i := 8) (v := ?_) rfl (by kernel_rfl) (by kernel_rfl) (by kernel_rfl) (by kernel_rfl) (fun _ _ _ h => h) (Or.inl ⟨by kernel_rfl, ?_⟩) hS ?_
          rotate_left
          · (intro wS hSw; (try dsimp only at hSw); go_simp; try with_reducible rfl)
          simp only [Act.put, List.setIfInBounds_toArray, List.set_cons_zero, List.set_cons_succ]
          refine AtT.only (i := 10) (by kernel_rfl) rfl rfl ?_
          intro K hK
          have kk1 := (hM.row (.there .here)).cell
          have ff1 := (hM.row (.there .here)).free
          have ll1 := (hM.row (.there .here)).lt
          have kk3 := (hM.row (.there (.there (.there .here)))).cell
          have ff3 := (hM.row (.there (.there (.there .here)))).free
          have ll3 := (hM.row (.there (.there (.there .here)))).lt
          have kk4 := (hM.row (.there (.there (.there (.there .here))))).cell
          have ff4 := (hM.row (.there (.there (.there (.there .here))))).free
          have ll4 := (hM.row (.there (.there (.there (.there .here))))).lt
          go_simp
          clear kk1 ff1 ll1 kk3 ff3 ll3 kk4 ff4 ll4
          refine hK.out _ _ (by apply Mem.tail; apply Mem.tail; apply Mem.tail; (repeat' (first | with_reducible exact hM | with_reducible exact Mem.undrew hM | with_reducible exact hMp | with_reducible exact Mem.undrew hMp | with_reducible apply Mem.drew | with_reducible apply Mem.drewN | with_reducible apply Mem.alloc | with_reducible apply Mem.set | with_reducible exact Sto.row | exact Sto.row | with_reducible apply Sto.int | with_reducible apply Sto.there | (unfold I64; omega)))) ?_
          clear hK K hS
          apply Mem.atT
          · (repeat' (first | with_reducible exact hM | with_reducible exact Mem.undrew hM | with_reducible exact hMp | with_reducible exact Mem.undrew hMp | with_reducible apply Mem.drew | with_reducible apply Mem.drewN | with_reducible apply Mem.alloc | with_reducible apply Mem.set | with_reducible exact Sto.row | exact Sto.row | with_reducible apply Sto.int | with_reducible apply Sto.there | (unfold I64; omega)))
          clear hM
          intro hM
          (try simp only [World.size_alloc, World.size_setCell, World.heap_drewN, heapDrew, Nat.add_assoc, Nat.reduceAdd, List.setIfInBounds_toArray, List.set_cons_zero, List.set_cons_succ, List.cons_append, List.nil_append] at hM)
          have hS := hM.tail.tail.tail
          refine AtT.take (i := 11) (v := ?_) rfl (by kernel_rfl) (by kernel_rfl) (by kernel_rfl) (by kernel_rfl) (fun _ _ _ h => h) (Or.inl ⟨by kernel_rfl, ?_⟩) hS ?_
          rotate_left
          · (intro wS hSw; (try dsimp only at hSw); go_simp; try with_reducible rfl)
          simp only [Act.put, List.setIfInBounds_toArray, List.set_cons_zero, List.set_cons_succ]
          refine AtT.last (by kernel_rfl) rfl (by kernel_rfl) ?_
          intro K hK
          clear hS
          have kk1 := (hM.row (.there .here)).cell
          have ff1 := (hM.row (.there .here)).free
          have ll1 := (hM.row (.there .here)).lt
          have kk3 := (hM.row (.there (.there (.there .here)))).cell
          have ff3 := (hM.row (.there (.there (.there .here)))).free
          have ll3 := (hM.row (.there (.there (.there .here)))).lt
          have kk4 := (hM.row (.there (.there (.there (.there .here))))).cell
          have ff4 := (hM.row (.there (.there (.there (.there .here))))).free
          have ll4 := (hM.row (.there (.there (.there (.there .here))))).lt
          go_simp
          clear kk1 ff1 ll1 kk3 ff3 ll3 kk4 ff4 ll4
          refine hK.out _ _ ?_
          clear hK K
          go_wp2_with fail
          go_meet
          refine ⟨_, aw0_2, nw0_2, cw0_2, rfl, rfl, rfl, ?_⟩
          apply Mem.pick (is := [1, 0, 3, 4])
          · (repeat' (first | with_reducible exact hM | with_reducible exact Mem.undrew hM | with_reducible exact hMp | with_reducible exact Mem.undrew hMp | with_reducible apply Mem.drew | with_reducible apply Mem.drewN | with_reducible apply Mem.alloc | with_reducible apply Mem.set | with_reducible exact Sto.row | exact Sto.row | with_reducible apply Sto.int | with_reducible apply Sto.there | (unfold I64; omega)))
          · decide
          · rfl
      · skip
        intro K hK
        go_simp
        refine hK.out _ _ (by apply Mem.tail; apply Mem.tail; (repeat' (first | with_reducible exact hM | with_reducible exact Mem.undrew hM | with_reducible exact hMp | with_reducible exact Mem.undrew hMp | with_reducible apply Mem.drew | with_reducible apply Mem.drewN | with_reducible apply Mem.alloc | with_reducible apply Mem.set | with_reducible exact Sto.row | exact Sto.row | with_reducible apply Sto.int | with_reducible apply Sto.there | (unfold I64; omega)))) ?_
        clear hK K hS
        have hMp := hM
        apply Mem.atT
        · (repeat' (first | with_reducible exact hM | with_reducible exact Mem.undrew hM | with_reducible exact hMp | with_reducible exact Mem.undrew hMp | with_reducible apply Mem.drew | with_reducible apply Mem.drewN | with_reducible apply Mem.alloc | with_reducible apply Mem.set | with_reducible exact Sto.row | exact Sto.row | with_reducible apply Sto.int | with_reducible apply Sto.there | (unfold I64; omega)))
        clear hM
        intro hM
        (try simp only [World.size_alloc, World.size_setCell, World.heap_drewN, heapDrew, Nat.add_assoc, Nat.reduceAdd, List.setIfInBounds_toArray, List.set_cons_zero, List.set_cons_succ, List.cons_append, List.nil_append] at hM)
        have hS := hM.tail.tail
        refine AtT.only (i := 3) (by kernel_rfl) rfl rfl ?_
        intro K hK
        go_simp
        refine (toWind_any _ _ _ _ ).mono ?_
        rintro e w4 ⟨rfl, hb⟩
        replace hM := hM.ext hb
        clear hb
        dsimp only
        refine hK.out _ _ (hM.tail.tail) ?_
        clear hK K hS
        have hS := hM.tail.tail
        refine AtT.only (i := 4) (by kernel_rfl) rfl rfl ?_
        intro K hK
        go_simp
        refine (specBlowR_any _ _ _ _ _ xs0_2 _ _ _ _ ((hM.ints (.there .here)).ints) hp0_0 hp0_1 hp1_0 hp1_1 hp1_2).mono ?_
        rw [HQ0.out]
        rintro e w5 ⟨aw0_2, nw0_2, cw0_2, rfl, hO, hb⟩
        replace hM := hM.own hb hO
        clear hb hO
        dsimp only
        refine hK.out _ _ (hM.tail.tail.tail) ?_
        clear hK K hS
        have hS := hM.tail.tail.tail
        refine AtT.take (i := 5) (v := ?_) rfl (by kernel_rfl) (by kernel_rfl) (by kernel_rfl) (by kernel_rfl) (fun _ _ _ h => h) (Or.inl ⟨by kernel_rfl, ?_⟩) hS ?_
        rotate_left
        · (intro wS hSw; (try dsimp only at hSw); go_simp; try with_reducible rfl)
        simp only [Act.put, List.setIfInBounds_toArray, List.set_cons_zero, List.set_cons_succ]
        refine AtT.take (i := 6) (v := ?_) rfl (by kernel_rfl) (by kernel_rfl) (by kernel_rfl) (by kernel_rfl) (fun _ _ _ h => h) (Or.inl ⟨by kernel_rfl, ?_⟩) hS ?_
        rotate_left
        · (intro wS hSw; (try dsimp only at hSw); go_simp; try with_reducible rfl)
        simp only [Act.put, List.setIfInBounds_toArray, List.set_cons_zero, List.set_cons_succ]
        refine AtT.take (i := 7) (v := ?_) rfl (by kernel_rfl) (by kernel_rfl) (by kernel_rfl) (by kernel_rfl) (fun _ _ _ h => h) (Or.inl ⟨by kernel_rfl, ?_⟩) hS ?_
        rotate_left
        · (intro wS hSw; (try dsimp only at hSw); go_simp; try with_reducible rfl)
        simp only [Act.put, List.setIfInBounds_toArray, List.set_cons_zero, List.set_cons_succ]
        refine AtT.take (i := 8) (v := ?_) rfl (by kernel_rfl) (by kernel_rfl) (by kernel_rfl) (by kernel_rfl) (fun _ _ _ h => h) (Or.inl ⟨by kernel_rfl, ?_⟩) hS ?_
        rotate_left
        · (intro wS hSw; (try dsimp only at hSw); go_simp; try with_reducible rfl)
        simp only [Act.put, List.setIfInBounds_toArray, List.set_cons_zero, List.set_cons_succ]
        refine AtT.only (i := 10) (by kernel_rfl) rfl rfl ?_
        intro K hK
        have kk1 := (hM.row (.there .here)).cell
        have ff1 := (hM.row (.there .here)).free
        have ll1 := (hM.row (.there .here)).lt
        have kk3 := (hM.row (.there (.there (.there .here)))).cell
        have ff3 := (hM.row (.there (.there (.there .here)))).free
        have ll3 := (hM.row (.there (.there (.there .here)))).lt
        have kk4 := (hM.row (.there (.there (.there (.there .here))))).cell
        have ff4 := (hM.row (.there (.there (.there (.there .here))))).free
        have ll4 := (hM.row (.there (.there (.there (.there .here))))).lt
        go_simp
        clear kk1 ff1 ll1 kk3 ff3 ll3 kk4 ff4 ll4
        refine hK.out _ _ (by apply Mem.tail; apply Mem.tail; apply Mem.tail; (repeat' (first | with_reducible exact hM | with_reducible exact Mem.undrew hM | with_reducible exact hMp | with_reducible exact Mem.undrew hMp | with_reducible apply Mem.drew | with_reducible apply Mem.drewN | with_reducible apply Mem.alloc | with_reducible apply Mem.set | with_reducible exact Sto.row | exact Sto.row | with_reducible apply Sto.int | with_reducible apply Sto.there | (unfold I64; omega)))) ?_
        clear hK K hS
        apply Mem.atT
        · (repeat' (first | with_reducible exact hM | with_reducible exact Mem.undrew hM | with_reducible exact hMp | with_reducible exact Mem.undrew hMp | with_reducible apply Mem.drew | with_reducible apply Mem.drewN | with_reducible apply Mem.alloc | with_reducible apply Mem.set | with_reducible exact Sto.row | exact Sto.row | with_reducible apply Sto.int | with_reducible apply Sto.there | (unfold I64; omega)))
        clear hM
        intro hM
        (try simp only [World.size_alloc, World.size_setCell, World.heap_drewN, heapDrew, Nat.add_assoc, Nat.reduceAdd, List.setIfInBounds_toArray, List.set_cons_zero, List.set_cons_succ, List.cons_append, List.nil_append] at hM)
        have hS := hM.tail.tail.tail
        refine AtT.take (i := 11) (v := ?_) rfl (by kernel_rfl) (by kernel_rfl) (by kernel_rfl) (by kernel_rfl) (fun _ _ _ h => h) (Or.inl ⟨by kernel_rfl, ?_⟩) hS ?_
        rotate_left
        · (intro wS hSw; (try dsimp only at hSw); go_simp; try with_reducible rfl)
        simp only [Act.put, List.setIfInBounds_toArray, List.set_cons_zero, List.set_cons_succ]
        refine AtT.last (by kernel_rfl) rfl (by kernel_rfl) ?_
        intro K hK
        clear hS
        have kk1 := (hM.row (.there .here)).cell
        have ff1 := (hM.row (.there .here)).free
        have ll1 := (hM.row (.there .here)).lt
        have kk3 := (hM.row (.there (.there (.there .here)))).cell
        have ff3 := (hM.row (.there (.there (.there .here)))).free
        have ll3 := (hM.row (.there (.there (.there .here)))).lt
        have kk4 := (hM.row (.there (.there (.there (.there .here))))).cell
        have ff4 := (hM.row (.there (.there (.there (.there .here))))).free
        have ll4 := (hM.row (.there (.there (.there (.there .here))))).lt
        go_simp
        clear kk1 ff1 ll1 kk3 ff3 ll3 kk4 ff4 ll4
        refine hK.out _ _ ?_
        clear hK K
        go_wp2_with fail
        go_meet
        refine ⟨_, aw0_2, nw0_2, cw0_2, rfl, rfl, rfl, ?_⟩
        apply Mem.pick (is := [1, 0, 3, 4])
        · (repeat' (first | with_reducible exact hM | with_reducible exact Mem.undrew hM | with_reducible exact hMp | with_reducible exact Mem.undrew hMp | with_reducible apply Mem.drew | with_reducible apply Mem.drewN | with_reducible apply Mem.alloc | with_reducible apply Mem.set | with_reducible exact Sto.row | exact Sto.row | with_reducible apply Sto.int | with_reducible apply Sto.there | (unfold I64; omega)))
        · decide
        · rfl
    · skip
      intro K hK
      go_simp
      refine hK.out _ _ (by apply Mem.tail; (repeat' (first | with_reducible exact hM | with_reducible exact Mem.undrew hM | with_reducible exact hMp | with_reducible exact Mem.undrew hMp | with_reducible apply Mem.drew | with_reducible apply Mem.drewN | with_reducible apply Mem.alloc | with_reducible apply Mem.set | with_reducible exact Sto.row | exact Sto.row | with_reducible apply Sto.int | with_reducible apply Sto.there | (unfold I64; omega)))) ?_
      clear hK K hS
      have hMp := hM
      apply Mem.atT
      · (repeat' (first | with_reducible exact hM | with_reducible exact Mem.undrew hM | with_reducible exact hMp | with_reducible exact Mem.undrew hMp | with_reducible apply Mem.drew | with_reducible apply Mem.drewN | with_reducible apply Mem.alloc | with_reducible apply Mem.set | with_reducible exact Sto.row | exact Sto.row | with_reducible apply Sto.int | with_reducible apply Sto.there | (unfold I64; omega)))
      clear hM
      intro hM
      (try simp only [World.size_alloc, World.size_setCell, World.heap_drewN, heapDrew, Nat.add_assoc, Nat.reduceAdd, List.setIfInBounds_toArray, List.set_cons_zero, List.set_cons_succ, List.cons_append, List.nil_append] at hM)
      have hS := hM.tail
      refine AtT.only (i := 1) (by kernel_rfl) rfl rfl ?_
      intro K hK
      go_simp
      refine (toSmoke_any _ _ _ _ _ xs0_2 _ (I0_2.ext hM.below)).mono ?_
      rintro e w3 ⟨bw0t_2, dw0t_2, rfl, hO, hb⟩
      replace hM := hM.own hb hO
      clear hb hO
      dsimp only
      refine hK.out _ _ (hM.tail.tail) ?_
      clear hK K hS
      have hS := hM.tail.tail
      refine AtT.only (i := 3) (by kernel_rfl) rfl rfl ?_
      intro K hK
      go_simp
      refine (toWind_any _ _ _ _ ).mono ?_
      rintro e w4 ⟨rfl, hb⟩
      replace hM := hM.ext hb
      clear hb
      dsimp only
      refine hK.out _ _ (hM.tail.tail) ?_
      clear hK K hS
      have hS := hM.tail.tail
      refine AtT.only (i := 4) (by kernel_rfl) rfl rfl ?_
      intro K hK
      go_simp
      refine (specBlowR_any _ _ _ _ _ xs0_2 _ _ _ _ ((hM.ints .here).ints) hp0_0 hp0_1 hp1_0 hp1_1 hp1_2).mono ?_
      rw [HQ0.out]
      rintro e w5 ⟨aw0_2, nw0_2, cw0_2, rfl, hO, hb⟩
      replace hM := hM.own hb hO
      clear hb hO
      dsimp only
      refine hK.out _ _ (hM.tail.tail.tail) ?_
      clear hK K hS
      have hS := hM.tail.tail.tail
      refine AtT.take (i := 5) (v := ?_) rfl (by kernel_rfl) (by kernel_rfl) (by kernel_rfl) (by kernel_rfl) (fun _ _ _ h => h) (Or.inl ⟨by kernel_rfl, ?_⟩) hS ?_
      rotate_left
      · (intro wS hSw; (try dsimp only at hSw); go_simp; try with_reducible rfl)
      simp only [Act.put, List.setIfInBounds_toArray, List.set_cons_zero, List.set_cons_succ]
      refine AtT.take (i := 6) (v := ?_) rfl (by kernel_rfl) (by kernel_rfl) (by kernel_rfl) (by kernel_rfl) (fun _ _ _ h => h) (Or.inl ⟨by kernel_rfl, ?_⟩) hS ?_
      rotate_left
      · (intro wS hSw; (try dsimp only at hSw); go_simp; try with_reducible rfl)
      simp only [Act.put, List.setIfInBounds_toArray, List.set_cons_zero, List.set_cons_succ]
      refine AtT.take (i := 7) (v := ?_) rfl (by kernel_rfl) (by kernel_rfl) (by kernel_rfl) (by kernel_rfl) (fun _ _ _ h => h) (Or.inl ⟨by kernel_rfl, ?_⟩) hS ?_
      rotate_left
      · (intro wS hSw; (try dsimp only at hSw); go_simp; try with_reducible rfl)
      simp only [Act.put, List.setIfInBounds_toArray, List.set_cons_zero, List.set_cons_succ]
      refine AtT.take (i := 8) (v := ?_) rfl (by kernel_rfl) (by kernel_rfl) (by kernel_rfl) (by kernel_rfl) (fun _ _ _ h => h) (Or.inl ⟨by kernel_rfl, ?_⟩) hS ?_
      rotate_left
      · (intro wS hSw; (try dsimp only at hSw); go_simp; try with_reducible rfl)
      simp only [Act.put, List.setIfInBounds_toArray, List.set_cons_zero, List.set_cons_succ]
      refine AtT.only (i := 10) (by kernel_rfl) rfl rfl ?_
      intro K hK
      have kk2 := (hM.row (.there (.there .here))).cell
      have ff2 := (hM.row (.there (.there .here))).free
      have ll2 := (hM.row (.there (.there .here))).lt
      have kk3 := (hM.row (.there (.there (.there .here)))).cell
      have ff3 := (hM.row (.there (.there (.there .here)))).free
      have ll3 := (hM.row (.there (.there (.there .here)))).lt
      have kk4 := (hM.row (.there (.there (.there (.there .here))))).cell
      have ff4 := (hM.row (.there (.there (.there (.there .here))))).free
      have ll4 := (hM.row (.there (.there (.there (.there .here))))).lt
      go_simp
      clear kk2 ff2 ll2 kk3 ff3 ll3 kk4 ff4 ll4
      refine hK.out _ _ (by apply Mem.tail; apply Mem.tail; apply Mem.tail; (repeat' (first | with_reducible exact hM | with_reducible exact Mem.undrew hM | with_reducible exact hMp | with_reducible exact Mem.undrew hMp | with_reducible apply Mem.drew | with_reducible apply Mem.drewN | with_reducible apply Mem.alloc | with_reducible apply Mem.set | with_reducible exact Sto.row | exact Sto.row | with_reducible apply Sto.int | with_reducible apply Sto.there | (unfold I64; omega)))) ?_
      clear hK K hS
      apply Mem.atT
      · (repeat' (first | with_reducible exact hM | with_reducible exact Mem.undrew hM | with_reducible exact hMp | with_reducible exact Mem.undrew hMp | with_reducible apply Mem.drew | with_reducible apply Mem.drewN | with_reducible apply Mem.alloc | with_reducible apply Mem.set | with_reducible exact Sto.row | exact Sto.row | with_reducible apply Sto.int | with_reducible apply Sto.there | (unfold I64; omega)))
      clear hM
      intro hM
      (try simp only [World.size_alloc, World.size_setCell, World.heap_drewN, heapDrew, Nat.add_assoc, Nat.reduceAdd, List.setIfInBounds_toArray, List.set_cons_zero, List.set_cons_succ, List.cons_append, List.nil_append] at hM)
      have hS := hM.tail.tail.tail
      refine AtT.take (i := 11) (v := ?_) rfl (by kernel_rfl) (by kernel_rfl) (by kernel_rfl) (by kernel_rfl) (fun _ _ _ h => h) (Or.inl ⟨by kernel_rfl, ?_⟩) hS ?_
      rotate_left
      · (intro wS hSw; (try dsimp only at hSw); go_simp; try with_reducible rfl)
      simp only [Act.put, List.setIfInBounds_toArray, List.set_cons_zero, List.set_cons_succ]
      refine AtT.last (by kernel_rfl) rfl (by kernel_rfl) ?_
      intro K hK
      clear hS
      have kk2 := (hM.row (.there (.there .here))).cell
      have ff2 := (hM.row (.there (.there .here))).free
      have ll2 := (hM.row (.there (.there .here))).lt
      have kk3 := (hM.row (.there (.there (.there .here)))).cell
      have ff3 := (hM.row (.there (.there (.there .here)))).free
      have ll3 := (hM.row (.there (.there (.there .here)))).lt
      have kk4 := (hM.row (.there (.there (.there (.there .here))))).cell
      have ff4 := (hM.row (.there (.there (.there (.there .here))))).free
      have ll4 := (hM.row (.there (.there (.there (.there .here))))).lt
      go_simp
      clear kk2 ff2 ll2 kk3 ff3 ll3 kk4 ff4 ll4
      refine hK.out _ _ ?_
      clear hK K
      go_wp2_with fail
      go_meet
      refine ⟨_, aw0_2, nw0_2, cw0_2, rfl, rfl, rfl, ?_⟩
      apply Mem.pick (is := [2, 0, 3, 4])
      · (repeat' (first | with_reducible exact hM | with_reducible exact Mem.undrew hM | with_reducible exact hMp | with_reducible exact Mem.undrew hMp | with_reducible apply Mem.drew | with_reducible apply Mem.drewN | with_reducible apply Mem.alloc | with_reducible apply Mem.set | with_reducible exact Sto.row | exact Sto.row | with_reducible apply Sto.int | with_reducible apply Sto.there | (unfold I64; omega)))
      · decide
      · rfl
  case rest =>
    clear hM
    obtain ⟨bbw0, aw0_2, nw0_2, cw0_2, rfl, rfl, rfl, hM⟩ := hcut
    obtain ⟨k3, f3, l3⟩ := hM.row (.there (.there (.there .here)))
    go_wp2_with fail
    clear k3 f3 l3
    apply Mem.at
    · (repeat' (first | with_reducible exact hM | with_reducible exact Mem.undrew hM | with_reducible exact hMp | with_reducible exact Mem.undrew hMp | with_reducible apply Mem.drew | with_reducible apply Mem.drewN | with_reducible apply Mem.alloc | with_reducible apply Mem.set | with_reducible exact Sto.row | exact Sto.row | with_reducible apply Sto.int | with_reducible apply Sto.there | (unfold I64; omega)))
    clear hM
    intro hM
    (try simp only [World.size_alloc, World.size_setCell, World.heap_drewN, heapDrew, Nat.add_assoc, Nat.reduceAdd, List.setIfInBounds_toArray, List.set_cons_zero, List.set_cons_succ, List.cons_append, List.nil_append] at hM)
    refine (toSmoke_any _ _ _ _ _ xs0_2 _ (I0_2.ext hM.below)).mono ?_
    rintro e w6 ⟨bx0_2, dx0_2, rfl, hO, hb⟩
    replace hM := hM.own hb hO
    clear hb hO
    dsimp only
    go_wp2_with fail
    go_cut [10, 11, 12] (fun s10 s11 s12 wx => ∃ bbg0 ag0_2 ng0_2 cg0_2, s10 = .pointer (some ⟨bbg0, 0, none⟩) ∧ s11 = .int .i64 v1 ∧ s12 = .bool v2 ∧ Mem w.heap.size w wx [rowE bbg0 36 #[.int .i64 Wr, .int .i64 Hr, .slice ag0_2 ng0_2 cg0_2], intE ag0_2 ng0_2 cg0_2 zs0_2, rowE w6.heap.size 36 #[.int .i64 p0_0, .int .i64 p0_1, .slice bx0_2 n0_2 dx0_2], intE bx0_2 n0_2 dx0_2 xs0_2, rowE bbw0 36 #[.int .i64 Wr, .int .i64 Hr, .slice aw0_2 nw0_2 cw0_2], intE aw0_2 nw0_2 cw0_2 zs0_2, rowE (w.heap.size + 1) 65 #[.int .i64 p1_0, .int .i64 p1_1, .int .i64 p1_2], rowE w.heap.size 34 #[.int .i64 p0_0, .int .i64 p0_1, .slice a0_2 n0_2 c0_2]])
    case first =>
      apply Mem.atWp
      · (repeat' (first | with_reducible exact hM | with_reducible exact Mem.undrew hM | with_reducible exact hMp | with_reducible exact Mem.undrew hMp | with_reducible apply Mem.drew | with_reducible apply Mem.drewN | with_reducible apply Mem.alloc | with_reducible apply Mem.set | with_reducible exact Sto.row | exact Sto.row | with_reducible apply Sto.int | with_reducible apply Sto.there | (unfold I64; omega)))
      clear hM
      intro hM
      (try simp only [World.size_alloc, World.size_setCell, World.heap_drewN, heapDrew, Nat.add_assoc, Nat.reduceAdd, List.setIfInBounds_toArray, List.set_cons_zero, List.set_cons_succ, List.cons_append, List.nil_append] at hM)
      refine AtT.startM hM 11 (by kernel_rfl) ?_
      replace hM := hM.drew
      have hS := hM
      refine AtT.take (i := 0) (v := ?_) rfl (by kernel_rfl) (by kernel_rfl) (by kernel_rfl) (by kernel_rfl) (fun _ _ _ h => h) (Or.inl ⟨by kernel_rfl, ?_⟩) hS ?_
      rotate_left
      · (intro wS hSw; (try dsimp only at hSw); have kr0 := (Mem.row hSw .here).cell; have kr1 := (Mem.row hSw (.there (.there .here))).cell; have kr2 := (Mem.row hSw (.there (.there (.there (.there .here))))).cell; have kr3 := (Mem.row hSw (.there (.there (.there (.there (.there .here)))))).cell; go_simp; try with_reducible rfl)
      simp only [Act.put, List.setIfInBounds_toArray, List.set_cons_zero, List.set_cons_succ]
      refine AtT.take (i := 1) (v := ?_) rfl (by kernel_rfl) (by kernel_rfl) (by kernel_rfl) (by kernel_rfl) (fun _ _ _ h => h) (Or.inl ⟨by kernel_rfl, ?_⟩) hS ?_
      rotate_left
      · (intro wS hSw; (try dsimp only at hSw); have kr0 := (Mem.row hSw .here).cell; have kr1 := (Mem.row hSw (.there (.there .here))).cell; have kr2 := (Mem.row hSw (.there (.there (.there (.there .here))))).cell; have kr3 := (Mem.row hSw (.there (.there (.there (.there (.there .here)))))).cell; go_simp; try with_reducible rfl)
      simp only [Act.put, List.setIfInBounds_toArray, List.set_cons_zero, List.set_cons_succ]
      refine AtT.two (i := 2) (j := 8) (by kernel_rfl) rfl rfl rfl rfl ?_ ?_
      · skip
        intro K hK
        go_simp
        refine (toWind_any _ _ _ _ ).mono ?_
        rintro e w8 ⟨rfl, hb⟩
        replace hM := hM.ext hb
        clear hb
        dsimp only
        refine hK.out _ _ (hM) ?_
        clear hK K hS
        have hS := hM
        refine AtT.two (i := 3) (j := 8) (by kernel_rfl) rfl rfl rfl rfl ?_ ?_
        · skip
          intro K hK
          go_simp
          refine (implBlowR_any _ _ _ _ _ xs0_2 _ _ _ _ ((hM.ints (.there .here)).ints) hp0_0 hp0_1 hp1_0 hp1_1 hp1_2).mono ?_
          rw [HQ0.out]
          rintro e w9 ⟨ag0_2, ng0_2, cg0_2, rfl, hO, hb⟩
          replace hM := hM.own hb hO
          clear hb hO
          dsimp only
          refine hK.out _ _ (hM.tail) ?_
          clear hK K hS
          have hS := hM.tail
          refine AtT.take (i := 4) (v := ?_) rfl (by kernel_rfl) (by kernel_rfl) (by kernel_rfl) (by kernel_rfl) (fun _ _ _ h => h) (Or.inl ⟨by kernel_rfl, ?_⟩) hS ?_
          rotate_left
          · (intro wS hSw; (try dsimp only at hSw); go_simp; try with_reducible rfl)
          simp only [Act.put, List.setIfInBounds_toArray, List.set_cons_zero, List.set_cons_succ]
          refine AtT.take (i := 5) (v := ?_) rfl (by kernel_rfl) (by kernel_rfl) (by kernel_rfl) (by kernel_rfl) (fun _ _ _ h => h) (Or.inl ⟨by kernel_rfl, ?_⟩) hS ?_
          rotate_left
          · (intro wS hSw; (try dsimp only at hSw); go_simp; try with_reducible rfl)
          simp only [Act.put, List.setIfInBounds_toArray, List.set_cons_zero, List.set_cons_succ]
          refine AtT.take (i := 6) (v := ?_) rfl (by kernel_rfl) (by kernel_rfl) (by kernel_rfl) (by kernel_rfl) (fun _ _ _ h => h) (Or.inl ⟨by kernel_rfl, ?_⟩) hS ?_
          rotate_left
          · (intro wS hSw; (try dsimp only at hSw); go_simp; try with_reducible rfl)
          simp only [Act.put, List.setIfInBounds_toArray, List.set_cons_zero, List.set_cons_succ]
          refine AtT.take (i := 7) (v := ?_) rfl (by kernel_rfl) (by kernel_rfl) (by kernel_rfl) (by kernel_rfl) (fun _ _ _ h => h) (Or.inl ⟨by kernel_rfl, ?_⟩) hS ?_
          rotate_left
          · (intro wS hSw; (try dsimp only at hSw); go_simp; try with_reducible rfl)
          simp only [Act.put, List.setIfInBounds_toArray, List.set_cons_zero, List.set_cons_succ]
          refine AtT.only (i := 8) (by kernel_rfl) rfl rfl ?_
          intro K hK
          go_simp
          refine hK.out _ _ (by apply Mem.tail; apply Mem.tail; (repeat' (first | with_reducible exact hM | with_reducible exact Mem.undrew hM | with_reducible exact hMp | with_reducible exact Mem.undrew hMp | with_reducible apply Mem.drew | with_reducible apply Mem.drewN | with_reducible apply Mem.alloc | with_reducible apply Mem.set | with_reducible exact Sto.row | exact Sto.row | with_reducible apply Sto.int | with_reducible apply Sto.there | (unfold I64; omega)))) ?_
          clear hK K hS
          have hMp := hM
          apply Mem.atT
          · (repeat' (first | with_reducible exact hM | with_reducible exact Mem.undrew hM | with_reducible exact hMp | with_reducible exact Mem.undrew hMp | with_reducible apply Mem.drew | with_reducible apply Mem.drewN | with_reducible apply Mem.alloc | with_reducible apply Mem.set | with_reducible exact Sto.row | exact Sto.row | with_reducible apply Sto.int | with_reducible apply Sto.there | (unfold I64; omega)))
          clear hM
          intro hM
          (try simp only [World.size_alloc, World.size_setCell, World.heap_drewN, heapDrew, Nat.add_assoc, Nat.reduceAdd, List.setIfInBounds_toArray, List.set_cons_zero, List.set_cons_succ, List.cons_append, List.nil_append] at hM)
          have hS := hM.tail.tail
          refine AtT.only (i := 9) (by kernel_rfl) rfl rfl ?_
          intro K hK
          have kk0 := (hM.row .here).cell
          have ff0 := (hM.row .here).free
          have ll0 := (hM.row .here).lt
          have kk2 := (hM.row (.there (.there .here))).cell
          have ff2 := (hM.row (.there (.there .here))).free
          have ll2 := (hM.row (.there (.there .here))).lt
          have kk4 := (hM.row (.there (.there (.there (.there .here))))).cell
          have ff4 := (hM.row (.there (.there (.there (.there .here))))).free
          have ll4 := (hM.row (.there (.there (.there (.there .here))))).lt
          have kk6 := (hM.row (.there (.there (.there (.there (.there (.there .here))))))).cell
          have ff6 := (hM.row (.there (.there (.there (.there (.there (.there .here))))))).free
          have ll6 := (hM.row (.there (.there (.there (.there (.there (.there .here))))))).lt
          have kk7 := (hM.row (.there (.there (.there (.there (.there (.there (.there .here)))))))).cell
          have ff7 := (hM.row (.there (.there (.there (.there (.there (.there (.there .here)))))))).free
          have ll7 := (hM.row (.there (.there (.there (.there (.there (.there (.there .here)))))))).lt
          go_simp
          clear kk0 ff0 ll0 kk2 ff2 ll2 kk4 ff4 ll4 kk6 ff6 ll6 kk7 ff7 ll7
          refine hK.out _ _ (by apply Mem.tail; apply Mem.tail; (repeat' (first | with_reducible exact hM | with_reducible exact Mem.undrew hM | with_reducible exact hMp | with_reducible exact Mem.undrew hMp | with_reducible apply Mem.drew | with_reducible apply Mem.drewN | with_reducible apply Mem.alloc | with_reducible apply Mem.set | with_reducible exact Sto.row | exact Sto.row | with_reducible apply Sto.int | with_reducible apply Sto.there | (unfold I64; omega)))) ?_
          clear hK K hS
          apply Mem.atT
          · (repeat' (first | with_reducible exact hM | with_reducible exact Mem.undrew hM | with_reducible exact hMp | with_reducible exact Mem.undrew hMp | with_reducible apply Mem.drew | with_reducible apply Mem.drewN | with_reducible apply Mem.alloc | with_reducible apply Mem.set | with_reducible exact Sto.row | exact Sto.row | with_reducible apply Sto.int | with_reducible apply Sto.there | (unfold I64; omega)))
          clear hM
          intro hM
          (try simp only [World.size_alloc, World.size_setCell, World.heap_drewN, heapDrew, Nat.add_assoc, Nat.reduceAdd, List.setIfInBounds_toArray, List.set_cons_zero, List.set_cons_succ, List.cons_append, List.nil_append] at hM)
          have hS := hM.tail.tail
          refine AtT.take (i := 10) (v := ?_) rfl (by kernel_rfl) (by kernel_rfl) (by kernel_rfl) (by kernel_rfl) (fun _ _ _ h => h) (Or.inl ⟨by kernel_rfl, ?_⟩) hS ?_
          rotate_left
          · (intro wS hSw; (try dsimp only at hSw); go_simp; try with_reducible rfl)
          simp only [Act.put, List.setIfInBounds_toArray, List.set_cons_zero, List.set_cons_succ]
          refine AtT.last (by kernel_rfl) rfl (by kernel_rfl) ?_
          intro K hK
          clear hS
          have kk0 := (hM.row .here).cell
          have ff0 := (hM.row .here).free
          have ll0 := (hM.row .here).lt
          have kk2 := (hM.row (.there (.there .here))).cell
          have ff2 := (hM.row (.there (.there .here))).free
          have ll2 := (hM.row (.there (.there .here))).lt
          have kk4 := (hM.row (.there (.there (.there (.there .here))))).cell
          have ff4 := (hM.row (.there (.there (.there (.there .here))))).free
          have ll4 := (hM.row (.there (.there (.there (.there .here))))).lt
          have kk6 := (hM.row (.there (.there (.there (.there (.there (.there .here))))))).cell
          have ff6 := (hM.row (.there (.there (.there (.there (.there (.there .here))))))).free
          have ll6 := (hM.row (.there (.there (.there (.there (.there (.there .here))))))).lt
          have kk7 := (hM.row (.there (.there (.there (.there (.there (.there (.there .here)))))))).cell
          have ff7 := (hM.row (.there (.there (.there (.there (.there (.there (.there .here)))))))).free
          have ll7 := (hM.row (.there (.there (.there (.there (.there (.there (.there .here)))))))).lt
          go_simp
          clear kk0 ff0 ll0 kk2 ff2 ll2 kk4 ff4 ll4 kk6 ff6 ll6 kk7 ff7 ll7
          refine hK.out _ _ ?_
          clear hK K
          go_wp2_with fail
          go_meet
          refine ⟨_, ag0_2, ng0_2, cg0_2, rfl, rfl, rfl, ?_⟩
          apply Mem.pick (is := [0, 1, 2, 3, 4, 5, 6, 7])
          · (repeat' (first | with_reducible exact hM | with_reducible exact Mem.undrew hM | with_reducible exact hMp | with_reducible exact Mem.undrew hMp | with_reducible apply Mem.drew | with_reducible apply Mem.drewN | with_reducible apply Mem.alloc | with_reducible apply Mem.set | with_reducible exact Sto.row | exact Sto.row | with_reducible apply Sto.int | with_reducible apply Sto.there | (unfold I64; omega)))
          · decide
          · rfl
        · skip
          intro K hK
          go_simp
          refine hK.out _ _ (by apply Mem.tail; (repeat' (first | with_reducible exact hM | with_reducible exact Mem.undrew hM | with_reducible exact hMp | with_reducible exact Mem.undrew hMp | with_reducible apply Mem.drew | with_reducible apply Mem.drewN | with_reducible apply Mem.alloc | with_reducible apply Mem.set | with_reducible exact Sto.row | exact Sto.row | with_reducible apply Sto.int | with_reducible apply Sto.there | (unfold I64; omega)))) ?_
          clear hK K hS
          have hMp := hM
          apply Mem.atT
          · (repeat' (first | with_reducible exact hM | with_reducible exact Mem.undrew hM | with_reducible exact hMp | with_reducible exact Mem.undrew hMp | with_reducible apply Mem.drew | with_reducible apply Mem.drewN | with_reducible apply Mem.alloc | with_reducible apply Mem.set | with_reducible exact Sto.row | exact Sto.row | with_reducible apply Sto.int | with_reducible apply Sto.there | (unfold I64; omega)))
          clear hM
          intro hM
          (try simp only [World.size_alloc, World.size_setCell, World.heap_drewN, heapDrew, Nat.add_assoc, Nat.reduceAdd, List.setIfInBounds_toArray, List.set_cons_zero, List.set_cons_succ, List.cons_append, List.nil_append] at hM)
          have hS := hM.tail
          refine AtT.only (i := 3) (by kernel_rfl) rfl rfl ?_
          intro K hK
          go_simp
          refine (implBlowR_any _ _ _ _ _ xs0_2 _ _ _ _ ((hM.ints (.there (.there .here))).ints) hp0_0 hp0_1 hp1_0 hp1_1 hp1_2).mono ?_
          rw [HQ0.out]
          rintro e w9 ⟨ag0_2, ng0_2, cg0_2, rfl, hO, hb⟩
          replace hM := hM.own hb hO
          clear hb hO
          dsimp only
          refine hK.out _ _ (hM.tail.tail) ?_
          clear hK K hS
          have hS := hM.tail.tail
          refine AtT.take (i := 4) (v := ?_) rfl (by kernel_rfl) (by kernel_rfl) (by kernel_rfl) (by kernel_rfl) (fun _ _ _ h => h) (Or.inl ⟨by kernel_rfl, ?_⟩) hS ?_
          rotate_left
          · (intro wS hSw; (try dsimp only at hSw); go_simp; try with_reducible rfl)
          simp only [Act.put, List.setIfInBounds_toArray, List.set_cons_zero, List.set_cons_succ]
          refine AtT.take (i := 5) (v := ?_) rfl (by kernel_rfl) (by kernel_rfl) (by kernel_rfl) (by kernel_rfl) (fun _ _ _ h => h) (Or.inl ⟨by kernel_rfl, ?_⟩) hS ?_
          rotate_left
          · (intro wS hSw; (try dsimp only at hSw); go_simp; try with_reducible rfl)
          simp only [Act.put, List.setIfInBounds_toArray, List.set_cons_zero, List.set_cons_succ]
          refine AtT.take (i := 6) (v := ?_) rfl (by kernel_rfl) (by kernel_rfl) (by kernel_rfl) (by kernel_rfl) (fun _ _ _ h => h) (Or.inl ⟨by kernel_rfl, ?_⟩) hS ?_
          rotate_left
          · (intro wS hSw; (try dsimp only at hSw); go_simp; try with_reducible rfl)
          simp only [Act.put, List.setIfInBounds_toArray, List.set_cons_zero, List.set_cons_succ]
          refine AtT.take (i := 7) (v := ?_) rfl (by kernel_rfl) (by kernel_rfl) (by kernel_rfl) (by kernel_rfl) (fun _ _ _ h => h) (Or.inl ⟨by kernel_rfl, ?_⟩) hS ?_
          rotate_left
          · (intro wS hSw; (try dsimp only at hSw); go_simp; try with_reducible rfl)
          simp only [Act.put, List.setIfInBounds_toArray, List.set_cons_zero, List.set_cons_succ]
          refine AtT.only (i := 9) (by kernel_rfl) rfl rfl ?_
          intro K hK
          have kk1 := (hM.row (.there .here)).cell
          have ff1 := (hM.row (.there .here)).free
          have ll1 := (hM.row (.there .here)).lt
          have kk2 := (hM.row (.there (.there .here))).cell
          have ff2 := (hM.row (.there (.there .here))).free
          have ll2 := (hM.row (.there (.there .here))).lt
          have kk4 := (hM.row (.there (.there (.there (.there .here))))).cell
          have ff4 := (hM.row (.there (.there (.there (.there .here))))).free
          have ll4 := (hM.row (.there (.there (.there (.there .here))))).lt
          have kk6 := (hM.row (.there (.there (.there (.there (.there (.there .here))))))).cell
          have ff6 := (hM.row (.there (.there (.there (.there (.there (.there .here))))))).free
          have ll6 := (hM.row (.there (.there (.there (.there (.there (.there .here))))))).lt
          have kk7 := (hM.row (.there (.there (.there (.there (.there (.there (.there .here)))))))).cell
          have ff7 := (hM.row (.there (.there (.there (.there (.there (.there (.there .here)))))))).free
          have ll7 := (hM.row (.there (.there (.there (.there (.there (.there (.there .here)))))))).lt
          go_simp
          clear kk1 ff1 ll1 kk2 ff2 ll2 kk4 ff4 ll4 kk6 ff6 ll6 kk7 ff7 ll7
          refine hK.out _ _ (by apply Mem.tail; apply Mem.tail; (repeat' (first | with_reducible exact hM | with_reducible exact Mem.undrew hM | with_reducible exact hMp | with_reducible exact Mem.undrew hMp | with_reducible apply Mem.drew | with_reducible apply Mem.drewN | with_reducible apply Mem.alloc | with_reducible apply Mem.set | with_reducible exact Sto.row | exact Sto.row | with_reducible apply Sto.int | with_reducible apply Sto.there | (unfold I64; omega)))) ?_
          clear hK K hS
          apply Mem.atT
          · (repeat' (first | with_reducible exact hM | with_reducible exact Mem.undrew hM | with_reducible exact hMp | with_reducible exact Mem.undrew hMp | with_reducible apply Mem.drew | with_reducible apply Mem.drewN | with_reducible apply Mem.alloc | with_reducible apply Mem.set | with_reducible exact Sto.row | exact Sto.row | with_reducible apply Sto.int | with_reducible apply Sto.there | (unfold I64; omega)))
          clear hM
          intro hM
          (try simp only [World.size_alloc, World.size_setCell, World.heap_drewN, heapDrew, Nat.add_assoc, Nat.reduceAdd, List.setIfInBounds_toArray, List.set_cons_zero, List.set_cons_succ, List.cons_append, List.nil_append] at hM)
          have hS := hM.tail.tail
          refine AtT.take (i := 10) (v := ?_) rfl (by kernel_rfl) (by kernel_rfl) (by kernel_rfl) (by kernel_rfl) (fun _ _ _ h => h) (Or.inl ⟨by kernel_rfl, ?_⟩) hS ?_
          rotate_left
          · (intro wS hSw; (try dsimp only at hSw); go_simp; try with_reducible rfl)
          simp only [Act.put, List.setIfInBounds_toArray, List.set_cons_zero, List.set_cons_succ]
          refine AtT.last (by kernel_rfl) rfl (by kernel_rfl) ?_
          intro K hK
          clear hS
          have kk1 := (hM.row (.there .here)).cell
          have ff1 := (hM.row (.there .here)).free
          have ll1 := (hM.row (.there .here)).lt
          have kk2 := (hM.row (.there (.there .here))).cell
          have ff2 := (hM.row (.there (.there .here))).free
          have ll2 := (hM.row (.there (.there .here))).lt
          have kk4 := (hM.row (.there (.there (.there (.there .here))))).cell
          have ff4 := (hM.row (.there (.there (.there (.there .here))))).free
          have ll4 := (hM.row (.there (.there (.there (.there .here))))).lt
          have kk6 := (hM.row (.there (.there (.there (.there (.there (.there .here))))))).cell
          have ff6 := (hM.row (.there (.there (.there (.there (.there (.there .here))))))).free
          have ll6 := (hM.row (.there (.there (.there (.there (.there (.there .here))))))).lt
          have kk7 := (hM.row (.there (.there (.there (.there (.there (.there (.there .here)))))))).cell
          have ff7 := (hM.row (.there (.there (.there (.there (.there (.there (.there .here)))))))).free
          have ll7 := (hM.row (.there (.there (.there (.there (.there (.there (.there .here)))))))).lt
          go_simp
          clear kk1 ff1 ll1 kk2 ff2 ll2 kk4 ff4 ll4 kk6 ff6 ll6 kk7 ff7 ll7
          refine hK.out _ _ ?_
          clear hK K
          go_wp2_with fail
          go_meet
          refine ⟨_, ag0_2, ng0_2, cg0_2, rfl, rfl, rfl, ?_⟩
          apply Mem.pick (is := [1, 0, 2, 3, 4, 5, 6, 7])
          · (repeat' (first | with_reducible exact hM | with_reducible exact Mem.undrew hM | with_reducible exact hMp | with_reducible exact Mem.undrew hMp | with_reducible apply Mem.drew | with_reducible apply Mem.drewN | with_reducible apply Mem.alloc | with_reducible apply Mem.set | with_reducible exact Sto.row | exact Sto.row | with_reducible apply Sto.int | with_reducible apply Sto.there | (unfold I64; omega)))
          · decide
          · rfl
      · skip
        intro K hK
        go_simp
        refine hK.out _ _ (by apply Mem.tail; (repeat' (first | with_reducible exact hM | with_reducible exact Mem.undrew hM | with_reducible exact hMp | with_reducible exact Mem.undrew hMp | with_reducible apply Mem.drew | with_reducible apply Mem.drewN | with_reducible apply Mem.alloc | with_reducible apply Mem.set | with_reducible exact Sto.row | exact Sto.row | with_reducible apply Sto.int | with_reducible apply Sto.there | (unfold I64; omega)))) ?_
        clear hK K hS
        have hMp := hM
        apply Mem.atT
        · (repeat' (first | with_reducible exact hM | with_reducible exact Mem.undrew hM | with_reducible exact hMp | with_reducible exact Mem.undrew hMp | with_reducible apply Mem.drew | with_reducible apply Mem.drewN | with_reducible apply Mem.alloc | with_reducible apply Mem.set | with_reducible exact Sto.row | exact Sto.row | with_reducible apply Sto.int | with_reducible apply Sto.there | (unfold I64; omega)))
        clear hM
        intro hM
        (try simp only [World.size_alloc, World.size_setCell, World.heap_drewN, heapDrew, Nat.add_assoc, Nat.reduceAdd, List.setIfInBounds_toArray, List.set_cons_zero, List.set_cons_succ, List.cons_append, List.nil_append] at hM)
        have hS := hM.tail
        refine AtT.only (i := 2) (by kernel_rfl) rfl rfl ?_
        intro K hK
        go_simp
        refine (toWind_any _ _ _ _ ).mono ?_
        rintro e w8 ⟨rfl, hb⟩
        replace hM := hM.ext hb
        clear hb
        dsimp only
        refine hK.out _ _ (hM.tail) ?_
        clear hK K hS
        have hS := hM.tail
        refine AtT.only (i := 3) (by kernel_rfl) rfl rfl ?_
        intro K hK
        go_simp
        refine (implBlowR_any _ _ _ _ _ xs0_2 _ _ _ _ ((hM.ints (.there (.there .here))).ints) hp0_0 hp0_1 hp1_0 hp1_1 hp1_2).mono ?_
        rw [HQ0.out]
        rintro e w9 ⟨ag0_2, ng0_2, cg0_2, rfl, hO, hb⟩
        replace hM := hM.own hb hO
        clear hb hO
        dsimp only
        refine hK.out _ _ (hM.tail.tail) ?_
        clear hK K hS
        have hS := hM.tail.tail
        refine AtT.take (i := 4) (v := ?_) rfl (by kernel_rfl) (by kernel_rfl) (by kernel_rfl) (by kernel_rfl) (fun _ _ _ h => h) (Or.inl ⟨by kernel_rfl, ?_⟩) hS ?_
        rotate_left
        · (intro wS hSw; (try dsimp only at hSw); go_simp; try with_reducible rfl)
        simp only [Act.put, List.setIfInBounds_toArray, List.set_cons_zero, List.set_cons_succ]
        refine AtT.take (i := 5) (v := ?_) rfl (by kernel_rfl) (by kernel_rfl) (by kernel_rfl) (by kernel_rfl) (fun _ _ _ h => h) (Or.inl ⟨by kernel_rfl, ?_⟩) hS ?_
        rotate_left
        · (intro wS hSw; (try dsimp only at hSw); go_simp; try with_reducible rfl)
        simp only [Act.put, List.setIfInBounds_toArray, List.set_cons_zero, List.set_cons_succ]
        refine AtT.take (i := 6) (v := ?_) rfl (by kernel_rfl) (by kernel_rfl) (by kernel_rfl) (by kernel_rfl) (fun _ _ _ h => h) (Or.inl ⟨by kernel_rfl, ?_⟩) hS ?_
        rotate_left
        · (intro wS hSw; (try dsimp only at hSw); go_simp; try with_reducible rfl)
        simp only [Act.put, List.setIfInBounds_toArray, List.set_cons_zero, List.set_cons_succ]
        refine AtT.take (i := 7) (v := ?_) rfl (by kernel_rfl) (by kernel_rfl) (by kernel_rfl) (by kernel_rfl) (fun _ _ _ h => h) (Or.inl ⟨by kernel_rfl, ?_⟩) hS ?_
        rotate_left
        · (intro wS hSw; (try dsimp only at hSw); go_simp; try with_reducible rfl)
        simp only [Act.put, List.setIfInBounds_toArray, List.set_cons_zero, List.set_cons_succ]
        refine AtT.only (i := 9) (by kernel_rfl) rfl rfl ?_
        intro K hK
        have kk1 := (hM.row (.there .here)).cell
        have ff1 := (hM.row (.there .here)).free
        have ll1 := (hM.row (.there .here)).lt
        have kk2 := (hM.row (.there (.there .here))).cell
        have ff2 := (hM.row (.there (.there .here))).free
        have ll2 := (hM.row (.there (.there .here))).lt
        have kk4 := (hM.row (.there (.there (.there (.there .here))))).cell
        have ff4 := (hM.row (.there (.there (.there (.there .here))))).free
        have ll4 := (hM.row (.there (.there (.there (.there .here))))).lt
        have kk6 := (hM.row (.there (.there (.there (.there (.there (.there .here))))))).cell
        have ff6 := (hM.row (.there (.there (.there (.there (.there (.there .here))))))).free
        have ll6 := (hM.row (.there (.there (.there (.there (.there (.there .here))))))).lt
        have kk7 := (hM.row (.there (.there (.there (.there (.there (.there (.there .here)))))))).cell
        have ff7 := (hM.row (.there (.there (.there (.there (.there (.there (.there .here)))))))).free
        have ll7 := (hM.row (.there (.there (.there (.there (.there (.there (.there .here)))))))).lt
        go_simp
        clear kk1 ff1 ll1 kk2 ff2 ll2 kk4 ff4 ll4 kk6 ff6 ll6 kk7 ff7 ll7
        refine hK.out _ _ (by apply Mem.tail; apply Mem.tail; (repeat' (first | with_reducible exact hM | with_reducible exact Mem.undrew hM | with_reducible exact hMp | with_reducible exact Mem.undrew hMp | with_reducible apply Mem.drew | with_reducible apply Mem.drewN | with_reducible apply Mem.alloc | with_reducible apply Mem.set | with_reducible exact Sto.row | exact Sto.row | with_reducible apply Sto.int | with_reducible apply Sto.there | (unfold I64; omega)))) ?_
        clear hK K hS
        apply Mem.atT
        · (repeat' (first | with_reducible exact hM | with_reducible exact Mem.undrew hM | with_reducible exact hMp | with_reducible exact Mem.undrew hMp | with_reducible apply Mem.drew | with_reducible apply Mem.drewN | with_reducible apply Mem.alloc | with_reducible apply Mem.set | with_reducible exact Sto.row | exact Sto.row | with_reducible apply Sto.int | with_reducible apply Sto.there | (unfold I64; omega)))
        clear hM
        intro hM
        (try simp only [World.size_alloc, World.size_setCell, World.heap_drewN, heapDrew, Nat.add_assoc, Nat.reduceAdd, List.setIfInBounds_toArray, List.set_cons_zero, List.set_cons_succ, List.cons_append, List.nil_append] at hM)
        have hS := hM.tail.tail
        refine AtT.take (i := 10) (v := ?_) rfl (by kernel_rfl) (by kernel_rfl) (by kernel_rfl) (by kernel_rfl) (fun _ _ _ h => h) (Or.inl ⟨by kernel_rfl, ?_⟩) hS ?_
        rotate_left
        · (intro wS hSw; (try dsimp only at hSw); go_simp; try with_reducible rfl)
        simp only [Act.put, List.setIfInBounds_toArray, List.set_cons_zero, List.set_cons_succ]
        refine AtT.last (by kernel_rfl) rfl (by kernel_rfl) ?_
        intro K hK
        clear hS
        have kk1 := (hM.row (.there .here)).cell
        have ff1 := (hM.row (.there .here)).free
        have ll1 := (hM.row (.there .here)).lt
        have kk2 := (hM.row (.there (.there .here))).cell
        have ff2 := (hM.row (.there (.there .here))).free
        have ll2 := (hM.row (.there (.there .here))).lt
        have kk4 := (hM.row (.there (.there (.there (.there .here))))).cell
        have ff4 := (hM.row (.there (.there (.there (.there .here))))).free
        have ll4 := (hM.row (.there (.there (.there (.there .here))))).lt
        have kk6 := (hM.row (.there (.there (.there (.there (.there (.there .here))))))).cell
        have ff6 := (hM.row (.there (.there (.there (.there (.there (.there .here))))))).free
        have ll6 := (hM.row (.there (.there (.there (.there (.there (.there .here))))))).lt
        have kk7 := (hM.row (.there (.there (.there (.there (.there (.there (.there .here)))))))).cell
        have ff7 := (hM.row (.there (.there (.there (.there (.there (.there (.there .here)))))))).free
        have ll7 := (hM.row (.there (.there (.there (.there (.there (.there (.there .here)))))))).lt
        go_simp
        clear kk1 ff1 ll1 kk2 ff2 ll2 kk4 ff4 ll4 kk6 ff6 ll6 kk7 ff7 ll7
        refine hK.out _ _ ?_
        clear hK K
        go_wp2_with fail
        go_meet
        refine ⟨_, ag0_2, ng0_2, cg0_2, rfl, rfl, rfl, ?_⟩
        apply Mem.pick (is := [1, 0, 2, 3, 4, 5, 6, 7])
        · (repeat' (first | with_reducible exact hM | with_reducible exact Mem.undrew hM | with_reducible exact hMp | with_reducible exact Mem.undrew hMp | with_reducible apply Mem.drew | with_reducible apply Mem.drewN | with_reducible apply Mem.alloc | with_reducible apply Mem.set | with_reducible exact Sto.row | exact Sto.row | with_reducible apply Sto.int | with_reducible apply Sto.there | (unfold I64; omega)))
        · decide
        · rfl
    case rest =>
      clear hM
      obtain ⟨bbg0, ag0_2, ng0_2, cg0_2, rfl, rfl, rfl, hM⟩ := hcut
      have hbb1 : (v1 != v1) = false := by simp
      have hbb2 : (v2 != v2) = false := by cases v2 <;> rfl
      obtain ⟨k0, f0, l0⟩ := hM.row .here
      obtain ⟨k4, f4, l4⟩ := hM.row (.there (.there (.there (.there .here))))
      go_wp2_with fail
      clear k0 f0 l0 k4 f4 l4
      apply Mem.at
      · (repeat' (first | with_reducible exact hM | with_reducible exact Mem.undrew hM | with_reducible exact hMp | with_reducible exact Mem.undrew hMp | with_reducible apply Mem.drew | with_reducible apply Mem.drewN | with_reducible apply Mem.alloc | with_reducible apply Mem.set | with_reducible exact Sto.row | exact Sto.row | with_reducible apply Sto.int | with_reducible apply Sto.there | (unfold I64; omega)))
      clear hM
      intro hM
      (try simp only [World.size_alloc, World.size_setCell, World.heap_drewN, heapDrew, Nat.add_assoc, Nat.reduceAdd, List.setIfInBounds_toArray, List.set_cons_zero, List.set_cons_succ, List.cons_append, List.nil_append] at hM)
      refine (eqSmoke_any _ _ _ _ _ zs0_2 _ _ _ _ _ zs0_2 _ ((hM.ints (.there .here)).ints) ((hM.ints (.there (.there (.there (.there (.there .here)))))).ints)).mono ?_
      rw [eqG_refl]
      rintro e w10 ⟨rfl, hb⟩
      replace hM := hM.ext hb
      clear hb
      obtain ⟨k2, f2, l2⟩ := hM.row (.there (.there .here))
      obtain ⟨k7, f7, l7⟩ := hM.row (.there (.there (.there (.there (.there (.there (.there .here)))))))
      go_wp2_with fail
      clear k2 f2 l2 k7 f7 l7
      apply Mem.atWp
      · (repeat' (first | with_reducible exact hM | with_reducible exact Mem.undrew hM | with_reducible exact hMp | with_reducible exact Mem.undrew hMp | with_reducible apply Mem.drew | with_reducible apply Mem.drewN | with_reducible apply Mem.alloc | with_reducible apply Mem.set | with_reducible exact Sto.row | exact Sto.row | with_reducible apply Sto.int | with_reducible apply Sto.there | (unfold I64; omega)))
      clear hM
      intro hM
      (try simp only [World.size_alloc, World.size_setCell, World.heap_drewN, heapDrew, Nat.add_assoc, Nat.reduceAdd, List.setIfInBounds_toArray, List.set_cons_zero, List.set_cons_succ, List.cons_append, List.nil_append] at hM)
      refine AtT.startM hM 4 (by kernel_rfl) ?_
      replace hM := hM.drew
      have hS := hM
      refine AtT.take (i := 0) (v := ?_) rfl (by kernel_rfl) (by kernel_rfl) (by kernel_rfl) (by kernel_rfl) (fun _ _ _ h => h) (Or.inl ⟨by kernel_rfl, ?_⟩) hS ?_
      rotate_left
      · (intro wS hSw; (try dsimp only at hSw); have kr0 := (Mem.row hSw (.there (.there (.there (.there (.there (.there (.there .here)))))))).cell; have kr1 := (Mem.row hSw (.there (.there .here))).cell; go_simp; try with_reducible rfl)
      simp only [Act.put, List.setIfInBounds_toArray, List.set_cons_zero, List.set_cons_succ]
      refine AtT.take (i := 1) (v := ?_) rfl (by kernel_rfl) (by kernel_rfl) (by kernel_rfl) (by kernel_rfl) (fun _ _ _ h => h) (Or.inl ⟨by kernel_rfl, ?_⟩) hS ?_
      rotate_left
      · (intro wS hSw; (try dsimp only at hSw); have kr0 := (Mem.row hSw (.there (.there (.there (.there (.there (.there (.there .here)))))))).cell; have kr1 := (Mem.row hSw (.there (.there .here))).cell; go_simp; try with_reducible rfl)
      simp only [Act.put, List.setIfInBounds_toArray, List.set_cons_zero, List.set_cons_succ]
      refine AtT.only (i := 2) (by kernel_rfl) rfl rfl ?_
      intro K hK
      go_simp
      refine (toSmoke_any _ _ _ _ _ xs0_2 _ (I0_2.ext hM.below)).mono ?_
      rintro e w11 ⟨bq11_2, dq11_2, rfl, hO, hb⟩
      replace hM := hM.own hb hO
      clear hb hO
      dsimp only
      refine hK.out _ _ (hM.tail) ?_
      clear hK K hS
      have hS := hM.tail
      refine AtT.only (i := 3) (by kernel_rfl) rfl rfl ?_
      intro K hK
      go_simp
      refine (eqSmoke_any _ _ _ _ _ xs0_2 _ _ _ _ _ xs0_2 _ ((hM.ints (.there (.there (.there (.there .here))))).ints) ((hM.ints .here).ints)).mono ?_
      rw [eqG_refl]
      rintro e w12 ⟨rfl, hb⟩
      replace hM := hM.ext hb
      clear hb
      dsimp only
      refine hK.out _ _ (hM.tail) ?_
      clear hK K hS
      have hS := hM.tail
      refine AtT.last (by kernel_rfl) rfl (by kernel_rfl) ?_
      intro K hK
      clear hS
      have kk3 := (hM.row (.there (.there (.there .here)))).cell
      have ff3 := (hM.row (.there (.there (.there .here)))).free
      have ll3 := (hM.row (.there (.there (.there .here)))).lt
      have kk8 := (hM.row (.there (.there (.there (.there (.there (.there (.there (.there .here))))))))).cell
      have ff8 := (hM.row (.there (.there (.there (.there (.there (.there (.there (.there .here))))))))).free
      have ll8 := (hM.row (.there (.there (.there (.there (.there (.there (.there (.there .here))))))))).lt
      go_simp
      clear kk3 ff3 ll3 kk8 ff8 ll8
      refine hK.out _ _ ?_
      clear hK K
      obtain ⟨k3, f3, l3⟩ := hM.row (.there (.there (.there .here)))
      go_wp2_with fail
      clear k3 f3 l3
      apply Mem.at
      · (repeat' (first | with_reducible exact hM | with_reducible exact Mem.undrew hM | with_reducible exact hMp | with_reducible exact Mem.undrew hMp | with_reducible apply Mem.drew | with_reducible apply Mem.drewN | with_reducible apply Mem.alloc | with_reducible apply Mem.set | with_reducible exact Sto.row | exact Sto.row | with_reducible apply Sto.int | with_reducible apply Sto.there | (unfold I64; omega)))
      clear hM
      intro hM
      (try simp only [World.size_alloc, World.size_setCell, World.heap_drewN, heapDrew, Nat.add_assoc, Nat.reduceAdd, List.setIfInBounds_toArray, List.set_cons_zero, List.set_cons_succ, List.cons_append, List.nil_append] at hM)
      refine (markSmoke_any _ _ _ _ _ _ _ 1 _ (Mem.ints hM (.there (.there (.there (.there .here))))) (by omega)).mono ?_
      rintro e w13 ⟨rfl, hO, hk⟩
      replace hM := hM.put (e' := intE _ _ _ _) (.there (.there (.there (.there (.here))))) hk hO (fun k hk => .inl hk)
      clear hO hk
      obtain ⟨k1, f1, l1⟩ := hM.row (.there .here)
      obtain ⟨k5, f5, l5⟩ := hM.row (.there (.there (.there (.there (.there .here)))))
      go_wp2_with fail
      clear k1 f1 l1 k5 f5 l5
      apply Mem.at
      · (repeat' (first | with_reducible exact hM | with_reducible exact Mem.undrew hM | with_reducible exact hMp | with_reducible exact Mem.undrew hMp | with_reducible apply Mem.drew | with_reducible apply Mem.drewN | with_reducible apply Mem.alloc | with_reducible apply Mem.set | with_reducible exact Sto.row | exact Sto.row | with_reducible apply Sto.int | with_reducible apply Sto.there | (unfold I64; omega)))
      clear hM
      intro hM
      (try simp only [World.size_alloc, World.size_setCell, World.heap_drewN, heapDrew, Nat.add_assoc, Nat.reduceAdd, List.setIfInBounds_toArray, List.set_cons_zero, List.set_cons_succ, List.cons_append, List.nil_append] at hM)
      refine (eqSmoke_any _ _ _ _ _ zs0_2 _ _ _ _ _ zs0_2 _ ((hM.ints (.there (.there .here))).ints) ((hM.ints (.there (.there (.there (.there (.there (.there .here))))))).ints)).mono ?_
      rw [eqG_refl]
      rintro e w14 ⟨rfl, hb⟩
      replace hM := hM.ext hb
      clear hb
      obtain ⟨k1, f1, l1⟩ := hM.row (.there .here)
      go_wp2_with fail
      clear k1 f1 l1
      apply Mem.at
      · (repeat' (first | with_reducible exact hM | with_reducible exact Mem.undrew hM | with_reducible exact hMp | with_reducible exact Mem.undrew hMp | with_reducible apply Mem.drew | with_reducible apply Mem.drewN | with_reducible apply Mem.alloc | with_reducible apply Mem.set | with_reducible exact Sto.row | exact Sto.row | with_reducible apply Sto.int | with_reducible apply Sto.there | (unfold I64; omega)))
      clear hM
      intro hM
      (try simp only [World.size_alloc, World.size_setCell, World.heap_drewN, heapDrew, Nat.add_assoc, Nat.reduceAdd, List.setIfInBounds_toArray, List.set_cons_zero, List.set_cons_succ, List.cons_append, List.nil_append] at hM)
      refine (markSmoke_any _ _ _ _ _ _ _ 1 _ (Mem.ints hM (.there (.there .here))) (by omega)).mono ?_
      rintro e w15 ⟨rfl, hO, hk⟩
      replace hM := hM.put (e' := intE _ _ _ _) (.there (.there (.here))) hk hO (fun k hk => .inl hk)
      clear hO hk
      obtain ⟨k1, f1, l1⟩ := hM.row (.there .here)
      go_wp2_with fail
      clear k1 f1 l1
      apply Mem.at
      · (repeat' (first | with_reducible exact hM | with_reducible exact Mem.undrew hM | with_reducible exact hMp | with_reducible exact Mem.undrew hMp | with_reducible apply Mem.drew | with_reducible apply Mem.drewN | with_reducible apply Mem.alloc | with_reducible apply Mem.set | with_reducible exact Sto.row | exact Sto.row | with_reducible apply Sto.int | with_reducible apply Sto.there | (unfold I64; omega)))
      clear hM
      intro hM
      (try simp only [World.size_alloc, World.size_setCell, World.heap_drewN, heapDrew, Nat.add_assoc, Nat.reduceAdd, List.setIfInBounds_toArray, List.set_cons_zero, List.set_cons_succ, List.cons_append, List.nil_append] at hM)
      have hmm16 := (hM.ints (.there (.there .here))).room
      refine (heldSmoke_any _ _ _ _ _ _ 1 _ ((hM.ints (.there (.there .here))).ints) (by omega)).mono ?_
      rw [heldF_fromI]
      rintro e w16 ⟨rfl, hb⟩
      replace hM := hM.ext hb
      clear hb
      have hmn16 : ((1 + (ng0_2 : Int)) != 1 + ng0_2) = false := by simp
      go_wp2_with fail
      go_cut [16, 17, 18] (fun s16 s17 s18 wx => ∃ bbh0 ah0_2 nh0_2 ch0_2, s16 = .pointer (some ⟨bbh0, 0, none⟩) ∧ s17 = .int .i64 v1 ∧ s18 = .bool v2 ∧ Mem w.heap.size w wx [rowE bbh0 36 #[.int .i64 Wr, .int .i64 Hr, .slice ah0_2 nh0_2 ch0_2], intE ah0_2 nh0_2 ch0_2 zs0_2, rowE bbg0 36 #[.int .i64 Wr, .int .i64 Hr, .slice ag0_2 ng0_2 cg0_2], intE ag0_2 ng0_2 cg0_2 (fromI 1 ng0_2), rowE bbw0 36 #[.int .i64 Wr, .int .i64 Hr, .slice aw0_2 nw0_2 cw0_2], intE aw0_2 nw0_2 cw0_2 zs0_2, rowE (w.heap.size + 1) 65 #[.int .i64 p1_0, .int .i64 p1_1, .int .i64 p1_2], rowE w.heap.size 34 #[.int .i64 p0_0, .int .i64 p0_1, .slice a0_2 n0_2 c0_2]])
      case first =>
        apply Mem.atWp
        · (repeat' (first | with_reducible exact hM | with_reducible exact Mem.undrew hM | with_reducible exact hMp | with_reducible exact Mem.undrew hMp | with_reducible apply Mem.drew | with_reducible apply Mem.drewN | with_reducible apply Mem.alloc | with_reducible apply Mem.set | with_reducible exact Sto.row | exact Sto.row | with_reducible apply Sto.int | with_reducible apply Sto.there | (unfold I64; omega)))
        clear hM
        intro hM
        (try simp only [World.size_alloc, World.size_setCell, World.heap_drewN, heapDrew, Nat.add_assoc, Nat.reduceAdd, List.setIfInBounds_toArray, List.set_cons_zero, List.set_cons_succ, List.cons_append, List.nil_append] at hM)
        refine AtT.startM hM 12 (by kernel_rfl) ?_
        replace hM := hM.drew
        have hS := hM
        refine AtT.take (i := 0) (v := ?_) rfl (by kernel_rfl) (by kernel_rfl) (by kernel_rfl) (by kernel_rfl) (fun _ _ _ h => h) (Or.inl ⟨by kernel_rfl, ?_⟩) hS ?_
        rotate_left
        · (intro wS hSw; (try dsimp only at hSw); have kr0 := (Mem.row hSw (.there .here)).cell; have kr1 := (Mem.row hSw (.there (.there (.there .here)))).cell; have kr2 := (Mem.row hSw (.there (.there (.there (.there (.there .here)))))).cell; have kr3 := (Mem.row hSw (.there (.there (.there (.there (.there (.there (.there .here)))))))).cell; have kr4 := (Mem.row hSw (.there (.there (.there (.there (.there (.there (.there (.there .here))))))))).cell; go_simp; try with_reducible rfl)
        simp only [Act.put, List.setIfInBounds_toArray, List.set_cons_zero, List.set_cons_succ]
        refine AtT.take (i := 2) (v := ?_) rfl (by kernel_rfl) (by kernel_rfl) (by kernel_rfl) (by kernel_rfl) (fun _ _ _ h => h) (Or.inl ⟨by kernel_rfl, ?_⟩) hS ?_
        rotate_left
        · (intro wS hSw; (try dsimp only at hSw); have kr0 := (Mem.row hSw (.there .here)).cell; have kr1 := (Mem.row hSw (.there (.there (.there .here)))).cell; have kr2 := (Mem.row hSw (.there (.there (.there (.there (.there .here)))))).cell; have kr3 := (Mem.row hSw (.there (.there (.there (.there (.there (.there (.there .here)))))))).cell; have kr4 := (Mem.row hSw (.there (.there (.there (.there (.there (.there (.there (.there .here))))))))).cell; go_simp; try with_reducible rfl)
        simp only [Act.put, List.setIfInBounds_toArray, List.set_cons_zero, List.set_cons_succ]
        refine AtT.two (i := 1) (j := 9) (by kernel_rfl) rfl rfl rfl rfl ?_ ?_
        · skip
          intro K hK
          go_simp
          refine (toSmoke_any _ _ _ _ _ xs0_2 _ (I0_2.ext hM.below)).mono ?_
          rintro e w18 ⟨bh0t_2, dh0t_2, rfl, hO, hb⟩
          replace hM := hM.own hb hO
          clear hb hO
          dsimp only
          refine hK.out _ _ (hM.tail) ?_
          clear hK K hS
          have hS := hM.tail
          refine AtT.two (i := 3) (j := 9) (by kernel_rfl) rfl rfl rfl rfl ?_ ?_
          · skip
            intro K hK
            go_simp
            refine (toWind_any _ _ _ _ ).mono ?_
            rintro e w19 ⟨rfl, hb⟩
            replace hM := hM.ext hb
            clear hb
            dsimp only
            refine hK.out _ _ (hM.tail) ?_
            clear hK K hS
            have hS := hM.tail
            refine AtT.two (i := 4) (j := 9) (by kernel_rfl) rfl rfl rfl rfl ?_ ?_
            · skip
              intro K hK
              go_simp
              refine (implBlowR_any _ _ _ _ _ xs0_2 _ _ _ _ ((hM.ints .here).ints) hp0_0 hp0_1 hp1_0 hp1_1 hp1_2).mono ?_
              rw [HQ0.out]
              rintro e w20 ⟨ah0_2, nh0_2, ch0_2, rfl, hO, hb⟩
              replace hM := hM.own hb hO
              clear hb hO
              dsimp only
              refine hK.out _ _ (hM.tail.tail) ?_
              clear hK K hS
              have hS := hM.tail.tail
              refine AtT.take (i := 5) (v := ?_) rfl (by kernel_rfl) (by kernel_rfl) (by kernel_rfl) (by kernel_rfl) (fun _ _ _ h => h) (Or.inl ⟨by kernel_rfl, ?_⟩) hS ?_
              rotate_left
              · (intro wS hSw; (try dsimp only at hSw); go_simp; try with_reducible rfl)
              simp only [Act.put, List.setIfInBounds_toArray, List.set_cons_zero, List.set_cons_succ]
              refine AtT.take (i := 6) (v := ?_) rfl (by kernel_rfl) (by kernel_rfl) (by kernel_rfl) (by kernel_rfl) (fun _ _ _ h => h) (Or.inl ⟨by kernel_rfl, ?_⟩) hS ?_
              rotate_left
              · (intro wS hSw; (try dsimp only at hSw); go_simp; try with_reducible rfl)
              simp only [Act.put, List.setIfInBounds_toArray, List.set_cons_zero, List.set_cons_succ]
              refine AtT.take (i := 7) (v := ?_) rfl (by kernel_rfl) (by kernel_rfl) (by kernel_rfl) (by kernel_rfl) (fun _ _ _ h => h) (Or.inl ⟨by kernel_rfl, ?_⟩) hS ?_
              rotate_left
              · (intro wS hSw; (try dsimp only at hSw); go_simp; try with_reducible rfl)
              simp only [Act.put, List.setIfInBounds_toArray, List.set_cons_zero, List.set_cons_succ]
              refine AtT.take (i := 8) (v := ?_) rfl (by kernel_rfl) (by kernel_rfl) (by kernel_rfl) (by kernel_rfl) (fun _ _ _ h => h) (Or.inl ⟨by kernel_rfl, ?_⟩) hS ?_
              rotate_left
              · (intro wS hSw; (try dsimp only at hSw); go_simp; try with_reducible rfl)
              simp only [Act.put, List.setIfInBounds_toArray, List.set_cons_zero, List.set_cons_succ]
              refine AtT.only (i := 9) (by kernel_rfl) rfl rfl ?_
              intro K hK
              go_simp
              refine hK.out _ _ (by apply Mem.tail; apply Mem.tail; apply Mem.tail; (repeat' (first | with_reducible exact hM | with_reducible exact Mem.undrew hM | with_reducible exact hMp | with_reducible exact Mem.undrew hMp | with_reducible apply Mem.drew | with_reducible apply Mem.drewN | with_reducible apply Mem.alloc | with_reducible apply Mem.set | with_reducible exact Sto.row | exact Sto.row | with_reducible apply Sto.int | with_reducible apply Sto.there | (unfold I64; omega)))) ?_
              clear hK K hS
              have hMp := hM
              apply Mem.atT
              · (repeat' (first | with_reducible exact hM | with_reducible exact Mem.undrew hM | with_reducible exact hMp | with_reducible exact Mem.undrew hMp | with_reducible apply Mem.drew | with_reducible apply Mem.drewN | with_reducible apply Mem.alloc | with_reducible apply Mem.set | with_reducible exact Sto.row | exact Sto.row | with_reducible apply Sto.int | with_reducible apply Sto.there | (unfold I64; omega)))
              clear hM
              intro hM
              (try simp only [World.size_alloc, World.size_setCell, World.heap_drewN, heapDrew, Nat.add_assoc, Nat.reduceAdd, List.setIfInBounds_toArray, List.set_cons_zero, List.set_cons_succ, List.cons_append, List.nil_append] at hM)
              have hS := hM.tail.tail.tail
              refine AtT.only (i := 10) (by kernel_rfl) rfl rfl ?_
              intro K hK
              have kk0 := (hM.row .here).cell
              have ff0 := (hM.row .here).free
              have ll0 := (hM.row .here).lt
              have kk4 := (hM.row (.there (.there (.there (.there .here))))).cell
              have ff4 := (hM.row (.there (.there (.there (.there .here))))).free
              have ll4 := (hM.row (.there (.there (.there (.there .here))))).lt
              have kk6 := (hM.row (.there (.there (.there (.there (.there (.there .here))))))).cell
              have ff6 := (hM.row (.there (.there (.there (.there (.there (.there .here))))))).free
              have ll6 := (hM.row (.there (.there (.there (.there (.there (.there .here))))))).lt
              have kk8 := (hM.row (.there (.there (.there (.there (.there (.there (.there (.there .here))))))))).cell
              have ff8 := (hM.row (.there (.there (.there (.there (.there (.there (.there (.there .here))))))))).free
              have ll8 := (hM.row (.there (.there (.there (.there (.there (.there (.there (.there .here))))))))).lt
              have kk10 := (hM.row (.there (.there (.there (.there (.there (.there (.there (.there (.there (.there .here))))))))))).cell
              have ff10 := (hM.row (.there (.there (.there (.there (.there (.there (.there (.there (.there (.there .here))))))))))).free
              have ll10 := (hM.row (.there (.there (.there (.there (.there (.there (.there (.there (.there (.there .here))))))))))).lt
              have kk11 := (hM.row (.there (.there (.there (.there (.there (.there (.there (.there (.there (.there (.there .here)))))))))))).cell
              have ff11 := (hM.row (.there (.there (.there (.there (.there (.there (.there (.there (.there (.there (.there .here)))))))))))).free
              have ll11 := (hM.row (.there (.there (.there (.there (.there (.there (.there (.there (.there (.there (.there .here)))))))))))).lt
              go_simp
              clear kk0 ff0 ll0 kk4 ff4 ll4 kk6 ff6 ll6 kk8 ff8 ll8 kk10 ff10 ll10 kk11 ff11 ll11
              refine hK.out _ _ (by apply Mem.tail; apply Mem.tail; apply Mem.tail; (repeat' (first | with_reducible exact hM | with_reducible exact Mem.undrew hM | with_reducible exact hMp | with_reducible exact Mem.undrew hMp | with_reducible apply Mem.drew | with_reducible apply Mem.drewN | with_reducible apply Mem.alloc | with_reducible apply Mem.set | with_reducible exact Sto.row | exact Sto.row | with_reducible apply Sto.int | with_reducible apply Sto.there | (unfold I64; omega)))) ?_
              clear hK K hS
              apply Mem.atT
              · (repeat' (first | with_reducible exact hM | with_reducible exact Mem.undrew hM | with_reducible exact hMp | with_reducible exact Mem.undrew hMp | with_reducible apply Mem.drew | with_reducible apply Mem.drewN | with_reducible apply Mem.alloc | with_reducible apply Mem.set | with_reducible exact Sto.row | exact Sto.row | with_reducible apply Sto.int | with_reducible apply Sto.there | (unfold I64; omega)))
              clear hM
              intro hM
              (try simp only [World.size_alloc, World.size_setCell, World.heap_drewN, heapDrew, Nat.add_assoc, Nat.reduceAdd, List.setIfInBounds_toArray, List.set_cons_zero, List.set_cons_succ, List.cons_append, List.nil_append] at hM)
              have hS := hM.tail.tail.tail
              refine AtT.take (i := 11) (v := ?_) rfl (by kernel_rfl) (by kernel_rfl) (by kernel_rfl) (by kernel_rfl) (fun _ _ _ h => h) (Or.inl ⟨by kernel_rfl, ?_⟩) hS ?_
              rotate_left
              · (intro wS hSw; (try dsimp only at hSw); go_simp; try with_reducible rfl)
              simp only [Act.put, List.setIfInBounds_toArray, List.set_cons_zero, List.set_cons_succ]
              refine AtT.last (by kernel_rfl) rfl (by kernel_rfl) ?_
              intro K hK
              clear hS
              have kk0 := (hM.row .here).cell
              have ff0 := (hM.row .here).free
              have ll0 := (hM.row .here).lt
              have kk4 := (hM.row (.there (.there (.there (.there .here))))).cell
              have ff4 := (hM.row (.there (.there (.there (.there .here))))).free
              have ll4 := (hM.row (.there (.there (.there (.there .here))))).lt
              have kk6 := (hM.row (.there (.there (.there (.there (.there (.there .here))))))).cell
              have ff6 := (hM.row (.there (.there (.there (.there (.there (.there .here))))))).free
              have ll6 := (hM.row (.there (.there (.there (.there (.there (.there .here))))))).lt
              have kk8 := (hM.row (.there (.there (.there (.there (.there (.there (.there (.there .here))))))))).cell
              have ff8 := (hM.row (.there (.there (.there (.there (.there (.there (.there (.there .here))))))))).free
              have ll8 := (hM.row (.there (.there (.there (.there (.there (.there (.there (.there .here))))))))).lt
              have kk10 := (hM.row (.there (.there (.there (.there (.there (.there (.there (.there (.there (.there .here))))))))))).cell
              have ff10 := (hM.row (.there (.there (.there (.there (.there (.there (.there (.there (.there (.there .here))))))))))).free
              have ll10 := (hM.row (.there (.there (.there (.there (.there (.there (.there (.there (.there (.there .here))))))))))).lt
              have kk11 := (hM.row (.there (.there (.there (.there (.there (.there (.there (.there (.there (.there (.there .here)))))))))))).cell
              have ff11 := (hM.row (.there (.there (.there (.there (.there (.there (.there (.there (.there (.there (.there .here)))))))))))).free
              have ll11 := (hM.row (.there (.there (.there (.there (.there (.there (.there (.there (.there (.there (.there .here)))))))))))).lt
              go_simp
              clear kk0 ff0 ll0 kk4 ff4 ll4 kk6 ff6 ll6 kk8 ff8 ll8 kk10 ff10 ll10 kk11 ff11 ll11
              refine hK.out _ _ ?_
              clear hK K
              go_wp2_with fail
              go_meet
              refine ⟨_, ah0_2, nh0_2, ch0_2, rfl, rfl, rfl, ?_⟩
              apply Mem.pick (is := [0, 1, 4, 5, 8, 9, 10, 11])
              · (repeat' (first | with_reducible exact hM | with_reducible exact Mem.undrew hM | with_reducible exact hMp | with_reducible exact Mem.undrew hMp | with_reducible apply Mem.drew | with_reducible apply Mem.drewN | with_reducible apply Mem.alloc | with_reducible apply Mem.set | with_reducible exact Sto.row | exact Sto.row | with_reducible apply Sto.int | with_reducible apply Sto.there | (unfold I64; omega)))
              · decide
              · rfl
            · skip
              intro K hK
              go_simp
              refine hK.out _ _ (by apply Mem.tail; apply Mem.tail; (repeat' (first | with_reducible exact hM | with_reducible exact Mem.undrew hM | with_reducible exact hMp | with_reducible exact Mem.undrew hMp | with_reducible apply Mem.drew | with_reducible apply Mem.drewN | with_reducible apply Mem.alloc | with_reducible apply Mem.set | with_reducible exact Sto.row | exact Sto.row | with_reducible apply Sto.int | with_reducible apply Sto.there | (unfold I64; omega)))) ?_
              clear hK K hS
              have hMp := hM
              apply Mem.atT
              · (repeat' (first | with_reducible exact hM | with_reducible exact Mem.undrew hM | with_reducible exact hMp | with_reducible exact Mem.undrew hMp | with_reducible apply Mem.drew | with_reducible apply Mem.drewN | with_reducible apply Mem.alloc | with_reducible apply Mem.set | with_reducible exact Sto.row | exact Sto.row | with_reducible apply Sto.int | with_reducible apply Sto.there | (unfold I64; omega)))
              clear hM
              intro hM
              (try simp only [World.size_alloc, World.size_setCell, World.heap_drewN, heapDrew, Nat.add_assoc, Nat.reduceAdd, List.setIfInBounds_toArray, List.set_cons_zero, List.set_cons_succ, List.cons_append, List.nil_append] at hM)
              have hS := hM.tail.tail
              refine AtT.only (i := 4) (by kernel_rfl) rfl rfl ?_
              intro K hK
              go_simp
              refine (implBlowR_any _ _ _ _ _ xs0_2 _ _ _ _ ((hM.ints (.there .here)).ints) hp0_0 hp0_1 hp1_0 hp1_1 hp1_2).mono ?_
              rw [HQ0.out]
              rintro e w20 ⟨ah0_2, nh0_2, ch0_2, rfl, hO, hb⟩
              replace hM := hM.own hb hO
              clear hb hO
              dsimp only
              refine hK.out _ _ (hM.tail.tail.tail) ?_
              clear hK K hS
              have hS := hM.tail.tail.tail
              refine AtT.take (i := 5) (v := ?_) rfl (by kernel_rfl) (by kernel_rfl) (by kernel_rfl) (by kernel_rfl) (fun _ _ _ h => h) (Or.inl ⟨by kernel_rfl, ?_⟩) hS ?_
              rotate_left
              · (intro wS hSw; (try dsimp only at hSw); go_simp; try with_reducible rfl)
              simp only [Act.put, List.setIfInBounds_toArray, List.set_cons_zero, List.set_cons_succ]
              refine AtT.take (i := 6) (v := ?_) rfl (by kernel_rfl) (by kernel_rfl) (by kernel_rfl) (by kernel_rfl) (fun _ _ _ h => h) (Or.inl ⟨by kernel_rfl, ?_⟩) hS ?_
              rotate_left
              · (intro wS hSw; (try dsimp only at hSw); go_simp; try with_reducible rfl)
              simp only [Act.put, List.setIfInBounds_toArray, List.set_cons_zero, List.set_cons_succ]
              refine AtT.take (i := 7) (v := ?_) rfl (by kernel_rfl) (by kernel_rfl) (by kernel_rfl) (by kernel_rfl) (fun _ _ _ h => h) (Or.inl ⟨by kernel_rfl, ?_⟩) hS ?_
              rotate_left
              · (intro wS hSw; (try dsimp only at hSw); go_simp; try with_reducible rfl)
              simp only [Act.put, List.setIfInBounds_toArray, List.set_cons_zero, List.set_cons_succ]
              refine AtT.take (i := 8) (v := ?_) rfl (by kernel_rfl) (by kernel_rfl) (by kernel_rfl) (by kernel_rfl) (fun _ _ _ h => h) (Or.inl ⟨by kernel_rfl, ?_⟩) hS ?_
              rotate_left
              · (intro wS hSw; (try dsimp only at hSw); go_simp; try with_reducible rfl)
              simp only [Act.put, List.setIfInBounds_toArray, List.set_cons_zero, List.set_cons_succ]
              refine AtT.only (i := 10) (by kernel_rfl) rfl rfl ?_
              intro K hK
              have kk1 := (hM.row (.there .here)).cell
              have ff1 := (hM.row (.there .here)).free
              have ll1 := (hM.row (.there .here)).lt
              have kk4 := (hM.row (.there (.there (.there (.there .here))))).cell
              have ff4 := (hM.row (.there (.there (.there (.there .here))))).free
              have ll4 := (hM.row (.there (.there (.there (.there .here))))).lt
              have kk6 := (hM.row (.there (.there (.there (.there (.there (.there .here))))))).cell
              have ff6 := (hM.row (.there (.there (.there (.there (.there (.there .here))))))).free
              have ll6 := (hM.row (.there (.there (.there (.there (.there (.there .here))))))).lt
              have kk8 := (hM.row (.there (.there (.there (.there (.there (.there (.there (.there .here))))))))).cell
              have ff8 := (hM.row (.there (.there (.there (.there (.there (.there (.there (.there .here))))))))).free
              have ll8 := (hM.row (.there (.there (.there (.there (.there (.there (.there (.there .here))))))))).lt
              have kk10 := (hM.row (.there (.there (.there (.there (.there (.there (.there (.there (.there (.there .here))))))))))).cell
              have ff10 := (hM.row (.there (.there (.there (.there (.there (.there (.there (.there (.there (.there .here))))))))))).free
              have ll10 := (hM.row (.there (.there (.there (.there (.there (.there (.there (.there (.there (.there .here))))))))))).lt
              have kk11 := (hM.row (.there (.there (.there (.there (.there (.there (.there (.there (.there (.there (.there .here)))))))))))).cell
              have ff11 := (hM.row (.there (.there (.there (.there (.there (.there (.there (.there (.there (.there (.there .here)))))))))))).free
              have ll11 := (hM.row (.there (.there (.there (.there (.there (.there (.there (.there (.there (.there (.there .here)))))))))))).lt
              go_simp
              clear kk1 ff1 ll1 kk4 ff4 ll4 kk6 ff6 ll6 kk8 ff8 ll8 kk10 ff10 ll10 kk11 ff11 ll11
              refine hK.out _ _ (by apply Mem.tail; apply Mem.tail; apply Mem.tail; (repeat' (first | with_reducible exact hM | with_reducible exact Mem.undrew hM | with_reducible exact hMp | with_reducible exact Mem.undrew hMp | with_reducible apply Mem.drew | with_reducible apply Mem.drewN | with_reducible apply Mem.alloc | with_reducible apply Mem.set | with_reducible exact Sto.row | exact Sto.row | with_reducible apply Sto.int | with_reducible apply Sto.there | (unfold I64; omega)))) ?_
              clear hK K hS
              apply Mem.atT
              · (repeat' (first | with_reducible exact hM | with_reducible exact Mem.undrew hM | with_reducible exact hMp | with_reducible exact Mem.undrew hMp | with_reducible apply Mem.drew | with_reducible apply Mem.drewN | with_reducible apply Mem.alloc | with_reducible apply Mem.set | with_reducible exact Sto.row | exact Sto.row | with_reducible apply Sto.int | with_reducible apply Sto.there | (unfold I64; omega)))
              clear hM
              intro hM
              (try simp only [World.size_alloc, World.size_setCell, World.heap_drewN, heapDrew, Nat.add_assoc, Nat.reduceAdd, List.setIfInBounds_toArray, List.set_cons_zero, List.set_cons_succ, List.cons_append, List.nil_append] at hM)
              have hS := hM.tail.tail.tail
              refine AtT.take (i := 11) (v := ?_) rfl (by kernel_rfl) (by kernel_rfl) (by kernel_rfl) (by kernel_rfl) (fun _ _ _ h => h) (Or.inl ⟨by kernel_rfl, ?_⟩) hS ?_
              rotate_left
              · (intro wS hSw; (try dsimp only at hSw); go_simp; try with_reducible rfl)
              simp only [Act.put, List.setIfInBounds_toArray, List.set_cons_zero, List.set_cons_succ]
              refine AtT.last (by kernel_rfl) rfl (by kernel_rfl) ?_
              intro K hK
              clear hS
              have kk1 := (hM.row (.there .here)).cell
              have ff1 := (hM.row (.there .here)).free
              have ll1 := (hM.row (.there .here)).lt
              have kk4 := (hM.row (.there (.there (.there (.there .here))))).cell
              have ff4 := (hM.row (.there (.there (.there (.there .here))))).free
              have ll4 := (hM.row (.there (.there (.there (.there .here))))).lt
              have kk6 := (hM.row (.there (.there (.there (.there (.there (.there .here))))))).cell
              have ff6 := (hM.row (.there (.there (.there (.there (.there (.there .here))))))).free
              have ll6 := (hM.row (.there (.there (.there (.there (.there (.there .here))))))).lt
              have kk8 := (hM.row (.there (.there (.there (.there (.there (.there (.there (.there .here))))))))).cell
              have ff8 := (hM.row (.there (.there (.there (.there (.there (.there (.there (.there .here))))))))).free
              have ll8 := (hM.row (.there (.there (.there (.there (.there (.there (.there (.there .here))))))))).lt
              have kk10 := (hM.row (.there (.there (.there (.there (.there (.there (.there (.there (.there (.there .here))))))))))).cell
              have ff10 := (hM.row (.there (.there (.there (.there (.there (.there (.there (.there (.there (.there .here))))))))))).free
              have ll10 := (hM.row (.there (.there (.there (.there (.there (.there (.there (.there (.there (.there .here))))))))))).lt
              have kk11 := (hM.row (.there (.there (.there (.there (.there (.there (.there (.there (.there (.there (.there .here)))))))))))).cell
              have ff11 := (hM.row (.there (.there (.there (.there (.there (.there (.there (.there (.there (.there (.there .here)))))))))))).free
              have ll11 := (hM.row (.there (.there (.there (.there (.there (.there (.there (.there (.there (.there (.there .here)))))))))))).lt
              go_simp
              clear kk1 ff1 ll1 kk4 ff4 ll4 kk6 ff6 ll6 kk8 ff8 ll8 kk10 ff10 ll10 kk11 ff11 ll11
              refine hK.out _ _ ?_
              clear hK K
              go_wp2_with fail
              go_meet
              refine ⟨_, ah0_2, nh0_2, ch0_2, rfl, rfl, rfl, ?_⟩
              apply Mem.pick (is := [1, 0, 4, 5, 8, 9, 10, 11])
              · (repeat' (first | with_reducible exact hM | with_reducible exact Mem.undrew hM | with_reducible exact hMp | with_reducible exact Mem.undrew hMp | with_reducible apply Mem.drew | with_reducible apply Mem.drewN | with_reducible apply Mem.alloc | with_reducible apply Mem.set | with_reducible exact Sto.row | exact Sto.row | with_reducible apply Sto.int | with_reducible apply Sto.there | (unfold I64; omega)))
              · decide
              · rfl
          · skip
            intro K hK
            go_simp
            refine hK.out _ _ (by apply Mem.tail; apply Mem.tail; (repeat' (first | with_reducible exact hM | with_reducible exact Mem.undrew hM | with_reducible exact hMp | with_reducible exact Mem.undrew hMp | with_reducible apply Mem.drew | with_reducible apply Mem.drewN | with_reducible apply Mem.alloc | with_reducible apply Mem.set | with_reducible exact Sto.row | exact Sto.row | with_reducible apply Sto.int | with_reducible apply Sto.there | (unfold I64; omega)))) ?_
            clear hK K hS
            have hMp := hM
            apply Mem.atT
            · (repeat' (first | with_reducible exact hM | with_reducible exact Mem.undrew hM | with_reducible exact hMp | with_reducible exact Mem.undrew hMp | with_reducible apply Mem.drew | with_reducible apply Mem.drewN | with_reducible apply Mem.alloc | with_reducible apply Mem.set | with_reducible exact Sto.row | exact Sto.row | with_reducible apply Sto.int | with_reducible apply Sto.there | (unfold I64; omega)))
            clear hM
            intro hM
            (try simp only [World.size_alloc, World.size_setCell, World.heap_drewN, heapDrew, Nat.add_assoc, Nat.reduceAdd, List.setIfInBounds_toArray, List.set_cons_zero, List.set_cons_succ, List.cons_append, List.nil_append] at hM)
            have hS := hM.tail.tail
            refine AtT.only (i := 3) (by kernel_rfl) rfl rfl ?_
            intro K hK
            go_simp
            refine (toWind_any _ _ _ _ ).mono ?_
            rintro e w19 ⟨rfl, hb⟩
            replace hM := hM.ext hb
            clear hb
            dsimp only
            refine hK.out _ _ (hM.tail.tail) ?_
            clear hK K hS
            have hS := hM.tail.tail
            refine AtT.only (i := 4) (by kernel_rfl) rfl rfl ?_
            intro K hK
            go_simp
            refine (implBlowR_any _ _ _ _ _ xs0_2 _ _ _ _ ((hM.ints (.there .here)).ints) hp0_0 hp0_1 hp1_0 hp1_1 hp1_2).mono ?_
            rw [HQ0.out]
            rintro e w20 ⟨ah0_2, nh0_2, ch0_2, rfl, hO, hb⟩
            replace hM := hM.own hb hO
            clear hb hO
            dsimp only
            refine hK.out _ _ (hM.tail.tail.tail) ?_
            clear hK K hS
            have hS := hM.tail.tail.tail
            refine AtT.take (i := 5) (v := ?_) rfl (by kernel_rfl) (by kernel_rfl) (by kernel_rfl) (by kernel_rfl) (fun _ _ _ h => h) (Or.inl ⟨by kernel_rfl, ?_⟩) hS ?_
            rotate_left
            · (intro wS hSw; (try dsimp only at hSw); go_simp; try with_reducible rfl)
            simp only [Act.put, List.setIfInBounds_toArray, List.set_cons_zero, List.set_cons_succ]
            refine AtT.take (i := 6) (v := ?_) rfl (by kernel_rfl) (by kernel_rfl) (by kernel_rfl) (by kernel_rfl) (fun _ _ _ h => h) (Or.inl ⟨by kernel_rfl, ?_⟩) hS ?_
            rotate_left
            · (intro wS hSw; (try dsimp only at hSw); go_simp; try with_reducible rfl)
            simp only [Act.put, List.setIfInBounds_toArray, List.set_cons_zero, List.set_cons_succ]
            refine AtT.take (i := 7) (v := ?_) rfl (by kernel_rfl) (by kernel_rfl) (by kernel_rfl) (by kernel_rfl) (fun _ _ _ h => h) (Or.inl ⟨by kernel_rfl, ?_⟩) hS ?_
            rotate_left
            · (intro wS hSw; (try dsimp only at hSw); go_simp; try with_reducible rfl)
            simp only [Act.put, List.setIfInBounds_toArray, List.set_cons_zero, List.set_cons_succ]
            refine AtT.take (i := 8) (v := ?_) rfl (by kernel_rfl) (by kernel_rfl) (by kernel_rfl) (by kernel_rfl) (fun _ _ _ h => h) (Or.inl ⟨by kernel_rfl, ?_⟩) hS ?_
            rotate_left
            · (intro wS hSw; (try dsimp only at hSw); go_simp; try with_reducible rfl)
            simp only [Act.put, List.setIfInBounds_toArray, List.set_cons_zero, List.set_cons_succ]
            refine AtT.only (i := 10) (by kernel_rfl) rfl rfl ?_
            intro K hK
            have kk1 := (hM.row (.there .here)).cell
            have ff1 := (hM.row (.there .here)).free
            have ll1 := (hM.row (.there .here)).lt
            have kk4 := (hM.row (.there (.there (.there (.there .here))))).cell
            have ff4 := (hM.row (.there (.there (.there (.there .here))))).free
            have ll4 := (hM.row (.there (.there (.there (.there .here))))).lt
            have kk6 := (hM.row (.there (.there (.there (.there (.there (.there .here))))))).cell
            have ff6 := (hM.row (.there (.there (.there (.there (.there (.there .here))))))).free
            have ll6 := (hM.row (.there (.there (.there (.there (.there (.there .here))))))).lt
            have kk8 := (hM.row (.there (.there (.there (.there (.there (.there (.there (.there .here))))))))).cell
            have ff8 := (hM.row (.there (.there (.there (.there (.there (.there (.there (.there .here))))))))).free
            have ll8 := (hM.row (.there (.there (.there (.there (.there (.there (.there (.there .here))))))))).lt
            have kk10 := (hM.row (.there (.there (.there (.there (.there (.there (.there (.there (.there (.there .here))))))))))).cell
            have ff10 := (hM.row (.there (.there (.there (.there (.there (.there (.there (.there (.there (.there .here))))))))))).free
            have ll10 := (hM.row (.there (.there (.there (.there (.there (.there (.there (.there (.there (.there .here))))))))))).lt
            have kk11 := (hM.row (.there (.there (.there (.there (.there (.there (.there (.there (.there (.there (.there .here)))))))))))).cell
            have ff11 := (hM.row (.there (.there (.there (.there (.there (.there (.there (.there (.there (.there (.there .here)))))))))))).free
            have ll11 := (hM.row (.there (.there (.there (.there (.there (.there (.there (.there (.there (.there (.there .here)))))))))))).lt
            go_simp
            clear kk1 ff1 ll1 kk4 ff4 ll4 kk6 ff6 ll6 kk8 ff8 ll8 kk10 ff10 ll10 kk11 ff11 ll11
            refine hK.out _ _ (by apply Mem.tail; apply Mem.tail; apply Mem.tail; (repeat' (first | with_reducible exact hM | with_reducible exact Mem.undrew hM | with_reducible exact hMp | with_reducible exact Mem.undrew hMp | with_reducible apply Mem.drew | with_reducible apply Mem.drewN | with_reducible apply Mem.alloc | with_reducible apply Mem.set | with_reducible exact Sto.row | exact Sto.row | with_reducible apply Sto.int | with_reducible apply Sto.there | (unfold I64; omega)))) ?_
            clear hK K hS
            apply Mem.atT
            · (repeat' (first | with_reducible exact hM | with_reducible exact Mem.undrew hM | with_reducible exact hMp | with_reducible exact Mem.undrew hMp | with_reducible apply Mem.drew | with_reducible apply Mem.drewN | with_reducible apply Mem.alloc | with_reducible apply Mem.set | with_reducible exact Sto.row | exact Sto.row | with_reducible apply Sto.int | with_reducible apply Sto.there | (unfold I64; omega)))
            clear hM
            intro hM
            (try simp only [World.size_alloc, World.size_setCell, World.heap_drewN, heapDrew, Nat.add_assoc, Nat.reduceAdd, List.setIfInBounds_toArray, List.set_cons_zero, List.set_cons_succ, List.cons_append, List.nil_append] at hM)
            have hS := hM.tail.tail.tail
            refine AtT.take (i := 11) (v := ?_) rfl (by kernel_rfl) (by kernel_rfl) (by kernel_rfl) (by kernel_rfl) (fun _ _ _ h => h) (Or.inl ⟨by kernel_rfl, ?_⟩) hS ?_
            rotate_left
            · (intro wS hSw; (try dsimp only at hSw); go_simp; try with_reducible rfl)
            simp only [Act.put, List.setIfInBounds_toArray, List.set_cons_zero, List.set_cons_succ]
            refine AtT.last (by kernel_rfl) rfl (by kernel_rfl) ?_
            intro K hK
            clear hS
            have kk1 := (hM.row (.there .here)).cell
            have ff1 := (hM.row (.there .here)).free
            have ll1 := (hM.row (.there .here)).lt
            have kk4 := (hM.row (.there (.there (.there (.there .here))))).cell
            have ff4 := (hM.row (.there (.there (.there (.there .here))))).free
            have ll4 := (hM.row (.there (.there (.there (.there .here))))).lt
            have kk6 := (hM.row (.there (.there (.there (.there (.there (.there .here))))))).cell
            have ff6 := (hM.row (.there (.there (.there (.there (.there (.there .here))))))).free
            have ll6 := (hM.row (.there (.there (.there (.there (.there (.there .here))))))).lt
            have kk8 := (hM.row (.there (.there (.there (.there (.there (.there (.there (.there .here))))))))).cell
            have ff8 := (hM.row (.there (.there (.there (.there (.there (.there (.there (.there .here))))))))).free
            have ll8 := (hM.row (.there (.there (.there (.there (.there (.there (.there (.there .here))))))))).lt
            have kk10 := (hM.row (.there (.there (.there (.there (.there (.there (.there (.there (.there (.there .here))))))))))).cell
            have ff10 := (hM.row (.there (.there (.there (.there (.there (.there (.there (.there (.there (.there .here))))))))))).free
            have ll10 := (hM.row (.there (.there (.there (.there (.there (.there (.there (.there (.there (.there .here))))))))))).lt
            have kk11 := (hM.row (.there (.there (.there (.there (.there (.there (.there (.there (.there (.there (.there .here)))))))))))).cell
            have ff11 := (hM.row (.there (.there (.there (.there (.there (.there (.there (.there (.there (.there (.there .here)))))))))))).free
            have ll11 := (hM.row (.there (.there (.there (.there (.there (.there (.there (.there (.there (.there (.there .here)))))))))))).lt
            go_simp
            clear kk1 ff1 ll1 kk4 ff4 ll4 kk6 ff6 ll6 kk8 ff8 ll8 kk10 ff10 ll10 kk11 ff11 ll11
            refine hK.out _ _ ?_
            clear hK K
            go_wp2_with fail
            go_meet
            refine ⟨_, ah0_2, nh0_2, ch0_2, rfl, rfl, rfl, ?_⟩
            apply Mem.pick (is := [1, 0, 4, 5, 8, 9, 10, 11])
            · (repeat' (first | with_reducible exact hM | with_reducible exact Mem.undrew hM | with_reducible exact hMp | with_reducible exact Mem.undrew hMp | with_reducible apply Mem.drew | with_reducible apply Mem.drewN | with_reducible apply Mem.alloc | with_reducible apply Mem.set | with_reducible exact Sto.row | exact Sto.row | with_reducible apply Sto.int | with_reducible apply Sto.there | (unfold I64; omega)))
            · decide
            · rfl
        · skip
          intro K hK
          go_simp
          refine hK.out _ _ (by apply Mem.tail; (repeat' (first | with_reducible exact hM | with_reducible exact Mem.undrew hM | with_reducible exact hMp | with_reducible exact Mem.undrew hMp | with_reducible apply Mem.drew | with_reducible apply Mem.drewN | with_reducible apply Mem.alloc | with_reducible apply Mem.set | with_reducible exact Sto.row | exact Sto.row | with_reducible apply Sto.int | with_reducible apply Sto.there | (unfold I64; omega)))) ?_
          clear hK K hS
          have hMp := hM
          apply Mem.atT
          · (repeat' (first | with_reducible exact hM | with_reducible exact Mem.undrew hM | with_reducible exact hMp | with_reducible exact Mem.undrew hMp | with_reducible apply Mem.drew | with_reducible apply Mem.drewN | with_reducible apply Mem.alloc | with_reducible apply Mem.set | with_reducible exact Sto.row | exact Sto.row | with_reducible apply Sto.int | with_reducible apply Sto.there | (unfold I64; omega)))
          clear hM
          intro hM
          (try simp only [World.size_alloc, World.size_setCell, World.heap_drewN, heapDrew, Nat.add_assoc, Nat.reduceAdd, List.setIfInBounds_toArray, List.set_cons_zero, List.set_cons_succ, List.cons_append, List.nil_append] at hM)
          have hS := hM.tail
          refine AtT.only (i := 1) (by kernel_rfl) rfl rfl ?_
          intro K hK
          go_simp
          refine (toSmoke_any _ _ _ _ _ xs0_2 _ (I0_2.ext hM.below)).mono ?_
          rintro e w18 ⟨bh0t_2, dh0t_2, rfl, hO, hb⟩
          replace hM := hM.own hb hO
          clear hb hO
          dsimp only
          refine hK.out _ _ (hM.tail.tail) ?_
          clear hK K hS
          have hS := hM.tail.tail
          refine AtT.only (i := 3) (by kernel_rfl) rfl rfl ?_
          intro K hK
          go_simp
          refine (toWind_any _ _ _ _ ).mono ?_
          rintro e w19 ⟨rfl, hb⟩
          replace hM := hM.ext hb
          clear hb
          dsimp only
          refine hK.out _ _ (hM.tail.tail) ?_
          clear hK K hS
          have hS := hM.tail.tail
          refine AtT.only (i := 4) (by kernel_rfl) rfl rfl ?_
          intro K hK
          go_simp
          refine (implBlowR_any _ _ _ _ _ xs0_2 _ _ _ _ ((hM.ints .here).ints) hp0_0 hp0_1 hp1_0 hp1_1 hp1_2).mono ?_
          rw [HQ0.out]
          rintro e w20 ⟨ah0_2, nh0_2, ch0_2, rfl, hO, hb⟩
          replace hM := hM.own hb hO
          clear hb hO
          dsimp only
          refine hK.out _ _ (hM.tail.tail.tail) ?_
          clear hK K hS
          have hS := hM.tail.tail.tail
          refine AtT.take (i := 5) (v := ?_) rfl (by kernel_rfl) (by kernel_rfl) (by kernel_rfl) (by kernel_rfl) (fun _ _ _ h => h) (Or.inl ⟨by kernel_rfl, ?_⟩) hS ?_
          rotate_left
          · (intro wS hSw; (try dsimp only at hSw); go_simp; try with_reducible rfl)
          simp only [Act.put, List.setIfInBounds_toArray, List.set_cons_zero, List.set_cons_succ]
          refine AtT.take (i := 6) (v := ?_) rfl (by kernel_rfl) (by kernel_rfl) (by kernel_rfl) (by kernel_rfl) (fun _ _ _ h => h) (Or.inl ⟨by kernel_rfl, ?_⟩) hS ?_
          rotate_left
          · (intro wS hSw; (try dsimp only at hSw); go_simp; try with_reducible rfl)
          simp only [Act.put, List.setIfInBounds_toArray, List.set_cons_zero, List.set_cons_succ]
          refine AtT.take (i := 7) (v := ?_) rfl (by kernel_rfl) (by kernel_rfl) (by kernel_rfl) (by kernel_rfl) (fun _ _ _ h => h) (Or.inl ⟨by kernel_rfl, ?_⟩) hS ?_
          rotate_left
          · (intro wS hSw; (try dsimp only at hSw); go_simp; try with_reducible rfl)
          simp only [Act.put, List.setIfInBounds_toArray, List.set_cons_zero, List.set_cons_succ]
          refine AtT.take (i := 8) (v := ?_) rfl (by kernel_rfl) (by kernel_rfl) (by kernel_rfl) (by kernel_rfl) (fun _ _ _ h => h) (Or.inl ⟨by kernel_rfl, ?_⟩) hS ?_
          rotate_left
          · (intro wS hSw; (try dsimp only at hSw); go_simp; try with_reducible rfl)
          simp only [Act.put, List.setIfInBounds_toArray, List.set_cons_zero, List.set_cons_succ]
          refine AtT.only (i := 10) (by kernel_rfl) rfl rfl ?_
          intro K hK
          have kk2 := (hM.row (.there (.there .here))).cell
          have ff2 := (hM.row (.there (.there .here))).free
          have ll2 := (hM.row (.there (.there .here))).lt
          have kk4 := (hM.row (.there (.there (.there (.there .here))))).cell
          have ff4 := (hM.row (.there (.there (.there (.there .here))))).free
          have ll4 := (hM.row (.there (.there (.there (.there .here))))).lt
          have kk6 := (hM.row (.there (.there (.there (.there (.there (.there .here))))))).cell
          have ff6 := (hM.row (.there (.there (.there (.there (.there (.there .here))))))).free
          have ll6 := (hM.row (.there (.there (.there (.there (.there (.there .here))))))).lt
          have kk8 := (hM.row (.there (.there (.there (.there (.there (.there (.there (.there .here))))))))).cell
          have ff8 := (hM.row (.there (.there (.there (.there (.there (.there (.there (.there .here))))))))).free
          have ll8 := (hM.row (.there (.there (.there (.there (.there (.there (.there (.there .here))))))))).lt
          have kk10 := (hM.row (.there (.there (.there (.there (.there (.there (.there (.there (.there (.there .here))))))))))).cell
          have ff10 := (hM.row (.there (.there (.there (.there (.there (.there (.there (.there (.there (.there .here))))))))))).free
          have ll10 := (hM.row (.there (.there (.there (.there (.there (.there (.there (.there (.there (.there .here))))))))))).lt
          have kk11 := (hM.row (.there (.there (.there (.there (.there (.there (.there (.there (.there (.there (.there .here)))))))))))).cell
          have ff11 := (hM.row (.there (.there (.there (.there (.there (.there (.there (.there (.there (.there (.there .here)))))))))))).free
          have ll11 := (hM.row (.there (.there (.there (.there (.there (.there (.there (.there (.there (.there (.there .here)))))))))))).lt
          go_simp
          clear kk2 ff2 ll2 kk4 ff4 ll4 kk6 ff6 ll6 kk8 ff8 ll8 kk10 ff10 ll10 kk11 ff11 ll11
          refine hK.out _ _ (by apply Mem.tail; apply Mem.tail; apply Mem.tail; (repeat' (first | with_reducible exact hM | with_reducible exact Mem.undrew hM | with_reducible exact hMp | with_reducible exact Mem.undrew hMp | with_reducible apply Mem.drew | with_reducible apply Mem.drewN | with_reducible apply Mem.alloc | with_reducible apply Mem.set | with_reducible exact Sto.row | exact Sto.row | with_reducible apply Sto.int | with_reducible apply Sto.there | (unfold I64; omega)))) ?_
          clear hK K hS
          apply Mem.atT
          · (repeat' (first | with_reducible exact hM | with_reducible exact Mem.undrew hM | with_reducible exact hMp | with_reducible exact Mem.undrew hMp | with_reducible apply Mem.drew | with_reducible apply Mem.drewN | with_reducible apply Mem.alloc | with_reducible apply Mem.set | with_reducible exact Sto.row | exact Sto.row | with_reducible apply Sto.int | with_reducible apply Sto.there | (unfold I64; omega)))
          clear hM
          intro hM
          (try simp only [World.size_alloc, World.size_setCell, World.heap_drewN, heapDrew, Nat.add_assoc, Nat.reduceAdd, List.setIfInBounds_toArray, List.set_cons_zero, List.set_cons_succ, List.cons_append, List.nil_append] at hM)
          have hS := hM.tail.tail.tail
          refine AtT.take (i := 11) (v := ?_) rfl (by kernel_rfl) (by kernel_rfl) (by kernel_rfl) (by kernel_rfl) (fun _ _ _ h => h) (Or.inl ⟨by kernel_rfl, ?_⟩) hS ?_
          rotate_left
          · (intro wS hSw; (try dsimp only at hSw); go_simp; try with_reducible rfl)
          simp only [Act.put, List.setIfInBounds_toArray, List.set_cons_zero, List.set_cons_succ]
          refine AtT.last (by kernel_rfl) rfl (by kernel_rfl) ?_
          intro K hK
          clear hS
          have kk2 := (hM.row (.there (.there .here))).cell
          have ff2 := (hM.row (.there (.there .here))).free
          have ll2 := (hM.row (.there (.there .here))).lt
          have kk4 := (hM.row (.there (.there (.there (.there .here))))).cell
          have ff4 := (hM.row (.there (.there (.there (.there .here))))).free
          have ll4 := (hM.row (.there (.there (.there (.there .here))))).lt
          have kk6 := (hM.row (.there (.there (.there (.there (.there (.there .here))))))).cell
          have ff6 := (hM.row (.there (.there (.there (.there (.there (.there .here))))))).free
          have ll6 := (hM.row (.there (.there (.there (.there (.there (.there .here))))))).lt
          have kk8 := (hM.row (.there (.there (.there (.there (.there (.there (.there (.there .here))))))))).cell
          have ff8 := (hM.row (.there (.there (.there (.there (.there (.there (.there (.there .here))))))))).free
          have ll8 := (hM.row (.there (.there (.there (.there (.there (.there (.there (.there .here))))))))).lt
          have kk10 := (hM.row (.there (.there (.there (.there (.there (.there (.there (.there (.there (.there .here))))))))))).cell
          have ff10 := (hM.row (.there (.there (.there (.there (.there (.there (.there (.there (.there (.there .here))))))))))).free
          have ll10 := (hM.row (.there (.there (.there (.there (.there (.there (.there (.there (.there (.there .here))))))))))).lt
          have kk11 := (hM.row (.there (.there (.there (.there (.there (.there (.there (.there (.there (.there (.there .here)))))))))))).cell
          have ff11 := (hM.row (.there (.there (.there (.there (.there (.there (.there (.there (.there (.there (.there .here)))))))))))).free
          have ll11 := (hM.row (.there (.there (.there (.there (.there (.there (.there (.there (.there (.there (.there .here)))))))))))).lt
          go_simp
          clear kk2 ff2 ll2 kk4 ff4 ll4 kk6 ff6 ll6 kk8 ff8 ll8 kk10 ff10 ll10 kk11 ff11 ll11
          refine hK.out _ _ ?_
          clear hK K
          go_wp2_with fail
          go_meet
          refine ⟨_, ah0_2, nh0_2, ch0_2, rfl, rfl, rfl, ?_⟩
          apply Mem.pick (is := [2, 0, 4, 5, 8, 9, 10, 11])
          · (repeat' (first | with_reducible exact hM | with_reducible exact Mem.undrew hM | with_reducible exact hMp | with_reducible exact Mem.undrew hMp | with_reducible apply Mem.drew | with_reducible apply Mem.drewN | with_reducible apply Mem.alloc | with_reducible apply Mem.set | with_reducible exact Sto.row | exact Sto.row | with_reducible apply Sto.int | with_reducible apply Sto.there | (unfold I64; omega)))
          · decide
          · rfl
      case rest =>
        clear hM
        obtain ⟨bbh0, ah0_2, nh0_2, ch0_2, rfl, rfl, rfl, hM⟩ := hcut
        obtain ⟨k0, f0, l0⟩ := hM.row .here
        obtain ⟨k4, f4, l4⟩ := hM.row (.there (.there (.there (.there .here))))
        go_wp2_with fail
        clear k0 f0 l0 k4 f4 l4
        apply Mem.at
        · (repeat' (first | with_reducible exact hM | with_reducible exact Mem.undrew hM | with_reducible exact hMp | with_reducible exact Mem.undrew hMp | with_reducible apply Mem.drew | with_reducible apply Mem.drewN | with_reducible apply Mem.alloc | with_reducible apply Mem.set | with_reducible exact Sto.row | exact Sto.row | with_reducible apply Sto.int | with_reducible apply Sto.there | (unfold I64; omega)))
        clear hM
        intro hM
        (try simp only [World.size_alloc, World.size_setCell, World.heap_drewN, heapDrew, Nat.add_assoc, Nat.reduceAdd, List.setIfInBounds_toArray, List.set_cons_zero, List.set_cons_succ, List.cons_append, List.nil_append] at hM)
        refine (eqSmoke_any _ _ _ _ _ zs0_2 _ _ _ _ _ zs0_2 _ ((hM.ints (.there .here)).ints) ((hM.ints (.there (.there (.there (.there (.there .here)))))).ints)).mono ?_
        rw [eqG_refl]
        rintro e w21 ⟨rfl, hb⟩
        replace hM := hM.ext hb
        clear hb
        obtain ⟨k2, f2, l2⟩ := hM.row (.there (.there .here))
        go_wp2_with fail
        clear k2 f2 l2
        apply Mem.at
        · (repeat' (first | with_reducible exact hM | with_reducible exact Mem.undrew hM | with_reducible exact hMp | with_reducible exact Mem.undrew hMp | with_reducible apply Mem.drew | with_reducible apply Mem.drewN | with_reducible apply Mem.alloc | with_reducible apply Mem.set | with_reducible exact Sto.row | exact Sto.row | with_reducible apply Sto.int | with_reducible apply Sto.there | (unfold I64; omega)))
        clear hM
        intro hM
        (try simp only [World.size_alloc, World.size_setCell, World.heap_drewN, heapDrew, Nat.add_assoc, Nat.reduceAdd, List.setIfInBounds_toArray, List.set_cons_zero, List.set_cons_succ, List.cons_append, List.nil_append] at hM)
        have hmm22 := (hM.ints (.there (.there (.there .here)))).room
        refine (heldSmoke_any _ _ _ _ _ _ 1 _ ((hM.ints (.there (.there (.there .here)))).ints) (by omega)).mono ?_
        rw [heldF_fromI]
        rintro e w22 ⟨rfl, hb⟩
        replace hM := hM.ext hb
        clear hb
        have hmn22 : ((1 + (ng0_2 : Int)) != 1 + ng0_2) = false := by simp
        go_wp2
        go_ret
        exact ⟨rfl, (by apply Mem.below; (repeat' (first | with_reducible exact hM | with_reducible exact Mem.undrew hM | with_reducible exact hMp | with_reducible exact Mem.undrew hMp | with_reducible apply Mem.drew | with_reducible apply Mem.drewN | with_reducible apply Mem.alloc | with_reducible apply Mem.set | with_reducible exact Sto.row | exact Sto.row | with_reducible apply Sto.int | with_reducible apply Sto.there | (unfold I64; omega))))⟩
end Go.Proofs.Ytaaegejihgpfeaa
